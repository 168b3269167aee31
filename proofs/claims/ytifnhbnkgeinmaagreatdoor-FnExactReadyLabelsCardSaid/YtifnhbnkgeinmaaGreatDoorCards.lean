/-
  DERIVED. GIVEN WITH THE SEED: THE CARDS: each row of YtifnhbnkgeinmaaGreatDoorRows.lean that lists a variable, with what it lists TIED to the program's text (the seventh form; the later family's looks); each row that meets fmt, with fmt's text TOLD by the authors' own Lean function (tested against real Go, not proved from fmt's source: count such statements apart). THE CARD IS WHAT COUNTS. Prove the row's statement (the work); the ties are given (YtifnhbnkgeinmaaGreatDoorTie.lean); close each card by the builder's one call (the guide's Derived/Test/ToyasCard.lean, 'card_holds'). Laid BY PROGRAM, IN A SANDBOX (cutbox-door.mjs). By AI agents, Wed Nov 11 2026. No macro, syntax, notation, axiom, sorry.
-/
import Derived.Test.YtifnhbnkgeinmaaGreatDoorRows
import GoSem.ClaimSeven
namespace Go.Proofs.YtifnhbnkgeinmaaGreatDoor
namespace Rows

/-- THE TIED CARD OF 'laws.FnExactAfterTrace'. -/
def fnExactAfterTraceCard : Claim7 := { stood := { row := fnExactAfterTraceRow, standIns := [], harness := (true, "c2dd1b5df05a7655b1a043e26d7b5a33f6b87dc11091c5216594d112e5f773a4"), looks := true }, kinds := [], alts := [], laidByText := true, laidKinds := [.data, .data, .data, .data, .sentinel, .sentinel, .pinned], laidTests := true, laidLooks := .later }
def FnExactAfterTraceCardSaid : Prop := Claim7.holds Tryz.pinned (.plain (OpenSpec.ofChange fnExactAfterTraceSpec)) fnExactAfterTraceCard

/-- THE TIED CARD OF 'laws.FnExactReplayLabels'. -/
def fnExactReplayLabelsCard : Claim7 := { stood := { row := fnExactReplayLabelsRow, standIns := [], harness := (true, "c2dd1b5df05a7655b1a043e26d7b5a33f6b87dc11091c5216594d112e5f773a4"), looks := true }, kinds := [], alts := [], laidByText := true, laidKinds := [.data, .data, .data, .data, .sentinel, .sentinel, .pinned], laidTests := true, laidLooks := .later }
def FnExactReplayLabelsCardSaid : Prop := Claim7.holds Tryz.pinned (.plain (OpenSpec.ofChange fnExactReplayLabelsSpec)) fnExactReplayLabelsCard

/-- THE TIED CARD OF 'laws.FnExactReadyLabels'. -/
def fnExactReadyLabelsCard : Claim7 := { stood := { row := fnExactReadyLabelsRow, standIns := [], harness := (true, "c2dd1b5df05a7655b1a043e26d7b5a33f6b87dc11091c5216594d112e5f773a4"), looks := true }, kinds := [], alts := [], laidByText := true, laidKinds := [.data, .data, .data, .data, .sentinel, .sentinel, .pinned], laidTests := true, laidLooks := .later }
def FnExactReadyLabelsCardSaid : Prop := Claim7.holds Tryz.pinned (.plain (OpenSpec.ofChange fnExactReadyLabelsSpec)) fnExactReadyLabelsCard

/-- THE SECOND FORM's CARD OF 'laws.FnExactAfterTrace'. -/
def fnExactAfterTraceUptoCard : Claim7 := { stood := { row := fnExactAfterTraceUptoRow, standIns := [], harness := (true, "c2dd1b5df05a7655b1a043e26d7b5a33f6b87dc11091c5216594d112e5f773a4"), looks := true }, kinds := [], alts := [], laidByText := true, laidKinds := [.data, .data, .data, .data, .sentinel, .sentinel, .pinned], laidTests := true, laidLooks := .later }
def FnExactAfterTraceUptoCardSaid : Prop := Claim7.holds Tryz.pinned (.plain (OpenSpec.upto fnExactAfterTraceSpec)) fnExactAfterTraceUptoCard

/-- THE SECOND FORM's CARD OF 'laws.FnExactReplayLabels'. -/
def fnExactReplayLabelsUptoCard : Claim7 := { stood := { row := fnExactReplayLabelsUptoRow, standIns := [], harness := (true, "c2dd1b5df05a7655b1a043e26d7b5a33f6b87dc11091c5216594d112e5f773a4"), looks := true }, kinds := [], alts := [], laidByText := true, laidKinds := [.data, .data, .data, .data, .sentinel, .sentinel, .pinned], laidTests := true, laidLooks := .later }
def FnExactReplayLabelsUptoCardSaid : Prop := Claim7.holds Tryz.pinned (.plain (OpenSpec.upto fnExactReplayLabelsSpec)) fnExactReplayLabelsUptoCard

/-- THE SECOND FORM's CARD OF 'laws.FnExactReadyLabels'. -/
def fnExactReadyLabelsUptoCard : Claim7 := { stood := { row := fnExactReadyLabelsUptoRow, standIns := [], harness := (true, "c2dd1b5df05a7655b1a043e26d7b5a33f6b87dc11091c5216594d112e5f773a4"), looks := true }, kinds := [], alts := [], laidByText := true, laidKinds := [.data, .data, .data, .data, .sentinel, .sentinel, .pinned], laidTests := true, laidLooks := .later }
def FnExactReadyLabelsUptoCardSaid : Prop := Claim7.holds Tryz.pinned (.plain (OpenSpec.upto fnExactReadyLabelsSpec)) fnExactReadyLabelsUptoCard
end Rows
end Go.Proofs.YtifnhbnkgeinmaaGreatDoor
