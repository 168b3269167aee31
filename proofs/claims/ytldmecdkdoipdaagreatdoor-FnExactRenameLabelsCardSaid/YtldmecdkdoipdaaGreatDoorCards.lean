/-
  DERIVED. GIVEN WITH THE SEED: THE CARDS: each row of YtldmecdkdoipdaaGreatDoorRows.lean that lists a variable, with what it lists TIED to the program's text (the seventh form; the later family's looks); each row that meets fmt, with fmt's text TOLD by the authors' own Lean function (tested against real Go, not proved from fmt's source: count such statements apart). THE CARD IS WHAT COUNTS. Prove the row's statement (the work); the ties are given (YtldmecdkdoipdaaGreatDoorTie.lean); close each card by the builder's one call (the guide's Derived/Test/ToyasCard.lean, 'card_holds'). Laid BY PROGRAM, IN A SANDBOX (cutbox-door.mjs). By AI agents, Wed Nov 11 2026. No macro, syntax, notation, axiom, sorry.
-/
import Derived.Test.YtldmecdkdoipdaaGreatDoorRows
import GoSem.ClaimSeven
namespace Go.Proofs.YtldmecdkdoipdaaGreatDoor
namespace Rows

/-- THE TIED CARD OF 'laws.FnExactSeparationDepth'. -/
def fnExactSeparationDepthCard : Claim7 := { stood := { row := fnExactSeparationDepthRow, standIns := [], harness := (true, "2445c3471ab9fada04a7bba1dda201aaccd41104fce8e3d741f2d3f41a5d4fa4"), looks := true }, kinds := [], alts := [], laidByText := true, laidKinds := [.data, .data, .data, .data, .sentinel, .sentinel, .pinned], laidTests := true, laidLooks := .later }
def FnExactSeparationDepthCardSaid : Prop := Claim7.holds Tryz.pinned (.plain (OpenSpec.ofChange fnExactSeparationDepthSpec)) fnExactSeparationDepthCard

/-- THE TIED CARD OF 'laws.FnExactUsedLabels'. -/
def fnExactUsedLabelsCard : Claim7 := { stood := { row := fnExactUsedLabelsRow, standIns := [], harness := (true, "2445c3471ab9fada04a7bba1dda201aaccd41104fce8e3d741f2d3f41a5d4fa4"), looks := true }, kinds := [], alts := [], laidByText := true, laidKinds := [.data, .data, .data, .data, .sentinel, .sentinel, .pinned], laidTests := true, laidLooks := .later }
def FnExactUsedLabelsCardSaid : Prop := Claim7.holds Tryz.pinned (.plain (OpenSpec.ofChange fnExactUsedLabelsSpec)) fnExactUsedLabelsCard

/-- THE TIED CARD OF 'laws.FnExactRenameLabels'. -/
def fnExactRenameLabelsCard : Claim7 := { stood := { row := fnExactRenameLabelsRow, standIns := [], harness := (true, "2445c3471ab9fada04a7bba1dda201aaccd41104fce8e3d741f2d3f41a5d4fa4"), looks := true }, kinds := [], alts := [], laidByText := true, laidKinds := [.data, .data, .data, .data, .sentinel, .sentinel, .pinned], laidTests := true, laidLooks := .later }
def FnExactRenameLabelsCardSaid : Prop := Claim7.holds Tryz.pinned (.plain (OpenSpec.ofChange fnExactRenameLabelsSpec)) fnExactRenameLabelsCard

/-- THE SECOND FORM's CARD OF 'laws.FnExactSeparationDepth'. -/
def fnExactSeparationDepthUptoCard : Claim7 := { stood := { row := fnExactSeparationDepthUptoRow, standIns := [], harness := (true, "2445c3471ab9fada04a7bba1dda201aaccd41104fce8e3d741f2d3f41a5d4fa4"), looks := true }, kinds := [], alts := [], laidByText := true, laidKinds := [.data, .data, .data, .data, .sentinel, .sentinel, .pinned], laidTests := true, laidLooks := .later }
def FnExactSeparationDepthUptoCardSaid : Prop := Claim7.holds Tryz.pinned (.plain (OpenSpec.upto fnExactSeparationDepthSpec)) fnExactSeparationDepthUptoCard

/-- THE SECOND FORM's CARD OF 'laws.FnExactUsedLabels'. -/
def fnExactUsedLabelsUptoCard : Claim7 := { stood := { row := fnExactUsedLabelsUptoRow, standIns := [], harness := (true, "2445c3471ab9fada04a7bba1dda201aaccd41104fce8e3d741f2d3f41a5d4fa4"), looks := true }, kinds := [], alts := [], laidByText := true, laidKinds := [.data, .data, .data, .data, .sentinel, .sentinel, .pinned], laidTests := true, laidLooks := .later }
def FnExactUsedLabelsUptoCardSaid : Prop := Claim7.holds Tryz.pinned (.plain (OpenSpec.upto fnExactUsedLabelsSpec)) fnExactUsedLabelsUptoCard

/-- THE SECOND FORM's CARD OF 'laws.FnExactRenameLabels'. -/
def fnExactRenameLabelsUptoCard : Claim7 := { stood := { row := fnExactRenameLabelsUptoRow, standIns := [], harness := (true, "2445c3471ab9fada04a7bba1dda201aaccd41104fce8e3d741f2d3f41a5d4fa4"), looks := true }, kinds := [], alts := [], laidByText := true, laidKinds := [.data, .data, .data, .data, .sentinel, .sentinel, .pinned], laidTests := true, laidLooks := .later }
def FnExactRenameLabelsUptoCardSaid : Prop := Claim7.holds Tryz.pinned (.plain (OpenSpec.upto fnExactRenameLabelsSpec)) fnExactRenameLabelsUptoCard
end Rows
end Go.Proofs.YtldmecdkdoipdaaGreatDoor
