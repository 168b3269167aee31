/-
  DERIVED. GIVEN WITH THE SEED: THE CARDS: each row of YtlmopoaeekhmeaaGreatDoorRows.lean that lists a variable, with what it lists TIED to the program's text (the seventh form; the later family's looks); each row that meets fmt, with fmt's text TOLD by the authors' own Lean function (tested against real Go, not proved from fmt's source: count such statements apart). THE CARD IS WHAT COUNTS. Prove the row's statement (the work); the ties are given (YtlmopoaeekhmeaaGreatDoorTie.lean); close each card by the builder's one call (the guide's Derived/Test/ToyasCard.lean, 'card_holds'). Laid BY PROGRAM, IN A SANDBOX (cutbox-door.mjs). By AI agents, Wed Nov 11 2026. No macro, syntax, notation, axiom, sorry.
-/
import Derived.Test.YtlmopoaeekhmeaaGreatDoorRows
import GoSem.ClaimSeven
namespace Go.Proofs.YtlmopoaeekhmeaaGreatDoor
namespace Rows

/-- THE TIED CARD OF 'laws.FnExactReadLts'. -/
def fnExactReadLtsCard : Claim7 := { stood := { row := fnExactReadLtsRow, standIns := [], harness := (true, "4a50013815471774f7f448c941ce33434dd5d92962529dd9e99d3dbd40eab191"), looks := true }, kinds := [], alts := [], laidByText := true, laidKinds := [.data, .data, .data, .data, .sentinel, .sentinel, .pinned], laidTests := true, laidLooks := .later }
def FnExactReadLtsCardSaid : Prop := Claim7.holds Tryz.pinned (.plain (OpenSpec.ofChange fnExactReadLtsSpec)) fnExactReadLtsCard

/-- THE SECOND FORM's CARD OF 'laws.FnExactReadLts'. -/
def fnExactReadLtsUptoCard : Claim7 := { stood := { row := fnExactReadLtsUptoRow, standIns := [], harness := (true, "4a50013815471774f7f448c941ce33434dd5d92962529dd9e99d3dbd40eab191"), looks := true }, kinds := [], alts := [], laidByText := true, laidKinds := [.data, .data, .data, .data, .sentinel, .sentinel, .pinned], laidTests := true, laidLooks := .later }
def FnExactReadLtsUptoCardSaid : Prop := Claim7.holds Tryz.pinned (.plain (OpenSpec.upto fnExactReadLtsSpec)) fnExactReadLtsUptoCard
end Rows
end Go.Proofs.YtlmopoaeekhmeaaGreatDoor
