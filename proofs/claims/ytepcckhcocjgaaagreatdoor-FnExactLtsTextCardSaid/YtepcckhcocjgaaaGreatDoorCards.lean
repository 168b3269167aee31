/-
  DERIVED. GIVEN WITH THE SEED: THE CARDS: each row of YtepcckhcocjgaaaGreatDoorRows.lean that lists a variable, with what it lists TIED to the program's text (the seventh form; the later family's looks); each row that meets fmt, with fmt's text TOLD by the authors' own Lean function (tested against real Go, not proved from fmt's source: count such statements apart). THE CARD IS WHAT COUNTS. Prove the row's statement (the work); the ties are given (YtepcckhcocjgaaaGreatDoorTie.lean); close each card by the builder's one call (the guide's Derived/Test/ToyasCard.lean, 'card_holds'). Laid BY PROGRAM, IN A SANDBOX (cutbox-door.mjs). By AI agents, Wed Nov 11 2026. No macro, syntax, notation, axiom, sorry.
-/
import Derived.Test.YtepcckhcocjgaaaGreatDoorRows
import GoSem.ClaimSeven
namespace Go.Proofs.YtepcckhcocjgaaaGreatDoor
namespace Rows

/-- THE TIED CARD OF 'laws.FnExactReadEquations'. -/
def fnExactReadEquationsCard : Claim7 := { stood := { row := fnExactReadEquationsRow, standIns := [], harness := (true, "575f9fc70d57ee965aa965016e5d25ac5465eb7b8d05111c780aa017e5db3d04"), looks := true }, kinds := [], alts := [], laidByText := true, laidKinds := [.data, .data, .data, .data, .sentinel, .sentinel, .pinned], laidTests := true, laidLooks := .later }
def FnExactReadEquationsCardSaid : Prop := Claim7.holds Tryz.pinned (.plain (OpenSpec.ofChange fnExactReadEquationsSpec)) fnExactReadEquationsCard

/-- THE TIED CARD OF 'laws.FnExactLtsText'. -/
def fnExactLtsTextCard : Claim7 := { stood := { row := fnExactLtsTextRow, standIns := [], harness := (true, "575f9fc70d57ee965aa965016e5d25ac5465eb7b8d05111c780aa017e5db3d04"), looks := true }, kinds := [], alts := [], laidByText := true, laidKinds := [.data, .data, .data, .data, .sentinel, .sentinel, .pinned], laidTests := true, laidLooks := .later }
def FnExactLtsTextCardSaid : Prop := Claim7.holds Tryz.pinned (.plain (OpenSpec.ofChange fnExactLtsTextSpec)) fnExactLtsTextCard

/-- THE TIED CARD OF 'laws.FnExactReadLts'. -/
def fnExactReadLtsCard : Claim7 := { stood := { row := fnExactReadLtsRow, standIns := [], harness := (true, "575f9fc70d57ee965aa965016e5d25ac5465eb7b8d05111c780aa017e5db3d04"), looks := true }, kinds := [], alts := [], laidByText := true, laidKinds := [.data, .data, .data, .data, .sentinel, .sentinel, .pinned], laidTests := true, laidLooks := .later }
def FnExactReadLtsCardSaid : Prop := Claim7.holds Tryz.pinned (.plain (OpenSpec.ofChange fnExactReadLtsSpec)) fnExactReadLtsCard

/-- THE SECOND FORM's CARD OF 'laws.FnExactReadEquations'. -/
def fnExactReadEquationsUptoCard : Claim7 := { stood := { row := fnExactReadEquationsUptoRow, standIns := [], harness := (true, "575f9fc70d57ee965aa965016e5d25ac5465eb7b8d05111c780aa017e5db3d04"), looks := true }, kinds := [], alts := [], laidByText := true, laidKinds := [.data, .data, .data, .data, .sentinel, .sentinel, .pinned], laidTests := true, laidLooks := .later }
def FnExactReadEquationsUptoCardSaid : Prop := Claim7.holds Tryz.pinned (.plain (OpenSpec.upto fnExactReadEquationsSpec)) fnExactReadEquationsUptoCard

/-- THE SECOND FORM's CARD OF 'laws.FnExactLtsText'. -/
def fnExactLtsTextUptoCard : Claim7 := { stood := { row := fnExactLtsTextUptoRow, standIns := [], harness := (true, "575f9fc70d57ee965aa965016e5d25ac5465eb7b8d05111c780aa017e5db3d04"), looks := true }, kinds := [], alts := [], laidByText := true, laidKinds := [.data, .data, .data, .data, .sentinel, .sentinel, .pinned], laidTests := true, laidLooks := .later }
def FnExactLtsTextUptoCardSaid : Prop := Claim7.holds Tryz.pinned (.plain (OpenSpec.upto fnExactLtsTextSpec)) fnExactLtsTextUptoCard

/-- THE SECOND FORM's CARD OF 'laws.FnExactReadLts'. -/
def fnExactReadLtsUptoCard : Claim7 := { stood := { row := fnExactReadLtsUptoRow, standIns := [], harness := (true, "575f9fc70d57ee965aa965016e5d25ac5465eb7b8d05111c780aa017e5db3d04"), looks := true }, kinds := [], alts := [], laidByText := true, laidKinds := [.data, .data, .data, .data, .sentinel, .sentinel, .pinned], laidTests := true, laidLooks := .later }
def FnExactReadLtsUptoCardSaid : Prop := Claim7.holds Tryz.pinned (.plain (OpenSpec.upto fnExactReadLtsSpec)) fnExactReadLtsUptoCard
end Rows
end Go.Proofs.YtepcckhcocjgaaaGreatDoor
