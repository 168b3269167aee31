/-
  DERIVED. GIVEN WITH THE SEED: THE CARDS: each row of YtnkpniekdipgaaaGreatDoorRows.lean that lists a variable, with what it lists TIED to the program's text (the seventh form; the later family's looks); each row that meets fmt, with fmt's text TOLD by the authors' own Lean function (tested against real Go, not proved from fmt's source: count such statements apart). THE CARD IS WHAT COUNTS. Prove the row's statement (the work); the ties are given (YtnkpniekdipgaaaGreatDoorTie.lean); close each card by the builder's one call (the guide's Derived/Test/ToyasCard.lean, 'card_holds'). Laid BY PROGRAM, IN A SANDBOX (cutbox-door.mjs). By AI agents, Wed Nov 11 2026. No macro, syntax, notation, axiom, sorry.
-/
import Derived.Test.YtnkpniekdipgaaaGreatDoorRows
import GoSem.ClaimSeven
namespace Go.Proofs.YtnkpniekdipgaaaGreatDoor
namespace Rows

/-- THE TIED CARD OF 'laws.FnExactHoldsAt'. -/
def fnExactHoldsAtCard : Claim7 := { stood := { row := fnExactHoldsAtRow, standIns := [], harness := (true, "4f0eb9f5703239d273387f44dd2c10154d9eeb405473d81a5f1e32493291d8e6"), looks := true }, kinds := [], alts := [], laidByText := true, laidKinds := [.data, .data, .data, .data, .sentinel, .sentinel, .pinned], laidTests := true, laidLooks := .later }
def FnExactHoldsAtCardSaid : Prop := Claim7.holds Tryz.pinned (.plain (OpenSpec.ofChange fnExactHoldsAtSpec)) fnExactHoldsAtCard

/-- THE TIED CARD OF 'laws.FnExactTellsApart'. -/
def fnExactTellsApartCard : Claim7 := { stood := { row := fnExactTellsApartRow, standIns := [], harness := (true, "4f0eb9f5703239d273387f44dd2c10154d9eeb405473d81a5f1e32493291d8e6"), looks := true }, kinds := [], alts := [], laidByText := true, laidKinds := [.data, .data, .data, .data, .sentinel, .sentinel, .pinned], laidTests := true, laidLooks := .later }
def FnExactTellsApartCardSaid : Prop := Claim7.holds Tryz.pinned (.plain (OpenSpec.ofChange fnExactTellsApartSpec)) fnExactTellsApartCard

/-- THE TIED CARD OF 'laws.FnExactStatesWhere'. -/
def fnExactStatesWhereCard : Claim7 := { stood := { row := fnExactStatesWhereRow, standIns := [], harness := (true, "4f0eb9f5703239d273387f44dd2c10154d9eeb405473d81a5f1e32493291d8e6"), looks := true }, kinds := [], alts := [], laidByText := true, laidKinds := [.data, .data, .data, .data, .sentinel, .sentinel, .pinned], laidTests := true, laidLooks := .later }
def FnExactStatesWhereCardSaid : Prop := Claim7.holds Tryz.pinned (.plain (OpenSpec.ofChange fnExactStatesWhereSpec)) fnExactStatesWhereCard

/-- THE SECOND FORM's CARD OF 'laws.FnExactHoldsAt'. -/
def fnExactHoldsAtUptoCard : Claim7 := { stood := { row := fnExactHoldsAtUptoRow, standIns := [], harness := (true, "4f0eb9f5703239d273387f44dd2c10154d9eeb405473d81a5f1e32493291d8e6"), looks := true }, kinds := [], alts := [], laidByText := true, laidKinds := [.data, .data, .data, .data, .sentinel, .sentinel, .pinned], laidTests := true, laidLooks := .later }
def FnExactHoldsAtUptoCardSaid : Prop := Claim7.holds Tryz.pinned (.plain (OpenSpec.upto fnExactHoldsAtSpec)) fnExactHoldsAtUptoCard

/-- THE SECOND FORM's CARD OF 'laws.FnExactTellsApart'. -/
def fnExactTellsApartUptoCard : Claim7 := { stood := { row := fnExactTellsApartUptoRow, standIns := [], harness := (true, "4f0eb9f5703239d273387f44dd2c10154d9eeb405473d81a5f1e32493291d8e6"), looks := true }, kinds := [], alts := [], laidByText := true, laidKinds := [.data, .data, .data, .data, .sentinel, .sentinel, .pinned], laidTests := true, laidLooks := .later }
def FnExactTellsApartUptoCardSaid : Prop := Claim7.holds Tryz.pinned (.plain (OpenSpec.upto fnExactTellsApartSpec)) fnExactTellsApartUptoCard

/-- THE SECOND FORM's CARD OF 'laws.FnExactStatesWhere'. -/
def fnExactStatesWhereUptoCard : Claim7 := { stood := { row := fnExactStatesWhereUptoRow, standIns := [], harness := (true, "4f0eb9f5703239d273387f44dd2c10154d9eeb405473d81a5f1e32493291d8e6"), looks := true }, kinds := [], alts := [], laidByText := true, laidKinds := [.data, .data, .data, .data, .sentinel, .sentinel, .pinned], laidTests := true, laidLooks := .later }
def FnExactStatesWhereUptoCardSaid : Prop := Claim7.holds Tryz.pinned (.plain (OpenSpec.upto fnExactStatesWhereSpec)) fnExactStatesWhereUptoCard
end Rows
end Go.Proofs.YtnkpniekdipgaaaGreatDoor
