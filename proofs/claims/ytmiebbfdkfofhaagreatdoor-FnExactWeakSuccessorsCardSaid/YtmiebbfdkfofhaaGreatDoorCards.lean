/-
  DERIVED. GIVEN WITH THE SEED: THE CARDS: each row of YtmiebbfdkfofhaaGreatDoorRows.lean that lists a variable, with what it lists TIED to the program's text (the seventh form; the later family's looks); each row that meets fmt, with fmt's text TOLD by the authors' own Lean function (tested against real Go, not proved from fmt's source: count such statements apart). THE CARD IS WHAT COUNTS. Prove the row's statement (the work); the ties are given (YtmiebbfdkfofhaaGreatDoorTie.lean); close each card by the builder's one call (the guide's Derived/Test/ToyasCard.lean, 'card_holds'). Laid BY PROGRAM, IN A SANDBOX (cutbox-door.mjs). By AI agents, Wed Nov 11 2026. No macro, syntax, notation, axiom, sorry.
-/
import Derived.Test.YtmiebbfdkfofhaaGreatDoorRows
import GoSem.ClaimSeven
namespace Go.Proofs.YtmiebbfdkfofhaaGreatDoor
namespace Rows

/-- THE TIED CARD OF 'laws.FnExactRefusalOf'. -/
def fnExactRefusalOfCard : Claim7 := { stood := { row := fnExactRefusalOfRow, standIns := [], harness := (true, "5ee75a5246b8ed42aeaf78fe5a13dd1b9ff8e43e4a7237c5da291d4124451b53"), looks := true }, kinds := [], alts := [], laidByText := true, laidKinds := [.data, .data, .data, .data, .sentinel, .sentinel, .pinned], laidTests := true, laidLooks := .later }
def FnExactRefusalOfCardSaid : Prop := Claim7.holds Tryz.pinned (.plain (OpenSpec.ofChange fnExactRefusalOfSpec)) fnExactRefusalOfCard

/-- THE TIED CARD OF 'laws.FnExactWeakSuccessors'. -/
def fnExactWeakSuccessorsCard : Claim7 := { stood := { row := fnExactWeakSuccessorsRow, standIns := [], harness := (true, "5ee75a5246b8ed42aeaf78fe5a13dd1b9ff8e43e4a7237c5da291d4124451b53"), looks := true }, kinds := [], alts := [], laidByText := true, laidKinds := [.data, .data, .data, .data, .sentinel, .sentinel, .pinned], laidTests := true, laidLooks := .later }
def FnExactWeakSuccessorsCardSaid : Prop := Claim7.holds Tryz.pinned (.plain (OpenSpec.ofChange fnExactWeakSuccessorsSpec)) fnExactWeakSuccessorsCard

/-- THE SECOND FORM's CARD OF 'laws.FnExactRefusalOf'. -/
def fnExactRefusalOfUptoCard : Claim7 := { stood := { row := fnExactRefusalOfUptoRow, standIns := [], harness := (true, "5ee75a5246b8ed42aeaf78fe5a13dd1b9ff8e43e4a7237c5da291d4124451b53"), looks := true }, kinds := [], alts := [], laidByText := true, laidKinds := [.data, .data, .data, .data, .sentinel, .sentinel, .pinned], laidTests := true, laidLooks := .later }
def FnExactRefusalOfUptoCardSaid : Prop := Claim7.holds Tryz.pinned (.plain (OpenSpec.upto fnExactRefusalOfSpec)) fnExactRefusalOfUptoCard

/-- THE SECOND FORM's CARD OF 'laws.FnExactWeakSuccessors'. -/
def fnExactWeakSuccessorsUptoCard : Claim7 := { stood := { row := fnExactWeakSuccessorsUptoRow, standIns := [], harness := (true, "5ee75a5246b8ed42aeaf78fe5a13dd1b9ff8e43e4a7237c5da291d4124451b53"), looks := true }, kinds := [], alts := [], laidByText := true, laidKinds := [.data, .data, .data, .data, .sentinel, .sentinel, .pinned], laidTests := true, laidLooks := .later }
def FnExactWeakSuccessorsUptoCardSaid : Prop := Claim7.holds Tryz.pinned (.plain (OpenSpec.upto fnExactWeakSuccessorsSpec)) fnExactWeakSuccessorsUptoCard
end Rows
end Go.Proofs.YtmiebbfdkfofhaaGreatDoor
