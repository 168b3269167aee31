/-
  DERIVED. GIVEN WITH THE SEED: THE CARDS: each row of YtelpejcnlekaoaaGreatDoorRows.lean that lists a variable, with what it lists TIED to the program's text (the seventh form; the later family's looks); each row that meets fmt, with fmt's text TOLD by the authors' own Lean function (tested against real Go, not proved from fmt's source: count such statements apart). THE CARD IS WHAT COUNTS. Prove the row's statement (the work); the ties are given (YtelpejcnlekaoaaGreatDoorTie.lean); close each card by the builder's one call (the guide's Derived/Test/ToyasCard.lean, 'card_holds'). Laid BY PROGRAM, IN A SANDBOX (cutbox-door.mjs). By AI agents, Wed Nov 11 2026. No macro, syntax, notation, axiom, sorry.
-/
import Derived.Test.YtelpejcnlekaoaaGreatDoorRows
import GoSem.ClaimSeven
namespace Go.Proofs.YtelpejcnlekaoaaGreatDoor
namespace Rows

/-- THE TIED CARD OF 'laws.FnExactSaturateLts'. -/
def fnExactSaturateLtsCard : Claim7 := { stood := { row := fnExactSaturateLtsRow, standIns := [], harness := (true, "50a4cb0887ce893b42f27b9b52957bd9eb62e29e188008cc323f5f359a09e4fb"), looks := true }, kinds := [], alts := [], laidByText := true, laidKinds := [.data, .data, .data, .data, .sentinel, .sentinel, .pinned], laidTests := true, laidLooks := .later }
def FnExactSaturateLtsCardSaid : Prop := Claim7.holds Tryz.pinned (.plain (OpenSpec.ofChange fnExactSaturateLtsSpec)) fnExactSaturateLtsCard

/-- THE TIED CARD OF 'laws.FnExactCyclePartition'. -/
def fnExactCyclePartitionCard : Claim7 := { stood := { row := fnExactCyclePartitionRow, standIns := [], harness := (true, "50a4cb0887ce893b42f27b9b52957bd9eb62e29e188008cc323f5f359a09e4fb"), looks := true }, kinds := [], alts := [], laidByText := true, laidKinds := [.data, .data, .data, .data, .sentinel, .sentinel, .pinned], laidTests := true, laidLooks := .later }
def FnExactCyclePartitionCardSaid : Prop := Claim7.holds Tryz.pinned (.plain (OpenSpec.ofChange fnExactCyclePartitionSpec)) fnExactCyclePartitionCard

/-- THE SECOND FORM's CARD OF 'laws.FnExactSaturateLts'. -/
def fnExactSaturateLtsUptoCard : Claim7 := { stood := { row := fnExactSaturateLtsUptoRow, standIns := [], harness := (true, "50a4cb0887ce893b42f27b9b52957bd9eb62e29e188008cc323f5f359a09e4fb"), looks := true }, kinds := [], alts := [], laidByText := true, laidKinds := [.data, .data, .data, .data, .sentinel, .sentinel, .pinned], laidTests := true, laidLooks := .later }
def FnExactSaturateLtsUptoCardSaid : Prop := Claim7.holds Tryz.pinned (.plain (OpenSpec.upto fnExactSaturateLtsSpec)) fnExactSaturateLtsUptoCard

/-- THE SECOND FORM's CARD OF 'laws.FnExactCyclePartition'. -/
def fnExactCyclePartitionUptoCard : Claim7 := { stood := { row := fnExactCyclePartitionUptoRow, standIns := [], harness := (true, "50a4cb0887ce893b42f27b9b52957bd9eb62e29e188008cc323f5f359a09e4fb"), looks := true }, kinds := [], alts := [], laidByText := true, laidKinds := [.data, .data, .data, .data, .sentinel, .sentinel, .pinned], laidTests := true, laidLooks := .later }
def FnExactCyclePartitionUptoCardSaid : Prop := Claim7.holds Tryz.pinned (.plain (OpenSpec.upto fnExactCyclePartitionSpec)) fnExactCyclePartitionUptoCard
end Rows
end Go.Proofs.YtelpejcnlekaoaaGreatDoor
