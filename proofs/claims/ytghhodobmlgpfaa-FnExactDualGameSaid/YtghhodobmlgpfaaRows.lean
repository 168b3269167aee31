/-
  No cell of these rows narrows 'for every input' (looked for: loops, veiled, ifaces, maps, wideKeys, modest, calm, conditions, laid).
  DERIVED. THE GIVEN ROWS OF THIS SEAT. 6 by the template 'for every input the law returns true; each argument reads behind the call as it read before'; 0 by the template 'total and deterministic' (their statements: YtghhodobmlgpfaaTotals.lean).
  GIVEN WITH THE SEED: the statements are not yours to turn. If you find one false, say at which input.
  Laid BY PROGRAM, IN A SANDBOX (cutbox-rows.mjs): the forced cells as the released guide's own fill.sh prints them over the translation 86375dcdb4f9f5f3… (all of the seat's roots in one cut). By AI agents, Wed Nov 11 2026. No macro, syntax, notation, axiom, sorry.
-/
import Derived.Test.YtghhodobmlgpfaaChecked
import GoSem.Claim
import GoSem.ClaimJoined
import GoSem.ClaimMapViews
import Derived.JoinedTies
import Derived.KernelRfl
namespace Go.Proofs.Ytghhodobmlgpfaa
/- THE CELL 'sum', in the pinned program and in every row, IS THE sha256 OF THE DUMP (.gsa) THAT YtghhodobmlgpfaaProg.lean LOADS. Nothing in Lean hashes anything: it is a label: what it is worth is what the hold of that sum in a sandbox is worth. -/
noncomputable def Try.pinned : Pinned := { name := "ytghhodobmlgpfaa", sum := "86375dcdb4f9f5f38065073cb6036a471a4cfd1af3a5949d75e91b9ef4b4a32e", checked := Try.checked }
namespace Rows
def none {H : Type} : Left H := { results := [], args := [] }

/-- 'laws.FnExactValidEquations': WHATEVER THE INPUT: true; the input reads as it did. -/
def fnExactValidEquationsSpec : ChangeSpec := { name := "fnExactValidEquations", fn := fun _ => fun
  | [d] => { results := [.lit (.bool true)], args := [d] }
  | _ => none }
def fnExactValidEquationsRow : OpenClaim := { program := "ytghhodobmlgpfaa", sum := "86375dcdb4f9f5f38065073cb6036a471a4cfd1af3a5949d75e91b9ef4b4a32e", func := "loop.example/g01075/laws.FnExactValidEquations", spec := "fnExactValidEquations", unfollowed := true, recurses := true, apart := false }
def FnExactValidEquationsSaid : Prop := fnExactValidEquationsRow.holds Try.pinned (OpenSpec.ofChange fnExactValidEquationsSpec)

/-- ITS FALSE NEIGHBOUR: 'it returns false'. Refute it at one input. -/
def fnExactValidEquationsWrong : ChangeSpec := { name := "fnExactValidEquations", fn := fun _ => fun
  | [d] => { results := [.lit (.bool false)], args := [d] }
  | _ => none }
def FnExactValidEquationsWrongFalsely : Prop := fnExactValidEquationsRow.holds Try.pinned (OpenSpec.ofChange fnExactValidEquationsWrong)

/-- 'laws.FnExactEquationBlocks': WHATEVER THE INPUT: true; the input reads as it did. -/
def fnExactEquationBlocksSpec : ChangeSpec := { name := "fnExactEquationBlocks", fn := fun _ => fun
  | [d] => { results := [.lit (.bool true)], args := [d] }
  | _ => none }
def fnExactEquationBlocksRow : OpenClaim := { program := "ytghhodobmlgpfaa", sum := "86375dcdb4f9f5f38065073cb6036a471a4cfd1af3a5949d75e91b9ef4b4a32e", func := "loop.example/g01075/laws.FnExactEquationBlocks", spec := "fnExactEquationBlocks", unfollowed := true, recurses := true, apart := false }
def FnExactEquationBlocksSaid : Prop := fnExactEquationBlocksRow.holds Try.pinned (OpenSpec.ofChange fnExactEquationBlocksSpec)

/-- ITS FALSE NEIGHBOUR: 'it returns false'. Refute it at one input. -/
def fnExactEquationBlocksWrong : ChangeSpec := { name := "fnExactEquationBlocks", fn := fun _ => fun
  | [d] => { results := [.lit (.bool false)], args := [d] }
  | _ => none }
def FnExactEquationBlocksWrongFalsely : Prop := fnExactEquationBlocksRow.holds Try.pinned (OpenSpec.ofChange fnExactEquationBlocksWrong)

/-- 'laws.FnExactIsConsistent': WHATEVER THE INPUT: true; the input reads as it did. -/
def fnExactIsConsistentSpec : ChangeSpec := { name := "fnExactIsConsistent", fn := fun _ => fun
  | [d1, d2] => { results := [.lit (.bool true)], args := [d1, d2] }
  | _ => none }
def fnExactIsConsistentRow : OpenClaim := { program := "ytghhodobmlgpfaa", sum := "86375dcdb4f9f5f38065073cb6036a471a4cfd1af3a5949d75e91b9ef4b4a32e", func := "loop.example/g01075/laws.FnExactIsConsistent", spec := "fnExactIsConsistent", unfollowed := true, recurses := true, apart := false }
def FnExactIsConsistentSaid : Prop := fnExactIsConsistentRow.holds Try.pinned (OpenSpec.ofChange fnExactIsConsistentSpec)

/-- ITS FALSE NEIGHBOUR: 'it returns false'. Refute it at one input. -/
def fnExactIsConsistentWrong : ChangeSpec := { name := "fnExactIsConsistent", fn := fun _ => fun
  | [d1, d2] => { results := [.lit (.bool false)], args := [d1, d2] }
  | _ => none }
def FnExactIsConsistentWrongFalsely : Prop := fnExactIsConsistentRow.holds Try.pinned (OpenSpec.ofChange fnExactIsConsistentWrong)

/-- 'laws.FnExactDualGame': WHATEVER THE INPUT: true; the input reads as it did. -/
def fnExactDualGameSpec : ChangeSpec := { name := "fnExactDualGame", fn := fun _ => fun
  | [d] => { results := [.lit (.bool true)], args := [d] }
  | _ => none }
def fnExactDualGameRow : OpenClaim := { program := "ytghhodobmlgpfaa", sum := "86375dcdb4f9f5f38065073cb6036a471a4cfd1af3a5949d75e91b9ef4b4a32e", func := "loop.example/g01075/laws.FnExactDualGame", spec := "fnExactDualGame", unfollowed := true, recurses := true, apart := false }
def FnExactDualGameSaid : Prop := fnExactDualGameRow.holds Try.pinned (OpenSpec.ofChange fnExactDualGameSpec)

/-- ITS FALSE NEIGHBOUR: 'it returns false'. Refute it at one input. -/
def fnExactDualGameWrong : ChangeSpec := { name := "fnExactDualGame", fn := fun _ => fun
  | [d] => { results := [.lit (.bool false)], args := [d] }
  | _ => none }
def FnExactDualGameWrongFalsely : Prop := fnExactDualGameRow.holds Try.pinned (OpenSpec.ofChange fnExactDualGameWrong)

/-- 'laws.FnExactDualEquations': WHATEVER THE INPUT: true; the input reads as it did. -/
def fnExactDualEquationsSpec : ChangeSpec := { name := "fnExactDualEquations", fn := fun _ => fun
  | [d] => { results := [.lit (.bool true)], args := [d] }
  | _ => none }
def fnExactDualEquationsRow : OpenClaim := { program := "ytghhodobmlgpfaa", sum := "86375dcdb4f9f5f38065073cb6036a471a4cfd1af3a5949d75e91b9ef4b4a32e", func := "loop.example/g01075/laws.FnExactDualEquations", spec := "fnExactDualEquations", unfollowed := true, recurses := true, apart := false }
def FnExactDualEquationsSaid : Prop := fnExactDualEquationsRow.holds Try.pinned (OpenSpec.ofChange fnExactDualEquationsSpec)

/-- ITS FALSE NEIGHBOUR: 'it returns false'. Refute it at one input. -/
def fnExactDualEquationsWrong : ChangeSpec := { name := "fnExactDualEquations", fn := fun _ => fun
  | [d] => { results := [.lit (.bool false)], args := [d] }
  | _ => none }
def FnExactDualEquationsWrongFalsely : Prop := fnExactDualEquationsRow.holds Try.pinned (OpenSpec.ofChange fnExactDualEquationsWrong)

/-- 'laws.FnExactPlayGame': WHATEVER THE INPUT: true; the input reads as it did. -/
def fnExactPlayGameSpec : ChangeSpec := { name := "fnExactPlayGame", fn := fun _ => fun
  | [d1, d2, d3] => { results := [.lit (.bool true)], args := [d1, d2, d3] }
  | _ => none }
def fnExactPlayGameRow : OpenClaim := { program := "ytghhodobmlgpfaa", sum := "86375dcdb4f9f5f38065073cb6036a471a4cfd1af3a5949d75e91b9ef4b4a32e", func := "loop.example/g01075/laws.FnExactPlayGame", spec := "fnExactPlayGame", unfollowed := true, recurses := true, apart := false }
def FnExactPlayGameSaid : Prop := fnExactPlayGameRow.holds Try.pinned (OpenSpec.ofChange fnExactPlayGameSpec)

/-- ITS FALSE NEIGHBOUR: 'it returns false'. Refute it at one input. -/
def fnExactPlayGameWrong : ChangeSpec := { name := "fnExactPlayGame", fn := fun _ => fun
  | [d1, d2, d3] => { results := [.lit (.bool false)], args := [d1, d2, d3] }
  | _ => none }
def FnExactPlayGameWrongFalsely : Prop := fnExactPlayGameRow.holds Try.pinned (OpenSpec.ofChange fnExactPlayGameWrong)

/- THE SECOND FORM. 'bulk': how many values and letters a reading holds, each counted each time it is reached (what is shared counts as often as it is met; a slice's spare places count too). A statement '..UptoSaid' is the law's where the arguments, and the package variables that the reading takes, are together of bulk at most 1048576: NARROWER than '..Said'. Prove '..Said' where nothing that the law and all that it calls make is longer than what came in: it says more and counts as full. Else prove '..UptoSaid'. A law counts once. -/
mutual
def uptoBulk {H : Type} : DataW H → Nat
  | .lit (.string bytes) => bytes.length + 1
  | .lit _ => 1
  | .nil => 1
  | .ptr d => uptoBulk d + 1
  | .slice elems spare => uptoBulkAll elems + uptoBulkAll spare + 1
  | .agg parts => uptoBulkAll parts + 1
  | .iface _ d => uptoBulk d + 1
  | .map entries => uptoBulkEntries entries + 1
  | .held _ => 1
def uptoBulkAll {H : Type} : List (DataW H) → Nat
  | [] => 0
  | d :: r => uptoBulk d + uptoBulkAll r
def uptoBulkEntries {H : Type} : List (Lit × DataW H) → Nat
  | [] => 0
  | x :: r => uptoBulkEntry x + uptoBulkEntries r
def uptoBulkEntry {H : Type} : Lit × DataW H → Nat
  | (.string bytes, d) => bytes.length + uptoBulk d + 1
  | (_, d) => uptoBulk d + 1
 end
def uptoSmall : (H : Type) → List (DataW H) → Bool := fun _ ds => decide (uptoBulkAll ds ≤ 1048576)
def OpenSpec.upto (s : _root_.Go.ChangeSpec) : _root_.Go.OpenSpec := { _root_.Go.OpenSpec.ofChange s with cond := some uptoSmall }

/-- 'laws.FnExactValidEquations', WHERE WHAT IT READS IS OF BULK AT MOST 1048576: true; the input reads as it did. -/
def fnExactValidEquationsUptoRow : OpenClaim := { program := "ytghhodobmlgpfaa", sum := "86375dcdb4f9f5f38065073cb6036a471a4cfd1af3a5949d75e91b9ef4b4a32e", func := "loop.example/g01075/laws.FnExactValidEquations", spec := "fnExactValidEquations", unfollowed := true, recurses := true, apart := false, narrowed := true }
def FnExactValidEquationsUptoSaid : Prop := fnExactValidEquationsUptoRow.holds Try.pinned (OpenSpec.upto fnExactValidEquationsSpec)

/-- 'laws.FnExactEquationBlocks', WHERE WHAT IT READS IS OF BULK AT MOST 1048576: true; the input reads as it did. -/
def fnExactEquationBlocksUptoRow : OpenClaim := { program := "ytghhodobmlgpfaa", sum := "86375dcdb4f9f5f38065073cb6036a471a4cfd1af3a5949d75e91b9ef4b4a32e", func := "loop.example/g01075/laws.FnExactEquationBlocks", spec := "fnExactEquationBlocks", unfollowed := true, recurses := true, apart := false, narrowed := true }
def FnExactEquationBlocksUptoSaid : Prop := fnExactEquationBlocksUptoRow.holds Try.pinned (OpenSpec.upto fnExactEquationBlocksSpec)

/-- 'laws.FnExactIsConsistent', WHERE WHAT IT READS IS OF BULK AT MOST 1048576: true; the input reads as it did. -/
def fnExactIsConsistentUptoRow : OpenClaim := { program := "ytghhodobmlgpfaa", sum := "86375dcdb4f9f5f38065073cb6036a471a4cfd1af3a5949d75e91b9ef4b4a32e", func := "loop.example/g01075/laws.FnExactIsConsistent", spec := "fnExactIsConsistent", unfollowed := true, recurses := true, apart := false, narrowed := true }
def FnExactIsConsistentUptoSaid : Prop := fnExactIsConsistentUptoRow.holds Try.pinned (OpenSpec.upto fnExactIsConsistentSpec)

/-- 'laws.FnExactDualGame', WHERE WHAT IT READS IS OF BULK AT MOST 1048576: true; the input reads as it did. -/
def fnExactDualGameUptoRow : OpenClaim := { program := "ytghhodobmlgpfaa", sum := "86375dcdb4f9f5f38065073cb6036a471a4cfd1af3a5949d75e91b9ef4b4a32e", func := "loop.example/g01075/laws.FnExactDualGame", spec := "fnExactDualGame", unfollowed := true, recurses := true, apart := false, narrowed := true }
def FnExactDualGameUptoSaid : Prop := fnExactDualGameUptoRow.holds Try.pinned (OpenSpec.upto fnExactDualGameSpec)

/-- 'laws.FnExactDualEquations', WHERE WHAT IT READS IS OF BULK AT MOST 1048576: true; the input reads as it did. -/
def fnExactDualEquationsUptoRow : OpenClaim := { program := "ytghhodobmlgpfaa", sum := "86375dcdb4f9f5f38065073cb6036a471a4cfd1af3a5949d75e91b9ef4b4a32e", func := "loop.example/g01075/laws.FnExactDualEquations", spec := "fnExactDualEquations", unfollowed := true, recurses := true, apart := false, narrowed := true }
def FnExactDualEquationsUptoSaid : Prop := fnExactDualEquationsUptoRow.holds Try.pinned (OpenSpec.upto fnExactDualEquationsSpec)

/-- 'laws.FnExactPlayGame', WHERE WHAT IT READS IS OF BULK AT MOST 1048576: true; the input reads as it did. -/
def fnExactPlayGameUptoRow : OpenClaim := { program := "ytghhodobmlgpfaa", sum := "86375dcdb4f9f5f38065073cb6036a471a4cfd1af3a5949d75e91b9ef4b4a32e", func := "loop.example/g01075/laws.FnExactPlayGame", spec := "fnExactPlayGame", unfollowed := true, recurses := true, apart := false, narrowed := true }
def FnExactPlayGameUptoSaid : Prop := fnExactPlayGameUptoRow.holds Try.pinned (OpenSpec.upto fnExactPlayGameSpec)

end Rows
end Go.Proofs.Ytghhodobmlgpfaa
