/-
  No cell of these rows narrows 'for every input' (looked for: loops, veiled, ifaces, maps, wideKeys, modest, calm, conditions, laid).
  DERIVED. THE GIVEN ROWS OF THIS SEAT. 3 by the template 'for every input the law returns true; each argument reads behind the call as it read before'; 0 by the template 'total and deterministic' (their statements: YtcddkipbedfhkaaTotals.lean).
  GIVEN WITH THE SEED: the statements are not yours to turn. If you find one false, say at which input.
  Laid BY PROGRAM, IN A SANDBOX (cutbox-rows.mjs): the forced cells as the released guide's own fill.sh prints them over the translation 483b02a6e78c45ff… (all of the seat's roots in one cut). By AI agents, Wed Nov 11 2026. No macro, syntax, notation, axiom, sorry.
-/
import Derived.Test.YtcddkipbedfhkaaChecked
import GoSem.Claim
import GoSem.ClaimJoined
import GoSem.ClaimMapViews
import Derived.JoinedTies
import Derived.KernelRfl
namespace Go.Proofs.Ytcddkipbedfhkaa
/- THE CELL 'sum', in the pinned program and in every row, IS THE sha256 OF THE DUMP (.gsa) THAT YtcddkipbedfhkaaProg.lean LOADS. Nothing in Lean hashes anything: it is a label: what it is worth is what the hold of that sum in a sandbox is worth. -/
noncomputable def Try.pinned : Pinned := { name := "ytcddkipbedfhkaa", sum := "483b02a6e78c45ff889fe1cae3f31dbb9956d3c7aa4dd05f1c2fcd71976f9199", checked := Try.checked }
namespace Rows
def none {H : Type} : Left H := { results := [], args := [] }

/-- 'laws.FnExactIsMeasure': WHATEVER THE INPUT: true; the input reads as it did. -/
def fnExactIsMeasureSpec : ChangeSpec := { name := "fnExactIsMeasure", fn := fun _ => fun
  | [d1, d2, d3] => { results := [.lit (.bool true)], args := [d1, d2, d3] }
  | _ => none }
def fnExactIsMeasureRow : OpenClaim := { program := "ytcddkipbedfhkaa", sum := "483b02a6e78c45ff889fe1cae3f31dbb9956d3c7aa4dd05f1c2fcd71976f9199", func := "loop.example/g01075/laws.FnExactIsMeasure", spec := "fnExactIsMeasure", unfollowed := true, recurses := true, apart := false }
def FnExactIsMeasureSaid : Prop := fnExactIsMeasureRow.holds Try.pinned (OpenSpec.ofChange fnExactIsMeasureSpec)

/-- ITS FALSE NEIGHBOUR: 'it returns false'. Refute it at one input. -/
def fnExactIsMeasureWrong : ChangeSpec := { name := "fnExactIsMeasure", fn := fun _ => fun
  | [d1, d2, d3] => { results := [.lit (.bool false)], args := [d1, d2, d3] }
  | _ => none }
def FnExactIsMeasureWrongFalsely : Prop := fnExactIsMeasureRow.holds Try.pinned (OpenSpec.ofChange fnExactIsMeasureWrong)

/-- 'laws.FnExactMeasuresOf': WHATEVER THE INPUT: true; the input reads as it did. -/
def fnExactMeasuresOfSpec : ChangeSpec := { name := "fnExactMeasuresOf", fn := fun _ => fun
  | [d1, d2] => { results := [.lit (.bool true)], args := [d1, d2] }
  | _ => none }
def fnExactMeasuresOfRow : OpenClaim := { program := "ytcddkipbedfhkaa", sum := "483b02a6e78c45ff889fe1cae3f31dbb9956d3c7aa4dd05f1c2fcd71976f9199", func := "loop.example/g01075/laws.FnExactMeasuresOf", spec := "fnExactMeasuresOf", unfollowed := true, recurses := true, apart := false }
def FnExactMeasuresOfSaid : Prop := fnExactMeasuresOfRow.holds Try.pinned (OpenSpec.ofChange fnExactMeasuresOfSpec)

/-- ITS FALSE NEIGHBOUR: 'it returns false'. Refute it at one input. -/
def fnExactMeasuresOfWrong : ChangeSpec := { name := "fnExactMeasuresOf", fn := fun _ => fun
  | [d1, d2] => { results := [.lit (.bool false)], args := [d1, d2] }
  | _ => none }
def FnExactMeasuresOfWrongFalsely : Prop := fnExactMeasuresOfRow.holds Try.pinned (OpenSpec.ofChange fnExactMeasuresOfWrong)

/-- 'laws.FnExactEquationsOfGame': WHATEVER THE INPUT: true; the input reads as it did. -/
def fnExactEquationsOfGameSpec : ChangeSpec := { name := "fnExactEquationsOfGame", fn := fun _ => fun
  | [d] => { results := [.lit (.bool true)], args := [d] }
  | _ => none }
def fnExactEquationsOfGameRow : OpenClaim := { program := "ytcddkipbedfhkaa", sum := "483b02a6e78c45ff889fe1cae3f31dbb9956d3c7aa4dd05f1c2fcd71976f9199", func := "loop.example/g01075/laws.FnExactEquationsOfGame", spec := "fnExactEquationsOfGame", unfollowed := true, recurses := true, apart := false }
def FnExactEquationsOfGameSaid : Prop := fnExactEquationsOfGameRow.holds Try.pinned (OpenSpec.ofChange fnExactEquationsOfGameSpec)

/-- ITS FALSE NEIGHBOUR: 'it returns false'. Refute it at one input. -/
def fnExactEquationsOfGameWrong : ChangeSpec := { name := "fnExactEquationsOfGame", fn := fun _ => fun
  | [d] => { results := [.lit (.bool false)], args := [d] }
  | _ => none }
def FnExactEquationsOfGameWrongFalsely : Prop := fnExactEquationsOfGameRow.holds Try.pinned (OpenSpec.ofChange fnExactEquationsOfGameWrong)

/- THE SECOND FORM. 'bulk': how many values and letters a reading holds, each counted each time it is reached (what is shared counts as often as it is met; a slice's spare places count too). A statement '..UptoSaid' is the law's where the arguments, and the package variables that the reading takes, are together of bulk at most 1048576: NARROWER than '..Said'. Prove '..Said' where nothing that the law and all that it calls make is longer than what came in: it says more and counts as full. Else prove '..UptoSaid'. A law counts once. -/
mutual
def uptoBulk {H : Type} : DataW H → Nat
  | .lit (.string bytes) => bytes.length + 1
  | .lit _ => 1
  | .nil => 1
  | .ptr d => uptoBulk d + 1
  | .slice elems spare => uptoBulkAll elems + uptoBulkAll spare + 1
  | .agg parts => uptoBulkAll parts + 1
  | .iface _ d => uptoBulk d + 1
  | .map entries => uptoBulkEntries entries + 1
  | .held _ => 1
def uptoBulkAll {H : Type} : List (DataW H) → Nat
  | [] => 0
  | d :: r => uptoBulk d + uptoBulkAll r
def uptoBulkEntries {H : Type} : List (Lit × DataW H) → Nat
  | [] => 0
  | x :: r => uptoBulkEntry x + uptoBulkEntries r
def uptoBulkEntry {H : Type} : Lit × DataW H → Nat
  | (.string bytes, d) => bytes.length + uptoBulk d + 1
  | (_, d) => uptoBulk d + 1
 end
def uptoSmall : (H : Type) → List (DataW H) → Bool := fun _ ds => decide (uptoBulkAll ds ≤ 1048576)
def OpenSpec.upto (s : _root_.Go.ChangeSpec) : _root_.Go.OpenSpec := { _root_.Go.OpenSpec.ofChange s with cond := some uptoSmall }

/-- 'laws.FnExactIsMeasure', WHERE WHAT IT READS IS OF BULK AT MOST 1048576: true; the input reads as it did. -/
def fnExactIsMeasureUptoRow : OpenClaim := { program := "ytcddkipbedfhkaa", sum := "483b02a6e78c45ff889fe1cae3f31dbb9956d3c7aa4dd05f1c2fcd71976f9199", func := "loop.example/g01075/laws.FnExactIsMeasure", spec := "fnExactIsMeasure", unfollowed := true, recurses := true, apart := false, narrowed := true }
def FnExactIsMeasureUptoSaid : Prop := fnExactIsMeasureUptoRow.holds Try.pinned (OpenSpec.upto fnExactIsMeasureSpec)

/-- 'laws.FnExactMeasuresOf', WHERE WHAT IT READS IS OF BULK AT MOST 1048576: true; the input reads as it did. -/
def fnExactMeasuresOfUptoRow : OpenClaim := { program := "ytcddkipbedfhkaa", sum := "483b02a6e78c45ff889fe1cae3f31dbb9956d3c7aa4dd05f1c2fcd71976f9199", func := "loop.example/g01075/laws.FnExactMeasuresOf", spec := "fnExactMeasuresOf", unfollowed := true, recurses := true, apart := false, narrowed := true }
def FnExactMeasuresOfUptoSaid : Prop := fnExactMeasuresOfUptoRow.holds Try.pinned (OpenSpec.upto fnExactMeasuresOfSpec)

/-- 'laws.FnExactEquationsOfGame', WHERE WHAT IT READS IS OF BULK AT MOST 1048576: true; the input reads as it did. -/
def fnExactEquationsOfGameUptoRow : OpenClaim := { program := "ytcddkipbedfhkaa", sum := "483b02a6e78c45ff889fe1cae3f31dbb9956d3c7aa4dd05f1c2fcd71976f9199", func := "loop.example/g01075/laws.FnExactEquationsOfGame", spec := "fnExactEquationsOfGame", unfollowed := true, recurses := true, apart := false, narrowed := true }
def FnExactEquationsOfGameUptoSaid : Prop := fnExactEquationsOfGameUptoRow.holds Try.pinned (OpenSpec.upto fnExactEquationsOfGameSpec)

end Rows
end Go.Proofs.Ytcddkipbedfhkaa
