/-
  No cell of these rows narrows 'for every input' (looked for: loops, veiled, ifaces, maps, wideKeys, modest, calm, conditions, laid).
  DERIVED. THE GIVEN ROWS OF THIS SEAT. 10 by the template 'for every input the law returns true; each argument reads behind the call as it read before'; 0 by the template 'total and deterministic' (their statements: YtecknjdlbmmmiaaTotals.lean).
  GIVEN WITH THE SEED: the statements are not yours to turn. If you find one false, say at which input.
  Laid BY PROGRAM, IN A SANDBOX (cutbox-rows.mjs): the forced cells as the released guide's own fill.sh prints them over the translation 323e5d0b73340e49… (all of the seat's roots in one cut). By AI agents, Wed Nov 11 2026. No macro, syntax, notation, axiom, sorry.
-/
import Derived.Test.YtecknjdlbmmmiaaChecked
import GoSem.Claim
import GoSem.ClaimJoined
import GoSem.ClaimMapViews
import Derived.JoinedTies
import Derived.KernelRfl
namespace Go.Proofs.Ytecknjdlbmmmiaa
/- THE CELL 'sum', in the pinned program and in every row, IS THE sha256 OF THE DUMP (.gsa) THAT YtecknjdlbmmmiaaProg.lean LOADS. Nothing in Lean hashes anything: it is a label: what it is worth is what the hold of that sum in a sandbox is worth. -/
noncomputable def Try.pinned : Pinned := { name := "ytecknjdlbmmmiaa", sum := "323e5d0b73340e497ee44f5c035bbc64423e56419e6f4073d2eec18ed951752a", checked := Try.checked }
namespace Rows
def none {H : Type} : Left H := { results := [], args := [] }

/-- 'laws.FnExactIsWinningStrategy': WHATEVER THE INPUT: true; the input reads as it did. -/
def fnExactIsWinningStrategySpec : ChangeSpec := { name := "fnExactIsWinningStrategy", fn := fun _ => fun
  | [d1, d2, d3, d4] => { results := [.lit (.bool true)], args := [d1, d2, d3, d4] }
  | _ => none }
def fnExactIsWinningStrategyRow : OpenClaim := { program := "ytecknjdlbmmmiaa", sum := "323e5d0b73340e497ee44f5c035bbc64423e56419e6f4073d2eec18ed951752a", func := "loop.example/g01075/laws.FnExactIsWinningStrategy", spec := "fnExactIsWinningStrategy", unfollowed := true, recurses := true, apart := false }
def FnExactIsWinningStrategySaid : Prop := fnExactIsWinningStrategyRow.holds Try.pinned (OpenSpec.ofChange fnExactIsWinningStrategySpec)

/-- ITS FALSE NEIGHBOUR: 'it returns false'. Refute it at one input. -/
def fnExactIsWinningStrategyWrong : ChangeSpec := { name := "fnExactIsWinningStrategy", fn := fun _ => fun
  | [d1, d2, d3, d4] => { results := [.lit (.bool false)], args := [d1, d2, d3, d4] }
  | _ => none }
def FnExactIsWinningStrategyWrongFalsely : Prop := fnExactIsWinningStrategyRow.holds Try.pinned (OpenSpec.ofChange fnExactIsWinningStrategyWrong)

/-- 'laws.FnExactGameOf': WHATEVER THE INPUT: true; the input reads as it did. -/
def fnExactGameOfSpec : ChangeSpec := { name := "fnExactGameOf", fn := fun _ => fun
  | [d] => { results := [.lit (.bool true)], args := [d] }
  | _ => none }
def fnExactGameOfRow : OpenClaim := { program := "ytecknjdlbmmmiaa", sum := "323e5d0b73340e497ee44f5c035bbc64423e56419e6f4073d2eec18ed951752a", func := "loop.example/g01075/laws.FnExactGameOf", spec := "fnExactGameOf", unfollowed := true, recurses := true, apart := false }
def FnExactGameOfSaid : Prop := fnExactGameOfRow.holds Try.pinned (OpenSpec.ofChange fnExactGameOfSpec)

/-- ITS FALSE NEIGHBOUR: 'it returns false'. Refute it at one input. -/
def fnExactGameOfWrong : ChangeSpec := { name := "fnExactGameOf", fn := fun _ => fun
  | [d] => { results := [.lit (.bool false)], args := [d] }
  | _ => none }
def FnExactGameOfWrongFalsely : Prop := fnExactGameOfRow.holds Try.pinned (OpenSpec.ofChange fnExactGameOfWrong)

/-- 'laws.FnExactDecidedEquations': WHATEVER THE INPUT: true; the input reads as it did. -/
def fnExactDecidedEquationsSpec : ChangeSpec := { name := "fnExactDecidedEquations", fn := fun _ => fun
  | [d] => { results := [.lit (.bool true)], args := [d] }
  | _ => none }
def fnExactDecidedEquationsRow : OpenClaim := { program := "ytecknjdlbmmmiaa", sum := "323e5d0b73340e497ee44f5c035bbc64423e56419e6f4073d2eec18ed951752a", func := "loop.example/g01075/laws.FnExactDecidedEquations", spec := "fnExactDecidedEquations", unfollowed := true, recurses := true, apart := false }
def FnExactDecidedEquationsSaid : Prop := fnExactDecidedEquationsRow.holds Try.pinned (OpenSpec.ofChange fnExactDecidedEquationsSpec)

/-- ITS FALSE NEIGHBOUR: 'it returns false'. Refute it at one input. -/
def fnExactDecidedEquationsWrong : ChangeSpec := { name := "fnExactDecidedEquations", fn := fun _ => fun
  | [d] => { results := [.lit (.bool false)], args := [d] }
  | _ => none }
def FnExactDecidedEquationsWrongFalsely : Prop := fnExactDecidedEquationsRow.holds Try.pinned (OpenSpec.ofChange fnExactDecidedEquationsWrong)

/-- 'laws.FnExactIsMeasure': WHATEVER THE INPUT: true; the input reads as it did. -/
def fnExactIsMeasureSpec : ChangeSpec := { name := "fnExactIsMeasure", fn := fun _ => fun
  | [d1, d2, d3] => { results := [.lit (.bool true)], args := [d1, d2, d3] }
  | _ => none }
def fnExactIsMeasureRow : OpenClaim := { program := "ytecknjdlbmmmiaa", sum := "323e5d0b73340e497ee44f5c035bbc64423e56419e6f4073d2eec18ed951752a", func := "loop.example/g01075/laws.FnExactIsMeasure", spec := "fnExactIsMeasure", unfollowed := true, recurses := true, apart := false }
def FnExactIsMeasureSaid : Prop := fnExactIsMeasureRow.holds Try.pinned (OpenSpec.ofChange fnExactIsMeasureSpec)

/-- ITS FALSE NEIGHBOUR: 'it returns false'. Refute it at one input. -/
def fnExactIsMeasureWrong : ChangeSpec := { name := "fnExactIsMeasure", fn := fun _ => fun
  | [d1, d2, d3] => { results := [.lit (.bool false)], args := [d1, d2, d3] }
  | _ => none }
def FnExactIsMeasureWrongFalsely : Prop := fnExactIsMeasureRow.holds Try.pinned (OpenSpec.ofChange fnExactIsMeasureWrong)

/-- 'laws.FnExactMeasuresOf': WHATEVER THE INPUT: true; the input reads as it did. -/
def fnExactMeasuresOfSpec : ChangeSpec := { name := "fnExactMeasuresOf", fn := fun _ => fun
  | [d1, d2] => { results := [.lit (.bool true)], args := [d1, d2] }
  | _ => none }
def fnExactMeasuresOfRow : OpenClaim := { program := "ytecknjdlbmmmiaa", sum := "323e5d0b73340e497ee44f5c035bbc64423e56419e6f4073d2eec18ed951752a", func := "loop.example/g01075/laws.FnExactMeasuresOf", spec := "fnExactMeasuresOf", unfollowed := true, recurses := true, apart := false }
def FnExactMeasuresOfSaid : Prop := fnExactMeasuresOfRow.holds Try.pinned (OpenSpec.ofChange fnExactMeasuresOfSpec)

/-- ITS FALSE NEIGHBOUR: 'it returns false'. Refute it at one input. -/
def fnExactMeasuresOfWrong : ChangeSpec := { name := "fnExactMeasuresOf", fn := fun _ => fun
  | [d1, d2] => { results := [.lit (.bool false)], args := [d1, d2] }
  | _ => none }
def FnExactMeasuresOfWrongFalsely : Prop := fnExactMeasuresOfRow.holds Try.pinned (OpenSpec.ofChange fnExactMeasuresOfWrong)

/-- 'laws.FnExactRelevantEquations': WHATEVER THE INPUT: true; the input reads as it did. -/
def fnExactRelevantEquationsSpec : ChangeSpec := { name := "fnExactRelevantEquations", fn := fun _ => fun
  | [d1, d2] => { results := [.lit (.bool true)], args := [d1, d2] }
  | _ => none }
def fnExactRelevantEquationsRow : OpenClaim := { program := "ytecknjdlbmmmiaa", sum := "323e5d0b73340e497ee44f5c035bbc64423e56419e6f4073d2eec18ed951752a", func := "loop.example/g01075/laws.FnExactRelevantEquations", spec := "fnExactRelevantEquations", unfollowed := true, recurses := true, apart := false }
def FnExactRelevantEquationsSaid : Prop := fnExactRelevantEquationsRow.holds Try.pinned (OpenSpec.ofChange fnExactRelevantEquationsSpec)

/-- ITS FALSE NEIGHBOUR: 'it returns false'. Refute it at one input. -/
def fnExactRelevantEquationsWrong : ChangeSpec := { name := "fnExactRelevantEquations", fn := fun _ => fun
  | [d1, d2] => { results := [.lit (.bool false)], args := [d1, d2] }
  | _ => none }
def FnExactRelevantEquationsWrongFalsely : Prop := fnExactRelevantEquationsRow.holds Try.pinned (OpenSpec.ofChange fnExactRelevantEquationsWrong)

/-- 'laws.FnExactSubGame': WHATEVER THE INPUT: true; the input reads as it did. -/
def fnExactSubGameSpec : ChangeSpec := { name := "fnExactSubGame", fn := fun _ => fun
  | [d1, d2] => { results := [.lit (.bool true)], args := [d1, d2] }
  | _ => none }
def fnExactSubGameRow : OpenClaim := { program := "ytecknjdlbmmmiaa", sum := "323e5d0b73340e497ee44f5c035bbc64423e56419e6f4073d2eec18ed951752a", func := "loop.example/g01075/laws.FnExactSubGame", spec := "fnExactSubGame", unfollowed := true, recurses := true, apart := false }
def FnExactSubGameSaid : Prop := fnExactSubGameRow.holds Try.pinned (OpenSpec.ofChange fnExactSubGameSpec)

/-- ITS FALSE NEIGHBOUR: 'it returns false'. Refute it at one input. -/
def fnExactSubGameWrong : ChangeSpec := { name := "fnExactSubGame", fn := fun _ => fun
  | [d1, d2] => { results := [.lit (.bool false)], args := [d1, d2] }
  | _ => none }
def FnExactSubGameWrongFalsely : Prop := fnExactSubGameRow.holds Try.pinned (OpenSpec.ofChange fnExactSubGameWrong)

/-- 'laws.FnExactCompressPriorities': WHATEVER THE INPUT: true; the input reads as it did. -/
def fnExactCompressPrioritiesSpec : ChangeSpec := { name := "fnExactCompressPriorities", fn := fun _ => fun
  | [d] => { results := [.lit (.bool true)], args := [d] }
  | _ => none }
def fnExactCompressPrioritiesRow : OpenClaim := { program := "ytecknjdlbmmmiaa", sum := "323e5d0b73340e497ee44f5c035bbc64423e56419e6f4073d2eec18ed951752a", func := "loop.example/g01075/laws.FnExactCompressPriorities", spec := "fnExactCompressPriorities", unfollowed := true, recurses := true, apart := false }
def FnExactCompressPrioritiesSaid : Prop := fnExactCompressPrioritiesRow.holds Try.pinned (OpenSpec.ofChange fnExactCompressPrioritiesSpec)

/-- ITS FALSE NEIGHBOUR: 'it returns false'. Refute it at one input. -/
def fnExactCompressPrioritiesWrong : ChangeSpec := { name := "fnExactCompressPriorities", fn := fun _ => fun
  | [d] => { results := [.lit (.bool false)], args := [d] }
  | _ => none }
def FnExactCompressPrioritiesWrongFalsely : Prop := fnExactCompressPrioritiesRow.holds Try.pinned (OpenSpec.ofChange fnExactCompressPrioritiesWrong)

/-- 'laws.FnExactRestrictEquations': WHATEVER THE INPUT: true; the input reads as it did. -/
def fnExactRestrictEquationsSpec : ChangeSpec := { name := "fnExactRestrictEquations", fn := fun _ => fun
  | [d1, d2] => { results := [.lit (.bool true)], args := [d1, d2] }
  | _ => none }
def fnExactRestrictEquationsRow : OpenClaim := { program := "ytecknjdlbmmmiaa", sum := "323e5d0b73340e497ee44f5c035bbc64423e56419e6f4073d2eec18ed951752a", func := "loop.example/g01075/laws.FnExactRestrictEquations", spec := "fnExactRestrictEquations", unfollowed := true, recurses := true, apart := false }
def FnExactRestrictEquationsSaid : Prop := fnExactRestrictEquationsRow.holds Try.pinned (OpenSpec.ofChange fnExactRestrictEquationsSpec)

/-- ITS FALSE NEIGHBOUR: 'it returns false'. Refute it at one input. -/
def fnExactRestrictEquationsWrong : ChangeSpec := { name := "fnExactRestrictEquations", fn := fun _ => fun
  | [d1, d2] => { results := [.lit (.bool false)], args := [d1, d2] }
  | _ => none }
def FnExactRestrictEquationsWrongFalsely : Prop := fnExactRestrictEquationsRow.holds Try.pinned (OpenSpec.ofChange fnExactRestrictEquationsWrong)

/-- 'laws.FnExactEquationsOfGame': WHATEVER THE INPUT: true; the input reads as it did. -/
def fnExactEquationsOfGameSpec : ChangeSpec := { name := "fnExactEquationsOfGame", fn := fun _ => fun
  | [d] => { results := [.lit (.bool true)], args := [d] }
  | _ => none }
def fnExactEquationsOfGameRow : OpenClaim := { program := "ytecknjdlbmmmiaa", sum := "323e5d0b73340e497ee44f5c035bbc64423e56419e6f4073d2eec18ed951752a", func := "loop.example/g01075/laws.FnExactEquationsOfGame", spec := "fnExactEquationsOfGame", unfollowed := true, recurses := true, apart := false }
def FnExactEquationsOfGameSaid : Prop := fnExactEquationsOfGameRow.holds Try.pinned (OpenSpec.ofChange fnExactEquationsOfGameSpec)

/-- ITS FALSE NEIGHBOUR: 'it returns false'. Refute it at one input. -/
def fnExactEquationsOfGameWrong : ChangeSpec := { name := "fnExactEquationsOfGame", fn := fun _ => fun
  | [d] => { results := [.lit (.bool false)], args := [d] }
  | _ => none }
def FnExactEquationsOfGameWrongFalsely : Prop := fnExactEquationsOfGameRow.holds Try.pinned (OpenSpec.ofChange fnExactEquationsOfGameWrong)

/- THE SECOND FORM. 'bulk': how many values and letters a reading holds, each counted each time it is reached (what is shared counts as often as it is met; a slice's spare places count too). A statement '..UptoSaid' is the law's where the arguments, and the package variables that the reading takes, are together of bulk at most 1048576: NARROWER than '..Said'. Prove '..Said' where nothing that the law and all that it calls make is longer than what came in: it says more and counts as full. Else prove '..UptoSaid'. A law counts once. -/
mutual
def uptoBulk {H : Type} : DataW H → Nat
  | .lit (.string bytes) => bytes.length + 1
  | .lit _ => 1
  | .nil => 1
  | .ptr d => uptoBulk d + 1
  | .slice elems spare => uptoBulkAll elems + uptoBulkAll spare + 1
  | .agg parts => uptoBulkAll parts + 1
  | .iface _ d => uptoBulk d + 1
  | .map entries => uptoBulkEntries entries + 1
  | .held _ => 1
def uptoBulkAll {H : Type} : List (DataW H) → Nat
  | [] => 0
  | d :: r => uptoBulk d + uptoBulkAll r
def uptoBulkEntries {H : Type} : List (Lit × DataW H) → Nat
  | [] => 0
  | x :: r => uptoBulkEntry x + uptoBulkEntries r
def uptoBulkEntry {H : Type} : Lit × DataW H → Nat
  | (.string bytes, d) => bytes.length + uptoBulk d + 1
  | (_, d) => uptoBulk d + 1
 end
def uptoSmall : (H : Type) → List (DataW H) → Bool := fun _ ds => decide (uptoBulkAll ds ≤ 1048576)
def OpenSpec.upto (s : _root_.Go.ChangeSpec) : _root_.Go.OpenSpec := { _root_.Go.OpenSpec.ofChange s with cond := some uptoSmall }

/-- 'laws.FnExactIsWinningStrategy', WHERE WHAT IT READS IS OF BULK AT MOST 1048576: true; the input reads as it did. -/
def fnExactIsWinningStrategyUptoRow : OpenClaim := { program := "ytecknjdlbmmmiaa", sum := "323e5d0b73340e497ee44f5c035bbc64423e56419e6f4073d2eec18ed951752a", func := "loop.example/g01075/laws.FnExactIsWinningStrategy", spec := "fnExactIsWinningStrategy", unfollowed := true, recurses := true, apart := false, narrowed := true }
def FnExactIsWinningStrategyUptoSaid : Prop := fnExactIsWinningStrategyUptoRow.holds Try.pinned (OpenSpec.upto fnExactIsWinningStrategySpec)

/-- 'laws.FnExactGameOf', WHERE WHAT IT READS IS OF BULK AT MOST 1048576: true; the input reads as it did. -/
def fnExactGameOfUptoRow : OpenClaim := { program := "ytecknjdlbmmmiaa", sum := "323e5d0b73340e497ee44f5c035bbc64423e56419e6f4073d2eec18ed951752a", func := "loop.example/g01075/laws.FnExactGameOf", spec := "fnExactGameOf", unfollowed := true, recurses := true, apart := false, narrowed := true }
def FnExactGameOfUptoSaid : Prop := fnExactGameOfUptoRow.holds Try.pinned (OpenSpec.upto fnExactGameOfSpec)

/-- 'laws.FnExactDecidedEquations', WHERE WHAT IT READS IS OF BULK AT MOST 1048576: true; the input reads as it did. -/
def fnExactDecidedEquationsUptoRow : OpenClaim := { program := "ytecknjdlbmmmiaa", sum := "323e5d0b73340e497ee44f5c035bbc64423e56419e6f4073d2eec18ed951752a", func := "loop.example/g01075/laws.FnExactDecidedEquations", spec := "fnExactDecidedEquations", unfollowed := true, recurses := true, apart := false, narrowed := true }
def FnExactDecidedEquationsUptoSaid : Prop := fnExactDecidedEquationsUptoRow.holds Try.pinned (OpenSpec.upto fnExactDecidedEquationsSpec)

/-- 'laws.FnExactIsMeasure', WHERE WHAT IT READS IS OF BULK AT MOST 1048576: true; the input reads as it did. -/
def fnExactIsMeasureUptoRow : OpenClaim := { program := "ytecknjdlbmmmiaa", sum := "323e5d0b73340e497ee44f5c035bbc64423e56419e6f4073d2eec18ed951752a", func := "loop.example/g01075/laws.FnExactIsMeasure", spec := "fnExactIsMeasure", unfollowed := true, recurses := true, apart := false, narrowed := true }
def FnExactIsMeasureUptoSaid : Prop := fnExactIsMeasureUptoRow.holds Try.pinned (OpenSpec.upto fnExactIsMeasureSpec)

/-- 'laws.FnExactMeasuresOf', WHERE WHAT IT READS IS OF BULK AT MOST 1048576: true; the input reads as it did. -/
def fnExactMeasuresOfUptoRow : OpenClaim := { program := "ytecknjdlbmmmiaa", sum := "323e5d0b73340e497ee44f5c035bbc64423e56419e6f4073d2eec18ed951752a", func := "loop.example/g01075/laws.FnExactMeasuresOf", spec := "fnExactMeasuresOf", unfollowed := true, recurses := true, apart := false, narrowed := true }
def FnExactMeasuresOfUptoSaid : Prop := fnExactMeasuresOfUptoRow.holds Try.pinned (OpenSpec.upto fnExactMeasuresOfSpec)

/-- 'laws.FnExactRelevantEquations', WHERE WHAT IT READS IS OF BULK AT MOST 1048576: true; the input reads as it did. -/
def fnExactRelevantEquationsUptoRow : OpenClaim := { program := "ytecknjdlbmmmiaa", sum := "323e5d0b73340e497ee44f5c035bbc64423e56419e6f4073d2eec18ed951752a", func := "loop.example/g01075/laws.FnExactRelevantEquations", spec := "fnExactRelevantEquations", unfollowed := true, recurses := true, apart := false, narrowed := true }
def FnExactRelevantEquationsUptoSaid : Prop := fnExactRelevantEquationsUptoRow.holds Try.pinned (OpenSpec.upto fnExactRelevantEquationsSpec)

/-- 'laws.FnExactSubGame', WHERE WHAT IT READS IS OF BULK AT MOST 1048576: true; the input reads as it did. -/
def fnExactSubGameUptoRow : OpenClaim := { program := "ytecknjdlbmmmiaa", sum := "323e5d0b73340e497ee44f5c035bbc64423e56419e6f4073d2eec18ed951752a", func := "loop.example/g01075/laws.FnExactSubGame", spec := "fnExactSubGame", unfollowed := true, recurses := true, apart := false, narrowed := true }
def FnExactSubGameUptoSaid : Prop := fnExactSubGameUptoRow.holds Try.pinned (OpenSpec.upto fnExactSubGameSpec)

/-- 'laws.FnExactCompressPriorities', WHERE WHAT IT READS IS OF BULK AT MOST 1048576: true; the input reads as it did. -/
def fnExactCompressPrioritiesUptoRow : OpenClaim := { program := "ytecknjdlbmmmiaa", sum := "323e5d0b73340e497ee44f5c035bbc64423e56419e6f4073d2eec18ed951752a", func := "loop.example/g01075/laws.FnExactCompressPriorities", spec := "fnExactCompressPriorities", unfollowed := true, recurses := true, apart := false, narrowed := true }
def FnExactCompressPrioritiesUptoSaid : Prop := fnExactCompressPrioritiesUptoRow.holds Try.pinned (OpenSpec.upto fnExactCompressPrioritiesSpec)

/-- 'laws.FnExactRestrictEquations', WHERE WHAT IT READS IS OF BULK AT MOST 1048576: true; the input reads as it did. -/
def fnExactRestrictEquationsUptoRow : OpenClaim := { program := "ytecknjdlbmmmiaa", sum := "323e5d0b73340e497ee44f5c035bbc64423e56419e6f4073d2eec18ed951752a", func := "loop.example/g01075/laws.FnExactRestrictEquations", spec := "fnExactRestrictEquations", unfollowed := true, recurses := true, apart := false, narrowed := true }
def FnExactRestrictEquationsUptoSaid : Prop := fnExactRestrictEquationsUptoRow.holds Try.pinned (OpenSpec.upto fnExactRestrictEquationsSpec)

/-- 'laws.FnExactEquationsOfGame', WHERE WHAT IT READS IS OF BULK AT MOST 1048576: true; the input reads as it did. -/
def fnExactEquationsOfGameUptoRow : OpenClaim := { program := "ytecknjdlbmmmiaa", sum := "323e5d0b73340e497ee44f5c035bbc64423e56419e6f4073d2eec18ed951752a", func := "loop.example/g01075/laws.FnExactEquationsOfGame", spec := "fnExactEquationsOfGame", unfollowed := true, recurses := true, apart := false, narrowed := true }
def FnExactEquationsOfGameUptoSaid : Prop := fnExactEquationsOfGameUptoRow.holds Try.pinned (OpenSpec.upto fnExactEquationsOfGameSpec)

end Rows
end Go.Proofs.Ytecknjdlbmmmiaa
