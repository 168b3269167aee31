/- Functions of the library, by the contracts of the shelf (printed by a program of this repo). -/
import Derived.Test.YtcddkipbedfhkaaF0
import Derived.Test.YtcddkipbedfhkaaGxT
import Derived.Test.YtcddkipbedfhkaaGxK
import Derived.Test.YtcddkipbedfhkaaShelf
namespace Go.Proofs.Ytcddkipbedfhkaa
open Go.RowKit Go.Gx

/-- slices.SortFunc, by the library's contract -/
def slices_SortFunc__int64_int64_m (_ : Nat) (a0 : List Int) (a1 : Int → Int → Option Int) : Option (List Int) := if sortOk a1 a0 = true then some (sortF a1 a0) else none
theorem slices_SortFunc__int64_int64_ok [dr : Dr] {w0 : World} {fuel : Nat} {p0 : Value} {a0 : List Int} {a1 : Int → Int → Option Int} {f1 : Nat} {fs1 cp1 : List Value} {w00 : World} {L : List Asrt} {r : List Int} (H : Heap w00 (oA (rList (rInt .i64)) p0 a0 :: L) w0)
    (hcf1 : ∀ args w, (callFunc f1 args).run Try.prog w = .ok (.enter f1 args) w)
    (hf1 : ∀ {w : World} {x0_ : Int} {x1_ : Int} {y : Int}, Heap w00 L w → a1 x0_ x1_ = some y → Calls Try.prog f1 (fs1 ++ ([.int .i64 x0_, .int .i64 x1_] : List Value) ++ cp1).toArray w fun e w' => e = .returned (.int .i64 y) ∧ Ext w w' ∧ w.drawn ≤ w'.drawn)
    (hm : slices_SortFunc__int64_int64_m fuel a0 a1 = some r) (hfs : fs1 = [] := by rfl) :
    Calls Try.prog 53 #[p0, .func (.func f1) fs1.toArray cp1.toArray] w0 fun e w => e = .returned (.tuple #[]) ∧ Heap w00 (oA (rList (rInt .i64)) p0 r :: L) w := by
  unfold slices_SortFunc__int64_int64_m at hm
  split at hm
  · rename_i hc
    cases hm
    subst hfs
    exact sortF_one (enc_int .i64) (fun enc' h1 cf hO blk off cap d w eg hcmp hH hb hs hT => Go.Proofs.Any.slices_SortFunc_total Try.lay53 enc' h1 cf hO f1 cp1.toArray blk off cap d w eg hcmp hH hb hs hT) (fun p cap w => Go.Proofs.AnyF.slices_SortFunc_none { Try.lay53 with } p cap _ w) hcf1 hf1 hc H
  · cases hm


/-- slices.Sort, by the library's contract -/
def slices_Sort__int64_int64_m (_ : Nat) (a0 : List Int) : Option (List Int) := if a0.length < 4611686018427387904 then some (a0.mergeSort fun x y => decide (x ≤ y)) else none
theorem slices_Sort__int64_int64_ok [dr : Dr] {w0 : World} {fuel : Nat} {p0 : Value} {a0 : List Int} {w00 : World} {L : List Asrt} {r : List Int} (H : Heap w00 (oA (rList (rInt .i64)) p0 a0 :: L) w0) (hm : slices_Sort__int64_int64_m fuel a0 = some r) :
    Calls Try.prog 99 #[p0] w0 fun e w => e = .returned (.tuple #[]) ∧ Heap w00 (oA (rList (rInt .i64)) p0 r :: L) w := by
  unfold slices_Sort__int64_int64_m at hm
  split at hm
  · rename_i hlt
    cases hm
    refine Enc.sorted (more := #[]) (srt := fun l : List Int => l.mergeSort fun x y => decide (x ≤ y)) (enc_int .i64) (fun l => by simp) (by simp) ?_ (fun g o cap hg hH _ => ?_) H
    · exact (Go.Proofs.AnyG.slices_Sort_int_none Try.lay99 none 0 _).mono fun e w ⟨he, hw⟩ => ⟨he, by subst hw; exact Heap.start _⟩
    · exact Go.Proofs.AnyG.slices_Sort_int Try.lay99 g o cap a0 w0 hH hg hlt
  · cases hm


/-- slices.Compact, by the library's contract -/
def slices_Compact__int64_int64_m (_ : Nat) (a0 : List Int) : Option (List Int) := some (Lib.compact a0)
theorem slices_Compact__int64_int64_ok [dr : Dr] {w0 : World} {fuel : Nat} {p0 : Value} {a0 : List Int} {w00 : World} {L : List Asrt} {r : List Int} (H : Heap w00 (oA (rList (rInt .i64)) p0 a0 :: L) w0) (hm : slices_Compact__int64_int64_m fuel a0 = some r) :
    Calls Try.prog 100 #[p0] w0 fun e w => ∃ v0, e = .returned v0 ∧ Heap w00 (oA (rList (rInt .i64)) v0 r :: L) w := by
  cases hm
  refine Enc.compacted (more := #[]) (cut := Lib.compact) (z := 0) (enc_int .i64) compact_len rfl ?_ (fun g o cap hg hnc hcm hH _ => ?_) H
  · exact Go.Proofs.AnyG.slices_Compact_int_empty Try.lay100 none 0 _
  · exact Go.Proofs.AnyG.slices_Compact_int Try.lay100 g o cap a0 w0 hH (by unfold maxLen at hcm; omega) hnc

end Go.Proofs.Ytcddkipbedfhkaa
