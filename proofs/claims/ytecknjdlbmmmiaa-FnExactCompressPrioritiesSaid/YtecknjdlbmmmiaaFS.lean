/- Functions of the library, by the contracts of the shelf (printed by a program of this repo). -/
import Derived.Test.YtecknjdlbmmmiaaF0
import Derived.Test.YtecknjdlbmmmiaaGxT
import Derived.Test.YtecknjdlbmmmiaaGxMx
import Derived.Test.YtecknjdlbmmmiaaShelf
namespace Go.Proofs.Ytecknjdlbmmmiaa
open Go.RowKit Go.Gx

/-- math/bits.Mul of small numbers, by the library's contract -/
def math_bits_Mul_m (_ : Nat) (x y : Int) : Option (Int × Int) := if 0 ≤ x ∧ 0 ≤ y ∧ x < 18446744073709551616 ∧ y < 18446744073709551616 ∧ x * y < 18446744073709551616 then some (0, x * y) else none
theorem math_bits_Mul_ok {w0 : World} {fuel : Nat} {a0 a1 : Int} {r : Int × Int} (hm : math_bits_Mul_m fuel a0 a1 = some r) :
    Calls Try.prog 123 #[.int .u64 a0, .int .u64 a1] w0 fun e w => e = .returned (.tuple #[.int .u64 r.1, .int .u64 r.2]) ∧ Heap w0 [] w := by
  unfold math_bits_Mul_m at hm
  split at hm
  · rename_i h
    obtain ⟨h0, h1, h2, h3, h4⟩ := h
    cases hm
    obtain ⟨x, rfl⟩ := Int.eq_ofNat_of_zero_le h0
    obtain ⟨y, rfl⟩ := Int.eq_ofNat_of_zero_le h1
    have h4' : x * y < 18446744073709551616 := by have : ((x * y : Nat) : Int) < 18446744073709551616 := by rw [Int.natCast_mul]; exact h4
                                                  omega
    refine (Go.Proofs.Any.bits_Mul Try.lay123 x y (by omega) (by omega) w0).mono ?_
    rintro e w ⟨rfl, rfl⟩
    refine ⟨?_, Heap.start _⟩
    rw [Nat.div_eq_of_lt h4', Nat.mod_eq_of_lt h4', Int.natCast_mul]
    rfl
  · cases hm


/-- slices.Sort, by the library's contract -/
def slices_Sort__int64_int64_m (_ : Nat) (a0 : List Int) : Option (List Int) := if a0.length < 4611686018427387904 then some (a0.mergeSort fun x y => decide (x ≤ y)) else none
theorem slices_Sort__int64_int64_ok {w0 : World} {fuel : Nat} {p0 : Value} {a0 : List Int} {w00 : World} {L : List Asrt} {r : List Int} (H : Heap w00 (oA (rList (rInt .i64)) p0 a0 :: L) w0) (hm : slices_Sort__int64_int64_m fuel a0 = some r) :
    Calls Try.prog 133 #[p0] w0 fun e w => e = .returned (.tuple #[]) ∧ Heap w00 (oA (rList (rInt .i64)) p0 r :: L) w := by
  unfold slices_Sort__int64_int64_m at hm
  split at hm
  · rename_i hlt
    cases hm
    refine Enc.sorted (more := #[]) (srt := fun l : List Int => l.mergeSort fun x y => decide (x ≤ y)) (enc_int .i64) (fun l => by simp) (by simp) ?_ (fun g o cap hg hH _ => ?_) H
    · exact (Go.Proofs.AnyG.slices_Sort_int_none Try.lay133 none 0 _).mono fun e w ⟨he, hw⟩ => ⟨he, by subst hw; exact Heap.start _⟩
    · exact Go.Proofs.AnyG.slices_Sort_int Try.lay133 g o cap a0 w0 hH hg hlt
  · cases hm


/-- slices.Compact, by the library's contract -/
def slices_Compact__int64_int64_m (_ : Nat) (a0 : List Int) : Option (List Int) := some (Lib.compact a0)
theorem slices_Compact__int64_int64_ok {w0 : World} {fuel : Nat} {p0 : Value} {a0 : List Int} {w00 : World} {L : List Asrt} {r : List Int} (H : Heap w00 (oA (rList (rInt .i64)) p0 a0 :: L) w0) (hm : slices_Compact__int64_int64_m fuel a0 = some r) :
    Calls Try.prog 134 #[p0] w0 fun e w => ∃ v0, e = .returned v0 ∧ Heap w00 (oA (rList (rInt .i64)) v0 r :: L) w := by
  cases hm
  refine Enc.compacted (more := #[]) (cut := Lib.compact) (z := 0) (enc_int .i64) compact_len rfl ?_ (fun g o cap hg hnc hcm hH _ => ?_) H
  · exact Go.Proofs.AnyG.slices_Compact_int_empty Try.lay134 none 0 _
  · exact Go.Proofs.AnyG.slices_Compact_int Try.lay134 g o cap a0 w0 hH (by unfold maxLen at hcm; omega) hnc


/-- slices.Clone of vertices: their lists are read still -/
def slices_Clone__impl_Vertex_impl_Vertex_m (_ : Nat) (a0 : List Timpl_Vertex) : Option (List (Int × Int × Mx (List Int))) := (app ([] : List (Int × Int × Mx (List Int))) (a0.map fun x => (x.1, x.2.1, Mx.rd x.2.2))).bind fun x => some x
theorem slices_Clone__impl_Vertex_impl_Vertex_ok {w0 : World} {fuel : Nat} {p0 : Value} {a0 : List Timpl_Vertex} {r : List (Int × Int × Mx (List Int))} (h0 : Rd (rList Rimpl_Vertex) w0 p0 a0) (hm : slices_Clone__impl_Vertex_impl_Vertex_m fuel a0 = some r) :
    Calls Try.prog 135 #[p0] w0 fun e w => ∃ v0, e = .returned v0 ∧ Heap w0 [oA (rList (rProd (rInt .i64) (rProd (rInt .i64) (rMx w0 (rList (rInt .i64)))))) v0 r] w := by
  unfold slices_Clone__impl_Vertex_impl_Vertex_m at hm
  have H := Heap.start w0
  refine enter (args := [p0]) Try.func135 rfl 8 rfl (Nat.le_of_ble_eq_true rfl) (fun a S => ?_)
  refine wp_seq (region_plain ?_)
  refine lq (.slice none 0 0) S (q_assign rfl) fun a S => ?_
  refine lx_nil (thenN ?_)
  refine wp_seq (wp_seq (region_plain ?_))
  refine lq p0 S (q_move rfl) fun a S => ?_
  obtain ⟨bn31, hqn, hb32⟩ := ((H.arg h0)).isNil (P := Try.prog) Try.underlying26
  refine lq (.bool bn31) S (hqn rfl rfl) fun a S => ?_
  refine lx_nil (thenN ?_)
  refine cond_b S rfl (fun hc33 => ?_) (fun hc33 => ?_)
  · obtain rfl := hb32 hc33
    replace hm : some [] = some r := by simpa [app] using hm
    refine wp_seq (region_plain ?_)
    refine lq (.slice none 0 0) S (q_assign rfl) fun a S => ?_
    refine lx_nil (thenN ?_)
    refine wp_ret (then_ret ?_)
    obtain rfl := Option.some.inj hm
    exact leave1 S rfl rfl ⟨(.slice none 0 0), rfl, H.nilList (rProd (rInt .i64) (rProd (rInt .i64) (rMx w0 (rList (rInt .i64)))))⟩
  · skip
    refine wp_skip (thenN ?_)
    refine wp_seq (region_plain ?_)
    refine lx_buildSlice0 (r := rProd (rInt .i64) (rProd (rInt .i64) (rMx w0 (rList (rInt .i64))))) S trivial (by decide) rfl H Try.underlying26 Try.sizeOf71 (fun v35 w36 H => ⟨trivial, fun a S => ?_⟩)
    refine lq p0 S (q_move rfl) fun a S => ?_
    obtain ⟨x38, e39, hm⟩ := bind_some hm
    obtain ⟨hle, hap⟩ := app_some e39
    replace hap := hap.symm
    subst hap
    rw [List.length_map] at hle
    refine lx_appendFl (r := Rimpl_Vertex) (rm := rProd (rInt .i64) (rProd (rInt .i64) (rMx w0 (rList (rInt .i64))))) (gm := fun x => (x.1, x.2.1, Mx.rd x.2.2)) S trivial (by decide) rfl H (Fl.prod (Fl.flat (flat_int _)) (Fl.prod (Fl.flat (flat_int _)) Fl.mx)) h0 rfl rfl Try.underlying26 Try.ti71 rfl rfl rfl (Nat.le_of_ble_eq_true rfl) (by decide) hle (fun v40 w41 H => ⟨trivial, fun a S => ?_⟩)
    refine lq v40 S (q_assign rfl) fun a S => ?_
    refine lx_nil (thenN ?_)
    refine wp_ret ?_
    obtain rfl := Option.some.inj hm
    exact leave1 S rfl rfl ⟨v40, rfl, H⟩
end Go.Proofs.Ytecknjdlbmmmiaa
