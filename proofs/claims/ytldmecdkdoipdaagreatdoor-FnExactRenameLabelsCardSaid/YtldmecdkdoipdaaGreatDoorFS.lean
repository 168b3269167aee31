/- Functions of the library, by the contracts of the shelf (printed by a program of this repo). -/
import Derived.Test.YtldmecdkdoipdaaGreatDoorF0
import Derived.Test.YtldmecdkdoipdaaGreatDoorGxT
import Derived.Test.YtldmecdkdoipdaaGreatDoorGxX
import Derived.Test.YtldmecdkdoipdaaGreatDoorGxJn
import Derived.Test.YtldmecdkdoipdaaGreatDoorGxK
import Derived.Test.YtldmecdkdoipdaaGreatDoorGxKk
import Derived.Test.YtldmecdkdoipdaaGreatDoorShelf
namespace Go.Proofs.YtldmecdkdoipdaaGreatDoor
open Go.RowKit Go.Gx

/-- strings.Cut -/
def strings_Cut_m (_ : Nat) (a0 : Str) (a1 : Str) : Option (Str × Str × Bool) := if a0.length < 4294967281 then some (Lib.cut a0 a1) else none
theorem strings_Cut_ok [dr : Dr] {w0 : World} {fuel : Nat} {a0 : Str} {a1 : Str} {r : Str × Str × Bool} (hG : Glob Tryz.prog w0) (hm : strings_Cut_m fuel a0 a1 = some r) :
    Calls Tryz.prog 67 #[sv a0, sv a1] w0 fun e w => e = .returned (.tuple #[sv r.1, sv r.2.1, .bool r.2.2]) ∧ Heap w0 [] w := by
  unfold strings_Cut_m at hm
  split at hm
  · rename_i hc
    cases hm
    refine (Go.Proofs.Any.strings_Cut_shaped Tryz.lay67 (⟨a0.toArray⟩ : ByteArray) (⟨a1.toArray⟩ : ByteArray) w0 hG.shaped (by rw [size_sv]; exact hc)).mono ?_
    rintro e w ⟨rfl, n, rfl⟩
    exact ⟨rfl, Heap.of_ext (ext_drewN _ _)⟩
  · cases hm


/-- strings.Split at a separator -/
def strings_Split_m (_ : Nat) (a0 a1 : Str) : Option (List Str) := if a0.length < 4294967281 ∧ 1 ≤ a1.length ∧ (Lib.splitB ⟨a1.toArray⟩ 0 (Lib.countB ⟨a0.toArray⟩ ⟨a1.toArray⟩) ⟨a0.toArray⟩).length = Lib.countB ⟨a0.toArray⟩ ⟨a1.toArray⟩ + 1 ∧ Lib.countB ⟨a0.toArray⟩ ⟨a1.toArray⟩ + 1 ≤ maxLen then some ((Lib.splitB ⟨a1.toArray⟩ 0 (Lib.countB ⟨a0.toArray⟩ ⟨a1.toArray⟩) ⟨a0.toArray⟩).map (·.data.toList)) else none
theorem strings_Split_ok [dr : Dr] {w0 : World} {fuel : Nat} {a0 a1 : Str} {r : List Str} (hG : Glob Tryz.prog w0) (hm : strings_Split_m fuel a0 a1 = some r) :
    Calls Tryz.prog 69 #[sv a0, sv a1] w0 fun e w => ∃ v0, e = .returned v0 ∧ Heap w0 [oA (rList rStr) v0 r] w := by
  unfold strings_Split_m at hm
  split at hm
  · rename_i hc
    obtain ⟨h1, h2, h3, h4⟩ := hc
    cases hm
    refine (Go.Proofs.Any.strings_Split_shaped Tryz.lay69 ⟨a0.toArray⟩ ⟨a1.toArray⟩ w0 hG.shaped (by rw [size_sv]; exact h1) (by rw [size_sv]; exact h2)).mono ?_
    rintro e w ⟨rfl, rfl⟩
    exact ⟨_, rfl, own_strs (by rw [List.length_map]; exact h3) h4 _ (by rw [List.map_map]; exact List.map_congr_left fun b _ => sv_of b)⟩
  · cases hm


/-- strings.TrimSuffix -/
def strings_TrimSuffix_m (_ : Nat) (a0 : Str) (a1 : Str) : Option (Str) := if a0.length ≤ 9223372036854775807 then some (Lib.trimSuffix a0 a1) else none
theorem strings_TrimSuffix_ok [dr : Dr] {w0 : World} {fuel : Nat} {a0 : Str} {a1 : Str} {r : Str} (hm : strings_TrimSuffix_m fuel a0 a1 = some r) :
    Calls Tryz.prog 70 #[sv a0, sv a1] w0 fun e w => e = .returned (sv r) ∧ Heap w0 [] w := by
  unfold strings_TrimSuffix_m at hm
  split at hm
  · rename_i hc
    cases hm
    refine (Go.Proofs.Any.strings_TrimSuffix Tryz.lay70 (⟨a0.toArray⟩ : ByteArray) (⟨a1.toArray⟩ : ByteArray) w0 (by rw [size_sv]; exact hc)).mono ?_
    rintro e w ⟨rfl, rfl⟩
    exact ⟨rfl, Heap.start _⟩
  · cases hm


/-- slices.SortFunc, by the library's contract -/
def slices_SortFunc__string_string_m (_ : Nat) (a0 : List Str) (a1 : Str → Str → Option Int) : Option (List Str) := if sortOk a1 a0 = true then some (sortF a1 a0) else none
theorem slices_SortFunc__string_string_ok [dr : Dr] {w0 : World} {fuel : Nat} {p0 : Value} {a0 : List Str} {a1 : Str → Str → Option Int} {f1 : Nat} {fs1 cp1 : List Value} {w00 : World} {L : List Asrt} {r : List Str} (H : Heap w00 (oA (rList rStr) p0 a0 :: L) w0)
    (hcf1 : ∀ args w, (callFunc f1 args).run Tryz.prog w = .ok (.enter f1 args) w)
    (hf1 : ∀ {w : World} {x0_ : Str} {x1_ : Str} {y : Int}, Heap w00 L w → a1 x0_ x1_ = some y → Calls Tryz.prog f1 (fs1 ++ ([sv x0_, sv x1_] : List Value) ++ cp1).toArray w fun e w' => e = .returned (.int .i64 y) ∧ Ext w w' ∧ w.drawn ≤ w'.drawn)
    (hm : slices_SortFunc__string_string_m fuel a0 a1 = some r) (hfs : fs1 = [] := by rfl) :
    Calls Tryz.prog 83 #[p0, .func (.func f1) fs1.toArray cp1.toArray] w0 fun e w => e = .returned (.tuple #[]) ∧ Heap w00 (oA (rList rStr) p0 r :: L) w := by
  unfold slices_SortFunc__string_string_m at hm
  split at hm
  · rename_i hc
    cases hm
    subst hfs
    exact sortF_one enc_str (fun enc' h1 cf hO blk off cap d w eg hcmp hH hb hs hT => Go.Proofs.Any.slices_SortFunc_total Tryz.lay83 enc' h1 cf hO f1 cp1.toArray blk off cap d w eg hcmp hH hb hs hT) (fun p cap w => Go.Proofs.AnyF.slices_SortFunc_none { Tryz.lay83 with } p cap _ w) hcf1 hf1 hc H
  · cases hm


/-- slices.Compact, by the library's contract -/
def slices_Compact__string_string_m (_ : Nat) (a0 : List Str) : Option (List Str) := some (Lib.compact a0)
theorem slices_Compact__string_string_ok [dr : Dr] {w0 : World} {fuel : Nat} {p0 : Value} {a0 : List Str} {w00 : World} {L : List Asrt} {r : List Str} (H : Heap w00 (oA (rList rStr) p0 a0 :: L) w0) (hm : slices_Compact__string_string_m fuel a0 = some r) :
    Calls Tryz.prog 85 #[p0] w0 fun e w => ∃ v0, e = .returned v0 ∧ Heap w00 (oA (rList rStr) v0 r :: L) w := by
  cases hm
  refine Enc.compacted (more := #[]) (cut := Lib.compact) (z := []) enc_str compact_len rfl ?_ (fun g o cap hg hnc hcm hH _ => ?_) H
  · exact Go.Proofs.AnyG.slices_Compact_string_empty Tryz.lay85 none 0 _
  · exact Go.Proofs.AnyG.slices_Compact_string Tryz.lay85 g o cap a0 w0 hH (by unfold maxLen at hcm; omega) hnc


/-- slices.SortFunc, by the library's contract -/
def slices_SortFunc__impl_Edge_impl_Edge_m (_ : Nat) (a0 : List Timpl_Edge) (a1 : Timpl_Edge → Timpl_Edge → Option Int) : Option (List Timpl_Edge) := if sortOk a1 a0 = true then some (sortF a1 a0) else none
theorem slices_SortFunc__impl_Edge_impl_Edge_enc : EncK Rimpl_Edge 3 (fun x : Timpl_Edge => [.int .i64 x.1, .int .i64 x.2.1, .int .i64 x.2.2]) := by
  refine ⟨rfl, by decide, ?_, fun _ => rfl, ?_⟩
  · intro w F cs x
    constructor
    · rintro ⟨_, _, _, _, rfl, rfl, ⟨rfl, rfl⟩, _, _, _, _, rfl, rfl, ⟨rfl, rfl⟩, rfl, rfl⟩
      exact ⟨rfl, rfl⟩
    · rintro ⟨rfl, rfl⟩
      exact ⟨[], [], [_], [_, _], rfl, rfl, ⟨rfl, rfl⟩, [], [], [_], [_], rfl, rfl, ⟨rfl, rfl⟩, rfl, rfl⟩
  · intro x v hv
    simp at hv
    rcases hv with rfl | rfl | rfl <;> rfl
theorem slices_SortFunc__impl_Edge_impl_Edge_ok [dr : Dr] {w0 : World} {fuel : Nat} {p0 : Value} {a0 : List Timpl_Edge} {a1 : Timpl_Edge → Timpl_Edge → Option Int} {f1 : Nat} {fs1 cp1 : List Value} {w00 : World} {L : List Asrt} {r : List Timpl_Edge} (H : Heap w00 (oA (rList Rimpl_Edge) p0 a0 :: L) w0)
    (hcf1 : ∀ args w, (callFunc f1 args).run Tryz.prog w = .ok (.enter f1 args) w)
    (hf1 : ∀ {w : World} {x0_ : Timpl_Edge} {v0_ : Value} {x1_ : Timpl_Edge} {v1_ : Value} {y : Int}, Heap w00 L w → Rd Rimpl_Edge w v0_ x0_ → Rd Rimpl_Edge w v1_ x1_ → a1 x0_ x1_ = some y → Calls Tryz.prog f1 (fs1 ++ ([v0_, v1_] : List Value) ++ cp1).toArray w fun e w' => e = .returned (.int .i64 y) ∧ Ext w w' ∧ w.drawn ≤ w'.drawn)
    (hm : slices_SortFunc__impl_Edge_impl_Edge_m fuel a0 a1 = some r) (hfs : fs1 = [] := by rfl) :
    Calls Tryz.prog 87 #[p0, .func (.func f1) fs1.toArray cp1.toArray] w0 fun e w => e = .returned (.tuple #[]) ∧ Heap w00 (oA (rList Rimpl_Edge) p0 r :: L) w := by
  unfold slices_SortFunc__impl_Edge_impl_Edge_m at hm
  split at hm
  · rename_i hc
    cases hm
    subst hfs
    have hrd : ∀ (w : World) (x : Timpl_Edge), Rd Rimpl_Edge w (.agg ((fun x : Timpl_Edge => ([.int .i64 x.1, .int .i64 x.2.1, .int .i64 x.2.2] : List Value)) x).toArray) x := fun w x => ⟨_, rfl, Rep.own_rd _ (slices_SortFunc__impl_Edge_impl_Edge_enc.own.2 ⟨rfl, rfl⟩ : Rep.own Rimpl_Edge w [] _ x) (fun b hb => by cases hb)⟩
    exact sortF_k slices_SortFunc__impl_Edge_impl_Edge_enc (fun enc' hk h1 cf hO blk off cap d w eg hcmp hH hb hs hT => Go.Proofs.AnyQ.slices_SortFunc_total Tryz.lay87 3 Tryz.isAgg68 Tryz.sizeOf68 enc' hk h1 cf hO f1 cp1.toArray blk off cap d w eg hcmp hH hb hs hT) (fun p cap w => Go.Proofs.AnyF.slices_SortFunc_none Tryz.lay87 p cap _ w) hcf1 (fun H hz => hf1 H (hrd _ _) (hrd _ _) hz) hc H
  · cases hm


/-- slices.Sort, by the library's contract -/
def slices_Sort__int64_int64_m (_ : Nat) (a0 : List Int) : Option (List Int) := if a0.length < 4611686018427387904 then some (a0.mergeSort fun x y => decide (x ≤ y)) else none
theorem slices_Sort__int64_int64_ok [dr : Dr] {w0 : World} {fuel : Nat} {p0 : Value} {a0 : List Int} {w00 : World} {L : List Asrt} {r : List Int} (H : Heap w00 (oA (rList (rInt .i64)) p0 a0 :: L) w0) (hm : slices_Sort__int64_int64_m fuel a0 = some r) :
    Calls Tryz.prog 102 #[p0] w0 fun e w => e = .returned (.tuple #[]) ∧ Heap w00 (oA (rList (rInt .i64)) p0 r :: L) w := by
  unfold slices_Sort__int64_int64_m at hm
  split at hm
  · rename_i hlt
    cases hm
    refine Enc.sorted (more := #[]) (srt := fun l : List Int => l.mergeSort fun x y => decide (x ≤ y)) (enc_int .i64) (fun l => by simp) (by simp) ?_ (fun g o cap hg hH _ => ?_) H
    · exact (Go.Proofs.AnyG.slices_Sort_int_none Tryz.lay102 none 0 _).mono fun e w ⟨he, hw⟩ => ⟨he, by subst hw; exact Heap.start _⟩
    · exact Go.Proofs.AnyG.slices_Sort_int Tryz.lay102 g o cap a0 w0 hH hg hlt
  · cases hm


/-- slices.Compact, by the library's contract -/
def slices_Compact__int64_int64_m (_ : Nat) (a0 : List Int) : Option (List Int) := some (Lib.compact a0)
theorem slices_Compact__int64_int64_ok [dr : Dr] {w0 : World} {fuel : Nat} {p0 : Value} {a0 : List Int} {w00 : World} {L : List Asrt} {r : List Int} (H : Heap w00 (oA (rList (rInt .i64)) p0 a0 :: L) w0) (hm : slices_Compact__int64_int64_m fuel a0 = some r) :
    Calls Tryz.prog 103 #[p0] w0 fun e w => ∃ v0, e = .returned v0 ∧ Heap w00 (oA (rList (rInt .i64)) v0 r :: L) w := by
  cases hm
  refine Enc.compacted (more := #[]) (cut := Lib.compact) (z := 0) (enc_int .i64) compact_len rfl ?_ (fun g o cap hg hnc hcm hH _ => ?_) H
  · exact Go.Proofs.AnyG.slices_Compact_int_empty Tryz.lay103 none 0 _
  · exact Go.Proofs.AnyG.slices_Compact_int Tryz.lay103 g o cap a0 w0 hH (by unfold maxLen at hcm; omega) hnc


/-- strings.Compare -/
def strings_Compare_m (_ : Nat) (a0 : Str) (a1 : Str) : Option (Int) := if True then some (Lib.compareBytes a0 a1) else none
theorem strings_Compare_ok [dr : Dr] {w0 : World} {fuel : Nat} {a0 : Str} {a1 : Str} {r : Int} (hm : strings_Compare_m fuel a0 a1 = some r) :
    Calls Tryz.prog 108 #[sv a0, sv a1] w0 fun e w => e = .returned (.int .i64 r) ∧ Heap w0 [] w := by
  unfold strings_Compare_m at hm
  split at hm
  · rename_i hc
    cases hm
    refine (Go.Proofs.Any.strings_Compare Tryz.lay108 (⟨a0.toArray⟩ : ByteArray) (⟨a1.toArray⟩ : ByteArray) w0).mono ?_
    rintro e w ⟨rfl, rfl⟩
    exact ⟨rfl, Heap.start _⟩
  · cases hm


/-- strings.TrimPrefix -/
def strings_TrimPrefix_m (_ : Nat) (a0 : Str) (a1 : Str) : Option (Str) := if True then some (Lib.trimPrefix a0 a1) else none
theorem strings_TrimPrefix_ok [dr : Dr] {w0 : World} {fuel : Nat} {a0 : Str} {a1 : Str} {r : Str} (hm : strings_TrimPrefix_m fuel a0 a1 = some r) :
    Calls Tryz.prog 111 #[sv a0, sv a1] w0 fun e w => e = .returned (sv r) ∧ Heap w0 [] w := by
  unfold strings_TrimPrefix_m at hm
  split at hm
  · rename_i hc
    cases hm
    refine (Go.Proofs.Any.strings_TrimPrefix Tryz.lay111 (⟨a0.toArray⟩ : ByteArray) (⟨a1.toArray⟩ : ByteArray) w0).mono ?_
    rintro e w ⟨rfl, rfl⟩
    exact ⟨rfl, Heap.start _⟩
  · cases hm


/-- strconv.ParseInt, base 10, of a numeral that an int64 holds, or of none -/
def strconv_ParseInt_m (_ : Nat) (a0 : Str) (a1 a2 : Int) : Option (Int × Bool) := if a1 = 10 ∧ a2 = 64 ∧ a0.length ≤ 281474976710656 then (match Lib.parseIntB 64 a0 with | .ok v => some (v, false) | .range => some (Lib.intSat 64 a0, true) | _ => some (0, true)) else none
theorem strconv_ParseInt_ok {w0 : World} {fuel : Nat} {a0 : Str} {a1 a2 : Int} {r : Int × Bool} (hG : GlobE Tryz.prog w0) (hm : strconv_ParseInt_m fuel a0 a1 a2 = some r) :
    Calls Tryz.prog 112 #[sv a0, .int .i64 a1, .int .i64 a2] w0 fun e w => ∃ v0, e = .returned (.tuple #[.int .i64 r.1, v0]) ∧ IsErr v0 r.2 ∧ Heap w0 [] w := by
  unfold strconv_ParseInt_m at hm
  split at hm
  · rename_i hc
    obtain ⟨rfl, rfl, hl⟩ := hc
    have hsz : (⟨a0.toArray⟩ : ByteArray).size ≤ 281474976710656 := by rw [size_sv]; exact hl
    cases hp : Lib.parseIntB 64 a0 with
    | ok v =>
      rw [hp] at hm
      cases hm
      refine (Go.Proofs.Any.strconv_ParseInt_10_at64_ok Tryz.lay112 ⟨a0.toArray⟩ (by omega) v hp w0).mono ?_
      rintro e w ⟨rfl, hw⟩
      refine ⟨_, rfl, .inl ⟨rfl, rfl⟩, ?_⟩
      rcases hw with rfl | ⟨t, rfl⟩
      · exact Heap.start _
      · exact Heap.of_ext (ext_bytes _ _ _)
    | range =>
      rw [hp] at hm
      cases hm
      obtain ⟨tp, p, hv⟩ := hG.rng
      refine (Go.Proofs.Any.strconv_ParseInt_10_at64_range_var Tryz.lay112 ⟨a0.toArray⟩ hsz hp tp p w0 hv).mono ?_
      rintro e w ⟨N, rfl, _, _, hb⟩
      exact ⟨_, rfl, .inr ⟨rfl, _, _, rfl⟩, Heap.of_ext ⟨hb, fun h => absurd h (by decide)⟩⟩
    | _ =>
      rw [hp] at hm
      cases hm
      obtain ⟨tp, p, hv⟩ := hG.syn
      refine (Go.Proofs.Any.strconv_ParseInt_10_at64_syntax_var Tryz.lay112 ⟨a0.toArray⟩ hsz hp tp p w0 hv).mono ?_
      rintro e w ⟨N, rfl, _, _, hb⟩
      exact ⟨_, rfl, .inr ⟨rfl, _, _, rfl⟩, Heap.of_ext ⟨hb, fun h => absurd h (by decide)⟩⟩
  · cases hm


/-- strings.Join -/
def strings_Join_m (_ : Nat) (a0 : List Str) (a1 : Str) : Option Str := if a0.length ≤ 1048576 ∧ (Lib.join a0 a1).length ≤ 140737488355328 then some (Lib.join a0 a1) else none
theorem strings_Join_ok {w0 : World} {fuel : Nat} {p0 : Value} {a0 : List Str} {a1 : Str} {r : Str} (h0 : Rd (rList rStr) w0 p0 a0) (hm : strings_Join_m fuel a0 a1 = some r) :
    Calls Tryz.prog 120 #[p0, sv a1] w0 fun e w => e = .returned (sv r) ∧ Heap w0 [] w := by
  unfold strings_Join_m at hm
  split at hm
  · rename_i hc
    obtain ⟨h1, h2⟩ := hc
    cases hm
    rcases h0.rowStr with ⟨rfl, A, c, rfl⟩ | ⟨g, o, cap, rfl, hnc, hg, hcell⟩
    · exact (Go.Proofs.Any.strings_Join_none Tryz.lay120 Tryz.extra120 A c ⟨a1.toArray⟩ w0).mono fun e w ⟨he, hw⟩ => ⟨he, by subst hw; exact Heap.start _⟩
    · have e1 : (a0.map fun s => (⟨s.toArray⟩ : ByteArray)).map (·.data.toList) = a0 := by rw [List.map_map]; exact List.map_id'' (fun s => rfl) a0
      have e2 : (a0.map fun s => (⟨s.toArray⟩ : ByteArray)).length = a0.length := by simp
      have key := Go.Proofs.Any.strings_Join Tryz.lay120 Tryz.extra120 g o cap (a0.map fun s => (⟨s.toArray⟩ : ByteArray)) ⟨a1.toArray⟩ w0 (fun j x hx => by
        rw [List.getElem?_map] at hx
        cases hs : a0[j]? with
        | none => rw [hs] at hx; cases hx
        | some s => rw [hs] at hx; cases hx; exact hcell j s hs) hg (by omega) (by omega) (by rw [e1]; exact h2)
      rw [e1, e2] at key
      exact key.mono fun e w ⟨he, hb⟩ => ⟨he, Heap.of_ext ⟨hb, fun h => absurd h (by decide)⟩⟩
  · cases hm


/-- strconv.FormatInt, base 10 -/
def strconv_FormatInt_m (_ : Nat) (a0 : Int) (a1 : Int) : Option (Str) := if a1 = 10 ∧ -9223372036854775808 ≤ a0 ∧ a0 ≤ 9223372036854775807 then some (Lib.itoa a0) else none
theorem strconv_FormatInt_ok [dr : Dr] {w0 : World} {fuel : Nat} {a0 : Int} {a1 : Int} {r : Str} (hG : Glob Tryz.prog w0) (hm : strconv_FormatInt_m fuel a0 a1 = some r) :
    Calls Tryz.prog 152 #[.int .i64 a0, .int .i64 a1] w0 fun e w => e = .returned (sv r) ∧ Heap w0 [] w := by
  unfold strconv_FormatInt_m at hm
  split at hm
  · rename_i hc
    cases hm
    obtain ⟨rfl, h0, h1⟩ := hc
    refine (Go.Proofs.Any.strconv_FormatInt_10 Tryz.lay152 a0 h0 h1 w0 hG.pow).mono ?_
    rintro e w ⟨rfl, k, os, rfl⟩
    exact ⟨rfl, Heap.of_ext (ext_grow _ _ _)⟩
  · cases hm

end Go.Proofs.YtldmecdkdoipdaaGreatDoor
