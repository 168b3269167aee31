/- The models of some functions and their walks (printed by a program of this repo). -/
import Derived.Test.YtldmecdkdoipdaaGreatDoorF0
import Derived.Test.YtldmecdkdoipdaaGreatDoorF3
import Derived.Test.YtldmecdkdoipdaaGreatDoorF5
import Derived.Test.YtldmecdkdoipdaaGreatDoorFS
import Derived.Test.YtldmecdkdoipdaaGreatDoorGxLt
import Derived.Test.YtldmecdkdoipdaaGreatDoorGxT
import Derived.Test.YtldmecdkdoipdaaGreatDoorGxY
namespace Go.Proofs.YtldmecdkdoipdaaGreatDoor
open Go.RowKit Go.Gx

/-- impl.lts -/
def impl_lts_m (fuel : Nat) (a0 : Int) (a1 : Int) (a2 : (List Str)) (a3 : (List Timpl_arc)) : Option (Timpl_Lts) :=
  (app [([116, 97, 117] : Str)] a2).bind fun x37 => (slices_SortFunc__string_string_m fuel x37 (fun (z0 : Str) (z1 : Str) => impl_compareLabels_m fuel z0 z1)).bind fun x48 => (slices_Compact__string_string_m fuel x48).bind fun x52 => (iter (fun (s : (List Timpl_Edge) × (Int)) => (match s with | (xs8109, x8111) => (if (decide (x8111 < (a3.length : Int))) = true then join (κ := List Timpl_Edge → Option (((List Timpl_Edge) × (Int)) ⊕ (((List Timpl_Edge)) ⊕ (Timpl_Lts)))) (fun (xs16181 : List Timpl_Edge) => some (.inl (xs16181, (W (x8111 + (1 : Int)))))) (fun K16183 => (idx a3 x8111).bind fun x16185 => (slices_Index__string_string_m fuel x52 x16185.2.1).bind fun x16206 => (app xs8109 [(x16185.1, x16206, x16185.2.2)]).bind fun x16212 => (K16183 x16212)) else some (.inr (.inl (xs8109)))) : Option (((List Timpl_Edge) × (Int)) ⊕ (((List Timpl_Edge)) ⊕ (Timpl_Lts))))) fuel ([], (0 : Int))).bind fun res16158 => ctl (β := (List Timpl_Edge)) (ρ := Timpl_Lts) (τ := Timpl_Lts) res16158 (fun (xs16156) => (slices_SortFunc__impl_Edge_impl_Edge_m fuel xs16156 (fun (z0 : Timpl_Edge) (z1 : Timpl_Edge) => impl_compareEdges_m fuel z0 z1)).bind fun x16165 => (slices_Compact__impl_Edge_impl_Edge_m fuel x16165).bind fun x16169 => some ((a0, a1, x52, x16169))) (fun q => some (q))
set_option maxRecDepth 20000 in
theorem impl_lts_ok [dr : Dr] {w0 : World} {fuel : Nat} {p2 p3 : Value} {a0 : Int} {a1 : Int} {a2 : (List Str)} {a3 : (List Timpl_arc)} {r : Timpl_Lts} (h2 : Rd (rList rStr) w0 p2 a2) (h3 : Rd (rList Rimpl_arc) w0 p3 a3) (hm : impl_lts_m fuel a0 a1 a2 a3 = some r) :
  Calls Tryz.prog 58 #[.int .i64 a0, .int .i64 a1, p2, p3] w0 fun e w => ∃ (v0 : Value) (v1 : Value), e = .returned (.agg #[.int .i64 r.1, .int .i64 r.2.1, v0, v1]) ∧ Heap w0 [oA (rList rStr) v0 r.2.2.1, oA (rList Rimpl_Edge) v1 r.2.2.2] w := by
 unfold impl_lts_m at hm
 have H := Heap.start w0
 refine enter (args := [.int .i64 a0, .int .i64 a1, p2, p3]) Tryz.func58 rfl 55 rfl (Nat.le_of_ble_eq_true rfl) (fun a S => ?_)
 refine wp_seq (region_plain ?_)
 refine lx_alloc S trivial (by decide) rfl H Tryz.zeroValue31 rfl (fun b31 w32 H => ⟨trivial, fun a S => ?_⟩)
 refine lx_nil (thenN ?_)
 refine wp_seq (region_plain ?_)
 refine lq (.int .i64 a0) S (q_move rfl) fun a S => ?_
 refine lq (.int .i64 a1) S (q_move rfl) fun a S => ?_
 refine lx_buildSlice (r := rStr) (xs := [([116, 97, 117] : Str)]) (ps := [(0, [(sv ([116, 97, 117] : Str))])]) (cs := [(sv ([116, 97, 117] : Str))]) (parts := [(0, .const (sv [116, 97, 117]))]) S trivial (by decide) rfl (H.put0 (A := eA) rfl) rfl Tryz.underlying22 Tryz.sizeOf9 Tryz.zeroValue9 (by decide) ⟨rfl, rfl, Nat.le_of_ble_eq_true rfl, trivial⟩ (by intro zs hz; exact fill_dense hz ⟨rfl, trivial⟩ rfl rfl) rfl (by decide) (fun w F hA => by cases (show F = [] from hA); exact ⟨_, _, [(sv ([116, 97, 117] : Str))], _, rfl, rfl, ⟨rfl, rfl⟩, ⟨rfl, rfl⟩⟩) (fun v34 w35 H => ⟨trivial, fun a S => ?_⟩)
 refine lq p2 S (q_move rfl) fun a S => ?_
 obtain ⟨x37, e38, hm⟩ := bind_some hm
 obtain ⟨hle, hap⟩ := app_some e38
 replace hap := hap.symm
 subst hap
 refine lx_appendRd (r := rStr) S trivial (by decide) rfl H flat_str (H.arg h2) rfl rfl Tryz.underlying22 Tryz.ti9 rfl rfl rfl (Nat.le_of_ble_eq_true rfl) (by decide) hle (fun v39 w40 H => ⟨trivial, fun a S => ?_⟩)
 refine lq (.agg #[(.int .i64 a0), (.int .i64 a1), v39, (.slice none 0 0)]) S (q_build (zs := [(.int .i64 (0 : Int)), (.int .i64 (0 : Int)), (.slice none 0 0), (.slice none 0 0)]) (szs := [1, 1, 1, 1]) (ps := [(0, [(.int .i64 a0)]), (1, [(.int .i64 a1)]), (2, [v39])]) (parts := [(0, .tmp 12), (1, .tmp 13), (2, .tmp 16)]) rfl Tryz.underlying31 Tryz.zeroValue31 (fun w => by simp [Tryz.sizeOf2, Tryz.sizeOf22, Tryz.sizeOf29]) ⟨rfl, rfl, Nat.le_of_ble_eq_true rfl, ⟨rfl, rfl, Nat.le_of_ble_eq_true rfl, ⟨rfl, (cells_sl (H.isSl 0 rfl)), Nat.le_of_ble_eq_true rfl, trivial⟩⟩⟩ rfl) fun a S => ?_
 refine lx_alloc S trivial (by decide) rfl H Tryz.zeroValue31 rfl (fun b42 w43 H => ⟨trivial, fun a S => ?_⟩)
 refine lx_storeBox (o := 0) (i := 0) (us := [(.int .i64 a0), (.int .i64 a1), v39, (.slice none 0 0)]) (cs' := [(.int .i64 a0), (.int .i64 a1), v39, (.slice none 0 0)]) S trivial rfl H rfl rfl rfl rfl Tryz.sizeOf31 (Nat.le_of_ble_eq_true rfl) (List.forall_mem_cons.2 ⟨rfl, (List.forall_mem_cons.2 ⟨rfl, (List.forall_mem_cons.2 ⟨one_sl (H.isSl 1 rfl), (List.forall_mem_cons.2 ⟨rfl, (List.forall_mem_nil _)⟩)⟩)⟩)⟩) rfl (fun w45 H => ⟨trivial, fun a S => ?_⟩)
 change Heap w0 [bA b42 [(.int .i64 a0), (.int .i64 a1), v39, (.slice none 0 0)] 31, oA (rList rStr) v39 ([([116, 97, 117] : Str)] ++ a2), bA b31 [(.int .i64 (0 : Int)), (.int .i64 (0 : Int)), (.slice none 0 0), (.slice none 0 0)] 31] w45 at H
 refine lx_nil (thenN ?_)
 refine wp_seq (region_plain ?_)
 refine lq (pAdd (bp b42) 2) S (q_fieldAddr' 2 22 rfl (isP_bp _) Tryz.underlying31 rfl Tryz.sizeOf22) fun a S => ?_
 refine lx_e v39 S trivial (by decide) rfl trivial (q_load1 rfl Tryz.isAgg22 (by rintro _ rfl; exact (At.of_add (m := 2) (j := 0) (boxAt (i := 0) H rfl (j := 2) rfl)))) (fun a S => ?_)
 obtain ⟨x48, e49, hm⟩ := bind_some hm
 have H : Heap w0 [oA (rList rStr) v39 ([([116, 97, 117] : Str)] ++ a2), bA b42 [(.int .i64 a0), (.int .i64 a1), v39, (.slice none 0 0)] 31, bA b31 [(.int .i64 (0 : Int)), (.int .i64 (0 : Int)), (.slice none 0 0), (.slice none 0 0)] 31] w45 := H.front 1 rfl
 refine lx_call (xs := [.tmp 19, .func 84]) S trivial (by decide) rfl rfl Tryz.call83 ((slices_SortFunc__string_string_ok (f1 := 84) (fs1 := ([] : List Value)) (cp1 := ([] : List Value)) (a1 := (fun (z0 : Str) (z1 : Str) => impl_compareLabels_m fuel z0 z1)) H Tryz.call84 (fun H  hm => gr_on (impl_compareLabels_ok (dr := drOn)   hm)) e49).mono ?_)
 rintro e w46 ⟨rfl, H⟩
 refine ⟨_, rfl, trivial, fun a S => ?_⟩
 refine lx_nil (thenN ?_)
 refine wp_seq (region_plain ?_)
 refine lq (pAdd (bp b42) 2) S (q_fieldAddr' 2 22 rfl (isP_bp _) Tryz.underlying31 rfl Tryz.sizeOf22) fun a S => ?_
 refine lx_e v39 S trivial (by decide) rfl trivial (q_load1 rfl Tryz.isAgg22 (by rintro _ rfl; exact (At.of_add (m := 2) (j := 0) (boxAt (i := 1) H rfl (j := 2) rfl)))) (fun a S => ?_)
 obtain ⟨x52, e53, hm⟩ := bind_some hm
 refine lx_call (xs := [.tmp 22]) S trivial (by decide) rfl rfl Tryz.call85 ((slices_Compact__string_string_ok H  e53).mono ?_)
 rintro e w50 ⟨v54, rfl, H⟩
 refine ⟨_, rfl, trivial, fun a S => ?_⟩
 refine lq (pAdd (bp b42) 2) S (q_fieldAddr' 2 22 rfl (isP_bp _) Tryz.underlying31 rfl Tryz.sizeOf22) fun a S => ?_
 refine lx_storeBox (o := 2) (i := 1) (us := [v54]) (cs' := [(.int .i64 a0), (.int .i64 a1), v54, (.slice none 0 0)]) S trivial rfl H rfl rfl rfl (cells_sl (H.isSl 0 rfl)) Tryz.sizeOf22 (Nat.le_of_ble_eq_true rfl) (List.forall_mem_cons.2 ⟨one_sl (H.isSl 0 rfl), (List.forall_mem_nil _)⟩) rfl (fun w56 H => ⟨trivial, fun a S => ?_⟩)
 change Heap w0 [oA (rList rStr) v54 x52, bA b42 [(.int .i64 a0), (.int .i64 a1), v54, (.slice none 0 0)] 31, bA b31 [(.int .i64 (0 : Int)), (.int .i64 (0 : Int)), (.slice none 0 0), (.slice none 0 0)] 31] w56 at H
 refine lx_nil (thenN ?_)
 refine wp_seq (wp_seq (region_plain ?_))
 refine lq p3 S (q_move rfl) fun a S => ?_
 refine lq (.int .i64 (a3.length : Int)) S (q_lenSl rfl (h3).isSl rfl Tryz.underlying81) fun a S => ?_
 refine lq (.int .i64 (0 : Int)) S (q_move rfl) fun a S => ?_
 refine lx_nil (thenN ?_)
 obtain ⟨res16158, hit16159, hk16162⟩ := bind_some hm
 obtain ⟨f16160, hf16161, hit16159⟩ := iter_name hit16159
 refine block_loop (fun a w => ∃ (xs16156 : List Timpl_Edge) (v16155 : Value), Slots a 55 [(8, (bp b31)), (9, (bp b42))] ∧ Heap w0 [bA b31 [(.int .i64 (0 : Int)), (.int .i64 (0 : Int)), (.slice none 0 0), (.slice none 0 0)] 31, bA b42 [(.int .i64 a0), (.int .i64 a1), v54, v16155] 31, oA (rList rStr) v54 x52, oA (rList Rimpl_Edge) v16155 xs16156] w ∧ res16158 = .inl (xs16156)) ?_ ?_
 ·rintro a w ⟨xs16156, v16155, S, H, rfl⟩
  have hm := ctl_inl hk16162
  refine thenN ?_
  refine wp_seq (region_plain ?_)
  refine lq (pAdd (bp b42) 3) S (q_fieldAddr' 3 29 rfl (isP_bp _) Tryz.underlying31 rfl Tryz.sizeOf29) fun a S => ?_
  refine lx_e v16155 S trivial (by decide) rfl trivial (q_load1 rfl Tryz.isAgg29 (by rintro _ rfl; exact (At.of_add (m := 3) (j := 0) (boxAt (i := 1) H rfl (j := 3) rfl)))) (fun a S => ?_)
  obtain ⟨x16165, e16166, hm⟩ := bind_some hm
  have H : Heap w0 [oA (rList Rimpl_Edge) v16155 xs16156, bA b31 [(.int .i64 (0 : Int)), (.int .i64 (0 : Int)), (.slice none 0 0), (.slice none 0 0)] 31, bA b42 [(.int .i64 a0), (.int .i64 a1), v54, v16155] 31, oA (rList rStr) v54 x52] w := H.front 3 rfl
  refine lx_call (xs := [.tmp 48, .func 56]) S trivial (by decide) rfl rfl Tryz.call87 ((slices_SortFunc__impl_Edge_impl_Edge_ok (f1 := 56) (fs1 := ([] : List Value)) (cp1 := ([] : List Value)) (a1 := (fun (z0 : Timpl_Edge) (z1 : Timpl_Edge) => impl_compareEdges_m fuel z0 z1)) H Tryz.call56 (fun H h0_ h1_ hm => gr_on (impl_compareEdges_ok (dr := drOn) h0_ h1_  hm)) e16166).mono ?_)
  rintro e w16163 ⟨rfl, H⟩
  refine ⟨_, rfl, trivial, fun a S => ?_⟩
  refine lx_nil (thenN ?_)
  refine wp_seq (region_plain ?_)
  refine lq (pAdd (bp b42) 3) S (q_fieldAddr' 3 29 rfl (isP_bp _) Tryz.underlying31 rfl Tryz.sizeOf29) fun a S => ?_
  refine lx_e v16155 S trivial (by decide) rfl trivial (q_load1 rfl Tryz.isAgg29 (by rintro _ rfl; exact (At.of_add (m := 3) (j := 0) (boxAt (i := 2) H rfl (j := 3) rfl)))) (fun a S => ?_)
  obtain ⟨x16169, e16170, hm⟩ := bind_some hm
  refine lx_call (xs := [.tmp 51]) S trivial (by decide) rfl rfl Tryz.call88 ((slices_Compact__impl_Edge_impl_Edge_ok H  e16170).mono ?_)
  rintro e w16167 ⟨v16171, rfl, H⟩
  refine ⟨_, rfl, trivial, fun a S => ?_⟩
  refine lq (pAdd (bp b42) 3) S (q_fieldAddr' 3 29 rfl (isP_bp _) Tryz.underlying31 rfl Tryz.sizeOf29) fun a S => ?_
  refine lx_storeBox (o := 3) (i := 2) (us := [v16171]) (cs' := [(.int .i64 a0), (.int .i64 a1), v54, v16171]) S trivial rfl H rfl rfl rfl (cells_sl (H.isSl 0 rfl)) Tryz.sizeOf29 (Nat.le_of_ble_eq_true rfl) (List.forall_mem_cons.2 ⟨one_sl (H.isSl 0 rfl), (List.forall_mem_nil _)⟩) rfl (fun w16173 H => ⟨trivial, fun a S => ?_⟩)
  change Heap w0 [oA (rList Rimpl_Edge) v16171 x16169, bA b31 [(.int .i64 (0 : Int)), (.int .i64 (0 : Int)), (.slice none 0 0), (.slice none 0 0)] 31, bA b42 [(.int .i64 a0), (.int .i64 a1), v54, v16171] 31, oA (rList rStr) v54 x52] w16173 at H
  refine lx_nil (thenN ?_)
  refine wp_seq (region_plain ?_)
  refine lx_e (.agg #[(.int .i64 a0), (.int .i64 a1), v54, v16171]) S trivial (by decide) rfl trivial (q_loadA (cs := [(.int .i64 a0), (.int .i64 a1), v54, v16171]) rfl (isP_bp _) Tryz.isAgg31 Tryz.sizeOf31 (by rintro _ rfl; exact (fun j u hu => boxAt (i := 2) H rfl hu))) (fun a S => ?_)
  refine lx_storeBox (o := 0) (i := 1) (us := [(.int .i64 a0), (.int .i64 a1), v54, v16171]) (cs' := [(.int .i64 a0), (.int .i64 a1), v54, v16171]) S trivial rfl H rfl rfl rfl rfl Tryz.sizeOf31 (Nat.le_of_ble_eq_true rfl) (List.forall_mem_cons.2 ⟨rfl, (List.forall_mem_cons.2 ⟨rfl, (List.forall_mem_cons.2 ⟨one_sl (H.isSl 3 rfl), (List.forall_mem_cons.2 ⟨one_sl (H.isSl 0 rfl), (List.forall_mem_nil _)⟩)⟩)⟩)⟩) rfl (fun w16174 H => ⟨trivial, fun a S => ?_⟩)
  change Heap w0 [oA (rList Rimpl_Edge) v16171 x16169, bA b31 [(.int .i64 a0), (.int .i64 a1), v54, v16171] 31, bA b42 [(.int .i64 a0), (.int .i64 a1), v54, v16171] 31, oA (rList rStr) v54 x52] w16174 at H
  refine lx_nil (thenN ?_)
  refine wp_ret ?_
  have hrv0 := RV.cellA (t := 31) (q := 8) (env := [(8, (bp b31)), (9, (bp b42)), (47, (pAdd (bp b42) 3)), (49, (.tuple #[])), (50, (pAdd (bp b42) 3)), (52, v16171), (53, (pAdd (bp b42) 3)), (54, (.agg #[(.int .i64 a0), (.int .i64 a1), v54, v16171]))]) H (i := 1) rfl rfl Tryz.isAgg31 Tryz.sizeOf31
  obtain rfl := Option.some.inj hm
  have H : Heap w0 [oA (rList rStr) v54 x52, oA (rList Rimpl_Edge) v16171 x16169, bA b31 [(.int .i64 a0), (.int .i64 a1), v54, v16171] 31, bA b42 [(.int .i64 a0), (.int .i64 a1), v54, v16171] 31] w16174 := H.front 3 rfl
  have H : Heap w0 [oA (rList rStr) v54 x52, oA (rList Rimpl_Edge) v16171 x16169] w16174 := H.sel [0, 1] (by decide)
  exact leaveR1 S rfl hrv0 ⟨v54, v16171, rfl, H⟩
 ·skip
  have H : Heap w0 [oA (rList Rimpl_Edge) (.slice none 0 0) ([] : List Timpl_Edge), oA (rList rStr) v54 x52, bA b42 [(.int .i64 a0), (.int .i64 a1), v54, (.slice none 0 0)] 31, bA b31 [(.int .i64 (0 : Int)), (.int .i64 (0 : Int)), (.slice none 0 0), (.slice none 0 0)] 31] w56 := H.nilList Rimpl_Edge
  have H : Heap w0 [oA (rList rStr) v54 x52, oA (rList Rimpl_Edge) (.slice none 0 0) ([] : List Timpl_Edge), bA b42 [(.int .i64 a0), (.int .i64 a1), v54, (.slice none 0 0)] 31, bA b31 [(.int .i64 (0 : Int)), (.int .i64 (0 : Int)), (.slice none 0 0), (.slice none 0 0)] 31] w56 := H.front 1 rfl
  have H : Heap w0 [bA b42 [(.int .i64 a0), (.int .i64 a1), v54, (.slice none 0 0)] 31, oA (rList rStr) v54 x52, oA (rList Rimpl_Edge) (.slice none 0 0) ([] : List Timpl_Edge), bA b31 [(.int .i64 (0 : Int)), (.int .i64 (0 : Int)), (.slice none 0 0), (.slice none 0 0)] 31] w56 := H.front 2 rfl
  have H : Heap w0 [bA b31 [(.int .i64 (0 : Int)), (.int .i64 (0 : Int)), (.slice none 0 0), (.slice none 0 0)] 31, bA b42 [(.int .i64 a0), (.int .i64 a1), v54, (.slice none 0 0)] 31, oA (rList rStr) v54 x52, oA (rList Rimpl_Edge) (.slice none 0 0) ([] : List Timpl_Edge)] w56 := H.front 3 rfl
  refine loop_ghost (fun n a w => ∃ (xs8109 : List Timpl_Edge) (x8111 : Int) (v8108 : Value), Slots a 55 [(8, (bp b31)), (9, (bp b42)), (25, p3), (26, (.int .i64 (a3.length : Int))), (27, (.int .i64 x8111))] ∧ Heap w0 [bA b31 [(.int .i64 (0 : Int)), (.int .i64 (0 : Int)), (.slice none 0 0), (.slice none 0 0)] 31, bA b42 [(.int .i64 a0), (.int .i64 a1), v54, v8108] 31, oA (rList rStr) v54 x52, oA (rList Rimpl_Edge) v8108 xs8109] w ∧ iter f16160 n (xs8109, x8111) = some res16158) _ ⟨[], (0 : Int), (.slice none 0 0), S.sub ⟨rfl, rfl, rfl, rfl, rfl, trivial⟩, H, hit16159⟩ ?_
  rintro n a w ⟨xs8109, x8111, v8108, S, H, hit16159⟩
  obtain ⟨m16176, o16177, rfl, hm, hc16178⟩ := iter_step hit16159
  rw [hf16161] at hm
  refine wp_seq (region_plain ?_)
  refine lq (.bool (decide (x8111 < (a3.length : Int)))) S (q_lss rfl rfl) fun a S => ?_
  refine lx_nil (thenN ?_)
  refine wp_seq ?_
  refine cond_b S rfl (fun hc16179 => ?_) (fun hc16179 => ?_)
  ·have hm := ite_t hc16179 hm
   refine wp_skip (thenN ?_)
   obtain ⟨K16183, hK16184, hm⟩ := join_elim hm
   refine seq_cut (fun a w => ∃ (xs16181 : List Timpl_Edge) (v16180 : Value), Slots a 55 [(8, (bp b31)), (9, (bp b42)), (25, p3), (26, (.int .i64 (a3.length : Int))), (27, (.int .i64 x8111))] ∧ Heap w0 [bA b31 [(.int .i64 (0 : Int)), (.int .i64 (0 : Int)), (.slice none 0 0), (.slice none 0 0)] 31, bA b42 [(.int .i64 a0), (.int .i64 a1), v54, v16180] 31, oA (rList rStr) v54 x52, oA (rList Rimpl_Edge) v16180 xs16181] w ∧ K16183 xs16181 = some o16177) ?_ ?_
   ·rintro a w ⟨xs16181, v16180, S, H, hm⟩
    subst hK16184
    refine region_plain ?_
    refine lq (.int .i64 (W (x8111 + (1 : Int)))) S (q_add rfl rfl) fun a S => ?_
    refine lq (.int .i64 (W (x8111 + (1 : Int)))) S (q_move rfl) fun a S => ?_
    refine lx_nil ?_
    exact ⟨m16176, Nat.lt_succ_self _, xs16181, (W (x8111 + (1 : Int))), v16180, S.sub ⟨rfl, rfl, rfl, rfl, rfl, trivial⟩, H, it_cont hm hc16178⟩
   ·skip
    refine wp_block ?_
    refine wp_seq (region_plain ?_)
    obtain ⟨x16185, e16186, hm⟩ := bind_some hm
    obtain ⟨c16187, h16188, hat16189⟩ := (h3).elem (idx_some e16186).2
    obtain ⟨c16190, c16191, rfl, h16192, h16193⟩ := h16188
    obtain rfl := h16192
    obtain ⟨c16194, c16195, rfl, h16196, h16197⟩ := h16193
    obtain rfl := h16196
    obtain rfl := h16197
    have hlt := lt_of_idx (idx_some e16186).2
    refine lq (ePtr p3 (x8111.toNat * 3)) S (q_indexAddr rfl (h3).isSl rfl (idx_some e16186).1 hlt Tryz.underlying81 Tryz.sizeOf90) fun a S => ?_
    refine lx_e (.agg #[(.int .i64 x16185.1), (sv x16185.2.1), (.int .i64 x16185.2.2)]) S trivial (by decide) rfl trivial (q_loadA (cs := [(.int .i64 x16185.1), (sv x16185.2.1), (.int .i64 x16185.2.2)]) rfl ((hat16189 0 _ rfl).isP) Tryz.isAgg90 Tryz.sizeOf90 (by rintro _ rfl; exact (fun j u hu => (hat16189 j u hu).ext H.ext))) (fun a S => ?_)
    refine lx_alloc S trivial (by decide) rfl H Tryz.zeroValue90 rfl (fun b16198 w16199 H => ⟨trivial, fun a S => ?_⟩)
    refine lx_storeBox (o := 0) (i := 0) (us := [(.int .i64 x16185.1), (sv x16185.2.1), (.int .i64 x16185.2.2)]) (cs' := [(.int .i64 x16185.1), (sv x16185.2.1), (.int .i64 x16185.2.2)]) S trivial rfl H rfl rfl rfl rfl Tryz.sizeOf90 (Nat.le_of_ble_eq_true rfl) (List.forall_mem_cons.2 ⟨rfl, (List.forall_mem_cons.2 ⟨rfl, (List.forall_mem_cons.2 ⟨rfl, (List.forall_mem_nil _)⟩)⟩)⟩) rfl (fun w16201 H => ⟨trivial, fun a S => ?_⟩)
    change Heap w0 [bA b16198 [(.int .i64 x16185.1), (sv x16185.2.1), (.int .i64 x16185.2.2)] 90, bA b31 [(.int .i64 (0 : Int)), (.int .i64 (0 : Int)), (.slice none 0 0), (.slice none 0 0)] 31, bA b42 [(.int .i64 a0), (.int .i64 a1), v54, v8108] 31, oA (rList rStr) v54 x52, oA (rList Rimpl_Edge) v8108 xs8109] w16201 at H
    refine lx_nil (thenN ?_)
    obtain ⟨x16206, e16207, hm⟩ := bind_some hm
    obtain ⟨x16212, e16213, hm⟩ := bind_some hm
    refine region_drawT (fun w1 => Heap w0 [bA b16198 [(.int .i64 x16185.1), (sv x16185.2.1), (.int .i64 x16185.2.2)] 90] w1) (fun i => [1, 5, 8, 12, 13, 15].contains i) [([0, 1, 4, 5, 6, 7, 8], [[2, 3, 9, 10, 11, 12, 13, 14, 15]]), ([4, 5, 0, 1, 6, 7, 8], [[2, 3, 9, 10, 11, 12, 13, 14, 15]]), ([4, 5, 6, 7, 8], [[0, 1, 2, 3, 9, 10, 11, 12, 13, 14, 15], [2, 3, 9, 10, 11, 12, 0, 1, 13, 14, 15]])] mixed (by kernel_rfl) (fun w16203 he16202 => ?_)
    have H := H.later he16202
    refine ⟨H.sel [0] (by decide), ⟨[_, _, _, _, _, _, _], (fun i => [1, 3, 6].contains i), rfl, rfl, ?_⟩, ⟨[_, _, _, _, _, _, _], (fun i => [3, 1, 6].contains i), rfl, rfl, ?_⟩, ⟨[_, _, _, _, _], (fun i => [1, 4].contains i), rfl, rfl, ?_⟩, trivial⟩
    ·skip
     refine lq (pAdd (bp b42) 3) S (q_fieldAddr' 3 29 rfl (isP_bp _) Tryz.underlying31 rfl Tryz.sizeOf29) fun a S => ?_
     refine lx_e v8108 S trivial (by decide) rfl (H.sel [0] (by decide)) (q_load1 rfl Tryz.isAgg29 (by rintro _ rfl; exact (At.of_add (m := 3) (j := 0) (boxAt (i := 2) H rfl (j := 3) rfl)))) (fun a S => ?_)
     refine lq (pAdd (bp b42) 2) S (q_fieldAddr' 2 22 rfl (isP_bp _) Tryz.underlying31 rfl Tryz.sizeOf22) fun a S => ?_
     refine lx_e v54 S trivial (by decide) rfl (H.sel [0] (by decide)) (q_load1 rfl Tryz.isAgg22 (by rintro _ rfl; exact (At.of_add (m := 2) (j := 0) (boxAt (i := 2) H rfl (j := 2) rfl)))) (fun a S => ?_)
     refine lq (pAdd (bp b16198) 1) S (q_fieldAddr' 1 9 rfl (isP_bp _) Tryz.underlying90 rfl Tryz.sizeOf9) fun a S => ?_
     refine lq (sv x16185.2.1) S (q_load1 rfl Tryz.isAgg9 (fun w1 hC => (At.of_add (m := 1) (j := 0) (boxAt (i := 0) hC rfl (j := 1) rfl)))) fun a S => ?_
     refine lx_call (xs := [.tmp 36, .tmp 38]) S trivial (by decide) rfl rfl Tryz.call86 ((slices_Index__string_string_ok (H.rdAt 3 rfl)  e16207).mono ?_)
     rintro e w16204 ⟨rfl, Hc16205⟩
     have he16208 := Hc16205.ext
     have H := H.call0 Hc16205
     refine ⟨_, rfl, H.sel [0] (by decide), fun a S => ?_⟩
     refine lx_nil ?_
     refine ⟨⟨[_, _, _, _, _, _, _, _, _], (fun i => [5, 6, 8].contains i), rfl, rfl, ?_⟩, trivial⟩
     ·skip
      refine lq (pAdd (bp b16198) 0) S (q_fieldAddr' 0 2 rfl (isP_bp _) Tryz.underlying90 rfl Tryz.sizeOf2) fun a S => ?_
      refine lq (.int .i64 x16185.1) S (q_load1 rfl Tryz.isAgg2 (fun w1 hC => (At.of_add (m := 0) (j := 0) (boxAt (i := 0) hC rfl (j := 0) rfl)))) fun a S => ?_
      refine lq (pAdd (bp b16198) 2) S (q_fieldAddr' 2 2 rfl (isP_bp _) Tryz.underlying90 rfl Tryz.sizeOf2) fun a S => ?_
      refine lq (.int .i64 x16185.2.2) S (q_load1 rfl Tryz.isAgg2 (fun w1 hC => (At.of_add (m := 2) (j := 0) (boxAt (i := 0) hC rfl (j := 2) rfl)))) fun a S => ?_
      refine lq (.agg #[(.int .i64 x16185.1), (.int .i64 x16206), (.int .i64 x16185.2.2)]) S (q_build (zs := [(.int .i64 (0 : Int)), (.int .i64 (0 : Int)), (.int .i64 (0 : Int))]) (szs := [1, 1, 1]) (ps := [(0, [(.int .i64 x16185.1)]), (1, [(.int .i64 x16206)]), (2, [(.int .i64 x16185.2.2)])]) (parts := [(0, .tmp 34), (1, .tmp 39), (2, .tmp 41)]) rfl Tryz.underlying68 Tryz.zeroValue68 (fun w => by simp [Tryz.sizeOf2]) ⟨rfl, rfl, Nat.le_of_ble_eq_true rfl, ⟨rfl, rfl, Nat.le_of_ble_eq_true rfl, ⟨rfl, rfl, Nat.le_of_ble_eq_true rfl, trivial⟩⟩⟩ rfl) fun a S => ?_
      refine lx_buildSlice (r := Rimpl_Edge) (xs := [(x16185.1, x16206, x16185.2.2)]) (ps := [(0, [(.int .i64 x16185.1), (.int .i64 x16206), (.int .i64 x16185.2.2)])]) (cs := [(.int .i64 x16185.1), (.int .i64 x16206), (.int .i64 x16185.2.2)]) (parts := [(0, .tmp 42)]) S trivial (by decide) rfl (H.put0 (A := eA) rfl) rfl Tryz.underlying29 Tryz.sizeOf68 Tryz.zeroValue68 (by decide) ⟨rfl, rfl, Nat.le_of_ble_eq_true rfl, trivial⟩ (by intro zs hz; exact fill_dense hz ⟨rfl, trivial⟩ rfl rfl) rfl (by decide) (fun w F hA => by cases (show F = [] from hA); exact ⟨_, _, [(.int .i64 x16185.1), (.int .i64 x16206), (.int .i64 x16185.2.2)], _, rfl, rfl, ⟨_, _, [(.int .i64 x16185.1)], [(.int .i64 x16206), (.int .i64 x16185.2.2)], rfl, rfl, ⟨rfl, rfl⟩, ⟨_, _, [(.int .i64 x16206)], [(.int .i64 x16185.2.2)], rfl, rfl, ⟨rfl, rfl⟩, ⟨rfl, rfl⟩⟩⟩, ⟨rfl, rfl⟩⟩) (fun v16209 w16210 H => ⟨H.sel [1] (by decide), fun a S => ?_⟩)
      obtain ⟨hle, hap⟩ := app_some e16213
      replace hap := hap.symm
      subst hap
      have H : Heap w0 [oA (rList Rimpl_Edge) v16209 [(x16185.1, x16206, x16185.2.2)], bA b16198 [(.int .i64 x16185.1), (sv x16185.2.1), (.int .i64 x16185.2.2)] 90, bA b31 [(.int .i64 (0 : Int)), (.int .i64 (0 : Int)), (.slice none 0 0), (.slice none 0 0)] 31, bA b42 [(.int .i64 a0), (.int .i64 a1), v54, v8108] 31, oA (rList rStr) v54 x52, oA (rList Rimpl_Edge) v8108 xs8109] w16210 := H.front 0 rfl
      have H : Heap w0 [oA (rList Rimpl_Edge) v8108 xs8109, oA (rList Rimpl_Edge) v16209 [(x16185.1, x16206, x16185.2.2)], bA b16198 [(.int .i64 x16185.1), (sv x16185.2.1), (.int .i64 x16185.2.2)] 90, bA b31 [(.int .i64 (0 : Int)), (.int .i64 (0 : Int)), (.slice none 0 0), (.slice none 0 0)] 31, bA b42 [(.int .i64 a0), (.int .i64 a1), v54, v8108] 31, oA (rList rStr) v54 x52] w16210 := H.front 5 rfl
      refine lx_appendOwn (r := Rimpl_Edge) S trivial (by decide) rfl H rfl rfl Tryz.underlying29 Tryz.ti68 rfl rfl rfl (Nat.le_of_ble_eq_true rfl) (by decide) hle (fun v16214 w16215 H => ⟨H.sel [1] (by decide), fun a S => ?_⟩)
      refine lq (pAdd (bp b42) 3) S (q_fieldAddr' 3 29 rfl (isP_bp _) Tryz.underlying31 rfl Tryz.sizeOf29) fun a S => ?_
      refine lx_storeBox (o := 3) (i := 3) (us := [v16214]) (cs' := [(.int .i64 a0), (.int .i64 a1), v54, v16214]) S trivial rfl H rfl rfl rfl (cells_sl (H.isSl 0 rfl)) Tryz.sizeOf29 (Nat.le_of_ble_eq_true rfl) (List.forall_mem_cons.2 ⟨one_sl (H.isSl 0 rfl), (List.forall_mem_nil _)⟩) rfl (fun w16217 H => ⟨H.sel [1] (by decide), fun a S => ?_⟩)
      change Heap w0 [oA (rList Rimpl_Edge) v16214 (xs8109 ++ [(x16185.1, x16206, x16185.2.2)]), bA b16198 [(.int .i64 x16185.1), (sv x16185.2.1), (.int .i64 x16185.2.2)] 90, bA b31 [(.int .i64 (0 : Int)), (.int .i64 (0 : Int)), (.slice none 0 0), (.slice none 0 0)] 31, bA b42 [(.int .i64 a0), (.int .i64 a1), v54, v16214] 31, oA (rList rStr) v54 x52] w16217 at H
      refine lx_nil ?_
      refine inBlock_norm ?_
      have H : Heap w0 [oA (rList rStr) v54 x52, oA (rList Rimpl_Edge) v16214 (xs8109 ++ [(x16185.1, x16206, x16185.2.2)]), bA b16198 [(.int .i64 x16185.1), (sv x16185.2.1), (.int .i64 x16185.2.2)] 90, bA b31 [(.int .i64 (0 : Int)), (.int .i64 (0 : Int)), (.slice none 0 0), (.slice none 0 0)] 31, bA b42 [(.int .i64 a0), (.int .i64 a1), v54, v16214] 31] w16217 := H.front 4 rfl
      have H : Heap w0 [bA b42 [(.int .i64 a0), (.int .i64 a1), v54, v16214] 31, oA (rList rStr) v54 x52, oA (rList Rimpl_Edge) v16214 (xs8109 ++ [(x16185.1, x16206, x16185.2.2)]), bA b16198 [(.int .i64 x16185.1), (sv x16185.2.1), (.int .i64 x16185.2.2)] 90, bA b31 [(.int .i64 (0 : Int)), (.int .i64 (0 : Int)), (.slice none 0 0), (.slice none 0 0)] 31] w16217 := H.front 4 rfl
      have H : Heap w0 [bA b31 [(.int .i64 (0 : Int)), (.int .i64 (0 : Int)), (.slice none 0 0), (.slice none 0 0)] 31, bA b42 [(.int .i64 a0), (.int .i64 a1), v54, v16214] 31, oA (rList rStr) v54 x52, oA (rList Rimpl_Edge) v16214 (xs8109 ++ [(x16185.1, x16206, x16185.2.2)]), bA b16198 [(.int .i64 x16185.1), (sv x16185.2.1), (.int .i64 x16185.2.2)] 90] w16217 := H.front 4 rfl
      have H : Heap w0 [bA b31 [(.int .i64 (0 : Int)), (.int .i64 (0 : Int)), (.slice none 0 0), (.slice none 0 0)] 31, bA b42 [(.int .i64 a0), (.int .i64 a1), v54, v16214] 31, oA (rList rStr) v54 x52, oA (rList Rimpl_Edge) v16214 (xs8109 ++ [(x16185.1, x16206, x16185.2.2)])] w16217 := H.sel [0, 1, 2, 3] (by decide)
      exact ⟨(xs8109 ++ [(x16185.1, x16206, x16185.2.2)]), v16214, S.sub ⟨rfl, rfl, rfl, rfl, rfl, trivial⟩, H, hm⟩
    ·skip
     refine lq (pAdd (bp b42) 2) S (q_fieldAddr' 2 22 rfl (isP_bp _) Tryz.underlying31 rfl Tryz.sizeOf22) fun a S => ?_
     refine lx_e v54 S trivial (by decide) rfl (H.sel [0] (by decide)) (q_load1 rfl Tryz.isAgg22 (by rintro _ rfl; exact (At.of_add (m := 2) (j := 0) (boxAt (i := 2) H rfl (j := 2) rfl)))) (fun a S => ?_)
     refine lq (pAdd (bp b42) 3) S (q_fieldAddr' 3 29 rfl (isP_bp _) Tryz.underlying31 rfl Tryz.sizeOf29) fun a S => ?_
     refine lx_e v8108 S trivial (by decide) rfl (H.sel [0] (by decide)) (q_load1 rfl Tryz.isAgg29 (by rintro _ rfl; exact (At.of_add (m := 3) (j := 0) (boxAt (i := 2) H rfl (j := 3) rfl)))) (fun a S => ?_)
     refine lq (pAdd (bp b16198) 1) S (q_fieldAddr' 1 9 rfl (isP_bp _) Tryz.underlying90 rfl Tryz.sizeOf9) fun a S => ?_
     refine lq (sv x16185.2.1) S (q_load1 rfl Tryz.isAgg9 (fun w1 hC => (At.of_add (m := 1) (j := 0) (boxAt (i := 0) hC rfl (j := 1) rfl)))) fun a S => ?_
     refine lx_call (xs := [.tmp 36, .tmp 38]) S trivial (by decide) rfl rfl Tryz.call86 ((slices_Index__string_string_ok (H.rdAt 3 rfl)  e16207).mono ?_)
     rintro e w16204 ⟨rfl, Hc16205⟩
     have he16208 := Hc16205.ext
     have H := H.call0 Hc16205
     refine ⟨_, rfl, H.sel [0] (by decide), fun a S => ?_⟩
     refine lx_nil ?_
     refine ⟨⟨[_, _, _, _, _, _, _, _, _], (fun i => [5, 6, 8].contains i), rfl, rfl, ?_⟩, trivial⟩
     ·skip
      refine lq (pAdd (bp b16198) 0) S (q_fieldAddr' 0 2 rfl (isP_bp _) Tryz.underlying90 rfl Tryz.sizeOf2) fun a S => ?_
      refine lq (.int .i64 x16185.1) S (q_load1 rfl Tryz.isAgg2 (fun w1 hC => (At.of_add (m := 0) (j := 0) (boxAt (i := 0) hC rfl (j := 0) rfl)))) fun a S => ?_
      refine lq (pAdd (bp b16198) 2) S (q_fieldAddr' 2 2 rfl (isP_bp _) Tryz.underlying90 rfl Tryz.sizeOf2) fun a S => ?_
      refine lq (.int .i64 x16185.2.2) S (q_load1 rfl Tryz.isAgg2 (fun w1 hC => (At.of_add (m := 2) (j := 0) (boxAt (i := 0) hC rfl (j := 2) rfl)))) fun a S => ?_
      refine lq (.agg #[(.int .i64 x16185.1), (.int .i64 x16206), (.int .i64 x16185.2.2)]) S (q_build (zs := [(.int .i64 (0 : Int)), (.int .i64 (0 : Int)), (.int .i64 (0 : Int))]) (szs := [1, 1, 1]) (ps := [(0, [(.int .i64 x16185.1)]), (1, [(.int .i64 x16206)]), (2, [(.int .i64 x16185.2.2)])]) (parts := [(0, .tmp 34), (1, .tmp 39), (2, .tmp 41)]) rfl Tryz.underlying68 Tryz.zeroValue68 (fun w => by simp [Tryz.sizeOf2]) ⟨rfl, rfl, Nat.le_of_ble_eq_true rfl, ⟨rfl, rfl, Nat.le_of_ble_eq_true rfl, ⟨rfl, rfl, Nat.le_of_ble_eq_true rfl, trivial⟩⟩⟩ rfl) fun a S => ?_
      refine lx_buildSlice (r := Rimpl_Edge) (xs := [(x16185.1, x16206, x16185.2.2)]) (ps := [(0, [(.int .i64 x16185.1), (.int .i64 x16206), (.int .i64 x16185.2.2)])]) (cs := [(.int .i64 x16185.1), (.int .i64 x16206), (.int .i64 x16185.2.2)]) (parts := [(0, .tmp 42)]) S trivial (by decide) rfl (H.put0 (A := eA) rfl) rfl Tryz.underlying29 Tryz.sizeOf68 Tryz.zeroValue68 (by decide) ⟨rfl, rfl, Nat.le_of_ble_eq_true rfl, trivial⟩ (by intro zs hz; exact fill_dense hz ⟨rfl, trivial⟩ rfl rfl) rfl (by decide) (fun w F hA => by cases (show F = [] from hA); exact ⟨_, _, [(.int .i64 x16185.1), (.int .i64 x16206), (.int .i64 x16185.2.2)], _, rfl, rfl, ⟨_, _, [(.int .i64 x16185.1)], [(.int .i64 x16206), (.int .i64 x16185.2.2)], rfl, rfl, ⟨rfl, rfl⟩, ⟨_, _, [(.int .i64 x16206)], [(.int .i64 x16185.2.2)], rfl, rfl, ⟨rfl, rfl⟩, ⟨rfl, rfl⟩⟩⟩, ⟨rfl, rfl⟩⟩) (fun v16209 w16210 H => ⟨H.sel [1] (by decide), fun a S => ?_⟩)
      obtain ⟨hle, hap⟩ := app_some e16213
      replace hap := hap.symm
      subst hap
      have H : Heap w0 [oA (rList Rimpl_Edge) v16209 [(x16185.1, x16206, x16185.2.2)], bA b16198 [(.int .i64 x16185.1), (sv x16185.2.1), (.int .i64 x16185.2.2)] 90, bA b31 [(.int .i64 (0 : Int)), (.int .i64 (0 : Int)), (.slice none 0 0), (.slice none 0 0)] 31, bA b42 [(.int .i64 a0), (.int .i64 a1), v54, v8108] 31, oA (rList rStr) v54 x52, oA (rList Rimpl_Edge) v8108 xs8109] w16210 := H.front 0 rfl
      have H : Heap w0 [oA (rList Rimpl_Edge) v8108 xs8109, oA (rList Rimpl_Edge) v16209 [(x16185.1, x16206, x16185.2.2)], bA b16198 [(.int .i64 x16185.1), (sv x16185.2.1), (.int .i64 x16185.2.2)] 90, bA b31 [(.int .i64 (0 : Int)), (.int .i64 (0 : Int)), (.slice none 0 0), (.slice none 0 0)] 31, bA b42 [(.int .i64 a0), (.int .i64 a1), v54, v8108] 31, oA (rList rStr) v54 x52] w16210 := H.front 5 rfl
      refine lx_appendOwn (r := Rimpl_Edge) S trivial (by decide) rfl H rfl rfl Tryz.underlying29 Tryz.ti68 rfl rfl rfl (Nat.le_of_ble_eq_true rfl) (by decide) hle (fun v16214 w16215 H => ⟨H.sel [1] (by decide), fun a S => ?_⟩)
      refine lq (pAdd (bp b42) 3) S (q_fieldAddr' 3 29 rfl (isP_bp _) Tryz.underlying31 rfl Tryz.sizeOf29) fun a S => ?_
      refine lx_storeBox (o := 3) (i := 3) (us := [v16214]) (cs' := [(.int .i64 a0), (.int .i64 a1), v54, v16214]) S trivial rfl H rfl rfl rfl (cells_sl (H.isSl 0 rfl)) Tryz.sizeOf29 (Nat.le_of_ble_eq_true rfl) (List.forall_mem_cons.2 ⟨one_sl (H.isSl 0 rfl), (List.forall_mem_nil _)⟩) rfl (fun w16217 H => ⟨H.sel [1] (by decide), fun a S => ?_⟩)
      change Heap w0 [oA (rList Rimpl_Edge) v16214 (xs8109 ++ [(x16185.1, x16206, x16185.2.2)]), bA b16198 [(.int .i64 x16185.1), (sv x16185.2.1), (.int .i64 x16185.2.2)] 90, bA b31 [(.int .i64 (0 : Int)), (.int .i64 (0 : Int)), (.slice none 0 0), (.slice none 0 0)] 31, bA b42 [(.int .i64 a0), (.int .i64 a1), v54, v16214] 31, oA (rList rStr) v54 x52] w16217 at H
      refine lx_nil ?_
      refine inBlock_norm ?_
      have H : Heap w0 [oA (rList rStr) v54 x52, oA (rList Rimpl_Edge) v16214 (xs8109 ++ [(x16185.1, x16206, x16185.2.2)]), bA b16198 [(.int .i64 x16185.1), (sv x16185.2.1), (.int .i64 x16185.2.2)] 90, bA b31 [(.int .i64 (0 : Int)), (.int .i64 (0 : Int)), (.slice none 0 0), (.slice none 0 0)] 31, bA b42 [(.int .i64 a0), (.int .i64 a1), v54, v16214] 31] w16217 := H.front 4 rfl
      have H : Heap w0 [bA b42 [(.int .i64 a0), (.int .i64 a1), v54, v16214] 31, oA (rList rStr) v54 x52, oA (rList Rimpl_Edge) v16214 (xs8109 ++ [(x16185.1, x16206, x16185.2.2)]), bA b16198 [(.int .i64 x16185.1), (sv x16185.2.1), (.int .i64 x16185.2.2)] 90, bA b31 [(.int .i64 (0 : Int)), (.int .i64 (0 : Int)), (.slice none 0 0), (.slice none 0 0)] 31] w16217 := H.front 4 rfl
      have H : Heap w0 [bA b31 [(.int .i64 (0 : Int)), (.int .i64 (0 : Int)), (.slice none 0 0), (.slice none 0 0)] 31, bA b42 [(.int .i64 a0), (.int .i64 a1), v54, v16214] 31, oA (rList rStr) v54 x52, oA (rList Rimpl_Edge) v16214 (xs8109 ++ [(x16185.1, x16206, x16185.2.2)]), bA b16198 [(.int .i64 x16185.1), (sv x16185.2.1), (.int .i64 x16185.2.2)] 90] w16217 := H.front 4 rfl
      have H : Heap w0 [bA b31 [(.int .i64 (0 : Int)), (.int .i64 (0 : Int)), (.slice none 0 0), (.slice none 0 0)] 31, bA b42 [(.int .i64 a0), (.int .i64 a1), v54, v16214] 31, oA (rList rStr) v54 x52, oA (rList Rimpl_Edge) v16214 (xs8109 ++ [(x16185.1, x16206, x16185.2.2)])] w16217 := H.sel [0, 1, 2, 3] (by decide)
      exact ⟨(xs8109 ++ [(x16185.1, x16206, x16185.2.2)]), v16214, S.sub ⟨rfl, rfl, rfl, rfl, rfl, trivial⟩, H, hm⟩
    ·skip
     refine lq (pAdd (bp b42) 2) S (q_fieldAddr' 2 22 rfl (isP_bp _) Tryz.underlying31 rfl Tryz.sizeOf22) fun a S => ?_
     refine lx_e v54 S trivial (by decide) rfl (H.sel [0] (by decide)) (q_load1 rfl Tryz.isAgg22 (by rintro _ rfl; exact (At.of_add (m := 2) (j := 0) (boxAt (i := 2) H rfl (j := 2) rfl)))) (fun a S => ?_)
     refine lq (pAdd (bp b16198) 1) S (q_fieldAddr' 1 9 rfl (isP_bp _) Tryz.underlying90 rfl Tryz.sizeOf9) fun a S => ?_
     refine lq (sv x16185.2.1) S (q_load1 rfl Tryz.isAgg9 (fun w1 hC => (At.of_add (m := 1) (j := 0) (boxAt (i := 0) hC rfl (j := 1) rfl)))) fun a S => ?_
     refine lx_call (xs := [.tmp 36, .tmp 38]) S trivial (by decide) rfl rfl Tryz.call86 ((slices_Index__string_string_ok (H.rdAt 3 rfl)  e16207).mono ?_)
     rintro e w16204 ⟨rfl, Hc16205⟩
     have he16208 := Hc16205.ext
     have H := H.call0 Hc16205
     refine ⟨_, rfl, H.sel [0] (by decide), fun a S => ?_⟩
     refine lx_nil ?_
     refine ⟨⟨[_, _, _, _, _, _, _, _, _, _, _], (fun i => [1, 7, 8, 10].contains i), rfl, rfl, ?_⟩, ⟨[_, _, _, _, _, _, _, _, _, _, _], (fun i => [7, 5, 8, 10].contains i), rfl, rfl, ?_⟩, trivial⟩
     ·skip
      refine lq (pAdd (bp b42) 3) S (q_fieldAddr' 3 29 rfl (isP_bp _) Tryz.underlying31 rfl Tryz.sizeOf29) fun a S => ?_
      refine lx_e v8108 S trivial (by decide) rfl (H.sel [0] (by decide)) (q_load1 rfl Tryz.isAgg29 (by rintro _ rfl; exact (At.of_add (m := 3) (j := 0) (boxAt (i := 2) H rfl (j := 3) rfl)))) (fun a S => ?_)
      refine lq (pAdd (bp b16198) 0) S (q_fieldAddr' 0 2 rfl (isP_bp _) Tryz.underlying90 rfl Tryz.sizeOf2) fun a S => ?_
      refine lq (.int .i64 x16185.1) S (q_load1 rfl Tryz.isAgg2 (fun w1 hC => (At.of_add (m := 0) (j := 0) (boxAt (i := 0) hC rfl (j := 0) rfl)))) fun a S => ?_
      refine lq (pAdd (bp b16198) 2) S (q_fieldAddr' 2 2 rfl (isP_bp _) Tryz.underlying90 rfl Tryz.sizeOf2) fun a S => ?_
      refine lq (.int .i64 x16185.2.2) S (q_load1 rfl Tryz.isAgg2 (fun w1 hC => (At.of_add (m := 2) (j := 0) (boxAt (i := 0) hC rfl (j := 2) rfl)))) fun a S => ?_
      refine lq (.agg #[(.int .i64 x16185.1), (.int .i64 x16206), (.int .i64 x16185.2.2)]) S (q_build (zs := [(.int .i64 (0 : Int)), (.int .i64 (0 : Int)), (.int .i64 (0 : Int))]) (szs := [1, 1, 1]) (ps := [(0, [(.int .i64 x16185.1)]), (1, [(.int .i64 x16206)]), (2, [(.int .i64 x16185.2.2)])]) (parts := [(0, .tmp 34), (1, .tmp 39), (2, .tmp 41)]) rfl Tryz.underlying68 Tryz.zeroValue68 (fun w => by simp [Tryz.sizeOf2]) ⟨rfl, rfl, Nat.le_of_ble_eq_true rfl, ⟨rfl, rfl, Nat.le_of_ble_eq_true rfl, ⟨rfl, rfl, Nat.le_of_ble_eq_true rfl, trivial⟩⟩⟩ rfl) fun a S => ?_
      refine lx_buildSlice (r := Rimpl_Edge) (xs := [(x16185.1, x16206, x16185.2.2)]) (ps := [(0, [(.int .i64 x16185.1), (.int .i64 x16206), (.int .i64 x16185.2.2)])]) (cs := [(.int .i64 x16185.1), (.int .i64 x16206), (.int .i64 x16185.2.2)]) (parts := [(0, .tmp 42)]) S trivial (by decide) rfl (H.put0 (A := eA) rfl) rfl Tryz.underlying29 Tryz.sizeOf68 Tryz.zeroValue68 (by decide) ⟨rfl, rfl, Nat.le_of_ble_eq_true rfl, trivial⟩ (by intro zs hz; exact fill_dense hz ⟨rfl, trivial⟩ rfl rfl) rfl (by decide) (fun w F hA => by cases (show F = [] from hA); exact ⟨_, _, [(.int .i64 x16185.1), (.int .i64 x16206), (.int .i64 x16185.2.2)], _, rfl, rfl, ⟨_, _, [(.int .i64 x16185.1)], [(.int .i64 x16206), (.int .i64 x16185.2.2)], rfl, rfl, ⟨rfl, rfl⟩, ⟨_, _, [(.int .i64 x16206)], [(.int .i64 x16185.2.2)], rfl, rfl, ⟨rfl, rfl⟩, ⟨rfl, rfl⟩⟩⟩, ⟨rfl, rfl⟩⟩) (fun v16209 w16210 H => ⟨H.sel [1] (by decide), fun a S => ?_⟩)
      obtain ⟨hle, hap⟩ := app_some e16213
      replace hap := hap.symm
      subst hap
      have H : Heap w0 [oA (rList Rimpl_Edge) v16209 [(x16185.1, x16206, x16185.2.2)], bA b16198 [(.int .i64 x16185.1), (sv x16185.2.1), (.int .i64 x16185.2.2)] 90, bA b31 [(.int .i64 (0 : Int)), (.int .i64 (0 : Int)), (.slice none 0 0), (.slice none 0 0)] 31, bA b42 [(.int .i64 a0), (.int .i64 a1), v54, v8108] 31, oA (rList rStr) v54 x52, oA (rList Rimpl_Edge) v8108 xs8109] w16210 := H.front 0 rfl
      have H : Heap w0 [oA (rList Rimpl_Edge) v8108 xs8109, oA (rList Rimpl_Edge) v16209 [(x16185.1, x16206, x16185.2.2)], bA b16198 [(.int .i64 x16185.1), (sv x16185.2.1), (.int .i64 x16185.2.2)] 90, bA b31 [(.int .i64 (0 : Int)), (.int .i64 (0 : Int)), (.slice none 0 0), (.slice none 0 0)] 31, bA b42 [(.int .i64 a0), (.int .i64 a1), v54, v8108] 31, oA (rList rStr) v54 x52] w16210 := H.front 5 rfl
      refine lx_appendOwn (r := Rimpl_Edge) S trivial (by decide) rfl H rfl rfl Tryz.underlying29 Tryz.ti68 rfl rfl rfl (Nat.le_of_ble_eq_true rfl) (by decide) hle (fun v16214 w16215 H => ⟨H.sel [1] (by decide), fun a S => ?_⟩)
      refine lq (pAdd (bp b42) 3) S (q_fieldAddr' 3 29 rfl (isP_bp _) Tryz.underlying31 rfl Tryz.sizeOf29) fun a S => ?_
      refine lx_storeBox (o := 3) (i := 3) (us := [v16214]) (cs' := [(.int .i64 a0), (.int .i64 a1), v54, v16214]) S trivial rfl H rfl rfl rfl (cells_sl (H.isSl 0 rfl)) Tryz.sizeOf29 (Nat.le_of_ble_eq_true rfl) (List.forall_mem_cons.2 ⟨one_sl (H.isSl 0 rfl), (List.forall_mem_nil _)⟩) rfl (fun w16217 H => ⟨H.sel [1] (by decide), fun a S => ?_⟩)
      change Heap w0 [oA (rList Rimpl_Edge) v16214 (xs8109 ++ [(x16185.1, x16206, x16185.2.2)]), bA b16198 [(.int .i64 x16185.1), (sv x16185.2.1), (.int .i64 x16185.2.2)] 90, bA b31 [(.int .i64 (0 : Int)), (.int .i64 (0 : Int)), (.slice none 0 0), (.slice none 0 0)] 31, bA b42 [(.int .i64 a0), (.int .i64 a1), v54, v16214] 31, oA (rList rStr) v54 x52] w16217 at H
      refine lx_nil ?_
      refine inBlock_norm ?_
      have H : Heap w0 [oA (rList rStr) v54 x52, oA (rList Rimpl_Edge) v16214 (xs8109 ++ [(x16185.1, x16206, x16185.2.2)]), bA b16198 [(.int .i64 x16185.1), (sv x16185.2.1), (.int .i64 x16185.2.2)] 90, bA b31 [(.int .i64 (0 : Int)), (.int .i64 (0 : Int)), (.slice none 0 0), (.slice none 0 0)] 31, bA b42 [(.int .i64 a0), (.int .i64 a1), v54, v16214] 31] w16217 := H.front 4 rfl
      have H : Heap w0 [bA b42 [(.int .i64 a0), (.int .i64 a1), v54, v16214] 31, oA (rList rStr) v54 x52, oA (rList Rimpl_Edge) v16214 (xs8109 ++ [(x16185.1, x16206, x16185.2.2)]), bA b16198 [(.int .i64 x16185.1), (sv x16185.2.1), (.int .i64 x16185.2.2)] 90, bA b31 [(.int .i64 (0 : Int)), (.int .i64 (0 : Int)), (.slice none 0 0), (.slice none 0 0)] 31] w16217 := H.front 4 rfl
      have H : Heap w0 [bA b31 [(.int .i64 (0 : Int)), (.int .i64 (0 : Int)), (.slice none 0 0), (.slice none 0 0)] 31, bA b42 [(.int .i64 a0), (.int .i64 a1), v54, v16214] 31, oA (rList rStr) v54 x52, oA (rList Rimpl_Edge) v16214 (xs8109 ++ [(x16185.1, x16206, x16185.2.2)]), bA b16198 [(.int .i64 x16185.1), (sv x16185.2.1), (.int .i64 x16185.2.2)] 90] w16217 := H.front 4 rfl
      have H : Heap w0 [bA b31 [(.int .i64 (0 : Int)), (.int .i64 (0 : Int)), (.slice none 0 0), (.slice none 0 0)] 31, bA b42 [(.int .i64 a0), (.int .i64 a1), v54, v16214] 31, oA (rList rStr) v54 x52, oA (rList Rimpl_Edge) v16214 (xs8109 ++ [(x16185.1, x16206, x16185.2.2)])] w16217 := H.sel [0, 1, 2, 3] (by decide)
      exact ⟨(xs8109 ++ [(x16185.1, x16206, x16185.2.2)]), v16214, S.sub ⟨rfl, rfl, rfl, rfl, rfl, trivial⟩, H, hm⟩
     ·skip
      refine lq (pAdd (bp b16198) 0) S (q_fieldAddr' 0 2 rfl (isP_bp _) Tryz.underlying90 rfl Tryz.sizeOf2) fun a S => ?_
      refine lq (.int .i64 x16185.1) S (q_load1 rfl Tryz.isAgg2 (fun w1 hC => (At.of_add (m := 0) (j := 0) (boxAt (i := 0) hC rfl (j := 0) rfl)))) fun a S => ?_
      refine lq (pAdd (bp b16198) 2) S (q_fieldAddr' 2 2 rfl (isP_bp _) Tryz.underlying90 rfl Tryz.sizeOf2) fun a S => ?_
      refine lq (.int .i64 x16185.2.2) S (q_load1 rfl Tryz.isAgg2 (fun w1 hC => (At.of_add (m := 2) (j := 0) (boxAt (i := 0) hC rfl (j := 2) rfl)))) fun a S => ?_
      refine lq (.agg #[(.int .i64 x16185.1), (.int .i64 x16206), (.int .i64 x16185.2.2)]) S (q_build (zs := [(.int .i64 (0 : Int)), (.int .i64 (0 : Int)), (.int .i64 (0 : Int))]) (szs := [1, 1, 1]) (ps := [(0, [(.int .i64 x16185.1)]), (1, [(.int .i64 x16206)]), (2, [(.int .i64 x16185.2.2)])]) (parts := [(0, .tmp 34), (1, .tmp 39), (2, .tmp 41)]) rfl Tryz.underlying68 Tryz.zeroValue68 (fun w => by simp [Tryz.sizeOf2]) ⟨rfl, rfl, Nat.le_of_ble_eq_true rfl, ⟨rfl, rfl, Nat.le_of_ble_eq_true rfl, ⟨rfl, rfl, Nat.le_of_ble_eq_true rfl, trivial⟩⟩⟩ rfl) fun a S => ?_
      refine lx_buildSlice (r := Rimpl_Edge) (xs := [(x16185.1, x16206, x16185.2.2)]) (ps := [(0, [(.int .i64 x16185.1), (.int .i64 x16206), (.int .i64 x16185.2.2)])]) (cs := [(.int .i64 x16185.1), (.int .i64 x16206), (.int .i64 x16185.2.2)]) (parts := [(0, .tmp 42)]) S trivial (by decide) rfl (H.put0 (A := eA) rfl) rfl Tryz.underlying29 Tryz.sizeOf68 Tryz.zeroValue68 (by decide) ⟨rfl, rfl, Nat.le_of_ble_eq_true rfl, trivial⟩ (by intro zs hz; exact fill_dense hz ⟨rfl, trivial⟩ rfl rfl) rfl (by decide) (fun w F hA => by cases (show F = [] from hA); exact ⟨_, _, [(.int .i64 x16185.1), (.int .i64 x16206), (.int .i64 x16185.2.2)], _, rfl, rfl, ⟨_, _, [(.int .i64 x16185.1)], [(.int .i64 x16206), (.int .i64 x16185.2.2)], rfl, rfl, ⟨rfl, rfl⟩, ⟨_, _, [(.int .i64 x16206)], [(.int .i64 x16185.2.2)], rfl, rfl, ⟨rfl, rfl⟩, ⟨rfl, rfl⟩⟩⟩, ⟨rfl, rfl⟩⟩) (fun v16209 w16210 H => ⟨H.sel [1] (by decide), fun a S => ?_⟩)
      refine lq (pAdd (bp b42) 3) S (q_fieldAddr' 3 29 rfl (isP_bp _) Tryz.underlying31 rfl Tryz.sizeOf29) fun a S => ?_
      refine lx_e v8108 S trivial (by decide) rfl (H.sel [1] (by decide)) (q_load1 rfl Tryz.isAgg29 (by rintro _ rfl; exact (At.of_add (m := 3) (j := 0) (boxAt (i := 3) H rfl (j := 3) rfl)))) (fun a S => ?_)
      obtain ⟨hle, hap⟩ := app_some e16213
      replace hap := hap.symm
      subst hap
      have H : Heap w0 [oA (rList Rimpl_Edge) v16209 [(x16185.1, x16206, x16185.2.2)], bA b16198 [(.int .i64 x16185.1), (sv x16185.2.1), (.int .i64 x16185.2.2)] 90, bA b31 [(.int .i64 (0 : Int)), (.int .i64 (0 : Int)), (.slice none 0 0), (.slice none 0 0)] 31, bA b42 [(.int .i64 a0), (.int .i64 a1), v54, v8108] 31, oA (rList rStr) v54 x52, oA (rList Rimpl_Edge) v8108 xs8109] w16210 := H.front 0 rfl
      have H : Heap w0 [oA (rList Rimpl_Edge) v8108 xs8109, oA (rList Rimpl_Edge) v16209 [(x16185.1, x16206, x16185.2.2)], bA b16198 [(.int .i64 x16185.1), (sv x16185.2.1), (.int .i64 x16185.2.2)] 90, bA b31 [(.int .i64 (0 : Int)), (.int .i64 (0 : Int)), (.slice none 0 0), (.slice none 0 0)] 31, bA b42 [(.int .i64 a0), (.int .i64 a1), v54, v8108] 31, oA (rList rStr) v54 x52] w16210 := H.front 5 rfl
      refine lx_appendOwn (r := Rimpl_Edge) S trivial (by decide) rfl H rfl rfl Tryz.underlying29 Tryz.ti68 rfl rfl rfl (Nat.le_of_ble_eq_true rfl) (by decide) hle (fun v16214 w16215 H => ⟨H.sel [1] (by decide), fun a S => ?_⟩)
      refine lq (pAdd (bp b42) 3) S (q_fieldAddr' 3 29 rfl (isP_bp _) Tryz.underlying31 rfl Tryz.sizeOf29) fun a S => ?_
      refine lx_storeBox (o := 3) (i := 3) (us := [v16214]) (cs' := [(.int .i64 a0), (.int .i64 a1), v54, v16214]) S trivial rfl H rfl rfl rfl (cells_sl (H.isSl 0 rfl)) Tryz.sizeOf29 (Nat.le_of_ble_eq_true rfl) (List.forall_mem_cons.2 ⟨one_sl (H.isSl 0 rfl), (List.forall_mem_nil _)⟩) rfl (fun w16217 H => ⟨H.sel [1] (by decide), fun a S => ?_⟩)
      change Heap w0 [oA (rList Rimpl_Edge) v16214 (xs8109 ++ [(x16185.1, x16206, x16185.2.2)]), bA b16198 [(.int .i64 x16185.1), (sv x16185.2.1), (.int .i64 x16185.2.2)] 90, bA b31 [(.int .i64 (0 : Int)), (.int .i64 (0 : Int)), (.slice none 0 0), (.slice none 0 0)] 31, bA b42 [(.int .i64 a0), (.int .i64 a1), v54, v16214] 31, oA (rList rStr) v54 x52] w16217 at H
      refine lx_nil ?_
      refine inBlock_norm ?_
      have H : Heap w0 [oA (rList rStr) v54 x52, oA (rList Rimpl_Edge) v16214 (xs8109 ++ [(x16185.1, x16206, x16185.2.2)]), bA b16198 [(.int .i64 x16185.1), (sv x16185.2.1), (.int .i64 x16185.2.2)] 90, bA b31 [(.int .i64 (0 : Int)), (.int .i64 (0 : Int)), (.slice none 0 0), (.slice none 0 0)] 31, bA b42 [(.int .i64 a0), (.int .i64 a1), v54, v16214] 31] w16217 := H.front 4 rfl
      have H : Heap w0 [bA b42 [(.int .i64 a0), (.int .i64 a1), v54, v16214] 31, oA (rList rStr) v54 x52, oA (rList Rimpl_Edge) v16214 (xs8109 ++ [(x16185.1, x16206, x16185.2.2)]), bA b16198 [(.int .i64 x16185.1), (sv x16185.2.1), (.int .i64 x16185.2.2)] 90, bA b31 [(.int .i64 (0 : Int)), (.int .i64 (0 : Int)), (.slice none 0 0), (.slice none 0 0)] 31] w16217 := H.front 4 rfl
      have H : Heap w0 [bA b31 [(.int .i64 (0 : Int)), (.int .i64 (0 : Int)), (.slice none 0 0), (.slice none 0 0)] 31, bA b42 [(.int .i64 a0), (.int .i64 a1), v54, v16214] 31, oA (rList rStr) v54 x52, oA (rList Rimpl_Edge) v16214 (xs8109 ++ [(x16185.1, x16206, x16185.2.2)]), bA b16198 [(.int .i64 x16185.1), (sv x16185.2.1), (.int .i64 x16185.2.2)] 90] w16217 := H.front 4 rfl
      have H : Heap w0 [bA b31 [(.int .i64 (0 : Int)), (.int .i64 (0 : Int)), (.slice none 0 0), (.slice none 0 0)] 31, bA b42 [(.int .i64 a0), (.int .i64 a1), v54, v16214] 31, oA (rList rStr) v54 x52, oA (rList Rimpl_Edge) v16214 (xs8109 ++ [(x16185.1, x16206, x16185.2.2)])] w16217 := H.sel [0, 1, 2, 3] (by decide)
      exact ⟨(xs8109 ++ [(x16185.1, x16206, x16185.2.2)]), v16214, S.sub ⟨rfl, rfl, rfl, rfl, rfl, trivial⟩, H, hm⟩
  ·have hm := ite_f hc16179 hm
   refine wp_exit ?_
   refine then_exit ?_
   refine then_exit ?_
   refine inBlock_exit ?_
   obtain rfl := it_brk hm hc16178
   exact ⟨xs8109, v8108, S.sub ⟨rfl, rfl, trivial⟩, H, rfl⟩

/-- laws.markText -/
def laws_markText_m (fuel : Nat) (a0 : Int) : Option (Str) :=
  (if (decide (a0 ≤ (0 : Int))) = true then some (([109, 48] : Str)) else (iter (fun (s : (Int) × (Str)) => (match s with | (x40, x41) => (if (decide ((0 : Int) < x40)) = true then (cat (bstr [(IntKind.u8.wrap (W ((48 : Int) + (x40.tmod (10 : Int)))))]) x41).bind fun x65 => some (.inl ((W (x40.tdiv (10 : Int))), x65)) else some (.inr (.inl (x41)))) : Option (((Int) × (Str)) ⊕ ((Str) ⊕ (Str))))) fuel (a0, ([] : Str))).bind fun res51 => ctl (β := Str) (ρ := Str) (τ := Str) res51 (fun (x50) => (cat ([109] : Str) x50).bind fun x56 => some (x56)) (fun q => some (q)))
set_option maxRecDepth 20000 in
theorem laws_markText_ok [dr : Dr] {w0 : World} {fuel : Nat} {a0 : Int} {r : Str} (hm : laws_markText_m fuel a0 = some r) :
  Calls Tryz.prog 60 #[.int .i64 a0] w0 fun e w => e = .returned (sv r) ∧ Heap w0 [] w := by
 unfold laws_markText_m at hm
 have H := Heap.start w0
 refine enter (args := [.int .i64 a0]) Tryz.func60 rfl 20 rfl (Nat.le_of_ble_eq_true rfl) (fun a S => ?_)
 refine wp_seq (region_plain ?_)
 refine lq (sv ([] : Str)) S (q_assign rfl) fun a S => ?_
 refine lx_nil (thenN ?_)
 refine wp_seq (wp_seq (region_plain ?_))
 refine lq (.int .i64 a0) S (q_move rfl) fun a S => ?_
 refine lq (.bool (decide (a0 ≤ (0 : Int)))) S (q_leq rfl rfl) fun a S => ?_
 refine lx_nil (thenN ?_)
 refine cond_b S rfl (fun hc31 => ?_) (fun hc31 => ?_)
 ·have hm := ite_t hc31 hm
  refine wp_seq (region_plain ?_)
  refine lq (sv ([109, 48] : Str)) S (q_assign rfl) fun a S => ?_
  refine lx_nil (thenN ?_)
  refine wp_ret (then_ret ?_)
  obtain rfl := Option.some.inj hm
  exact leave1 S rfl rfl ⟨rfl, H⟩
 ·have hm := ite_f hc31 hm
  refine wp_skip (thenN ?_)
  refine wp_seq (region_plain ?_)
  refine lq (sv ([] : Str)) S (q_assign rfl) fun a S => ?_
  refine lx_nil (thenN ?_)
  refine wp_seq ?_
  obtain ⟨res51, hit52, hk55⟩ := bind_some hm
  obtain ⟨f53, hf54, hit52⟩ := iter_name hit52
  refine block_loop (fun a w => ∃ (x50 : Str), Slots a 20 [(3, (sv x50))] ∧ Heap w0 [] w ∧ res51 = .inl (x50)) ?_ ?_
  ·rintro a w ⟨x50, S, H, rfl⟩
   have hm := ctl_inl hk55
   refine thenN ?_
   refine wp_seq (region_plain ?_)
   refine lq (sv x50) S (q_move rfl) fun a S => ?_
   obtain ⟨x56, e57, hm⟩ := bind_some hm
   obtain ⟨hle, hcat⟩ := cat_some e57
   subst hcat
   refine lq (sv (([109] : Str) ++ x50)) S (q_cat rfl rfl hle) fun a S => ?_
   refine lq (sv (([109] : Str) ++ x50)) S (q_assign rfl) fun a S => ?_
   refine lx_nil (thenN ?_)
   refine wp_ret ?_
   obtain rfl := Option.some.inj hm
   exact leave1 S rfl rfl ⟨rfl, H⟩
  ·skip
   refine loop_ghost (fun n a w => ∃ (x40 : Int) (x41 : Str), Slots a 20 [(0, (.int .i64 x40)), (3, (sv x41))] ∧ Heap w0 [] w ∧ iter f53 n (x40, x41) = some res51) _ ⟨a0, ([] : Str), S.sub ⟨rfl, rfl, trivial⟩, H, hit52⟩ ?_
   rintro n a w ⟨x40, x41, S, H, hit52⟩
   obtain ⟨m58, o59, rfl, hm, hc60⟩ := iter_step hit52
   rw [hf54] at hm
   refine wp_seq (wp_seq (region_plain ?_))
   refine lq (.int .i64 x40) S (q_move rfl) fun a S => ?_
   refine lq (.bool (decide ((0 : Int) < x40))) S (q_gtr rfl rfl) fun a S => ?_
   refine lx_nil (thenN ?_)
   refine cond_b S rfl (fun hc61 => ?_) (fun hc61 => ?_)
   ·have hm := ite_t hc61 hm
    refine wp_skip (thenN ?_)
    refine wp_block ?_
    refine wp_seq (region_plain ?_)
    refine lq (.int .i64 x40) S (q_move rfl) fun a S => ?_
    refine lq (.int .i64 (x40.tmod (10 : Int))) S (q_rem rfl rfl (show (10 : Int) ≠ 0 from by decide)) fun a S => ?_
    refine lq (.int .i64 (W ((48 : Int) + (x40.tmod (10 : Int))))) S (q_add rfl rfl) fun a S => ?_
    refine lq (.int .u8 (IntKind.u8.wrap (W ((48 : Int) + (x40.tmod (10 : Int)))))) S (q_convInt rfl Tryz.underlying3 Tryz.underlying5) fun a S => ?_
    refine lx_buildSlice (r := (rInt .u8)) (xs := [(IntKind.u8.wrap (W ((48 : Int) + (x40.tmod (10 : Int)))))]) (ps := [(0, [(.int .u8 (IntKind.u8.wrap (W ((48 : Int) + (x40.tmod (10 : Int))))))])]) (cs := [(.int .u8 (IntKind.u8.wrap (W ((48 : Int) + (x40.tmod (10 : Int))))))]) (parts := [(0, .tmp 11)]) S trivial (by decide) rfl (H.put0 (A := eA) rfl) rfl Tryz.underlying112 Tryz.sizeOf5 Tryz.zeroValue5 (by decide) ⟨rfl, rfl, Nat.le_of_ble_eq_true rfl, trivial⟩ (by intro zs hz; exact fill_dense hz ⟨rfl, trivial⟩ rfl rfl) rfl (by decide) (fun w F hA => by cases (show F = [] from hA); exact ⟨_, _, [(.int .u8 (IntKind.u8.wrap (W ((48 : Int) + (x40.tmod (10 : Int))))))], _, rfl, rfl, ⟨rfl, rfl⟩, ⟨rfl, rfl⟩⟩) (fun v62 w63 H => ⟨trivial, fun a S => ?_⟩)
    refine lx_e (sv (bstr [(IntKind.u8.wrap (W ((48 : Int) + (x40.tmod (10 : Int)))))])) S trivial (by decide) rfl trivial (q_bstr rfl Tryz.underlying112 Tryz.underlying9 Tryz.underlying5 (by rintro _ rfl; exact (H.rdAt 0 rfl))) (fun a S => ?_)
    refine lq (sv x41) S (q_move rfl) fun a S => ?_
    obtain ⟨x65, e66, hm⟩ := bind_some hm
    obtain ⟨hle, hcat⟩ := cat_some e66
    subst hcat
    refine lq (sv ((bstr [(IntKind.u8.wrap (W ((48 : Int) + (x40.tmod (10 : Int)))))]) ++ x41)) S (q_cat rfl rfl hle) fun a S => ?_
    refine lq (sv ((bstr [(IntKind.u8.wrap (W ((48 : Int) + (x40.tmod (10 : Int)))))]) ++ x41)) S (q_assign rfl) fun a S => ?_
    refine lx_nil (thenN ?_)
    refine region_plain ?_
    refine lq (.int .i64 x40) S (q_move rfl) fun a S => ?_
    refine lq (.int .i64 (W (x40.tdiv (10 : Int)))) S (q_quo rfl rfl (show (10 : Int) ≠ 0 from by decide)) fun a S => ?_
    refine lq (.int .i64 (W (x40.tdiv (10 : Int)))) S (q_assign rfl) fun a S => ?_
    refine lx_nil ?_
    refine inBlock_norm ?_
    have H : Heap w0 [] w63 := H.sel [] (by decide)
    exact ⟨m58, Nat.lt_succ_self _, (W (x40.tdiv (10 : Int))), ((bstr [(IntKind.u8.wrap (W ((48 : Int) + (x40.tmod (10 : Int)))))]) ++ x41), S.sub ⟨rfl, rfl, trivial⟩, H, it_cont hm hc60⟩
   ·have hm := ite_f hc61 hm
    refine wp_exit ?_
    refine then_exit ?_
    refine then_exit ?_
    refine inBlock_exit ?_
    obtain rfl := it_brk hm hc60
    exact ⟨x41, S.sub ⟨rfl, trivial⟩, H, rfl⟩

/-- laws.markStringS -/
def laws_markStringS_m (fuel : Nat) (a0 : (List Str)) (a1 : Int) : Option (Int × (List Str)) :=
  (iter (fun (s : (List Str) × (Int) × (Int)) => (match s with | (xs43, x44, x45) => (if (decide (x45 < (xs43.length : Int))) = true then (laws_markText_m fuel x44).bind fun x71 => (idx xs43 x45).bind fun _ => some (.inl ((xs43.set x45.toNat x71), (W (x44 + (1 : Int))), (W (x45 + (1 : Int))))) else some (.inr (.inl (x44, xs43)))) : Option (((List Str) × (Int) × (Int)) ⊕ ((Int × (List Str)) ⊕ (Int × (List Str)))))) fuel (a0, a1, (0 : Int))).bind fun res60 => ctl (β := Int × (List Str)) (ρ := Int × (List Str)) (τ := Int × (List Str)) res60 (fun (x58, xs59) => some ((x58, xs59))) (fun q => some (q))
set_option maxRecDepth 20000 in
theorem laws_markStringS_ok [dr : Dr] {w0 : World} {fuel : Nat} {p0 : Value} {a0 : (List Str)} {a1 : Int} {w00 : World} {L : List Asrt} {r : Int × (List Str)} (H : Heap w00 (oA (rList rStr) p0 a0 :: L) w0) (hm : laws_markStringS_m fuel a0 a1 = some r) :
  Calls Tryz.prog 31 #[p0, .int .i64 a1] w0 fun e w => e = .returned (.int .i64 r.1) ∧ Heap w00 (oA (rList rStr) p0 r.2 :: L) w := by
 unfold laws_markStringS_m at hm
 refine enter (args := [p0, .int .i64 a1]) Tryz.func31 rfl 20 rfl (Nat.le_of_ble_eq_true rfl) (fun a S => ?_)
 refine wp_seq (region_plain ?_)
 refine lq (.int .i64 (0 : Int)) S (q_assign rfl) fun a S => ?_
 refine lx_nil (thenN ?_)
 refine wp_seq (wp_seq (region_plain ?_))
 refine lq (.int .i64 (0 : Int)) S (q_assign rfl) fun a S => ?_
 refine lx_nil (thenN ?_)
 obtain ⟨res60, hit61, hk64⟩ := bind_some hm
 obtain ⟨f62, hf63, hit61⟩ := iter_name hit61
 refine block_loop (fun a w => ∃ (x58 : Int) (xs59 : List Str), Slots a 20 [(1, (.int .i64 x58))] ∧ Heap w00 (oA (rList rStr) p0 xs59 :: L) w ∧ res60 = .inl (x58, xs59)) ?_ ?_
 ·rintro a w ⟨x58, xs59, S, H, rfl⟩
  have hm := ctl_inl hk64
  refine thenN ?_
  refine wp_seq (region_plain ?_)
  refine lq (.int .i64 x58) S (q_move rfl) fun a S => ?_
  refine lq (.int .i64 x58) S (q_assign rfl) fun a S => ?_
  refine lx_nil (thenN ?_)
  refine wp_ret ?_
  obtain rfl := Option.some.inj hm
  exact leave1 S rfl rfl ⟨rfl, H⟩
 ·skip
  refine loop_ghost (fun n a w => ∃ (xs43 : List Str) (x44 : Int) (x45 : Int), Slots a 20 [(0, p0), (1, (.int .i64 x44)), (5, (.int .i64 x45))] ∧ Heap w00 (oA (rList rStr) p0 xs43 :: L) w ∧ iter f62 n (xs43, x44, x45) = some res60) _ ⟨a0, a1, (0 : Int), S.sub ⟨rfl, rfl, rfl, trivial⟩, H, hit61⟩ ?_
  rintro n a w ⟨xs43, x44, x45, S, H, hit61⟩
  obtain ⟨m65, o66, rfl, hm, hc67⟩ := iter_step hit61
  rw [hf63] at hm
  refine wp_seq (wp_seq (region_plain ?_))
  refine lq (.int .i64 x45) S (q_move rfl) fun a S => ?_
  refine lq p0 S (q_move rfl) fun a S => ?_
  refine lq (.int .i64 (xs43.length : Int)) S (q_lenSl rfl (H.isSl 0 rfl) rfl Tryz.underlying22) fun a S => ?_
  refine lq (.bool (decide (x45 < (xs43.length : Int)))) S (q_lss rfl rfl) fun a S => ?_
  refine lx_nil (thenN ?_)
  refine cond_b S rfl (fun hc68 => ?_) (fun hc68 => ?_)
  ·have hm := ite_t hc68 hm
   refine wp_skip (thenN ?_)
   refine wp_seq ?_
   refine wp_block ?_
   refine wp_seq (region_plain ?_)
   refine lq p0 S (q_move rfl) fun a S => ?_
   refine lq (.int .i64 x45) S (q_move rfl) fun a S => ?_
   refine lq (.int .i64 x44) S (q_move rfl) fun a S => ?_
   obtain ⟨x71, e72, hm⟩ := bind_some hm
   refine lx_call (xs := [.tmp 14]) S trivial (by decide) rfl rfl Tryz.call60 ((laws_markText_ok  e72).mono ?_)
   rintro e w69 ⟨rfl, Hc70⟩
   have H := H.call0 Hc70
   refine ⟨_, rfl, trivial, fun a S => ?_⟩
   obtain ⟨x74, e75, hm⟩ := bind_some hm
   have hlt := lt_of_idx (idx_some e75).2
   refine lq (ePtr p0 (x45.toNat * 1)) S (q_indexAddr rfl (H.isSl 0 rfl) rfl (idx_some e75).1 hlt Tryz.underlying22 Tryz.sizeOf9) fun a S => ?_
   refine lx_storeElem (r := rStr) (us := [(sv x71)]) (off := 0) (e' := x71) S trivial rfl H.putE (ev_zero rfl) rfl (idx_some e75).2 rfl Tryz.sizeOf9 (Nat.le_of_ble_eq_true rfl) (List.forall_mem_cons.2 ⟨rfl, (List.forall_mem_nil _)⟩) (Upd.full rfl (fun w G hG => by cases (show G = [] from hG); exact ⟨rfl, rfl⟩)) (fun w76 H => ⟨trivial, fun a S => ?_⟩)
   refine lx_nil (thenN ?_)
   refine region_plain ?_
   refine lq (.int .i64 x44) S (q_move rfl) fun a S => ?_
   refine lq (.int .i64 (W (x44 + (1 : Int)))) S (q_add rfl rfl) fun a S => ?_
   refine lq (.int .i64 (W (x44 + (1 : Int)))) S (q_assign rfl) fun a S => ?_
   refine lx_nil ?_
   refine inBlock_norm ?_
   refine thenN ?_
   refine region_plain ?_
   refine lq (.int .i64 x45) S (q_move rfl) fun a S => ?_
   refine lq (.int .i64 (W (x45 + (1 : Int)))) S (q_add rfl rfl) fun a S => ?_
   refine lq (.int .i64 (W (x45 + (1 : Int)))) S (q_assign rfl) fun a S => ?_
   refine lx_nil ?_
   exact ⟨m65, Nat.lt_succ_self _, (xs43.set x45.toNat x71), (W (x44 + (1 : Int))), (W (x45 + (1 : Int))), S.sub ⟨rfl, rfl, rfl, trivial⟩, H, it_cont hm hc67⟩
  ·have hm := ite_f hc68 hm
   refine wp_exit ?_
   refine then_exit ?_
   refine then_exit ?_
   refine inBlock_exit ?_
   obtain rfl := it_brk hm hc67
   exact ⟨x44, xs43, S.sub ⟨rfl, trivial⟩, H, rfl⟩

/-- laws.markEdgeS -/
def laws_markEdgeS_m (fuel : Nat) (a0 : (List Timpl_Edge)) (a1 : Int) : Option (Int × (List Timpl_Edge)) :=
  (iter (fun (s : (List Timpl_Edge) × (Int) × (Int)) => (match s with | (xs44, x45, x46) => (if (decide (x46 < (xs44.length : Int))) = true then (idx xs44 x46).bind fun x71 => (idx (xs44.set x46.toNat (x45, x71.2.1, x71.2.2)) x46).bind fun x74 => (idx ((xs44.set x46.toNat (x45, x71.2.1, x71.2.2)).set x46.toNat (x74.1, (W (x45 + (1 : Int))), x74.2.2)) x46).bind fun x77 => some (.inl ((((xs44.set x46.toNat (x45, x71.2.1, x71.2.2)).set x46.toNat (x74.1, (W (x45 + (1 : Int))), x74.2.2)).set x46.toNat (x77.1, x77.2.1, (W ((W (x45 + (1 : Int))) + (1 : Int))))), (W ((W ((W (x45 + (1 : Int))) + (1 : Int))) + (1 : Int))), (W (x46 + (1 : Int))))) else some (.inr (.inl (x45, xs44)))) : Option (((List Timpl_Edge) × (Int) × (Int)) ⊕ ((Int × (List Timpl_Edge)) ⊕ (Int × (List Timpl_Edge)))))) fuel (a0, a1, (0 : Int))).bind fun res62 => ctl (β := Int × (List Timpl_Edge)) (ρ := Int × (List Timpl_Edge)) (τ := Int × (List Timpl_Edge)) res62 (fun (x60, xs61) => some ((x60, xs61))) (fun q => some (q))
set_option maxRecDepth 20000 in
theorem laws_markEdgeS_ok [dr : Dr] {w0 : World} {fuel : Nat} {p0 : Value} {a0 : (List Timpl_Edge)} {a1 : Int} {w00 : World} {L : List Asrt} {r : Int × (List Timpl_Edge)} (H : Heap w00 (oA (rList Rimpl_Edge) p0 a0 :: L) w0) (hm : laws_markEdgeS_m fuel a0 a1 = some r) :
  Calls Tryz.prog 32 #[p0, .int .i64 a1] w0 fun e w => e = .returned (.int .i64 r.1) ∧ Heap w00 (oA (rList Rimpl_Edge) p0 r.2 :: L) w := by
 unfold laws_markEdgeS_m at hm
 refine enter (args := [p0, .int .i64 a1]) Tryz.func32 rfl 34 rfl (Nat.le_of_ble_eq_true rfl) (fun a S => ?_)
 refine wp_seq (region_plain ?_)
 refine lq (.int .i64 (0 : Int)) S (q_assign rfl) fun a S => ?_
 refine lx_nil (thenN ?_)
 refine wp_seq (wp_seq (region_plain ?_))
 refine lq (.int .i64 (0 : Int)) S (q_assign rfl) fun a S => ?_
 refine lx_nil (thenN ?_)
 obtain ⟨res62, hit63, hk66⟩ := bind_some hm
 obtain ⟨f64, hf65, hit63⟩ := iter_name hit63
 refine block_loop (fun a w => ∃ (x60 : Int) (xs61 : List Timpl_Edge), Slots a 34 [(1, (.int .i64 x60))] ∧ Heap w00 (oA (rList Rimpl_Edge) p0 xs61 :: L) w ∧ res62 = .inl (x60, xs61)) ?_ ?_
 ·rintro a w ⟨x60, xs61, S, H, rfl⟩
  have hm := ctl_inl hk66
  refine thenN ?_
  refine wp_seq (region_plain ?_)
  refine lq (.int .i64 x60) S (q_move rfl) fun a S => ?_
  refine lq (.int .i64 x60) S (q_assign rfl) fun a S => ?_
  refine lx_nil (thenN ?_)
  refine wp_ret ?_
  obtain rfl := Option.some.inj hm
  exact leave1 S rfl rfl ⟨rfl, H⟩
 ·skip
  refine loop_ghost (fun n a w => ∃ (xs44 : List Timpl_Edge) (x45 : Int) (x46 : Int), Slots a 34 [(0, p0), (1, (.int .i64 x45)), (5, (.int .i64 x46))] ∧ Heap w00 (oA (rList Rimpl_Edge) p0 xs44 :: L) w ∧ iter f64 n (xs44, x45, x46) = some res62) _ ⟨a0, a1, (0 : Int), S.sub ⟨rfl, rfl, rfl, trivial⟩, H, hit63⟩ ?_
  rintro n a w ⟨xs44, x45, x46, S, H, hit63⟩
  obtain ⟨m67, o68, rfl, hm, hc69⟩ := iter_step hit63
  rw [hf65] at hm
  refine wp_seq (wp_seq (region_plain ?_))
  refine lq (.int .i64 x46) S (q_move rfl) fun a S => ?_
  refine lq p0 S (q_move rfl) fun a S => ?_
  refine lq (.int .i64 (xs44.length : Int)) S (q_lenSl rfl (H.isSl 0 rfl) rfl Tryz.underlying29) fun a S => ?_
  refine lq (.bool (decide (x46 < (xs44.length : Int)))) S (q_lss rfl rfl) fun a S => ?_
  refine lx_nil (thenN ?_)
  refine cond_b S rfl (fun hc70 => ?_) (fun hc70 => ?_)
  ·have hm := ite_t hc70 hm
   refine wp_skip (thenN ?_)
   refine wp_seq ?_
   refine wp_block ?_
   refine wp_seq (region_plain ?_)
   refine lq p0 S (q_move rfl) fun a S => ?_
   refine lq (.int .i64 x46) S (q_move rfl) fun a S => ?_
   refine lq (.int .i64 x45) S (q_move rfl) fun a S => ?_
   obtain ⟨x71, e72, hm⟩ := bind_some hm
   have hlt := lt_of_idx (idx_some e72).2
   refine lq (ePtr p0 (x46.toNat * 3)) S (q_indexAddr rfl (H.isSl 0 rfl) rfl (idx_some e72).1 hlt Tryz.underlying29 Tryz.sizeOf68) fun a S => ?_
   refine lq (pAdd (ePtr p0 (x46.toNat * 3)) 0) S (q_fieldAddr' 0 2 rfl (((H.isSl 0 rfl)).ptr (lt_of_idx (idx_some e72).2) _) Tryz.underlying68 rfl Tryz.sizeOf2) fun a S => ?_
   refine lx_storeElem (r := Rimpl_Edge) (us := [(.int .i64 x45)]) (off := 0) (e' := (x45, x71.2.1, x71.2.2)) S trivial rfl H.putE rfl rfl (idx_some e72).2 rfl Tryz.sizeOf2 (Nat.le_of_ble_eq_true rfl) (List.forall_mem_cons.2 ⟨rfl, (List.forall_mem_nil _)⟩) (Upd.fst (off := 0) (Nat.le_of_ble_eq_true rfl) (Upd.full rfl (fun w G hG => by cases (show G = [] from hG); exact ⟨rfl, rfl⟩))) (fun w73 H => ⟨trivial, fun a S => ?_⟩)
   refine lx_nil (thenN ?_)
   refine wp_seq (region_plain ?_)
   refine lq (.int .i64 x45) S (q_move rfl) fun a S => ?_
   refine lq (.int .i64 (W (x45 + (1 : Int)))) S (q_add rfl rfl) fun a S => ?_
   refine lq (.int .i64 (W (x45 + (1 : Int)))) S (q_assign rfl) fun a S => ?_
   refine lx_nil (thenN ?_)
   refine wp_seq (region_plain ?_)
   refine lq p0 S (q_move rfl) fun a S => ?_
   refine lq (.int .i64 x46) S (q_move rfl) fun a S => ?_
   refine lq (.int .i64 (W (x45 + (1 : Int)))) S (q_move rfl) fun a S => ?_
   obtain ⟨x74, e75, hm⟩ := bind_some hm
   have hlt := lt_of_idx (idx_some e75).2
   refine lq (ePtr p0 (x46.toNat * 3)) S (q_indexAddr rfl (H.isSl 0 rfl) rfl (idx_some e75).1 hlt Tryz.underlying29 Tryz.sizeOf68) fun a S => ?_
   refine lq (pAdd (ePtr p0 (x46.toNat * 3)) 1) S (q_fieldAddr' 1 2 rfl (((H.isSl 0 rfl)).ptr (lt_of_idx (idx_some e75).2) _) Tryz.underlying68 rfl Tryz.sizeOf2) fun a S => ?_
   refine lx_storeElem (r := Rimpl_Edge) (us := [(.int .i64 (W (x45 + (1 : Int))))]) (off := 1) (e' := (x74.1, (W (x45 + (1 : Int))), x74.2.2)) S trivial rfl H.putE rfl rfl (idx_some e75).2 rfl Tryz.sizeOf2 (Nat.le_of_ble_eq_true rfl) (List.forall_mem_cons.2 ⟨rfl, (List.forall_mem_nil _)⟩) (Upd.snd (off := 0) (Upd.fst (off := 0) (Nat.le_of_ble_eq_true rfl) (Upd.full rfl (fun w G hG => by cases (show G = [] from hG); exact ⟨rfl, rfl⟩)))) (fun w76 H => ⟨trivial, fun a S => ?_⟩)
   refine lx_nil (thenN ?_)
   refine wp_seq (region_plain ?_)
   refine lq (.int .i64 (W (x45 + (1 : Int)))) S (q_move rfl) fun a S => ?_
   refine lq (.int .i64 (W ((W (x45 + (1 : Int))) + (1 : Int)))) S (q_add rfl rfl) fun a S => ?_
   refine lq (.int .i64 (W ((W (x45 + (1 : Int))) + (1 : Int)))) S (q_assign rfl) fun a S => ?_
   refine lx_nil (thenN ?_)
   refine wp_seq (region_plain ?_)
   refine lq p0 S (q_move rfl) fun a S => ?_
   refine lq (.int .i64 x46) S (q_move rfl) fun a S => ?_
   refine lq (.int .i64 (W ((W (x45 + (1 : Int))) + (1 : Int)))) S (q_move rfl) fun a S => ?_
   obtain ⟨x77, e78, hm⟩ := bind_some hm
   have hlt := lt_of_idx (idx_some e78).2
   refine lq (ePtr p0 (x46.toNat * 3)) S (q_indexAddr rfl (H.isSl 0 rfl) rfl (idx_some e78).1 hlt Tryz.underlying29 Tryz.sizeOf68) fun a S => ?_
   refine lq (pAdd (ePtr p0 (x46.toNat * 3)) 2) S (q_fieldAddr' 2 2 rfl (((H.isSl 0 rfl)).ptr (lt_of_idx (idx_some e78).2) _) Tryz.underlying68 rfl Tryz.sizeOf2) fun a S => ?_
   refine lx_storeElem (r := Rimpl_Edge) (us := [(.int .i64 (W ((W (x45 + (1 : Int))) + (1 : Int))))]) (off := 2) (e' := (x77.1, x77.2.1, (W ((W (x45 + (1 : Int))) + (1 : Int))))) S trivial rfl H.putE rfl rfl (idx_some e78).2 rfl Tryz.sizeOf2 (Nat.le_of_ble_eq_true rfl) (List.forall_mem_cons.2 ⟨rfl, (List.forall_mem_nil _)⟩) (Upd.snd (off := 1) (Upd.snd (off := 0) (Upd.full rfl (fun w G hG => by cases (show G = [] from hG); exact ⟨rfl, rfl⟩)))) (fun w79 H => ⟨trivial, fun a S => ?_⟩)
   refine lx_nil (thenN ?_)
   refine region_plain ?_
   refine lq (.int .i64 (W ((W (x45 + (1 : Int))) + (1 : Int)))) S (q_move rfl) fun a S => ?_
   refine lq (.int .i64 (W ((W ((W (x45 + (1 : Int))) + (1 : Int))) + (1 : Int)))) S (q_add rfl rfl) fun a S => ?_
   refine lq (.int .i64 (W ((W ((W (x45 + (1 : Int))) + (1 : Int))) + (1 : Int)))) S (q_assign rfl) fun a S => ?_
   refine lx_nil ?_
   refine inBlock_norm ?_
   refine thenN ?_
   refine region_plain ?_
   refine lq (.int .i64 x46) S (q_move rfl) fun a S => ?_
   refine lq (.int .i64 (W (x46 + (1 : Int)))) S (q_add rfl rfl) fun a S => ?_
   refine lq (.int .i64 (W (x46 + (1 : Int)))) S (q_assign rfl) fun a S => ?_
   refine lx_nil ?_
   exact ⟨m67, Nat.lt_succ_self _, (((xs44.set x46.toNat (x45, x71.2.1, x71.2.2)).set x46.toNat (x74.1, (W (x45 + (1 : Int))), x74.2.2)).set x46.toNat (x77.1, x77.2.1, (W ((W (x45 + (1 : Int))) + (1 : Int))))), (W ((W ((W (x45 + (1 : Int))) + (1 : Int))) + (1 : Int))), (W (x46 + (1 : Int))), S.sub ⟨rfl, rfl, rfl, trivial⟩, H, it_cont hm hc69⟩
  ·have hm := ite_f hc70 hm
   refine wp_exit ?_
   refine then_exit ?_
   refine then_exit ?_
   refine inBlock_exit ?_
   obtain rfl := it_brk hm hc69
   exact ⟨x45, xs44, S.sub ⟨rfl, trivial⟩, H, rfl⟩

/-- laws.markLts -/
def laws_markLts_m (fuel : Nat) (a0 : Timpl_Lts) (a1 : Int) : Option (Int × (List Str) × (List Timpl_Edge)) :=
  (laws_markStringS_m fuel a0.2.2.1 a1).bind fun x36 => (laws_markEdgeS_m fuel a0.2.2.2 x36.1).bind fun x40 => some ((x40.1, x36.2, x40.2))
set_option maxRecDepth 20000 in
theorem laws_markLts_ok [dr : Dr] {w0 : World} {fuel : Nat} {p0_0 p0_1 : Value} {a0 : Timpl_Lts} {a1 : Int} {w00 : World} {L : List Asrt} {r : Int × (List Str) × (List Timpl_Edge)} (H : Heap w00 (oA (rList rStr) p0_0 a0.2.2.1 :: oA (rList Rimpl_Edge) p0_1 a0.2.2.2 :: L) w0) (hm : laws_markLts_m fuel a0 a1 = some r) :
  Calls Tryz.prog 13 #[(.agg #[(.int .i64 a0.1), (.int .i64 a0.2.1), p0_0, p0_1]), .int .i64 a1] w0 fun e w => e = .returned (.int .i64 r.1) ∧ Heap w00 (oA (rList rStr) p0_0 r.2.1 :: oA (rList Rimpl_Edge) p0_1 r.2.2 :: L) w := by
 unfold laws_markLts_m at hm
 refine enter (args := [(.agg #[(.int .i64 a0.1), (.int .i64 a0.2.1), p0_0, p0_1]), .int .i64 a1]) Tryz.func13 rfl 14 rfl (Nat.le_of_ble_eq_true rfl) (fun a S => ?_)
 refine wp_seq (region_plain ?_)
 refine lx_box S trivial (by decide) rfl H rfl rfl (fun b31 w32 H => ⟨trivial, fun a S => ?_⟩)
 refine lq (.int .i64 (0 : Int)) S (q_assign rfl) fun a S => ?_
 refine lx_nil (thenN ?_)
 refine wp_seq (region_plain ?_)
 refine lq (pAdd (bp b31) 2) S (q_fieldAddr' 2 22 rfl (isP_bp _) Tryz.underlying31 rfl Tryz.sizeOf22) fun a S => ?_
 refine lx_e p0_0 S trivial (by decide) rfl trivial (q_load1 rfl Tryz.isAgg22 (by rintro _ rfl; exact (At.of_add (m := 2) (j := 0) (boxAt (i := 0) H rfl (j := 2) rfl)))) (fun a S => ?_)
 refine lq (.int .i64 a1) S (q_move rfl) fun a S => ?_
 obtain ⟨x36, e37, hm⟩ := bind_some hm
 have H : Heap w00 (oA (rList rStr) p0_0 a0.2.2.1 :: bA b31 [(.int .i64 a0.1), (.int .i64 a0.2.1), p0_0, p0_1] 31 :: oA (rList Rimpl_Edge) p0_1 a0.2.2.2 :: L) w32 := H.front 1 rfl
 refine lx_call (xs := [.tmp 6, .tmp 7]) S trivial (by decide) rfl rfl Tryz.call31 ((laws_markStringS_ok H  e37).mono ?_)
 rintro e w34 ⟨rfl, H⟩
 refine ⟨_, rfl, trivial, fun a S => ?_⟩
 refine lq (.int .i64 x36.1) S (q_assign rfl) fun a S => ?_
 refine lx_nil (thenN ?_)
 refine wp_seq (region_plain ?_)
 refine lq (pAdd (bp b31) 3) S (q_fieldAddr' 3 29 rfl (isP_bp _) Tryz.underlying31 rfl Tryz.sizeOf29) fun a S => ?_
 refine lx_e p0_1 S trivial (by decide) rfl trivial (q_load1 rfl Tryz.isAgg29 (by rintro _ rfl; exact (At.of_add (m := 3) (j := 0) (boxAt (i := 1) H rfl (j := 3) rfl)))) (fun a S => ?_)
 refine lq (.int .i64 x36.1) S (q_move rfl) fun a S => ?_
 obtain ⟨x40, e41, hm⟩ := bind_some hm
 have H : Heap w00 (oA (rList Rimpl_Edge) p0_1 a0.2.2.2 :: oA (rList rStr) p0_0 x36.2 :: bA b31 [(.int .i64 a0.1), (.int .i64 a0.2.1), p0_0, p0_1] 31 :: L) w34 := H.front 2 rfl
 refine lx_call (xs := [.tmp 10, .tmp 11]) S trivial (by decide) rfl rfl Tryz.call32 ((laws_markEdgeS_ok H  e41).mono ?_)
 rintro e w38 ⟨rfl, H⟩
 refine ⟨_, rfl, trivial, fun a S => ?_⟩
 refine lq (.int .i64 x40.1) S (q_assign rfl) fun a S => ?_
 refine lx_nil (thenN ?_)
 refine wp_seq (region_plain ?_)
 refine lq (.int .i64 x40.1) S (q_move rfl) fun a S => ?_
 refine lq (.int .i64 x40.1) S (q_assign rfl) fun a S => ?_
 refine lx_nil (thenN ?_)
 refine wp_ret ?_
 obtain rfl := Option.some.inj hm
 have H : Heap w00 (oA (rList rStr) p0_0 x36.2 :: oA (rList Rimpl_Edge) p0_1 x40.2 :: bA b31 [(.int .i64 a0.1), (.int .i64 a0.2.1), p0_0, p0_1] 31 :: L) w38 := H.front 1 rfl
 have H : Heap w00 (oA (rList rStr) p0_0 x36.2 :: oA (rList Rimpl_Edge) p0_1 x40.2 :: L) w38 := H.selT 3 [0, 1] (by decide)
 exact leave1 S rfl rfl ⟨rfl, H⟩

/-- laws.heldStringS -/
def laws_heldStringS_m (fuel : Nat) (a0 : (List Str)) (a1 : Int) : Option (Int) :=
  (iter (fun (s : (Int) × (Int)) => (match s with | (x47, x48) => (if (decide (x48 < (a0.length : Int))) = true then (idx a0 x48).bind fun x77 => (laws_markText_m fuel x47).bind fun x84 => (if (x77 != x84) = true then some (.inr (.inr (-1 : Int))) else some (.inl ((W (x47 + (1 : Int))), (W (x48 + (1 : Int)))))) else some (.inr (.inl (x47)))) : Option (((Int) × (Int)) ⊕ ((Int) ⊕ (Int))))) fuel (a1, (0 : Int))).bind fun res66 => ctl (β := Int) (ρ := Int) (τ := Int) res66 (fun (x65) => some (x65)) (fun q => some (q))
set_option maxRecDepth 20000 in
theorem laws_heldStringS_ok [dr : Dr] {w0 : World} {fuel : Nat} {p0 : Value} {a0 : (List Str)} {a1 : Int} {r : Int} (h0 : Rd (rList rStr) w0 p0 a0) (hm : laws_heldStringS_m fuel a0 a1 = some r) :
  Calls Tryz.prog 33 #[p0, .int .i64 a1] w0 fun e w => e = .returned (.int .i64 r) ∧ Heap w0 [] w := by
 unfold laws_heldStringS_m at hm
 have H := Heap.start w0
 refine enter (args := [p0, .int .i64 a1]) Tryz.func33 rfl 22 rfl (Nat.le_of_ble_eq_true rfl) (fun a S => ?_)
 refine wp_seq (region_plain ?_)
 refine lq (.int .i64 (0 : Int)) S (q_assign rfl) fun a S => ?_
 refine lx_nil (thenN ?_)
 refine wp_seq (wp_seq (region_plain ?_))
 refine lq (.int .i64 (0 : Int)) S (q_assign rfl) fun a S => ?_
 refine lx_nil (thenN ?_)
 obtain ⟨res66, hit67, hk70⟩ := bind_some hm
 obtain ⟨f68, hf69, hit67⟩ := iter_name hit67
 refine block_loop (fun a w => ∃ (x65 : Int), Slots a 22 [(1, (.int .i64 x65))] ∧ Heap w0 [] w ∧ res66 = .inl (x65)) ?_ ?_
 ·rintro a w ⟨x65, S, H, rfl⟩
  have hm := ctl_inl hk70
  refine thenN ?_
  refine wp_seq (region_plain ?_)
  refine lq (.int .i64 x65) S (q_move rfl) fun a S => ?_
  refine lq (.int .i64 x65) S (q_assign rfl) fun a S => ?_
  refine lx_nil (thenN ?_)
  refine wp_ret ?_
  obtain rfl := Option.some.inj hm
  exact leave1 S rfl rfl ⟨rfl, H⟩
 ·skip
  refine loop_ghost (fun n a w => ∃ (x47 : Int) (x48 : Int), Slots a 22 [(0, p0), (1, (.int .i64 x47)), (5, (.int .i64 x48))] ∧ Heap w0 [] w ∧ iter f68 n (x47, x48) = some res66) _ ⟨a1, (0 : Int), S.sub ⟨rfl, rfl, rfl, trivial⟩, H, hit67⟩ ?_
  rintro n a w ⟨x47, x48, S, H, hit67⟩
  obtain ⟨m71, o72, rfl, hm, hc73⟩ := iter_step hit67
  rw [hf69] at hm
  refine wp_seq (wp_seq (region_plain ?_))
  refine lq (.int .i64 x48) S (q_move rfl) fun a S => ?_
  refine lq p0 S (q_move rfl) fun a S => ?_
  refine lq (.int .i64 (a0.length : Int)) S (q_lenSl rfl (h0).isSl rfl Tryz.underlying22) fun a S => ?_
  refine lq (.bool (decide (x48 < (a0.length : Int)))) S (q_lss rfl rfl) fun a S => ?_
  refine lx_nil (thenN ?_)
  refine cond_b S rfl (fun hc74 => ?_) (fun hc74 => ?_)
  ·have hm := ite_t hc74 hm
   refine wp_skip (thenN ?_)
   refine wp_seq ?_
   refine wp_block ?_
   refine wp_seq ?_
   refine wp_seq ?_
   refine region_drawG (fun w1 => Heap w0 [] w1) (fun i => [5].contains i) mixed (by kernel_rfl) (fun w76 he75 => ?_)
   have H := H.later he75
   refine ⟨H.sel [] (by decide), ?_⟩
   refine lq p0 S (q_move rfl) fun a S => ?_
   refine lq (.int .i64 x48) S (q_move rfl) fun a S => ?_
   obtain ⟨x77, e78, hm⟩ := bind_some hm
   obtain ⟨c79, h80, hat81⟩ := (h0).elem (idx_some e78).2
   obtain rfl := h80
   have hlt := lt_of_idx (idx_some e78).2
   refine lq (ePtr p0 (x48.toNat * 1)) S (q_indexAddr rfl (h0).isSl rfl (idx_some e78).1 hlt Tryz.underlying22 Tryz.sizeOf9) fun a S => ?_
   refine lq (sv x77) S (q_load1 rfl Tryz.isAgg9 (fun w1 hC => ((hat81 0 _ rfl).ext hC.ext))) fun a S => ?_
   refine lq (.int .i64 x47) S (q_move rfl) fun a S => ?_
   obtain ⟨x84, e85, hm⟩ := bind_some hm
   refine lx_call (xs := [.tmp 16]) S trivial (by decide) rfl rfl Tryz.call60 ((laws_markText_ok  e85).mono ?_)
   rintro e w82 ⟨rfl, Hc83⟩
   have H := H.call0 Hc83
   refine ⟨_, rfl, H.sel [] (by decide), fun a S => ?_⟩
   refine lq (.bool (x77 != x84)) S (q_sneq rfl rfl) fun a S => ?_
   refine lx_nil (thenN ?_)
   refine cond_b S rfl (fun hc87 => ?_) (fun hc87 => ?_)
   ·have hm := ite_t hc87 hm
    refine wp_seq (region_plain ?_)
    refine lq (.int .i64 (-1 : Int)) S (q_assign rfl) fun a S => ?_
    refine lx_nil (thenN ?_)
    refine wp_ret (then_ret ?_)
    refine inBlock_ret ?_
    refine then_ret ?_
    refine then_ret ?_
    refine inBlock_ret ?_
    refine then_ret ?_
    refine then_ret ?_
    obtain rfl := it_brk hm hc73
    have hm := ctl_inr hk70
    obtain rfl := Option.some.inj hm
    exact leave1 S rfl rfl ⟨rfl, H⟩
   ·have hm := ite_f hc87 hm
    refine wp_skip (thenN ?_)
    refine region_plain ?_
    refine lq (.int .i64 x47) S (q_move rfl) fun a S => ?_
    refine lq (.int .i64 (W (x47 + (1 : Int)))) S (q_add rfl rfl) fun a S => ?_
    refine lq (.int .i64 (W (x47 + (1 : Int)))) S (q_assign rfl) fun a S => ?_
    refine lx_nil ?_
    refine inBlock_norm ?_
    refine thenN ?_
    refine region_plain ?_
    refine lq (.int .i64 x48) S (q_move rfl) fun a S => ?_
    refine lq (.int .i64 (W (x48 + (1 : Int)))) S (q_add rfl rfl) fun a S => ?_
    refine lq (.int .i64 (W (x48 + (1 : Int)))) S (q_assign rfl) fun a S => ?_
    refine lx_nil ?_
    exact ⟨m71, Nat.lt_succ_self _, (W (x47 + (1 : Int))), (W (x48 + (1 : Int))), S.sub ⟨rfl, rfl, rfl, trivial⟩, H, it_cont hm hc73⟩
  ·have hm := ite_f hc74 hm
   refine wp_exit ?_
   refine then_exit ?_
   refine then_exit ?_
   refine inBlock_exit ?_
   obtain rfl := it_brk hm hc73
   exact ⟨x47, S.sub ⟨rfl, trivial⟩, H, rfl⟩

/-- laws.heldEdgeS -/
def laws_heldEdgeS_m (fuel : Nat) (a0 : (List Timpl_Edge)) (a1 : Int) : Option (Int) :=
  (iter (fun (s : (Int) × (Int)) => (match s with | (x76, x77) => (if (decide (x77 < (a0.length : Int))) = true then (idx a0 x77).bind fun x133 => (if (x133.1 != x76) = true then some (.inr (.inr (-1 : Int))) else (idx a0 x77).bind fun x147 => (if (x147.2.1 != (W (x76 + (1 : Int)))) = true then some (.inr (.inr (-1 : Int))) else (idx a0 x77).bind fun x161 => (if (x161.2.2 != (W ((W (x76 + (1 : Int))) + (1 : Int)))) = true then some (.inr (.inr (-1 : Int))) else some (.inl ((W ((W ((W (x76 + (1 : Int))) + (1 : Int))) + (1 : Int))), (W (x77 + (1 : Int)))))))) else some (.inr (.inl (x76)))) : Option (((Int) × (Int)) ⊕ ((Int) ⊕ (Int))))) fuel (a1, (0 : Int))).bind fun res124 => ctl (β := Int) (ρ := Int) (τ := Int) res124 (fun (x123) => some (x123)) (fun q => some (q))
set_option maxRecDepth 20000 in
theorem laws_heldEdgeS_ok [dr : Dr] {w0 : World} {fuel : Nat} {p0 : Value} {a0 : (List Timpl_Edge)} {a1 : Int} {r : Int} (h0 : Rd (rList Rimpl_Edge) w0 p0 a0) (hm : laws_heldEdgeS_m fuel a0 a1 = some r) :
  Calls Tryz.prog 34 #[p0, .int .i64 a1] w0 fun e w => e = .returned (.int .i64 r) ∧ Heap w0 [] w := by
 unfold laws_heldEdgeS_m at hm
 have H := Heap.start w0
 refine enter (args := [p0, .int .i64 a1]) Tryz.func34 rfl 40 rfl (Nat.le_of_ble_eq_true rfl) (fun a S => ?_)
 refine wp_seq (region_plain ?_)
 refine lq (.int .i64 (0 : Int)) S (q_assign rfl) fun a S => ?_
 refine lx_nil (thenN ?_)
 refine wp_seq (wp_seq (region_plain ?_))
 refine lq (.int .i64 (0 : Int)) S (q_assign rfl) fun a S => ?_
 refine lx_nil (thenN ?_)
 obtain ⟨res124, hit125, hk128⟩ := bind_some hm
 obtain ⟨f126, hf127, hit125⟩ := iter_name hit125
 refine block_loop (fun a w => ∃ (x123 : Int), Slots a 40 [(1, (.int .i64 x123))] ∧ Heap w0 [] w ∧ res124 = .inl (x123)) ?_ ?_
 ·rintro a w ⟨x123, S, H, rfl⟩
  have hm := ctl_inl hk128
  refine thenN ?_
  refine wp_seq (region_plain ?_)
  refine lq (.int .i64 x123) S (q_move rfl) fun a S => ?_
  refine lq (.int .i64 x123) S (q_assign rfl) fun a S => ?_
  refine lx_nil (thenN ?_)
  refine wp_ret ?_
  obtain rfl := Option.some.inj hm
  exact leave1 S rfl rfl ⟨rfl, H⟩
 ·skip
  refine loop_ghost (fun n a w => ∃ (x76 : Int) (x77 : Int), Slots a 40 [(0, p0), (1, (.int .i64 x76)), (5, (.int .i64 x77))] ∧ Heap w0 [] w ∧ iter f126 n (x76, x77) = some res124) _ ⟨a1, (0 : Int), S.sub ⟨rfl, rfl, rfl, trivial⟩, H, hit125⟩ ?_
  rintro n a w ⟨x76, x77, S, H, hit125⟩
  obtain ⟨m129, o130, rfl, hm, hc131⟩ := iter_step hit125
  rw [hf127] at hm
  refine wp_seq (wp_seq (region_plain ?_))
  refine lq (.int .i64 x77) S (q_move rfl) fun a S => ?_
  refine lq p0 S (q_move rfl) fun a S => ?_
  refine lq (.int .i64 (a0.length : Int)) S (q_lenSl rfl (h0).isSl rfl Tryz.underlying29) fun a S => ?_
  refine lq (.bool (decide (x77 < (a0.length : Int)))) S (q_lss rfl rfl) fun a S => ?_
  refine lx_nil (thenN ?_)
  refine cond_b S rfl (fun hc132 => ?_) (fun hc132 => ?_)
  ·have hm := ite_t hc132 hm
   refine wp_skip (thenN ?_)
   refine wp_seq ?_
   refine wp_block ?_
   refine wp_seq (wp_seq (region_plain ?_))
   refine lq p0 S (q_move rfl) fun a S => ?_
   refine lq (.int .i64 x77) S (q_move rfl) fun a S => ?_
   obtain ⟨x133, e134, hm⟩ := bind_some hm
   obtain ⟨c135, h136, hat137⟩ := (h0).elem (idx_some e134).2
   obtain ⟨c138, c139, rfl, h140, h141⟩ := h136
   obtain rfl := h140
   obtain ⟨c142, c143, rfl, h144, h145⟩ := h141
   obtain rfl := h144
   obtain rfl := h145
   have hlt := lt_of_idx (idx_some e134).2
   refine lq (ePtr p0 (x77.toNat * 3)) S (q_indexAddr rfl (h0).isSl rfl (idx_some e134).1 hlt Tryz.underlying29 Tryz.sizeOf68) fun a S => ?_
   refine lq (pAdd (ePtr p0 (x77.toNat * 3)) 0) S (q_fieldAddr' 0 2 rfl ((hat137 0 _ rfl).isP) Tryz.underlying68 rfl Tryz.sizeOf2) fun a S => ?_
   refine lx_e (.int .i64 x133.1) S trivial (by decide) rfl trivial (q_load1 rfl Tryz.isAgg2 (by rintro _ rfl; exact (At.of_add (m := 0) (j := 0) ((hat137 0 _ rfl).ext H.ext)))) (fun a S => ?_)
   refine lq (.int .i64 x76) S (q_move rfl) fun a S => ?_
   refine lq (.bool (x133.1 != x76)) S (q_neq rfl rfl) fun a S => ?_
   refine lx_nil (thenN ?_)
   refine cond_b S rfl (fun hc146 => ?_) (fun hc146 => ?_)
   ·have hm := ite_t hc146 hm
    refine wp_seq (region_plain ?_)
    refine lq (.int .i64 (-1 : Int)) S (q_assign rfl) fun a S => ?_
    refine lx_nil (thenN ?_)
    refine wp_ret (then_ret ?_)
    refine inBlock_ret ?_
    refine then_ret ?_
    refine then_ret ?_
    refine inBlock_ret ?_
    refine then_ret ?_
    refine then_ret ?_
    obtain rfl := it_brk hm hc131
    have hm := ctl_inr hk128
    obtain rfl := Option.some.inj hm
    exact leave1 S rfl rfl ⟨rfl, H⟩
   ·have hm := ite_f hc146 hm
    refine wp_skip (thenN ?_)
    refine wp_seq (region_plain ?_)
    refine lq (.int .i64 x76) S (q_move rfl) fun a S => ?_
    refine lq (.int .i64 (W (x76 + (1 : Int)))) S (q_add rfl rfl) fun a S => ?_
    refine lq (.int .i64 (W (x76 + (1 : Int)))) S (q_assign rfl) fun a S => ?_
    refine lx_nil (thenN ?_)
    refine wp_seq (wp_seq (region_plain ?_))
    refine lq p0 S (q_move rfl) fun a S => ?_
    refine lq (.int .i64 x77) S (q_move rfl) fun a S => ?_
    obtain ⟨x147, e148, hm⟩ := bind_some hm
    obtain ⟨c149, h150, hat151⟩ := (h0).elem (idx_some e148).2
    obtain ⟨c152, c153, rfl, h154, h155⟩ := h150
    obtain rfl := h154
    obtain ⟨c156, c157, rfl, h158, h159⟩ := h155
    obtain rfl := h158
    obtain rfl := h159
    have hlt := lt_of_idx (idx_some e148).2
    refine lq (ePtr p0 (x77.toNat * 3)) S (q_indexAddr rfl (h0).isSl rfl (idx_some e148).1 hlt Tryz.underlying29 Tryz.sizeOf68) fun a S => ?_
    refine lq (pAdd (ePtr p0 (x77.toNat * 3)) 1) S (q_fieldAddr' 1 2 rfl ((hat151 0 _ rfl).isP) Tryz.underlying68 rfl Tryz.sizeOf2) fun a S => ?_
    refine lx_e (.int .i64 x147.2.1) S trivial (by decide) rfl trivial (q_load1 rfl Tryz.isAgg2 (by rintro _ rfl; exact (At.of_add (m := 1) (j := 0) ((hat151 1 _ rfl).ext H.ext)))) (fun a S => ?_)
    refine lq (.int .i64 (W (x76 + (1 : Int)))) S (q_move rfl) fun a S => ?_
    refine lq (.bool (x147.2.1 != (W (x76 + (1 : Int))))) S (q_neq rfl rfl) fun a S => ?_
    refine lx_nil (thenN ?_)
    refine cond_b S rfl (fun hc160 => ?_) (fun hc160 => ?_)
    ·have hm := ite_t hc160 hm
     refine wp_seq (region_plain ?_)
     refine lq (.int .i64 (-1 : Int)) S (q_assign rfl) fun a S => ?_
     refine lx_nil (thenN ?_)
     refine wp_ret (then_ret ?_)
     refine inBlock_ret ?_
     refine then_ret ?_
     refine then_ret ?_
     refine inBlock_ret ?_
     refine then_ret ?_
     refine then_ret ?_
     obtain rfl := it_brk hm hc131
     have hm := ctl_inr hk128
     obtain rfl := Option.some.inj hm
     exact leave1 S rfl rfl ⟨rfl, H⟩
    ·have hm := ite_f hc160 hm
     refine wp_skip (thenN ?_)
     refine wp_seq (region_plain ?_)
     refine lq (.int .i64 (W (x76 + (1 : Int)))) S (q_move rfl) fun a S => ?_
     refine lq (.int .i64 (W ((W (x76 + (1 : Int))) + (1 : Int)))) S (q_add rfl rfl) fun a S => ?_
     refine lq (.int .i64 (W ((W (x76 + (1 : Int))) + (1 : Int)))) S (q_assign rfl) fun a S => ?_
     refine lx_nil (thenN ?_)
     refine wp_seq (wp_seq (region_plain ?_))
     refine lq p0 S (q_move rfl) fun a S => ?_
     refine lq (.int .i64 x77) S (q_move rfl) fun a S => ?_
     obtain ⟨x161, e162, hm⟩ := bind_some hm
     obtain ⟨c163, h164, hat165⟩ := (h0).elem (idx_some e162).2
     obtain ⟨c166, c167, rfl, h168, h169⟩ := h164
     obtain rfl := h168
     obtain ⟨c170, c171, rfl, h172, h173⟩ := h169
     obtain rfl := h172
     obtain rfl := h173
     have hlt := lt_of_idx (idx_some e162).2
     refine lq (ePtr p0 (x77.toNat * 3)) S (q_indexAddr rfl (h0).isSl rfl (idx_some e162).1 hlt Tryz.underlying29 Tryz.sizeOf68) fun a S => ?_
     refine lq (pAdd (ePtr p0 (x77.toNat * 3)) 2) S (q_fieldAddr' 2 2 rfl ((hat165 0 _ rfl).isP) Tryz.underlying68 rfl Tryz.sizeOf2) fun a S => ?_
     refine lx_e (.int .i64 x161.2.2) S trivial (by decide) rfl trivial (q_load1 rfl Tryz.isAgg2 (by rintro _ rfl; exact (At.of_add (m := 2) (j := 0) ((hat165 2 _ rfl).ext H.ext)))) (fun a S => ?_)
     refine lq (.int .i64 (W ((W (x76 + (1 : Int))) + (1 : Int)))) S (q_move rfl) fun a S => ?_
     refine lq (.bool (x161.2.2 != (W ((W (x76 + (1 : Int))) + (1 : Int))))) S (q_neq rfl rfl) fun a S => ?_
     refine lx_nil (thenN ?_)
     refine cond_b S rfl (fun hc174 => ?_) (fun hc174 => ?_)
     ·have hm := ite_t hc174 hm
      refine wp_seq (region_plain ?_)
      refine lq (.int .i64 (-1 : Int)) S (q_assign rfl) fun a S => ?_
      refine lx_nil (thenN ?_)
      refine wp_ret (then_ret ?_)
      refine inBlock_ret ?_
      refine then_ret ?_
      refine then_ret ?_
      refine inBlock_ret ?_
      refine then_ret ?_
      refine then_ret ?_
      obtain rfl := it_brk hm hc131
      have hm := ctl_inr hk128
      obtain rfl := Option.some.inj hm
      exact leave1 S rfl rfl ⟨rfl, H⟩
     ·have hm := ite_f hc174 hm
      refine wp_skip (thenN ?_)
      refine region_plain ?_
      refine lq (.int .i64 (W ((W (x76 + (1 : Int))) + (1 : Int)))) S (q_move rfl) fun a S => ?_
      refine lq (.int .i64 (W ((W ((W (x76 + (1 : Int))) + (1 : Int))) + (1 : Int)))) S (q_add rfl rfl) fun a S => ?_
      refine lq (.int .i64 (W ((W ((W (x76 + (1 : Int))) + (1 : Int))) + (1 : Int)))) S (q_assign rfl) fun a S => ?_
      refine lx_nil ?_
      refine inBlock_norm ?_
      refine thenN ?_
      refine region_plain ?_
      refine lq (.int .i64 x77) S (q_move rfl) fun a S => ?_
      refine lq (.int .i64 (W (x77 + (1 : Int)))) S (q_add rfl rfl) fun a S => ?_
      refine lq (.int .i64 (W (x77 + (1 : Int)))) S (q_assign rfl) fun a S => ?_
      refine lx_nil ?_
      exact ⟨m129, Nat.lt_succ_self _, (W ((W ((W (x76 + (1 : Int))) + (1 : Int))) + (1 : Int))), (W (x77 + (1 : Int))), S.sub ⟨rfl, rfl, rfl, trivial⟩, H, it_cont hm hc131⟩
  ·have hm := ite_f hc132 hm
   refine wp_exit ?_
   refine then_exit ?_
   refine then_exit ?_
   refine inBlock_exit ?_
   obtain rfl := it_brk hm hc131
   exact ⟨x76, S.sub ⟨rfl, trivial⟩, H, rfl⟩

/-- laws.heldLts -/
def laws_heldLts_m (fuel : Nat) (a0 : Timpl_Lts) (a1 : Int) : Option (Int) :=
  (laws_heldStringS_m fuel a0.2.2.1 a1).bind fun x54 => (if (decide (x54 < (0 : Int))) = true then some ((-1 : Int)) else (laws_heldEdgeS_m fuel a0.2.2.2 x54).bind fun x60 => (if (decide (x60 < (0 : Int))) = true then some ((-1 : Int)) else some (x60)))
set_option maxRecDepth 20000 in
theorem laws_heldLts_ok [dr : Dr] {w0 : World} {fuel : Nat} {p0 : Value} {a0 : Timpl_Lts} {a1 : Int} {r : Int} (h0 : Rd Rimpl_Lts w0 p0 a0) (hm : laws_heldLts_m fuel a0 a1 = some r) :
  Calls Tryz.prog 14 #[p0, .int .i64 a1] w0 fun e w => e = .returned (.int .i64 r) ∧ Heap w0 [] w := by
 unfold laws_heldLts_m at hm
 have H := Heap.start w0
 obtain ⟨c31, rfl, h32⟩ := h0
 obtain ⟨c37, c38, rfl, h39, h40⟩ := h32
 obtain rfl := h39
 obtain ⟨c41, c42, rfl, h43, h44⟩ := h40
 obtain rfl := h43
 obtain ⟨c45, c46, rfl, h47, h48⟩ := h44
 obtain ⟨v33, rfl, h34⟩ := rd_list h47
 obtain ⟨v35, rfl, h36⟩ := rd_list h48
 refine enter (args := [(.agg #[(.int .i64 a0.1), (.int .i64 a0.2.1), v33, v35]), .int .i64 a1]) Tryz.func14 rfl 18 rfl (Nat.le_of_ble_eq_true rfl) (fun a S => ?_)
 refine wp_seq (region_plain ?_)
 refine lx_box S trivial (by decide) rfl H rfl rfl (fun b49 w50 H => ⟨trivial, fun a S => ?_⟩)
 refine lq (.int .i64 (0 : Int)) S (q_assign rfl) fun a S => ?_
 refine lx_nil (thenN ?_)
 refine wp_seq (region_plain ?_)
 refine lq (pAdd (bp b49) 2) S (q_fieldAddr' 2 22 rfl (isP_bp _) Tryz.underlying31 rfl Tryz.sizeOf22) fun a S => ?_
 refine lx_e v33 S trivial (by decide) rfl trivial (q_load1 rfl Tryz.isAgg22 (by rintro _ rfl; exact (At.of_add (m := 2) (j := 0) (boxAt (i := 0) H rfl (j := 2) rfl)))) (fun a S => ?_)
 refine lq (.int .i64 a1) S (q_move rfl) fun a S => ?_
 obtain ⟨x54, e55, hm⟩ := bind_some hm
 refine lx_call (xs := [.tmp 6, .tmp 7]) S trivial (by decide) rfl rfl Tryz.call33 ((laws_heldStringS_ok (H.arg h34)  e55).mono ?_)
 rintro e w52 ⟨rfl, Hc53⟩
 have H := H.call0 Hc53
 refine ⟨_, rfl, trivial, fun a S => ?_⟩
 refine lq (.int .i64 x54) S (q_assign rfl) fun a S => ?_
 refine lx_nil (thenN ?_)
 refine wp_seq (wp_seq (region_plain ?_))
 refine lq (.int .i64 x54) S (q_move rfl) fun a S => ?_
 refine lq (.bool (decide (x54 < (0 : Int)))) S (q_lss rfl rfl) fun a S => ?_
 refine lx_nil (thenN ?_)
 refine cond_b S rfl (fun hc57 => ?_) (fun hc57 => ?_)
 ·have hm := ite_t hc57 hm
  refine wp_seq (region_plain ?_)
  refine lq (.int .i64 (-1 : Int)) S (q_assign rfl) fun a S => ?_
  refine lx_nil (thenN ?_)
  refine wp_ret (then_ret ?_)
  obtain rfl := Option.some.inj hm
  have H : Heap w0 [] w52 := H.sel [] (by decide)
  exact leave1 S rfl rfl ⟨rfl, H⟩
 ·have hm := ite_f hc57 hm
  refine wp_skip (thenN ?_)
  refine wp_seq (region_plain ?_)
  refine lq (pAdd (bp b49) 3) S (q_fieldAddr' 3 29 rfl (isP_bp _) Tryz.underlying31 rfl Tryz.sizeOf29) fun a S => ?_
  refine lx_e v35 S trivial (by decide) rfl trivial (q_load1 rfl Tryz.isAgg29 (by rintro _ rfl; exact (At.of_add (m := 3) (j := 0) (boxAt (i := 0) H rfl (j := 3) rfl)))) (fun a S => ?_)
  refine lq (.int .i64 x54) S (q_move rfl) fun a S => ?_
  obtain ⟨x60, e61, hm⟩ := bind_some hm
  refine lx_call (xs := [.tmp 12, .tmp 13]) S trivial (by decide) rfl rfl Tryz.call34 ((laws_heldEdgeS_ok (H.arg h36)  e61).mono ?_)
  rintro e w58 ⟨rfl, Hc59⟩
  have H := H.call0 Hc59
  refine ⟨_, rfl, trivial, fun a S => ?_⟩
  refine lq (.int .i64 x60) S (q_assign rfl) fun a S => ?_
  refine lx_nil (thenN ?_)
  refine wp_seq (wp_seq (region_plain ?_))
  refine lq (.int .i64 x60) S (q_move rfl) fun a S => ?_
  refine lq (.bool (decide (x60 < (0 : Int)))) S (q_lss rfl rfl) fun a S => ?_
  refine lx_nil (thenN ?_)
  refine cond_b S rfl (fun hc63 => ?_) (fun hc63 => ?_)
  ·have hm := ite_t hc63 hm
   refine wp_seq (region_plain ?_)
   refine lq (.int .i64 (-1 : Int)) S (q_assign rfl) fun a S => ?_
   refine lx_nil (thenN ?_)
   refine wp_ret (then_ret ?_)
   obtain rfl := Option.some.inj hm
   have H : Heap w0 [] w58 := H.sel [] (by decide)
   exact leave1 S rfl rfl ⟨rfl, H⟩
  ·have hm := ite_f hc63 hm
   refine wp_skip (thenN ?_)
   refine wp_seq (region_plain ?_)
   refine lq (.int .i64 x60) S (q_move rfl) fun a S => ?_
   refine lq (.int .i64 x60) S (q_assign rfl) fun a S => ?_
   refine lx_nil (thenN ?_)
   refine wp_ret ?_
   obtain rfl := Option.some.inj hm
   have H : Heap w0 [] w58 := H.sel [] (by decide)
   exact leave1 S rfl rfl ⟨rfl, H⟩
end Go.Proofs.YtldmecdkdoipdaaGreatDoor
