/- The model of a statement and its walk (printed by a program of this repo). -/
import Derived.Test.YtldmecdkdoipdaaGreatDoorF0
import Derived.Test.YtldmecdkdoipdaaGreatDoorF1
import Derived.Test.YtldmecdkdoipdaaGreatDoorF2
import Derived.Test.YtldmecdkdoipdaaGreatDoorF3
import Derived.Test.YtldmecdkdoipdaaGreatDoorF4
import Derived.Test.YtldmecdkdoipdaaGreatDoorF5
import Derived.Test.YtldmecdkdoipdaaGreatDoorF6
import Derived.Test.YtldmecdkdoipdaaGreatDoorGxT
import Derived.Test.YtldmecdkdoipdaaGreatDoorGxY
namespace Go.Proofs.YtldmecdkdoipdaaGreatDoor
open Go.RowKit Go.Gx

/-- spec.l11Used -/
def spec_l11Used_m (fuel : Nat) (a0 : Timpl_Lts) : Option (Timpl_Lts) :=
  (iter (fun (s : (List Str) × (List Timpl_Edge) × (Int)) => (match s with | (xs109, xs112, x114) => (if (decide (x114 < (a0.2.2.2.length : Int))) = true then (idx a0.2.2.2 x114).bind fun x191 => (idx a0.2.2.1 x191.2.1).bind fun x210 => (app xs109 [x210]).bind fun x218 => (app xs112 [(x191.1, (W ((x218.length : Int) - (1 : Int))), x191.2.2)]).bind fun x227 => some (.inl (x218, x227, (W (x114 + (1 : Int))))) else some (.inr (.inl (xs109, xs112)))) : Option (((List Str) × (List Timpl_Edge) × (Int)) ⊕ (((List Str) × (List Timpl_Edge)) ⊕ (Timpl_Lts))))) fuel ([([116, 97, 117] : Str)], ([] : List Timpl_Edge), (0 : Int))).bind fun res170 => ctl (β := (List Str) × (List Timpl_Edge)) (ρ := Timpl_Lts) (τ := Timpl_Lts) res170 (fun (xs165, xs168) => (spec_l11Make_m fuel a0.1 a0.2.1 xs165 xs168).bind fun x179 => some ((x179.1, x179.2.1, x179.2.2.1, x179.2.2.2))) (fun q => some (q))
set_option maxRecDepth 20000 in
theorem spec_l11Used_ok [dr : Dr] {w0 : World} {fuel : Nat} {p0 : Value} {a0 : Timpl_Lts} {r : Timpl_Lts} (h0 : Rd (rPtr Rimpl_Lts) w0 p0 a0) (hm : spec_l11Used_m fuel a0 = some r) :
  Calls Tryz.prog 28 #[p0] w0 fun e w => ∃ (v0 : Value) (v1 : Value), e = .returned (.agg #[.int .i64 r.1, .int .i64 r.2.1, v0, v1]) ∧ Heap w0 [oA (rList rStr) v0 r.2.2.1, oA (rList Rimpl_Edge) v1 r.2.2.2] w := by
 unfold spec_l11Used_m at hm
 have H := Heap.start w0
 obtain ⟨c31, h32, hat33⟩ := h0.ptr
 obtain ⟨c38, c39, rfl, h40, h41⟩ := h32
 obtain rfl := h40
 obtain ⟨c42, c43, rfl, h44, h45⟩ := h41
 obtain rfl := h44
 obtain ⟨c46, c47, rfl, h48, h49⟩ := h45
 obtain ⟨v34, rfl, h35⟩ := rd_list h48
 obtain ⟨v36, rfl, h37⟩ := rd_list h49
 refine enter (args := [p0]) Tryz.func28 rfl 55 rfl (Nat.le_of_ble_eq_true rfl) (fun a S => ?_)
 refine wp_seq (region_plain ?_)
 refine lx_alloc S trivial (by decide) rfl H Tryz.zeroValue31 rfl (fun b50 w51 H => ⟨trivial, fun a S => ?_⟩)
 refine lx_nil (thenN ?_)
 refine wp_seq (region_plain ?_)
 refine lx_buildSlice (r := rStr) (xs := [([116, 97, 117] : Str)]) (ps := [(0, [(sv ([116, 97, 117] : Str))])]) (cs := [(sv ([116, 97, 117] : Str))]) (parts := [(0, .const (sv [116, 97, 117]))]) S trivial (by decide) rfl (H.put0 (A := eA) rfl) rfl Tryz.underlying22 Tryz.sizeOf9 Tryz.zeroValue9 (by decide) ⟨rfl, rfl, Nat.le_of_ble_eq_true rfl, trivial⟩ (by intro zs hz; exact fill_dense hz ⟨rfl, trivial⟩ rfl rfl) rfl (by decide) (fun w F hA => by cases (show F = [] from hA); exact ⟨_, _, [(sv ([116, 97, 117] : Str))], _, rfl, rfl, ⟨rfl, rfl⟩, ⟨rfl, rfl⟩⟩) (fun v53 w54 H => ⟨trivial, fun a S => ?_⟩)
 refine lq v53 S (q_assign rfl) fun a S => ?_
 refine lx_nil (thenN ?_)
 refine wp_seq (region_plain ?_)
 refine lx_buildSlice0 (r := Rimpl_Edge) S trivial (by decide) rfl H Tryz.underlying29 Tryz.sizeOf68 (fun v56 w57 H => ⟨trivial, fun a S => ?_⟩)
 refine lq v56 S (q_assign rfl) fun a S => ?_
 refine lx_nil (thenN ?_)
 refine wp_seq (wp_seq (region_plain ?_))
 refine lq (.int .i64 (0 : Int)) S (q_assign rfl) fun a S => ?_
 refine lx_nil (thenN ?_)
 obtain ⟨res170, hit171, hk174⟩ := bind_some hm
 obtain ⟨f172, hf173, hit171⟩ := iter_name hit171
 refine block_loop (fun a w => ∃ (xs165 : List Str) (xs168 : List Timpl_Edge) (v164 : Value) (v167 : Value), Slots a 55 [(0, p0), (2, (bp b50)), (3, v164), (4, v167)] ∧ Heap w0 [bA b50 [(.int .i64 (0 : Int)), (.int .i64 (0 : Int)), (.slice none 0 0), (.slice none 0 0)] 31, oA (rList rStr) v164 xs165, oA (rList Rimpl_Edge) v167 xs168] w ∧ res170 = .inl (xs165, xs168)) ?_ ?_
 ·rintro a w ⟨xs165, xs168, v164, v167, S, H, rfl⟩
  have hm := ctl_inl hk174
  refine thenN ?_
  refine wp_seq ?_
  refine region_drawG (fun w1 => Heap w0 [] w1) (fun i => [10, 11].contains i) mixed (by kernel_rfl) (fun w176 he175 => ?_)
  have H := H.later he175
  refine ⟨H.sel [] (by decide), ?_⟩
  refine lq p0 S (q_move rfl) fun a S => ?_
  refine lq p0 S (q_nilCheck rfl ((hat33 0 _ rfl).isP)) fun a S => ?_
  refine lq (pAdd p0 0) S (q_fieldAddr' 0 2 rfl ((hat33 0 _ rfl).isP) Tryz.underlying31 rfl Tryz.sizeOf2) fun a S => ?_
  refine lq (.int .i64 a0.1) S (q_load1 rfl Tryz.isAgg2 (fun w1 hC => (At.of_add (m := 0) (j := 0) ((hat33 0 _ rfl).ext hC.ext)))) fun a S => ?_
  refine lq p0 S (q_move rfl) fun a S => ?_
  refine lq p0 S (q_nilCheck rfl ((hat33 0 _ rfl).isP)) fun a S => ?_
  refine lq (pAdd p0 1) S (q_fieldAddr' 1 2 rfl ((hat33 0 _ rfl).isP) Tryz.underlying31 rfl Tryz.sizeOf2) fun a S => ?_
  refine lq (.int .i64 a0.2.1) S (q_load1 rfl Tryz.isAgg2 (fun w1 hC => (At.of_add (m := 1) (j := 0) ((hat33 1 _ rfl).ext hC.ext)))) fun a S => ?_
  refine lq v164 S (q_move rfl) fun a S => ?_
  refine lq v167 S (q_move rfl) fun a S => ?_
  obtain ⟨x179, e180, hm⟩ := bind_some hm
  refine lx_call (xs := [.tmp 47, .tmp 51, .tmp 52, .tmp 53]) S trivial (by decide) rfl rfl Tryz.call37 ((spec_l11Make_ok   (H.rdAt 1 rfl) (H.rdAt 2 rfl) e180).mono ?_)
  rintro e w177 ⟨v181, v182, rfl, Hc178⟩
  have H := H.call2 Hc178
  refine ⟨_, rfl, H.sel [] (by decide), fun a S => ?_⟩
  refine lx_storeBox (o := 0) (i := 2) (us := [(.int .i64 x179.1), (.int .i64 x179.2.1), v181, v182]) (cs' := [(.int .i64 x179.1), (.int .i64 x179.2.1), v181, v182]) S trivial rfl H rfl rfl rfl rfl Tryz.sizeOf31 (Nat.le_of_ble_eq_true rfl) (List.forall_mem_cons.2 ⟨rfl, (List.forall_mem_cons.2 ⟨rfl, (List.forall_mem_cons.2 ⟨one_sl (H.isSl 0 rfl), (List.forall_mem_cons.2 ⟨one_sl (H.isSl 1 rfl), (List.forall_mem_nil _)⟩)⟩)⟩)⟩) rfl (fun w186 H => ⟨H.sel [] (by decide), fun a S => ?_⟩)
  change Heap w0 [oA (rList rStr) v181 x179.2.2.1, oA (rList Rimpl_Edge) v182 x179.2.2.2, bA b50 [(.int .i64 x179.1), (.int .i64 x179.2.1), v181, v182] 31, oA (rList rStr) v164 xs165, oA (rList Rimpl_Edge) v167 xs168] w186 at H
  refine lx_nil (thenN ?_)
  refine wp_ret ?_
  have hrv0 := RV.cellA (t := 31) (q := 2) (env := [(0, p0), (2, (bp b50)), (3, v164), (4, v167), (44, p0), (45, p0), (46, (pAdd p0 0)), (47, (.int .i64 a0.1)), (48, p0), (49, p0), (50, (pAdd p0 1)), (51, (.int .i64 a0.2.1)), (52, v164), (53, v167), (54, (.agg #[(.int .i64 x179.1), (.int .i64 x179.2.1), v181, v182]))]) H (i := 2) rfl rfl Tryz.isAgg31 Tryz.sizeOf31
  obtain rfl := Option.some.inj hm
  have H : Heap w0 [oA (rList rStr) v181 x179.2.2.1, oA (rList Rimpl_Edge) v182 x179.2.2.2] w186 := H.sel [0, 1] (by decide)
  exact leaveR1 S rfl hrv0 ⟨v181, v182, rfl, H⟩
 ·skip
  have H : Heap w0 [oA (rList rStr) v53 [([116, 97, 117] : Str)], oA (rList Rimpl_Edge) v56 ([] : List Timpl_Edge), bA b50 [(.int .i64 (0 : Int)), (.int .i64 (0 : Int)), (.slice none 0 0), (.slice none 0 0)] 31] w57 := H.front 1 rfl
  have H : Heap w0 [bA b50 [(.int .i64 (0 : Int)), (.int .i64 (0 : Int)), (.slice none 0 0), (.slice none 0 0)] 31, oA (rList rStr) v53 [([116, 97, 117] : Str)], oA (rList Rimpl_Edge) v56 ([] : List Timpl_Edge)] w57 := H.front 2 rfl
  refine loop_ghost (fun n a w => ∃ (xs109 : List Str) (xs112 : List Timpl_Edge) (x114 : Int) (v108 : Value) (v111 : Value), Slots a 55 [(0, p0), (2, (bp b50)), (3, v108), (4, v111), (5, (.int .i64 x114))] ∧ Heap w0 [bA b50 [(.int .i64 (0 : Int)), (.int .i64 (0 : Int)), (.slice none 0 0), (.slice none 0 0)] 31, oA (rList rStr) v108 xs109, oA (rList Rimpl_Edge) v111 xs112] w ∧ iter f172 n (xs109, xs112, x114) = some res170) _ ⟨[([116, 97, 117] : Str)], ([] : List Timpl_Edge), (0 : Int), v53, v56, S.sub ⟨rfl, rfl, rfl, rfl, rfl, trivial⟩, H, hit171⟩ ?_
  rintro n a w ⟨xs109, xs112, x114, v108, v111, S, H, hit171⟩
  obtain ⟨m187, o188, rfl, hm, hc189⟩ := iter_step hit171
  rw [hf173] at hm
  refine wp_seq (wp_seq (region_plain ?_))
  refine lq (.int .i64 x114) S (q_move rfl) fun a S => ?_
  refine lq p0 S (q_move rfl) fun a S => ?_
  refine lq p0 S (q_nilCheck rfl ((hat33 0 _ rfl).isP)) fun a S => ?_
  refine lq (pAdd p0 3) S (q_fieldAddr' 3 29 rfl ((hat33 0 _ rfl).isP) Tryz.underlying31 rfl Tryz.sizeOf29) fun a S => ?_
  refine lx_e v36 S trivial (by decide) rfl trivial (q_load1 rfl Tryz.isAgg29 (by rintro _ rfl; exact (At.of_add (m := 3) (j := 0) ((hat33 3 _ rfl).ext H.ext)))) (fun a S => ?_)
  refine lq (.int .i64 (a0.2.2.2.length : Int)) S (q_lenSl rfl (h37).isSl rfl Tryz.underlying29) fun a S => ?_
  refine lq (.bool (decide (x114 < (a0.2.2.2.length : Int)))) S (q_lss rfl rfl) fun a S => ?_
  refine lx_nil (thenN ?_)
  refine cond_b S rfl (fun hc190 => ?_) (fun hc190 => ?_)
  ·have hm := ite_t hc190 hm
   refine wp_skip (thenN ?_)
   refine wp_seq ?_
   refine wp_block ?_
   refine wp_seq (region_plain ?_)
   refine lq p0 S (q_move rfl) fun a S => ?_
   refine lq p0 S (q_nilCheck rfl ((hat33 0 _ rfl).isP)) fun a S => ?_
   refine lq (pAdd p0 3) S (q_fieldAddr' 3 29 rfl ((hat33 0 _ rfl).isP) Tryz.underlying31 rfl Tryz.sizeOf29) fun a S => ?_
   refine lx_e v36 S trivial (by decide) rfl trivial (q_load1 rfl Tryz.isAgg29 (by rintro _ rfl; exact (At.of_add (m := 3) (j := 0) ((hat33 3 _ rfl).ext H.ext)))) (fun a S => ?_)
   refine lq (.int .i64 x114) S (q_move rfl) fun a S => ?_
   obtain ⟨x191, e192, hm⟩ := bind_some hm
   obtain ⟨c193, h194, hat195⟩ := (h37).elem (idx_some e192).2
   obtain ⟨c196, c197, rfl, h198, h199⟩ := h194
   obtain rfl := h198
   obtain ⟨c200, c201, rfl, h202, h203⟩ := h199
   obtain rfl := h202
   obtain rfl := h203
   have hlt := lt_of_idx (idx_some e192).2
   refine lq (ePtr v36 (x114.toNat * 3)) S (q_indexAddr rfl (h37).isSl rfl (idx_some e192).1 hlt Tryz.underlying29 Tryz.sizeOf68) fun a S => ?_
   refine lx_e (.agg #[(.int .i64 x191.1), (.int .i64 x191.2.1), (.int .i64 x191.2.2)]) S trivial (by decide) rfl trivial (q_loadA (cs := [(.int .i64 x191.1), (.int .i64 x191.2.1), (.int .i64 x191.2.2)]) rfl ((hat195 0 _ rfl).isP) Tryz.isAgg68 Tryz.sizeOf68 (by rintro _ rfl; exact (fun j u hu => (hat195 j u hu).ext H.ext))) (fun a S => ?_)
   refine lx_alloc S trivial (by decide) rfl H Tryz.zeroValue68 rfl (fun b204 w205 H => ⟨trivial, fun a S => ?_⟩)
   refine lx_storeBox (o := 0) (i := 0) (us := [(.int .i64 x191.1), (.int .i64 x191.2.1), (.int .i64 x191.2.2)]) (cs' := [(.int .i64 x191.1), (.int .i64 x191.2.1), (.int .i64 x191.2.2)]) S trivial rfl H rfl rfl rfl rfl Tryz.sizeOf68 (Nat.le_of_ble_eq_true rfl) (List.forall_mem_cons.2 ⟨rfl, (List.forall_mem_cons.2 ⟨rfl, (List.forall_mem_cons.2 ⟨rfl, (List.forall_mem_nil _)⟩)⟩)⟩) rfl (fun w207 H => ⟨trivial, fun a S => ?_⟩)
   change Heap w0 [bA b204 [(.int .i64 x191.1), (.int .i64 x191.2.1), (.int .i64 x191.2.2)] 68, bA b50 [(.int .i64 (0 : Int)), (.int .i64 (0 : Int)), (.slice none 0 0), (.slice none 0 0)] 31, oA (rList rStr) v108 xs109, oA (rList Rimpl_Edge) v111 xs112] w207 at H
   refine lx_nil (thenN ?_)
   refine wp_seq ?_
   refine region_drawG (fun w1 => Heap w0 [bA b204 [(.int .i64 x191.1), (.int .i64 x191.2.1), (.int .i64 x191.2.2)] 68] w1) (fun i => [9, 10].contains i) mixed (by kernel_rfl) (fun w209 he208 => ?_)
   have H := H.later he208
   refine ⟨H.sel [0] (by decide), ?_⟩
   refine lq v108 S (q_move rfl) fun a S => ?_
   refine lq p0 S (q_move rfl) fun a S => ?_
   refine lq p0 S (q_nilCheck rfl ((hat33 0 _ rfl).isP)) fun a S => ?_
   refine lq (pAdd p0 2) S (q_fieldAddr' 2 22 rfl ((hat33 0 _ rfl).isP) Tryz.underlying31 rfl Tryz.sizeOf22) fun a S => ?_
   refine lq v34 S (q_load1 rfl Tryz.isAgg22 (fun w1 hC => (At.of_add (m := 2) (j := 0) ((hat33 2 _ rfl).ext hC.ext)))) fun a S => ?_
   refine lq (pAdd (bp b204) 1) S (q_fieldAddr' 1 2 rfl (isP_bp _) Tryz.underlying68 rfl Tryz.sizeOf2) fun a S => ?_
   refine lq (.int .i64 x191.2.1) S (q_load1 rfl Tryz.isAgg2 (fun w1 hC => (At.of_add (m := 1) (j := 0) (boxAt (i := 0) hC rfl (j := 1) rfl)))) fun a S => ?_
   obtain ⟨x210, e211, hm⟩ := bind_some hm
   obtain ⟨c212, h213, hat214⟩ := (h35).elem (idx_some e211).2
   obtain rfl := h213
   have hlt := lt_of_idx (idx_some e211).2
   refine lq (ePtr v34 (x191.2.1.toNat * 1)) S (q_indexAddr rfl (h35).isSl rfl (idx_some e211).1 hlt Tryz.underlying22 Tryz.sizeOf9) fun a S => ?_
   refine lq (sv x210) S (q_load1 rfl Tryz.isAgg9 (fun w1 hC => ((hat214 0 _ rfl).ext hC.ext))) fun a S => ?_
   refine lx_buildSlice (r := rStr) (xs := [x210]) (ps := [(0, [(sv x210)])]) (cs := [(sv x210)]) (parts := [(0, .tmp 33)]) S trivial (by decide) rfl (H.put0 (A := eA) rfl) rfl Tryz.underlying22 Tryz.sizeOf9 Tryz.zeroValue9 (by decide) ⟨rfl, rfl, Nat.le_of_ble_eq_true rfl, trivial⟩ (by intro zs hz; exact fill_dense hz ⟨rfl, trivial⟩ rfl rfl) rfl (by decide) (fun w F hA => by cases (show F = [] from hA); exact ⟨_, _, [(sv x210)], _, rfl, rfl, ⟨rfl, rfl⟩, ⟨rfl, rfl⟩⟩) (fun v215 w216 H => ⟨H.sel [1] (by decide), fun a S => ?_⟩)
   obtain ⟨x218, e219, hm⟩ := bind_some hm
   obtain ⟨hle, hap⟩ := app_some e219
   replace hap := hap.symm
   subst hap
   have H : Heap w0 [oA (rList rStr) v215 [x210], bA b204 [(.int .i64 x191.1), (.int .i64 x191.2.1), (.int .i64 x191.2.2)] 68, bA b50 [(.int .i64 (0 : Int)), (.int .i64 (0 : Int)), (.slice none 0 0), (.slice none 0 0)] 31, oA (rList rStr) v108 xs109, oA (rList Rimpl_Edge) v111 xs112] w216 := H.front 0 rfl
   have H : Heap w0 [oA (rList rStr) v108 xs109, oA (rList rStr) v215 [x210], bA b204 [(.int .i64 x191.1), (.int .i64 x191.2.1), (.int .i64 x191.2.2)] 68, bA b50 [(.int .i64 (0 : Int)), (.int .i64 (0 : Int)), (.slice none 0 0), (.slice none 0 0)] 31, oA (rList Rimpl_Edge) v111 xs112] w216 := H.front 3 rfl
   refine lx_appendOwn (r := rStr) S trivial (by decide) rfl H rfl rfl Tryz.underlying22 Tryz.ti9 rfl rfl rfl (Nat.le_of_ble_eq_true rfl) (by decide) hle (fun v220 w221 H => ⟨H.sel [1] (by decide), fun a S => ?_⟩)
   refine lq v220 S (q_assign rfl) fun a S => ?_
   refine lx_nil (thenN ?_)
   refine wp_seq (region_plain ?_)
   refine lq v220 S (q_move rfl) fun a S => ?_
   refine lq (.int .i64 ((xs109 ++ [x210]).length : Int)) S (q_lenSl rfl (H.isSl 0 rfl) rfl Tryz.underlying22) fun a S => ?_
   refine lq (.int .i64 (W (((xs109 ++ [x210]).length : Int) - (1 : Int)))) S (q_sub rfl rfl) fun a S => ?_
   refine lq (pAdd (bp b204) 1) S (q_fieldAddr' 1 2 rfl (isP_bp _) Tryz.underlying68 rfl Tryz.sizeOf2) fun a S => ?_
   refine lx_storeBox (o := 1) (i := 1) (us := [(.int .i64 (W (((xs109 ++ [x210]).length : Int) - (1 : Int))))]) (cs' := [(.int .i64 x191.1), (.int .i64 (W (((xs109 ++ [x210]).length : Int) - (1 : Int)))), (.int .i64 x191.2.2)]) S trivial rfl H rfl rfl rfl rfl Tryz.sizeOf2 (Nat.le_of_ble_eq_true rfl) (List.forall_mem_cons.2 ⟨rfl, (List.forall_mem_nil _)⟩) rfl (fun w223 H => ⟨trivial, fun a S => ?_⟩)
   change Heap w0 [oA (rList rStr) v220 (xs109 ++ [x210]), bA b204 [(.int .i64 x191.1), (.int .i64 (W (((xs109 ++ [x210]).length : Int) - (1 : Int)))), (.int .i64 x191.2.2)] 68, bA b50 [(.int .i64 (0 : Int)), (.int .i64 (0 : Int)), (.slice none 0 0), (.slice none 0 0)] 31, oA (rList Rimpl_Edge) v111 xs112] w223 at H
   refine lx_nil (thenN ?_)
   refine region_plain ?_
   refine lq v111 S (q_move rfl) fun a S => ?_
   refine lx_e (.agg #[(.int .i64 x191.1), (.int .i64 (W (((xs109 ++ [x210]).length : Int) - (1 : Int)))), (.int .i64 x191.2.2)]) S trivial (by decide) rfl trivial (q_loadA (cs := [(.int .i64 x191.1), (.int .i64 (W (((xs109 ++ [x210]).length : Int) - (1 : Int)))), (.int .i64 x191.2.2)]) rfl (isP_bp _) Tryz.isAgg68 Tryz.sizeOf68 (by rintro _ rfl; exact (fun j u hu => boxAt (i := 1) H rfl hu))) (fun a S => ?_)
   refine lx_buildSlice (r := Rimpl_Edge) (xs := [(x191.1, (W (((xs109 ++ [x210]).length : Int) - (1 : Int))), x191.2.2)]) (ps := [(0, [(.int .i64 x191.1), (.int .i64 (W (((xs109 ++ [x210]).length : Int) - (1 : Int)))), (.int .i64 x191.2.2)])]) (cs := [(.int .i64 x191.1), (.int .i64 (W (((xs109 ++ [x210]).length : Int) - (1 : Int)))), (.int .i64 x191.2.2)]) (parts := [(0, .tmp 41)]) S trivial (by decide) rfl (H.put0 (A := eA) rfl) rfl Tryz.underlying29 Tryz.sizeOf68 Tryz.zeroValue68 (by decide) ⟨rfl, rfl, Nat.le_of_ble_eq_true rfl, trivial⟩ (by intro zs hz; exact fill_dense hz ⟨rfl, trivial⟩ rfl rfl) rfl (by decide) (fun w F hA => by cases (show F = [] from hA); exact ⟨_, _, [(.int .i64 x191.1), (.int .i64 (W (((xs109 ++ [x210]).length : Int) - (1 : Int)))), (.int .i64 x191.2.2)], _, rfl, rfl, ⟨_, _, [(.int .i64 x191.1)], [(.int .i64 (W (((xs109 ++ [x210]).length : Int) - (1 : Int)))), (.int .i64 x191.2.2)], rfl, rfl, ⟨rfl, rfl⟩, ⟨_, _, [(.int .i64 (W (((xs109 ++ [x210]).length : Int) - (1 : Int))))], [(.int .i64 x191.2.2)], rfl, rfl, ⟨rfl, rfl⟩, ⟨rfl, rfl⟩⟩⟩, ⟨rfl, rfl⟩⟩) (fun v224 w225 H => ⟨trivial, fun a S => ?_⟩)
   obtain ⟨x227, e228, hm⟩ := bind_some hm
   obtain ⟨hle, hap⟩ := app_some e228
   replace hap := hap.symm
   subst hap
   have H : Heap w0 [oA (rList Rimpl_Edge) v224 [(x191.1, (W (((xs109 ++ [x210]).length : Int) - (1 : Int))), x191.2.2)], oA (rList rStr) v220 (xs109 ++ [x210]), bA b204 [(.int .i64 x191.1), (.int .i64 (W (((xs109 ++ [x210]).length : Int) - (1 : Int)))), (.int .i64 x191.2.2)] 68, bA b50 [(.int .i64 (0 : Int)), (.int .i64 (0 : Int)), (.slice none 0 0), (.slice none 0 0)] 31, oA (rList Rimpl_Edge) v111 xs112] w225 := H.front 0 rfl
   have H : Heap w0 [oA (rList Rimpl_Edge) v111 xs112, oA (rList Rimpl_Edge) v224 [(x191.1, (W (((xs109 ++ [x210]).length : Int) - (1 : Int))), x191.2.2)], oA (rList rStr) v220 (xs109 ++ [x210]), bA b204 [(.int .i64 x191.1), (.int .i64 (W (((xs109 ++ [x210]).length : Int) - (1 : Int)))), (.int .i64 x191.2.2)] 68, bA b50 [(.int .i64 (0 : Int)), (.int .i64 (0 : Int)), (.slice none 0 0), (.slice none 0 0)] 31] w225 := H.front 4 rfl
   refine lx_appendOwn (r := Rimpl_Edge) S trivial (by decide) rfl H rfl rfl Tryz.underlying29 Tryz.ti68 rfl rfl rfl (Nat.le_of_ble_eq_true rfl) (by decide) hle (fun v229 w230 H => ⟨trivial, fun a S => ?_⟩)
   refine lq v229 S (q_assign rfl) fun a S => ?_
   refine lx_nil ?_
   refine inBlock_norm ?_
   refine thenN ?_
   refine region_plain ?_
   refine lq (.int .i64 x114) S (q_move rfl) fun a S => ?_
   refine lq (.int .i64 (W (x114 + (1 : Int)))) S (q_add rfl rfl) fun a S => ?_
   refine lq (.int .i64 (W (x114 + (1 : Int)))) S (q_assign rfl) fun a S => ?_
   refine lx_nil ?_
   have H : Heap w0 [oA (rList rStr) v220 (xs109 ++ [x210]), oA (rList Rimpl_Edge) v229 (xs112 ++ [(x191.1, (W (((xs109 ++ [x210]).length : Int) - (1 : Int))), x191.2.2)]), bA b204 [(.int .i64 x191.1), (.int .i64 (W (((xs109 ++ [x210]).length : Int) - (1 : Int)))), (.int .i64 x191.2.2)] 68, bA b50 [(.int .i64 (0 : Int)), (.int .i64 (0 : Int)), (.slice none 0 0), (.slice none 0 0)] 31] w230 := H.front 1 rfl
   have H : Heap w0 [bA b50 [(.int .i64 (0 : Int)), (.int .i64 (0 : Int)), (.slice none 0 0), (.slice none 0 0)] 31, oA (rList rStr) v220 (xs109 ++ [x210]), oA (rList Rimpl_Edge) v229 (xs112 ++ [(x191.1, (W (((xs109 ++ [x210]).length : Int) - (1 : Int))), x191.2.2)]), bA b204 [(.int .i64 x191.1), (.int .i64 (W (((xs109 ++ [x210]).length : Int) - (1 : Int)))), (.int .i64 x191.2.2)] 68] w230 := H.front 3 rfl
   have H : Heap w0 [bA b50 [(.int .i64 (0 : Int)), (.int .i64 (0 : Int)), (.slice none 0 0), (.slice none 0 0)] 31, oA (rList rStr) v220 (xs109 ++ [x210]), oA (rList Rimpl_Edge) v229 (xs112 ++ [(x191.1, (W (((xs109 ++ [x210]).length : Int) - (1 : Int))), x191.2.2)])] w230 := H.sel [0, 1, 2] (by decide)
   exact ⟨m187, Nat.lt_succ_self _, (xs109 ++ [x210]), (xs112 ++ [(x191.1, (W (((xs109 ++ [x210]).length : Int) - (1 : Int))), x191.2.2)]), (W (x114 + (1 : Int))), v220, v229, S.sub ⟨rfl, rfl, rfl, rfl, rfl, trivial⟩, H, it_cont hm hc189⟩
  ·have hm := ite_f hc190 hm
   refine wp_exit ?_
   refine then_exit ?_
   refine then_exit ?_
   refine inBlock_exit ?_
   obtain rfl := it_brk hm hc189
   exact ⟨xs109, xs112, v108, v111, S.sub ⟨rfl, rfl, rfl, rfl, trivial⟩, H, rfl⟩

/-- spec.UsedLabels -/
def spec_UsedLabels_m (fuel : Nat) (a0 : Timpl_Lts) : Option ((Timpl_Lts × Int)) :=
  (spec_l11Is_m fuel (a0.1, a0.2.1, a0.2.2.1, a0.2.2.2)).bind fun x57 => (if (!x57) = true then some ((((0 : Int), (0 : Int), [], []), (1 : Int))) else (spec_l11Used_m fuel (a0.1, a0.2.1, a0.2.2.1, a0.2.2.2)).bind fun x66 => some (((x66.1, x66.2.1, x66.2.2.1, x66.2.2.2), (0 : Int))))
set_option maxRecDepth 20000 in
theorem spec_UsedLabels_ok [dr : Dr] {w0 : World} {fuel : Nat} {p0 : Value} {a0 : Timpl_Lts} {r : (Timpl_Lts × Int)} (h0 : Rd Rimpl_Lts w0 p0 a0) (hm : spec_UsedLabels_m fuel a0 = some r) :
  Calls Tryz.prog 11 #[p0] w0 fun e w => ∃ (v0 : Value) (v1 : Value), e = .returned (.tuple #[.agg #[.int .i64 r.1.1, .int .i64 r.1.2.1, v0, v1], .int .i64 r.2]) ∧ Heap w0 [oA (rList rStr) v0 r.1.2.2.1, oA (rList Rimpl_Edge) v1 r.1.2.2.2] w := by
 unfold spec_UsedLabels_m at hm
 have H := Heap.start w0
 obtain ⟨c31, rfl, h32⟩ := h0
 obtain ⟨c37, c38, rfl, h39, h40⟩ := h32
 obtain rfl := h39
 obtain ⟨c41, c42, rfl, h43, h44⟩ := h40
 obtain rfl := h43
 obtain ⟨c45, c46, rfl, h47, h48⟩ := h44
 obtain ⟨v33, rfl, h34⟩ := rd_list h47
 obtain ⟨v35, rfl, h36⟩ := rd_list h48
 refine enter (args := [(.agg #[(.int .i64 a0.1), (.int .i64 a0.2.1), v33, v35])]) Tryz.func11 rfl 8 rfl (Nat.le_of_ble_eq_true rfl) (fun a S => ?_)
 refine wp_seq (region_plain ?_)
 refine lx_box S trivial (by decide) rfl H rfl rfl (fun b49 w50 H => ⟨trivial, fun a S => ?_⟩)
 refine lx_alloc S trivial (by decide) rfl H Tryz.zeroValue31 rfl (fun b52 w53 H => ⟨trivial, fun a S => ?_⟩)
 refine lq (.int .i64 (0 : Int)) S (q_assign rfl) fun a S => ?_
 refine lx_nil (thenN ?_)
 refine wp_seq (wp_seq (region_plain ?_))
 obtain ⟨x57, e58, hm⟩ := bind_some hm
 refine lx_call (xs := [.tmp 1]) S trivial (by decide) rfl rfl Tryz.call19 ((spec_l11Is_ok (rdPtr_box H 1 rfl ⟨[(.int .i64 a0.1)], [(.int .i64 a0.2.1), v33, v35], rfl, rfl, ⟨[(.int .i64 a0.2.1)], [v33, v35], rfl, rfl, ⟨[v33], [v35], rfl, ((H.arg h34)).list_rd, ((H.arg h36)).list_rd⟩⟩⟩) e58).mono ?_)
 rintro e w55 ⟨rfl, Hc56⟩
 have H := H.call0 Hc56
 refine ⟨_, rfl, trivial, fun a S => ?_⟩
 refine lq (.bool (!x57)) S (q_not rfl) fun a S => ?_
 refine lx_nil (thenN ?_)
 refine cond_b S rfl (fun hc60 => ?_) (fun hc60 => ?_)
 ·have hm := ite_t hc60 hm
  refine wp_seq (region_plain ?_)
  refine lq (.agg #[(.int .i64 (0 : Int)), (.int .i64 (0 : Int)), (.slice none 0 0), (.slice none 0 0)]) S (q_build (zs := [(.int .i64 (0 : Int)), (.int .i64 (0 : Int)), (.slice none 0 0), (.slice none 0 0)]) (szs := [1, 1, 1, 1]) (ps := []) (parts := []) rfl Tryz.underlying31 Tryz.zeroValue31 (fun w => by simp [Tryz.sizeOf2, Tryz.sizeOf22, Tryz.sizeOf29]) trivial rfl) fun a S => ?_
  refine lx_storeBox (o := 0) (i := 0) (us := [(.int .i64 (0 : Int)), (.int .i64 (0 : Int)), (.slice none 0 0), (.slice none 0 0)]) (cs' := [(.int .i64 (0 : Int)), (.int .i64 (0 : Int)), (.slice none 0 0), (.slice none 0 0)]) S trivial rfl H rfl rfl rfl rfl Tryz.sizeOf31 (Nat.le_of_ble_eq_true rfl) (List.forall_mem_cons.2 ⟨rfl, (List.forall_mem_cons.2 ⟨rfl, (List.forall_mem_cons.2 ⟨rfl, (List.forall_mem_cons.2 ⟨rfl, (List.forall_mem_nil _)⟩)⟩)⟩)⟩) rfl (fun w61 H => ⟨trivial, fun a S => ?_⟩)
  change Heap w0 [bA b52 [(.int .i64 (0 : Int)), (.int .i64 (0 : Int)), (.slice none 0 0), (.slice none 0 0)] 31, bA b49 [(.int .i64 a0.1), (.int .i64 a0.2.1), v33, v35] 31] w61 at H
  refine lq (.int .i64 (1 : Int)) S (q_assign rfl) fun a S => ?_
  refine lx_nil (thenN ?_)
  refine wp_ret ?_
  have hrv0 := RV.cellA (t := 31) (q := 2) (env := [(0, (.agg #[(.int .i64 a0.1), (.int .i64 a0.2.1), v33, v35])), (1, (bp b49)), (2, (bp b52)), (3, (.int .i64 (1 : Int))), (4, (.bool x57)), (5, (.bool (!x57))), (6, (.agg #[(.int .i64 (0 : Int)), (.int .i64 (0 : Int)), (.slice none 0 0), (.slice none 0 0)]))]) H (i := 0) rfl rfl Tryz.isAgg31 Tryz.sizeOf31
  have hrv1 : RV Tryz.prog _ w61 (.tmp 3) (.int .i64 (1 : Int)) := (rfl : lk [(0, (.agg #[(.int .i64 a0.1), (.int .i64 a0.2.1), v33, v35])), (1, (bp b49)), (2, (bp b52)), (3, (.int .i64 (1 : Int))), (4, (.bool x57)), (5, (.bool (!x57))), (6, (.agg #[(.int .i64 (0 : Int)), (.int .i64 (0 : Int)), (.slice none 0 0), (.slice none 0 0)]))] 3 = some (.int .i64 (1 : Int)))
  refine then_ret ?_
  obtain rfl := Option.some.inj hm
  have H : Heap w0 [oA (rList rStr) (.slice none 0 0) ([] : List Str), bA b52 [(.int .i64 (0 : Int)), (.int .i64 (0 : Int)), (.slice none 0 0), (.slice none 0 0)] 31, bA b49 [(.int .i64 a0.1), (.int .i64 a0.2.1), v33, v35] 31] w61 := H.nilList rStr
  have H : Heap w0 [oA (rList Rimpl_Edge) (.slice none 0 0) ([] : List Timpl_Edge), oA (rList rStr) (.slice none 0 0) ([] : List Str), bA b52 [(.int .i64 (0 : Int)), (.int .i64 (0 : Int)), (.slice none 0 0), (.slice none 0 0)] 31, bA b49 [(.int .i64 a0.1), (.int .i64 a0.2.1), v33, v35] 31] w61 := H.nilList Rimpl_Edge
  have H : Heap w0 [oA (rList rStr) (.slice none 0 0) ([] : List Str), oA (rList Rimpl_Edge) (.slice none 0 0) ([] : List Timpl_Edge), bA b52 [(.int .i64 (0 : Int)), (.int .i64 (0 : Int)), (.slice none 0 0), (.slice none 0 0)] 31, bA b49 [(.int .i64 a0.1), (.int .i64 a0.2.1), v33, v35] 31] w61 := H.front 1 rfl
  have H : Heap w0 [oA (rList rStr) (.slice none 0 0) ([] : List Str), oA (rList Rimpl_Edge) (.slice none 0 0) ([] : List Timpl_Edge)] w61 := H.sel [0, 1] (by decide)
  exact leaveR2 S rfl hrv0 hrv1 ⟨(.slice none 0 0), (.slice none 0 0), rfl, H⟩
 ·have hm := ite_f hc60 hm
  refine wp_skip (thenN ?_)
  refine wp_seq (region_plain ?_)
  obtain ⟨x66, e67, hm⟩ := bind_some hm
  refine lx_call (xs := [.tmp 1]) S trivial (by decide) rfl rfl Tryz.call28 ((spec_l11Used_ok (rdPtr_box H 1 rfl ⟨[(.int .i64 a0.1)], [(.int .i64 a0.2.1), v33, v35], rfl, rfl, ⟨[(.int .i64 a0.2.1)], [v33, v35], rfl, rfl, ⟨[v33], [v35], rfl, ((H.arg h34)).list_rd, ((H.arg h36)).list_rd⟩⟩⟩) e67).mono ?_)
  rintro e w64 ⟨v68, v69, rfl, Hc65⟩
  have H := H.call2 Hc65
  refine ⟨_, rfl, trivial, fun a S => ?_⟩
  refine lx_storeBox (o := 0) (i := 2) (us := [(.int .i64 x66.1), (.int .i64 x66.2.1), v68, v69]) (cs' := [(.int .i64 x66.1), (.int .i64 x66.2.1), v68, v69]) S trivial rfl H rfl rfl rfl rfl Tryz.sizeOf31 (Nat.le_of_ble_eq_true rfl) (List.forall_mem_cons.2 ⟨rfl, (List.forall_mem_cons.2 ⟨rfl, (List.forall_mem_cons.2 ⟨one_sl (H.isSl 0 rfl), (List.forall_mem_cons.2 ⟨one_sl (H.isSl 1 rfl), (List.forall_mem_nil _)⟩)⟩)⟩)⟩) rfl (fun w73 H => ⟨trivial, fun a S => ?_⟩)
  change Heap w0 [oA (rList rStr) v68 x66.2.2.1, oA (rList Rimpl_Edge) v69 x66.2.2.2, bA b52 [(.int .i64 x66.1), (.int .i64 x66.2.1), v68, v69] 31, bA b49 [(.int .i64 a0.1), (.int .i64 a0.2.1), v33, v35] 31] w73 at H
  refine lq (.int .i64 (0 : Int)) S (q_assign rfl) fun a S => ?_
  refine lx_nil (thenN ?_)
  refine wp_ret ?_
  have hrv0 := RV.cellA (t := 31) (q := 2) (env := [(0, (.agg #[(.int .i64 a0.1), (.int .i64 a0.2.1), v33, v35])), (1, (bp b49)), (2, (bp b52)), (3, (.int .i64 (0 : Int))), (4, (.bool x57)), (5, (.bool (!x57))), (7, (.agg #[(.int .i64 x66.1), (.int .i64 x66.2.1), v68, v69]))]) H (i := 2) rfl rfl Tryz.isAgg31 Tryz.sizeOf31
  have hrv1 : RV Tryz.prog _ w73 (.tmp 3) (.int .i64 (0 : Int)) := (rfl : lk [(0, (.agg #[(.int .i64 a0.1), (.int .i64 a0.2.1), v33, v35])), (1, (bp b49)), (2, (bp b52)), (3, (.int .i64 (0 : Int))), (4, (.bool x57)), (5, (.bool (!x57))), (7, (.agg #[(.int .i64 x66.1), (.int .i64 x66.2.1), v68, v69]))] 3 = some (.int .i64 (0 : Int)))
  obtain rfl := Option.some.inj hm
  have H : Heap w0 [oA (rList rStr) v68 x66.2.2.1, oA (rList Rimpl_Edge) v69 x66.2.2.2] w73 := H.sel [0, 1] (by decide)
  exact leaveR2 S rfl hrv0 hrv1 ⟨v68, v69, rfl, H⟩

/-- impl.labelsOf -/
def impl_labelsOf_m (fuel : Nat) (a0 : (List Timpl_arc)) : Option ((List Str)) :=
  (iter (fun (s : (List Str) × (Int)) => (match s with | (xs63, x65) => (if (decide (x65 < (a0.length : Int))) = true then (idx a0 x65).bind fun x109 => (app xs63 [x109.2.1]).bind fun x129 => some (.inl (x129, (W (x65 + (1 : Int))))) else some (.inr (.inl (xs63)))) : Option (((List Str) × (Int)) ⊕ (((List Str)) ⊕ ((List Str)))))) fuel ([], (0 : Int))).bind fun res99 => ctl (β := (List Str)) (ρ := (List Str)) (τ := (List Str)) res99 (fun (xs97) => some (xs97)) (fun q => some (q))
set_option maxRecDepth 20000 in
theorem impl_labelsOf_ok [dr : Dr] {w0 : World} {fuel : Nat} {p0 : Value} {a0 : (List Timpl_arc)} {r : (List Str)} (h0 : Rd (rList Rimpl_arc) w0 p0 a0) (hm : impl_labelsOf_m fuel a0 = some r) :
  Calls Tryz.prog 59 #[p0] w0 fun e w => ∃ (v0 : Value), e = .returned (v0) ∧ Heap w0 [oA (rList rStr) v0 r] w := by
 unfold impl_labelsOf_m at hm
 have H := Heap.start w0
 refine enter (args := [p0]) Tryz.func59 rfl 19 rfl (Nat.le_of_ble_eq_true rfl) (fun a S => ?_)
 refine wp_seq (region_plain ?_)
 refine lq (.slice none 0 0) S (q_assign rfl) fun a S => ?_
 refine lx_nil (thenN ?_)
 refine wp_seq (region_plain ?_)
 refine lq (.slice none 0 0) S (q_assign rfl) fun a S => ?_
 refine lx_nil (thenN ?_)
 refine wp_seq (wp_seq (region_plain ?_))
 refine lq p0 S (q_move rfl) fun a S => ?_
 refine lq (.int .i64 (a0.length : Int)) S (q_lenSl rfl (h0).isSl rfl Tryz.underlying81) fun a S => ?_
 refine lq (.int .i64 (0 : Int)) S (q_move rfl) fun a S => ?_
 refine lx_nil (thenN ?_)
 obtain ⟨res99, hit100, hk103⟩ := bind_some hm
 obtain ⟨f101, hf102, hit100⟩ := iter_name hit100
 refine block_loop (fun a w => ∃ (xs97 : List Str) (v96 : Value), Slots a 19 [(3, v96)] ∧ Heap w0 [oA (rList rStr) v96 xs97] w ∧ res99 = .inl (xs97)) ?_ ?_
 ·rintro a w ⟨xs97, v96, S, H, rfl⟩
  have hm := ctl_inl hk103
  refine thenN ?_
  refine wp_seq (region_plain ?_)
  refine lq v96 S (q_move rfl) fun a S => ?_
  refine lq v96 S (q_assign rfl) fun a S => ?_
  refine lx_nil (thenN ?_)
  refine wp_ret ?_
  obtain rfl := Option.some.inj hm
  exact leave1 S rfl rfl ⟨v96, rfl, H⟩
 ·skip
  have H : Heap w0 [oA (rList rStr) (.slice none 0 0) ([] : List Str)] w0 := H.nilList rStr
  refine loop_ghost (fun n a w => ∃ (xs63 : List Str) (x65 : Int) (v62 : Value), Slots a 19 [(3, v62), (6, p0), (7, (.int .i64 (a0.length : Int))), (8, (.int .i64 x65))] ∧ Heap w0 [oA (rList rStr) v62 xs63] w ∧ iter f101 n (xs63, x65) = some res99) _ ⟨[], (0 : Int), (.slice none 0 0), S.sub ⟨rfl, rfl, rfl, rfl, trivial⟩, H, hit100⟩ ?_
  rintro n a w ⟨xs63, x65, v62, S, H, hit100⟩
  obtain ⟨m105, o106, rfl, hm, hc107⟩ := iter_step hit100
  rw [hf102] at hm
  refine wp_seq (region_plain ?_)
  refine lq (.bool (decide (x65 < (a0.length : Int)))) S (q_lss rfl rfl) fun a S => ?_
  refine lx_nil (thenN ?_)
  refine wp_seq ?_
  refine cond_b S rfl (fun hc108 => ?_) (fun hc108 => ?_)
  ·have hm := ite_t hc108 hm
   refine wp_skip (thenN ?_)
   refine wp_seq ?_
   refine wp_block ?_
   refine wp_seq (region_plain ?_)
   obtain ⟨x109, e110, hm⟩ := bind_some hm
   obtain ⟨c111, h112, hat113⟩ := (h0).elem (idx_some e110).2
   obtain ⟨c114, c115, rfl, h116, h117⟩ := h112
   obtain rfl := h116
   obtain ⟨c118, c119, rfl, h120, h121⟩ := h117
   obtain rfl := h120
   obtain rfl := h121
   have hlt := lt_of_idx (idx_some e110).2
   refine lq (ePtr p0 (x65.toNat * 3)) S (q_indexAddr rfl (h0).isSl rfl (idx_some e110).1 hlt Tryz.underlying81 Tryz.sizeOf90) fun a S => ?_
   refine lx_e (.agg #[(.int .i64 x109.1), (sv x109.2.1), (.int .i64 x109.2.2)]) S trivial (by decide) rfl trivial (q_loadA (cs := [(.int .i64 x109.1), (sv x109.2.1), (.int .i64 x109.2.2)]) rfl ((hat113 0 _ rfl).isP) Tryz.isAgg90 Tryz.sizeOf90 (by rintro _ rfl; exact (fun j u hu => (hat113 j u hu).ext H.ext))) (fun a S => ?_)
   refine lx_alloc S trivial (by decide) rfl H Tryz.zeroValue90 rfl (fun b122 w123 H => ⟨trivial, fun a S => ?_⟩)
   refine lx_storeBox (o := 0) (i := 0) (us := [(.int .i64 x109.1), (sv x109.2.1), (.int .i64 x109.2.2)]) (cs' := [(.int .i64 x109.1), (sv x109.2.1), (.int .i64 x109.2.2)]) S trivial rfl H rfl rfl rfl rfl Tryz.sizeOf90 (Nat.le_of_ble_eq_true rfl) (List.forall_mem_cons.2 ⟨rfl, (List.forall_mem_cons.2 ⟨rfl, (List.forall_mem_cons.2 ⟨rfl, (List.forall_mem_nil _)⟩)⟩)⟩) rfl (fun w125 H => ⟨trivial, fun a S => ?_⟩)
   change Heap w0 [bA b122 [(.int .i64 x109.1), (sv x109.2.1), (.int .i64 x109.2.2)] 90, oA (rList rStr) v62 xs63] w125 at H
   refine lx_nil (thenN ?_)
   refine region_plain ?_
   refine lq v62 S (q_move rfl) fun a S => ?_
   refine lq (pAdd (bp b122) 1) S (q_fieldAddr' 1 9 rfl (isP_bp _) Tryz.underlying90 rfl Tryz.sizeOf9) fun a S => ?_
   refine lx_e (sv x109.2.1) S trivial (by decide) rfl trivial (q_load1 rfl Tryz.isAgg9 (by rintro _ rfl; exact (At.of_add (m := 1) (j := 0) (boxAt (i := 0) H rfl (j := 1) rfl)))) (fun a S => ?_)
   refine lx_buildSlice (r := rStr) (xs := [x109.2.1]) (ps := [(0, [(sv x109.2.1)])]) (cs := [(sv x109.2.1)]) (parts := [(0, .tmp 14)]) S trivial (by decide) rfl (H.put0 (A := eA) rfl) rfl Tryz.underlying22 Tryz.sizeOf9 Tryz.zeroValue9 (by decide) ⟨rfl, rfl, Nat.le_of_ble_eq_true rfl, trivial⟩ (by intro zs hz; exact fill_dense hz ⟨rfl, trivial⟩ rfl rfl) rfl (by decide) (fun w F hA => by cases (show F = [] from hA); exact ⟨_, _, [(sv x109.2.1)], _, rfl, rfl, ⟨rfl, rfl⟩, ⟨rfl, rfl⟩⟩) (fun v126 w127 H => ⟨trivial, fun a S => ?_⟩)
   obtain ⟨x129, e130, hm⟩ := bind_some hm
   obtain ⟨hle, hap⟩ := app_some e130
   replace hap := hap.symm
   subst hap
   have H : Heap w0 [oA (rList rStr) v126 [x109.2.1], bA b122 [(.int .i64 x109.1), (sv x109.2.1), (.int .i64 x109.2.2)] 90, oA (rList rStr) v62 xs63] w127 := H.front 0 rfl
   have H : Heap w0 [oA (rList rStr) v62 xs63, oA (rList rStr) v126 [x109.2.1], bA b122 [(.int .i64 x109.1), (sv x109.2.1), (.int .i64 x109.2.2)] 90] w127 := H.front 2 rfl
   refine lx_appendOwn (r := rStr) S trivial (by decide) rfl H rfl rfl Tryz.underlying22 Tryz.ti9 rfl rfl rfl (Nat.le_of_ble_eq_true rfl) (by decide) hle (fun v131 w132 H => ⟨trivial, fun a S => ?_⟩)
   refine lq v131 S (q_assign rfl) fun a S => ?_
   refine lx_nil ?_
   refine inBlock_norm ?_
   refine thenN ?_
   refine region_plain ?_
   refine lq (.int .i64 (W (x65 + (1 : Int)))) S (q_add rfl rfl) fun a S => ?_
   refine lq (.int .i64 (W (x65 + (1 : Int)))) S (q_move rfl) fun a S => ?_
   refine lx_nil ?_
   have H : Heap w0 [oA (rList rStr) v131 (xs63 ++ [x109.2.1])] w132 := H.sel [0] (by decide)
   exact ⟨m105, Nat.lt_succ_self _, (xs63 ++ [x109.2.1]), (W (x65 + (1 : Int))), v131, S.sub ⟨rfl, rfl, rfl, rfl, trivial⟩, H, it_cont hm hc107⟩
  ·have hm := ite_f hc108 hm
   refine wp_exit ?_
   refine then_exit ?_
   refine then_exit ?_
   refine inBlock_exit ?_
   obtain rfl := it_brk hm hc107
   exact ⟨xs63, v62, S.sub ⟨rfl, trivial⟩, H, rfl⟩

/-- (impl.Lts).usedLabels -/
def impl_Lts_usedLabels_m (fuel : Nat) (a0 : Timpl_Lts) : Option (Timpl_Lts) :=
  (impl_Lts_arcs_m fuel (a0.1, a0.2.1, a0.2.2.1, a0.2.2.2)).bind fun x57 => (impl_labelsOf_m fuel x57).bind fun x66 => (impl_lts_m fuel a0.1 a0.2.1 x66 x57).bind fun x73 => some ((x73.1, x73.2.1, x73.2.2.1, x73.2.2.2))
set_option maxRecDepth 20000 in
theorem impl_Lts_usedLabels_ok [dr : Dr] {w0 : World} {fuel : Nat} {p0 : Value} {a0 : Timpl_Lts} {r : Timpl_Lts} (h0 : Rd Rimpl_Lts w0 p0 a0) (hm : impl_Lts_usedLabels_m fuel a0 = some r) :
  Calls Tryz.prog 30 #[p0] w0 fun e w => ∃ (v0 : Value) (v1 : Value), e = .returned (.agg #[.int .i64 r.1, .int .i64 r.2.1, v0, v1]) ∧ Heap w0 [oA (rList rStr) v0 r.2.2.1, oA (rList Rimpl_Edge) v1 r.2.2.2] w := by
 unfold impl_Lts_usedLabels_m at hm
 have H := Heap.start w0
 obtain ⟨c31, rfl, h32⟩ := h0
 obtain ⟨c37, c38, rfl, h39, h40⟩ := h32
 obtain rfl := h39
 obtain ⟨c41, c42, rfl, h43, h44⟩ := h40
 obtain rfl := h43
 obtain ⟨c45, c46, rfl, h47, h48⟩ := h44
 obtain ⟨v33, rfl, h34⟩ := rd_list h47
 obtain ⟨v35, rfl, h36⟩ := rd_list h48
 refine enter (args := [(.agg #[(.int .i64 a0.1), (.int .i64 a0.2.1), v33, v35])]) Tryz.func30 rfl 14 rfl (Nat.le_of_ble_eq_true rfl) (fun a S => ?_)
 refine wp_seq (region_plain ?_)
 refine lx_box S trivial (by decide) rfl H rfl rfl (fun b49 w50 H => ⟨trivial, fun a S => ?_⟩)
 refine lx_alloc S trivial (by decide) rfl H Tryz.zeroValue31 rfl (fun b52 w53 H => ⟨trivial, fun a S => ?_⟩)
 refine lx_nil (thenN ?_)
 refine wp_seq (region_plain ?_)
 refine lx_e (.agg #[(.int .i64 a0.1), (.int .i64 a0.2.1), v33, v35]) S trivial (by decide) rfl trivial (q_loadA (cs := [(.int .i64 a0.1), (.int .i64 a0.2.1), v33, v35]) rfl (isP_bp _) Tryz.isAgg31 Tryz.sizeOf31 (by rintro _ rfl; exact (fun j u hu => boxAt (i := 1) H rfl hu))) (fun a S => ?_)
 obtain ⟨x57, e58, hm⟩ := bind_some hm
 refine lx_call (xs := [.tmp 4]) S trivial (by decide) rfl rfl Tryz.call57 ((impl_Lts_arcs_ok ⟨[(.int .i64 a0.1), (.int .i64 a0.2.1), v33, v35], rfl, ⟨[(.int .i64 a0.1)], [(.int .i64 a0.2.1), v33, v35], rfl, rfl, ⟨[(.int .i64 a0.2.1)], [v33, v35], rfl, rfl, ⟨[v33], [v35], rfl, ((H.arg h34)).list_rd, ((H.arg h36)).list_rd⟩⟩⟩⟩ e58).mono ?_)
 rintro e w55 ⟨v59, rfl, Hc56⟩
 have H := H.call1 Hc56
 refine ⟨_, rfl, trivial, fun a S => ?_⟩
 refine lq v59 S (q_assign rfl) fun a S => ?_
 refine lx_nil (thenN ?_)
 refine wp_seq ?_
 refine region_drawG (fun w1 => Heap w0 [bA b49 [(.int .i64 a0.1), (.int .i64 a0.2.1), v33, v35] 31] w1) (fun i => [5, 7, 8].contains i) mixed (by kernel_rfl) (fun w63 he62 => ?_)
 have H := H.later he62
 refine ⟨H.sel [2] (by decide), ?_⟩
 refine lq (pAdd (bp b49) 0) S (q_fieldAddr' 0 2 rfl (isP_bp _) Tryz.underlying31 rfl Tryz.sizeOf2) fun a S => ?_
 refine lq (.int .i64 a0.1) S (q_load1 rfl Tryz.isAgg2 (fun w1 hC => (At.of_add (m := 0) (j := 0) (boxAt (i := 0) hC rfl (j := 0) rfl)))) fun a S => ?_
 refine lq (pAdd (bp b49) 1) S (q_fieldAddr' 1 2 rfl (isP_bp _) Tryz.underlying31 rfl Tryz.sizeOf2) fun a S => ?_
 refine lq (.int .i64 a0.2.1) S (q_load1 rfl Tryz.isAgg2 (fun w1 hC => (At.of_add (m := 1) (j := 0) (boxAt (i := 0) hC rfl (j := 1) rfl)))) fun a S => ?_
 refine lq v59 S (q_move rfl) fun a S => ?_
 obtain ⟨x66, e67, hm⟩ := bind_some hm
 refine lx_call (xs := [.tmp 10]) S trivial (by decide) rfl rfl Tryz.call59 ((impl_labelsOf_ok (H.rdAt 0 rfl) e67).mono ?_)
 rintro e w64 ⟨v68, rfl, Hc65⟩
 have H := H.call1 Hc65
 refine ⟨_, rfl, H.sel [3] (by decide), fun a S => ?_⟩
 refine lq v59 S (q_move rfl) fun a S => ?_
 obtain ⟨x73, e74, hm⟩ := bind_some hm
 refine lx_call (xs := [.tmp 7, .tmp 9, .tmp 11, .tmp 12]) S trivial (by decide) rfl rfl Tryz.call58 ((impl_lts_ok   (H.rdAt 0 rfl) (H.rdAt 1 rfl) e74).mono ?_)
 rintro e w71 ⟨v75, v76, rfl, Hc72⟩
 have H := H.call2 Hc72
 refine ⟨_, rfl, H.sel [5] (by decide), fun a S => ?_⟩
 refine lx_storeBox (o := 0) (i := 4) (us := [(.int .i64 x73.1), (.int .i64 x73.2.1), v75, v76]) (cs' := [(.int .i64 x73.1), (.int .i64 x73.2.1), v75, v76]) S trivial rfl H rfl rfl rfl rfl Tryz.sizeOf31 (Nat.le_of_ble_eq_true rfl) (List.forall_mem_cons.2 ⟨rfl, (List.forall_mem_cons.2 ⟨rfl, (List.forall_mem_cons.2 ⟨one_sl (H.isSl 0 rfl), (List.forall_mem_cons.2 ⟨one_sl (H.isSl 1 rfl), (List.forall_mem_nil _)⟩)⟩)⟩)⟩) rfl (fun w80 H => ⟨H.sel [5] (by decide), fun a S => ?_⟩)
 change Heap w0 [oA (rList rStr) v75 x73.2.2.1, oA (rList Rimpl_Edge) v76 x73.2.2.2, oA (rList rStr) v68 x66, oA (rList Rimpl_arc) v59 x57, bA b52 [(.int .i64 x73.1), (.int .i64 x73.2.1), v75, v76] 31, bA b49 [(.int .i64 a0.1), (.int .i64 a0.2.1), v33, v35] 31] w80 at H
 refine lx_nil (thenN ?_)
 refine wp_ret ?_
 have hrv0 := RV.cellA (t := 31) (q := 2) (env := [(0, (.agg #[(.int .i64 a0.1), (.int .i64 a0.2.1), v33, v35])), (1, (bp b49)), (2, (bp b52)), (3, v59), (4, (.agg #[(.int .i64 a0.1), (.int .i64 a0.2.1), v33, v35])), (5, v59), (6, (pAdd (bp b49) 0)), (7, (.int .i64 a0.1)), (8, (pAdd (bp b49) 1)), (9, (.int .i64 a0.2.1)), (10, v59), (11, v68), (12, v59), (13, (.agg #[(.int .i64 x73.1), (.int .i64 x73.2.1), v75, v76]))]) H (i := 4) rfl rfl Tryz.isAgg31 Tryz.sizeOf31
 obtain rfl := Option.some.inj hm
 have H : Heap w0 [oA (rList rStr) v75 x73.2.2.1, oA (rList Rimpl_Edge) v76 x73.2.2.2] w80 := H.sel [0, 1] (by decide)
 exact leaveR1 S rfl hrv0 ⟨v75, v76, rfl, H⟩

/-- impl.UsedLabels -/
def impl_UsedLabels_m (fuel : Nat) (a0 : Timpl_Lts) : Option ((Timpl_Lts × Int)) :=
  (impl_ValidLts_m fuel (a0.1, a0.2.1, a0.2.2.1, a0.2.2.2)).bind fun x57 => (if (!x57) = true then some ((((0 : Int), (0 : Int), [], []), (1 : Int))) else (impl_Lts_usedLabels_m fuel (a0.1, a0.2.1, a0.2.2.1, a0.2.2.2)).bind fun x66 => some (((x66.1, x66.2.1, x66.2.2.1, x66.2.2.2), (0 : Int))))
set_option maxRecDepth 20000 in
theorem impl_UsedLabels_ok {w0 : World} {fuel : Nat} {p0 : Value} {a0 : Timpl_Lts} {r : (Timpl_Lts × Int)} (hG : GlobE Tryz.prog w0) (h0 : Rd Rimpl_Lts w0 p0 a0) (hm : impl_UsedLabels_m fuel a0 = some r) :
  Calls Tryz.prog 12 #[p0] w0 fun e w => ∃ (v0 : Value) (v1 : Value), e = .returned (.tuple #[.agg #[.int .i64 r.1.1, .int .i64 r.1.2.1, v0, v1], .int .i64 r.2]) ∧ Heap w0 [oA (rList rStr) v0 r.1.2.2.1, oA (rList Rimpl_Edge) v1 r.1.2.2.2] w := by
 unfold impl_UsedLabels_m at hm
 have H := Heap.start w0
 obtain ⟨c31, rfl, h32⟩ := h0
 obtain ⟨c37, c38, rfl, h39, h40⟩ := h32
 obtain rfl := h39
 obtain ⟨c41, c42, rfl, h43, h44⟩ := h40
 obtain rfl := h43
 obtain ⟨c45, c46, rfl, h47, h48⟩ := h44
 obtain ⟨v33, rfl, h34⟩ := rd_list h47
 obtain ⟨v35, rfl, h36⟩ := rd_list h48
 refine enter (args := [(.agg #[(.int .i64 a0.1), (.int .i64 a0.2.1), v33, v35])]) Tryz.func12 rfl 10 rfl (Nat.le_of_ble_eq_true rfl) (fun a S => ?_)
 refine wp_seq (region_plain ?_)
 refine lx_box S trivial (by decide) rfl H rfl rfl (fun b49 w50 H => ⟨trivial, fun a S => ?_⟩)
 refine lx_alloc S trivial (by decide) rfl H Tryz.zeroValue31 rfl (fun b52 w53 H => ⟨trivial, fun a S => ?_⟩)
 refine lq (.int .i64 (0 : Int)) S (q_assign rfl) fun a S => ?_
 refine lx_nil (thenN ?_)
 refine wp_seq (wp_seq (region_plain ?_))
 refine lx_e (.agg #[(.int .i64 a0.1), (.int .i64 a0.2.1), v33, v35]) S trivial (by decide) rfl trivial (q_loadA (cs := [(.int .i64 a0.1), (.int .i64 a0.2.1), v33, v35]) rfl (isP_bp _) Tryz.isAgg31 Tryz.sizeOf31 (by rintro _ rfl; exact (fun j u hu => boxAt (i := 1) H rfl hu))) (fun a S => ?_)
 obtain ⟨x57, e58, hm⟩ := bind_some hm
 refine lx_call (xs := [.tmp 4]) S trivial (by decide) rfl rfl Tryz.call29 ((impl_ValidLts_ok (hG.ext H.ext) ⟨[(.int .i64 a0.1), (.int .i64 a0.2.1), v33, v35], rfl, ⟨[(.int .i64 a0.1)], [(.int .i64 a0.2.1), v33, v35], rfl, rfl, ⟨[(.int .i64 a0.2.1)], [v33, v35], rfl, rfl, ⟨[v33], [v35], rfl, ((H.arg h34)).list_rd, ((H.arg h36)).list_rd⟩⟩⟩⟩ e58).mono ?_)
 rintro e w55 ⟨rfl, Hc56⟩
 have H := H.call0 Hc56
 refine ⟨_, rfl, trivial, fun a S => ?_⟩
 refine lq (.bool (!x57)) S (q_not rfl) fun a S => ?_
 refine lx_nil (thenN ?_)
 refine cond_b S rfl (fun hc60 => ?_) (fun hc60 => ?_)
 ·have hm := ite_t hc60 hm
  refine wp_seq (region_plain ?_)
  refine lq (.agg #[(.int .i64 (0 : Int)), (.int .i64 (0 : Int)), (.slice none 0 0), (.slice none 0 0)]) S (q_build (zs := [(.int .i64 (0 : Int)), (.int .i64 (0 : Int)), (.slice none 0 0), (.slice none 0 0)]) (szs := [1, 1, 1, 1]) (ps := []) (parts := []) rfl Tryz.underlying31 Tryz.zeroValue31 (fun w => by simp [Tryz.sizeOf2, Tryz.sizeOf22, Tryz.sizeOf29]) trivial rfl) fun a S => ?_
  refine lx_storeBox (o := 0) (i := 0) (us := [(.int .i64 (0 : Int)), (.int .i64 (0 : Int)), (.slice none 0 0), (.slice none 0 0)]) (cs' := [(.int .i64 (0 : Int)), (.int .i64 (0 : Int)), (.slice none 0 0), (.slice none 0 0)]) S trivial rfl H rfl rfl rfl rfl Tryz.sizeOf31 (Nat.le_of_ble_eq_true rfl) (List.forall_mem_cons.2 ⟨rfl, (List.forall_mem_cons.2 ⟨rfl, (List.forall_mem_cons.2 ⟨rfl, (List.forall_mem_cons.2 ⟨rfl, (List.forall_mem_nil _)⟩)⟩)⟩)⟩) rfl (fun w61 H => ⟨trivial, fun a S => ?_⟩)
  change Heap w0 [bA b52 [(.int .i64 (0 : Int)), (.int .i64 (0 : Int)), (.slice none 0 0), (.slice none 0 0)] 31, bA b49 [(.int .i64 a0.1), (.int .i64 a0.2.1), v33, v35] 31] w61 at H
  refine lq (.int .i64 (1 : Int)) S (q_assign rfl) fun a S => ?_
  refine lx_nil (thenN ?_)
  refine wp_ret ?_
  have hrv0 := RV.cellA (t := 31) (q := 2) (env := [(0, (.agg #[(.int .i64 a0.1), (.int .i64 a0.2.1), v33, v35])), (1, (bp b49)), (2, (bp b52)), (3, (.int .i64 (1 : Int))), (4, (.agg #[(.int .i64 a0.1), (.int .i64 a0.2.1), v33, v35])), (5, (.bool x57)), (6, (.bool (!x57))), (7, (.agg #[(.int .i64 (0 : Int)), (.int .i64 (0 : Int)), (.slice none 0 0), (.slice none 0 0)]))]) H (i := 0) rfl rfl Tryz.isAgg31 Tryz.sizeOf31
  have hrv1 : RV Tryz.prog _ w61 (.tmp 3) (.int .i64 (1 : Int)) := (rfl : lk [(0, (.agg #[(.int .i64 a0.1), (.int .i64 a0.2.1), v33, v35])), (1, (bp b49)), (2, (bp b52)), (3, (.int .i64 (1 : Int))), (4, (.agg #[(.int .i64 a0.1), (.int .i64 a0.2.1), v33, v35])), (5, (.bool x57)), (6, (.bool (!x57))), (7, (.agg #[(.int .i64 (0 : Int)), (.int .i64 (0 : Int)), (.slice none 0 0), (.slice none 0 0)]))] 3 = some (.int .i64 (1 : Int)))
  refine then_ret ?_
  obtain rfl := Option.some.inj hm
  have H : Heap w0 [oA (rList rStr) (.slice none 0 0) ([] : List Str), bA b52 [(.int .i64 (0 : Int)), (.int .i64 (0 : Int)), (.slice none 0 0), (.slice none 0 0)] 31, bA b49 [(.int .i64 a0.1), (.int .i64 a0.2.1), v33, v35] 31] w61 := H.nilList rStr
  have H : Heap w0 [oA (rList Rimpl_Edge) (.slice none 0 0) ([] : List Timpl_Edge), oA (rList rStr) (.slice none 0 0) ([] : List Str), bA b52 [(.int .i64 (0 : Int)), (.int .i64 (0 : Int)), (.slice none 0 0), (.slice none 0 0)] 31, bA b49 [(.int .i64 a0.1), (.int .i64 a0.2.1), v33, v35] 31] w61 := H.nilList Rimpl_Edge
  have H : Heap w0 [oA (rList rStr) (.slice none 0 0) ([] : List Str), oA (rList Rimpl_Edge) (.slice none 0 0) ([] : List Timpl_Edge), bA b52 [(.int .i64 (0 : Int)), (.int .i64 (0 : Int)), (.slice none 0 0), (.slice none 0 0)] 31, bA b49 [(.int .i64 a0.1), (.int .i64 a0.2.1), v33, v35] 31] w61 := H.front 1 rfl
  have H : Heap w0 [oA (rList rStr) (.slice none 0 0) ([] : List Str), oA (rList Rimpl_Edge) (.slice none 0 0) ([] : List Timpl_Edge)] w61 := H.sel [0, 1] (by decide)
  exact leaveR2 S rfl hrv0 hrv1 ⟨(.slice none 0 0), (.slice none 0 0), rfl, H⟩
 ·have hm := ite_f hc60 hm
  refine wp_skip (thenN ?_)
  refine wp_seq (region_plain ?_)
  refine lx_e (.agg #[(.int .i64 a0.1), (.int .i64 a0.2.1), v33, v35]) S trivial (by decide) rfl trivial (q_loadA (cs := [(.int .i64 a0.1), (.int .i64 a0.2.1), v33, v35]) rfl (isP_bp _) Tryz.isAgg31 Tryz.sizeOf31 (by rintro _ rfl; exact (fun j u hu => boxAt (i := 1) H rfl hu))) (fun a S => ?_)
  obtain ⟨x66, e67, hm⟩ := bind_some hm
  refine lx_call (xs := [.tmp 8]) S trivial (by decide) rfl rfl Tryz.call30 ((impl_Lts_usedLabels_ok ⟨[(.int .i64 a0.1), (.int .i64 a0.2.1), v33, v35], rfl, ⟨[(.int .i64 a0.1)], [(.int .i64 a0.2.1), v33, v35], rfl, rfl, ⟨[(.int .i64 a0.2.1)], [v33, v35], rfl, rfl, ⟨[v33], [v35], rfl, ((H.arg h34)).list_rd, ((H.arg h36)).list_rd⟩⟩⟩⟩ e67).mono ?_)
  rintro e w64 ⟨v68, v69, rfl, Hc65⟩
  have H := H.call2 Hc65
  refine ⟨_, rfl, trivial, fun a S => ?_⟩
  refine lx_storeBox (o := 0) (i := 2) (us := [(.int .i64 x66.1), (.int .i64 x66.2.1), v68, v69]) (cs' := [(.int .i64 x66.1), (.int .i64 x66.2.1), v68, v69]) S trivial rfl H rfl rfl rfl rfl Tryz.sizeOf31 (Nat.le_of_ble_eq_true rfl) (List.forall_mem_cons.2 ⟨rfl, (List.forall_mem_cons.2 ⟨rfl, (List.forall_mem_cons.2 ⟨one_sl (H.isSl 0 rfl), (List.forall_mem_cons.2 ⟨one_sl (H.isSl 1 rfl), (List.forall_mem_nil _)⟩)⟩)⟩)⟩) rfl (fun w73 H => ⟨trivial, fun a S => ?_⟩)
  change Heap w0 [oA (rList rStr) v68 x66.2.2.1, oA (rList Rimpl_Edge) v69 x66.2.2.2, bA b52 [(.int .i64 x66.1), (.int .i64 x66.2.1), v68, v69] 31, bA b49 [(.int .i64 a0.1), (.int .i64 a0.2.1), v33, v35] 31] w73 at H
  refine lq (.int .i64 (0 : Int)) S (q_assign rfl) fun a S => ?_
  refine lx_nil (thenN ?_)
  refine wp_ret ?_
  have hrv0 := RV.cellA (t := 31) (q := 2) (env := [(0, (.agg #[(.int .i64 a0.1), (.int .i64 a0.2.1), v33, v35])), (1, (bp b49)), (2, (bp b52)), (3, (.int .i64 (0 : Int))), (4, (.agg #[(.int .i64 a0.1), (.int .i64 a0.2.1), v33, v35])), (5, (.bool x57)), (6, (.bool (!x57))), (8, (.agg #[(.int .i64 a0.1), (.int .i64 a0.2.1), v33, v35])), (9, (.agg #[(.int .i64 x66.1), (.int .i64 x66.2.1), v68, v69]))]) H (i := 2) rfl rfl Tryz.isAgg31 Tryz.sizeOf31
  have hrv1 : RV Tryz.prog _ w73 (.tmp 3) (.int .i64 (0 : Int)) := (rfl : lk [(0, (.agg #[(.int .i64 a0.1), (.int .i64 a0.2.1), v33, v35])), (1, (bp b49)), (2, (bp b52)), (3, (.int .i64 (0 : Int))), (4, (.agg #[(.int .i64 a0.1), (.int .i64 a0.2.1), v33, v35])), (5, (.bool x57)), (6, (.bool (!x57))), (8, (.agg #[(.int .i64 a0.1), (.int .i64 a0.2.1), v33, v35])), (9, (.agg #[(.int .i64 x66.1), (.int .i64 x66.2.1), v68, v69]))] 3 = some (.int .i64 (0 : Int)))
  obtain rfl := Option.some.inj hm
  have H : Heap w0 [oA (rList rStr) v68 x66.2.2.1, oA (rList Rimpl_Edge) v69 x66.2.2.2] w73 := H.sel [0, 1] (by decide)
  exact leaveR2 S rfl hrv0 hrv1 ⟨v68, v69, rfl, H⟩

/-- laws.FnExactUsedLabels -/
def laws_FnExactUsedLabels_m (fuel : Nat) (a0 : Tlaws_Lts) : Option (Bool) :=
  (laws_szLts_m fuel (a0.1, a0.2.1, a0.2.2.1, a0.2.2.2) (1048576 : Int)).bind fun x54 => (if (decide (x54 < (0 : Int))) = true then some (true) else (laws_toLts_m fuel (a0.1, a0.2.1, a0.2.2.1, a0.2.2.2)).bind fun x60 => (spec_UsedLabels_m fuel (x60.1, x60.2.1, x60.2.2.1, x60.2.2.2)).bind fun x69 => (laws_toLts_m fuel (a0.1, a0.2.1, a0.2.2.1, a0.2.2.2)).bind fun x82 => (impl_UsedLabels_m fuel (x82.1, x82.2.1, x82.2.2.1, x82.2.2.2)).bind fun x95 => (laws_eqLts_m fuel (x95.1.1, x95.1.2.1, x95.1.2.2.1, x95.1.2.2.2) (x69.1.1, x69.1.2.1, x69.1.2.2.1, x69.1.2.2.2)).bind fun x108 => (if (!x108) = true then some true else some (x95.2 != x69.2)).bind fun t111 => (if t111 = true then some (false) else (laws_toLts_m fuel (a0.1, a0.2.1, a0.2.2.1, a0.2.2.2)).bind fun x119 => (laws_eqLts_m fuel (x82.1, x82.2.1, x82.2.2.1, x82.2.2.2) (x119.1, x119.2.1, x119.2.2.1, x119.2.2.2)).bind fun x128 => (if (!x128) = true then some (false) else (laws_markLts_m fuel (x82.1, x82.2.1, x82.2.2.1, x82.2.2.2) (1 : Int)).bind fun x134 => (if (decide (x134.1 < (0 : Int))) = true then some true else (laws_eqLts_m fuel (x95.1.1, x95.1.2.1, x95.1.2.2.1, x95.1.2.2.2) (x69.1.1, x69.1.2.1, x69.1.2.2.1, x69.1.2.2.2)).bind fun x141 => some (!x141)).bind fun t136 => (if t136 = true then some true else some (x95.2 != x69.2)).bind fun t144 => (if t144 = true then some (false) else (laws_markLts_m fuel (x95.1.1, x95.1.2.1, x95.1.2.2.1, x95.1.2.2.2) (1 : Int)).bind fun x150 => (laws_heldLts_m fuel (x95.1.1, x95.1.2.1, x150.2.1, x150.2.2) (1 : Int)).bind fun x154 => (if (decide (x154 < (0 : Int))) = true then some (false) else (if (x154 != x150.1) = true then some (false) else (laws_toLts_m fuel (a0.1, a0.2.1, a0.2.2.1, a0.2.2.2)).bind fun x161 => (impl_UsedLabels_m fuel (x161.1, x161.2.1, x161.2.2.1, x161.2.2.2)).bind fun x170 => (laws_eqLts_m fuel (x170.1.1, x170.1.2.1, x170.1.2.2.1, x170.1.2.2.2) (x69.1.1, x69.1.2.1, x69.1.2.2.1, x69.1.2.2.2)).bind fun x183 => (if (!x183) = true then some true else some (x170.2 != x69.2)).bind fun t186 => (if t186 = true then some (false) else (laws_heldLts_m fuel (x95.1.1, x95.1.2.1, x150.2.1, x150.2.2) (1 : Int)).bind fun x192 => (if (decide (x192 < (0 : Int))) = true then some (false) else (if (x192 != x150.1) = true then some (false) else some (true))))))))))
set_option maxRecDepth 20000 in
theorem laws_FnExactUsedLabels_ok {w0 : World} {fuel : Nat} {p0 : Value} {a0 : Tlaws_Lts} {r : Bool} (hG : GlobE Tryz.prog w0) (h0 : Rd Rlaws_Lts w0 p0 a0) (hm : laws_FnExactUsedLabels_m fuel a0 = some r) :
  Calls Tryz.prog 4 #[p0] w0 fun e w => e = .returned (.bool r) ∧ Heap w0 [] w := by
 unfold laws_FnExactUsedLabels_m at hm
 have H := Heap.start w0
 obtain ⟨c31, rfl, h32⟩ := h0
 obtain ⟨c37, c38, rfl, h39, h40⟩ := h32
 obtain rfl := h39
 obtain ⟨c41, c42, rfl, h43, h44⟩ := h40
 obtain rfl := h43
 obtain ⟨c45, c46, rfl, h47, h48⟩ := h44
 obtain ⟨v33, rfl, h34⟩ := rd_list h47
 obtain ⟨v35, rfl, h36⟩ := rd_list h48
 refine enter (args := [(.agg #[(.int .i64 a0.1), (.int .i64 a0.2.1), v33, v35])]) Tryz.func4 rfl 96 rfl (Nat.le_of_ble_eq_true rfl) (fun a S => ?_)
 refine wp_seq (region_plain ?_)
 refine lx_box S trivial (by decide) rfl H rfl rfl (fun b49 w50 H => ⟨trivial, fun a S => ?_⟩)
 refine lq (.bool false) S (q_assign rfl) fun a S => ?_
 refine lx_nil (thenN ?_)
 refine wp_seq (region_plain ?_)
 refine lq (.int .i64 (1048576 : Int)) S (q_assign rfl) fun a S => ?_
 refine lx_nil (thenN ?_)
 refine wp_seq (region_plain ?_)
 refine lx_e (.agg #[(.int .i64 a0.1), (.int .i64 a0.2.1), v33, v35]) S trivial (by decide) rfl trivial (q_loadA (cs := [(.int .i64 a0.1), (.int .i64 a0.2.1), v33, v35]) rfl (isP_bp _) Tryz.isAgg25 Tryz.sizeOf25 (by rintro _ rfl; exact (fun j u hu => boxAt (i := 0) H rfl hu))) (fun a S => ?_)
 refine lq (.int .i64 (1048576 : Int)) S (q_move rfl) fun a S => ?_
 obtain ⟨x54, e55, hm⟩ := bind_some hm
 refine lx_call (xs := [.tmp 14, .tmp 15]) S trivial (by decide) rfl rfl Tryz.call6 ((laws_szLts_ok ⟨[(.int .i64 a0.1), (.int .i64 a0.2.1), v33, v35], rfl, ⟨[(.int .i64 a0.1)], [(.int .i64 a0.2.1), v33, v35], rfl, rfl, ⟨[(.int .i64 a0.2.1)], [v33, v35], rfl, rfl, ⟨[v33], [v35], rfl, ((H.arg h34)).list_rd, ((H.arg h36)).list_rd⟩⟩⟩⟩  e55).mono ?_)
 rintro e w52 ⟨rfl, Hc53⟩
 have H := H.call0 Hc53
 refine ⟨_, rfl, trivial, fun a S => ?_⟩
 refine lq (.int .i64 x54) S (q_assign rfl) fun a S => ?_
 refine lx_nil (thenN ?_)
 refine wp_seq (wp_seq (region_plain ?_))
 refine lq (.int .i64 x54) S (q_move rfl) fun a S => ?_
 refine lq (.bool (decide (x54 < (0 : Int)))) S (q_lss rfl rfl) fun a S => ?_
 refine lx_nil (thenN ?_)
 refine cond_b S rfl (fun hc57 => ?_) (fun hc57 => ?_)
 ·have hm := ite_t hc57 hm
  refine wp_seq (region_plain ?_)
  refine lq (.bool true) S (q_assign rfl) fun a S => ?_
  refine lx_nil (thenN ?_)
  refine wp_ret (then_ret ?_)
  obtain rfl := Option.some.inj hm
  have H : Heap w0 [] w52 := H.sel [] (by decide)
  exact leave1 S rfl rfl ⟨rfl, H⟩
 ·have hm := ite_f hc57 hm
  refine wp_skip (thenN ?_)
  refine wp_seq (region_plain ?_)
  refine lx_e (.agg #[(.int .i64 a0.1), (.int .i64 a0.2.1), v33, v35]) S trivial (by decide) rfl trivial (q_loadA (cs := [(.int .i64 a0.1), (.int .i64 a0.2.1), v33, v35]) rfl (isP_bp _) Tryz.isAgg25 Tryz.sizeOf25 (by rintro _ rfl; exact (fun j u hu => boxAt (i := 0) H rfl hu))) (fun a S => ?_)
  obtain ⟨x60, e61, hm⟩ := bind_some hm
  refine lx_call (xs := [.tmp 20]) S trivial (by decide) rfl rfl Tryz.call8 ((laws_toLts_ok ⟨[(.int .i64 a0.1), (.int .i64 a0.2.1), v33, v35], rfl, ⟨[(.int .i64 a0.1)], [(.int .i64 a0.2.1), v33, v35], rfl, rfl, ⟨[(.int .i64 a0.2.1)], [v33, v35], rfl, rfl, ⟨[v33], [v35], rfl, ((H.arg h34)).list_rd, ((H.arg h36)).list_rd⟩⟩⟩⟩ e61).mono ?_)
  rintro e w58 ⟨v62, v63, rfl, Hc59⟩
  have H := H.call2 Hc59
  refine ⟨_, rfl, trivial, fun a S => ?_⟩
  obtain ⟨x69, e70, hm⟩ := bind_some hm
  refine lx_call (xs := [.tmp 21]) S trivial (by decide) rfl rfl Tryz.call11 ((spec_UsedLabels_ok ⟨[(.int .i64 x60.1), (.int .i64 x60.2.1), v62, v63], rfl, ⟨[(.int .i64 x60.1)], [(.int .i64 x60.2.1), v62, v63], rfl, rfl, ⟨[(.int .i64 x60.2.1)], [v62, v63], rfl, rfl, ⟨[v62], [v63], rfl, ((H.rdAt 0 rfl)).list_rd, ((H.rdAt 1 rfl)).list_rd⟩⟩⟩⟩ e70).mono ?_)
  rintro e w67 ⟨v71, v72, rfl, Hc68⟩
  have H := H.call2 Hc68
  refine ⟨_, rfl, trivial, fun a S => ?_⟩
  refine lq (.tuple #[(.agg #[(.int .i64 x69.1.1), (.int .i64 x69.1.2.1), v71, v72]), (.int .i64 x69.2)]) S (q_move rfl) fun a S => ?_
  refine lq (.agg #[(.int .i64 x69.1.1), (.int .i64 x69.1.2.1), v71, v72]) S (q_extract rfl rfl) fun a S => ?_
  refine lq (.int .i64 x69.2) S (q_extract rfl rfl) fun a S => ?_
  refine lx_alloc S trivial (by decide) rfl H Tryz.zeroValue31 rfl (fun b76 w77 H => ⟨trivial, fun a S => ?_⟩)
  refine lx_storeBox (o := 0) (i := 0) (us := [(.int .i64 x69.1.1), (.int .i64 x69.1.2.1), v71, v72]) (cs' := [(.int .i64 x69.1.1), (.int .i64 x69.1.2.1), v71, v72]) S trivial rfl H rfl rfl rfl rfl Tryz.sizeOf31 (Nat.le_of_ble_eq_true rfl) (List.forall_mem_cons.2 ⟨rfl, (List.forall_mem_cons.2 ⟨rfl, (List.forall_mem_cons.2 ⟨one_sl (H.isSl 1 rfl), (List.forall_mem_cons.2 ⟨one_sl (H.isSl 2 rfl), (List.forall_mem_nil _)⟩)⟩)⟩)⟩) rfl (fun w79 H => ⟨trivial, fun a S => ?_⟩)
  change Heap w0 [bA b76 [(.int .i64 x69.1.1), (.int .i64 x69.1.2.1), v71, v72] 31, oA (rList rStr) v71 x69.1.2.2.1, oA (rList Rimpl_Edge) v72 x69.1.2.2.2, oA (rList rStr) v62 x60.2.2.1, oA (rList Rimpl_Edge) v63 x60.2.2.2, bA b49 [(.int .i64 a0.1), (.int .i64 a0.2.1), v33, v35] 25] w79 at H
  refine lq (.int .i64 x69.2) S (q_assign rfl) fun a S => ?_
  refine lx_nil (thenN ?_)
  refine wp_seq (region_plain ?_)
  refine lx_e (.agg #[(.int .i64 a0.1), (.int .i64 a0.2.1), v33, v35]) S trivial (by decide) rfl trivial (q_loadA (cs := [(.int .i64 a0.1), (.int .i64 a0.2.1), v33, v35]) rfl (isP_bp _) Tryz.isAgg25 Tryz.sizeOf25 (by rintro _ rfl; exact (fun j u hu => boxAt (i := 5) H rfl hu))) (fun a S => ?_)
  obtain ⟨x82, e83, hm⟩ := bind_some hm
  refine lx_call (xs := [.tmp 25]) S trivial (by decide) rfl rfl Tryz.call8 ((laws_toLts_ok ⟨[(.int .i64 a0.1), (.int .i64 a0.2.1), v33, v35], rfl, ⟨[(.int .i64 a0.1)], [(.int .i64 a0.2.1), v33, v35], rfl, rfl, ⟨[(.int .i64 a0.2.1)], [v33, v35], rfl, rfl, ⟨[v33], [v35], rfl, ((H.arg h34)).list_rd, ((H.arg h36)).list_rd⟩⟩⟩⟩ e83).mono ?_)
  rintro e w80 ⟨v84, v85, rfl, Hc81⟩
  have H := H.call2 Hc81
  refine ⟨_, rfl, trivial, fun a S => ?_⟩
  refine lx_alloc S trivial (by decide) rfl H Tryz.zeroValue31 rfl (fun b89 w90 H => ⟨trivial, fun a S => ?_⟩)
  refine lx_storeBox (o := 0) (i := 0) (us := [(.int .i64 x82.1), (.int .i64 x82.2.1), v84, v85]) (cs' := [(.int .i64 x82.1), (.int .i64 x82.2.1), v84, v85]) S trivial rfl H rfl rfl rfl rfl Tryz.sizeOf31 (Nat.le_of_ble_eq_true rfl) (List.forall_mem_cons.2 ⟨rfl, (List.forall_mem_cons.2 ⟨rfl, (List.forall_mem_cons.2 ⟨one_sl (H.isSl 1 rfl), (List.forall_mem_cons.2 ⟨one_sl (H.isSl 2 rfl), (List.forall_mem_nil _)⟩)⟩)⟩)⟩) rfl (fun w92 H => ⟨trivial, fun a S => ?_⟩)
  change Heap w0 [bA b89 [(.int .i64 x82.1), (.int .i64 x82.2.1), v84, v85] 31, oA (rList rStr) v84 x82.2.2.1, oA (rList Rimpl_Edge) v85 x82.2.2.2, bA b76 [(.int .i64 x69.1.1), (.int .i64 x69.1.2.1), v71, v72] 31, oA (rList rStr) v71 x69.1.2.2.1, oA (rList Rimpl_Edge) v72 x69.1.2.2.2, oA (rList rStr) v62 x60.2.2.1, oA (rList Rimpl_Edge) v63 x60.2.2.2, bA b49 [(.int .i64 a0.1), (.int .i64 a0.2.1), v33, v35] 25] w92 at H
  refine lx_nil (thenN ?_)
  refine wp_seq (region_plain ?_)
  refine lx_e (.agg #[(.int .i64 x82.1), (.int .i64 x82.2.1), v84, v85]) S trivial (by decide) rfl trivial (q_loadA (cs := [(.int .i64 x82.1), (.int .i64 x82.2.1), v84, v85]) rfl (isP_bp _) Tryz.isAgg31 Tryz.sizeOf31 (by rintro _ rfl; exact (fun j u hu => boxAt (i := 0) H rfl hu))) (fun a S => ?_)
  obtain ⟨x95, e96, hm⟩ := bind_some hm
  refine lx_call (xs := [.tmp 28]) S trivial (by decide) rfl rfl Tryz.call12 ((impl_UsedLabels_ok (hG.ext H.ext) ⟨[(.int .i64 x82.1), (.int .i64 x82.2.1), v84, v85], rfl, ⟨[(.int .i64 x82.1)], [(.int .i64 x82.2.1), v84, v85], rfl, rfl, ⟨[(.int .i64 x82.2.1)], [v84, v85], rfl, rfl, ⟨[v84], [v85], rfl, ((H.rdAt 1 rfl)).list_rd, ((H.rdAt 2 rfl)).list_rd⟩⟩⟩⟩ e96).mono ?_)
  rintro e w93 ⟨v97, v98, rfl, Hc94⟩
  have H := H.call2 Hc94
  refine ⟨_, rfl, trivial, fun a S => ?_⟩
  refine lq (.tuple #[(.agg #[(.int .i64 x95.1.1), (.int .i64 x95.1.2.1), v97, v98]), (.int .i64 x95.2)]) S (q_move rfl) fun a S => ?_
  refine lq (.agg #[(.int .i64 x95.1.1), (.int .i64 x95.1.2.1), v97, v98]) S (q_extract rfl rfl) fun a S => ?_
  refine lq (.int .i64 x95.2) S (q_extract rfl rfl) fun a S => ?_
  refine lx_alloc S trivial (by decide) rfl H Tryz.zeroValue31 rfl (fun b102 w103 H => ⟨trivial, fun a S => ?_⟩)
  refine lx_storeBox (o := 0) (i := 0) (us := [(.int .i64 x95.1.1), (.int .i64 x95.1.2.1), v97, v98]) (cs' := [(.int .i64 x95.1.1), (.int .i64 x95.1.2.1), v97, v98]) S trivial rfl H rfl rfl rfl rfl Tryz.sizeOf31 (Nat.le_of_ble_eq_true rfl) (List.forall_mem_cons.2 ⟨rfl, (List.forall_mem_cons.2 ⟨rfl, (List.forall_mem_cons.2 ⟨one_sl (H.isSl 1 rfl), (List.forall_mem_cons.2 ⟨one_sl (H.isSl 2 rfl), (List.forall_mem_nil _)⟩)⟩)⟩)⟩) rfl (fun w105 H => ⟨trivial, fun a S => ?_⟩)
  change Heap w0 [bA b102 [(.int .i64 x95.1.1), (.int .i64 x95.1.2.1), v97, v98] 31, oA (rList rStr) v97 x95.1.2.2.1, oA (rList Rimpl_Edge) v98 x95.1.2.2.2, bA b89 [(.int .i64 x82.1), (.int .i64 x82.2.1), v84, v85] 31, oA (rList rStr) v84 x82.2.2.1, oA (rList Rimpl_Edge) v85 x82.2.2.2, bA b76 [(.int .i64 x69.1.1), (.int .i64 x69.1.2.1), v71, v72] 31, oA (rList rStr) v71 x69.1.2.2.1, oA (rList Rimpl_Edge) v72 x69.1.2.2.2, oA (rList rStr) v62 x60.2.2.1, oA (rList Rimpl_Edge) v63 x60.2.2.2, bA b49 [(.int .i64 a0.1), (.int .i64 a0.2.1), v33, v35] 25] w105 at H
  refine lq (.int .i64 x95.2) S (q_assign rfl) fun a S => ?_
  refine lx_nil (thenN ?_)
  refine wp_seq (wp_seq (region_plain ?_))
  refine lx_e (.agg #[(.int .i64 x95.1.1), (.int .i64 x95.1.2.1), v97, v98]) S trivial (by decide) rfl trivial (q_loadA (cs := [(.int .i64 x95.1.1), (.int .i64 x95.1.2.1), v97, v98]) rfl (isP_bp _) Tryz.isAgg31 Tryz.sizeOf31 (by rintro _ rfl; exact (fun j u hu => boxAt (i := 0) H rfl hu))) (fun a S => ?_)
  refine lx_e (.agg #[(.int .i64 x69.1.1), (.int .i64 x69.1.2.1), v71, v72]) S trivial (by decide) rfl trivial (q_loadA (cs := [(.int .i64 x69.1.1), (.int .i64 x69.1.2.1), v71, v72]) rfl (isP_bp _) Tryz.isAgg31 Tryz.sizeOf31 (by rintro _ rfl; exact (fun j u hu => boxAt (i := 6) H rfl hu))) (fun a S => ?_)
  obtain ⟨x108, e109, hm⟩ := bind_some hm
  refine lx_call (xs := [.tmp 32, .tmp 33]) S trivial (by decide) rfl rfl Tryz.call10 ((laws_eqLts_ok ⟨[(.int .i64 x95.1.1), (.int .i64 x95.1.2.1), v97, v98], rfl, ⟨[(.int .i64 x95.1.1)], [(.int .i64 x95.1.2.1), v97, v98], rfl, rfl, ⟨[(.int .i64 x95.1.2.1)], [v97, v98], rfl, rfl, ⟨[v97], [v98], rfl, ((H.rdAt 1 rfl)).list_rd, ((H.rdAt 2 rfl)).list_rd⟩⟩⟩⟩ ⟨[(.int .i64 x69.1.1), (.int .i64 x69.1.2.1), v71, v72], rfl, ⟨[(.int .i64 x69.1.1)], [(.int .i64 x69.1.2.1), v71, v72], rfl, rfl, ⟨[(.int .i64 x69.1.2.1)], [v71, v72], rfl, rfl, ⟨[v71], [v72], rfl, ((H.rdAt 7 rfl)).list_rd, ((H.rdAt 8 rfl)).list_rd⟩⟩⟩⟩ e109).mono ?_)
  rintro e w106 ⟨rfl, Hc107⟩
  have H := H.call0 Hc107
  refine ⟨_, rfl, trivial, fun a S => ?_⟩
  refine lq (.bool (!x108)) S (q_not rfl) fun a S => ?_
  refine lq (.bool (!x108)) S (q_move rfl) fun a S => ?_
  obtain ⟨t111, e112, hm⟩ := bind_some hm
  refine lx_cut 4 (fun a w => Slots a 96 [(1, (bp b49)), (4, (bp b76)), (5, (.int .i64 x69.2)), (6, (bp b89)), (7, (bp b102)), (8, (.int .i64 x95.2)), (40, (.bool t111))] ∧ Heap w0 [bA b102 [(.int .i64 x95.1.1), (.int .i64 x95.1.2.1), v97, v98] 31, oA (rList rStr) v97 x95.1.2.2.1, oA (rList Rimpl_Edge) v98 x95.1.2.2.2, bA b89 [(.int .i64 x82.1), (.int .i64 x82.2.1), v84, v85] 31, oA (rList rStr) v84 x82.2.2.1, oA (rList Rimpl_Edge) v85 x82.2.2.2, bA b76 [(.int .i64 x69.1.1), (.int .i64 x69.1.2.1), v71, v72] 31, oA (rList rStr) v71 x69.1.2.2.1, oA (rList Rimpl_Edge) v72 x69.1.2.2.2, bA b49 [(.int .i64 a0.1), (.int .i64 a0.2.1), v33, v35] 25] w) ?_ ?_
  ·by_cases hc113 : (!x108) = true
   ·have hm := ite_t hc113 e112
    refine lx_skip S rfl rfl (isB_ne hc113) (by decide) (fun a S => ?_)
    refine lx_skip S rfl rfl (isB_ne hc113) (by decide) (fun a S => ?_)
    refine lx_skip S rfl rfl (isB_ne hc113) (by decide) (fun a S => ?_)
    refine lq (.bool true) S (q_pickT' rfl hc113 rfl) fun a S => ?_
    refine lx_nil ?_
    obtain rfl := Option.some.inj hm
    have H := H.sel [0, 1, 2, 3, 4, 5, 6, 7, 8, 11] (by decide)
    exact ⟨S.sub ⟨rfl, rfl, rfl, rfl, rfl, rfl, rfl, trivial⟩, H⟩
   ·have hm := ite_f (eq_false_of_ne_true hc113) e112
    have hc113 : (!x108) = false := eq_false_of_ne_true hc113
    refine lx_q (.int .i64 x95.2) S (want_b rfl rfl hc113) (by decide) (q_move rfl) (fun a S => ?_)
    refine lx_q (.int .i64 x69.2) S (want_b rfl rfl hc113) (by decide) (q_move rfl) (fun a S => ?_)
    refine lx_q (.bool (x95.2 != x69.2)) S (want_b rfl rfl hc113) (by decide) (q_neq rfl rfl) (fun a S => ?_)
    refine lq (.bool (x95.2 != x69.2)) S (q_pickF' rfl hc113 rfl) fun a S => ?_
    refine lx_nil ?_
    obtain rfl := Option.some.inj hm
    have H := H.sel [0, 1, 2, 3, 4, 5, 6, 7, 8, 11] (by decide)
    exact ⟨S.sub ⟨rfl, rfl, rfl, rfl, rfl, rfl, rfl, trivial⟩, H⟩
  ·rintro a w ⟨S, H⟩
   refine lx_nil (thenN ?_)
   refine cond_b S rfl (fun hc114 => ?_) (fun hc114 => ?_)
   ·have hm := ite_t hc114 hm
    refine wp_seq (region_plain ?_)
    refine lq (.bool false) S (q_assign rfl) fun a S => ?_
    refine lx_nil (thenN ?_)
    refine wp_ret (then_ret ?_)
    obtain rfl := Option.some.inj hm
    have H : Heap w0 [] w := H.sel [] (by decide)
    exact leave1 S rfl rfl ⟨rfl, H⟩
   ·have hm := ite_f hc114 hm
    refine wp_skip (thenN ?_)
    refine wp_seq ?_
    refine wp_seq ?_
    refine region_drawG (fun w1 => Heap w0 [bA b89 [(.int .i64 x82.1), (.int .i64 x82.2.1), v84, v85] 31, bA b49 [(.int .i64 a0.1), (.int .i64 a0.2.1), v33, v35] 25] w1) (fun i => [2, 3].contains i) mixed (by kernel_rfl) (fun w116 he115 => ?_)
    have H := H.later he115
    refine ⟨H.sel [3, 9] (by decide), ?_⟩
    refine lq (.agg #[(.int .i64 x82.1), (.int .i64 x82.2.1), v84, v85]) S (q_loadA (cs := [(.int .i64 x82.1), (.int .i64 x82.2.1), v84, v85]) rfl (isP_bp _) Tryz.isAgg31 Tryz.sizeOf31 (fun w1 hC => (fun j u hu => boxAt (i := 0) hC rfl hu))) fun a S => ?_
    refine lq (.agg #[(.int .i64 a0.1), (.int .i64 a0.2.1), v33, v35]) S (q_loadA (cs := [(.int .i64 a0.1), (.int .i64 a0.2.1), v33, v35]) rfl (isP_bp _) Tryz.isAgg25 Tryz.sizeOf25 (fun w1 hC => (fun j u hu => boxAt (i := 1) hC rfl hu))) fun a S => ?_
    obtain ⟨x119, e120, hm⟩ := bind_some hm
    refine lx_call (xs := [.tmp 42]) S trivial (by decide) rfl rfl Tryz.call8 ((laws_toLts_ok ⟨[(.int .i64 a0.1), (.int .i64 a0.2.1), v33, v35], rfl, ⟨[(.int .i64 a0.1)], [(.int .i64 a0.2.1), v33, v35], rfl, rfl, ⟨[(.int .i64 a0.2.1)], [v33, v35], rfl, rfl, ⟨[v33], [v35], rfl, ((H.arg h34)).list_rd, ((H.arg h36)).list_rd⟩⟩⟩⟩ e120).mono ?_)
    rintro e w117 ⟨v121, v122, rfl, Hc118⟩
    have H := H.call2 Hc118
    refine ⟨_, rfl, H.sel [5, 11] (by decide), fun a S => ?_⟩
    obtain ⟨x128, e129, hm⟩ := bind_some hm
    refine lx_call (xs := [.tmp 41, .tmp 43]) S trivial (by decide) rfl rfl Tryz.call10 ((laws_eqLts_ok ⟨[(.int .i64 x82.1), (.int .i64 x82.2.1), v84, v85], rfl, ⟨[(.int .i64 x82.1)], [(.int .i64 x82.2.1), v84, v85], rfl, rfl, ⟨[(.int .i64 x82.2.1)], [v84, v85], rfl, rfl, ⟨[v84], [v85], rfl, ((H.rdAt 6 rfl)).list_rd, ((H.rdAt 7 rfl)).list_rd⟩⟩⟩⟩ ⟨[(.int .i64 x119.1), (.int .i64 x119.2.1), v121, v122], rfl, ⟨[(.int .i64 x119.1)], [(.int .i64 x119.2.1), v121, v122], rfl, rfl, ⟨[(.int .i64 x119.2.1)], [v121, v122], rfl, rfl, ⟨[v121], [v122], rfl, ((H.rdAt 0 rfl)).list_rd, ((H.rdAt 1 rfl)).list_rd⟩⟩⟩⟩ e129).mono ?_)
    rintro e w126 ⟨rfl, Hc127⟩
    have H := H.call0 Hc127
    refine ⟨_, rfl, H.sel [5, 11] (by decide), fun a S => ?_⟩
    refine lq (.bool (!x128)) S (q_not rfl) fun a S => ?_
    refine lx_nil (thenN ?_)
    refine cond_b S rfl (fun hc131 => ?_) (fun hc131 => ?_)
    ·have hm := ite_t hc131 hm
     refine wp_seq (region_plain ?_)
     refine lq (.bool false) S (q_assign rfl) fun a S => ?_
     refine lx_nil (thenN ?_)
     refine wp_ret (then_ret ?_)
     obtain rfl := Option.some.inj hm
     have H : Heap w0 [] w126 := H.sel [] (by decide)
     exact leave1 S rfl rfl ⟨rfl, H⟩
    ·have hm := ite_f hc131 hm
     refine wp_skip (thenN ?_)
     refine wp_seq (region_plain ?_)
     refine lq (.int .i64 (1 : Int)) S (q_assign rfl) fun a S => ?_
     refine lx_nil (thenN ?_)
     refine wp_seq (region_plain ?_)
     refine lx_e (.agg #[(.int .i64 x82.1), (.int .i64 x82.2.1), v84, v85]) S trivial (by decide) rfl trivial (q_loadA (cs := [(.int .i64 x82.1), (.int .i64 x82.2.1), v84, v85]) rfl (isP_bp _) Tryz.isAgg31 Tryz.sizeOf31 (by rintro _ rfl; exact (fun j u hu => boxAt (i := 5) H rfl hu))) (fun a S => ?_)
     refine lq (.int .i64 (1 : Int)) S (q_move rfl) fun a S => ?_
     obtain ⟨x134, e135, hm⟩ := bind_some hm
     have H : Heap w0 [oA (rList Rimpl_Edge) v85 x82.2.2.2, oA (rList rStr) v121 x119.2.2.1, oA (rList Rimpl_Edge) v122 x119.2.2.2, bA b102 [(.int .i64 x95.1.1), (.int .i64 x95.1.2.1), v97, v98] 31, oA (rList rStr) v97 x95.1.2.2.1, oA (rList Rimpl_Edge) v98 x95.1.2.2.2, bA b89 [(.int .i64 x82.1), (.int .i64 x82.2.1), v84, v85] 31, oA (rList rStr) v84 x82.2.2.1, bA b76 [(.int .i64 x69.1.1), (.int .i64 x69.1.2.1), v71, v72] 31, oA (rList rStr) v71 x69.1.2.2.1, oA (rList Rimpl_Edge) v72 x69.1.2.2.2, bA b49 [(.int .i64 a0.1), (.int .i64 a0.2.1), v33, v35] 25] w126 := H.front 7 rfl
     have H : Heap w0 [oA (rList rStr) v84 x82.2.2.1, oA (rList Rimpl_Edge) v85 x82.2.2.2, oA (rList rStr) v121 x119.2.2.1, oA (rList Rimpl_Edge) v122 x119.2.2.2, bA b102 [(.int .i64 x95.1.1), (.int .i64 x95.1.2.1), v97, v98] 31, oA (rList rStr) v97 x95.1.2.2.1, oA (rList Rimpl_Edge) v98 x95.1.2.2.2, bA b89 [(.int .i64 x82.1), (.int .i64 x82.2.1), v84, v85] 31, bA b76 [(.int .i64 x69.1.1), (.int .i64 x69.1.2.1), v71, v72] 31, oA (rList rStr) v71 x69.1.2.2.1, oA (rList Rimpl_Edge) v72 x69.1.2.2.2, bA b49 [(.int .i64 a0.1), (.int .i64 a0.2.1), v33, v35] 25] w126 := H.front 7 rfl
     refine lx_call (xs := [.tmp 46, .tmp 47]) S trivial (by decide) rfl rfl Tryz.call13 ((laws_markLts_ok H  e135).mono ?_)
     rintro e w132 ⟨rfl, H⟩
     refine ⟨_, rfl, trivial, fun a S => ?_⟩
     refine lq (.int .i64 x134.1) S (q_assign rfl) fun a S => ?_
     refine lx_nil (thenN ?_)
     refine wp_seq (wp_seq (region_plain ?_))
     refine lq (.int .i64 x134.1) S (q_move rfl) fun a S => ?_
     refine lq (.bool (decide (x134.1 < (0 : Int)))) S (q_lss rfl rfl) fun a S => ?_
     refine lq (.bool (decide (x134.1 < (0 : Int)))) S (q_move rfl) fun a S => ?_
     obtain ⟨t136, e137, hm⟩ := bind_some hm
     refine lx_cut 5 (fun a w => Slots a 96 [(1, (bp b49)), (4, (bp b76)), (5, (.int .i64 x69.2)), (7, (bp b102)), (8, (.int .i64 x95.2)), (56, (.bool t136))] ∧ Heap w0 [bA b102 [(.int .i64 x95.1.1), (.int .i64 x95.1.2.1), v97, v98] 31, oA (rList rStr) v97 x95.1.2.2.1, oA (rList Rimpl_Edge) v98 x95.1.2.2.2, bA b76 [(.int .i64 x69.1.1), (.int .i64 x69.1.2.1), v71, v72] 31, oA (rList rStr) v71 x69.1.2.2.1, oA (rList Rimpl_Edge) v72 x69.1.2.2.2, bA b49 [(.int .i64 a0.1), (.int .i64 a0.2.1), v33, v35] 25] w) ?_ ?_
     ·by_cases hc138 : (decide (x134.1 < (0 : Int))) = true
      ·have hm := ite_t hc138 e137
       refine lx_skip S rfl rfl (isB_ne hc138) (by decide) (fun a S => ?_)
       refine lx_skip S rfl rfl (isB_ne hc138) (by decide) (fun a S => ?_)
       refine lx_skip S rfl rfl (isB_ne hc138) (by decide) (fun a S => ?_)
       refine lx_skip S rfl rfl (isB_ne hc138) (by decide) (fun a S => ?_)
       refine lq (.bool true) S (q_pickT' rfl hc138 rfl) fun a S => ?_
       refine lx_nil ?_
       obtain rfl := Option.some.inj hm
       have H := H.sel [4, 5, 6, 8, 9, 10, 11] (by decide)
       exact ⟨S.sub ⟨rfl, rfl, rfl, rfl, rfl, rfl, trivial⟩, H⟩
      ·have hm := ite_f (eq_false_of_ne_true hc138) e137
       have hc138 : (decide (x134.1 < (0 : Int))) = false := eq_false_of_ne_true hc138
       refine lx_e (.agg #[(.int .i64 x95.1.1), (.int .i64 x95.1.2.1), v97, v98]) S (want_b rfl rfl hc138) (by decide) rfl trivial (q_loadA (cs := [(.int .i64 x95.1.1), (.int .i64 x95.1.2.1), v97, v98]) rfl (isP_bp _) Tryz.isAgg31 Tryz.sizeOf31 (by rintro _ rfl; exact (fun j u hu => boxAt (i := 4) H rfl hu))) (fun a S => ?_)
       refine lx_e (.agg #[(.int .i64 x69.1.1), (.int .i64 x69.1.2.1), v71, v72]) S (want_b rfl rfl hc138) (by decide) rfl trivial (q_loadA (cs := [(.int .i64 x69.1.1), (.int .i64 x69.1.2.1), v71, v72]) rfl (isP_bp _) Tryz.isAgg31 Tryz.sizeOf31 (by rintro _ rfl; exact (fun j u hu => boxAt (i := 8) H rfl hu))) (fun a S => ?_)
       obtain ⟨x141, e142, hm⟩ := bind_some hm
       refine lx_call (xs := [.tmp 52, .tmp 53]) S (want_b rfl rfl hc138) (by decide) rfl rfl Tryz.call10 ((laws_eqLts_ok ⟨[(.int .i64 x95.1.1), (.int .i64 x95.1.2.1), v97, v98], rfl, ⟨[(.int .i64 x95.1.1)], [(.int .i64 x95.1.2.1), v97, v98], rfl, rfl, ⟨[(.int .i64 x95.1.2.1)], [v97, v98], rfl, rfl, ⟨[v97], [v98], rfl, ((H.rdAt 5 rfl)).list_rd, ((H.rdAt 6 rfl)).list_rd⟩⟩⟩⟩ ⟨[(.int .i64 x69.1.1), (.int .i64 x69.1.2.1), v71, v72], rfl, ⟨[(.int .i64 x69.1.1)], [(.int .i64 x69.1.2.1), v71, v72], rfl, rfl, ⟨[(.int .i64 x69.1.2.1)], [v71, v72], rfl, rfl, ⟨[v71], [v72], rfl, ((H.rdAt 9 rfl)).list_rd, ((H.rdAt 10 rfl)).list_rd⟩⟩⟩⟩ e142).mono ?_)
       rintro e w139 ⟨rfl, Hc140⟩
       have H := H.call0 Hc140
       refine ⟨_, rfl, trivial, fun a S => ?_⟩
       refine lx_q (.bool (!x141)) S (want_b rfl rfl hc138) (by decide) (q_not rfl) (fun a S => ?_)
       refine lq (.bool (!x141)) S (q_pickF' rfl hc138 rfl) fun a S => ?_
       refine lx_nil ?_
       obtain rfl := Option.some.inj hm
       have H := H.sel [4, 5, 6, 8, 9, 10, 11] (by decide)
       exact ⟨S.sub ⟨rfl, rfl, rfl, rfl, rfl, rfl, trivial⟩, H⟩
     ·rintro a w ⟨S, H⟩
      refine lq (.bool t136) S (q_move rfl) fun a S => ?_
      obtain ⟨t144, e145, hm⟩ := bind_some hm
      refine lx_cut 4 (fun a w => Slots a 96 [(1, (bp b49)), (4, (bp b76)), (5, (.int .i64 x69.2)), (7, (bp b102)), (61, (.bool t144))] ∧ Heap w0 [bA b102 [(.int .i64 x95.1.1), (.int .i64 x95.1.2.1), v97, v98] 31, oA (rList rStr) v97 x95.1.2.2.1, oA (rList Rimpl_Edge) v98 x95.1.2.2.2, bA b76 [(.int .i64 x69.1.1), (.int .i64 x69.1.2.1), v71, v72] 31, oA (rList rStr) v71 x69.1.2.2.1, oA (rList Rimpl_Edge) v72 x69.1.2.2.2, bA b49 [(.int .i64 a0.1), (.int .i64 a0.2.1), v33, v35] 25] w) ?_ ?_
      ·by_cases hc146 : t136 = true
       ·have hm := ite_t hc146 e145
        refine lx_skip S rfl rfl (isB_ne hc146) (by decide) (fun a S => ?_)
        refine lx_skip S rfl rfl (isB_ne hc146) (by decide) (fun a S => ?_)
        refine lx_skip S rfl rfl (isB_ne hc146) (by decide) (fun a S => ?_)
        refine lq (.bool true) S (q_pickT' rfl hc146 rfl) fun a S => ?_
        refine lx_nil ?_
        obtain rfl := Option.some.inj hm
        exact ⟨S.sub ⟨rfl, rfl, rfl, rfl, rfl, trivial⟩, H⟩
       ·have hm := ite_f (eq_false_of_ne_true hc146) e145
        have hc146 : t136 = false := eq_false_of_ne_true hc146
        refine lx_q (.int .i64 x95.2) S (want_b rfl rfl hc146) (by decide) (q_move rfl) (fun a S => ?_)
        refine lx_q (.int .i64 x69.2) S (want_b rfl rfl hc146) (by decide) (q_move rfl) (fun a S => ?_)
        refine lx_q (.bool (x95.2 != x69.2)) S (want_b rfl rfl hc146) (by decide) (q_neq rfl rfl) (fun a S => ?_)
        refine lq (.bool (x95.2 != x69.2)) S (q_pickF' rfl hc146 rfl) fun a S => ?_
        refine lx_nil ?_
        obtain rfl := Option.some.inj hm
        exact ⟨S.sub ⟨rfl, rfl, rfl, rfl, rfl, trivial⟩, H⟩
      ·rintro a w ⟨S, H⟩
       refine lx_nil (thenN ?_)
       refine cond_b S rfl (fun hc147 => ?_) (fun hc147 => ?_)
       ·have hm := ite_t hc147 hm
        refine wp_seq (region_plain ?_)
        refine lq (.bool false) S (q_assign rfl) fun a S => ?_
        refine lx_nil (thenN ?_)
        refine wp_ret (then_ret ?_)
        obtain rfl := Option.some.inj hm
        have H : Heap w0 [] w := H.sel [] (by decide)
        exact leave1 S rfl rfl ⟨rfl, H⟩
       ·have hm := ite_f hc147 hm
        refine wp_skip (thenN ?_)
        refine wp_seq (region_plain ?_)
        refine lq (.int .i64 (1 : Int)) S (q_assign rfl) fun a S => ?_
        refine lx_nil (thenN ?_)
        refine wp_seq (region_plain ?_)
        refine lx_e (.agg #[(.int .i64 x95.1.1), (.int .i64 x95.1.2.1), v97, v98]) S trivial (by decide) rfl trivial (q_loadA (cs := [(.int .i64 x95.1.1), (.int .i64 x95.1.2.1), v97, v98]) rfl (isP_bp _) Tryz.isAgg31 Tryz.sizeOf31 (by rintro _ rfl; exact (fun j u hu => boxAt (i := 0) H rfl hu))) (fun a S => ?_)
        refine lq (.int .i64 (1 : Int)) S (q_move rfl) fun a S => ?_
        obtain ⟨x150, e151, hm⟩ := bind_some hm
        have H : Heap w0 [oA (rList Rimpl_Edge) v98 x95.1.2.2.2, bA b102 [(.int .i64 x95.1.1), (.int .i64 x95.1.2.1), v97, v98] 31, oA (rList rStr) v97 x95.1.2.2.1, bA b76 [(.int .i64 x69.1.1), (.int .i64 x69.1.2.1), v71, v72] 31, oA (rList rStr) v71 x69.1.2.2.1, oA (rList Rimpl_Edge) v72 x69.1.2.2.2, bA b49 [(.int .i64 a0.1), (.int .i64 a0.2.1), v33, v35] 25] w := H.front 2 rfl
        have H : Heap w0 [oA (rList rStr) v97 x95.1.2.2.1, oA (rList Rimpl_Edge) v98 x95.1.2.2.2, bA b102 [(.int .i64 x95.1.1), (.int .i64 x95.1.2.1), v97, v98] 31, bA b76 [(.int .i64 x69.1.1), (.int .i64 x69.1.2.1), v71, v72] 31, oA (rList rStr) v71 x69.1.2.2.1, oA (rList Rimpl_Edge) v72 x69.1.2.2.2, bA b49 [(.int .i64 a0.1), (.int .i64 a0.2.1), v33, v35] 25] w := H.front 2 rfl
        refine lx_call (xs := [.tmp 62, .tmp 63]) S trivial (by decide) rfl rfl Tryz.call13 ((laws_markLts_ok H  e151).mono ?_)
        rintro e w148 ⟨rfl, H⟩
        refine ⟨_, rfl, trivial, fun a S => ?_⟩
        refine lq (.int .i64 x150.1) S (q_assign rfl) fun a S => ?_
        refine lx_nil (thenN ?_)
        refine wp_seq (region_plain ?_)
        refine lq (.int .i64 (1 : Int)) S (q_assign rfl) fun a S => ?_
        refine lx_nil (thenN ?_)
        refine wp_seq (region_plain ?_)
        refine lx_e (.agg #[(.int .i64 x95.1.1), (.int .i64 x95.1.2.1), v97, v98]) S trivial (by decide) rfl trivial (q_loadA (cs := [(.int .i64 x95.1.1), (.int .i64 x95.1.2.1), v97, v98]) rfl (isP_bp _) Tryz.isAgg31 Tryz.sizeOf31 (by rintro _ rfl; exact (fun j u hu => boxAt (i := 2) H rfl hu))) (fun a S => ?_)
        refine lq (.int .i64 (1 : Int)) S (q_move rfl) fun a S => ?_
        obtain ⟨x154, e155, hm⟩ := bind_some hm
        refine lx_call (xs := [.tmp 65, .tmp 66]) S trivial (by decide) rfl rfl Tryz.call14 ((laws_heldLts_ok (a0 := (x95.1.1, x95.1.2.1, x150.2.1, x150.2.2)) ⟨[(.int .i64 x95.1.1), (.int .i64 x95.1.2.1), v97, v98], rfl, ⟨[(.int .i64 x95.1.1)], [(.int .i64 x95.1.2.1), v97, v98], rfl, rfl, ⟨[(.int .i64 x95.1.2.1)], [v97, v98], rfl, rfl, ⟨[v97], [v98], rfl, ((H.rdAt 0 rfl)).list_rd, ((H.rdAt 1 rfl)).list_rd⟩⟩⟩⟩  e155).mono ?_)
        rintro e w152 ⟨rfl, Hc153⟩
        have H := H.call0 Hc153
        refine ⟨_, rfl, trivial, fun a S => ?_⟩
        refine lq (.int .i64 x154) S (q_assign rfl) fun a S => ?_
        refine lx_nil (thenN ?_)
        refine wp_seq (wp_seq (region_plain ?_))
        refine lq (.int .i64 x154) S (q_move rfl) fun a S => ?_
        refine lq (.bool (decide (x154 < (0 : Int)))) S (q_lss rfl rfl) fun a S => ?_
        refine lx_nil (thenN ?_)
        refine cond_b S rfl (fun hc157 => ?_) (fun hc157 => ?_)
        ·have hm := ite_t hc157 hm
         refine wp_seq (region_plain ?_)
         refine lq (.bool false) S (q_assign rfl) fun a S => ?_
         refine lx_nil (thenN ?_)
         refine wp_ret (then_ret ?_)
         obtain rfl := Option.some.inj hm
         have H : Heap w0 [] w152 := H.sel [] (by decide)
         exact leave1 S rfl rfl ⟨rfl, H⟩
        ·have hm := ite_f hc157 hm
         refine wp_skip (thenN ?_)
         refine wp_seq (wp_seq (region_plain ?_))
         refine lq (.int .i64 x154) S (q_move rfl) fun a S => ?_
         refine lq (.int .i64 x150.1) S (q_move rfl) fun a S => ?_
         refine lq (.bool (x154 != x150.1)) S (q_neq rfl rfl) fun a S => ?_
         refine lx_nil (thenN ?_)
         refine cond_b S rfl (fun hc158 => ?_) (fun hc158 => ?_)
         ·have hm := ite_t hc158 hm
          refine wp_seq (region_plain ?_)
          refine lq (.bool false) S (q_assign rfl) fun a S => ?_
          refine lx_nil (thenN ?_)
          refine wp_ret (then_ret ?_)
          obtain rfl := Option.some.inj hm
          have H : Heap w0 [] w152 := H.sel [] (by decide)
          exact leave1 S rfl rfl ⟨rfl, H⟩
         ·have hm := ite_f hc158 hm
          refine wp_skip (thenN ?_)
          refine wp_seq (region_plain ?_)
          refine lx_e (.agg #[(.int .i64 a0.1), (.int .i64 a0.2.1), v33, v35]) S trivial (by decide) rfl trivial (q_loadA (cs := [(.int .i64 a0.1), (.int .i64 a0.2.1), v33, v35]) rfl (isP_bp _) Tryz.isAgg25 Tryz.sizeOf25 (by rintro _ rfl; exact (fun j u hu => boxAt (i := 6) H rfl hu))) (fun a S => ?_)
          obtain ⟨x161, e162, hm⟩ := bind_some hm
          refine lx_call (xs := [.tmp 74]) S trivial (by decide) rfl rfl Tryz.call8 ((laws_toLts_ok ⟨[(.int .i64 a0.1), (.int .i64 a0.2.1), v33, v35], rfl, ⟨[(.int .i64 a0.1)], [(.int .i64 a0.2.1), v33, v35], rfl, rfl, ⟨[(.int .i64 a0.2.1)], [v33, v35], rfl, rfl, ⟨[v33], [v35], rfl, ((H.arg h34)).list_rd, ((H.arg h36)).list_rd⟩⟩⟩⟩ e162).mono ?_)
          rintro e w159 ⟨v163, v164, rfl, Hc160⟩
          have H := H.call2 Hc160
          refine ⟨_, rfl, trivial, fun a S => ?_⟩
          obtain ⟨x170, e171, hm⟩ := bind_some hm
          refine lx_call (xs := [.tmp 75]) S trivial (by decide) rfl rfl Tryz.call12 ((impl_UsedLabels_ok (hG.ext H.ext) ⟨[(.int .i64 x161.1), (.int .i64 x161.2.1), v163, v164], rfl, ⟨[(.int .i64 x161.1)], [(.int .i64 x161.2.1), v163, v164], rfl, rfl, ⟨[(.int .i64 x161.2.1)], [v163, v164], rfl, rfl, ⟨[v163], [v164], rfl, ((H.rdAt 0 rfl)).list_rd, ((H.rdAt 1 rfl)).list_rd⟩⟩⟩⟩ e171).mono ?_)
          rintro e w168 ⟨v172, v173, rfl, Hc169⟩
          have H := H.call2 Hc169
          refine ⟨_, rfl, trivial, fun a S => ?_⟩
          refine lq (.tuple #[(.agg #[(.int .i64 x170.1.1), (.int .i64 x170.1.2.1), v172, v173]), (.int .i64 x170.2)]) S (q_move rfl) fun a S => ?_
          refine lq (.agg #[(.int .i64 x170.1.1), (.int .i64 x170.1.2.1), v172, v173]) S (q_extract rfl rfl) fun a S => ?_
          refine lq (.int .i64 x170.2) S (q_extract rfl rfl) fun a S => ?_
          refine lx_alloc S trivial (by decide) rfl H Tryz.zeroValue31 rfl (fun b177 w178 H => ⟨trivial, fun a S => ?_⟩)
          refine lx_storeBox (o := 0) (i := 0) (us := [(.int .i64 x170.1.1), (.int .i64 x170.1.2.1), v172, v173]) (cs' := [(.int .i64 x170.1.1), (.int .i64 x170.1.2.1), v172, v173]) S trivial rfl H rfl rfl rfl rfl Tryz.sizeOf31 (Nat.le_of_ble_eq_true rfl) (List.forall_mem_cons.2 ⟨rfl, (List.forall_mem_cons.2 ⟨rfl, (List.forall_mem_cons.2 ⟨one_sl (H.isSl 1 rfl), (List.forall_mem_cons.2 ⟨one_sl (H.isSl 2 rfl), (List.forall_mem_nil _)⟩)⟩)⟩)⟩) rfl (fun w180 H => ⟨trivial, fun a S => ?_⟩)
          change Heap w0 [bA b177 [(.int .i64 x170.1.1), (.int .i64 x170.1.2.1), v172, v173] 31, oA (rList rStr) v172 x170.1.2.2.1, oA (rList Rimpl_Edge) v173 x170.1.2.2.2, oA (rList rStr) v163 x161.2.2.1, oA (rList Rimpl_Edge) v164 x161.2.2.2, oA (rList rStr) v97 x150.2.1, oA (rList Rimpl_Edge) v98 x150.2.2, bA b102 [(.int .i64 x95.1.1), (.int .i64 x95.1.2.1), v97, v98] 31, bA b76 [(.int .i64 x69.1.1), (.int .i64 x69.1.2.1), v71, v72] 31, oA (rList rStr) v71 x69.1.2.2.1, oA (rList Rimpl_Edge) v72 x69.1.2.2.2, bA b49 [(.int .i64 a0.1), (.int .i64 a0.2.1), v33, v35] 25] w180 at H
          refine lq (.int .i64 x170.2) S (q_assign rfl) fun a S => ?_
          refine lx_nil (thenN ?_)
          refine wp_seq (wp_seq (region_plain ?_))
          refine lx_e (.agg #[(.int .i64 x170.1.1), (.int .i64 x170.1.2.1), v172, v173]) S trivial (by decide) rfl trivial (q_loadA (cs := [(.int .i64 x170.1.1), (.int .i64 x170.1.2.1), v172, v173]) rfl (isP_bp _) Tryz.isAgg31 Tryz.sizeOf31 (by rintro _ rfl; exact (fun j u hu => boxAt (i := 0) H rfl hu))) (fun a S => ?_)
          refine lx_e (.agg #[(.int .i64 x69.1.1), (.int .i64 x69.1.2.1), v71, v72]) S trivial (by decide) rfl trivial (q_loadA (cs := [(.int .i64 x69.1.1), (.int .i64 x69.1.2.1), v71, v72]) rfl (isP_bp _) Tryz.isAgg31 Tryz.sizeOf31 (by rintro _ rfl; exact (fun j u hu => boxAt (i := 8) H rfl hu))) (fun a S => ?_)
          obtain ⟨x183, e184, hm⟩ := bind_some hm
          refine lx_call (xs := [.tmp 79, .tmp 80]) S trivial (by decide) rfl rfl Tryz.call10 ((laws_eqLts_ok ⟨[(.int .i64 x170.1.1), (.int .i64 x170.1.2.1), v172, v173], rfl, ⟨[(.int .i64 x170.1.1)], [(.int .i64 x170.1.2.1), v172, v173], rfl, rfl, ⟨[(.int .i64 x170.1.2.1)], [v172, v173], rfl, rfl, ⟨[v172], [v173], rfl, ((H.rdAt 1 rfl)).list_rd, ((H.rdAt 2 rfl)).list_rd⟩⟩⟩⟩ ⟨[(.int .i64 x69.1.1), (.int .i64 x69.1.2.1), v71, v72], rfl, ⟨[(.int .i64 x69.1.1)], [(.int .i64 x69.1.2.1), v71, v72], rfl, rfl, ⟨[(.int .i64 x69.1.2.1)], [v71, v72], rfl, rfl, ⟨[v71], [v72], rfl, ((H.rdAt 9 rfl)).list_rd, ((H.rdAt 10 rfl)).list_rd⟩⟩⟩⟩ e184).mono ?_)
          rintro e w181 ⟨rfl, Hc182⟩
          have H := H.call0 Hc182
          refine ⟨_, rfl, trivial, fun a S => ?_⟩
          refine lq (.bool (!x183)) S (q_not rfl) fun a S => ?_
          refine lq (.bool (!x183)) S (q_move rfl) fun a S => ?_
          obtain ⟨t186, e187, hm⟩ := bind_some hm
          refine lx_cut 4 (fun a w => Slots a 96 [(7, (bp b102)), (10, (.int .i64 x150.1)), (87, (.bool t186))] ∧ Heap w0 [oA (rList rStr) v97 x150.2.1, oA (rList Rimpl_Edge) v98 x150.2.2, bA b102 [(.int .i64 x95.1.1), (.int .i64 x95.1.2.1), v97, v98] 31] w) ?_ ?_
          ·by_cases hc188 : (!x183) = true
           ·have hm := ite_t hc188 e187
            refine lx_skip S rfl rfl (isB_ne hc188) (by decide) (fun a S => ?_)
            refine lx_skip S rfl rfl (isB_ne hc188) (by decide) (fun a S => ?_)
            refine lx_skip S rfl rfl (isB_ne hc188) (by decide) (fun a S => ?_)
            refine lq (.bool true) S (q_pickT' rfl hc188 rfl) fun a S => ?_
            refine lx_nil ?_
            obtain rfl := Option.some.inj hm
            have H := H.sel [5, 6, 7] (by decide)
            exact ⟨S.sub ⟨rfl, rfl, rfl, trivial⟩, H⟩
           ·have hm := ite_f (eq_false_of_ne_true hc188) e187
            have hc188 : (!x183) = false := eq_false_of_ne_true hc188
            refine lx_q (.int .i64 x170.2) S (want_b rfl rfl hc188) (by decide) (q_move rfl) (fun a S => ?_)
            refine lx_q (.int .i64 x69.2) S (want_b rfl rfl hc188) (by decide) (q_move rfl) (fun a S => ?_)
            refine lx_q (.bool (x170.2 != x69.2)) S (want_b rfl rfl hc188) (by decide) (q_neq rfl rfl) (fun a S => ?_)
            refine lq (.bool (x170.2 != x69.2)) S (q_pickF' rfl hc188 rfl) fun a S => ?_
            refine lx_nil ?_
            obtain rfl := Option.some.inj hm
            have H := H.sel [5, 6, 7] (by decide)
            exact ⟨S.sub ⟨rfl, rfl, rfl, trivial⟩, H⟩
          ·rintro a w ⟨S, H⟩
           refine lx_nil (thenN ?_)
           refine cond_b S rfl (fun hc189 => ?_) (fun hc189 => ?_)
           ·have hm := ite_t hc189 hm
            refine wp_seq (region_plain ?_)
            refine lq (.bool false) S (q_assign rfl) fun a S => ?_
            refine lx_nil (thenN ?_)
            refine wp_ret (then_ret ?_)
            obtain rfl := Option.some.inj hm
            have H : Heap w0 [] w := H.sel [] (by decide)
            exact leave1 S rfl rfl ⟨rfl, H⟩
           ·have hm := ite_f hc189 hm
            refine wp_skip (thenN ?_)
            refine wp_seq (region_plain ?_)
            refine lq (.int .i64 (1 : Int)) S (q_assign rfl) fun a S => ?_
            refine lx_nil (thenN ?_)
            refine wp_seq (region_plain ?_)
            refine lx_e (.agg #[(.int .i64 x95.1.1), (.int .i64 x95.1.2.1), v97, v98]) S trivial (by decide) rfl trivial (q_loadA (cs := [(.int .i64 x95.1.1), (.int .i64 x95.1.2.1), v97, v98]) rfl (isP_bp _) Tryz.isAgg31 Tryz.sizeOf31 (by rintro _ rfl; exact (fun j u hu => boxAt (i := 2) H rfl hu))) (fun a S => ?_)
            refine lq (.int .i64 (1 : Int)) S (q_move rfl) fun a S => ?_
            obtain ⟨x192, e193, hm⟩ := bind_some hm
            refine lx_call (xs := [.tmp 88, .tmp 89]) S trivial (by decide) rfl rfl Tryz.call14 ((laws_heldLts_ok (a0 := (x95.1.1, x95.1.2.1, x150.2.1, x150.2.2)) ⟨[(.int .i64 x95.1.1), (.int .i64 x95.1.2.1), v97, v98], rfl, ⟨[(.int .i64 x95.1.1)], [(.int .i64 x95.1.2.1), v97, v98], rfl, rfl, ⟨[(.int .i64 x95.1.2.1)], [v97, v98], rfl, rfl, ⟨[v97], [v98], rfl, ((H.rdAt 0 rfl)).list_rd, ((H.rdAt 1 rfl)).list_rd⟩⟩⟩⟩  e193).mono ?_)
            rintro e w190 ⟨rfl, Hc191⟩
            have H := H.call0 Hc191
            refine ⟨_, rfl, trivial, fun a S => ?_⟩
            refine lq (.int .i64 x192) S (q_assign rfl) fun a S => ?_
            refine lx_nil (thenN ?_)
            refine wp_seq (wp_seq (region_plain ?_))
            refine lq (.int .i64 x192) S (q_move rfl) fun a S => ?_
            refine lq (.bool (decide (x192 < (0 : Int)))) S (q_lss rfl rfl) fun a S => ?_
            refine lx_nil (thenN ?_)
            refine cond_b S rfl (fun hc195 => ?_) (fun hc195 => ?_)
            ·have hm := ite_t hc195 hm
             refine wp_seq (region_plain ?_)
             refine lq (.bool false) S (q_assign rfl) fun a S => ?_
             refine lx_nil (thenN ?_)
             refine wp_ret (then_ret ?_)
             obtain rfl := Option.some.inj hm
             have H : Heap w0 [] w190 := H.sel [] (by decide)
             exact leave1 S rfl rfl ⟨rfl, H⟩
            ·have hm := ite_f hc195 hm
             refine wp_skip (thenN ?_)
             refine wp_seq (wp_seq (region_plain ?_))
             refine lq (.int .i64 x192) S (q_move rfl) fun a S => ?_
             refine lq (.int .i64 x150.1) S (q_move rfl) fun a S => ?_
             refine lq (.bool (x192 != x150.1)) S (q_neq rfl rfl) fun a S => ?_
             refine lx_nil (thenN ?_)
             refine cond_b S rfl (fun hc196 => ?_) (fun hc196 => ?_)
             ·have hm := ite_t hc196 hm
              refine wp_seq (region_plain ?_)
              refine lq (.bool false) S (q_assign rfl) fun a S => ?_
              refine lx_nil (thenN ?_)
              refine wp_ret (then_ret ?_)
              obtain rfl := Option.some.inj hm
              have H : Heap w0 [] w190 := H.sel [] (by decide)
              exact leave1 S rfl rfl ⟨rfl, H⟩
             ·have hm := ite_f hc196 hm
              refine wp_skip (thenN ?_)
              refine wp_seq (region_plain ?_)
              refine lq (.bool true) S (q_assign rfl) fun a S => ?_
              refine lx_nil (thenN ?_)
              refine wp_ret ?_
              obtain rfl := Option.some.inj hm
              have H : Heap w0 [] w190 := H.sel [] (by decide)
              exact leave1 S rfl rfl ⟨rfl, H⟩
end Go.Proofs.YtldmecdkdoipdaaGreatDoor
