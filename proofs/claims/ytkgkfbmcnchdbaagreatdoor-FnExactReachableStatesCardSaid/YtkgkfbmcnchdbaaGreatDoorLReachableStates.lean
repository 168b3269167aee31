/- The model of a statement and its walk (printed by a program of this repo). -/
import Derived.Test.YtkgkfbmcnchdbaaGreatDoorF0
import Derived.Test.YtkgkfbmcnchdbaaGreatDoorF1
import Derived.Test.YtkgkfbmcnchdbaaGreatDoorF12
import Derived.Test.YtkgkfbmcnchdbaaGreatDoorF2
import Derived.Test.YtkgkfbmcnchdbaaGreatDoorF3
import Derived.Test.YtkgkfbmcnchdbaaGreatDoorF4
import Derived.Test.YtkgkfbmcnchdbaaGreatDoorF5
import Derived.Test.YtkgkfbmcnchdbaaGreatDoorGxT
import Derived.Test.YtkgkfbmcnchdbaaGreatDoorGxY
namespace Go.Proofs.YtkgkfbmcnchdbaaGreatDoor
open Go.RowKit Go.Gx

/-- spec.ReachableStates -/
def spec_ReachableStates_m (fuel : Nat) (a0 : Timpl_Lts) : Option (((List Int) × Int)) :=
  (spec_l11Is_m fuel (a0.1, a0.2.1, a0.2.2.1, a0.2.2.2)).bind fun x54 => (if (!x54) = true then some (([], (1 : Int))) else (spec_l11Reach_m fuel (a0.1, a0.2.1, a0.2.2.1, a0.2.2.2)).bind fun x61 => some ((x61, (0 : Int))))
set_option maxRecDepth 20000 in
theorem spec_ReachableStates_ok {w0 : World} {fuel : Nat} {p0 : Value} {a0 : Timpl_Lts} {r : ((List Int) × Int)} (h0 : Rd Rimpl_Lts w0 p0 a0) (hm : spec_ReachableStates_m fuel a0 = some r) :
  Calls Tryz.prog 49 #[p0] w0 fun e w => ∃ (v0 : Value), e = .returned (.tuple #[v0, .int .i64 r.2]) ∧ Heap w0 [oA (rList (rInt .i64)) v0 r.1] w := by
 unfold spec_ReachableStates_m at hm
 have H := Heap.start w0
 obtain ⟨c31, rfl, h32⟩ := h0
 obtain ⟨c37, c38, rfl, h39, h40⟩ := h32
 obtain rfl := h39
 obtain ⟨c41, c42, rfl, h43, h44⟩ := h40
 obtain rfl := h43
 obtain ⟨c45, c46, rfl, h47, h48⟩ := h44
 obtain ⟨v33, rfl, h34⟩ := rd_list h47
 obtain ⟨v35, rfl, h36⟩ := rd_list h48
 refine enter (args := [(.agg #[(.int .i64 a0.1), (.int .i64 a0.2.1), v33, v35])]) Tryz.func49 rfl 7 rfl (Nat.le_of_ble_eq_true rfl) (fun a S => ?_)
 refine wp_seq (region_plain ?_)
 refine lx_box S trivial (by decide) rfl H rfl rfl (fun b49 w50 H => ⟨trivial, fun a S => ?_⟩)
 refine lq (.slice none 0 0) S (q_assign rfl) fun a S => ?_
 refine lq (.int .i64 (0 : Int)) S (q_assign rfl) fun a S => ?_
 refine lx_nil (thenN ?_)
 refine wp_seq (wp_seq (region_plain ?_))
 obtain ⟨x54, e55, hm⟩ := bind_some hm
 refine lx_call (xs := [.tmp 1]) S trivial (by decide) rfl rfl Tryz.call70 ((spec_l11Is_ok (rdPtr_box H 0 rfl ⟨[(.int .i64 a0.1)], [(.int .i64 a0.2.1), v33, v35], rfl, rfl, ⟨[(.int .i64 a0.2.1)], [v33, v35], rfl, rfl, ⟨[v33], [v35], rfl, ((H.arg h34)).list_rd, ((H.arg h36)).list_rd⟩⟩⟩) e55).mono ?_)
 rintro e w52 ⟨rfl, Hc53⟩
 have H := H.call0 Hc53
 refine ⟨_, rfl, trivial, fun a S => ?_⟩
 refine lq (.bool (!x54)) S (q_not rfl) fun a S => ?_
 refine lx_nil (thenN ?_)
 refine cond_b S rfl (fun hc57 => ?_) (fun hc57 => ?_)
 ·have hm := ite_t hc57 hm
  refine wp_seq (region_plain ?_)
  refine lq (.slice none 0 0) S (q_assign rfl) fun a S => ?_
  refine lq (.int .i64 (1 : Int)) S (q_assign rfl) fun a S => ?_
  refine lx_nil (thenN ?_)
  refine wp_ret (then_ret ?_)
  obtain rfl := Option.some.inj hm
  have H : Heap w0 [oA (rList (rInt .i64)) (.slice none 0 0) ([] : List Int), bA b49 [(.int .i64 a0.1), (.int .i64 a0.2.1), v33, v35] 30] w52 := H.nilList (rInt .i64)
  have H : Heap w0 [oA (rList (rInt .i64)) (.slice none 0 0) ([] : List Int)] w52 := H.sel [0] (by decide)
  exact leave2 S rfl rfl rfl ⟨(.slice none 0 0), rfl, H⟩
 ·have hm := ite_f hc57 hm
  refine wp_skip (thenN ?_)
  refine wp_seq (region_plain ?_)
  obtain ⟨x61, e62, hm⟩ := bind_some hm
  refine lx_call (xs := [.tmp 1]) S trivial (by decide) rfl rfl Tryz.call98 ((spec_l11Reach_ok (rdPtr_box H 0 rfl ⟨[(.int .i64 a0.1)], [(.int .i64 a0.2.1), v33, v35], rfl, rfl, ⟨[(.int .i64 a0.2.1)], [v33, v35], rfl, rfl, ⟨[v33], [v35], rfl, ((H.arg h34)).list_rd, ((H.arg h36)).list_rd⟩⟩⟩) e62).mono ?_)
  rintro e w59 ⟨v63, rfl, Hc60⟩
  have H := H.call1 Hc60
  refine ⟨_, rfl, trivial, fun a S => ?_⟩
  refine lq v63 S (q_assign rfl) fun a S => ?_
  refine lq (.int .i64 (0 : Int)) S (q_assign rfl) fun a S => ?_
  refine lx_nil (thenN ?_)
  refine wp_ret ?_
  obtain rfl := Option.some.inj hm
  have H : Heap w0 [oA (rList (rInt .i64)) v63 x61] w59 := H.sel [0] (by decide)
  exact leave2 S rfl rfl rfl ⟨v63, rfl, H⟩

/-- impl.ReachableStates -/
def impl_ReachableStates_m (fuel : Nat) (a0 : Timpl_Lts) : Option (((List Int) × Int)) :=
  (impl_ValidLts_m fuel (a0.1, a0.2.1, a0.2.2.1, a0.2.2.2)).bind fun x54 => (if (!x54) = true then some (([], (1 : Int))) else (impl_Lts_reachable_m fuel (a0.1, a0.2.1, a0.2.2.1, a0.2.2.2)).bind fun x61 => some ((x61, (0 : Int))))
set_option maxRecDepth 20000 in
theorem impl_ReachableStates_ok {w0 : World} {fuel : Nat} {p0 : Value} {a0 : Timpl_Lts} {r : ((List Int) × Int)} (hG : Glob Tryz.prog w0) (h0 : Rd Rimpl_Lts w0 p0 a0) (hm : impl_ReachableStates_m fuel a0 = some r) :
  Calls Tryz.prog 50 #[p0] w0 fun e w => ∃ (v0 : Value), e = .returned (.tuple #[v0, .int .i64 r.2]) ∧ Heap w0 [oA (rList (rInt .i64)) v0 r.1] w := by
 unfold impl_ReachableStates_m at hm
 have H := Heap.start w0
 obtain ⟨c31, rfl, h32⟩ := h0
 obtain ⟨c37, c38, rfl, h39, h40⟩ := h32
 obtain rfl := h39
 obtain ⟨c41, c42, rfl, h43, h44⟩ := h40
 obtain rfl := h43
 obtain ⟨c45, c46, rfl, h47, h48⟩ := h44
 obtain ⟨v33, rfl, h34⟩ := rd_list h47
 obtain ⟨v35, rfl, h36⟩ := rd_list h48
 refine enter (args := [(.agg #[(.int .i64 a0.1), (.int .i64 a0.2.1), v33, v35])]) Tryz.func50 rfl 9 rfl (Nat.le_of_ble_eq_true rfl) (fun a S => ?_)
 refine wp_seq (region_plain ?_)
 refine lx_box S trivial (by decide) rfl H rfl rfl (fun b49 w50 H => ⟨trivial, fun a S => ?_⟩)
 refine lq (.slice none 0 0) S (q_assign rfl) fun a S => ?_
 refine lq (.int .i64 (0 : Int)) S (q_assign rfl) fun a S => ?_
 refine lx_nil (thenN ?_)
 refine wp_seq (wp_seq (region_plain ?_))
 refine lx_e (.agg #[(.int .i64 a0.1), (.int .i64 a0.2.1), v33, v35]) S trivial (by decide) rfl trivial (q_loadA (cs := [(.int .i64 a0.1), (.int .i64 a0.2.1), v33, v35]) rfl (isP_bp _) Tryz.isAgg30 Tryz.sizeOf30 (by rintro _ rfl; exact (fun j u hu => boxAt (i := 0) H rfl hu))) (fun a S => ?_)
 obtain ⟨x54, e55, hm⟩ := bind_some hm
 refine lx_call (xs := [.tmp 4]) S trivial (by decide) rfl rfl Tryz.call22 ((impl_ValidLts_ok (hG.ext H.ext) ⟨[(.int .i64 a0.1), (.int .i64 a0.2.1), v33, v35], rfl, ⟨[(.int .i64 a0.1)], [(.int .i64 a0.2.1), v33, v35], rfl, rfl, ⟨[(.int .i64 a0.2.1)], [v33, v35], rfl, rfl, ⟨[v33], [v35], rfl, ((H.arg h34)).list_rd, ((H.arg h36)).list_rd⟩⟩⟩⟩ e55).mono ?_)
 rintro e w52 ⟨rfl, Hc53⟩
 have H := H.call0 Hc53
 refine ⟨_, rfl, trivial, fun a S => ?_⟩
 refine lq (.bool (!x54)) S (q_not rfl) fun a S => ?_
 refine lx_nil (thenN ?_)
 refine cond_b S rfl (fun hc57 => ?_) (fun hc57 => ?_)
 ·have hm := ite_t hc57 hm
  refine wp_seq (region_plain ?_)
  refine lq (.slice none 0 0) S (q_assign rfl) fun a S => ?_
  refine lq (.int .i64 (1 : Int)) S (q_assign rfl) fun a S => ?_
  refine lx_nil (thenN ?_)
  refine wp_ret (then_ret ?_)
  obtain rfl := Option.some.inj hm
  have H : Heap w0 [oA (rList (rInt .i64)) (.slice none 0 0) ([] : List Int), bA b49 [(.int .i64 a0.1), (.int .i64 a0.2.1), v33, v35] 30] w52 := H.nilList (rInt .i64)
  have H : Heap w0 [oA (rList (rInt .i64)) (.slice none 0 0) ([] : List Int)] w52 := H.sel [0] (by decide)
  exact leave2 S rfl rfl rfl ⟨(.slice none 0 0), rfl, H⟩
 ·have hm := ite_f hc57 hm
  refine wp_skip (thenN ?_)
  refine wp_seq (region_plain ?_)
  refine lx_e (.agg #[(.int .i64 a0.1), (.int .i64 a0.2.1), v33, v35]) S trivial (by decide) rfl trivial (q_loadA (cs := [(.int .i64 a0.1), (.int .i64 a0.2.1), v33, v35]) rfl (isP_bp _) Tryz.isAgg30 Tryz.sizeOf30 (by rintro _ rfl; exact (fun j u hu => boxAt (i := 0) H rfl hu))) (fun a S => ?_)
  obtain ⟨x61, e62, hm⟩ := bind_some hm
  refine lx_call (xs := [.tmp 7]) S trivial (by decide) rfl rfl Tryz.call99 ((impl_Lts_reachable_ok ⟨[(.int .i64 a0.1), (.int .i64 a0.2.1), v33, v35], rfl, ⟨[(.int .i64 a0.1)], [(.int .i64 a0.2.1), v33, v35], rfl, rfl, ⟨[(.int .i64 a0.2.1)], [v33, v35], rfl, rfl, ⟨[v33], [v35], rfl, ((H.arg h34)).list_rd, ((H.arg h36)).list_rd⟩⟩⟩⟩ e62).mono ?_)
  rintro e w59 ⟨v63, rfl, Hc60⟩
  have H := H.call1 Hc60
  refine ⟨_, rfl, trivial, fun a S => ?_⟩
  refine lq v63 S (q_assign rfl) fun a S => ?_
  refine lq (.int .i64 (0 : Int)) S (q_assign rfl) fun a S => ?_
  refine lx_nil (thenN ?_)
  refine wp_ret ?_
  obtain rfl := Option.some.inj hm
  have H : Heap w0 [oA (rList (rInt .i64)) v63 x61] w59 := H.sel [0] (by decide)
  exact leave2 S rfl rfl rfl ⟨v63, rfl, H⟩

/-- laws.FnExactReachableStates -/
def laws_FnExactReachableStates_m (fuel : Nat) (a0 : Tlaws_Lts) : Option (Bool) :=
  (laws_szLts_m fuel (a0.1, a0.2.1, a0.2.2.1, a0.2.2.2) (1048576 : Int)).bind fun x54 => (if (decide (x54 < (0 : Int))) = true then some (true) else (laws_toLts_m fuel (a0.1, a0.2.1, a0.2.2.1, a0.2.2.2)).bind fun x60 => (spec_ReachableStates_m fuel (x60.1, x60.2.1, x60.2.2.1, x60.2.2.2)).bind fun x69 => (laws_toLts_m fuel (a0.1, a0.2.1, a0.2.2.1, a0.2.2.2)).bind fun x76 => (impl_ReachableStates_m fuel (x76.1, x76.2.1, x76.2.2.1, x76.2.2.2)).bind fun x89 => (laws_eqInt64S_m fuel x89.1 x69.1).bind fun x96 => (if (!x96) = true then some true else some (x89.2 != x69.2)).bind fun t99 => (if t99 = true then some (false) else (laws_toLts_m fuel (a0.1, a0.2.1, a0.2.2.1, a0.2.2.2)).bind fun x107 => (laws_eqLts_m fuel (x76.1, x76.2.1, x76.2.2.1, x76.2.2.2) (x107.1, x107.2.1, x107.2.2.1, x107.2.2.2)).bind fun x116 => (if (!x116) = true then some (false) else (laws_markLts_m fuel (x76.1, x76.2.1, x76.2.2.1, x76.2.2.2) (1 : Int)).bind fun x122 => (if (decide (x122.1 < (0 : Int))) = true then some true else (laws_eqInt64S_m fuel x89.1 x69.1).bind fun x129 => some (!x129)).bind fun t124 => (if t124 = true then some true else some (x89.2 != x69.2)).bind fun t132 => (if t132 = true then some (false) else (laws_markInt64S_m fuel x89.1 (1 : Int)).bind fun x138 => (laws_heldInt64S_m fuel x138.2 (1 : Int)).bind fun x142 => (if (decide (x142 < (0 : Int))) = true then some (false) else (if (x142 != x138.1) = true then some (false) else (laws_toLts_m fuel (a0.1, a0.2.1, a0.2.2.1, a0.2.2.2)).bind fun x149 => (impl_ReachableStates_m fuel (x149.1, x149.2.1, x149.2.2.1, x149.2.2.2)).bind fun x158 => (laws_eqInt64S_m fuel x158.1 x69.1).bind fun x165 => (if (!x165) = true then some true else some (x158.2 != x69.2)).bind fun t168 => (if t168 = true then some (false) else (laws_heldInt64S_m fuel x138.2 (1 : Int)).bind fun x174 => (if (decide (x174 < (0 : Int))) = true then some (false) else (if (x174 != x138.1) = true then some (false) else some (true))))))))))
set_option maxRecDepth 20000 in
theorem laws_FnExactReachableStates_ok {w0 : World} {fuel : Nat} {p0 : Value} {a0 : Tlaws_Lts} {r : Bool} (hG : Glob Tryz.prog w0) (h0 : Rd Rlaws_Lts w0 p0 a0) (hm : laws_FnExactReachableStates_m fuel a0 = some r) :
  Calls Tryz.prog 11 #[p0] w0 fun e w => e = .returned (.bool r) ∧ Heap w0 [] w := by
 unfold laws_FnExactReachableStates_m at hm
 have H := Heap.start w0
 obtain ⟨c31, rfl, h32⟩ := h0
 obtain ⟨c37, c38, rfl, h39, h40⟩ := h32
 obtain rfl := h39
 obtain ⟨c41, c42, rfl, h43, h44⟩ := h40
 obtain rfl := h43
 obtain ⟨c45, c46, rfl, h47, h48⟩ := h44
 obtain ⟨v33, rfl, h34⟩ := rd_list h47
 obtain ⟨v35, rfl, h36⟩ := rd_list h48
 refine enter (args := [(.agg #[(.int .i64 a0.1), (.int .i64 a0.2.1), v33, v35])]) Tryz.func11 rfl 96 rfl (Nat.le_of_ble_eq_true rfl) (fun a S => ?_)
 refine wp_seq (region_plain ?_)
 refine lx_box S trivial (by decide) rfl H rfl rfl (fun b49 w50 H => ⟨trivial, fun a S => ?_⟩)
 refine lq (.bool false) S (q_assign rfl) fun a S => ?_
 refine lx_nil (thenN ?_)
 refine wp_seq (region_plain ?_)
 refine lq (.int .i64 (1048576 : Int)) S (q_assign rfl) fun a S => ?_
 refine lx_nil (thenN ?_)
 refine wp_seq (region_plain ?_)
 refine lx_e (.agg #[(.int .i64 a0.1), (.int .i64 a0.2.1), v33, v35]) S trivial (by decide) rfl trivial (q_loadA (cs := [(.int .i64 a0.1), (.int .i64 a0.2.1), v33, v35]) rfl (isP_bp _) Tryz.isAgg25 Tryz.sizeOf25 (by rintro _ rfl; exact (fun j u hu => boxAt (i := 0) H rfl hu))) (fun a S => ?_)
 refine lq (.int .i64 (1048576 : Int)) S (q_move rfl) fun a S => ?_
 obtain ⟨x54, e55, hm⟩ := bind_some hm
 refine lx_call (xs := [.tmp 14, .tmp 15]) S trivial (by decide) rfl rfl Tryz.call19 ((laws_szLts_ok ⟨[(.int .i64 a0.1), (.int .i64 a0.2.1), v33, v35], rfl, ⟨[(.int .i64 a0.1)], [(.int .i64 a0.2.1), v33, v35], rfl, rfl, ⟨[(.int .i64 a0.2.1)], [v33, v35], rfl, rfl, ⟨[v33], [v35], rfl, ((H.arg h34)).list_rd, ((H.arg h36)).list_rd⟩⟩⟩⟩  e55).mono ?_)
 rintro e w52 ⟨rfl, Hc53⟩
 have H := H.call0 Hc53
 refine ⟨_, rfl, trivial, fun a S => ?_⟩
 refine lq (.int .i64 x54) S (q_assign rfl) fun a S => ?_
 refine lx_nil (thenN ?_)
 refine wp_seq (wp_seq (region_plain ?_))
 refine lq (.int .i64 x54) S (q_move rfl) fun a S => ?_
 refine lq (.bool (decide (x54 < (0 : Int)))) S (q_lss rfl rfl) fun a S => ?_
 refine lx_nil (thenN ?_)
 refine cond_b S rfl (fun hc57 => ?_) (fun hc57 => ?_)
 ·have hm := ite_t hc57 hm
  refine wp_seq (region_plain ?_)
  refine lq (.bool true) S (q_assign rfl) fun a S => ?_
  refine lx_nil (thenN ?_)
  refine wp_ret (then_ret ?_)
  obtain rfl := Option.some.inj hm
  have H : Heap w0 [] w52 := H.sel [] (by decide)
  exact leave1 S rfl rfl ⟨rfl, H⟩
 ·have hm := ite_f hc57 hm
  refine wp_skip (thenN ?_)
  refine wp_seq (region_plain ?_)
  refine lx_e (.agg #[(.int .i64 a0.1), (.int .i64 a0.2.1), v33, v35]) S trivial (by decide) rfl trivial (q_loadA (cs := [(.int .i64 a0.1), (.int .i64 a0.2.1), v33, v35]) rfl (isP_bp _) Tryz.isAgg25 Tryz.sizeOf25 (by rintro _ rfl; exact (fun j u hu => boxAt (i := 0) H rfl hu))) (fun a S => ?_)
  obtain ⟨x60, e61, hm⟩ := bind_some hm
  refine lx_call (xs := [.tmp 20]) S trivial (by decide) rfl rfl Tryz.call21 ((laws_toLts_ok ⟨[(.int .i64 a0.1), (.int .i64 a0.2.1), v33, v35], rfl, ⟨[(.int .i64 a0.1)], [(.int .i64 a0.2.1), v33, v35], rfl, rfl, ⟨[(.int .i64 a0.2.1)], [v33, v35], rfl, rfl, ⟨[v33], [v35], rfl, ((H.arg h34)).list_rd, ((H.arg h36)).list_rd⟩⟩⟩⟩ e61).mono ?_)
  rintro e w58 ⟨v62, v63, rfl, Hc59⟩
  have H := H.call2 Hc59
  refine ⟨_, rfl, trivial, fun a S => ?_⟩
  obtain ⟨x69, e70, hm⟩ := bind_some hm
  refine lx_call (xs := [.tmp 21]) S trivial (by decide) rfl rfl Tryz.call49 ((spec_ReachableStates_ok ⟨[(.int .i64 x60.1), (.int .i64 x60.2.1), v62, v63], rfl, ⟨[(.int .i64 x60.1)], [(.int .i64 x60.2.1), v62, v63], rfl, rfl, ⟨[(.int .i64 x60.2.1)], [v62, v63], rfl, rfl, ⟨[v62], [v63], rfl, ((H.rdAt 0 rfl)).list_rd, ((H.rdAt 1 rfl)).list_rd⟩⟩⟩⟩ e70).mono ?_)
  rintro e w67 ⟨v71, rfl, Hc68⟩
  have H := H.call1 Hc68
  refine ⟨_, rfl, trivial, fun a S => ?_⟩
  refine lq (.tuple #[v71, (.int .i64 x69.2)]) S (q_move rfl) fun a S => ?_
  refine lq v71 S (q_extract rfl rfl) fun a S => ?_
  refine lq (.int .i64 x69.2) S (q_extract rfl rfl) fun a S => ?_
  refine lq v71 S (q_assign rfl) fun a S => ?_
  refine lq (.int .i64 x69.2) S (q_assign rfl) fun a S => ?_
  refine lx_nil (thenN ?_)
  refine wp_seq (region_plain ?_)
  refine lx_e (.agg #[(.int .i64 a0.1), (.int .i64 a0.2.1), v33, v35]) S trivial (by decide) rfl trivial (q_loadA (cs := [(.int .i64 a0.1), (.int .i64 a0.2.1), v33, v35]) rfl (isP_bp _) Tryz.isAgg25 Tryz.sizeOf25 (by rintro _ rfl; exact (fun j u hu => boxAt (i := 3) H rfl hu))) (fun a S => ?_)
  obtain ⟨x76, e77, hm⟩ := bind_some hm
  refine lx_call (xs := [.tmp 25]) S trivial (by decide) rfl rfl Tryz.call21 ((laws_toLts_ok ⟨[(.int .i64 a0.1), (.int .i64 a0.2.1), v33, v35], rfl, ⟨[(.int .i64 a0.1)], [(.int .i64 a0.2.1), v33, v35], rfl, rfl, ⟨[(.int .i64 a0.2.1)], [v33, v35], rfl, rfl, ⟨[v33], [v35], rfl, ((H.arg h34)).list_rd, ((H.arg h36)).list_rd⟩⟩⟩⟩ e77).mono ?_)
  rintro e w74 ⟨v78, v79, rfl, Hc75⟩
  have H := H.call2 Hc75
  refine ⟨_, rfl, trivial, fun a S => ?_⟩
  refine lx_alloc S trivial (by decide) rfl H Tryz.zeroValue30 rfl (fun b83 w84 H => ⟨trivial, fun a S => ?_⟩)
  refine lx_storeBox (o := 0) (i := 0) (us := [(.int .i64 x76.1), (.int .i64 x76.2.1), v78, v79]) (cs' := [(.int .i64 x76.1), (.int .i64 x76.2.1), v78, v79]) S trivial rfl H rfl rfl rfl rfl Tryz.sizeOf30 (Nat.le_of_ble_eq_true rfl) (List.forall_mem_cons.2 ⟨rfl, (List.forall_mem_cons.2 ⟨rfl, (List.forall_mem_cons.2 ⟨one_sl (H.isSl 1 rfl), (List.forall_mem_cons.2 ⟨one_sl (H.isSl 2 rfl), (fun _ h => nomatch h)⟩)⟩)⟩)⟩) rfl (fun w86 H => ⟨trivial, fun a S => ?_⟩)
  change Heap w0 [bA b83 [(.int .i64 x76.1), (.int .i64 x76.2.1), v78, v79] 30, oA (rList rStr) v78 x76.2.2.1, oA (rList Rimpl_Edge) v79 x76.2.2.2, oA (rList (rInt .i64)) v71 x69.1, oA (rList rStr) v62 x60.2.2.1, oA (rList Rimpl_Edge) v63 x60.2.2.2, bA b49 [(.int .i64 a0.1), (.int .i64 a0.2.1), v33, v35] 25] w86 at H
  refine lx_nil (thenN ?_)
  refine wp_seq (region_plain ?_)
  refine lx_e (.agg #[(.int .i64 x76.1), (.int .i64 x76.2.1), v78, v79]) S trivial (by decide) rfl trivial (q_loadA (cs := [(.int .i64 x76.1), (.int .i64 x76.2.1), v78, v79]) rfl (isP_bp _) Tryz.isAgg30 Tryz.sizeOf30 (by rintro _ rfl; exact (fun j u hu => boxAt (i := 0) H rfl hu))) (fun a S => ?_)
  obtain ⟨x89, e90, hm⟩ := bind_some hm
  refine lx_call (xs := [.tmp 28]) S trivial (by decide) rfl rfl Tryz.call50 ((impl_ReachableStates_ok (hG.ext H.ext) ⟨[(.int .i64 x76.1), (.int .i64 x76.2.1), v78, v79], rfl, ⟨[(.int .i64 x76.1)], [(.int .i64 x76.2.1), v78, v79], rfl, rfl, ⟨[(.int .i64 x76.2.1)], [v78, v79], rfl, rfl, ⟨[v78], [v79], rfl, ((H.rdAt 1 rfl)).list_rd, ((H.rdAt 2 rfl)).list_rd⟩⟩⟩⟩ e90).mono ?_)
  rintro e w87 ⟨v91, rfl, Hc88⟩
  have H := H.call1 Hc88
  refine ⟨_, rfl, trivial, fun a S => ?_⟩
  refine lq (.tuple #[v91, (.int .i64 x89.2)]) S (q_move rfl) fun a S => ?_
  refine lq v91 S (q_extract rfl rfl) fun a S => ?_
  refine lq (.int .i64 x89.2) S (q_extract rfl rfl) fun a S => ?_
  refine lq v91 S (q_assign rfl) fun a S => ?_
  refine lq (.int .i64 x89.2) S (q_assign rfl) fun a S => ?_
  refine lx_nil (thenN ?_)
  refine wp_seq (wp_seq (region_plain ?_))
  refine lq v91 S (q_move rfl) fun a S => ?_
  refine lq v71 S (q_move rfl) fun a S => ?_
  obtain ⟨x96, e97, hm⟩ := bind_some hm
  refine lx_call (xs := [.tmp 32, .tmp 33]) S trivial (by decide) rfl rfl Tryz.call29 ((laws_eqInt64S_ok (H.rdAt 0 rfl) (H.rdAt 4 rfl) e97).mono ?_)
  rintro e w94 ⟨rfl, Hc95⟩
  have H := H.call0 Hc95
  refine ⟨_, rfl, trivial, fun a S => ?_⟩
  refine lq (.bool (!x96)) S (q_not rfl) fun a S => ?_
  refine lq (.bool (!x96)) S (q_move rfl) fun a S => ?_
  obtain ⟨t99, e100, hm⟩ := bind_some hm
  refine lx_cut 4 (fun a w => Slots a 96 [(1, (bp b49)), (4, v71), (5, (.int .i64 x69.2)), (6, (bp b83)), (7, v91), (8, (.int .i64 x89.2)), (40, (.bool t99))] ∧ Heap w0 [oA (rList (rInt .i64)) v91 x89.1, bA b83 [(.int .i64 x76.1), (.int .i64 x76.2.1), v78, v79] 30, oA (rList rStr) v78 x76.2.2.1, oA (rList Rimpl_Edge) v79 x76.2.2.2, oA (rList (rInt .i64)) v71 x69.1, bA b49 [(.int .i64 a0.1), (.int .i64 a0.2.1), v33, v35] 25] w) ?_ ?_
  ·by_cases hc101 : (!x96) = true
   ·have hm := ite_t hc101 e100
    refine lx_skip S rfl rfl (isB_ne hc101) (by decide) (fun a S => ?_)
    refine lx_skip S rfl rfl (isB_ne hc101) (by decide) (fun a S => ?_)
    refine lx_skip S rfl rfl (isB_ne hc101) (by decide) (fun a S => ?_)
    refine lq (.bool true) S (q_pickT' rfl hc101 rfl) fun a S => ?_
    refine lx_nil ?_
    obtain rfl := Option.some.inj hm
    have H := H.sel [0, 1, 2, 3, 4, 7] (by decide)
    exact ⟨S.sub ⟨rfl, rfl, rfl, rfl, rfl, rfl, rfl, trivial⟩, H⟩
   ·have hm := ite_f (eq_false_of_ne_true hc101) e100
    have hc101 : (!x96) = false := eq_false_of_ne_true hc101
    refine lx_q (.int .i64 x89.2) S (want_b rfl rfl hc101) (by decide) (q_move rfl) (fun a S => ?_)
    refine lx_q (.int .i64 x69.2) S (want_b rfl rfl hc101) (by decide) (q_move rfl) (fun a S => ?_)
    refine lx_q (.bool (x89.2 != x69.2)) S (want_b rfl rfl hc101) (by decide) (q_neq rfl rfl) (fun a S => ?_)
    refine lq (.bool (x89.2 != x69.2)) S (q_pickF' rfl hc101 rfl) fun a S => ?_
    refine lx_nil ?_
    obtain rfl := Option.some.inj hm
    have H := H.sel [0, 1, 2, 3, 4, 7] (by decide)
    exact ⟨S.sub ⟨rfl, rfl, rfl, rfl, rfl, rfl, rfl, trivial⟩, H⟩
  ·rintro a w ⟨S, H⟩
   refine lx_nil (thenN ?_)
   refine cond_b S rfl (fun hc102 => ?_) (fun hc102 => ?_)
   ·have hm := ite_t hc102 hm
    refine wp_seq (region_plain ?_)
    refine lq (.bool false) S (q_assign rfl) fun a S => ?_
    refine lx_nil (thenN ?_)
    refine wp_ret (then_ret ?_)
    obtain rfl := Option.some.inj hm
    have H : Heap w0 [] w := H.sel [] (by decide)
    exact leave1 S rfl rfl ⟨rfl, H⟩
   ·have hm := ite_f hc102 hm
    refine wp_skip (thenN ?_)
    refine wp_seq ?_
    refine wp_seq ?_
    refine region_drawG (fun w1 => Heap w0 [bA b83 [(.int .i64 x76.1), (.int .i64 x76.2.1), v78, v79] 30, bA b49 [(.int .i64 a0.1), (.int .i64 a0.2.1), v33, v35] 25] w1) (fun i => [2, 3].contains i) mixed (by kernel_rfl) (fun w104 he103 => ?_)
    have H := H.later he103
    refine ⟨H.sel [1, 5] (by decide), ?_⟩
    refine lq (.agg #[(.int .i64 x76.1), (.int .i64 x76.2.1), v78, v79]) S (q_loadA (cs := [(.int .i64 x76.1), (.int .i64 x76.2.1), v78, v79]) rfl (isP_bp _) Tryz.isAgg30 Tryz.sizeOf30 (fun w1 hC => (fun j u hu => boxAt (i := 0) hC rfl hu))) fun a S => ?_
    refine lq (.agg #[(.int .i64 a0.1), (.int .i64 a0.2.1), v33, v35]) S (q_loadA (cs := [(.int .i64 a0.1), (.int .i64 a0.2.1), v33, v35]) rfl (isP_bp _) Tryz.isAgg25 Tryz.sizeOf25 (fun w1 hC => (fun j u hu => boxAt (i := 1) hC rfl hu))) fun a S => ?_
    obtain ⟨x107, e108, hm⟩ := bind_some hm
    refine lx_call (xs := [.tmp 42]) S trivial (by decide) rfl rfl Tryz.call21 ((laws_toLts_ok ⟨[(.int .i64 a0.1), (.int .i64 a0.2.1), v33, v35], rfl, ⟨[(.int .i64 a0.1)], [(.int .i64 a0.2.1), v33, v35], rfl, rfl, ⟨[(.int .i64 a0.2.1)], [v33, v35], rfl, rfl, ⟨[v33], [v35], rfl, ((H.arg h34)).list_rd, ((H.arg h36)).list_rd⟩⟩⟩⟩ e108).mono ?_)
    rintro e w105 ⟨v109, v110, rfl, Hc106⟩
    have H := H.call2 Hc106
    refine ⟨_, rfl, H.sel [3, 7] (by decide), fun a S => ?_⟩
    obtain ⟨x116, e117, hm⟩ := bind_some hm
    refine lx_call (xs := [.tmp 41, .tmp 43]) S trivial (by decide) rfl rfl Tryz.call23 ((laws_eqLts_ok ⟨[(.int .i64 x76.1), (.int .i64 x76.2.1), v78, v79], rfl, ⟨[(.int .i64 x76.1)], [(.int .i64 x76.2.1), v78, v79], rfl, rfl, ⟨[(.int .i64 x76.2.1)], [v78, v79], rfl, rfl, ⟨[v78], [v79], rfl, ((H.rdAt 4 rfl)).list_rd, ((H.rdAt 5 rfl)).list_rd⟩⟩⟩⟩ ⟨[(.int .i64 x107.1), (.int .i64 x107.2.1), v109, v110], rfl, ⟨[(.int .i64 x107.1)], [(.int .i64 x107.2.1), v109, v110], rfl, rfl, ⟨[(.int .i64 x107.2.1)], [v109, v110], rfl, rfl, ⟨[v109], [v110], rfl, ((H.rdAt 0 rfl)).list_rd, ((H.rdAt 1 rfl)).list_rd⟩⟩⟩⟩ e117).mono ?_)
    rintro e w114 ⟨rfl, Hc115⟩
    have H := H.call0 Hc115
    refine ⟨_, rfl, H.sel [3, 7] (by decide), fun a S => ?_⟩
    refine lq (.bool (!x116)) S (q_not rfl) fun a S => ?_
    refine lx_nil (thenN ?_)
    refine cond_b S rfl (fun hc119 => ?_) (fun hc119 => ?_)
    ·have hm := ite_t hc119 hm
     refine wp_seq (region_plain ?_)
     refine lq (.bool false) S (q_assign rfl) fun a S => ?_
     refine lx_nil (thenN ?_)
     refine wp_ret (then_ret ?_)
     obtain rfl := Option.some.inj hm
     have H : Heap w0 [] w114 := H.sel [] (by decide)
     exact leave1 S rfl rfl ⟨rfl, H⟩
    ·have hm := ite_f hc119 hm
     refine wp_skip (thenN ?_)
     refine wp_seq (region_plain ?_)
     refine lq (.int .i64 (1 : Int)) S (q_assign rfl) fun a S => ?_
     refine lx_nil (thenN ?_)
     refine wp_seq (region_plain ?_)
     refine lx_e (.agg #[(.int .i64 x76.1), (.int .i64 x76.2.1), v78, v79]) S trivial (by decide) rfl trivial (q_loadA (cs := [(.int .i64 x76.1), (.int .i64 x76.2.1), v78, v79]) rfl (isP_bp _) Tryz.isAgg30 Tryz.sizeOf30 (by rintro _ rfl; exact (fun j u hu => boxAt (i := 3) H rfl hu))) (fun a S => ?_)
     refine lq (.int .i64 (1 : Int)) S (q_move rfl) fun a S => ?_
     obtain ⟨x122, e123, hm⟩ := bind_some hm
     have H : Heap w0 [oA (rList Rimpl_Edge) v79 x76.2.2.2, oA (rList rStr) v109 x107.2.2.1, oA (rList Rimpl_Edge) v110 x107.2.2.2, oA (rList (rInt .i64)) v91 x89.1, bA b83 [(.int .i64 x76.1), (.int .i64 x76.2.1), v78, v79] 30, oA (rList rStr) v78 x76.2.2.1, oA (rList (rInt .i64)) v71 x69.1, bA b49 [(.int .i64 a0.1), (.int .i64 a0.2.1), v33, v35] 25] w114 := H.front 5 rfl
     have H : Heap w0 [oA (rList rStr) v78 x76.2.2.1, oA (rList Rimpl_Edge) v79 x76.2.2.2, oA (rList rStr) v109 x107.2.2.1, oA (rList Rimpl_Edge) v110 x107.2.2.2, oA (rList (rInt .i64)) v91 x89.1, bA b83 [(.int .i64 x76.1), (.int .i64 x76.2.1), v78, v79] 30, oA (rList (rInt .i64)) v71 x69.1, bA b49 [(.int .i64 a0.1), (.int .i64 a0.2.1), v33, v35] 25] w114 := H.front 5 rfl
     refine lx_call (xs := [.tmp 46, .tmp 47]) S trivial (by decide) rfl rfl Tryz.call33 ((laws_markLts_ok H  e123).mono ?_)
     rintro e w120 ⟨rfl, H⟩
     refine ⟨_, rfl, trivial, fun a S => ?_⟩
     refine lq (.int .i64 x122.1) S (q_assign rfl) fun a S => ?_
     refine lx_nil (thenN ?_)
     refine wp_seq (wp_seq (region_plain ?_))
     refine lq (.int .i64 x122.1) S (q_move rfl) fun a S => ?_
     refine lq (.bool (decide (x122.1 < (0 : Int)))) S (q_lss rfl rfl) fun a S => ?_
     refine lq (.bool (decide (x122.1 < (0 : Int)))) S (q_move rfl) fun a S => ?_
     obtain ⟨t124, e125, hm⟩ := bind_some hm
     refine lx_cut 5 (fun a w => Slots a 96 [(1, (bp b49)), (4, v71), (5, (.int .i64 x69.2)), (7, v91), (8, (.int .i64 x89.2)), (56, (.bool t124))] ∧ Heap w0 [oA (rList (rInt .i64)) v91 x89.1, oA (rList (rInt .i64)) v71 x69.1, bA b49 [(.int .i64 a0.1), (.int .i64 a0.2.1), v33, v35] 25] w) ?_ ?_
     ·by_cases hc126 : (decide (x122.1 < (0 : Int))) = true
      ·have hm := ite_t hc126 e125
       refine lx_skip S rfl rfl (isB_ne hc126) (by decide) (fun a S => ?_)
       refine lx_skip S rfl rfl (isB_ne hc126) (by decide) (fun a S => ?_)
       refine lx_skip S rfl rfl (isB_ne hc126) (by decide) (fun a S => ?_)
       refine lx_skip S rfl rfl (isB_ne hc126) (by decide) (fun a S => ?_)
       refine lq (.bool true) S (q_pickT' rfl hc126 rfl) fun a S => ?_
       refine lx_nil ?_
       obtain rfl := Option.some.inj hm
       have H := H.sel [4, 6, 7] (by decide)
       exact ⟨S.sub ⟨rfl, rfl, rfl, rfl, rfl, rfl, trivial⟩, H⟩
      ·have hm := ite_f (eq_false_of_ne_true hc126) e125
       have hc126 : (decide (x122.1 < (0 : Int))) = false := eq_false_of_ne_true hc126
       refine lx_q v91 S (want_b rfl rfl hc126) (by decide) (q_move rfl) (fun a S => ?_)
       refine lx_q v71 S (want_b rfl rfl hc126) (by decide) (q_move rfl) (fun a S => ?_)
       obtain ⟨x129, e130, hm⟩ := bind_some hm
       refine lx_call (xs := [.tmp 52, .tmp 53]) S (want_b rfl rfl hc126) (by decide) rfl rfl Tryz.call29 ((laws_eqInt64S_ok (H.rdAt 4 rfl) (H.rdAt 6 rfl) e130).mono ?_)
       rintro e w127 ⟨rfl, Hc128⟩
       have H := H.call0 Hc128
       refine ⟨_, rfl, trivial, fun a S => ?_⟩
       refine lx_q (.bool (!x129)) S (want_b rfl rfl hc126) (by decide) (q_not rfl) (fun a S => ?_)
       refine lq (.bool (!x129)) S (q_pickF' rfl hc126 rfl) fun a S => ?_
       refine lx_nil ?_
       obtain rfl := Option.some.inj hm
       have H := H.sel [4, 6, 7] (by decide)
       exact ⟨S.sub ⟨rfl, rfl, rfl, rfl, rfl, rfl, trivial⟩, H⟩
     ·rintro a w ⟨S, H⟩
      refine lq (.bool t124) S (q_move rfl) fun a S => ?_
      obtain ⟨t132, e133, hm⟩ := bind_some hm
      refine lx_cut 4 (fun a w => Slots a 96 [(1, (bp b49)), (4, v71), (5, (.int .i64 x69.2)), (7, v91), (61, (.bool t132))] ∧ Heap w0 [oA (rList (rInt .i64)) v91 x89.1, oA (rList (rInt .i64)) v71 x69.1, bA b49 [(.int .i64 a0.1), (.int .i64 a0.2.1), v33, v35] 25] w) ?_ ?_
      ·by_cases hc134 : t124 = true
       ·have hm := ite_t hc134 e133
        refine lx_skip S rfl rfl (isB_ne hc134) (by decide) (fun a S => ?_)
        refine lx_skip S rfl rfl (isB_ne hc134) (by decide) (fun a S => ?_)
        refine lx_skip S rfl rfl (isB_ne hc134) (by decide) (fun a S => ?_)
        refine lq (.bool true) S (q_pickT' rfl hc134 rfl) fun a S => ?_
        refine lx_nil ?_
        obtain rfl := Option.some.inj hm
        exact ⟨S.sub ⟨rfl, rfl, rfl, rfl, rfl, trivial⟩, H⟩
       ·have hm := ite_f (eq_false_of_ne_true hc134) e133
        have hc134 : t124 = false := eq_false_of_ne_true hc134
        refine lx_q (.int .i64 x89.2) S (want_b rfl rfl hc134) (by decide) (q_move rfl) (fun a S => ?_)
        refine lx_q (.int .i64 x69.2) S (want_b rfl rfl hc134) (by decide) (q_move rfl) (fun a S => ?_)
        refine lx_q (.bool (x89.2 != x69.2)) S (want_b rfl rfl hc134) (by decide) (q_neq rfl rfl) (fun a S => ?_)
        refine lq (.bool (x89.2 != x69.2)) S (q_pickF' rfl hc134 rfl) fun a S => ?_
        refine lx_nil ?_
        obtain rfl := Option.some.inj hm
        exact ⟨S.sub ⟨rfl, rfl, rfl, rfl, rfl, trivial⟩, H⟩
      ·rintro a w ⟨S, H⟩
       refine lx_nil (thenN ?_)
       refine cond_b S rfl (fun hc135 => ?_) (fun hc135 => ?_)
       ·have hm := ite_t hc135 hm
        refine wp_seq (region_plain ?_)
        refine lq (.bool false) S (q_assign rfl) fun a S => ?_
        refine lx_nil (thenN ?_)
        refine wp_ret (then_ret ?_)
        obtain rfl := Option.some.inj hm
        have H : Heap w0 [] w := H.sel [] (by decide)
        exact leave1 S rfl rfl ⟨rfl, H⟩
       ·have hm := ite_f hc135 hm
        refine wp_skip (thenN ?_)
        refine wp_seq (region_plain ?_)
        refine lq (.int .i64 (1 : Int)) S (q_assign rfl) fun a S => ?_
        refine lx_nil (thenN ?_)
        refine wp_seq (region_plain ?_)
        refine lq v91 S (q_move rfl) fun a S => ?_
        refine lq (.int .i64 (1 : Int)) S (q_move rfl) fun a S => ?_
        obtain ⟨x138, e139, hm⟩ := bind_some hm
        refine lx_call (xs := [.tmp 62, .tmp 63]) S trivial (by decide) rfl rfl Tryz.call39 ((laws_markInt64S_ok H  e139).mono ?_)
        rintro e w136 ⟨rfl, H⟩
        refine ⟨_, rfl, trivial, fun a S => ?_⟩
        refine lq (.int .i64 x138.1) S (q_assign rfl) fun a S => ?_
        refine lx_nil (thenN ?_)
        refine wp_seq (region_plain ?_)
        refine lq (.int .i64 (1 : Int)) S (q_assign rfl) fun a S => ?_
        refine lx_nil (thenN ?_)
        refine wp_seq (region_plain ?_)
        refine lq v91 S (q_move rfl) fun a S => ?_
        refine lq (.int .i64 (1 : Int)) S (q_move rfl) fun a S => ?_
        obtain ⟨x142, e143, hm⟩ := bind_some hm
        refine lx_call (xs := [.tmp 65, .tmp 66]) S trivial (by decide) rfl rfl Tryz.call44 ((laws_heldInt64S_ok (H.rdAt 0 rfl)  e143).mono ?_)
        rintro e w140 ⟨rfl, Hc141⟩
        have H := H.call0 Hc141
        refine ⟨_, rfl, trivial, fun a S => ?_⟩
        refine lq (.int .i64 x142) S (q_assign rfl) fun a S => ?_
        refine lx_nil (thenN ?_)
        refine wp_seq (wp_seq (region_plain ?_))
        refine lq (.int .i64 x142) S (q_move rfl) fun a S => ?_
        refine lq (.bool (decide (x142 < (0 : Int)))) S (q_lss rfl rfl) fun a S => ?_
        refine lx_nil (thenN ?_)
        refine cond_b S rfl (fun hc145 => ?_) (fun hc145 => ?_)
        ·have hm := ite_t hc145 hm
         refine wp_seq (region_plain ?_)
         refine lq (.bool false) S (q_assign rfl) fun a S => ?_
         refine lx_nil (thenN ?_)
         refine wp_ret (then_ret ?_)
         obtain rfl := Option.some.inj hm
         have H : Heap w0 [] w140 := H.sel [] (by decide)
         exact leave1 S rfl rfl ⟨rfl, H⟩
        ·have hm := ite_f hc145 hm
         refine wp_skip (thenN ?_)
         refine wp_seq (wp_seq (region_plain ?_))
         refine lq (.int .i64 x142) S (q_move rfl) fun a S => ?_
         refine lq (.int .i64 x138.1) S (q_move rfl) fun a S => ?_
         refine lq (.bool (x142 != x138.1)) S (q_neq rfl rfl) fun a S => ?_
         refine lx_nil (thenN ?_)
         refine cond_b S rfl (fun hc146 => ?_) (fun hc146 => ?_)
         ·have hm := ite_t hc146 hm
          refine wp_seq (region_plain ?_)
          refine lq (.bool false) S (q_assign rfl) fun a S => ?_
          refine lx_nil (thenN ?_)
          refine wp_ret (then_ret ?_)
          obtain rfl := Option.some.inj hm
          have H : Heap w0 [] w140 := H.sel [] (by decide)
          exact leave1 S rfl rfl ⟨rfl, H⟩
         ·have hm := ite_f hc146 hm
          refine wp_skip (thenN ?_)
          refine wp_seq (region_plain ?_)
          refine lx_e (.agg #[(.int .i64 a0.1), (.int .i64 a0.2.1), v33, v35]) S trivial (by decide) rfl trivial (q_loadA (cs := [(.int .i64 a0.1), (.int .i64 a0.2.1), v33, v35]) rfl (isP_bp _) Tryz.isAgg25 Tryz.sizeOf25 (by rintro _ rfl; exact (fun j u hu => boxAt (i := 2) H rfl hu))) (fun a S => ?_)
          obtain ⟨x149, e150, hm⟩ := bind_some hm
          refine lx_call (xs := [.tmp 74]) S trivial (by decide) rfl rfl Tryz.call21 ((laws_toLts_ok ⟨[(.int .i64 a0.1), (.int .i64 a0.2.1), v33, v35], rfl, ⟨[(.int .i64 a0.1)], [(.int .i64 a0.2.1), v33, v35], rfl, rfl, ⟨[(.int .i64 a0.2.1)], [v33, v35], rfl, rfl, ⟨[v33], [v35], rfl, ((H.arg h34)).list_rd, ((H.arg h36)).list_rd⟩⟩⟩⟩ e150).mono ?_)
          rintro e w147 ⟨v151, v152, rfl, Hc148⟩
          have H := H.call2 Hc148
          refine ⟨_, rfl, trivial, fun a S => ?_⟩
          obtain ⟨x158, e159, hm⟩ := bind_some hm
          refine lx_call (xs := [.tmp 75]) S trivial (by decide) rfl rfl Tryz.call50 ((impl_ReachableStates_ok (hG.ext H.ext) ⟨[(.int .i64 x149.1), (.int .i64 x149.2.1), v151, v152], rfl, ⟨[(.int .i64 x149.1)], [(.int .i64 x149.2.1), v151, v152], rfl, rfl, ⟨[(.int .i64 x149.2.1)], [v151, v152], rfl, rfl, ⟨[v151], [v152], rfl, ((H.rdAt 0 rfl)).list_rd, ((H.rdAt 1 rfl)).list_rd⟩⟩⟩⟩ e159).mono ?_)
          rintro e w156 ⟨v160, rfl, Hc157⟩
          have H := H.call1 Hc157
          refine ⟨_, rfl, trivial, fun a S => ?_⟩
          refine lq (.tuple #[v160, (.int .i64 x158.2)]) S (q_move rfl) fun a S => ?_
          refine lq v160 S (q_extract rfl rfl) fun a S => ?_
          refine lq (.int .i64 x158.2) S (q_extract rfl rfl) fun a S => ?_
          refine lq v160 S (q_assign rfl) fun a S => ?_
          refine lq (.int .i64 x158.2) S (q_assign rfl) fun a S => ?_
          refine lx_nil (thenN ?_)
          refine wp_seq (wp_seq (region_plain ?_))
          refine lq v160 S (q_move rfl) fun a S => ?_
          refine lq v71 S (q_move rfl) fun a S => ?_
          obtain ⟨x165, e166, hm⟩ := bind_some hm
          refine lx_call (xs := [.tmp 79, .tmp 80]) S trivial (by decide) rfl rfl Tryz.call29 ((laws_eqInt64S_ok (H.rdAt 0 rfl) (H.rdAt 4 rfl) e166).mono ?_)
          rintro e w163 ⟨rfl, Hc164⟩
          have H := H.call0 Hc164
          refine ⟨_, rfl, trivial, fun a S => ?_⟩
          refine lq (.bool (!x165)) S (q_not rfl) fun a S => ?_
          refine lq (.bool (!x165)) S (q_move rfl) fun a S => ?_
          obtain ⟨t168, e169, hm⟩ := bind_some hm
          refine lx_cut 4 (fun a w => Slots a 96 [(7, v91), (10, (.int .i64 x138.1)), (87, (.bool t168))] ∧ Heap w0 [oA (rList (rInt .i64)) v91 x138.2] w) ?_ ?_
          ·by_cases hc170 : (!x165) = true
           ·have hm := ite_t hc170 e169
            refine lx_skip S rfl rfl (isB_ne hc170) (by decide) (fun a S => ?_)
            refine lx_skip S rfl rfl (isB_ne hc170) (by decide) (fun a S => ?_)
            refine lx_skip S rfl rfl (isB_ne hc170) (by decide) (fun a S => ?_)
            refine lq (.bool true) S (q_pickT' rfl hc170 rfl) fun a S => ?_
            refine lx_nil ?_
            obtain rfl := Option.some.inj hm
            have H := H.sel [3] (by decide)
            exact ⟨S.sub ⟨rfl, rfl, rfl, trivial⟩, H⟩
           ·have hm := ite_f (eq_false_of_ne_true hc170) e169
            have hc170 : (!x165) = false := eq_false_of_ne_true hc170
            refine lx_q (.int .i64 x158.2) S (want_b rfl rfl hc170) (by decide) (q_move rfl) (fun a S => ?_)
            refine lx_q (.int .i64 x69.2) S (want_b rfl rfl hc170) (by decide) (q_move rfl) (fun a S => ?_)
            refine lx_q (.bool (x158.2 != x69.2)) S (want_b rfl rfl hc170) (by decide) (q_neq rfl rfl) (fun a S => ?_)
            refine lq (.bool (x158.2 != x69.2)) S (q_pickF' rfl hc170 rfl) fun a S => ?_
            refine lx_nil ?_
            obtain rfl := Option.some.inj hm
            have H := H.sel [3] (by decide)
            exact ⟨S.sub ⟨rfl, rfl, rfl, trivial⟩, H⟩
          ·rintro a w ⟨S, H⟩
           refine lx_nil (thenN ?_)
           refine cond_b S rfl (fun hc171 => ?_) (fun hc171 => ?_)
           ·have hm := ite_t hc171 hm
            refine wp_seq (region_plain ?_)
            refine lq (.bool false) S (q_assign rfl) fun a S => ?_
            refine lx_nil (thenN ?_)
            refine wp_ret (then_ret ?_)
            obtain rfl := Option.some.inj hm
            have H : Heap w0 [] w := H.sel [] (by decide)
            exact leave1 S rfl rfl ⟨rfl, H⟩
           ·have hm := ite_f hc171 hm
            refine wp_skip (thenN ?_)
            refine wp_seq (region_plain ?_)
            refine lq (.int .i64 (1 : Int)) S (q_assign rfl) fun a S => ?_
            refine lx_nil (thenN ?_)
            refine wp_seq (region_plain ?_)
            refine lq v91 S (q_move rfl) fun a S => ?_
            refine lq (.int .i64 (1 : Int)) S (q_move rfl) fun a S => ?_
            obtain ⟨x174, e175, hm⟩ := bind_some hm
            refine lx_call (xs := [.tmp 88, .tmp 89]) S trivial (by decide) rfl rfl Tryz.call44 ((laws_heldInt64S_ok (H.rdAt 0 rfl)  e175).mono ?_)
            rintro e w172 ⟨rfl, Hc173⟩
            have H := H.call0 Hc173
            refine ⟨_, rfl, trivial, fun a S => ?_⟩
            refine lq (.int .i64 x174) S (q_assign rfl) fun a S => ?_
            refine lx_nil (thenN ?_)
            refine wp_seq (wp_seq (region_plain ?_))
            refine lq (.int .i64 x174) S (q_move rfl) fun a S => ?_
            refine lq (.bool (decide (x174 < (0 : Int)))) S (q_lss rfl rfl) fun a S => ?_
            refine lx_nil (thenN ?_)
            refine cond_b S rfl (fun hc177 => ?_) (fun hc177 => ?_)
            ·have hm := ite_t hc177 hm
             refine wp_seq (region_plain ?_)
             refine lq (.bool false) S (q_assign rfl) fun a S => ?_
             refine lx_nil (thenN ?_)
             refine wp_ret (then_ret ?_)
             obtain rfl := Option.some.inj hm
             have H : Heap w0 [] w172 := H.sel [] (by decide)
             exact leave1 S rfl rfl ⟨rfl, H⟩
            ·have hm := ite_f hc177 hm
             refine wp_skip (thenN ?_)
             refine wp_seq (wp_seq (region_plain ?_))
             refine lq (.int .i64 x174) S (q_move rfl) fun a S => ?_
             refine lq (.int .i64 x138.1) S (q_move rfl) fun a S => ?_
             refine lq (.bool (x174 != x138.1)) S (q_neq rfl rfl) fun a S => ?_
             refine lx_nil (thenN ?_)
             refine cond_b S rfl (fun hc178 => ?_) (fun hc178 => ?_)
             ·have hm := ite_t hc178 hm
              refine wp_seq (region_plain ?_)
              refine lq (.bool false) S (q_assign rfl) fun a S => ?_
              refine lx_nil (thenN ?_)
              refine wp_ret (then_ret ?_)
              obtain rfl := Option.some.inj hm
              have H : Heap w0 [] w172 := H.sel [] (by decide)
              exact leave1 S rfl rfl ⟨rfl, H⟩
             ·have hm := ite_f hc178 hm
              refine wp_skip (thenN ?_)
              refine wp_seq (region_plain ?_)
              refine lq (.bool true) S (q_assign rfl) fun a S => ?_
              refine lx_nil (thenN ?_)
              refine wp_ret ?_
              obtain rfl := Option.some.inj hm
              have H : Heap w0 [] w172 := H.sel [] (by decide)
              exact leave1 S rfl rfl ⟨rfl, H⟩
end Go.Proofs.YtkgkfbmcnchdbaaGreatDoor
