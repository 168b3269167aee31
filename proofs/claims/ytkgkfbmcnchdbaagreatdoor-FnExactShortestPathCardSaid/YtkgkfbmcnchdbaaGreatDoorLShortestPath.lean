/- The model of a statement and its walk (printed by a program of this repo). -/
import Derived.Test.YtkgkfbmcnchdbaaGreatDoorF0
import Derived.Test.YtkgkfbmcnchdbaaGreatDoorF1
import Derived.Test.YtkgkfbmcnchdbaaGreatDoorF11
import Derived.Test.YtkgkfbmcnchdbaaGreatDoorF12
import Derived.Test.YtkgkfbmcnchdbaaGreatDoorF13
import Derived.Test.YtkgkfbmcnchdbaaGreatDoorF2
import Derived.Test.YtkgkfbmcnchdbaaGreatDoorF3
import Derived.Test.YtkgkfbmcnchdbaaGreatDoorF4
import Derived.Test.YtkgkfbmcnchdbaaGreatDoorF5
import Derived.Test.YtkgkfbmcnchdbaaGreatDoorF6
import Derived.Test.YtkgkfbmcnchdbaaGreatDoorGxT
import Derived.Test.YtkgkfbmcnchdbaaGreatDoorGxY
namespace Go.Proofs.YtkgkfbmcnchdbaaGreatDoor
open Go.RowKit Go.Gx

/-- spec.l10Path -/
def spec_l10Path_m (fuel : Nat) (a0 : Timpl_Lts) (a1 : (List Int)) : Option (((List Int) × Bool)) :=
  (spec_l10Far_m fuel a0 a1 true).bind fun x52 => (idx x52 a0.2.1).bind fun x60 => (if (decide (x60 < (0 : Int))) = true then some (([], false)) else (iter (fun (s : (Int) × (List Int)) => (match s with | (x266, xs268) => (idx x52 x266).bind fun x480 => (if (decide ((0 : Int) < x480)) = true then (iter (fun (s : (Int)) => (match s with | (x545) => (if (decide (x545 < (a0.2.2.2.length : Int))) = true then (idx a0.2.2.2 x545).bind fun x620 => (if (x620.1 == x266) = true then (idx a0.2.2.2 x545).bind fun x636 => (idx x52 x636.2.2).bind fun x649 => (idx x52 x266).bind fun x651 => some (x649 == (W (x651 - (1 : Int)))) else some false).bind fun t633 => (if t633 = true then (app xs268 [x545]).bind fun x657 => (idx a0.2.2.2 x545).bind fun x662 => some (.inr (.inl (x662.2.2, x657))) else some (.inl ((W (x545 + (1 : Int)))))) else some (.inr (.inl (x266, xs268)))) : Option (((Int)) ⊕ ((Int × (List Int)) ⊕ (((List Int) × Bool)))))) fuel ((0 : Int))).bind fun res609 => ctl (β := Int × (List Int)) (ρ := ((List Int) × Bool)) (τ := (((Int) × (List Int)) ⊕ (((List Int)) ⊕ (((List Int) × Bool))))) res609 (fun (x605, xs607) => some (.inl (x605, xs607))) (fun q => some (.inr (.inr q))) else some (.inr (.inl (xs268)))) : Option (((Int) × (List Int)) ⊕ (((List Int)) ⊕ (((List Int) × Bool)))))) fuel (a0.2.1, ([] : List Int))).bind fun res472 => ctl (β := (List Int)) (ρ := ((List Int) × Bool)) (τ := ((List Int) × Bool)) res472 (fun (xs470) => some ((xs470, true))) (fun q => some (q)))
set_option maxRecDepth 20000 in
theorem spec_l10Path_ok {w0 : World} {fuel : Nat} {p0 p1 : Value} {a0 : Timpl_Lts} {a1 : (List Int)} {r : ((List Int) × Bool)} (h0 : Rd (rPtr Rimpl_Lts) w0 p0 a0) (h1 : Rd (rList (rInt .i64)) w0 p1 a1) (hm : spec_l10Path_m fuel a0 a1 = some r) :
  Calls Tryz.prog 103 #[p0, p1] w0 fun e w => ∃ (v0 : Value), e = .returned (.tuple #[v0, .bool r.2]) ∧ Heap w0 [oA (rList (rInt .i64)) v0 r.1] w := by
 unfold spec_l10Path_m at hm
 have H := Heap.start w0
 obtain ⟨c31, h32, hat33⟩ := h0.ptr
 obtain ⟨c38, c39, rfl, h40, h41⟩ := h32
 obtain rfl := h40
 obtain ⟨c42, c43, rfl, h44, h45⟩ := h41
 obtain rfl := h44
 obtain ⟨c46, c47, rfl, h48, h49⟩ := h45
 obtain ⟨v34, rfl, h35⟩ := rd_list h48
 obtain ⟨v36, rfl, h37⟩ := rd_list h49
 refine enter (args := [p0, p1]) Tryz.func103 rfl 79 rfl (Nat.le_of_ble_eq_true rfl) (fun a S => ?_)
 refine wp_seq (region_plain ?_)
 refine lq (.slice none 0 0) S (q_assign rfl) fun a S => ?_
 refine lq (.bool false) S (q_assign rfl) fun a S => ?_
 refine lx_nil (thenN ?_)
 refine wp_seq (region_plain ?_)
 refine lq p0 S (q_move rfl) fun a S => ?_
 refine lq p1 S (q_move rfl) fun a S => ?_
 obtain ⟨x52, e53, hm⟩ := bind_some hm
 refine lx_call (xs := [.tmp 10, .tmp 11, .const (.bool true)]) S trivial (by decide) rfl rfl Tryz.call88 ((spec_l10Far_ok (H.arg h0) (H.arg h1)  e53).mono ?_)
 rintro e w50 ⟨v54, rfl, Hc51⟩
 have H := H.call1 Hc51
 refine ⟨_, rfl, trivial, fun a S => ?_⟩
 refine lq v54 S (q_assign rfl) fun a S => ?_
 refine lx_nil (thenN ?_)
 refine wp_seq (region_plain ?_)
 refine lq p0 S (q_move rfl) fun a S => ?_
 refine lq p0 S (q_nilCheck rfl ((hat33 0 _ rfl).isP)) fun a S => ?_
 refine lq (pAdd p0 1) S (q_fieldAddr' 1 2 rfl ((hat33 0 _ rfl).isP) Tryz.underlying30 rfl Tryz.sizeOf2) fun a S => ?_
 refine lx_e (.int .i64 a0.2.1) S trivial (by decide) rfl trivial (q_load1 rfl Tryz.isAgg2 (by rintro _ rfl; exact (At.of_add (m := 1) (j := 0) ((hat33 1 _ rfl).ext H.ext)))) (fun a S => ?_)
 refine lq (.int .i64 a0.2.1) S (q_assign rfl) fun a S => ?_
 refine lx_nil (thenN ?_)
 refine wp_seq (region_plain ?_)
 refine lx_buildSlice0 (r := (rInt .i64)) S trivial (by decide) rfl H Tryz.underlying34 Tryz.sizeOf2 (fun v57 w58 H => ⟨trivial, fun a S => ?_⟩)
 refine lq v57 S (q_assign rfl) fun a S => ?_
 refine lx_nil (thenN ?_)
 refine wp_seq (wp_seq (region_plain ?_))
 refine lq v54 S (q_move rfl) fun a S => ?_
 refine lq (.int .i64 a0.2.1) S (q_move rfl) fun a S => ?_
 obtain ⟨x60, e61, hm⟩ := bind_some hm
 have hlt := lt_of_idx (idx_some e61).2
 refine lq (ePtr v54 (a0.2.1.toNat * 1)) S (q_indexAddr rfl (H.isSl 1 rfl) rfl (idx_some e61).1 hlt Tryz.underlying34 Tryz.sizeOf2) fun a S => ?_
 obtain ⟨c62, h63, hat64⟩ := (H.rdAt 1 rfl).elem (idx_some e61).2
 obtain rfl := h63
 refine lx_e (.int .i64 x60) S trivial (by decide) rfl trivial (q_load1 rfl Tryz.isAgg2 (by rintro _ rfl; exact (hat64 0 _ rfl))) (fun a S => ?_)
 refine lq (.bool (decide (x60 < (0 : Int)))) S (q_lss rfl rfl) fun a S => ?_
 refine lx_nil (thenN ?_)
 refine cond_b S rfl (fun hc65 => ?_) (fun hc65 => ?_)
 ·have hm := ite_t hc65 hm
  refine wp_seq (region_plain ?_)
  refine lq (.slice none 0 0) S (q_assign rfl) fun a S => ?_
  refine lq (.bool false) S (q_assign rfl) fun a S => ?_
  refine lx_nil (thenN ?_)
  refine wp_ret (then_ret ?_)
  obtain rfl := Option.some.inj hm
  have H : Heap w0 [oA (rList (rInt .i64)) (.slice none 0 0) ([] : List Int), oA (rList (rInt .i64)) v57 ([] : List Int), oA (rList (rInt .i64)) v54 x52] w58 := H.nilList (rInt .i64)
  have H : Heap w0 [oA (rList (rInt .i64)) (.slice none 0 0) ([] : List Int)] w58 := H.sel [0] (by decide)
  exact leave2 S rfl rfl rfl ⟨(.slice none 0 0), rfl, H⟩
 ·have hm := ite_f hc65 hm
  refine wp_skip (thenN ?_)
  refine wp_seq ?_
  obtain ⟨res472, hit473, hk476⟩ := bind_some hm
  obtain ⟨f474, hf475, hit473⟩ := iter_name hit473
  refine block_loop (fun a w => ∃ (xs470 : List Int) (v469 : Value), Slots a 79 [(8, v469)] ∧ Heap w0 [oA (rList (rInt .i64)) v469 xs470] w ∧ res472 = .inl (xs470)) ?_ ?_
  ·rintro a w ⟨xs470, v469, S, H, rfl⟩
   have hm := ctl_inl hk476
   refine thenN ?_
   refine wp_seq (region_plain ?_)
   refine lq v469 S (q_move rfl) fun a S => ?_
   refine lq v469 S (q_assign rfl) fun a S => ?_
   refine lq (.bool true) S (q_assign rfl) fun a S => ?_
   refine lx_nil (thenN ?_)
   refine wp_ret ?_
   obtain rfl := Option.some.inj hm
   exact leave2 S rfl rfl rfl ⟨v469, rfl, H⟩
  ·skip
   have H : Heap w0 [oA (rList (rInt .i64)) v54 x52, oA (rList (rInt .i64)) v57 ([] : List Int)] w58 := H.front 1 rfl
   refine loop_ghost (fun n a w => ∃ (x266 : Int) (xs268 : List Int) (v267 : Value), Slots a 79 [(0, p0), (6, v54), (7, (.int .i64 x266)), (8, v267)] ∧ Heap w0 [oA (rList (rInt .i64)) v54 x52, oA (rList (rInt .i64)) v267 xs268] w ∧ iter f474 n (x266, xs268) = some res472) _ ⟨a0.2.1, ([] : List Int), v57, S.sub ⟨rfl, rfl, rfl, rfl, trivial⟩, H, hit473⟩ ?_
   rintro n a w ⟨x266, xs268, v267, S, H, hit473⟩
   obtain ⟨m477, o478, rfl, hm, hc479⟩ := iter_step hit473
   rw [hf475] at hm
   refine wp_seq (wp_seq (region_plain ?_))
   refine lq v54 S (q_move rfl) fun a S => ?_
   refine lq (.int .i64 x266) S (q_move rfl) fun a S => ?_
   obtain ⟨x480, e481, hm⟩ := bind_some hm
   have hlt := lt_of_idx (idx_some e481).2
   refine lq (ePtr v54 (x266.toNat * 1)) S (q_indexAddr rfl (H.isSl 0 rfl) rfl (idx_some e481).1 hlt Tryz.underlying34 Tryz.sizeOf2) fun a S => ?_
   obtain ⟨c482, h483, hat484⟩ := (H.rdAt 0 rfl).elem (idx_some e481).2
   obtain rfl := h483
   refine lx_e (.int .i64 x480) S trivial (by decide) rfl trivial (q_load1 rfl Tryz.isAgg2 (by rintro _ rfl; exact (hat484 0 _ rfl))) (fun a S => ?_)
   refine lq (.bool (decide ((0 : Int) < x480))) S (q_gtr rfl rfl) fun a S => ?_
   refine lx_nil (thenN ?_)
   refine cond_b S rfl (fun hc485 => ?_) (fun hc485 => ?_)
   ·have hm := ite_t hc485 hm
    refine wp_skip (thenN ?_)
    refine wp_block ?_
    refine wp_seq (region_plain ?_)
    refine lq (.int .i64 (0 : Int)) S (q_assign rfl) fun a S => ?_
    refine lx_nil (thenN ?_)
    obtain ⟨res609, hit610, hk613⟩ := bind_some hm
    obtain ⟨f611, hf612, hit610⟩ := iter_name hit610
    refine block_loop (fun a w => ∃ (x605 : Int) (xs607 : List Int) (v606 : Value), Slots a 79 [(0, p0), (6, v54), (7, (.int .i64 x605)), (8, v606)] ∧ Heap w0 [oA (rList (rInt .i64)) v54 x52, oA (rList (rInt .i64)) v606 xs607] w ∧ res609 = .inl (x605, xs607)) ?_ ?_
    ·rintro a w ⟨x605, xs607, v606, S, H, rfl⟩
     have hm := ctl_inl hk613
     refine inBlock_norm ?_
     exact ⟨m477, Nat.lt_succ_self _, x605, xs607, v606, S.sub ⟨rfl, rfl, rfl, rfl, trivial⟩, H, it_cont hm hc479⟩
    ·skip
     refine loop_ghost (fun n a w => ∃ (x545 : Int), Slots a 79 [(0, p0), (6, v54), (7, (.int .i64 x266)), (8, v267), (9, (.int .i64 x545))] ∧ Heap w0 [oA (rList (rInt .i64)) v54 x52, oA (rList (rInt .i64)) v267 xs268] w ∧ iter f611 n (x545) = some res609) _ ⟨(0 : Int), S.sub ⟨rfl, rfl, rfl, rfl, rfl, trivial⟩, H, hit610⟩ ?_
     rintro n a w ⟨x545, S, H, hit610⟩
     obtain ⟨m614, o615, rfl, hm, hc616⟩ := iter_step hit610
     rw [hf612] at hm
     refine wp_seq (wp_seq (region_plain ?_))
     refine lq (.int .i64 x545) S (q_move rfl) fun a S => ?_
     refine lq p0 S (q_move rfl) fun a S => ?_
     refine lq p0 S (q_nilCheck rfl ((hat33 0 _ rfl).isP)) fun a S => ?_
     refine lq (pAdd p0 3) S (q_fieldAddr' 3 28 rfl ((hat33 0 _ rfl).isP) Tryz.underlying30 rfl Tryz.sizeOf28) fun a S => ?_
     refine lx_e v36 S trivial (by decide) rfl trivial (q_load1 rfl Tryz.isAgg28 (by rintro _ rfl; exact (At.of_add (m := 3) (j := 0) ((hat33 3 _ rfl).ext H.ext)))) (fun a S => ?_)
     refine lq (.int .i64 (a0.2.2.2.length : Int)) S (q_lenSl rfl (h37).isSl rfl Tryz.underlying28) fun a S => ?_
     refine lq (.bool (decide (x545 < (a0.2.2.2.length : Int)))) S (q_lss rfl rfl) fun a S => ?_
     refine lx_nil (thenN ?_)
     refine cond_b S rfl (fun hc617 => ?_) (fun hc617 => ?_)
     ·have hm := ite_t hc617 hm
      refine wp_skip (thenN ?_)
      refine wp_seq ?_
      refine wp_block ?_
      refine wp_seq ?_
      refine region_drawG (fun w1 => Heap w0 [oA (rList (rInt .i64)) v54 x52] w1) (fun i => [].contains i) mixed (by kernel_rfl) (fun w619 he618 => ?_)
      have H := H.later he618
      refine ⟨H.sel [0] (by decide), ?_⟩
      refine lq p0 S (q_move rfl) fun a S => ?_
      refine lq p0 S (q_nilCheck rfl ((hat33 0 _ rfl).isP)) fun a S => ?_
      refine lq (pAdd p0 3) S (q_fieldAddr' 3 28 rfl ((hat33 0 _ rfl).isP) Tryz.underlying30 rfl Tryz.sizeOf28) fun a S => ?_
      refine lq v36 S (q_load1 rfl Tryz.isAgg28 (fun w1 hC => (At.of_add (m := 3) (j := 0) ((hat33 3 _ rfl).ext hC.ext)))) fun a S => ?_
      refine lq (.int .i64 x545) S (q_move rfl) fun a S => ?_
      obtain ⟨x620, e621, hm⟩ := bind_some hm
      obtain ⟨c622, h623, hat624⟩ := (h37).elem (idx_some e621).2
      obtain ⟨c625, c626, rfl, h627, h628⟩ := h623
      obtain rfl := h627
      obtain ⟨c629, c630, rfl, h631, h632⟩ := h628
      obtain rfl := h631
      obtain rfl := h632
      have hlt := lt_of_idx (idx_some e621).2
      refine lq (ePtr v36 (x545.toNat * 3)) S (q_indexAddr rfl (h37).isSl rfl (idx_some e621).1 hlt Tryz.underlying28 Tryz.sizeOf72) fun a S => ?_
      refine lq (pAdd (ePtr v36 (x545.toNat * 3)) 0) S (q_fieldAddr' 0 2 rfl ((hat624 0 _ rfl).isP) Tryz.underlying72 rfl Tryz.sizeOf2) fun a S => ?_
      refine lq (.int .i64 x620.1) S (q_load1 rfl Tryz.isAgg2 (fun w1 hC => (At.of_add (m := 0) (j := 0) ((hat624 0 _ rfl).ext hC.ext)))) fun a S => ?_
      refine lq (.int .i64 x266) S (q_move rfl) fun a S => ?_
      refine lq (.bool (x620.1 == x266)) S (q_eql rfl rfl) fun a S => ?_
      refine lq (.bool (x620.1 == x266)) S (q_move rfl) fun a S => ?_
      obtain ⟨t633, e634, hm⟩ := bind_some hm
      refine lx_cut 18 (fun a w => Slots a 79 [(0, p0), (6, v54), (7, (.int .i64 x266)), (8, v267), (9, (.int .i64 x545)), (65, (.bool t633))] ∧ Heap w0 [oA (rList (rInt .i64)) v54 x52, oA (rList (rInt .i64)) v267 xs268] w) ?_ ?_
      ·by_cases hc635 : (x620.1 == x266) = true
       ·have hm := ite_t hc635 e634
        refine lx_q v54 S (want_b rfl rfl hc635) (by decide) (q_move rfl) (fun a S => ?_)
        refine lx_q p0 S (want_b rfl rfl hc635) (by decide) (q_move rfl) (fun a S => ?_)
        refine lx_q p0 S (want_b rfl rfl hc635) (by decide) (q_nilCheck rfl ((hat33 0 _ rfl).isP)) (fun a S => ?_)
        refine lx_q (pAdd p0 3) S (want_b rfl rfl hc635) (by decide) (q_fieldAddr' 3 28 rfl ((hat33 0 _ rfl).isP) Tryz.underlying30 rfl Tryz.sizeOf28) (fun a S => ?_)
        refine lx_q v36 S (want_b rfl rfl hc635) (by decide) (q_load1 rfl Tryz.isAgg28 (fun w1 hC => (At.of_add (m := 3) (j := 0) ((hat33 3 _ rfl).ext hC.ext)))) (fun a S => ?_)
        refine lx_q (.int .i64 x545) S (want_b rfl rfl hc635) (by decide) (q_move rfl) (fun a S => ?_)
        obtain ⟨x636, e637, hm⟩ := bind_some hm
        obtain ⟨c638, h639, hat640⟩ := (h37).elem (idx_some e637).2
        obtain ⟨c641, c642, rfl, h643, h644⟩ := h639
        obtain rfl := h643
        obtain ⟨c645, c646, rfl, h647, h648⟩ := h644
        obtain rfl := h647
        obtain rfl := h648
        have hlt := lt_of_idx (idx_some e637).2
        refine lx_q (ePtr v36 (x545.toNat * 3)) S (want_b rfl rfl hc635) (by decide) (q_indexAddr rfl (h37).isSl rfl (idx_some e637).1 hlt Tryz.underlying28 Tryz.sizeOf72) (fun a S => ?_)
        refine lx_q (pAdd (ePtr v36 (x545.toNat * 3)) 2) S (want_b rfl rfl hc635) (by decide) (q_fieldAddr' 2 2 rfl ((hat640 0 _ rfl).isP) Tryz.underlying72 rfl Tryz.sizeOf2) (fun a S => ?_)
        refine lx_q (.int .i64 x636.2.2) S (want_b rfl rfl hc635) (by decide) (q_load1 rfl Tryz.isAgg2 (fun w1 hC => (At.of_add (m := 2) (j := 0) ((hat640 2 _ rfl).ext hC.ext)))) (fun a S => ?_)
        obtain ⟨x649, e650, hm⟩ := bind_some hm
        have hlt := lt_of_idx (idx_some e650).2
        refine lx_q (ePtr v54 (x636.2.2.toNat * 1)) S (want_b rfl rfl hc635) (by decide) (q_indexAddr rfl (H.isSl 0 rfl) rfl (idx_some e650).1 hlt Tryz.underlying34 Tryz.sizeOf2) (fun a S => ?_)
        refine lx_q (.int .i64 x649) S (want_b rfl rfl hc635) (by decide) (q_load1 rfl Tryz.isAgg2 (fun w1 hC => ((hC.rdAt 0 rfl).elemAt (j := 0) (idx_some e650).2 (by intro B w cs h; obtain rfl := h; rfl)))) (fun a S => ?_)
        refine lx_q v54 S (want_b rfl rfl hc635) (by decide) (q_move rfl) (fun a S => ?_)
        refine lx_q (.int .i64 x266) S (want_b rfl rfl hc635) (by decide) (q_move rfl) (fun a S => ?_)
        obtain ⟨x651, e652, hm⟩ := bind_some hm
        have hlt := lt_of_idx (idx_some e652).2
        refine lx_q (ePtr v54 (x266.toNat * 1)) S (want_b rfl rfl hc635) (by decide) (q_indexAddr rfl (H.isSl 0 rfl) rfl (idx_some e652).1 hlt Tryz.underlying34 Tryz.sizeOf2) (fun a S => ?_)
        refine lx_q (.int .i64 x651) S (want_b rfl rfl hc635) (by decide) (q_load1 rfl Tryz.isAgg2 (fun w1 hC => ((hC.rdAt 0 rfl).elemAt (j := 0) (idx_some e652).2 (by intro B w cs h; obtain rfl := h; rfl)))) (fun a S => ?_)
        refine lx_q (.int .i64 (W (x651 - (1 : Int)))) S (want_b rfl rfl hc635) (by decide) (q_sub rfl rfl) (fun a S => ?_)
        refine lx_q (.bool (x649 == (W (x651 - (1 : Int))))) S (want_b rfl rfl hc635) (by decide) (q_eql rfl rfl) (fun a S => ?_)
        refine lq (.bool (x649 == (W (x651 - (1 : Int))))) S (q_pickT' rfl hc635 rfl) fun a S => ?_
        refine lx_nil ?_
        obtain rfl := Option.some.inj hm
        exact ⟨S.sub ⟨rfl, rfl, rfl, rfl, rfl, rfl, trivial⟩, H⟩
       ·have hm := ite_f (eq_false_of_ne_true hc635) e634
        have hc635 : (x620.1 == x266) = false := eq_false_of_ne_true hc635
        refine lx_skip S rfl rfl (isB_ne hc635) (by decide) (fun a S => ?_)
        refine lx_skip S rfl rfl (isB_ne hc635) (by decide) (fun a S => ?_)
        refine lx_skip S rfl rfl (isB_ne hc635) (by decide) (fun a S => ?_)
        refine lx_skip S rfl rfl (isB_ne hc635) (by decide) (fun a S => ?_)
        refine lx_skip S rfl rfl (isB_ne hc635) (by decide) (fun a S => ?_)
        refine lx_skip S rfl rfl (isB_ne hc635) (by decide) (fun a S => ?_)
        refine lx_skip S rfl rfl (isB_ne hc635) (by decide) (fun a S => ?_)
        refine lx_skip S rfl rfl (isB_ne hc635) (by decide) (fun a S => ?_)
        refine lx_skip S rfl rfl (isB_ne hc635) (by decide) (fun a S => ?_)
        refine lx_skip S rfl rfl (isB_ne hc635) (by decide) (fun a S => ?_)
        refine lx_skip S rfl rfl (isB_ne hc635) (by decide) (fun a S => ?_)
        refine lx_skip S rfl rfl (isB_ne hc635) (by decide) (fun a S => ?_)
        refine lx_skip S rfl rfl (isB_ne hc635) (by decide) (fun a S => ?_)
        refine lx_skip S rfl rfl (isB_ne hc635) (by decide) (fun a S => ?_)
        refine lx_skip S rfl rfl (isB_ne hc635) (by decide) (fun a S => ?_)
        refine lx_skip S rfl rfl (isB_ne hc635) (by decide) (fun a S => ?_)
        refine lx_skip S rfl rfl (isB_ne hc635) (by decide) (fun a S => ?_)
        refine lq (.bool false) S (q_pickF' rfl hc635 rfl) fun a S => ?_
        refine lx_nil ?_
        obtain rfl := Option.some.inj hm
        exact ⟨S.sub ⟨rfl, rfl, rfl, rfl, rfl, rfl, trivial⟩, H⟩
      ·rintro a w ⟨S, H⟩
       refine lx_nil (thenN ?_)
       refine cond_b S rfl (fun hc653 => ?_) (fun hc653 => ?_)
       ·have hm := ite_t hc653 hm
        refine wp_seq (region_plain ?_)
        refine lq v267 S (q_move rfl) fun a S => ?_
        refine lq (.int .i64 x545) S (q_move rfl) fun a S => ?_
        refine lx_buildSlice (r := (rInt .i64)) (xs := [x545]) (ps := [(0, [(.int .i64 x545)])]) (cs := [(.int .i64 x545)]) (parts := [(0, .tmp 67)]) S trivial (by decide) rfl (H.put0 (A := eA) rfl) rfl Tryz.underlying34 Tryz.sizeOf2 Tryz.zeroValue2 (by decide) ⟨rfl, rfl, Nat.le_of_ble_eq_true rfl, trivial⟩ (by intro zs hz; exact fill_dense hz ⟨rfl, trivial⟩ rfl rfl) rfl (by decide) (fun w F hA => by cases (show F = [] from hA); exact ⟨_, _, [(.int .i64 x545)], _, rfl, rfl, ⟨rfl, rfl⟩, ⟨rfl, rfl⟩⟩) (fun v654 w655 H => ⟨trivial, fun a S => ?_⟩)
        obtain ⟨x657, e658, hm⟩ := bind_some hm
        obtain ⟨hle, hap⟩ := app_some e658
        replace hap := hap.symm
        subst hap
        have H : Heap w0 [oA (rList (rInt .i64)) v654 [x545], oA (rList (rInt .i64)) v54 x52, oA (rList (rInt .i64)) v267 xs268] w655 := H.front 0 rfl
        have H : Heap w0 [oA (rList (rInt .i64)) v267 xs268, oA (rList (rInt .i64)) v654 [x545], oA (rList (rInt .i64)) v54 x52] w655 := H.front 2 rfl
        refine lx_appendOwn (r := (rInt .i64)) S trivial (by decide) rfl H rfl rfl Tryz.underlying34 Tryz.ti2 rfl rfl rfl (by decide) (by decide) hle (fun v659 w660 H => ⟨trivial, fun a S => ?_⟩)
        refine lq v659 S (q_assign rfl) fun a S => ?_
        refine lx_nil (thenN ?_)
        refine wp_seq (region_plain ?_)
        refine lq p0 S (q_move rfl) fun a S => ?_
        refine lq p0 S (q_nilCheck rfl ((hat33 0 _ rfl).isP)) fun a S => ?_
        refine lq (pAdd p0 3) S (q_fieldAddr' 3 28 rfl ((hat33 0 _ rfl).isP) Tryz.underlying30 rfl Tryz.sizeOf28) fun a S => ?_
        refine lx_e v36 S trivial (by decide) rfl trivial (q_load1 rfl Tryz.isAgg28 (by rintro _ rfl; exact (At.of_add (m := 3) (j := 0) ((hat33 3 _ rfl).ext H.ext)))) (fun a S => ?_)
        refine lq (.int .i64 x545) S (q_move rfl) fun a S => ?_
        obtain ⟨x662, e663, hm⟩ := bind_some hm
        obtain ⟨c664, h665, hat666⟩ := (h37).elem (idx_some e663).2
        obtain ⟨c667, c668, rfl, h669, h670⟩ := h665
        obtain rfl := h669
        obtain ⟨c671, c672, rfl, h673, h674⟩ := h670
        obtain rfl := h673
        obtain rfl := h674
        have hlt := lt_of_idx (idx_some e663).2
        refine lq (ePtr v36 (x545.toNat * 3)) S (q_indexAddr rfl (h37).isSl rfl (idx_some e663).1 hlt Tryz.underlying28 Tryz.sizeOf72) fun a S => ?_
        refine lq (pAdd (ePtr v36 (x545.toNat * 3)) 2) S (q_fieldAddr' 2 2 rfl ((hat666 0 _ rfl).isP) Tryz.underlying72 rfl Tryz.sizeOf2) fun a S => ?_
        refine lx_e (.int .i64 x662.2.2) S trivial (by decide) rfl trivial (q_load1 rfl Tryz.isAgg2 (by rintro _ rfl; exact (At.of_add (m := 2) (j := 0) ((hat666 2 _ rfl).ext H.ext)))) (fun a S => ?_)
        refine lq (.int .i64 x662.2.2) S (q_assign rfl) fun a S => ?_
        refine lx_nil (thenN ?_)
        refine wp_exit ?_
        refine inBlock_other (by decide) ?_
        refine then_exit ?_
        refine then_exit ?_
        refine inBlock_exit ?_
        obtain rfl := it_brk hm hc616
        have H : Heap w0 [oA (rList (rInt .i64)) v54 x52, oA (rList (rInt .i64)) v659 (xs268 ++ [x545])] w660 := H.front 1 rfl
        exact ⟨x662.2.2, (xs268 ++ [x545]), v659, S.sub ⟨rfl, rfl, rfl, rfl, trivial⟩, H, rfl⟩
       ·have hm := ite_f hc653 hm
        refine wp_skip ?_
        refine inBlock_norm ?_
        refine thenN ?_
        refine region_plain ?_
        refine lq (.int .i64 x545) S (q_move rfl) fun a S => ?_
        refine lq (.int .i64 (W (x545 + (1 : Int)))) S (q_add rfl rfl) fun a S => ?_
        refine lq (.int .i64 (W (x545 + (1 : Int)))) S (q_assign rfl) fun a S => ?_
        refine lx_nil ?_
        exact ⟨m614, Nat.lt_succ_self _, (W (x545 + (1 : Int))), S.sub ⟨rfl, rfl, rfl, rfl, rfl, trivial⟩, H, it_cont hm hc616⟩
     ·have hm := ite_f hc617 hm
      refine wp_exit ?_
      refine then_exit ?_
      refine then_exit ?_
      refine inBlock_exit ?_
      obtain rfl := it_brk hm hc616
      exact ⟨x266, xs268, v267, S.sub ⟨rfl, rfl, rfl, rfl, trivial⟩, H, rfl⟩
   ·have hm := ite_f hc485 hm
    refine wp_exit ?_
    refine then_exit ?_
    refine then_exit ?_
    refine inBlock_exit ?_
    obtain rfl := it_brk hm hc479
    have H : Heap w0 [oA (rList (rInt .i64)) v267 xs268] w := H.sel [1] (by decide)
    exact ⟨xs268, v267, S.sub ⟨rfl, trivial⟩, H, rfl⟩

/-- spec.ShortestPath -/
def spec_ShortestPath_m (fuel : Nat) (a0 : Timpl_Lts) (a1 : (List Int)) : Option (((List Int) × Int)) :=
  (spec_l11Is_m fuel (a0.1, a0.2.1, a0.2.2.1, a0.2.2.2)).bind fun x54 => (if (!x54) = true then some (([], (1 : Int))) else (spec_l00Rises_m fuel a1 (0 : Int) (W (a0.1 - (1 : Int)))).bind fun x61 => (if (!x61) = true then some (([], (2 : Int))) else (spec_l10Path_m fuel (a0.1, a0.2.1, a0.2.2.1, a0.2.2.2) a1).bind fun x68 => (if (!x68.2) = true then some (([], (3 : Int))) else some ((x68.1, (0 : Int))))))
set_option maxRecDepth 20000 in
theorem spec_ShortestPath_ok {w0 : World} {fuel : Nat} {p0 p1 : Value} {a0 : Timpl_Lts} {a1 : (List Int)} {r : ((List Int) × Int)} (h0 : Rd Rimpl_Lts w0 p0 a0) (h1 : Rd (rList (rInt .i64)) w0 p1 a1) (hm : spec_ShortestPath_m fuel a0 a1 = some r) :
  Calls Tryz.prog 53 #[p0, p1] w0 fun e w => ∃ (v0 : Value), e = .returned (.tuple #[v0, .int .i64 r.2]) ∧ Heap w0 [oA (rList (rInt .i64)) v0 r.1] w := by
 unfold spec_ShortestPath_m at hm
 have H := Heap.start w0
 obtain ⟨c31, rfl, h32⟩ := h0
 obtain ⟨c37, c38, rfl, h39, h40⟩ := h32
 obtain rfl := h39
 obtain ⟨c41, c42, rfl, h43, h44⟩ := h40
 obtain rfl := h43
 obtain ⟨c45, c46, rfl, h47, h48⟩ := h44
 obtain ⟨v33, rfl, h34⟩ := rd_list h47
 obtain ⟨v35, rfl, h36⟩ := rd_list h48
 refine enter (args := [(.agg #[(.int .i64 a0.1), (.int .i64 a0.2.1), v33, v35]), p1]) Tryz.func53 rfl 24 rfl (Nat.le_of_ble_eq_true rfl) (fun a S => ?_)
 refine wp_seq (region_plain ?_)
 refine lx_box S trivial (by decide) rfl H rfl rfl (fun b49 w50 H => ⟨trivial, fun a S => ?_⟩)
 refine lq (.slice none 0 0) S (q_assign rfl) fun a S => ?_
 refine lq (.int .i64 (0 : Int)) S (q_assign rfl) fun a S => ?_
 refine lx_nil (thenN ?_)
 refine wp_seq (wp_seq (region_plain ?_))
 obtain ⟨x54, e55, hm⟩ := bind_some hm
 refine lx_call (xs := [.tmp 2]) S trivial (by decide) rfl rfl Tryz.call70 ((spec_l11Is_ok (rdPtr_box H 0 rfl ⟨[(.int .i64 a0.1)], [(.int .i64 a0.2.1), v33, v35], rfl, rfl, ⟨[(.int .i64 a0.2.1)], [v33, v35], rfl, rfl, ⟨[v33], [v35], rfl, ((H.arg h34)).list_rd, ((H.arg h36)).list_rd⟩⟩⟩) e55).mono ?_)
 rintro e w52 ⟨rfl, Hc53⟩
 have H := H.call0 Hc53
 refine ⟨_, rfl, trivial, fun a S => ?_⟩
 refine lq (.bool (!x54)) S (q_not rfl) fun a S => ?_
 refine lx_nil (thenN ?_)
 refine cond_b S rfl (fun hc57 => ?_) (fun hc57 => ?_)
 ·have hm := ite_t hc57 hm
  refine wp_seq (region_plain ?_)
  refine lq (.slice none 0 0) S (q_assign rfl) fun a S => ?_
  refine lq (.int .i64 (1 : Int)) S (q_assign rfl) fun a S => ?_
  refine lx_nil (thenN ?_)
  refine wp_ret (then_ret ?_)
  obtain rfl := Option.some.inj hm
  have H : Heap w0 [oA (rList (rInt .i64)) (.slice none 0 0) ([] : List Int), bA b49 [(.int .i64 a0.1), (.int .i64 a0.2.1), v33, v35] 30] w52 := H.nilList (rInt .i64)
  have H : Heap w0 [oA (rList (rInt .i64)) (.slice none 0 0) ([] : List Int)] w52 := H.sel [0] (by decide)
  exact leave2 S rfl rfl rfl ⟨(.slice none 0 0), rfl, H⟩
 ·have hm := ite_f hc57 hm
  refine wp_skip (thenN ?_)
  refine wp_seq (wp_seq (region_plain ?_))
  refine lq p1 S (q_move rfl) fun a S => ?_
  refine lq (pAdd (bp b49) 0) S (q_fieldAddr' 0 2 rfl (isP_bp _) Tryz.underlying30 rfl Tryz.sizeOf2) fun a S => ?_
  refine lx_e (.int .i64 a0.1) S trivial (by decide) rfl trivial (q_load1 rfl Tryz.isAgg2 (by rintro _ rfl; exact (At.of_add (m := 0) (j := 0) (boxAt (i := 0) H rfl (j := 0) rfl)))) (fun a S => ?_)
  refine lq (.int .i64 (W (a0.1 - (1 : Int)))) S (q_sub rfl rfl) fun a S => ?_
  obtain ⟨x61, e62, hm⟩ := bind_some hm
  refine lx_call (xs := [.tmp 10, .const (.int .i64 (0)), .tmp 13]) S trivial (by decide) rfl rfl Tryz.call102 ((spec_l00Rises_ok (H.arg h1)   e62).mono ?_)
  rintro e w59 ⟨rfl, Hc60⟩
  have H := H.call0 Hc60
  refine ⟨_, rfl, trivial, fun a S => ?_⟩
  refine lq (.bool (!x61)) S (q_not rfl) fun a S => ?_
  refine lx_nil (thenN ?_)
  refine cond_b S rfl (fun hc64 => ?_) (fun hc64 => ?_)
  ·have hm := ite_t hc64 hm
   refine wp_seq (region_plain ?_)
   refine lq (.slice none 0 0) S (q_assign rfl) fun a S => ?_
   refine lq (.int .i64 (2 : Int)) S (q_assign rfl) fun a S => ?_
   refine lx_nil (thenN ?_)
   refine wp_ret (then_ret ?_)
   obtain rfl := Option.some.inj hm
   have H : Heap w0 [oA (rList (rInt .i64)) (.slice none 0 0) ([] : List Int), bA b49 [(.int .i64 a0.1), (.int .i64 a0.2.1), v33, v35] 30] w59 := H.nilList (rInt .i64)
   have H : Heap w0 [oA (rList (rInt .i64)) (.slice none 0 0) ([] : List Int)] w59 := H.sel [0] (by decide)
   exact leave2 S rfl rfl rfl ⟨(.slice none 0 0), rfl, H⟩
  ·have hm := ite_f hc64 hm
   refine wp_skip (thenN ?_)
   refine wp_seq (region_plain ?_)
   refine lq p1 S (q_move rfl) fun a S => ?_
   obtain ⟨x68, e69, hm⟩ := bind_some hm
   refine lx_call (xs := [.tmp 2, .tmp 17]) S trivial (by decide) rfl rfl Tryz.call103 ((spec_l10Path_ok (rdPtr_box H 0 rfl ⟨[(.int .i64 a0.1)], [(.int .i64 a0.2.1), v33, v35], rfl, rfl, ⟨[(.int .i64 a0.2.1)], [v33, v35], rfl, rfl, ⟨[v33], [v35], rfl, ((H.arg h34)).list_rd, ((H.arg h36)).list_rd⟩⟩⟩) (H.arg h1) e69).mono ?_)
   rintro e w66 ⟨v70, rfl, Hc67⟩
   have H := H.call1 Hc67
   refine ⟨_, rfl, trivial, fun a S => ?_⟩
   refine lq (.tuple #[v70, (.bool x68.2)]) S (q_move rfl) fun a S => ?_
   refine lq v70 S (q_extract rfl rfl) fun a S => ?_
   refine lq (.bool x68.2) S (q_extract rfl rfl) fun a S => ?_
   refine lq v70 S (q_assign rfl) fun a S => ?_
   refine lq (.bool x68.2) S (q_assign rfl) fun a S => ?_
   refine lx_nil (thenN ?_)
   refine wp_seq (wp_seq (region_plain ?_))
   refine lq (.bool x68.2) S (q_move rfl) fun a S => ?_
   refine lq (.bool (!x68.2)) S (q_not rfl) fun a S => ?_
   refine lx_nil (thenN ?_)
   refine cond_b S rfl (fun hc73 => ?_) (fun hc73 => ?_)
   ·have hm := ite_t hc73 hm
    refine wp_seq (region_plain ?_)
    refine lq (.slice none 0 0) S (q_assign rfl) fun a S => ?_
    refine lq (.int .i64 (3 : Int)) S (q_assign rfl) fun a S => ?_
    refine lx_nil (thenN ?_)
    refine wp_ret (then_ret ?_)
    obtain rfl := Option.some.inj hm
    have H : Heap w0 [oA (rList (rInt .i64)) (.slice none 0 0) ([] : List Int), oA (rList (rInt .i64)) v70 x68.1, bA b49 [(.int .i64 a0.1), (.int .i64 a0.2.1), v33, v35] 30] w66 := H.nilList (rInt .i64)
    have H : Heap w0 [oA (rList (rInt .i64)) (.slice none 0 0) ([] : List Int)] w66 := H.sel [0] (by decide)
    exact leave2 S rfl rfl rfl ⟨(.slice none 0 0), rfl, H⟩
   ·have hm := ite_f hc73 hm
    refine wp_skip (thenN ?_)
    refine wp_seq (region_plain ?_)
    refine lq v70 S (q_move rfl) fun a S => ?_
    refine lq v70 S (q_assign rfl) fun a S => ?_
    refine lq (.int .i64 (0 : Int)) S (q_assign rfl) fun a S => ?_
    refine lx_nil (thenN ?_)
    refine wp_ret ?_
    obtain rfl := Option.some.inj hm
    have H : Heap w0 [oA (rList (rInt .i64)) v70 x68.1] w66 := H.sel [0] (by decide)
    exact leave2 S rfl rfl rfl ⟨v70, rfl, H⟩

/-- (impl.Lts).shortest$1 -/
def impl_Lts_shortest_1_m (_ : Nat) (a0 : Timpl_Edge) (a1 : Int) (a2 : (List Int)) : Option (Bool) :=
  (if (a0.1 == a1) = true then (idx a2 a0.2.2).bind fun x57 => (idx a2 a1).bind fun x62 => some (x57 == (W (x62 - (1 : Int)))) else some false).bind fun t54 => some (t54)
set_option maxRecDepth 20000 in
theorem impl_Lts_shortest_1_ok {w0 : World} {fuel : Nat} {p0 p1 p2 : Value} {a0 : Timpl_Edge} {a1 : Int} {a2 : (List Int)} {r : Bool} (h0 : Rd Rimpl_Edge w0 p0 a0) (h1 : Rd (rPtr (rInt .i64)) w0 p1 a1) (h2 : Rd (rPtr (rList (rInt .i64))) w0 p2 a2) (hm : impl_Lts_shortest_1_m fuel a0 a1 a2 = some r) :
  Calls Tryz.prog 143 #[p0, p1, p2] w0 fun e w => e = .returned (.bool r) ∧ Heap w0 [] w := by
 unfold impl_Lts_shortest_1_m at hm
 have H := Heap.start w0
 obtain ⟨c31, rfl, h32⟩ := h0
 obtain ⟨c33, c34, rfl, h35, h36⟩ := h32
 obtain rfl := h35
 obtain ⟨c37, c38, rfl, h39, h40⟩ := h36
 obtain rfl := h39
 obtain rfl := h40
 obtain ⟨c41, h42, hat43⟩ := h1.ptr
 obtain rfl := h42
 obtain ⟨c44, h45, hat46⟩ := h2.ptr
 obtain ⟨v47, rfl, h48⟩ := rd_list h45
 refine enter (args := [(.agg #[(.int .i64 a0.1), (.int .i64 a0.2.1), (.int .i64 a0.2.2)]), p1, p2]) Tryz.func143 rfl 22 rfl (Nat.le_of_ble_eq_true rfl) (fun a S => ?_)
 refine wp_seq (region_plain ?_)
 refine lx_box S trivial (by decide) rfl H rfl rfl (fun b49 w50 H => ⟨trivial, fun a S => ?_⟩)
 refine lq (.bool false) S (q_assign rfl) fun a S => ?_
 refine lx_nil (thenN ?_)
 refine wp_seq ?_
 refine region_drawG (fun w1 => Heap w0 [bA b49 [(.int .i64 a0.1), (.int .i64 a0.2.1), (.int .i64 a0.2.2)] 72] w1) (fun i => [].contains i) mixed (by kernel_rfl) (fun w53 he52 => ?_)
 have H := H.later he52
 refine ⟨H.sel [0] (by decide), ?_⟩
 refine lq (pAdd (bp b49) 0) S (q_fieldAddr' 0 2 rfl (isP_bp _) Tryz.underlying72 rfl Tryz.sizeOf2) fun a S => ?_
 refine lq (.int .i64 a0.1) S (q_load1 rfl Tryz.isAgg2 (fun w1 hC => (At.of_add (m := 0) (j := 0) (boxAt (i := 0) hC rfl (j := 0) rfl)))) fun a S => ?_
 refine lq (.int .i64 a1) S (q_load1 rfl Tryz.isAgg2 (fun w1 hC => ((hat43 0 _ rfl).ext hC.ext))) fun a S => ?_
 refine lq (.bool (a0.1 == a1)) S (q_eql rfl rfl) fun a S => ?_
 refine lq (.bool (a0.1 == a1)) S (q_move rfl) fun a S => ?_
 obtain ⟨t54, e55, hm⟩ := bind_some hm
 refine lx_cut 12 (fun a w => Slots a 22 [(21, (.bool t54))] ∧ Heap w0 [] w) ?_ ?_
 ·by_cases hc56 : (a0.1 == a1) = true
  ·have hm := ite_t hc56 e55
   refine lx_q v47 S (want_b rfl rfl hc56) (by decide) (q_load1 rfl Tryz.isAgg34 (fun w1 hC => ((hat46 0 _ rfl).ext hC.ext))) (fun a S => ?_)
   refine lx_q (pAdd (bp b49) 2) S (want_b rfl rfl hc56) (by decide) (q_fieldAddr' 2 2 rfl (isP_bp _) Tryz.underlying72 rfl Tryz.sizeOf2) (fun a S => ?_)
   refine lx_q (.int .i64 a0.2.2) S (want_b rfl rfl hc56) (by decide) (q_load1 rfl Tryz.isAgg2 (fun w1 hC => (At.of_add (m := 2) (j := 0) (boxAt (i := 0) hC rfl (j := 2) rfl)))) (fun a S => ?_)
   obtain ⟨x57, e58, hm⟩ := bind_some hm
   obtain ⟨c59, h60, hat61⟩ := (h48).elem (idx_some e58).2
   obtain rfl := h60
   have hlt := lt_of_idx (idx_some e58).2
   refine lx_q (ePtr v47 (a0.2.2.toNat * 1)) S (want_b rfl rfl hc56) (by decide) (q_indexAddr rfl (h48).isSl rfl (idx_some e58).1 hlt Tryz.underlying34 Tryz.sizeOf2) (fun a S => ?_)
   refine lx_q (.int .i64 x57) S (want_b rfl rfl hc56) (by decide) (q_load1 rfl Tryz.isAgg2 (fun w1 hC => ((hat61 0 _ rfl).ext hC.ext))) (fun a S => ?_)
   refine lx_q v47 S (want_b rfl rfl hc56) (by decide) (q_load1 rfl Tryz.isAgg34 (fun w1 hC => ((hat46 0 _ rfl).ext hC.ext))) (fun a S => ?_)
   refine lx_q (.int .i64 a1) S (want_b rfl rfl hc56) (by decide) (q_load1 rfl Tryz.isAgg2 (fun w1 hC => ((hat43 0 _ rfl).ext hC.ext))) (fun a S => ?_)
   obtain ⟨x62, e63, hm⟩ := bind_some hm
   obtain ⟨c64, h65, hat66⟩ := (h48).elem (idx_some e63).2
   obtain rfl := h65
   have hlt := lt_of_idx (idx_some e63).2
   refine lx_q (ePtr v47 (a1.toNat * 1)) S (want_b rfl rfl hc56) (by decide) (q_indexAddr rfl (h48).isSl rfl (idx_some e63).1 hlt Tryz.underlying34 Tryz.sizeOf2) (fun a S => ?_)
   refine lx_q (.int .i64 x62) S (want_b rfl rfl hc56) (by decide) (q_load1 rfl Tryz.isAgg2 (fun w1 hC => ((hat66 0 _ rfl).ext hC.ext))) (fun a S => ?_)
   refine lx_q (.int .i64 (W (x62 - (1 : Int)))) S (want_b rfl rfl hc56) (by decide) (q_sub rfl rfl) (fun a S => ?_)
   refine lx_q (.bool (x57 == (W (x62 - (1 : Int))))) S (want_b rfl rfl hc56) (by decide) (q_eql rfl rfl) (fun a S => ?_)
   refine lq (.bool (x57 == (W (x62 - (1 : Int))))) S (q_pickT' rfl hc56 rfl) fun a S => ?_
   refine lx_nil ?_
   obtain rfl := Option.some.inj hm
   have H := H.sel [] (by decide)
   exact ⟨S.sub ⟨rfl, trivial⟩, H⟩
  ·have hm := ite_f (eq_false_of_ne_true hc56) e55
   have hc56 : (a0.1 == a1) = false := eq_false_of_ne_true hc56
   refine lx_skip S rfl rfl (isB_ne hc56) (by decide) (fun a S => ?_)
   refine lx_skip S rfl rfl (isB_ne hc56) (by decide) (fun a S => ?_)
   refine lx_skip S rfl rfl (isB_ne hc56) (by decide) (fun a S => ?_)
   refine lx_skip S rfl rfl (isB_ne hc56) (by decide) (fun a S => ?_)
   refine lx_skip S rfl rfl (isB_ne hc56) (by decide) (fun a S => ?_)
   refine lx_skip S rfl rfl (isB_ne hc56) (by decide) (fun a S => ?_)
   refine lx_skip S rfl rfl (isB_ne hc56) (by decide) (fun a S => ?_)
   refine lx_skip S rfl rfl (isB_ne hc56) (by decide) (fun a S => ?_)
   refine lx_skip S rfl rfl (isB_ne hc56) (by decide) (fun a S => ?_)
   refine lx_skip S rfl rfl (isB_ne hc56) (by decide) (fun a S => ?_)
   refine lx_skip S rfl rfl (isB_ne hc56) (by decide) (fun a S => ?_)
   refine lq (.bool false) S (q_pickF' rfl hc56 rfl) fun a S => ?_
   refine lx_nil ?_
   obtain rfl := Option.some.inj hm
   have H := H.sel [] (by decide)
   exact ⟨S.sub ⟨rfl, trivial⟩, H⟩
 ·rintro a w ⟨S, H⟩
  refine lq (.bool t54) S (q_assign rfl) fun a S => ?_
  refine lx_nil (thenN ?_)
  refine wp_ret ?_
  obtain rfl := Option.some.inj hm
  exact leave1 S rfl rfl ⟨rfl, H⟩

/-- (impl.Lts).shortest -/
def impl_Lts_shortest_m (fuel : Nat) (a0 : Timpl_Lts) (a1 : (List Int)) : Option (((List Int) × Bool)) :=
  (impl_Lts_distances_m fuel (a0.1, a0.2.1, a0.2.2.1, a0.2.2.2) a1 false).bind fun x54 => (idx x54 a0.2.1).bind fun x67 => (if (decide (x67 < (0 : Int))) = true then some (([], false)) else (iter (fun (s : (Int) × (List Int)) => (match s with | (x114, xs116) => (idx x54 x114).bind fun x169 => (if (decide ((0 : Int) < x169)) = true then (slices_IndexFunc__impl_Edge_impl_Edge_m fuel a0.2.2.2 (fun (z0 : Timpl_Edge) => impl_Lts_shortest_1_m fuel z0 x114 x54)).bind fun x177 => (app xs116 [x177]).bind fun x185 => (idx a0.2.2.2 x177).bind fun x190 => some (.inl (x190.2.2, x185)) else some (.inr (.inl (xs116)))) : Option (((Int) × (List Int)) ⊕ (((List Int)) ⊕ (((List Int) × Bool)))))) fuel (a0.2.1, [])).bind fun res160 => ctl (β := (List Int)) (ρ := ((List Int) × Bool)) (τ := ((List Int) × Bool)) res160 (fun (xs158) => some ((xs158, true))) (fun q => some (q)))
set_option maxRecDepth 20000 in
theorem impl_Lts_shortest_ok {w0 : World} {fuel : Nat} {p0 p1 : Value} {a0 : Timpl_Lts} {a1 : (List Int)} {r : ((List Int) × Bool)} (h0 : Rd Rimpl_Lts w0 p0 a0) (h1 : Rd (rList (rInt .i64)) w0 p1 a1) (hm : impl_Lts_shortest_m fuel a0 a1 = some r) :
  Calls Tryz.prog 105 #[p0, p1] w0 fun e w => ∃ (v0 : Value), e = .returned (.tuple #[v0, .bool r.2]) ∧ Heap w0 [oA (rList (rInt .i64)) v0 r.1] w := by
 unfold impl_Lts_shortest_m at hm
 have H := Heap.start w0
 obtain ⟨c31, rfl, h32⟩ := h0
 obtain ⟨c37, c38, rfl, h39, h40⟩ := h32
 obtain rfl := h39
 obtain ⟨c41, c42, rfl, h43, h44⟩ := h40
 obtain rfl := h43
 obtain ⟨c45, c46, rfl, h47, h48⟩ := h44
 obtain ⟨v33, rfl, h34⟩ := rd_list h47
 obtain ⟨v35, rfl, h36⟩ := rd_list h48
 refine enter (args := [(.agg #[(.int .i64 a0.1), (.int .i64 a0.2.1), v33, v35]), p1]) Tryz.func105 rfl 40 rfl (Nat.le_of_ble_eq_true rfl) (fun a S => ?_)
 refine wp_seq (region_plain ?_)
 refine lx_box S trivial (by decide) rfl H rfl rfl (fun b49 w50 H => ⟨trivial, fun a S => ?_⟩)
 refine lq (.slice none 0 0) S (q_assign rfl) fun a S => ?_
 refine lq (.bool false) S (q_assign rfl) fun a S => ?_
 refine lx_nil (thenN ?_)
 refine wp_seq (region_plain ?_)
 refine lx_e (.agg #[(.int .i64 a0.1), (.int .i64 a0.2.1), v33, v35]) S trivial (by decide) rfl trivial (q_loadA (cs := [(.int .i64 a0.1), (.int .i64 a0.2.1), v33, v35]) rfl (isP_bp _) Tryz.isAgg30 Tryz.sizeOf30 (by rintro _ rfl; exact (fun j u hu => boxAt (i := 0) H rfl hu))) (fun a S => ?_)
 refine lq p1 S (q_move rfl) fun a S => ?_
 obtain ⟨x54, e55, hm⟩ := bind_some hm
 refine lx_call (xs := [.tmp 10, .tmp 11, .const (.bool false)]) S trivial (by decide) rfl rfl Tryz.call89 ((impl_Lts_distances_ok ⟨[(.int .i64 a0.1), (.int .i64 a0.2.1), v33, v35], rfl, ⟨[(.int .i64 a0.1)], [(.int .i64 a0.2.1), v33, v35], rfl, rfl, ⟨[(.int .i64 a0.2.1)], [v33, v35], rfl, rfl, ⟨[v33], [v35], rfl, ((H.arg h34)).list_rd, ((H.arg h36)).list_rd⟩⟩⟩⟩ (H.arg h1)  e55).mono ?_)
 rintro e w52 ⟨v56, rfl, Hc53⟩
 have H := H.call1 Hc53
 refine ⟨_, rfl, trivial, fun a S => ?_⟩
 refine lx_alloc S trivial (by decide) rfl H Tryz.zeroValue34 rfl (fun b59 w60 H => ⟨trivial, fun a S => ?_⟩)
 refine lx_storeBox (o := 0) (i := 0) (us := [v56]) (cs' := [v56]) S trivial rfl H rfl rfl rfl (cells_sl (H.isSl 1 rfl)) Tryz.sizeOf34 (Nat.le_of_ble_eq_true rfl) (List.forall_mem_cons.2 ⟨one_sl (H.isSl 1 rfl), (fun _ h => nomatch h)⟩) rfl (fun w62 H => ⟨trivial, fun a S => ?_⟩)
 change Heap w0 [bA b59 [v56] 34, oA (rList (rInt .i64)) v56 x54, bA b49 [(.int .i64 a0.1), (.int .i64 a0.2.1), v33, v35] 30] w62 at H
 refine lx_nil (thenN ?_)
 refine wp_seq (region_plain ?_)
 refine lq (pAdd (bp b49) 1) S (q_fieldAddr' 1 2 rfl (isP_bp _) Tryz.underlying30 rfl Tryz.sizeOf2) fun a S => ?_
 refine lx_e (.int .i64 a0.2.1) S trivial (by decide) rfl trivial (q_load1 rfl Tryz.isAgg2 (by rintro _ rfl; exact (At.of_add (m := 1) (j := 0) (boxAt (i := 2) H rfl (j := 1) rfl)))) (fun a S => ?_)
 refine lx_alloc S trivial (by decide) rfl H Tryz.zeroValue2 rfl (fun b63 w64 H => ⟨trivial, fun a S => ?_⟩)
 refine lx_storeBox (o := 0) (i := 0) (us := [(.int .i64 a0.2.1)]) (cs' := [(.int .i64 a0.2.1)]) S trivial rfl H rfl rfl rfl rfl Tryz.sizeOf2 (Nat.le_of_ble_eq_true rfl) (List.forall_mem_cons.2 ⟨rfl, (fun _ h => nomatch h)⟩) rfl (fun w66 H => ⟨trivial, fun a S => ?_⟩)
 change Heap w0 [bA b63 [(.int .i64 a0.2.1)] 2, bA b59 [v56] 34, oA (rList (rInt .i64)) v56 x54, bA b49 [(.int .i64 a0.1), (.int .i64 a0.2.1), v33, v35] 30] w66 at H
 refine lx_nil (thenN ?_)
 refine wp_seq (wp_seq (region_plain ?_))
 refine lx_e v56 S trivial (by decide) rfl trivial (q_load1 rfl Tryz.isAgg34 (by rintro _ rfl; exact (boxAt (i := 1) H rfl (j := 0) rfl))) (fun a S => ?_)
 refine lx_e (.int .i64 a0.2.1) S trivial (by decide) rfl trivial (q_load1 rfl Tryz.isAgg2 (by rintro _ rfl; exact (boxAt (i := 0) H rfl (j := 0) rfl))) (fun a S => ?_)
 obtain ⟨x67, e68, hm⟩ := bind_some hm
 have hlt := lt_of_idx (idx_some e68).2
 refine lq (ePtr v56 (a0.2.1.toNat * 1)) S (q_indexAddr rfl (H.isSl 2 rfl) rfl (idx_some e68).1 hlt Tryz.underlying34 Tryz.sizeOf2) fun a S => ?_
 obtain ⟨c69, h70, hat71⟩ := (H.rdAt 2 rfl).elem (idx_some e68).2
 obtain rfl := h70
 refine lx_e (.int .i64 x67) S trivial (by decide) rfl trivial (q_load1 rfl Tryz.isAgg2 (by rintro _ rfl; exact (hat71 0 _ rfl))) (fun a S => ?_)
 refine lq (.bool (decide (x67 < (0 : Int)))) S (q_lss rfl rfl) fun a S => ?_
 refine lx_nil (thenN ?_)
 refine cond_b S rfl (fun hc72 => ?_) (fun hc72 => ?_)
 ·have hm := ite_t hc72 hm
  refine wp_seq (region_plain ?_)
  refine lq (.slice none 0 0) S (q_assign rfl) fun a S => ?_
  refine lq (.bool false) S (q_assign rfl) fun a S => ?_
  refine lx_nil (thenN ?_)
  refine wp_ret (then_ret ?_)
  obtain rfl := Option.some.inj hm
  have H : Heap w0 [oA (rList (rInt .i64)) (.slice none 0 0) ([] : List Int), bA b63 [(.int .i64 a0.2.1)] 2, bA b59 [v56] 34, oA (rList (rInt .i64)) v56 x54, bA b49 [(.int .i64 a0.1), (.int .i64 a0.2.1), v33, v35] 30] w66 := H.nilList (rInt .i64)
  have H : Heap w0 [oA (rList (rInt .i64)) (.slice none 0 0) ([] : List Int)] w66 := H.sel [0] (by decide)
  exact leave2 S rfl rfl rfl ⟨(.slice none 0 0), rfl, H⟩
 ·have hm := ite_f hc72 hm
  refine wp_skip (thenN ?_)
  refine wp_seq (region_plain ?_)
  refine lq (.slice none 0 0) S (q_assign rfl) fun a S => ?_
  refine lx_nil (thenN ?_)
  refine wp_seq ?_
  obtain ⟨res160, hit161, hk164⟩ := bind_some hm
  obtain ⟨f162, hf163, hit161⟩ := iter_name hit161
  refine block_loop (fun a w => ∃ (xs158 : List Int) (v157 : Value), Slots a 40 [(8, v157)] ∧ Heap w0 [oA (rList (rInt .i64)) v157 xs158] w ∧ res160 = .inl (xs158)) ?_ ?_
  ·rintro a w ⟨xs158, v157, S, H, rfl⟩
   have hm := ctl_inl hk164
   refine thenN ?_
   refine wp_seq (region_plain ?_)
   refine lq v157 S (q_move rfl) fun a S => ?_
   refine lq v157 S (q_assign rfl) fun a S => ?_
   refine lq (.bool true) S (q_assign rfl) fun a S => ?_
   refine lx_nil (thenN ?_)
   refine wp_ret ?_
   obtain rfl := Option.some.inj hm
   exact leave2 S rfl rfl rfl ⟨v157, rfl, H⟩
  ·skip
   have H : Heap w0 [oA (rList (rInt .i64)) (.slice none 0 0) ([] : List Int), bA b63 [(.int .i64 a0.2.1)] 2, bA b59 [v56] 34, oA (rList (rInt .i64)) v56 x54, bA b49 [(.int .i64 a0.1), (.int .i64 a0.2.1), v33, v35] 30] w66 := H.nilList (rInt .i64)
   have H : Heap w0 [bA b63 [(.int .i64 a0.2.1)] 2, oA (rList (rInt .i64)) (.slice none 0 0) ([] : List Int), bA b59 [v56] 34, oA (rList (rInt .i64)) v56 x54, bA b49 [(.int .i64 a0.1), (.int .i64 a0.2.1), v33, v35] 30] w66 := H.front 1 rfl
   have H : Heap w0 [oA (rList (rInt .i64)) v56 x54, bA b63 [(.int .i64 a0.2.1)] 2, oA (rList (rInt .i64)) (.slice none 0 0) ([] : List Int), bA b59 [v56] 34, bA b49 [(.int .i64 a0.1), (.int .i64 a0.2.1), v33, v35] 30] w66 := H.front 3 rfl
   have H : Heap w0 [bA b59 [v56] 34, oA (rList (rInt .i64)) v56 x54, bA b63 [(.int .i64 a0.2.1)] 2, oA (rList (rInt .i64)) (.slice none 0 0) ([] : List Int), bA b49 [(.int .i64 a0.1), (.int .i64 a0.2.1), v33, v35] 30] w66 := H.front 3 rfl
   have H : Heap w0 [bA b49 [(.int .i64 a0.1), (.int .i64 a0.2.1), v33, v35] 30, bA b59 [v56] 34, oA (rList (rInt .i64)) v56 x54, bA b63 [(.int .i64 a0.2.1)] 2, oA (rList (rInt .i64)) (.slice none 0 0) ([] : List Int)] w66 := H.front 4 rfl
   refine loop_ghost (fun n a w => ∃ (x114 : Int) (xs116 : List Int) (v115 : Value), Slots a 40 [(2, (bp b49)), (6, (bp b59)), (7, (bp b63)), (8, v115)] ∧ Heap w0 [bA b49 [(.int .i64 a0.1), (.int .i64 a0.2.1), v33, v35] 30, bA b59 [v56] 34, oA (rList (rInt .i64)) v56 x54, bA b63 [(.int .i64 x114)] 2, oA (rList (rInt .i64)) v115 xs116] w ∧ iter f162 n (x114, xs116) = some res160) _ ⟨a0.2.1, [], (.slice none 0 0), S.sub ⟨rfl, rfl, rfl, rfl, trivial⟩, H, hit161⟩ ?_
   rintro n a w ⟨x114, xs116, v115, S, H, hit161⟩
   obtain ⟨m166, o167, rfl, hm, hc168⟩ := iter_step hit161
   rw [hf163] at hm
   refine wp_seq (wp_seq (region_plain ?_))
   refine lx_e v56 S trivial (by decide) rfl trivial (q_load1 rfl Tryz.isAgg34 (by rintro _ rfl; exact (boxAt (i := 1) H rfl (j := 0) rfl))) (fun a S => ?_)
   refine lx_e (.int .i64 x114) S trivial (by decide) rfl trivial (q_load1 rfl Tryz.isAgg2 (by rintro _ rfl; exact (boxAt (i := 3) H rfl (j := 0) rfl))) (fun a S => ?_)
   obtain ⟨x169, e170, hm⟩ := bind_some hm
   have hlt := lt_of_idx (idx_some e170).2
   refine lq (ePtr v56 (x114.toNat * 1)) S (q_indexAddr rfl (H.isSl 2 rfl) rfl (idx_some e170).1 hlt Tryz.underlying34 Tryz.sizeOf2) fun a S => ?_
   obtain ⟨c171, h172, hat173⟩ := (H.rdAt 2 rfl).elem (idx_some e170).2
   obtain rfl := h172
   refine lx_e (.int .i64 x169) S trivial (by decide) rfl trivial (q_load1 rfl Tryz.isAgg2 (by rintro _ rfl; exact (hat173 0 _ rfl))) (fun a S => ?_)
   refine lq (.bool (decide ((0 : Int) < x169))) S (q_gtr rfl rfl) fun a S => ?_
   refine lx_nil (thenN ?_)
   refine cond_b S rfl (fun hc174 => ?_) (fun hc174 => ?_)
   ·have hm := ite_t hc174 hm
    refine wp_skip (thenN ?_)
    refine wp_block ?_
    refine wp_seq (region_plain ?_)
    refine lq (pAdd (bp b49) 3) S (q_fieldAddr' 3 28 rfl (isP_bp _) Tryz.underlying30 rfl Tryz.sizeOf28) fun a S => ?_
    refine lx_e v35 S trivial (by decide) rfl trivial (q_load1 rfl Tryz.isAgg28 (by rintro _ rfl; exact (At.of_add (m := 3) (j := 0) (boxAt (i := 0) H rfl (j := 3) rfl)))) (fun a S => ?_)
    refine lq (.func (.func 143) #[] #[(bp b63), (bp b59)]) S (q_makeFunc (xs := []) (ys := [.tmp 7, .tmp 6]) rfl rfl) fun a S => ?_
    obtain ⟨x177, e178, hm⟩ := bind_some hm
    have hcap179 : Rd (rPtr (rInt .i64)) w (bp b63) x114 := (rdPtr_box H 3 rfl rfl)
    have hcap180 : Rd (rPtr (rList (rInt .i64))) w (bp b59) x54 := (rdPtr_box H 1 rfl ((H.rdAt 2 rfl)).list_rd)
    refine lx_call (xs := [.tmp 26, .tmp 27]) S trivial (by decide) rfl rfl Tryz.call142 ((slices_IndexFunc__impl_Edge_impl_Edge_ok (f1 := 143) (fs1 := ([] : List Value)) (cp1 := ([(bp b63), (bp b59)] : List Value)) (a1 := (fun (z0 : Timpl_Edge) => impl_Lts_shortest_1_m fuel z0 x114 x54)) (H.arg h36) Tryz.call143 (fun he h0_ hm => impl_Lts_shortest_1_ok h0_ (hcap179.ext he) (hcap180.ext he) hm) e178).mono ?_)
    rintro e w175 ⟨rfl, Hc176⟩
    have H := H.call0 Hc176
    refine ⟨_, rfl, trivial, fun a S => ?_⟩
    refine lq (.int .i64 x177) S (q_assign rfl) fun a S => ?_
    refine lx_nil (thenN ?_)
    refine wp_seq (region_plain ?_)
    refine lq v115 S (q_move rfl) fun a S => ?_
    refine lq (.int .i64 x177) S (q_move rfl) fun a S => ?_
    refine lx_buildSlice (r := (rInt .i64)) (xs := [x177]) (ps := [(0, [(.int .i64 x177)])]) (cs := [(.int .i64 x177)]) (parts := [(0, .tmp 30)]) S trivial (by decide) rfl (H.put0 (A := eA) rfl) rfl Tryz.underlying34 Tryz.sizeOf2 Tryz.zeroValue2 (by decide) ⟨rfl, rfl, Nat.le_of_ble_eq_true rfl, trivial⟩ (by intro zs hz; exact fill_dense hz ⟨rfl, trivial⟩ rfl rfl) rfl (by decide) (fun w F hA => by cases (show F = [] from hA); exact ⟨_, _, [(.int .i64 x177)], _, rfl, rfl, ⟨rfl, rfl⟩, ⟨rfl, rfl⟩⟩) (fun v182 w183 H => ⟨trivial, fun a S => ?_⟩)
    obtain ⟨x185, e186, hm⟩ := bind_some hm
    obtain ⟨hle, hap⟩ := app_some e186
    replace hap := hap.symm
    subst hap
    have H : Heap w0 [oA (rList (rInt .i64)) v182 [x177], bA b49 [(.int .i64 a0.1), (.int .i64 a0.2.1), v33, v35] 30, bA b59 [v56] 34, oA (rList (rInt .i64)) v56 x54, bA b63 [(.int .i64 x114)] 2, oA (rList (rInt .i64)) v115 xs116] w183 := H.front 0 rfl
    have H : Heap w0 [oA (rList (rInt .i64)) v115 xs116, oA (rList (rInt .i64)) v182 [x177], bA b49 [(.int .i64 a0.1), (.int .i64 a0.2.1), v33, v35] 30, bA b59 [v56] 34, oA (rList (rInt .i64)) v56 x54, bA b63 [(.int .i64 x114)] 2] w183 := H.front 5 rfl
    refine lx_appendOwn (r := (rInt .i64)) S trivial (by decide) rfl H rfl rfl Tryz.underlying34 Tryz.ti2 rfl rfl rfl (by decide) (by decide) hle (fun v187 w188 H => ⟨trivial, fun a S => ?_⟩)
    refine lq v187 S (q_assign rfl) fun a S => ?_
    refine lx_nil (thenN ?_)
    refine region_plain ?_
    refine lq (pAdd (bp b49) 3) S (q_fieldAddr' 3 28 rfl (isP_bp _) Tryz.underlying30 rfl Tryz.sizeOf28) fun a S => ?_
    refine lx_e v35 S trivial (by decide) rfl trivial (q_load1 rfl Tryz.isAgg28 (by rintro _ rfl; exact (At.of_add (m := 3) (j := 0) (boxAt (i := 1) H rfl (j := 3) rfl)))) (fun a S => ?_)
    refine lq (.int .i64 x177) S (q_move rfl) fun a S => ?_
    obtain ⟨x190, e191, hm⟩ := bind_some hm
    obtain ⟨c192, h193, hat194⟩ := (h36).elem (idx_some e191).2
    obtain ⟨c195, c196, rfl, h197, h198⟩ := h193
    obtain rfl := h197
    obtain ⟨c199, c200, rfl, h201, h202⟩ := h198
    obtain rfl := h201
    obtain rfl := h202
    have hlt := lt_of_idx (idx_some e191).2
    refine lq (ePtr v35 (x177.toNat * 3)) S (q_indexAddr rfl (h36).isSl rfl (idx_some e191).1 hlt Tryz.underlying28 Tryz.sizeOf72) fun a S => ?_
    refine lq (pAdd (ePtr v35 (x177.toNat * 3)) 2) S (q_fieldAddr' 2 2 rfl ((hat194 0 _ rfl).isP) Tryz.underlying72 rfl Tryz.sizeOf2) fun a S => ?_
    refine lx_e (.int .i64 x190.2.2) S trivial (by decide) rfl trivial (q_load1 rfl Tryz.isAgg2 (by rintro _ rfl; exact (At.of_add (m := 2) (j := 0) ((hat194 2 _ rfl).ext H.ext)))) (fun a S => ?_)
    refine lx_storeBox (o := 0) (i := 4) (us := [(.int .i64 x190.2.2)]) (cs' := [(.int .i64 x190.2.2)]) S trivial rfl H rfl rfl rfl rfl Tryz.sizeOf2 (Nat.le_of_ble_eq_true rfl) (List.forall_mem_cons.2 ⟨rfl, (fun _ h => nomatch h)⟩) rfl (fun w203 H => ⟨trivial, fun a S => ?_⟩)
    change Heap w0 [oA (rList (rInt .i64)) v187 (xs116 ++ [x177]), bA b49 [(.int .i64 a0.1), (.int .i64 a0.2.1), v33, v35] 30, bA b59 [v56] 34, oA (rList (rInt .i64)) v56 x54, bA b63 [(.int .i64 x190.2.2)] 2] w203 at H
    refine lx_nil ?_
    refine inBlock_norm ?_
    have H : Heap w0 [bA b63 [(.int .i64 x190.2.2)] 2, oA (rList (rInt .i64)) v187 (xs116 ++ [x177]), bA b49 [(.int .i64 a0.1), (.int .i64 a0.2.1), v33, v35] 30, bA b59 [v56] 34, oA (rList (rInt .i64)) v56 x54] w203 := H.front 4 rfl
    have H : Heap w0 [oA (rList (rInt .i64)) v56 x54, bA b63 [(.int .i64 x190.2.2)] 2, oA (rList (rInt .i64)) v187 (xs116 ++ [x177]), bA b49 [(.int .i64 a0.1), (.int .i64 a0.2.1), v33, v35] 30, bA b59 [v56] 34] w203 := H.front 4 rfl
    have H : Heap w0 [bA b59 [v56] 34, oA (rList (rInt .i64)) v56 x54, bA b63 [(.int .i64 x190.2.2)] 2, oA (rList (rInt .i64)) v187 (xs116 ++ [x177]), bA b49 [(.int .i64 a0.1), (.int .i64 a0.2.1), v33, v35] 30] w203 := H.front 4 rfl
    have H : Heap w0 [bA b49 [(.int .i64 a0.1), (.int .i64 a0.2.1), v33, v35] 30, bA b59 [v56] 34, oA (rList (rInt .i64)) v56 x54, bA b63 [(.int .i64 x190.2.2)] 2, oA (rList (rInt .i64)) v187 (xs116 ++ [x177])] w203 := H.front 4 rfl
    exact ⟨m166, Nat.lt_succ_self _, x190.2.2, (xs116 ++ [x177]), v187, S.sub ⟨rfl, rfl, rfl, rfl, trivial⟩, H, it_cont hm hc168⟩
   ·have hm := ite_f hc174 hm
    refine wp_exit ?_
    refine then_exit ?_
    refine then_exit ?_
    refine inBlock_exit ?_
    obtain rfl := it_brk hm hc168
    have H : Heap w0 [oA (rList (rInt .i64)) v115 xs116] w := H.sel [4] (by decide)
    exact ⟨xs116, v115, S.sub ⟨rfl, trivial⟩, H, rfl⟩

/-- impl.ShortestPath -/
def impl_ShortestPath_m (fuel : Nat) (a0 : Timpl_Lts) (a1 : (List Int)) : Option (((List Int) × Int)) :=
  (impl_ValidLts_m fuel (a0.1, a0.2.1, a0.2.2.1, a0.2.2.2)).bind fun x54 => (if (!x54) = true then some (([], (1 : Int))) else (impl_Lts_statesOk_m fuel (a0.1, a0.2.1, a0.2.2.1, a0.2.2.2) a1).bind fun x61 => (if (!x61) = true then some (([], (2 : Int))) else (impl_Lts_shortest_m fuel (a0.1, a0.2.1, a0.2.2.1, a0.2.2.2) a1).bind fun x68 => (if (!x68.2) = true then some (([], (3 : Int))) else some ((x68.1, (0 : Int))))))
set_option maxRecDepth 20000 in
theorem impl_ShortestPath_ok {w0 : World} {fuel : Nat} {p0 p1 : Value} {a0 : Timpl_Lts} {a1 : (List Int)} {r : ((List Int) × Int)} (hG : Glob Tryz.prog w0) (h0 : Rd Rimpl_Lts w0 p0 a0) (h1 : Rd (rList (rInt .i64)) w0 p1 a1) (hm : impl_ShortestPath_m fuel a0 a1 = some r) :
  Calls Tryz.prog 54 #[p0, p1] w0 fun e w => ∃ (v0 : Value), e = .returned (.tuple #[v0, .int .i64 r.2]) ∧ Heap w0 [oA (rList (rInt .i64)) v0 r.1] w := by
 unfold impl_ShortestPath_m at hm
 have H := Heap.start w0
 obtain ⟨c31, rfl, h32⟩ := h0
 obtain ⟨c37, c38, rfl, h39, h40⟩ := h32
 obtain rfl := h39
 obtain ⟨c41, c42, rfl, h43, h44⟩ := h40
 obtain rfl := h43
 obtain ⟨c45, c46, rfl, h47, h48⟩ := h44
 obtain ⟨v33, rfl, h34⟩ := rd_list h47
 obtain ⟨v35, rfl, h36⟩ := rd_list h48
 refine enter (args := [(.agg #[(.int .i64 a0.1), (.int .i64 a0.2.1), v33, v35]), p1]) Tryz.func54 rfl 26 rfl (Nat.le_of_ble_eq_true rfl) (fun a S => ?_)
 refine wp_seq (region_plain ?_)
 refine lx_box S trivial (by decide) rfl H rfl rfl (fun b49 w50 H => ⟨trivial, fun a S => ?_⟩)
 refine lq (.slice none 0 0) S (q_assign rfl) fun a S => ?_
 refine lq (.int .i64 (0 : Int)) S (q_assign rfl) fun a S => ?_
 refine lx_nil (thenN ?_)
 refine wp_seq ?_
 refine wp_block ?_
 refine wp_seq (region_plain ?_)
 refine lx_e (.agg #[(.int .i64 a0.1), (.int .i64 a0.2.1), v33, v35]) S trivial (by decide) rfl trivial (q_loadA (cs := [(.int .i64 a0.1), (.int .i64 a0.2.1), v33, v35]) rfl (isP_bp _) Tryz.isAgg30 Tryz.sizeOf30 (by rintro _ rfl; exact (fun j u hu => boxAt (i := 0) H rfl hu))) (fun a S => ?_)
 obtain ⟨x54, e55, hm⟩ := bind_some hm
 refine lx_call (xs := [.tmp 9]) S trivial (by decide) rfl rfl Tryz.call22 ((impl_ValidLts_ok (hG.ext H.ext) ⟨[(.int .i64 a0.1), (.int .i64 a0.2.1), v33, v35], rfl, ⟨[(.int .i64 a0.1)], [(.int .i64 a0.2.1), v33, v35], rfl, rfl, ⟨[(.int .i64 a0.2.1)], [v33, v35], rfl, rfl, ⟨[v33], [v35], rfl, ((H.arg h34)).list_rd, ((H.arg h36)).list_rd⟩⟩⟩⟩ e55).mono ?_)
 rintro e w52 ⟨rfl, Hc53⟩
 have H := H.call0 Hc53
 refine ⟨_, rfl, trivial, fun a S => ?_⟩
 refine lq (.bool (!x54)) S (q_not rfl) fun a S => ?_
 refine lq (.bool (!x54)) S (q_assign rfl) fun a S => ?_
 refine lx_nil (thenN ?_)
 refine cond_b S rfl (fun hc57 => ?_) (fun hc57 => ?_)
 ·have hm := ite_t hc57 hm
  refine wp_seq (region_plain ?_)
  refine lq (.slice none 0 0) S (q_assign rfl) fun a S => ?_
  refine lq (.int .i64 (1 : Int)) S (q_assign rfl) fun a S => ?_
  refine lx_nil (thenN ?_)
  refine wp_ret (inBlock_ret ?_)
  refine then_ret ?_
  obtain rfl := Option.some.inj hm
  have H : Heap w0 [oA (rList (rInt .i64)) (.slice none 0 0) ([] : List Int), bA b49 [(.int .i64 a0.1), (.int .i64 a0.2.1), v33, v35] 30] w52 := H.nilList (rInt .i64)
  have H : Heap w0 [oA (rList (rInt .i64)) (.slice none 0 0) ([] : List Int)] w52 := H.sel [0] (by decide)
  exact leave2 S rfl rfl rfl ⟨(.slice none 0 0), rfl, H⟩
 ·have hm := ite_f hc57 hm
  refine wp_seq (region_plain ?_)
  refine lx_e (.agg #[(.int .i64 a0.1), (.int .i64 a0.2.1), v33, v35]) S trivial (by decide) rfl trivial (q_loadA (cs := [(.int .i64 a0.1), (.int .i64 a0.2.1), v33, v35]) rfl (isP_bp _) Tryz.isAgg30 Tryz.sizeOf30 (by rintro _ rfl; exact (fun j u hu => boxAt (i := 0) H rfl hu))) (fun a S => ?_)
  refine lq p1 S (q_move rfl) fun a S => ?_
  obtain ⟨x61, e62, hm⟩ := bind_some hm
  refine lx_call (xs := [.tmp 13, .tmp 14]) S trivial (by decide) rfl rfl Tryz.call104 ((impl_Lts_statesOk_ok ⟨[(.int .i64 a0.1), (.int .i64 a0.2.1), v33, v35], rfl, ⟨[(.int .i64 a0.1)], [(.int .i64 a0.2.1), v33, v35], rfl, rfl, ⟨[(.int .i64 a0.2.1)], [v33, v35], rfl, rfl, ⟨[v33], [v35], rfl, ((H.arg h34)).list_rd, ((H.arg h36)).list_rd⟩⟩⟩⟩ (H.arg h1) e62).mono ?_)
  rintro e w59 ⟨rfl, Hc60⟩
  have H := H.call0 Hc60
  refine ⟨_, rfl, trivial, fun a S => ?_⟩
  refine lq (.bool (!x61)) S (q_not rfl) fun a S => ?_
  refine lq (.bool (!x61)) S (q_assign rfl) fun a S => ?_
  refine lx_nil (thenN ?_)
  refine cond_b S rfl (fun hc64 => ?_) (fun hc64 => ?_)
  ·have hm := ite_t hc64 hm
   refine wp_seq (region_plain ?_)
   refine lq (.slice none 0 0) S (q_assign rfl) fun a S => ?_
   refine lq (.int .i64 (2 : Int)) S (q_assign rfl) fun a S => ?_
   refine lx_nil (thenN ?_)
   refine wp_ret (inBlock_ret ?_)
   refine then_ret ?_
   obtain rfl := Option.some.inj hm
   have H : Heap w0 [oA (rList (rInt .i64)) (.slice none 0 0) ([] : List Int), bA b49 [(.int .i64 a0.1), (.int .i64 a0.2.1), v33, v35] 30] w59 := H.nilList (rInt .i64)
   have H : Heap w0 [oA (rList (rInt .i64)) (.slice none 0 0) ([] : List Int)] w59 := H.sel [0] (by decide)
   exact leave2 S rfl rfl rfl ⟨(.slice none 0 0), rfl, H⟩
  ·have hm := ite_f hc64 hm
   refine wp_skip ?_
   refine inBlock_norm ?_
   refine thenN ?_
   refine wp_seq (region_plain ?_)
   refine lx_e (.agg #[(.int .i64 a0.1), (.int .i64 a0.2.1), v33, v35]) S trivial (by decide) rfl trivial (q_loadA (cs := [(.int .i64 a0.1), (.int .i64 a0.2.1), v33, v35]) rfl (isP_bp _) Tryz.isAgg30 Tryz.sizeOf30 (by rintro _ rfl; exact (fun j u hu => boxAt (i := 0) H rfl hu))) (fun a S => ?_)
   refine lq p1 S (q_move rfl) fun a S => ?_
   obtain ⟨x68, e69, hm⟩ := bind_some hm
   refine lx_call (xs := [.tmp 18, .tmp 19]) S trivial (by decide) rfl rfl Tryz.call105 ((impl_Lts_shortest_ok ⟨[(.int .i64 a0.1), (.int .i64 a0.2.1), v33, v35], rfl, ⟨[(.int .i64 a0.1)], [(.int .i64 a0.2.1), v33, v35], rfl, rfl, ⟨[(.int .i64 a0.2.1)], [v33, v35], rfl, rfl, ⟨[v33], [v35], rfl, ((H.arg h34)).list_rd, ((H.arg h36)).list_rd⟩⟩⟩⟩ (H.arg h1) e69).mono ?_)
   rintro e w66 ⟨v70, rfl, Hc67⟩
   have H := H.call1 Hc67
   refine ⟨_, rfl, trivial, fun a S => ?_⟩
   refine lq (.tuple #[v70, (.bool x68.2)]) S (q_move rfl) fun a S => ?_
   refine lq v70 S (q_extract rfl rfl) fun a S => ?_
   refine lq (.bool x68.2) S (q_extract rfl rfl) fun a S => ?_
   refine lq v70 S (q_assign rfl) fun a S => ?_
   refine lq (.bool x68.2) S (q_assign rfl) fun a S => ?_
   refine lx_nil (thenN ?_)
   refine wp_seq (wp_seq (region_plain ?_))
   refine lq (.bool x68.2) S (q_move rfl) fun a S => ?_
   refine lq (.bool (!x68.2)) S (q_not rfl) fun a S => ?_
   refine lx_nil (thenN ?_)
   refine cond_b S rfl (fun hc73 => ?_) (fun hc73 => ?_)
   ·have hm := ite_t hc73 hm
    refine wp_seq (region_plain ?_)
    refine lq (.slice none 0 0) S (q_assign rfl) fun a S => ?_
    refine lq (.int .i64 (3 : Int)) S (q_assign rfl) fun a S => ?_
    refine lx_nil (thenN ?_)
    refine wp_ret (then_ret ?_)
    obtain rfl := Option.some.inj hm
    have H : Heap w0 [oA (rList (rInt .i64)) (.slice none 0 0) ([] : List Int), oA (rList (rInt .i64)) v70 x68.1, bA b49 [(.int .i64 a0.1), (.int .i64 a0.2.1), v33, v35] 30] w66 := H.nilList (rInt .i64)
    have H : Heap w0 [oA (rList (rInt .i64)) (.slice none 0 0) ([] : List Int)] w66 := H.sel [0] (by decide)
    exact leave2 S rfl rfl rfl ⟨(.slice none 0 0), rfl, H⟩
   ·have hm := ite_f hc73 hm
    refine wp_skip (thenN ?_)
    refine wp_seq (region_plain ?_)
    refine lq v70 S (q_move rfl) fun a S => ?_
    refine lq v70 S (q_assign rfl) fun a S => ?_
    refine lq (.int .i64 (0 : Int)) S (q_assign rfl) fun a S => ?_
    refine lx_nil (thenN ?_)
    refine wp_ret ?_
    obtain rfl := Option.some.inj hm
    have H : Heap w0 [oA (rList (rInt .i64)) v70 x68.1] w66 := H.sel [0] (by decide)
    exact leave2 S rfl rfl rfl ⟨v70, rfl, H⟩

/-- laws.FnExactShortestPath -/
def laws_FnExactShortestPath_m (fuel : Nat) (a0 : Tlaws_Lts) (a1 : (List Int)) : Option (Bool) :=
  (if (decide ((1048576 : Int) < (a1.length : Int))) = true then some (true) else (laws_szLts_m fuel (a0.1, a0.2.1, a0.2.2.1, a0.2.2.2) (1048576 : Int)).bind fun x55 => (if (decide (x55 < (0 : Int))) = true then some (true) else (laws_toLts_m fuel (a0.1, a0.2.1, a0.2.2.1, a0.2.2.2)).bind fun x61 => (laws_toInt64S_m fuel a1).bind fun x70 => (spec_ShortestPath_m fuel (x61.1, x61.2.1, x61.2.2.1, x61.2.2.2) x70).bind fun x77 => (laws_toLts_m fuel (a0.1, a0.2.1, a0.2.2.1, a0.2.2.2)).bind fun x84 => (laws_toInt64S_m fuel a1).bind fun x97 => (impl_ShortestPath_m fuel (x84.1, x84.2.1, x84.2.2.1, x84.2.2.2) x97).bind fun x104 => (laws_eqInt64S_m fuel x104.1 x77.1).bind fun x111 => (if (!x111) = true then some true else some (x104.2 != x77.2)).bind fun t114 => (if t114 = true then some (false) else (laws_toLts_m fuel (a0.1, a0.2.1, a0.2.2.1, a0.2.2.2)).bind fun x122 => (laws_eqLts_m fuel (x84.1, x84.2.1, x84.2.2.1, x84.2.2.2) (x122.1, x122.2.1, x122.2.2.1, x122.2.2.2)).bind fun x131 => (if (!x131) = true then some (false) else (laws_toInt64S_m fuel a1).bind fun x137 => (laws_eqInt64S_m fuel x97 x137).bind fun x144 => (if (!x144) = true then some (false) else (laws_markLts_m fuel (x84.1, x84.2.1, x84.2.2.1, x84.2.2.2) (1 : Int)).bind fun x150 => (laws_markInt64S_m fuel x97 x150.1).bind fun x154 => (if (decide (x154.1 < (0 : Int))) = true then some true else (laws_eqInt64S_m fuel x104.1 x77.1).bind fun x161 => some (!x161)).bind fun t156 => (if t156 = true then some true else some (x104.2 != x77.2)).bind fun t164 => (if t164 = true then some (false) else (laws_markInt64S_m fuel x104.1 (1 : Int)).bind fun x170 => (laws_heldInt64S_m fuel x170.2 (1 : Int)).bind fun x174 => (if (decide (x174 < (0 : Int))) = true then some (false) else (if (x174 != x170.1) = true then some (false) else (laws_toLts_m fuel (a0.1, a0.2.1, a0.2.2.1, a0.2.2.2)).bind fun x181 => (laws_toInt64S_m fuel a1).bind fun x190 => (impl_ShortestPath_m fuel (x181.1, x181.2.1, x181.2.2.1, x181.2.2.2) x190).bind fun x197 => (laws_eqInt64S_m fuel x197.1 x77.1).bind fun x204 => (if (!x204) = true then some true else some (x197.2 != x77.2)).bind fun t207 => (if t207 = true then some (false) else (laws_heldInt64S_m fuel x170.2 (1 : Int)).bind fun x213 => (if (decide (x213 < (0 : Int))) = true then some (false) else (if (x213 != x170.1) = true then some (false) else some (true))))))))))))
set_option maxRecDepth 20000 in
theorem laws_FnExactShortestPath_ok {w0 : World} {fuel : Nat} {p0 p1 : Value} {a0 : Tlaws_Lts} {a1 : (List Int)} {r : Bool} (hG : Glob Tryz.prog w0) (h0 : Rd Rlaws_Lts w0 p0 a0) (h1 : Rd (rList (rInt .i64)) w0 p1 a1) (hm : laws_FnExactShortestPath_m fuel a0 a1 = some r) :
  Calls Tryz.prog 13 #[p0, p1] w0 fun e w => e = .returned (.bool r) ∧ Heap w0 [] w := by
 unfold laws_FnExactShortestPath_m at hm
 have H := Heap.start w0
 obtain ⟨c31, rfl, h32⟩ := h0
 obtain ⟨c37, c38, rfl, h39, h40⟩ := h32
 obtain rfl := h39
 obtain ⟨c41, c42, rfl, h43, h44⟩ := h40
 obtain rfl := h43
 obtain ⟨c45, c46, rfl, h47, h48⟩ := h44
 obtain ⟨v33, rfl, h34⟩ := rd_list h47
 obtain ⟨v35, rfl, h36⟩ := rd_list h48
 refine enter (args := [(.agg #[(.int .i64 a0.1), (.int .i64 a0.2.1), v33, v35]), p1]) Tryz.func13 rfl 117 rfl (Nat.le_of_ble_eq_true rfl) (fun a S => ?_)
 refine wp_seq (region_plain ?_)
 refine lx_box S trivial (by decide) rfl H rfl rfl (fun b49 w50 H => ⟨trivial, fun a S => ?_⟩)
 refine lq (.bool false) S (q_assign rfl) fun a S => ?_
 refine lx_nil (thenN ?_)
 refine wp_seq (wp_seq (region_plain ?_))
 refine lq p1 S (q_move rfl) fun a S => ?_
 refine lq (.int .i64 (a1.length : Int)) S (q_lenSl rfl (h1).isSl rfl Tryz.underlying34) fun a S => ?_
 refine lq (.bool (decide ((1048576 : Int) < (a1.length : Int)))) S (q_gtr rfl rfl) fun a S => ?_
 refine lx_nil (thenN ?_)
 refine cond_b S rfl (fun hc52 => ?_) (fun hc52 => ?_)
 ·have hm := ite_t hc52 hm
  refine wp_seq (region_plain ?_)
  refine lq (.bool true) S (q_assign rfl) fun a S => ?_
  refine lx_nil (thenN ?_)
  refine wp_ret (then_ret ?_)
  obtain rfl := Option.some.inj hm
  have H : Heap w0 [] w50 := H.sel [] (by decide)
  exact leave1 S rfl rfl ⟨rfl, H⟩
 ·have hm := ite_f hc52 hm
  refine wp_skip (thenN ?_)
  refine wp_seq (region_plain ?_)
  refine lq (.int .i64 (1048576 : Int)) S (q_assign rfl) fun a S => ?_
  refine lx_nil (thenN ?_)
  refine wp_seq (region_plain ?_)
  refine lx_e (.agg #[(.int .i64 a0.1), (.int .i64 a0.2.1), v33, v35]) S trivial (by decide) rfl trivial (q_loadA (cs := [(.int .i64 a0.1), (.int .i64 a0.2.1), v33, v35]) rfl (isP_bp _) Tryz.isAgg25 Tryz.sizeOf25 (by rintro _ rfl; exact (fun j u hu => boxAt (i := 0) H rfl hu))) (fun a S => ?_)
  refine lq (.int .i64 (1048576 : Int)) S (q_move rfl) fun a S => ?_
  obtain ⟨x55, e56, hm⟩ := bind_some hm
  refine lx_call (xs := [.tmp 20, .tmp 21]) S trivial (by decide) rfl rfl Tryz.call19 ((laws_szLts_ok ⟨[(.int .i64 a0.1), (.int .i64 a0.2.1), v33, v35], rfl, ⟨[(.int .i64 a0.1)], [(.int .i64 a0.2.1), v33, v35], rfl, rfl, ⟨[(.int .i64 a0.2.1)], [v33, v35], rfl, rfl, ⟨[v33], [v35], rfl, ((H.arg h34)).list_rd, ((H.arg h36)).list_rd⟩⟩⟩⟩  e56).mono ?_)
  rintro e w53 ⟨rfl, Hc54⟩
  have H := H.call0 Hc54
  refine ⟨_, rfl, trivial, fun a S => ?_⟩
  refine lq (.int .i64 x55) S (q_assign rfl) fun a S => ?_
  refine lx_nil (thenN ?_)
  refine wp_seq (wp_seq (region_plain ?_))
  refine lq (.int .i64 x55) S (q_move rfl) fun a S => ?_
  refine lq (.bool (decide (x55 < (0 : Int)))) S (q_lss rfl rfl) fun a S => ?_
  refine lx_nil (thenN ?_)
  refine cond_b S rfl (fun hc58 => ?_) (fun hc58 => ?_)
  ·have hm := ite_t hc58 hm
   refine wp_seq (region_plain ?_)
   refine lq (.bool true) S (q_assign rfl) fun a S => ?_
   refine lx_nil (thenN ?_)
   refine wp_ret (then_ret ?_)
   obtain rfl := Option.some.inj hm
   have H : Heap w0 [] w53 := H.sel [] (by decide)
   exact leave1 S rfl rfl ⟨rfl, H⟩
  ·have hm := ite_f hc58 hm
   refine wp_skip (thenN ?_)
   refine wp_seq (region_plain ?_)
   refine lx_e (.agg #[(.int .i64 a0.1), (.int .i64 a0.2.1), v33, v35]) S trivial (by decide) rfl trivial (q_loadA (cs := [(.int .i64 a0.1), (.int .i64 a0.2.1), v33, v35]) rfl (isP_bp _) Tryz.isAgg25 Tryz.sizeOf25 (by rintro _ rfl; exact (fun j u hu => boxAt (i := 0) H rfl hu))) (fun a S => ?_)
   obtain ⟨x61, e62, hm⟩ := bind_some hm
   refine lx_call (xs := [.tmp 26]) S trivial (by decide) rfl rfl Tryz.call21 ((laws_toLts_ok ⟨[(.int .i64 a0.1), (.int .i64 a0.2.1), v33, v35], rfl, ⟨[(.int .i64 a0.1)], [(.int .i64 a0.2.1), v33, v35], rfl, rfl, ⟨[(.int .i64 a0.2.1)], [v33, v35], rfl, rfl, ⟨[v33], [v35], rfl, ((H.arg h34)).list_rd, ((H.arg h36)).list_rd⟩⟩⟩⟩ e62).mono ?_)
   rintro e w59 ⟨v63, v64, rfl, Hc60⟩
   have H := H.call2 Hc60
   refine ⟨_, rfl, trivial, fun a S => ?_⟩
   refine lq p1 S (q_move rfl) fun a S => ?_
   obtain ⟨x70, e71, hm⟩ := bind_some hm
   refine lx_call (xs := [.tmp 28]) S trivial (by decide) rfl rfl Tryz.call27 ((laws_toInt64S_ok (H.arg h1) e71).mono ?_)
   rintro e w68 ⟨v72, rfl, Hc69⟩
   have H := H.call1 Hc69
   refine ⟨_, rfl, trivial, fun a S => ?_⟩
   obtain ⟨x77, e78, hm⟩ := bind_some hm
   refine lx_call (xs := [.tmp 27, .tmp 29]) S trivial (by decide) rfl rfl Tryz.call53 ((spec_ShortestPath_ok ⟨[(.int .i64 x61.1), (.int .i64 x61.2.1), v63, v64], rfl, ⟨[(.int .i64 x61.1)], [(.int .i64 x61.2.1), v63, v64], rfl, rfl, ⟨[(.int .i64 x61.2.1)], [v63, v64], rfl, rfl, ⟨[v63], [v64], rfl, ((H.rdAt 1 rfl)).list_rd, ((H.rdAt 2 rfl)).list_rd⟩⟩⟩⟩ (H.rdAt 0 rfl) e78).mono ?_)
   rintro e w75 ⟨v79, rfl, Hc76⟩
   have H := H.call1 Hc76
   refine ⟨_, rfl, trivial, fun a S => ?_⟩
   refine lq (.tuple #[v79, (.int .i64 x77.2)]) S (q_move rfl) fun a S => ?_
   refine lq v79 S (q_extract rfl rfl) fun a S => ?_
   refine lq (.int .i64 x77.2) S (q_extract rfl rfl) fun a S => ?_
   refine lq v79 S (q_assign rfl) fun a S => ?_
   refine lq (.int .i64 x77.2) S (q_assign rfl) fun a S => ?_
   refine lx_nil (thenN ?_)
   refine wp_seq (region_plain ?_)
   refine lx_e (.agg #[(.int .i64 a0.1), (.int .i64 a0.2.1), v33, v35]) S trivial (by decide) rfl trivial (q_loadA (cs := [(.int .i64 a0.1), (.int .i64 a0.2.1), v33, v35]) rfl (isP_bp _) Tryz.isAgg25 Tryz.sizeOf25 (by rintro _ rfl; exact (fun j u hu => boxAt (i := 4) H rfl hu))) (fun a S => ?_)
   obtain ⟨x84, e85, hm⟩ := bind_some hm
   refine lx_call (xs := [.tmp 33]) S trivial (by decide) rfl rfl Tryz.call21 ((laws_toLts_ok ⟨[(.int .i64 a0.1), (.int .i64 a0.2.1), v33, v35], rfl, ⟨[(.int .i64 a0.1)], [(.int .i64 a0.2.1), v33, v35], rfl, rfl, ⟨[(.int .i64 a0.2.1)], [v33, v35], rfl, rfl, ⟨[v33], [v35], rfl, ((H.arg h34)).list_rd, ((H.arg h36)).list_rd⟩⟩⟩⟩ e85).mono ?_)
   rintro e w82 ⟨v86, v87, rfl, Hc83⟩
   have H := H.call2 Hc83
   refine ⟨_, rfl, trivial, fun a S => ?_⟩
   refine lx_alloc S trivial (by decide) rfl H Tryz.zeroValue30 rfl (fun b91 w92 H => ⟨trivial, fun a S => ?_⟩)
   refine lx_storeBox (o := 0) (i := 0) (us := [(.int .i64 x84.1), (.int .i64 x84.2.1), v86, v87]) (cs' := [(.int .i64 x84.1), (.int .i64 x84.2.1), v86, v87]) S trivial rfl H rfl rfl rfl rfl Tryz.sizeOf30 (Nat.le_of_ble_eq_true rfl) (List.forall_mem_cons.2 ⟨rfl, (List.forall_mem_cons.2 ⟨rfl, (List.forall_mem_cons.2 ⟨one_sl (H.isSl 1 rfl), (List.forall_mem_cons.2 ⟨one_sl (H.isSl 2 rfl), (fun _ h => nomatch h)⟩)⟩)⟩)⟩) rfl (fun w94 H => ⟨trivial, fun a S => ?_⟩)
   change Heap w0 [bA b91 [(.int .i64 x84.1), (.int .i64 x84.2.1), v86, v87] 30, oA (rList rStr) v86 x84.2.2.1, oA (rList Rimpl_Edge) v87 x84.2.2.2, oA (rList (rInt .i64)) v79 x77.1, oA (rList (rInt .i64)) v72 x70, oA (rList rStr) v63 x61.2.2.1, oA (rList Rimpl_Edge) v64 x61.2.2.2, bA b49 [(.int .i64 a0.1), (.int .i64 a0.2.1), v33, v35] 25] w94 at H
   refine lx_nil (thenN ?_)
   refine wp_seq (region_plain ?_)
   refine lq p1 S (q_move rfl) fun a S => ?_
   obtain ⟨x97, e98, hm⟩ := bind_some hm
   refine lx_call (xs := [.tmp 35]) S trivial (by decide) rfl rfl Tryz.call27 ((laws_toInt64S_ok (H.arg h1) e98).mono ?_)
   rintro e w95 ⟨v99, rfl, Hc96⟩
   have H := H.call1 Hc96
   refine ⟨_, rfl, trivial, fun a S => ?_⟩
   refine lq v99 S (q_assign rfl) fun a S => ?_
   refine lx_nil (thenN ?_)
   refine wp_seq (region_plain ?_)
   refine lx_e (.agg #[(.int .i64 x84.1), (.int .i64 x84.2.1), v86, v87]) S trivial (by decide) rfl trivial (q_loadA (cs := [(.int .i64 x84.1), (.int .i64 x84.2.1), v86, v87]) rfl (isP_bp _) Tryz.isAgg30 Tryz.sizeOf30 (by rintro _ rfl; exact (fun j u hu => boxAt (i := 1) H rfl hu))) (fun a S => ?_)
   refine lq v99 S (q_move rfl) fun a S => ?_
   obtain ⟨x104, e105, hm⟩ := bind_some hm
   refine lx_call (xs := [.tmp 38, .tmp 39]) S trivial (by decide) rfl rfl Tryz.call54 ((impl_ShortestPath_ok (hG.ext H.ext) ⟨[(.int .i64 x84.1), (.int .i64 x84.2.1), v86, v87], rfl, ⟨[(.int .i64 x84.1)], [(.int .i64 x84.2.1), v86, v87], rfl, rfl, ⟨[(.int .i64 x84.2.1)], [v86, v87], rfl, rfl, ⟨[v86], [v87], rfl, ((H.rdAt 2 rfl)).list_rd, ((H.rdAt 3 rfl)).list_rd⟩⟩⟩⟩ (H.rdAt 0 rfl) e105).mono ?_)
   rintro e w102 ⟨v106, rfl, Hc103⟩
   have H := H.call1 Hc103
   refine ⟨_, rfl, trivial, fun a S => ?_⟩
   refine lq (.tuple #[v106, (.int .i64 x104.2)]) S (q_move rfl) fun a S => ?_
   refine lq v106 S (q_extract rfl rfl) fun a S => ?_
   refine lq (.int .i64 x104.2) S (q_extract rfl rfl) fun a S => ?_
   refine lq v106 S (q_assign rfl) fun a S => ?_
   refine lq (.int .i64 x104.2) S (q_assign rfl) fun a S => ?_
   refine lx_nil (thenN ?_)
   refine wp_seq (wp_seq (region_plain ?_))
   refine lq v106 S (q_move rfl) fun a S => ?_
   refine lq v79 S (q_move rfl) fun a S => ?_
   obtain ⟨x111, e112, hm⟩ := bind_some hm
   refine lx_call (xs := [.tmp 43, .tmp 44]) S trivial (by decide) rfl rfl Tryz.call29 ((laws_eqInt64S_ok (H.rdAt 0 rfl) (H.rdAt 5 rfl) e112).mono ?_)
   rintro e w109 ⟨rfl, Hc110⟩
   have H := H.call0 Hc110
   refine ⟨_, rfl, trivial, fun a S => ?_⟩
   refine lq (.bool (!x111)) S (q_not rfl) fun a S => ?_
   refine lq (.bool (!x111)) S (q_move rfl) fun a S => ?_
   obtain ⟨t114, e115, hm⟩ := bind_some hm
   refine lx_cut 4 (fun a w => Slots a 117 [(1, p1), (2, (bp b49)), (6, v79), (7, (.int .i64 x77.2)), (8, (bp b91)), (9, v99), (10, v106), (11, (.int .i64 x104.2)), (51, (.bool t114))] ∧ Heap w0 [oA (rList (rInt .i64)) v106 x104.1, oA (rList (rInt .i64)) v99 x97, bA b91 [(.int .i64 x84.1), (.int .i64 x84.2.1), v86, v87] 30, oA (rList rStr) v86 x84.2.2.1, oA (rList Rimpl_Edge) v87 x84.2.2.2, oA (rList (rInt .i64)) v79 x77.1, bA b49 [(.int .i64 a0.1), (.int .i64 a0.2.1), v33, v35] 25] w) ?_ ?_
   ·by_cases hc116 : (!x111) = true
    ·have hm := ite_t hc116 e115
     refine lx_skip S rfl rfl (isB_ne hc116) (by decide) (fun a S => ?_)
     refine lx_skip S rfl rfl (isB_ne hc116) (by decide) (fun a S => ?_)
     refine lx_skip S rfl rfl (isB_ne hc116) (by decide) (fun a S => ?_)
     refine lq (.bool true) S (q_pickT' rfl hc116 rfl) fun a S => ?_
     refine lx_nil ?_
     obtain rfl := Option.some.inj hm
     have H := H.sel [0, 1, 2, 3, 4, 5, 9] (by decide)
     exact ⟨S.sub ⟨rfl, rfl, rfl, rfl, rfl, rfl, rfl, rfl, rfl, trivial⟩, H⟩
    ·have hm := ite_f (eq_false_of_ne_true hc116) e115
     have hc116 : (!x111) = false := eq_false_of_ne_true hc116
     refine lx_q (.int .i64 x104.2) S (want_b rfl rfl hc116) (by decide) (q_move rfl) (fun a S => ?_)
     refine lx_q (.int .i64 x77.2) S (want_b rfl rfl hc116) (by decide) (q_move rfl) (fun a S => ?_)
     refine lx_q (.bool (x104.2 != x77.2)) S (want_b rfl rfl hc116) (by decide) (q_neq rfl rfl) (fun a S => ?_)
     refine lq (.bool (x104.2 != x77.2)) S (q_pickF' rfl hc116 rfl) fun a S => ?_
     refine lx_nil ?_
     obtain rfl := Option.some.inj hm
     have H := H.sel [0, 1, 2, 3, 4, 5, 9] (by decide)
     exact ⟨S.sub ⟨rfl, rfl, rfl, rfl, rfl, rfl, rfl, rfl, rfl, trivial⟩, H⟩
   ·rintro a w ⟨S, H⟩
    refine lx_nil (thenN ?_)
    refine cond_b S rfl (fun hc117 => ?_) (fun hc117 => ?_)
    ·have hm := ite_t hc117 hm
     refine wp_seq (region_plain ?_)
     refine lq (.bool false) S (q_assign rfl) fun a S => ?_
     refine lx_nil (thenN ?_)
     refine wp_ret (then_ret ?_)
     obtain rfl := Option.some.inj hm
     have H : Heap w0 [] w := H.sel [] (by decide)
     exact leave1 S rfl rfl ⟨rfl, H⟩
    ·have hm := ite_f hc117 hm
     refine wp_skip (thenN ?_)
     refine wp_seq ?_
     refine wp_seq ?_
     refine region_drawG (fun w1 => Heap w0 [bA b91 [(.int .i64 x84.1), (.int .i64 x84.2.1), v86, v87] 30, bA b49 [(.int .i64 a0.1), (.int .i64 a0.2.1), v33, v35] 25] w1) (fun i => [2, 3].contains i) mixed (by kernel_rfl) (fun w119 he118 => ?_)
     have H := H.later he118
     refine ⟨H.sel [2, 6] (by decide), ?_⟩
     refine lq (.agg #[(.int .i64 x84.1), (.int .i64 x84.2.1), v86, v87]) S (q_loadA (cs := [(.int .i64 x84.1), (.int .i64 x84.2.1), v86, v87]) rfl (isP_bp _) Tryz.isAgg30 Tryz.sizeOf30 (fun w1 hC => (fun j u hu => boxAt (i := 0) hC rfl hu))) fun a S => ?_
     refine lq (.agg #[(.int .i64 a0.1), (.int .i64 a0.2.1), v33, v35]) S (q_loadA (cs := [(.int .i64 a0.1), (.int .i64 a0.2.1), v33, v35]) rfl (isP_bp _) Tryz.isAgg25 Tryz.sizeOf25 (fun w1 hC => (fun j u hu => boxAt (i := 1) hC rfl hu))) fun a S => ?_
     obtain ⟨x122, e123, hm⟩ := bind_some hm
     refine lx_call (xs := [.tmp 53]) S trivial (by decide) rfl rfl Tryz.call21 ((laws_toLts_ok ⟨[(.int .i64 a0.1), (.int .i64 a0.2.1), v33, v35], rfl, ⟨[(.int .i64 a0.1)], [(.int .i64 a0.2.1), v33, v35], rfl, rfl, ⟨[(.int .i64 a0.2.1)], [v33, v35], rfl, rfl, ⟨[v33], [v35], rfl, ((H.arg h34)).list_rd, ((H.arg h36)).list_rd⟩⟩⟩⟩ e123).mono ?_)
     rintro e w120 ⟨v124, v125, rfl, Hc121⟩
     have H := H.call2 Hc121
     refine ⟨_, rfl, H.sel [4, 8] (by decide), fun a S => ?_⟩
     obtain ⟨x131, e132, hm⟩ := bind_some hm
     refine lx_call (xs := [.tmp 52, .tmp 54]) S trivial (by decide) rfl rfl Tryz.call23 ((laws_eqLts_ok ⟨[(.int .i64 x84.1), (.int .i64 x84.2.1), v86, v87], rfl, ⟨[(.int .i64 x84.1)], [(.int .i64 x84.2.1), v86, v87], rfl, rfl, ⟨[(.int .i64 x84.2.1)], [v86, v87], rfl, rfl, ⟨[v86], [v87], rfl, ((H.rdAt 5 rfl)).list_rd, ((H.rdAt 6 rfl)).list_rd⟩⟩⟩⟩ ⟨[(.int .i64 x122.1), (.int .i64 x122.2.1), v124, v125], rfl, ⟨[(.int .i64 x122.1)], [(.int .i64 x122.2.1), v124, v125], rfl, rfl, ⟨[(.int .i64 x122.2.1)], [v124, v125], rfl, rfl, ⟨[v124], [v125], rfl, ((H.rdAt 0 rfl)).list_rd, ((H.rdAt 1 rfl)).list_rd⟩⟩⟩⟩ e132).mono ?_)
     rintro e w129 ⟨rfl, Hc130⟩
     have H := H.call0 Hc130
     refine ⟨_, rfl, H.sel [4, 8] (by decide), fun a S => ?_⟩
     refine lq (.bool (!x131)) S (q_not rfl) fun a S => ?_
     refine lx_nil (thenN ?_)
     refine cond_b S rfl (fun hc134 => ?_) (fun hc134 => ?_)
     ·have hm := ite_t hc134 hm
      refine wp_seq (region_plain ?_)
      refine lq (.bool false) S (q_assign rfl) fun a S => ?_
      refine lx_nil (thenN ?_)
      refine wp_ret (then_ret ?_)
      obtain rfl := Option.some.inj hm
      have H : Heap w0 [] w129 := H.sel [] (by decide)
      exact leave1 S rfl rfl ⟨rfl, H⟩
     ·have hm := ite_f hc134 hm
      refine wp_skip (thenN ?_)
      refine wp_seq (wp_seq (region_plain ?_))
      refine lq v99 S (q_move rfl) fun a S => ?_
      refine lq p1 S (q_move rfl) fun a S => ?_
      obtain ⟨x137, e138, hm⟩ := bind_some hm
      refine lx_call (xs := [.tmp 58]) S trivial (by decide) rfl rfl Tryz.call27 ((laws_toInt64S_ok (H.arg h1) e138).mono ?_)
      rintro e w135 ⟨v139, rfl, Hc136⟩
      have H := H.call1 Hc136
      refine ⟨_, rfl, trivial, fun a S => ?_⟩
      obtain ⟨x144, e145, hm⟩ := bind_some hm
      refine lx_call (xs := [.tmp 57, .tmp 59]) S trivial (by decide) rfl rfl Tryz.call29 ((laws_eqInt64S_ok (H.rdAt 4 rfl) (H.rdAt 0 rfl) e145).mono ?_)
      rintro e w142 ⟨rfl, Hc143⟩
      have H := H.call0 Hc143
      refine ⟨_, rfl, trivial, fun a S => ?_⟩
      refine lq (.bool (!x144)) S (q_not rfl) fun a S => ?_
      refine lx_nil (thenN ?_)
      refine cond_b S rfl (fun hc147 => ?_) (fun hc147 => ?_)
      ·have hm := ite_t hc147 hm
       refine wp_seq (region_plain ?_)
       refine lq (.bool false) S (q_assign rfl) fun a S => ?_
       refine lx_nil (thenN ?_)
       refine wp_ret (then_ret ?_)
       obtain rfl := Option.some.inj hm
       have H : Heap w0 [] w142 := H.sel [] (by decide)
       exact leave1 S rfl rfl ⟨rfl, H⟩
      ·have hm := ite_f hc147 hm
       refine wp_skip (thenN ?_)
       refine wp_seq (region_plain ?_)
       refine lq (.int .i64 (1 : Int)) S (q_assign rfl) fun a S => ?_
       refine lx_nil (thenN ?_)
       refine wp_seq (region_plain ?_)
       refine lx_e (.agg #[(.int .i64 x84.1), (.int .i64 x84.2.1), v86, v87]) S trivial (by decide) rfl trivial (q_loadA (cs := [(.int .i64 x84.1), (.int .i64 x84.2.1), v86, v87]) rfl (isP_bp _) Tryz.isAgg30 Tryz.sizeOf30 (by rintro _ rfl; exact (fun j u hu => boxAt (i := 5) H rfl hu))) (fun a S => ?_)
       refine lq (.int .i64 (1 : Int)) S (q_move rfl) fun a S => ?_
       obtain ⟨x150, e151, hm⟩ := bind_some hm
       have H : Heap w0 [oA (rList Rimpl_Edge) v87 x84.2.2.2, oA (rList (rInt .i64)) v139 x137, oA (rList rStr) v124 x122.2.2.1, oA (rList Rimpl_Edge) v125 x122.2.2.2, oA (rList (rInt .i64)) v106 x104.1, oA (rList (rInt .i64)) v99 x97, bA b91 [(.int .i64 x84.1), (.int .i64 x84.2.1), v86, v87] 30, oA (rList rStr) v86 x84.2.2.1, oA (rList (rInt .i64)) v79 x77.1, bA b49 [(.int .i64 a0.1), (.int .i64 a0.2.1), v33, v35] 25] w142 := H.front 7 rfl
       have H : Heap w0 [oA (rList rStr) v86 x84.2.2.1, oA (rList Rimpl_Edge) v87 x84.2.2.2, oA (rList (rInt .i64)) v139 x137, oA (rList rStr) v124 x122.2.2.1, oA (rList Rimpl_Edge) v125 x122.2.2.2, oA (rList (rInt .i64)) v106 x104.1, oA (rList (rInt .i64)) v99 x97, bA b91 [(.int .i64 x84.1), (.int .i64 x84.2.1), v86, v87] 30, oA (rList (rInt .i64)) v79 x77.1, bA b49 [(.int .i64 a0.1), (.int .i64 a0.2.1), v33, v35] 25] w142 := H.front 7 rfl
       refine lx_call (xs := [.tmp 62, .tmp 63]) S trivial (by decide) rfl rfl Tryz.call33 ((laws_markLts_ok H  e151).mono ?_)
       rintro e w148 ⟨rfl, H⟩
       refine ⟨_, rfl, trivial, fun a S => ?_⟩
       refine lq (.int .i64 x150.1) S (q_assign rfl) fun a S => ?_
       refine lx_nil (thenN ?_)
       refine wp_seq (region_plain ?_)
       refine lq v99 S (q_move rfl) fun a S => ?_
       refine lq (.int .i64 x150.1) S (q_move rfl) fun a S => ?_
       obtain ⟨x154, e155, hm⟩ := bind_some hm
       have H : Heap w0 [oA (rList (rInt .i64)) v99 x97, oA (rList rStr) v86 x150.2.1, oA (rList Rimpl_Edge) v87 x150.2.2, oA (rList (rInt .i64)) v139 x137, oA (rList rStr) v124 x122.2.2.1, oA (rList Rimpl_Edge) v125 x122.2.2.2, oA (rList (rInt .i64)) v106 x104.1, bA b91 [(.int .i64 x84.1), (.int .i64 x84.2.1), v86, v87] 30, oA (rList (rInt .i64)) v79 x77.1, bA b49 [(.int .i64 a0.1), (.int .i64 a0.2.1), v33, v35] 25] w148 := H.front 6 rfl
       refine lx_call (xs := [.tmp 65, .tmp 66]) S trivial (by decide) rfl rfl Tryz.call39 ((laws_markInt64S_ok H  e155).mono ?_)
       rintro e w152 ⟨rfl, H⟩
       refine ⟨_, rfl, trivial, fun a S => ?_⟩
       refine lq (.int .i64 x154.1) S (q_assign rfl) fun a S => ?_
       refine lx_nil (thenN ?_)
       refine wp_seq (wp_seq (region_plain ?_))
       refine lq (.int .i64 x154.1) S (q_move rfl) fun a S => ?_
       refine lq (.bool (decide (x154.1 < (0 : Int)))) S (q_lss rfl rfl) fun a S => ?_
       refine lq (.bool (decide (x154.1 < (0 : Int)))) S (q_move rfl) fun a S => ?_
       obtain ⟨t156, e157, hm⟩ := bind_some hm
       refine lx_cut 5 (fun a w => Slots a 117 [(1, p1), (2, (bp b49)), (6, v79), (7, (.int .i64 x77.2)), (10, v106), (11, (.int .i64 x104.2)), (75, (.bool t156))] ∧ Heap w0 [oA (rList (rInt .i64)) v106 x104.1, oA (rList (rInt .i64)) v79 x77.1, bA b49 [(.int .i64 a0.1), (.int .i64 a0.2.1), v33, v35] 25] w) ?_ ?_
       ·by_cases hc158 : (decide (x154.1 < (0 : Int))) = true
        ·have hm := ite_t hc158 e157
         refine lx_skip S rfl rfl (isB_ne hc158) (by decide) (fun a S => ?_)
         refine lx_skip S rfl rfl (isB_ne hc158) (by decide) (fun a S => ?_)
         refine lx_skip S rfl rfl (isB_ne hc158) (by decide) (fun a S => ?_)
         refine lx_skip S rfl rfl (isB_ne hc158) (by decide) (fun a S => ?_)
         refine lq (.bool true) S (q_pickT' rfl hc158 rfl) fun a S => ?_
         refine lx_nil ?_
         obtain rfl := Option.some.inj hm
         have H := H.sel [6, 8, 9] (by decide)
         exact ⟨S.sub ⟨rfl, rfl, rfl, rfl, rfl, rfl, rfl, trivial⟩, H⟩
        ·have hm := ite_f (eq_false_of_ne_true hc158) e157
         have hc158 : (decide (x154.1 < (0 : Int))) = false := eq_false_of_ne_true hc158
         refine lx_q v106 S (want_b rfl rfl hc158) (by decide) (q_move rfl) (fun a S => ?_)
         refine lx_q v79 S (want_b rfl rfl hc158) (by decide) (q_move rfl) (fun a S => ?_)
         obtain ⟨x161, e162, hm⟩ := bind_some hm
         refine lx_call (xs := [.tmp 71, .tmp 72]) S (want_b rfl rfl hc158) (by decide) rfl rfl Tryz.call29 ((laws_eqInt64S_ok (H.rdAt 6 rfl) (H.rdAt 8 rfl) e162).mono ?_)
         rintro e w159 ⟨rfl, Hc160⟩
         have H := H.call0 Hc160
         refine ⟨_, rfl, trivial, fun a S => ?_⟩
         refine lx_q (.bool (!x161)) S (want_b rfl rfl hc158) (by decide) (q_not rfl) (fun a S => ?_)
         refine lq (.bool (!x161)) S (q_pickF' rfl hc158 rfl) fun a S => ?_
         refine lx_nil ?_
         obtain rfl := Option.some.inj hm
         have H := H.sel [6, 8, 9] (by decide)
         exact ⟨S.sub ⟨rfl, rfl, rfl, rfl, rfl, rfl, rfl, trivial⟩, H⟩
       ·rintro a w ⟨S, H⟩
        refine lq (.bool t156) S (q_move rfl) fun a S => ?_
        obtain ⟨t164, e165, hm⟩ := bind_some hm
        refine lx_cut 4 (fun a w => Slots a 117 [(1, p1), (2, (bp b49)), (6, v79), (7, (.int .i64 x77.2)), (10, v106), (80, (.bool t164))] ∧ Heap w0 [oA (rList (rInt .i64)) v106 x104.1, oA (rList (rInt .i64)) v79 x77.1, bA b49 [(.int .i64 a0.1), (.int .i64 a0.2.1), v33, v35] 25] w) ?_ ?_
        ·by_cases hc166 : t156 = true
         ·have hm := ite_t hc166 e165
          refine lx_skip S rfl rfl (isB_ne hc166) (by decide) (fun a S => ?_)
          refine lx_skip S rfl rfl (isB_ne hc166) (by decide) (fun a S => ?_)
          refine lx_skip S rfl rfl (isB_ne hc166) (by decide) (fun a S => ?_)
          refine lq (.bool true) S (q_pickT' rfl hc166 rfl) fun a S => ?_
          refine lx_nil ?_
          obtain rfl := Option.some.inj hm
          exact ⟨S.sub ⟨rfl, rfl, rfl, rfl, rfl, rfl, trivial⟩, H⟩
         ·have hm := ite_f (eq_false_of_ne_true hc166) e165
          have hc166 : t156 = false := eq_false_of_ne_true hc166
          refine lx_q (.int .i64 x104.2) S (want_b rfl rfl hc166) (by decide) (q_move rfl) (fun a S => ?_)
          refine lx_q (.int .i64 x77.2) S (want_b rfl rfl hc166) (by decide) (q_move rfl) (fun a S => ?_)
          refine lx_q (.bool (x104.2 != x77.2)) S (want_b rfl rfl hc166) (by decide) (q_neq rfl rfl) (fun a S => ?_)
          refine lq (.bool (x104.2 != x77.2)) S (q_pickF' rfl hc166 rfl) fun a S => ?_
          refine lx_nil ?_
          obtain rfl := Option.some.inj hm
          exact ⟨S.sub ⟨rfl, rfl, rfl, rfl, rfl, rfl, trivial⟩, H⟩
        ·rintro a w ⟨S, H⟩
         refine lx_nil (thenN ?_)
         refine cond_b S rfl (fun hc167 => ?_) (fun hc167 => ?_)
         ·have hm := ite_t hc167 hm
          refine wp_seq (region_plain ?_)
          refine lq (.bool false) S (q_assign rfl) fun a S => ?_
          refine lx_nil (thenN ?_)
          refine wp_ret (then_ret ?_)
          obtain rfl := Option.some.inj hm
          have H : Heap w0 [] w := H.sel [] (by decide)
          exact leave1 S rfl rfl ⟨rfl, H⟩
         ·have hm := ite_f hc167 hm
          refine wp_skip (thenN ?_)
          refine wp_seq (region_plain ?_)
          refine lq (.int .i64 (1 : Int)) S (q_assign rfl) fun a S => ?_
          refine lx_nil (thenN ?_)
          refine wp_seq (region_plain ?_)
          refine lq v106 S (q_move rfl) fun a S => ?_
          refine lq (.int .i64 (1 : Int)) S (q_move rfl) fun a S => ?_
          obtain ⟨x170, e171, hm⟩ := bind_some hm
          refine lx_call (xs := [.tmp 81, .tmp 82]) S trivial (by decide) rfl rfl Tryz.call39 ((laws_markInt64S_ok H  e171).mono ?_)
          rintro e w168 ⟨rfl, H⟩
          refine ⟨_, rfl, trivial, fun a S => ?_⟩
          refine lq (.int .i64 x170.1) S (q_assign rfl) fun a S => ?_
          refine lx_nil (thenN ?_)
          refine wp_seq (region_plain ?_)
          refine lq (.int .i64 (1 : Int)) S (q_assign rfl) fun a S => ?_
          refine lx_nil (thenN ?_)
          refine wp_seq (region_plain ?_)
          refine lq v106 S (q_move rfl) fun a S => ?_
          refine lq (.int .i64 (1 : Int)) S (q_move rfl) fun a S => ?_
          obtain ⟨x174, e175, hm⟩ := bind_some hm
          refine lx_call (xs := [.tmp 84, .tmp 85]) S trivial (by decide) rfl rfl Tryz.call44 ((laws_heldInt64S_ok (H.rdAt 0 rfl)  e175).mono ?_)
          rintro e w172 ⟨rfl, Hc173⟩
          have H := H.call0 Hc173
          refine ⟨_, rfl, trivial, fun a S => ?_⟩
          refine lq (.int .i64 x174) S (q_assign rfl) fun a S => ?_
          refine lx_nil (thenN ?_)
          refine wp_seq (wp_seq (region_plain ?_))
          refine lq (.int .i64 x174) S (q_move rfl) fun a S => ?_
          refine lq (.bool (decide (x174 < (0 : Int)))) S (q_lss rfl rfl) fun a S => ?_
          refine lx_nil (thenN ?_)
          refine cond_b S rfl (fun hc177 => ?_) (fun hc177 => ?_)
          ·have hm := ite_t hc177 hm
           refine wp_seq (region_plain ?_)
           refine lq (.bool false) S (q_assign rfl) fun a S => ?_
           refine lx_nil (thenN ?_)
           refine wp_ret (then_ret ?_)
           obtain rfl := Option.some.inj hm
           have H : Heap w0 [] w172 := H.sel [] (by decide)
           exact leave1 S rfl rfl ⟨rfl, H⟩
          ·have hm := ite_f hc177 hm
           refine wp_skip (thenN ?_)
           refine wp_seq (wp_seq (region_plain ?_))
           refine lq (.int .i64 x174) S (q_move rfl) fun a S => ?_
           refine lq (.int .i64 x170.1) S (q_move rfl) fun a S => ?_
           refine lq (.bool (x174 != x170.1)) S (q_neq rfl rfl) fun a S => ?_
           refine lx_nil (thenN ?_)
           refine cond_b S rfl (fun hc178 => ?_) (fun hc178 => ?_)
           ·have hm := ite_t hc178 hm
            refine wp_seq (region_plain ?_)
            refine lq (.bool false) S (q_assign rfl) fun a S => ?_
            refine lx_nil (thenN ?_)
            refine wp_ret (then_ret ?_)
            obtain rfl := Option.some.inj hm
            have H : Heap w0 [] w172 := H.sel [] (by decide)
            exact leave1 S rfl rfl ⟨rfl, H⟩
           ·have hm := ite_f hc178 hm
            refine wp_skip (thenN ?_)
            refine wp_seq (region_plain ?_)
            refine lx_e (.agg #[(.int .i64 a0.1), (.int .i64 a0.2.1), v33, v35]) S trivial (by decide) rfl trivial (q_loadA (cs := [(.int .i64 a0.1), (.int .i64 a0.2.1), v33, v35]) rfl (isP_bp _) Tryz.isAgg25 Tryz.sizeOf25 (by rintro _ rfl; exact (fun j u hu => boxAt (i := 2) H rfl hu))) (fun a S => ?_)
            obtain ⟨x181, e182, hm⟩ := bind_some hm
            refine lx_call (xs := [.tmp 93]) S trivial (by decide) rfl rfl Tryz.call21 ((laws_toLts_ok ⟨[(.int .i64 a0.1), (.int .i64 a0.2.1), v33, v35], rfl, ⟨[(.int .i64 a0.1)], [(.int .i64 a0.2.1), v33, v35], rfl, rfl, ⟨[(.int .i64 a0.2.1)], [v33, v35], rfl, rfl, ⟨[v33], [v35], rfl, ((H.arg h34)).list_rd, ((H.arg h36)).list_rd⟩⟩⟩⟩ e182).mono ?_)
            rintro e w179 ⟨v183, v184, rfl, Hc180⟩
            have H := H.call2 Hc180
            refine ⟨_, rfl, trivial, fun a S => ?_⟩
            refine lq p1 S (q_move rfl) fun a S => ?_
            obtain ⟨x190, e191, hm⟩ := bind_some hm
            refine lx_call (xs := [.tmp 95]) S trivial (by decide) rfl rfl Tryz.call27 ((laws_toInt64S_ok (H.arg h1) e191).mono ?_)
            rintro e w188 ⟨v192, rfl, Hc189⟩
            have H := H.call1 Hc189
            refine ⟨_, rfl, trivial, fun a S => ?_⟩
            obtain ⟨x197, e198, hm⟩ := bind_some hm
            refine lx_call (xs := [.tmp 94, .tmp 96]) S trivial (by decide) rfl rfl Tryz.call54 ((impl_ShortestPath_ok (hG.ext H.ext) ⟨[(.int .i64 x181.1), (.int .i64 x181.2.1), v183, v184], rfl, ⟨[(.int .i64 x181.1)], [(.int .i64 x181.2.1), v183, v184], rfl, rfl, ⟨[(.int .i64 x181.2.1)], [v183, v184], rfl, rfl, ⟨[v183], [v184], rfl, ((H.rdAt 1 rfl)).list_rd, ((H.rdAt 2 rfl)).list_rd⟩⟩⟩⟩ (H.rdAt 0 rfl) e198).mono ?_)
            rintro e w195 ⟨v199, rfl, Hc196⟩
            have H := H.call1 Hc196
            refine ⟨_, rfl, trivial, fun a S => ?_⟩
            refine lq (.tuple #[v199, (.int .i64 x197.2)]) S (q_move rfl) fun a S => ?_
            refine lq v199 S (q_extract rfl rfl) fun a S => ?_
            refine lq (.int .i64 x197.2) S (q_extract rfl rfl) fun a S => ?_
            refine lq v199 S (q_assign rfl) fun a S => ?_
            refine lq (.int .i64 x197.2) S (q_assign rfl) fun a S => ?_
            refine lx_nil (thenN ?_)
            refine wp_seq (wp_seq (region_plain ?_))
            refine lq v199 S (q_move rfl) fun a S => ?_
            refine lq v79 S (q_move rfl) fun a S => ?_
            obtain ⟨x204, e205, hm⟩ := bind_some hm
            refine lx_call (xs := [.tmp 100, .tmp 101]) S trivial (by decide) rfl rfl Tryz.call29 ((laws_eqInt64S_ok (H.rdAt 0 rfl) (H.rdAt 5 rfl) e205).mono ?_)
            rintro e w202 ⟨rfl, Hc203⟩
            have H := H.call0 Hc203
            refine ⟨_, rfl, trivial, fun a S => ?_⟩
            refine lq (.bool (!x204)) S (q_not rfl) fun a S => ?_
            refine lq (.bool (!x204)) S (q_move rfl) fun a S => ?_
            obtain ⟨t207, e208, hm⟩ := bind_some hm
            refine lx_cut 4 (fun a w => Slots a 117 [(10, v106), (13, (.int .i64 x170.1)), (108, (.bool t207))] ∧ Heap w0 [oA (rList (rInt .i64)) v106 x170.2] w) ?_ ?_
            ·by_cases hc209 : (!x204) = true
             ·have hm := ite_t hc209 e208
              refine lx_skip S rfl rfl (isB_ne hc209) (by decide) (fun a S => ?_)
              refine lx_skip S rfl rfl (isB_ne hc209) (by decide) (fun a S => ?_)
              refine lx_skip S rfl rfl (isB_ne hc209) (by decide) (fun a S => ?_)
              refine lq (.bool true) S (q_pickT' rfl hc209 rfl) fun a S => ?_
              refine lx_nil ?_
              obtain rfl := Option.some.inj hm
              have H := H.sel [4] (by decide)
              exact ⟨S.sub ⟨rfl, rfl, rfl, trivial⟩, H⟩
             ·have hm := ite_f (eq_false_of_ne_true hc209) e208
              have hc209 : (!x204) = false := eq_false_of_ne_true hc209
              refine lx_q (.int .i64 x197.2) S (want_b rfl rfl hc209) (by decide) (q_move rfl) (fun a S => ?_)
              refine lx_q (.int .i64 x77.2) S (want_b rfl rfl hc209) (by decide) (q_move rfl) (fun a S => ?_)
              refine lx_q (.bool (x197.2 != x77.2)) S (want_b rfl rfl hc209) (by decide) (q_neq rfl rfl) (fun a S => ?_)
              refine lq (.bool (x197.2 != x77.2)) S (q_pickF' rfl hc209 rfl) fun a S => ?_
              refine lx_nil ?_
              obtain rfl := Option.some.inj hm
              have H := H.sel [4] (by decide)
              exact ⟨S.sub ⟨rfl, rfl, rfl, trivial⟩, H⟩
            ·rintro a w ⟨S, H⟩
             refine lx_nil (thenN ?_)
             refine cond_b S rfl (fun hc210 => ?_) (fun hc210 => ?_)
             ·have hm := ite_t hc210 hm
              refine wp_seq (region_plain ?_)
              refine lq (.bool false) S (q_assign rfl) fun a S => ?_
              refine lx_nil (thenN ?_)
              refine wp_ret (then_ret ?_)
              obtain rfl := Option.some.inj hm
              have H : Heap w0 [] w := H.sel [] (by decide)
              exact leave1 S rfl rfl ⟨rfl, H⟩
             ·have hm := ite_f hc210 hm
              refine wp_skip (thenN ?_)
              refine wp_seq (region_plain ?_)
              refine lq (.int .i64 (1 : Int)) S (q_assign rfl) fun a S => ?_
              refine lx_nil (thenN ?_)
              refine wp_seq (region_plain ?_)
              refine lq v106 S (q_move rfl) fun a S => ?_
              refine lq (.int .i64 (1 : Int)) S (q_move rfl) fun a S => ?_
              obtain ⟨x213, e214, hm⟩ := bind_some hm
              refine lx_call (xs := [.tmp 109, .tmp 110]) S trivial (by decide) rfl rfl Tryz.call44 ((laws_heldInt64S_ok (H.rdAt 0 rfl)  e214).mono ?_)
              rintro e w211 ⟨rfl, Hc212⟩
              have H := H.call0 Hc212
              refine ⟨_, rfl, trivial, fun a S => ?_⟩
              refine lq (.int .i64 x213) S (q_assign rfl) fun a S => ?_
              refine lx_nil (thenN ?_)
              refine wp_seq (wp_seq (region_plain ?_))
              refine lq (.int .i64 x213) S (q_move rfl) fun a S => ?_
              refine lq (.bool (decide (x213 < (0 : Int)))) S (q_lss rfl rfl) fun a S => ?_
              refine lx_nil (thenN ?_)
              refine cond_b S rfl (fun hc216 => ?_) (fun hc216 => ?_)
              ·have hm := ite_t hc216 hm
               refine wp_seq (region_plain ?_)
               refine lq (.bool false) S (q_assign rfl) fun a S => ?_
               refine lx_nil (thenN ?_)
               refine wp_ret (then_ret ?_)
               obtain rfl := Option.some.inj hm
               have H : Heap w0 [] w211 := H.sel [] (by decide)
               exact leave1 S rfl rfl ⟨rfl, H⟩
              ·have hm := ite_f hc216 hm
               refine wp_skip (thenN ?_)
               refine wp_seq (wp_seq (region_plain ?_))
               refine lq (.int .i64 x213) S (q_move rfl) fun a S => ?_
               refine lq (.int .i64 x170.1) S (q_move rfl) fun a S => ?_
               refine lq (.bool (x213 != x170.1)) S (q_neq rfl rfl) fun a S => ?_
               refine lx_nil (thenN ?_)
               refine cond_b S rfl (fun hc217 => ?_) (fun hc217 => ?_)
               ·have hm := ite_t hc217 hm
                refine wp_seq (region_plain ?_)
                refine lq (.bool false) S (q_assign rfl) fun a S => ?_
                refine lx_nil (thenN ?_)
                refine wp_ret (then_ret ?_)
                obtain rfl := Option.some.inj hm
                have H : Heap w0 [] w211 := H.sel [] (by decide)
                exact leave1 S rfl rfl ⟨rfl, H⟩
               ·have hm := ite_f hc217 hm
                refine wp_skip (thenN ?_)
                refine wp_seq (region_plain ?_)
                refine lq (.bool true) S (q_assign rfl) fun a S => ?_
                refine lx_nil (thenN ?_)
                refine wp_ret ?_
                obtain rfl := Option.some.inj hm
                have H : Heap w0 [] w211 := H.sel [] (by decide)
                exact leave1 S rfl rfl ⟨rfl, H⟩
end Go.Proofs.YtkgkfbmcnchdbaaGreatDoor
