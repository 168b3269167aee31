/- The models of some functions and their walks (printed by a program of this repo). -/
import Derived.Test.YtlmopoaeekhmeaaGreatDoorF0
import Derived.Test.YtlmopoaeekhmeaaGreatDoorF1
import Derived.Test.YtlmopoaeekhmeaaGreatDoorGxT
import Derived.Test.YtlmopoaeekhmeaaGreatDoorGxY
namespace Go.Proofs.YtlmopoaeekhmeaaGreatDoor
open Go.RowKit Go.Gx

/-- spec.l11Is -/
def spec_l11Is_m (fuel : Nat) (a0 : Timpl_Lts) : Option (Bool) :=
  (spec_l00In_m fuel a0.1 (1 : Int) (40 : Int)).bind fun x54 => (if (!x54) = true then some true else (spec_l00In_m fuel a0.2.1 (0 : Int) (W (a0.1 - (1 : Int)))).bind fun x62 => some (!x62)).bind fun t57 => (if t57 = true then some true else (spec_l11Names_m fuel a0.2.2.1).bind fun x70 => some (!x70)).bind fun t65 => (if t65 = true then some true else some (decide ((300 : Int) < (a0.2.2.2.length : Int)))).bind fun t73 => (if t73 = true then some (false) else (iter (fun (s : (Int)) => (match s with | (x142) => (if (decide (x142 < (a0.2.2.2.length : Int))) = true then (idx a0.2.2.2 x142).bind fun x217 => (spec_l00In_m fuel x217.1 (0 : Int) (W (a0.1 - (1 : Int)))).bind fun x238 => (if (!x238) = true then some true else (spec_l00In_m fuel x217.2.2 (0 : Int) (W (a0.1 - (1 : Int)))).bind fun x246 => some (!x246)).bind fun t241 => (if t241 = true then some true else (spec_l00In_m fuel x217.2.1 (0 : Int) (W ((a0.2.2.1.length : Int) - (1 : Int)))).bind fun x254 => some (!x254)).bind fun t249 => (if t249 = true then some (.inr (.inr false)) else (if (decide ((0 : Int) < x142)) = true then (idx a0.2.2.2 (W (x142 - (1 : Int)))).bind fun x261 => (spec_l11Less_m fuel x261 (x217.1, x217.2.1, x217.2.2)).bind fun x276 => some (!x276) else some false).bind fun t258 => (if t258 = true then some (.inr (.inr false)) else some (.inl ((W (x142 + (1 : Int))))))) else some (.inr (.inl ()))) : Option (((Int)) ⊕ ((Unit) ⊕ (Bool))))) fuel ((0 : Int))).bind fun res208 => ctl (β := Unit) (ρ := Bool) (τ := Bool) res208 (fun _ => some (true)) (fun q => some (q)))
set_option maxRecDepth 20000 in
theorem spec_l11Is_ok [dr : Dr] {w0 : World} {fuel : Nat} {p0 : Value} {a0 : Timpl_Lts} {r : Bool} (h0 : Rd (rPtr Rimpl_Lts) w0 p0 a0) (hm : spec_l11Is_m fuel a0 = some r) :
  Calls Tryz.prog 24 #[p0] w0 fun e w => e = .returned (.bool r) ∧ Heap w0 [] w := by
 unfold spec_l11Is_m at hm
 have H := Heap.start w0
 obtain ⟨c31, h32, hat33⟩ := h0.ptr
 obtain ⟨c38, c39, rfl, h40, h41⟩ := h32
 obtain rfl := h40
 obtain ⟨c42, c43, rfl, h44, h45⟩ := h41
 obtain rfl := h44
 obtain ⟨c46, c47, rfl, h48, h49⟩ := h45
 obtain ⟨v34, rfl, h35⟩ := rd_list h48
 obtain ⟨v36, rfl, h37⟩ := rd_list h49
 refine enter (args := [p0]) Tryz.func24 rfl 101 rfl (Nat.le_of_ble_eq_true rfl) (fun a S => ?_)
 refine wp_seq (region_plain ?_)
 refine lq (.bool false) S (q_assign rfl) fun a S => ?_
 refine lx_nil (thenN ?_)
 refine wp_seq ?_
 refine wp_seq ?_
 refine region_drawG (fun w1 => Heap w0 [] w1) (fun i => [4, 16, 24].contains i) mixed (by kernel_rfl) (fun w51 he50 => ?_)
 have H := H.later he50
 refine ⟨H.sel [] (by decide), ?_⟩
 refine lq p0 S (q_move rfl) fun a S => ?_
 refine lq p0 S (q_nilCheck rfl ((hat33 0 _ rfl).isP)) fun a S => ?_
 refine lq (pAdd p0 0) S (q_fieldAddr' 0 2 rfl ((hat33 0 _ rfl).isP) Tryz.underlying25 rfl Tryz.sizeOf2) fun a S => ?_
 refine lq (.int .i64 a0.1) S (q_load1 rfl Tryz.isAgg2 (fun w1 hC => (At.of_add (m := 0) (j := 0) ((hat33 0 _ rfl).ext hC.ext)))) fun a S => ?_
 obtain ⟨x54, e55, hm⟩ := bind_some hm
 refine lx_call (xs := [.tmp 8, .const (.int .i64 (1)), .const (.int .i64 (40))]) S trivial (by decide) rfl rfl Tryz.call40 ((spec_l00In_ok    e55).mono ?_)
 rintro e w52 ⟨rfl, Hc53⟩
 have H := H.call0 Hc53
 refine ⟨_, rfl, H.sel [] (by decide), fun a S => ?_⟩
 refine lq (.bool (!x54)) S (q_not rfl) fun a S => ?_
 refine lq (.bool (!x54)) S (q_move rfl) fun a S => ?_
 obtain ⟨t57, e58, hm⟩ := bind_some hm
 refine lx_cut 12 (fun a w => Slots a 101 [(0, p0), (23, (.bool t57))] ∧ Heap w0 [] w) ?_ ?_
 ·by_cases hc59 : (!x54) = true
  ·have hm := ite_t hc59 e58
   refine lx_skip S rfl rfl (isB_ne hc59) (by decide) (fun a S => ?_)
   refine lx_skip S rfl rfl (isB_ne hc59) (by decide) (fun a S => ?_)
   refine lx_skip S rfl rfl (isB_ne hc59) (by decide) (fun a S => ?_)
   refine lx_skip S rfl rfl (isB_ne hc59) (by decide) (fun a S => ?_)
   refine lx_skip S rfl rfl (isB_ne hc59) (by decide) (fun a S => ?_)
   refine lx_skip S rfl rfl (isB_ne hc59) (by decide) (fun a S => ?_)
   refine lx_skip S rfl rfl (isB_ne hc59) (by decide) (fun a S => ?_)
   refine lx_skip S rfl rfl (isB_ne hc59) (by decide) (fun a S => ?_)
   refine lx_skip S rfl rfl (isB_ne hc59) (by decide) (fun a S => ?_)
   refine lx_skip S rfl rfl (isB_ne hc59) (by decide) (fun a S => ?_)
   refine lx_skip S rfl rfl (isB_ne hc59) (by decide) (fun a S => ?_)
   refine lq (.bool true) S (q_pickT' rfl hc59 rfl) fun a S => ?_
   refine lx_nil ?_
   obtain rfl := Option.some.inj hm
   exact ⟨S.sub ⟨rfl, rfl, trivial⟩, H⟩
  ·have hm := ite_f (eq_false_of_ne_true hc59) e58
   have hc59 : (!x54) = false := eq_false_of_ne_true hc59
   refine lx_q p0 S (want_b rfl rfl hc59) (by decide) (q_move rfl) (fun a S => ?_)
   refine lx_q p0 S (want_b rfl rfl hc59) (by decide) (q_nilCheck rfl ((hat33 0 _ rfl).isP)) (fun a S => ?_)
   refine lx_q (pAdd p0 1) S (want_b rfl rfl hc59) (by decide) (q_fieldAddr' 1 2 rfl ((hat33 0 _ rfl).isP) Tryz.underlying25 rfl Tryz.sizeOf2) (fun a S => ?_)
   refine lx_q (.int .i64 a0.2.1) S (want_b rfl rfl hc59) (by decide) (q_load1 rfl Tryz.isAgg2 (fun w1 hC => (At.of_add (m := 1) (j := 0) ((hat33 1 _ rfl).ext hC.ext)))) (fun a S => ?_)
   refine lx_q p0 S (want_b rfl rfl hc59) (by decide) (q_move rfl) (fun a S => ?_)
   refine lx_q p0 S (want_b rfl rfl hc59) (by decide) (q_nilCheck rfl ((hat33 0 _ rfl).isP)) (fun a S => ?_)
   refine lx_q (pAdd p0 0) S (want_b rfl rfl hc59) (by decide) (q_fieldAddr' 0 2 rfl ((hat33 0 _ rfl).isP) Tryz.underlying25 rfl Tryz.sizeOf2) (fun a S => ?_)
   refine lx_q (.int .i64 a0.1) S (want_b rfl rfl hc59) (by decide) (q_load1 rfl Tryz.isAgg2 (fun w1 hC => (At.of_add (m := 0) (j := 0) ((hat33 0 _ rfl).ext hC.ext)))) (fun a S => ?_)
   refine lx_q (.int .i64 (W (a0.1 - (1 : Int)))) S (want_b rfl rfl hc59) (by decide) (q_sub rfl rfl) (fun a S => ?_)
   obtain ⟨x62, e63, hm⟩ := bind_some hm
   refine lx_call (xs := [.tmp 15, .const (.int .i64 (0)), .tmp 20]) S (want_b rfl rfl hc59) (by decide) rfl rfl Tryz.call40 ((spec_l00In_ok    e63).mono ?_)
   rintro e w60 ⟨rfl, Hc61⟩
   have H := H.call0 Hc61
   refine ⟨_, rfl, H.sel [] (by decide), fun a S => ?_⟩
   refine lx_q (.bool (!x62)) S (want_b rfl rfl hc59) (by decide) (q_not rfl) (fun a S => ?_)
   refine lq (.bool (!x62)) S (q_pickF' rfl hc59 rfl) fun a S => ?_
   refine lx_nil ?_
   obtain rfl := Option.some.inj hm
   exact ⟨S.sub ⟨rfl, rfl, trivial⟩, H⟩
 ·rintro a w ⟨S, H⟩
  refine lq (.bool t57) S (q_move rfl) fun a S => ?_
  obtain ⟨t65, e66, hm⟩ := bind_some hm
  refine lx_cut 7 (fun a w => Slots a 101 [(0, p0), (31, (.bool t65))] ∧ Heap w0 [] w) ?_ ?_
  ·by_cases hc67 : t57 = true
   ·have hm := ite_t hc67 e66
    refine lx_skip S rfl rfl (isB_ne hc67) (by decide) (fun a S => ?_)
    refine lx_skip S rfl rfl (isB_ne hc67) (by decide) (fun a S => ?_)
    refine lx_skip S rfl rfl (isB_ne hc67) (by decide) (fun a S => ?_)
    refine lx_skip S rfl rfl (isB_ne hc67) (by decide) (fun a S => ?_)
    refine lx_skip S rfl rfl (isB_ne hc67) (by decide) (fun a S => ?_)
    refine lx_skip S rfl rfl (isB_ne hc67) (by decide) (fun a S => ?_)
    refine lq (.bool true) S (q_pickT' rfl hc67 rfl) fun a S => ?_
    refine lx_nil ?_
    obtain rfl := Option.some.inj hm
    exact ⟨S.sub ⟨rfl, rfl, trivial⟩, H⟩
   ·have hm := ite_f (eq_false_of_ne_true hc67) e66
    have hc67 : t57 = false := eq_false_of_ne_true hc67
    refine lx_q p0 S (want_b rfl rfl hc67) (by decide) (q_move rfl) (fun a S => ?_)
    refine lx_q p0 S (want_b rfl rfl hc67) (by decide) (q_nilCheck rfl ((hat33 0 _ rfl).isP)) (fun a S => ?_)
    refine lx_q (pAdd p0 2) S (want_b rfl rfl hc67) (by decide) (q_fieldAddr' 2 22 rfl ((hat33 0 _ rfl).isP) Tryz.underlying25 rfl Tryz.sizeOf22) (fun a S => ?_)
    refine lx_q v34 S (want_b rfl rfl hc67) (by decide) (q_load1 rfl Tryz.isAgg22 (fun w1 hC => (At.of_add (m := 2) (j := 0) ((hat33 2 _ rfl).ext hC.ext)))) (fun a S => ?_)
    obtain ⟨x70, e71, hm⟩ := bind_some hm
    refine lx_call (xs := [.tmp 28]) S (want_b rfl rfl hc67) (by decide) rfl rfl Tryz.call41 ((spec_l11Names_ok (H.arg h35) e71).mono ?_)
    rintro e w68 ⟨rfl, Hc69⟩
    have H := H.call0 Hc69
    refine ⟨_, rfl, H.sel [] (by decide), fun a S => ?_⟩
    refine lx_q (.bool (!x70)) S (want_b rfl rfl hc67) (by decide) (q_not rfl) (fun a S => ?_)
    refine lq (.bool (!x70)) S (q_pickF' rfl hc67 rfl) fun a S => ?_
    refine lx_nil ?_
    obtain rfl := Option.some.inj hm
    exact ⟨S.sub ⟨rfl, rfl, trivial⟩, H⟩
  ·rintro a w ⟨S, H⟩
   refine lq (.bool t65) S (q_move rfl) fun a S => ?_
   obtain ⟨t73, e74, hm⟩ := bind_some hm
   refine lx_cut 7 (fun a w => Slots a 101 [(0, p0), (39, (.bool t73))] ∧ Heap w0 [] w) ?_ ?_
   ·by_cases hc75 : t65 = true
    ·have hm := ite_t hc75 e74
     refine lx_skip S rfl rfl (isB_ne hc75) (by decide) (fun a S => ?_)
     refine lx_skip S rfl rfl (isB_ne hc75) (by decide) (fun a S => ?_)
     refine lx_skip S rfl rfl (isB_ne hc75) (by decide) (fun a S => ?_)
     refine lx_skip S rfl rfl (isB_ne hc75) (by decide) (fun a S => ?_)
     refine lx_skip S rfl rfl (isB_ne hc75) (by decide) (fun a S => ?_)
     refine lx_skip S rfl rfl (isB_ne hc75) (by decide) (fun a S => ?_)
     refine lq (.bool true) S (q_pickT' rfl hc75 rfl) fun a S => ?_
     refine lx_nil ?_
     obtain rfl := Option.some.inj hm
     exact ⟨S.sub ⟨rfl, rfl, trivial⟩, H⟩
    ·have hm := ite_f (eq_false_of_ne_true hc75) e74
     have hc75 : t65 = false := eq_false_of_ne_true hc75
     refine lx_q p0 S (want_b rfl rfl hc75) (by decide) (q_move rfl) (fun a S => ?_)
     refine lx_q p0 S (want_b rfl rfl hc75) (by decide) (q_nilCheck rfl ((hat33 0 _ rfl).isP)) (fun a S => ?_)
     refine lx_q (pAdd p0 3) S (want_b rfl rfl hc75) (by decide) (q_fieldAddr' 3 23 rfl ((hat33 0 _ rfl).isP) Tryz.underlying25 rfl Tryz.sizeOf23) (fun a S => ?_)
     refine lx_q v36 S (want_b rfl rfl hc75) (by decide) (q_load1 rfl Tryz.isAgg23 (fun w1 hC => (At.of_add (m := 3) (j := 0) ((hat33 3 _ rfl).ext hC.ext)))) (fun a S => ?_)
     refine lx_q (.int .i64 (a0.2.2.2.length : Int)) S (want_b rfl rfl hc75) (by decide) (q_lenSl rfl (h37).isSl rfl Tryz.underlying23) (fun a S => ?_)
     refine lx_q (.bool (decide ((300 : Int) < (a0.2.2.2.length : Int)))) S (want_b rfl rfl hc75) (by decide) (q_gtr rfl rfl) (fun a S => ?_)
     refine lq (.bool (decide ((300 : Int) < (a0.2.2.2.length : Int)))) S (q_pickF' rfl hc75 rfl) fun a S => ?_
     refine lx_nil ?_
     obtain rfl := Option.some.inj hm
     exact ⟨S.sub ⟨rfl, rfl, trivial⟩, H⟩
   ·rintro a w ⟨S, H⟩
    refine lx_nil (thenN ?_)
    refine cond_b S rfl (fun hc76 => ?_) (fun hc76 => ?_)
    ·have hm := ite_t hc76 hm
     refine wp_seq (region_plain ?_)
     refine lq (.bool false) S (q_assign rfl) fun a S => ?_
     refine lx_nil (thenN ?_)
     refine wp_ret (then_ret ?_)
     obtain rfl := Option.some.inj hm
     exact leave1 S rfl rfl ⟨rfl, H⟩
    ·have hm := ite_f hc76 hm
     refine wp_skip (thenN ?_)
     refine wp_seq (wp_seq (region_plain ?_))
     refine lq (.int .i64 (0 : Int)) S (q_assign rfl) fun a S => ?_
     refine lx_nil (thenN ?_)
     obtain ⟨res208, hit209, hk212⟩ := bind_some hm
     obtain ⟨f210, hf211, hit209⟩ := iter_name hit209
     refine block_loop (fun a w => Slots a 101 [] ∧ Heap w0 [] w ∧ res208 = .inl ()) ?_ ?_
     ·rintro a w ⟨S, H, rfl⟩
      have hm := ctl_inl hk212
      refine thenN ?_
      refine wp_seq (region_plain ?_)
      refine lq (.bool true) S (q_assign rfl) fun a S => ?_
      refine lx_nil (thenN ?_)
      refine wp_ret ?_
      obtain rfl := Option.some.inj hm
      exact leave1 S rfl rfl ⟨rfl, H⟩
     ·skip
      refine loop_ghost (fun n a w => ∃ (x142 : Int), Slots a 101 [(0, p0), (3, (.int .i64 x142))] ∧ Heap w0 [] w ∧ iter f210 n (x142) = some res208) _ ⟨(0 : Int), S.sub ⟨rfl, rfl, trivial⟩, H, hit209⟩ ?_
      rintro n a w ⟨x142, S, H, hit209⟩
      obtain ⟨m213, o214, rfl, hm, hc215⟩ := iter_step hit209
      rw [hf211] at hm
      refine wp_seq (wp_seq (region_plain ?_))
      refine lq (.int .i64 x142) S (q_move rfl) fun a S => ?_
      refine lq p0 S (q_move rfl) fun a S => ?_
      refine lq p0 S (q_nilCheck rfl ((hat33 0 _ rfl).isP)) fun a S => ?_
      refine lq (pAdd p0 3) S (q_fieldAddr' 3 23 rfl ((hat33 0 _ rfl).isP) Tryz.underlying25 rfl Tryz.sizeOf23) fun a S => ?_
      refine lx_e v36 S trivial (by decide) rfl trivial (q_load1 rfl Tryz.isAgg23 (by rintro _ rfl; exact (At.of_add (m := 3) (j := 0) ((hat33 3 _ rfl).ext H.ext)))) (fun a S => ?_)
      refine lq (.int .i64 (a0.2.2.2.length : Int)) S (q_lenSl rfl (h37).isSl rfl Tryz.underlying23) fun a S => ?_
      refine lq (.bool (decide (x142 < (a0.2.2.2.length : Int)))) S (q_lss rfl rfl) fun a S => ?_
      refine lx_nil (thenN ?_)
      refine cond_b S rfl (fun hc216 => ?_) (fun hc216 => ?_)
      ·have hm := ite_t hc216 hm
       refine wp_skip (thenN ?_)
       refine wp_seq ?_
       refine wp_block ?_
       refine wp_seq (region_plain ?_)
       refine lq p0 S (q_move rfl) fun a S => ?_
       refine lq p0 S (q_nilCheck rfl ((hat33 0 _ rfl).isP)) fun a S => ?_
       refine lq (pAdd p0 3) S (q_fieldAddr' 3 23 rfl ((hat33 0 _ rfl).isP) Tryz.underlying25 rfl Tryz.sizeOf23) fun a S => ?_
       refine lx_e v36 S trivial (by decide) rfl trivial (q_load1 rfl Tryz.isAgg23 (by rintro _ rfl; exact (At.of_add (m := 3) (j := 0) ((hat33 3 _ rfl).ext H.ext)))) (fun a S => ?_)
       refine lq (.int .i64 x142) S (q_move rfl) fun a S => ?_
       obtain ⟨x217, e218, hm⟩ := bind_some hm
       obtain ⟨c219, h220, hat221⟩ := (h37).elem (idx_some e218).2
       obtain ⟨c222, c223, rfl, h224, h225⟩ := h220
       obtain rfl := h224
       obtain ⟨c226, c227, rfl, h228, h229⟩ := h225
       obtain rfl := h228
       obtain rfl := h229
       have hlt := lt_of_idx (idx_some e218).2
       refine lq (ePtr v36 (x142.toNat * 3)) S (q_indexAddr rfl (h37).isSl rfl (idx_some e218).1 hlt Tryz.underlying23 Tryz.sizeOf48) fun a S => ?_
       refine lx_e (.agg #[(.int .i64 x217.1), (.int .i64 x217.2.1), (.int .i64 x217.2.2)]) S trivial (by decide) rfl trivial (q_loadA (cs := [(.int .i64 x217.1), (.int .i64 x217.2.1), (.int .i64 x217.2.2)]) rfl ((hat221 0 _ rfl).isP) Tryz.isAgg48 Tryz.sizeOf48 (by rintro _ rfl; exact (fun j u hu => (hat221 j u hu).ext H.ext))) (fun a S => ?_)
       refine lx_alloc S trivial (by decide) rfl H Tryz.zeroValue48 rfl (fun b230 w231 H => ⟨trivial, fun a S => ?_⟩)
       refine lx_storeBox (o := 0) (i := 0) (us := [(.int .i64 x217.1), (.int .i64 x217.2.1), (.int .i64 x217.2.2)]) (cs' := [(.int .i64 x217.1), (.int .i64 x217.2.1), (.int .i64 x217.2.2)]) S trivial rfl H rfl rfl rfl rfl Tryz.sizeOf48 (Nat.le_of_ble_eq_true rfl) (List.forall_mem_cons.2 ⟨rfl, (List.forall_mem_cons.2 ⟨rfl, (List.forall_mem_cons.2 ⟨rfl, (List.forall_mem_nil _)⟩)⟩)⟩) rfl (fun w233 H => ⟨trivial, fun a S => ?_⟩)
       change Heap w0 [bA b230 [(.int .i64 x217.1), (.int .i64 x217.2.1), (.int .i64 x217.2.2)] 48] w233 at H
       refine lx_nil (thenN ?_)
       refine wp_seq ?_
       refine wp_seq ?_
       refine region_drawG (fun w1 => Heap w0 [bA b230 [(.int .i64 x217.1), (.int .i64 x217.2.1), (.int .i64 x217.2.2)] 48] w1) (fun i => [7, 17, 29].contains i) mixed (by kernel_rfl) (fun w235 he234 => ?_)
       have H := H.later he234
       refine ⟨H.sel [0] (by decide), ?_⟩
       refine lq (pAdd (bp b230) 0) S (q_fieldAddr' 0 2 rfl (isP_bp _) Tryz.underlying48 rfl Tryz.sizeOf2) fun a S => ?_
       refine lq (.int .i64 x217.1) S (q_load1 rfl Tryz.isAgg2 (fun w1 hC => (At.of_add (m := 0) (j := 0) (boxAt (i := 0) hC rfl (j := 0) rfl)))) fun a S => ?_
       refine lq p0 S (q_move rfl) fun a S => ?_
       refine lq p0 S (q_nilCheck rfl ((hat33 0 _ rfl).isP)) fun a S => ?_
       refine lq (pAdd p0 0) S (q_fieldAddr' 0 2 rfl ((hat33 0 _ rfl).isP) Tryz.underlying25 rfl Tryz.sizeOf2) fun a S => ?_
       refine lq (.int .i64 a0.1) S (q_load1 rfl Tryz.isAgg2 (fun w1 hC => (At.of_add (m := 0) (j := 0) ((hat33 0 _ rfl).ext hC.ext)))) fun a S => ?_
       refine lq (.int .i64 (W (a0.1 - (1 : Int)))) S (q_sub rfl rfl) fun a S => ?_
       obtain ⟨x238, e239, hm⟩ := bind_some hm
       refine lx_call (xs := [.tmp 57, .const (.int .i64 (0)), .tmp 62]) S trivial (by decide) rfl rfl Tryz.call40 ((spec_l00In_ok    e239).mono ?_)
       rintro e w236 ⟨rfl, Hc237⟩
       have H := H.call0 Hc237
       refine ⟨_, rfl, H.sel [0] (by decide), fun a S => ?_⟩
       refine lq (.bool (!x238)) S (q_not rfl) fun a S => ?_
       refine lq (.bool (!x238)) S (q_move rfl) fun a S => ?_
       obtain ⟨t241, e242, hm⟩ := bind_some hm
       refine lx_cut 10 (fun a w => Slots a 101 [(0, p0), (3, (.int .i64 x142)), (4, (bp b230)), (75, (.bool t241))] ∧ Heap w0 [bA b230 [(.int .i64 x217.1), (.int .i64 x217.2.1), (.int .i64 x217.2.2)] 48] w) ?_ ?_
       ·by_cases hc243 : (!x238) = true
        ·have hm := ite_t hc243 e242
         refine lx_skip S rfl rfl (isB_ne hc243) (by decide) (fun a S => ?_)
         refine lx_skip S rfl rfl (isB_ne hc243) (by decide) (fun a S => ?_)
         refine lx_skip S rfl rfl (isB_ne hc243) (by decide) (fun a S => ?_)
         refine lx_skip S rfl rfl (isB_ne hc243) (by decide) (fun a S => ?_)
         refine lx_skip S rfl rfl (isB_ne hc243) (by decide) (fun a S => ?_)
         refine lx_skip S rfl rfl (isB_ne hc243) (by decide) (fun a S => ?_)
         refine lx_skip S rfl rfl (isB_ne hc243) (by decide) (fun a S => ?_)
         refine lx_skip S rfl rfl (isB_ne hc243) (by decide) (fun a S => ?_)
         refine lx_skip S rfl rfl (isB_ne hc243) (by decide) (fun a S => ?_)
         refine lq (.bool true) S (q_pickT' rfl hc243 rfl) fun a S => ?_
         refine lx_nil ?_
         obtain rfl := Option.some.inj hm
         exact ⟨S.sub ⟨rfl, rfl, rfl, rfl, trivial⟩, H⟩
        ·have hm := ite_f (eq_false_of_ne_true hc243) e242
         have hc243 : (!x238) = false := eq_false_of_ne_true hc243
         refine lx_q (pAdd (bp b230) 2) S (want_b rfl rfl hc243) (by decide) (q_fieldAddr' 2 2 rfl (isP_bp _) Tryz.underlying48 rfl Tryz.sizeOf2) (fun a S => ?_)
         refine lx_q (.int .i64 x217.2.2) S (want_b rfl rfl hc243) (by decide) (q_load1 rfl Tryz.isAgg2 (fun w1 hC => (At.of_add (m := 2) (j := 0) (boxAt (i := 0) hC rfl (j := 2) rfl)))) (fun a S => ?_)
         refine lx_q p0 S (want_b rfl rfl hc243) (by decide) (q_move rfl) (fun a S => ?_)
         refine lx_q p0 S (want_b rfl rfl hc243) (by decide) (q_nilCheck rfl ((hat33 0 _ rfl).isP)) (fun a S => ?_)
         refine lx_q (pAdd p0 0) S (want_b rfl rfl hc243) (by decide) (q_fieldAddr' 0 2 rfl ((hat33 0 _ rfl).isP) Tryz.underlying25 rfl Tryz.sizeOf2) (fun a S => ?_)
         refine lx_q (.int .i64 a0.1) S (want_b rfl rfl hc243) (by decide) (q_load1 rfl Tryz.isAgg2 (fun w1 hC => (At.of_add (m := 0) (j := 0) ((hat33 0 _ rfl).ext hC.ext)))) (fun a S => ?_)
         refine lx_q (.int .i64 (W (a0.1 - (1 : Int)))) S (want_b rfl rfl hc243) (by decide) (q_sub rfl rfl) (fun a S => ?_)
         obtain ⟨x246, e247, hm⟩ := bind_some hm
         refine lx_call (xs := [.tmp 67, .const (.int .i64 (0)), .tmp 72]) S (want_b rfl rfl hc243) (by decide) rfl rfl Tryz.call40 ((spec_l00In_ok    e247).mono ?_)
         rintro e w244 ⟨rfl, Hc245⟩
         have H := H.call0 Hc245
         refine ⟨_, rfl, H.sel [0] (by decide), fun a S => ?_⟩
         refine lx_q (.bool (!x246)) S (want_b rfl rfl hc243) (by decide) (q_not rfl) (fun a S => ?_)
         refine lq (.bool (!x246)) S (q_pickF' rfl hc243 rfl) fun a S => ?_
         refine lx_nil ?_
         obtain rfl := Option.some.inj hm
         exact ⟨S.sub ⟨rfl, rfl, rfl, rfl, trivial⟩, H⟩
       ·rintro a w ⟨S, H⟩
        refine lq (.bool t241) S (q_move rfl) fun a S => ?_
        obtain ⟨t249, e250, hm⟩ := bind_some hm
        refine lx_cut 11 (fun a w => Slots a 101 [(0, p0), (3, (.int .i64 x142)), (4, (bp b230)), (87, (.bool t249))] ∧ Heap w0 [bA b230 [(.int .i64 x217.1), (.int .i64 x217.2.1), (.int .i64 x217.2.2)] 48] w) ?_ ?_
        ·by_cases hc251 : t241 = true
         ·have hm := ite_t hc251 e250
          refine lx_skip S rfl rfl (isB_ne hc251) (by decide) (fun a S => ?_)
          refine lx_skip S rfl rfl (isB_ne hc251) (by decide) (fun a S => ?_)
          refine lx_skip S rfl rfl (isB_ne hc251) (by decide) (fun a S => ?_)
          refine lx_skip S rfl rfl (isB_ne hc251) (by decide) (fun a S => ?_)
          refine lx_skip S rfl rfl (isB_ne hc251) (by decide) (fun a S => ?_)
          refine lx_skip S rfl rfl (isB_ne hc251) (by decide) (fun a S => ?_)
          refine lx_skip S rfl rfl (isB_ne hc251) (by decide) (fun a S => ?_)
          refine lx_skip S rfl rfl (isB_ne hc251) (by decide) (fun a S => ?_)
          refine lx_skip S rfl rfl (isB_ne hc251) (by decide) (fun a S => ?_)
          refine lx_skip S rfl rfl (isB_ne hc251) (by decide) (fun a S => ?_)
          refine lq (.bool true) S (q_pickT' rfl hc251 rfl) fun a S => ?_
          refine lx_nil ?_
          obtain rfl := Option.some.inj hm
          exact ⟨S.sub ⟨rfl, rfl, rfl, rfl, trivial⟩, H⟩
         ·have hm := ite_f (eq_false_of_ne_true hc251) e250
          have hc251 : t241 = false := eq_false_of_ne_true hc251
          refine lx_q (pAdd (bp b230) 1) S (want_b rfl rfl hc251) (by decide) (q_fieldAddr' 1 2 rfl (isP_bp _) Tryz.underlying48 rfl Tryz.sizeOf2) (fun a S => ?_)
          refine lx_q (.int .i64 x217.2.1) S (want_b rfl rfl hc251) (by decide) (q_load1 rfl Tryz.isAgg2 (fun w1 hC => (At.of_add (m := 1) (j := 0) (boxAt (i := 0) hC rfl (j := 1) rfl)))) (fun a S => ?_)
          refine lx_q p0 S (want_b rfl rfl hc251) (by decide) (q_move rfl) (fun a S => ?_)
          refine lx_q p0 S (want_b rfl rfl hc251) (by decide) (q_nilCheck rfl ((hat33 0 _ rfl).isP)) (fun a S => ?_)
          refine lx_q (pAdd p0 2) S (want_b rfl rfl hc251) (by decide) (q_fieldAddr' 2 22 rfl ((hat33 0 _ rfl).isP) Tryz.underlying25 rfl Tryz.sizeOf22) (fun a S => ?_)
          refine lx_q v34 S (want_b rfl rfl hc251) (by decide) (q_load1 rfl Tryz.isAgg22 (fun w1 hC => (At.of_add (m := 2) (j := 0) ((hat33 2 _ rfl).ext hC.ext)))) (fun a S => ?_)
          refine lx_q (.int .i64 (a0.2.2.1.length : Int)) S (want_b rfl rfl hc251) (by decide) (q_lenSl rfl (h35).isSl rfl Tryz.underlying22) (fun a S => ?_)
          refine lx_q (.int .i64 (W ((a0.2.2.1.length : Int) - (1 : Int)))) S (want_b rfl rfl hc251) (by decide) (q_sub rfl rfl) (fun a S => ?_)
          obtain ⟨x254, e255, hm⟩ := bind_some hm
          refine lx_call (xs := [.tmp 78, .const (.int .i64 (0)), .tmp 84]) S (want_b rfl rfl hc251) (by decide) rfl rfl Tryz.call40 ((spec_l00In_ok    e255).mono ?_)
          rintro e w252 ⟨rfl, Hc253⟩
          have H := H.call0 Hc253
          refine ⟨_, rfl, H.sel [0] (by decide), fun a S => ?_⟩
          refine lx_q (.bool (!x254)) S (want_b rfl rfl hc251) (by decide) (q_not rfl) (fun a S => ?_)
          refine lq (.bool (!x254)) S (q_pickF' rfl hc251 rfl) fun a S => ?_
          refine lx_nil ?_
          obtain rfl := Option.some.inj hm
          exact ⟨S.sub ⟨rfl, rfl, rfl, rfl, trivial⟩, H⟩
        ·rintro a w ⟨S, H⟩
         refine lx_nil (thenN ?_)
         refine cond_b S rfl (fun hc257 => ?_) (fun hc257 => ?_)
         ·have hm := ite_t hc257 hm
          refine wp_seq (region_plain ?_)
          refine lq (.bool false) S (q_assign rfl) fun a S => ?_
          refine lx_nil (thenN ?_)
          refine wp_ret (then_ret ?_)
          refine inBlock_ret ?_
          refine then_ret ?_
          refine then_ret ?_
          refine inBlock_ret ?_
          refine then_ret ?_
          refine then_ret ?_
          obtain rfl := it_brk hm hc215
          have hm := ctl_inr hk212
          obtain rfl := Option.some.inj hm
          have H : Heap w0 [] w := H.sel [] (by decide)
          exact leave1 S rfl rfl ⟨rfl, H⟩
         ·have hm := ite_f hc257 hm
          refine wp_skip (thenN ?_)
          refine wp_seq (region_plain ?_)
          refine lq (.int .i64 x142) S (q_move rfl) fun a S => ?_
          refine lq (.bool (decide ((0 : Int) < x142))) S (q_gtr rfl rfl) fun a S => ?_
          refine lq (.bool (decide ((0 : Int) < x142))) S (q_move rfl) fun a S => ?_
          obtain ⟨t258, e259, hm⟩ := bind_some hm
          refine lx_cut 10 (fun a w => Slots a 101 [(0, p0), (3, (.int .i64 x142)), (100, (.bool t258))] ∧ Heap w0 [] w) ?_ ?_
          ·by_cases hc260 : (decide ((0 : Int) < x142)) = true
           ·have hm := ite_t hc260 e259
            refine lx_q p0 S (want_b rfl rfl hc260) (by decide) (q_move rfl) (fun a S => ?_)
            refine lx_q p0 S (want_b rfl rfl hc260) (by decide) (q_nilCheck rfl ((hat33 0 _ rfl).isP)) (fun a S => ?_)
            refine lx_q (pAdd p0 3) S (want_b rfl rfl hc260) (by decide) (q_fieldAddr' 3 23 rfl ((hat33 0 _ rfl).isP) Tryz.underlying25 rfl Tryz.sizeOf23) (fun a S => ?_)
            refine lx_e v36 S (want_b rfl rfl hc260) (by decide) rfl trivial (q_load1 rfl Tryz.isAgg23 (by rintro _ rfl; exact (At.of_add (m := 3) (j := 0) ((hat33 3 _ rfl).ext H.ext)))) (fun a S => ?_)
            refine lx_q (.int .i64 x142) S (want_b rfl rfl hc260) (by decide) (q_move rfl) (fun a S => ?_)
            refine lx_q (.int .i64 (W (x142 - (1 : Int)))) S (want_b rfl rfl hc260) (by decide) (q_sub rfl rfl) (fun a S => ?_)
            obtain ⟨x261, e262, hm⟩ := bind_some hm
            obtain ⟨c263, h264, hat265⟩ := (h37).elem (idx_some e262).2
            obtain ⟨c266, c267, rfl, h268, h269⟩ := h264
            obtain rfl := h268
            obtain ⟨c270, c271, rfl, h272, h273⟩ := h269
            obtain rfl := h272
            obtain rfl := h273
            have hlt := lt_of_idx (idx_some e262).2
            refine lx_q (ePtr v36 ((W (x142 - (1 : Int))).toNat * 3)) S (want_b rfl rfl hc260) (by decide) (q_indexAddr rfl (h37).isSl rfl (idx_some e262).1 hlt Tryz.underlying23 Tryz.sizeOf48) (fun a S => ?_)
            obtain ⟨x276, e277, hm⟩ := bind_some hm
            refine lx_call (xs := [.tmp 97, .tmp 4]) S (want_b rfl rfl hc260) (by decide) rfl rfl Tryz.call42 ((spec_l11Less_ok ((H.arg h37).elemPtr (idx_some e262).2) (rdPtr_box H 0 rfl ⟨[(.int .i64 x217.1)], [(.int .i64 x217.2.1), (.int .i64 x217.2.2)], rfl, rfl, ⟨[(.int .i64 x217.2.1)], [(.int .i64 x217.2.2)], rfl, rfl, rfl⟩⟩) e277).mono ?_)
            rintro e w274 ⟨rfl, Hc275⟩
            have H := H.call0 Hc275
            refine ⟨_, rfl, trivial, fun a S => ?_⟩
            refine lx_q (.bool (!x276)) S (want_b rfl rfl hc260) (by decide) (q_not rfl) (fun a S => ?_)
            refine lq (.bool (!x276)) S (q_pickT' rfl hc260 rfl) fun a S => ?_
            refine lx_nil ?_
            obtain rfl := Option.some.inj hm
            have H := H.sel [] (by decide)
            exact ⟨S.sub ⟨rfl, rfl, rfl, trivial⟩, H⟩
           ·have hm := ite_f (eq_false_of_ne_true hc260) e259
            have hc260 : (decide ((0 : Int) < x142)) = false := eq_false_of_ne_true hc260
            refine lx_skip S rfl rfl (isB_ne hc260) (by decide) (fun a S => ?_)
            refine lx_skip S rfl rfl (isB_ne hc260) (by decide) (fun a S => ?_)
            refine lx_skip S rfl rfl (isB_ne hc260) (by decide) (fun a S => ?_)
            refine lx_skip S rfl rfl (isB_ne hc260) (by decide) (fun a S => ?_)
            refine lx_skip S rfl rfl (isB_ne hc260) (by decide) (fun a S => ?_)
            refine lx_skip S rfl rfl (isB_ne hc260) (by decide) (fun a S => ?_)
            refine lx_skip S rfl rfl (isB_ne hc260) (by decide) (fun a S => ?_)
            refine lx_skip S rfl rfl (isB_ne hc260) (by decide) (fun a S => ?_)
            refine lx_skip S rfl rfl (isB_ne hc260) (by decide) (fun a S => ?_)
            refine lq (.bool false) S (q_pickF' rfl hc260 rfl) fun a S => ?_
            refine lx_nil ?_
            obtain rfl := Option.some.inj hm
            have H := H.sel [] (by decide)
            exact ⟨S.sub ⟨rfl, rfl, rfl, trivial⟩, H⟩
          ·rintro a w ⟨S, H⟩
           refine lx_nil (thenN ?_)
           refine cond_b S rfl (fun hc279 => ?_) (fun hc279 => ?_)
           ·have hm := ite_t hc279 hm
            refine wp_seq (region_plain ?_)
            refine lq (.bool false) S (q_assign rfl) fun a S => ?_
            refine lx_nil (thenN ?_)
            refine wp_ret (inBlock_ret ?_)
            refine then_ret ?_
            refine then_ret ?_
            refine inBlock_ret ?_
            refine then_ret ?_
            refine then_ret ?_
            obtain rfl := it_brk hm hc215
            have hm := ctl_inr hk212
            obtain rfl := Option.some.inj hm
            exact leave1 S rfl rfl ⟨rfl, H⟩
           ·have hm := ite_f hc279 hm
            refine wp_skip ?_
            refine inBlock_norm ?_
            refine thenN ?_
            refine region_plain ?_
            refine lq (.int .i64 x142) S (q_move rfl) fun a S => ?_
            refine lq (.int .i64 (W (x142 + (1 : Int)))) S (q_add rfl rfl) fun a S => ?_
            refine lq (.int .i64 (W (x142 + (1 : Int)))) S (q_assign rfl) fun a S => ?_
            refine lx_nil ?_
            exact ⟨m213, Nat.lt_succ_self _, (W (x142 + (1 : Int))), S.sub ⟨rfl, rfl, trivial⟩, H, it_cont hm hc215⟩
      ·have hm := ite_f hc216 hm
       refine wp_exit ?_
       refine then_exit ?_
       refine then_exit ?_
       refine inBlock_exit ?_
       obtain rfl := it_brk hm hc215
       exact ⟨S.sub trivial, H, rfl⟩
end Go.Proofs.YtlmopoaeekhmeaaGreatDoor
