/- The models of some functions and their walks (printed by a program of this repo). -/
import Derived.Test.YtnkpniekdipgaaaGreatDoorF0
import Derived.Test.YtnkpniekdipgaaaGreatDoorF1
import Derived.Test.YtnkpniekdipgaaaGreatDoorF2
import Derived.Test.YtnkpniekdipgaaaGreatDoorGxT
import Derived.Test.YtnkpniekdipgaaaGreatDoorGxY
namespace Go.Proofs.YtnkpniekdipgaaaGreatDoor
open Go.RowKit Go.Gx

/-- spec.l11Is -/
def spec_l11Is_m (fuel : Nat) (a0 : Timpl_Lts) : Option (Bool) :=
  (spec_l00In_m fuel a0.1 (1 : Int) (40 : Int)).bind fun x54 => (if (!x54) = true then some true else (spec_l00In_m fuel a0.2.1 (0 : Int) (W (a0.1 - (1 : Int)))).bind fun x62 => some (!x62)).bind fun t57 => (if t57 = true then some true else (spec_l11Names_m fuel a0.2.2.1).bind fun x70 => some (!x70)).bind fun t65 => (if t65 = true then some true else some (decide ((300 : Int) < (a0.2.2.2.length : Int)))).bind fun t73 => (if t73 = true then some (false) else (iter (fun (s : (Int)) => (match s with | (x142) => (if (decide (x142 < (a0.2.2.2.length : Int))) = true then (idx a0.2.2.2 x142).bind fun x217 => (spec_l00In_m fuel x217.1 (0 : Int) (W (a0.1 - (1 : Int)))).bind fun x238 => (if (!x238) = true then some true else (spec_l00In_m fuel x217.2.2 (0 : Int) (W (a0.1 - (1 : Int)))).bind fun x246 => some (!x246)).bind fun t241 => (if t241 = true then some true else (spec_l00In_m fuel x217.2.1 (0 : Int) (W ((a0.2.2.1.length : Int) - (1 : Int)))).bind fun x254 => some (!x254)).bind fun t249 => (if t249 = true then some (.inr (.inr false)) else (if (decide ((0 : Int) < x142)) = true then (idx a0.2.2.2 (W (x142 - (1 : Int)))).bind fun x261 => (spec_l11Less_m fuel x261 (x217.1, x217.2.1, x217.2.2)).bind fun x276 => some (!x276) else some false).bind fun t258 => (if t258 = true then some (.inr (.inr false)) else some (.inl ((W (x142 + (1 : Int))))))) else some (.inr (.inl ()))) : Option (((Int)) ⊕ ((Unit) ⊕ (Bool))))) fuel ((0 : Int))).bind fun res208 => ctl (β := Unit) (ρ := Bool) (τ := Bool) res208 (fun _ => some (true)) (fun q => some (q)))
set_option maxRecDepth 20000 in
theorem spec_l11Is_ok [dr : Dr] {w0 : World} {fuel : Nat} {p0 : Value} {a0 : Timpl_Lts} {r : Bool} (h0 : Rd (rPtr Rimpl_Lts) w0 p0 a0) (hm : spec_l11Is_m fuel a0 = some r) :
  Calls Tryz.prog 27 #[p0] w0 fun e w => e = .returned (.bool r) ∧ Heap w0 [] w := by
 unfold spec_l11Is_m at hm
 have H := Heap.start w0
 obtain ⟨c31, h32, hat33⟩ := h0.ptr
 obtain ⟨c38, c39, rfl, h40, h41⟩ := h32
 obtain rfl := h40
 obtain ⟨c42, c43, rfl, h44, h45⟩ := h41
 obtain rfl := h44
 obtain ⟨c46, c47, rfl, h48, h49⟩ := h45
 obtain ⟨v34, rfl, h35⟩ := rd_list h48
 obtain ⟨v36, rfl, h37⟩ := rd_list h49
 refine enter (args := [p0]) Tryz.func27 rfl 101 rfl (Nat.le_of_ble_eq_true rfl) (fun a S => ?_)
 refine wp_seq (region_plain ?_)
 refine lq (.bool false) S (q_assign rfl) fun a S => ?_
 refine lx_nil (thenN ?_)
 refine wp_seq ?_
 refine wp_seq ?_
 refine region_drawG (fun w1 => Heap w0 [] w1) (fun i => [4, 16, 24].contains i) mixed (by kernel_rfl) (fun w51 he50 => ?_)
 have H := H.later he50
 refine ⟨H.sel [] (by decide), ?_⟩
 refine lq p0 S (q_move rfl) fun a S => ?_
 refine lq p0 S (q_nilCheck rfl ((hat33 0 _ rfl).isP)) fun a S => ?_
 refine lq (pAdd p0 0) S (q_fieldAddr' 0 2 rfl ((hat33 0 _ rfl).isP) Tryz.underlying35 rfl Tryz.sizeOf2) fun a S => ?_
 refine lq (.int .i64 a0.1) S (q_load1 rfl Tryz.isAgg2 (fun w1 hC => (At.of_add (m := 0) (j := 0) ((hat33 0 _ rfl).ext hC.ext)))) fun a S => ?_
 obtain ⟨x54, e55, hm⟩ := bind_some hm
 refine lx_call (xs := [.tmp 8, .const (.int .i64 (1)), .const (.int .i64 (40))]) S trivial (by decide) rfl rfl Tryz.call28 ((spec_l00In_ok    e55).mono ?_)
 rintro e w52 ⟨rfl, Hc53⟩
 have H := H.call0 Hc53
 refine ⟨_, rfl, H.sel [] (by decide), fun a S => ?_⟩
 refine lq (.bool (!x54)) S (q_not rfl) fun a S => ?_
 refine lq (.bool (!x54)) S (q_move rfl) fun a S => ?_
 obtain ⟨t57, e58, hm⟩ := bind_some hm
 refine lx_cut 12 (fun a w => Slots a 101 [(0, p0), (23, (.bool t57))] ∧ Heap w0 [] w) ?_ ?_
 ·by_cases hc59 : (!x54) = true
  ·have hm := ite_t hc59 e58
   refine lx_skip S rfl rfl (isB_ne hc59) (by decide) (fun a S => ?_)
   refine lx_skip S rfl rfl (isB_ne hc59) (by decide) (fun a S => ?_)
   refine lx_skip S rfl rfl (isB_ne hc59) (by decide) (fun a S => ?_)
   refine lx_skip S rfl rfl (isB_ne hc59) (by decide) (fun a S => ?_)
   refine lx_skip S rfl rfl (isB_ne hc59) (by decide) (fun a S => ?_)
   refine lx_skip S rfl rfl (isB_ne hc59) (by decide) (fun a S => ?_)
   refine lx_skip S rfl rfl (isB_ne hc59) (by decide) (fun a S => ?_)
   refine lx_skip S rfl rfl (isB_ne hc59) (by decide) (fun a S => ?_)
   refine lx_skip S rfl rfl (isB_ne hc59) (by decide) (fun a S => ?_)
   refine lx_skip S rfl rfl (isB_ne hc59) (by decide) (fun a S => ?_)
   refine lx_skip S rfl rfl (isB_ne hc59) (by decide) (fun a S => ?_)
   refine lq (.bool true) S (q_pickT' rfl hc59 rfl) fun a S => ?_
   refine lx_nil ?_
   obtain rfl := Option.some.inj hm
   exact ⟨S.sub ⟨rfl, rfl, trivial⟩, H⟩
  ·have hm := ite_f (eq_false_of_ne_true hc59) e58
   have hc59 : (!x54) = false := eq_false_of_ne_true hc59
   refine lx_q p0 S (want_b rfl rfl hc59) (by decide) (q_move rfl) (fun a S => ?_)
   refine lx_q p0 S (want_b rfl rfl hc59) (by decide) (q_nilCheck rfl ((hat33 0 _ rfl).isP)) (fun a S => ?_)
   refine lx_q (pAdd p0 1) S (want_b rfl rfl hc59) (by decide) (q_fieldAddr' 1 2 rfl ((hat33 0 _ rfl).isP) Tryz.underlying35 rfl Tryz.sizeOf2) (fun a S => ?_)
   refine lx_q (.int .i64 a0.2.1) S (want_b rfl rfl hc59) (by decide) (q_load1 rfl Tryz.isAgg2 (fun w1 hC => (At.of_add (m := 1) (j := 0) ((hat33 1 _ rfl).ext hC.ext)))) (fun a S => ?_)
   refine lx_q p0 S (want_b rfl rfl hc59) (by decide) (q_move rfl) (fun a S => ?_)
   refine lx_q p0 S (want_b rfl rfl hc59) (by decide) (q_nilCheck rfl ((hat33 0 _ rfl).isP)) (fun a S => ?_)
   refine lx_q (pAdd p0 0) S (want_b rfl rfl hc59) (by decide) (q_fieldAddr' 0 2 rfl ((hat33 0 _ rfl).isP) Tryz.underlying35 rfl Tryz.sizeOf2) (fun a S => ?_)
   refine lx_q (.int .i64 a0.1) S (want_b rfl rfl hc59) (by decide) (q_load1 rfl Tryz.isAgg2 (fun w1 hC => (At.of_add (m := 0) (j := 0) ((hat33 0 _ rfl).ext hC.ext)))) (fun a S => ?_)
   refine lx_q (.int .i64 (W (a0.1 - (1 : Int)))) S (want_b rfl rfl hc59) (by decide) (q_sub rfl rfl) (fun a S => ?_)
   obtain ⟨x62, e63, hm⟩ := bind_some hm
   refine lx_call (xs := [.tmp 15, .const (.int .i64 (0)), .tmp 20]) S (want_b rfl rfl hc59) (by decide) rfl rfl Tryz.call28 ((spec_l00In_ok    e63).mono ?_)
   rintro e w60 ⟨rfl, Hc61⟩
   have H := H.call0 Hc61
   refine ⟨_, rfl, H.sel [] (by decide), fun a S => ?_⟩
   refine lx_q (.bool (!x62)) S (want_b rfl rfl hc59) (by decide) (q_not rfl) (fun a S => ?_)
   refine lq (.bool (!x62)) S (q_pickF' rfl hc59 rfl) fun a S => ?_
   refine lx_nil ?_
   obtain rfl := Option.some.inj hm
   exact ⟨S.sub ⟨rfl, rfl, trivial⟩, H⟩
 ·rintro a w ⟨S, H⟩
  refine lq (.bool t57) S (q_move rfl) fun a S => ?_
  obtain ⟨t65, e66, hm⟩ := bind_some hm
  refine lx_cut 7 (fun a w => Slots a 101 [(0, p0), (31, (.bool t65))] ∧ Heap w0 [] w) ?_ ?_
  ·by_cases hc67 : t57 = true
   ·have hm := ite_t hc67 e66
    refine lx_skip S rfl rfl (isB_ne hc67) (by decide) (fun a S => ?_)
    refine lx_skip S rfl rfl (isB_ne hc67) (by decide) (fun a S => ?_)
    refine lx_skip S rfl rfl (isB_ne hc67) (by decide) (fun a S => ?_)
    refine lx_skip S rfl rfl (isB_ne hc67) (by decide) (fun a S => ?_)
    refine lx_skip S rfl rfl (isB_ne hc67) (by decide) (fun a S => ?_)
    refine lx_skip S rfl rfl (isB_ne hc67) (by decide) (fun a S => ?_)
    refine lq (.bool true) S (q_pickT' rfl hc67 rfl) fun a S => ?_
    refine lx_nil ?_
    obtain rfl := Option.some.inj hm
    exact ⟨S.sub ⟨rfl, rfl, trivial⟩, H⟩
   ·have hm := ite_f (eq_false_of_ne_true hc67) e66
    have hc67 : t57 = false := eq_false_of_ne_true hc67
    refine lx_q p0 S (want_b rfl rfl hc67) (by decide) (q_move rfl) (fun a S => ?_)
    refine lx_q p0 S (want_b rfl rfl hc67) (by decide) (q_nilCheck rfl ((hat33 0 _ rfl).isP)) (fun a S => ?_)
    refine lx_q (pAdd p0 2) S (want_b rfl rfl hc67) (by decide) (q_fieldAddr' 2 23 rfl ((hat33 0 _ rfl).isP) Tryz.underlying35 rfl Tryz.sizeOf23) (fun a S => ?_)
    refine lx_q v34 S (want_b rfl rfl hc67) (by decide) (q_load1 rfl Tryz.isAgg23 (fun w1 hC => (At.of_add (m := 2) (j := 0) ((hat33 2 _ rfl).ext hC.ext)))) (fun a S => ?_)
    obtain ⟨x70, e71, hm⟩ := bind_some hm
    refine lx_call (xs := [.tmp 28]) S (want_b rfl rfl hc67) (by decide) rfl rfl Tryz.call48 ((spec_l11Names_ok (H.arg h35) e71).mono ?_)
    rintro e w68 ⟨rfl, Hc69⟩
    have H := H.call0 Hc69
    refine ⟨_, rfl, H.sel [] (by decide), fun a S => ?_⟩
    refine lx_q (.bool (!x70)) S (want_b rfl rfl hc67) (by decide) (q_not rfl) (fun a S => ?_)
    refine lq (.bool (!x70)) S (q_pickF' rfl hc67 rfl) fun a S => ?_
    refine lx_nil ?_
    obtain rfl := Option.some.inj hm
    exact ⟨S.sub ⟨rfl, rfl, trivial⟩, H⟩
  ·rintro a w ⟨S, H⟩
   refine lq (.bool t65) S (q_move rfl) fun a S => ?_
   obtain ⟨t73, e74, hm⟩ := bind_some hm
   refine lx_cut 7 (fun a w => Slots a 101 [(0, p0), (39, (.bool t73))] ∧ Heap w0 [] w) ?_ ?_
   ·by_cases hc75 : t65 = true
    ·have hm := ite_t hc75 e74
     refine lx_skip S rfl rfl (isB_ne hc75) (by decide) (fun a S => ?_)
     refine lx_skip S rfl rfl (isB_ne hc75) (by decide) (fun a S => ?_)
     refine lx_skip S rfl rfl (isB_ne hc75) (by decide) (fun a S => ?_)
     refine lx_skip S rfl rfl (isB_ne hc75) (by decide) (fun a S => ?_)
     refine lx_skip S rfl rfl (isB_ne hc75) (by decide) (fun a S => ?_)
     refine lx_skip S rfl rfl (isB_ne hc75) (by decide) (fun a S => ?_)
     refine lq (.bool true) S (q_pickT' rfl hc75 rfl) fun a S => ?_
     refine lx_nil ?_
     obtain rfl := Option.some.inj hm
     exact ⟨S.sub ⟨rfl, rfl, trivial⟩, H⟩
    ·have hm := ite_f (eq_false_of_ne_true hc75) e74
     have hc75 : t65 = false := eq_false_of_ne_true hc75
     refine lx_q p0 S (want_b rfl rfl hc75) (by decide) (q_move rfl) (fun a S => ?_)
     refine lx_q p0 S (want_b rfl rfl hc75) (by decide) (q_nilCheck rfl ((hat33 0 _ rfl).isP)) (fun a S => ?_)
     refine lx_q (pAdd p0 3) S (want_b rfl rfl hc75) (by decide) (q_fieldAddr' 3 33 rfl ((hat33 0 _ rfl).isP) Tryz.underlying35 rfl Tryz.sizeOf33) (fun a S => ?_)
     refine lx_q v36 S (want_b rfl rfl hc75) (by decide) (q_load1 rfl Tryz.isAgg33 (fun w1 hC => (At.of_add (m := 3) (j := 0) ((hat33 3 _ rfl).ext hC.ext)))) (fun a S => ?_)
     refine lx_q (.int .i64 (a0.2.2.2.length : Int)) S (want_b rfl rfl hc75) (by decide) (q_lenSl rfl (h37).isSl rfl Tryz.underlying33) (fun a S => ?_)
     refine lx_q (.bool (decide ((300 : Int) < (a0.2.2.2.length : Int)))) S (want_b rfl rfl hc75) (by decide) (q_gtr rfl rfl) (fun a S => ?_)
     refine lq (.bool (decide ((300 : Int) < (a0.2.2.2.length : Int)))) S (q_pickF' rfl hc75 rfl) fun a S => ?_
     refine lx_nil ?_
     obtain rfl := Option.some.inj hm
     exact ⟨S.sub ⟨rfl, rfl, trivial⟩, H⟩
   ·rintro a w ⟨S, H⟩
    refine lx_nil (thenN ?_)
    refine cond_b S rfl (fun hc76 => ?_) (fun hc76 => ?_)
    ·have hm := ite_t hc76 hm
     refine wp_seq (region_plain ?_)
     refine lq (.bool false) S (q_assign rfl) fun a S => ?_
     refine lx_nil (thenN ?_)
     refine wp_ret (then_ret ?_)
     obtain rfl := Option.some.inj hm
     exact leave1 S rfl rfl ⟨rfl, H⟩
    ·have hm := ite_f hc76 hm
     refine wp_skip (thenN ?_)
     refine wp_seq (wp_seq (region_plain ?_))
     refine lq (.int .i64 (0 : Int)) S (q_assign rfl) fun a S => ?_
     refine lx_nil (thenN ?_)
     obtain ⟨res208, hit209, hk212⟩ := bind_some hm
     obtain ⟨f210, hf211, hit209⟩ := iter_name hit209
     refine block_loop (fun a w => Slots a 101 [] ∧ Heap w0 [] w ∧ res208 = .inl ()) ?_ ?_
     ·rintro a w ⟨S, H, rfl⟩
      have hm := ctl_inl hk212
      refine thenN ?_
      refine wp_seq (region_plain ?_)
      refine lq (.bool true) S (q_assign rfl) fun a S => ?_
      refine lx_nil (thenN ?_)
      refine wp_ret ?_
      obtain rfl := Option.some.inj hm
      exact leave1 S rfl rfl ⟨rfl, H⟩
     ·skip
      refine loop_ghost (fun n a w => ∃ (x142 : Int), Slots a 101 [(0, p0), (3, (.int .i64 x142))] ∧ Heap w0 [] w ∧ iter f210 n (x142) = some res208) _ ⟨(0 : Int), S.sub ⟨rfl, rfl, trivial⟩, H, hit209⟩ ?_
      rintro n a w ⟨x142, S, H, hit209⟩
      obtain ⟨m213, o214, rfl, hm, hc215⟩ := iter_step hit209
      rw [hf211] at hm
      refine wp_seq (wp_seq (region_plain ?_))
      refine lq (.int .i64 x142) S (q_move rfl) fun a S => ?_
      refine lq p0 S (q_move rfl) fun a S => ?_
      refine lq p0 S (q_nilCheck rfl ((hat33 0 _ rfl).isP)) fun a S => ?_
      refine lq (pAdd p0 3) S (q_fieldAddr' 3 33 rfl ((hat33 0 _ rfl).isP) Tryz.underlying35 rfl Tryz.sizeOf33) fun a S => ?_
      refine lx_e v36 S trivial (by decide) rfl trivial (q_load1 rfl Tryz.isAgg33 (by rintro _ rfl; exact (At.of_add (m := 3) (j := 0) ((hat33 3 _ rfl).ext H.ext)))) (fun a S => ?_)
      refine lq (.int .i64 (a0.2.2.2.length : Int)) S (q_lenSl rfl (h37).isSl rfl Tryz.underlying33) fun a S => ?_
      refine lq (.bool (decide (x142 < (a0.2.2.2.length : Int)))) S (q_lss rfl rfl) fun a S => ?_
      refine lx_nil (thenN ?_)
      refine cond_b S rfl (fun hc216 => ?_) (fun hc216 => ?_)
      ·have hm := ite_t hc216 hm
       refine wp_skip (thenN ?_)
       refine wp_seq ?_
       refine wp_block ?_
       refine wp_seq (region_plain ?_)
       refine lq p0 S (q_move rfl) fun a S => ?_
       refine lq p0 S (q_nilCheck rfl ((hat33 0 _ rfl).isP)) fun a S => ?_
       refine lq (pAdd p0 3) S (q_fieldAddr' 3 33 rfl ((hat33 0 _ rfl).isP) Tryz.underlying35 rfl Tryz.sizeOf33) fun a S => ?_
       refine lx_e v36 S trivial (by decide) rfl trivial (q_load1 rfl Tryz.isAgg33 (by rintro _ rfl; exact (At.of_add (m := 3) (j := 0) ((hat33 3 _ rfl).ext H.ext)))) (fun a S => ?_)
       refine lq (.int .i64 x142) S (q_move rfl) fun a S => ?_
       obtain ⟨x217, e218, hm⟩ := bind_some hm
       obtain ⟨c219, h220, hat221⟩ := (h37).elem (idx_some e218).2
       obtain ⟨c222, c223, rfl, h224, h225⟩ := h220
       obtain rfl := h224
       obtain ⟨c226, c227, rfl, h228, h229⟩ := h225
       obtain rfl := h228
       obtain rfl := h229
       have hlt := lt_of_idx (idx_some e218).2
       refine lq (ePtr v36 (x142.toNat * 3)) S (q_indexAddr rfl (h37).isSl rfl (idx_some e218).1 hlt Tryz.underlying33 Tryz.sizeOf80) fun a S => ?_
       refine lx_e (.agg #[(.int .i64 x217.1), (.int .i64 x217.2.1), (.int .i64 x217.2.2)]) S trivial (by decide) rfl trivial (q_loadA (cs := [(.int .i64 x217.1), (.int .i64 x217.2.1), (.int .i64 x217.2.2)]) rfl ((hat221 0 _ rfl).isP) Tryz.isAgg80 Tryz.sizeOf80 (by rintro _ rfl; exact (fun j u hu => (hat221 j u hu).ext H.ext))) (fun a S => ?_)
       refine lx_alloc S trivial (by decide) rfl H Tryz.zeroValue80 rfl (fun b230 w231 H => ⟨trivial, fun a S => ?_⟩)
       refine lx_storeBox (o := 0) (i := 0) (us := [(.int .i64 x217.1), (.int .i64 x217.2.1), (.int .i64 x217.2.2)]) (cs' := [(.int .i64 x217.1), (.int .i64 x217.2.1), (.int .i64 x217.2.2)]) S trivial rfl H rfl rfl rfl rfl Tryz.sizeOf80 (Nat.le_of_ble_eq_true rfl) (List.forall_mem_cons.2 ⟨rfl, (List.forall_mem_cons.2 ⟨rfl, (List.forall_mem_cons.2 ⟨rfl, (List.forall_mem_nil _)⟩)⟩)⟩) rfl (fun w233 H => ⟨trivial, fun a S => ?_⟩)
       change Heap w0 [bA b230 [(.int .i64 x217.1), (.int .i64 x217.2.1), (.int .i64 x217.2.2)] 80] w233 at H
       refine lx_nil (thenN ?_)
       refine wp_seq ?_
       refine wp_seq ?_
       refine region_drawG (fun w1 => Heap w0 [bA b230 [(.int .i64 x217.1), (.int .i64 x217.2.1), (.int .i64 x217.2.2)] 80] w1) (fun i => [7, 17, 29].contains i) mixed (by kernel_rfl) (fun w235 he234 => ?_)
       have H := H.later he234
       refine ⟨H.sel [0] (by decide), ?_⟩
       refine lq (pAdd (bp b230) 0) S (q_fieldAddr' 0 2 rfl (isP_bp _) Tryz.underlying80 rfl Tryz.sizeOf2) fun a S => ?_
       refine lq (.int .i64 x217.1) S (q_load1 rfl Tryz.isAgg2 (fun w1 hC => (At.of_add (m := 0) (j := 0) (boxAt (i := 0) hC rfl (j := 0) rfl)))) fun a S => ?_
       refine lq p0 S (q_move rfl) fun a S => ?_
       refine lq p0 S (q_nilCheck rfl ((hat33 0 _ rfl).isP)) fun a S => ?_
       refine lq (pAdd p0 0) S (q_fieldAddr' 0 2 rfl ((hat33 0 _ rfl).isP) Tryz.underlying35 rfl Tryz.sizeOf2) fun a S => ?_
       refine lq (.int .i64 a0.1) S (q_load1 rfl Tryz.isAgg2 (fun w1 hC => (At.of_add (m := 0) (j := 0) ((hat33 0 _ rfl).ext hC.ext)))) fun a S => ?_
       refine lq (.int .i64 (W (a0.1 - (1 : Int)))) S (q_sub rfl rfl) fun a S => ?_
       obtain ⟨x238, e239, hm⟩ := bind_some hm
       refine lx_call (xs := [.tmp 57, .const (.int .i64 (0)), .tmp 62]) S trivial (by decide) rfl rfl Tryz.call28 ((spec_l00In_ok    e239).mono ?_)
       rintro e w236 ⟨rfl, Hc237⟩
       have H := H.call0 Hc237
       refine ⟨_, rfl, H.sel [0] (by decide), fun a S => ?_⟩
       refine lq (.bool (!x238)) S (q_not rfl) fun a S => ?_
       refine lq (.bool (!x238)) S (q_move rfl) fun a S => ?_
       obtain ⟨t241, e242, hm⟩ := bind_some hm
       refine lx_cut 10 (fun a w => Slots a 101 [(0, p0), (3, (.int .i64 x142)), (4, (bp b230)), (75, (.bool t241))] ∧ Heap w0 [bA b230 [(.int .i64 x217.1), (.int .i64 x217.2.1), (.int .i64 x217.2.2)] 80] w) ?_ ?_
       ·by_cases hc243 : (!x238) = true
        ·have hm := ite_t hc243 e242
         refine lx_skip S rfl rfl (isB_ne hc243) (by decide) (fun a S => ?_)
         refine lx_skip S rfl rfl (isB_ne hc243) (by decide) (fun a S => ?_)
         refine lx_skip S rfl rfl (isB_ne hc243) (by decide) (fun a S => ?_)
         refine lx_skip S rfl rfl (isB_ne hc243) (by decide) (fun a S => ?_)
         refine lx_skip S rfl rfl (isB_ne hc243) (by decide) (fun a S => ?_)
         refine lx_skip S rfl rfl (isB_ne hc243) (by decide) (fun a S => ?_)
         refine lx_skip S rfl rfl (isB_ne hc243) (by decide) (fun a S => ?_)
         refine lx_skip S rfl rfl (isB_ne hc243) (by decide) (fun a S => ?_)
         refine lx_skip S rfl rfl (isB_ne hc243) (by decide) (fun a S => ?_)
         refine lq (.bool true) S (q_pickT' rfl hc243 rfl) fun a S => ?_
         refine lx_nil ?_
         obtain rfl := Option.some.inj hm
         exact ⟨S.sub ⟨rfl, rfl, rfl, rfl, trivial⟩, H⟩
        ·have hm := ite_f (eq_false_of_ne_true hc243) e242
         have hc243 : (!x238) = false := eq_false_of_ne_true hc243
         refine lx_q (pAdd (bp b230) 2) S (want_b rfl rfl hc243) (by decide) (q_fieldAddr' 2 2 rfl (isP_bp _) Tryz.underlying80 rfl Tryz.sizeOf2) (fun a S => ?_)
         refine lx_q (.int .i64 x217.2.2) S (want_b rfl rfl hc243) (by decide) (q_load1 rfl Tryz.isAgg2 (fun w1 hC => (At.of_add (m := 2) (j := 0) (boxAt (i := 0) hC rfl (j := 2) rfl)))) (fun a S => ?_)
         refine lx_q p0 S (want_b rfl rfl hc243) (by decide) (q_move rfl) (fun a S => ?_)
         refine lx_q p0 S (want_b rfl rfl hc243) (by decide) (q_nilCheck rfl ((hat33 0 _ rfl).isP)) (fun a S => ?_)
         refine lx_q (pAdd p0 0) S (want_b rfl rfl hc243) (by decide) (q_fieldAddr' 0 2 rfl ((hat33 0 _ rfl).isP) Tryz.underlying35 rfl Tryz.sizeOf2) (fun a S => ?_)
         refine lx_q (.int .i64 a0.1) S (want_b rfl rfl hc243) (by decide) (q_load1 rfl Tryz.isAgg2 (fun w1 hC => (At.of_add (m := 0) (j := 0) ((hat33 0 _ rfl).ext hC.ext)))) (fun a S => ?_)
         refine lx_q (.int .i64 (W (a0.1 - (1 : Int)))) S (want_b rfl rfl hc243) (by decide) (q_sub rfl rfl) (fun a S => ?_)
         obtain ⟨x246, e247, hm⟩ := bind_some hm
         refine lx_call (xs := [.tmp 67, .const (.int .i64 (0)), .tmp 72]) S (want_b rfl rfl hc243) (by decide) rfl rfl Tryz.call28 ((spec_l00In_ok    e247).mono ?_)
         rintro e w244 ⟨rfl, Hc245⟩
         have H := H.call0 Hc245
         refine ⟨_, rfl, H.sel [0] (by decide), fun a S => ?_⟩
         refine lx_q (.bool (!x246)) S (want_b rfl rfl hc243) (by decide) (q_not rfl) (fun a S => ?_)
         refine lq (.bool (!x246)) S (q_pickF' rfl hc243 rfl) fun a S => ?_
         refine lx_nil ?_
         obtain rfl := Option.some.inj hm
         exact ⟨S.sub ⟨rfl, rfl, rfl, rfl, trivial⟩, H⟩
       ·rintro a w ⟨S, H⟩
        refine lq (.bool t241) S (q_move rfl) fun a S => ?_
        obtain ⟨t249, e250, hm⟩ := bind_some hm
        refine lx_cut 11 (fun a w => Slots a 101 [(0, p0), (3, (.int .i64 x142)), (4, (bp b230)), (87, (.bool t249))] ∧ Heap w0 [bA b230 [(.int .i64 x217.1), (.int .i64 x217.2.1), (.int .i64 x217.2.2)] 80] w) ?_ ?_
        ·by_cases hc251 : t241 = true
         ·have hm := ite_t hc251 e250
          refine lx_skip S rfl rfl (isB_ne hc251) (by decide) (fun a S => ?_)
          refine lx_skip S rfl rfl (isB_ne hc251) (by decide) (fun a S => ?_)
          refine lx_skip S rfl rfl (isB_ne hc251) (by decide) (fun a S => ?_)
          refine lx_skip S rfl rfl (isB_ne hc251) (by decide) (fun a S => ?_)
          refine lx_skip S rfl rfl (isB_ne hc251) (by decide) (fun a S => ?_)
          refine lx_skip S rfl rfl (isB_ne hc251) (by decide) (fun a S => ?_)
          refine lx_skip S rfl rfl (isB_ne hc251) (by decide) (fun a S => ?_)
          refine lx_skip S rfl rfl (isB_ne hc251) (by decide) (fun a S => ?_)
          refine lx_skip S rfl rfl (isB_ne hc251) (by decide) (fun a S => ?_)
          refine lx_skip S rfl rfl (isB_ne hc251) (by decide) (fun a S => ?_)
          refine lq (.bool true) S (q_pickT' rfl hc251 rfl) fun a S => ?_
          refine lx_nil ?_
          obtain rfl := Option.some.inj hm
          exact ⟨S.sub ⟨rfl, rfl, rfl, rfl, trivial⟩, H⟩
         ·have hm := ite_f (eq_false_of_ne_true hc251) e250
          have hc251 : t241 = false := eq_false_of_ne_true hc251
          refine lx_q (pAdd (bp b230) 1) S (want_b rfl rfl hc251) (by decide) (q_fieldAddr' 1 2 rfl (isP_bp _) Tryz.underlying80 rfl Tryz.sizeOf2) (fun a S => ?_)
          refine lx_q (.int .i64 x217.2.1) S (want_b rfl rfl hc251) (by decide) (q_load1 rfl Tryz.isAgg2 (fun w1 hC => (At.of_add (m := 1) (j := 0) (boxAt (i := 0) hC rfl (j := 1) rfl)))) (fun a S => ?_)
          refine lx_q p0 S (want_b rfl rfl hc251) (by decide) (q_move rfl) (fun a S => ?_)
          refine lx_q p0 S (want_b rfl rfl hc251) (by decide) (q_nilCheck rfl ((hat33 0 _ rfl).isP)) (fun a S => ?_)
          refine lx_q (pAdd p0 2) S (want_b rfl rfl hc251) (by decide) (q_fieldAddr' 2 23 rfl ((hat33 0 _ rfl).isP) Tryz.underlying35 rfl Tryz.sizeOf23) (fun a S => ?_)
          refine lx_q v34 S (want_b rfl rfl hc251) (by decide) (q_load1 rfl Tryz.isAgg23 (fun w1 hC => (At.of_add (m := 2) (j := 0) ((hat33 2 _ rfl).ext hC.ext)))) (fun a S => ?_)
          refine lx_q (.int .i64 (a0.2.2.1.length : Int)) S (want_b rfl rfl hc251) (by decide) (q_lenSl rfl (h35).isSl rfl Tryz.underlying23) (fun a S => ?_)
          refine lx_q (.int .i64 (W ((a0.2.2.1.length : Int) - (1 : Int)))) S (want_b rfl rfl hc251) (by decide) (q_sub rfl rfl) (fun a S => ?_)
          obtain ⟨x254, e255, hm⟩ := bind_some hm
          refine lx_call (xs := [.tmp 78, .const (.int .i64 (0)), .tmp 84]) S (want_b rfl rfl hc251) (by decide) rfl rfl Tryz.call28 ((spec_l00In_ok    e255).mono ?_)
          rintro e w252 ⟨rfl, Hc253⟩
          have H := H.call0 Hc253
          refine ⟨_, rfl, H.sel [0] (by decide), fun a S => ?_⟩
          refine lx_q (.bool (!x254)) S (want_b rfl rfl hc251) (by decide) (q_not rfl) (fun a S => ?_)
          refine lq (.bool (!x254)) S (q_pickF' rfl hc251 rfl) fun a S => ?_
          refine lx_nil ?_
          obtain rfl := Option.some.inj hm
          exact ⟨S.sub ⟨rfl, rfl, rfl, rfl, trivial⟩, H⟩
        ·rintro a w ⟨S, H⟩
         refine lx_nil (thenN ?_)
         refine cond_b S rfl (fun hc257 => ?_) (fun hc257 => ?_)
         ·have hm := ite_t hc257 hm
          refine wp_seq (region_plain ?_)
          refine lq (.bool false) S (q_assign rfl) fun a S => ?_
          refine lx_nil (thenN ?_)
          refine wp_ret (then_ret ?_)
          refine inBlock_ret ?_
          refine then_ret ?_
          refine then_ret ?_
          refine inBlock_ret ?_
          refine then_ret ?_
          refine then_ret ?_
          obtain rfl := it_brk hm hc215
          have hm := ctl_inr hk212
          obtain rfl := Option.some.inj hm
          have H : Heap w0 [] w := H.sel [] (by decide)
          exact leave1 S rfl rfl ⟨rfl, H⟩
         ·have hm := ite_f hc257 hm
          refine wp_skip (thenN ?_)
          refine wp_seq (region_plain ?_)
          refine lq (.int .i64 x142) S (q_move rfl) fun a S => ?_
          refine lq (.bool (decide ((0 : Int) < x142))) S (q_gtr rfl rfl) fun a S => ?_
          refine lq (.bool (decide ((0 : Int) < x142))) S (q_move rfl) fun a S => ?_
          obtain ⟨t258, e259, hm⟩ := bind_some hm
          refine lx_cut 10 (fun a w => Slots a 101 [(0, p0), (3, (.int .i64 x142)), (100, (.bool t258))] ∧ Heap w0 [] w) ?_ ?_
          ·by_cases hc260 : (decide ((0 : Int) < x142)) = true
           ·have hm := ite_t hc260 e259
            refine lx_q p0 S (want_b rfl rfl hc260) (by decide) (q_move rfl) (fun a S => ?_)
            refine lx_q p0 S (want_b rfl rfl hc260) (by decide) (q_nilCheck rfl ((hat33 0 _ rfl).isP)) (fun a S => ?_)
            refine lx_q (pAdd p0 3) S (want_b rfl rfl hc260) (by decide) (q_fieldAddr' 3 33 rfl ((hat33 0 _ rfl).isP) Tryz.underlying35 rfl Tryz.sizeOf33) (fun a S => ?_)
            refine lx_e v36 S (want_b rfl rfl hc260) (by decide) rfl trivial (q_load1 rfl Tryz.isAgg33 (by rintro _ rfl; exact (At.of_add (m := 3) (j := 0) ((hat33 3 _ rfl).ext H.ext)))) (fun a S => ?_)
            refine lx_q (.int .i64 x142) S (want_b rfl rfl hc260) (by decide) (q_move rfl) (fun a S => ?_)
            refine lx_q (.int .i64 (W (x142 - (1 : Int)))) S (want_b rfl rfl hc260) (by decide) (q_sub rfl rfl) (fun a S => ?_)
            obtain ⟨x261, e262, hm⟩ := bind_some hm
            obtain ⟨c263, h264, hat265⟩ := (h37).elem (idx_some e262).2
            obtain ⟨c266, c267, rfl, h268, h269⟩ := h264
            obtain rfl := h268
            obtain ⟨c270, c271, rfl, h272, h273⟩ := h269
            obtain rfl := h272
            obtain rfl := h273
            have hlt := lt_of_idx (idx_some e262).2
            refine lx_q (ePtr v36 ((W (x142 - (1 : Int))).toNat * 3)) S (want_b rfl rfl hc260) (by decide) (q_indexAddr rfl (h37).isSl rfl (idx_some e262).1 hlt Tryz.underlying33 Tryz.sizeOf80) (fun a S => ?_)
            obtain ⟨x276, e277, hm⟩ := bind_some hm
            refine lx_call (xs := [.tmp 97, .tmp 4]) S (want_b rfl rfl hc260) (by decide) rfl rfl Tryz.call49 ((spec_l11Less_ok ((H.arg h37).elemPtr (idx_some e262).2) (rdPtr_box H 0 rfl ⟨[(.int .i64 x217.1)], [(.int .i64 x217.2.1), (.int .i64 x217.2.2)], rfl, rfl, ⟨[(.int .i64 x217.2.1)], [(.int .i64 x217.2.2)], rfl, rfl, rfl⟩⟩) e277).mono ?_)
            rintro e w274 ⟨rfl, Hc275⟩
            have H := H.call0 Hc275
            refine ⟨_, rfl, trivial, fun a S => ?_⟩
            refine lx_q (.bool (!x276)) S (want_b rfl rfl hc260) (by decide) (q_not rfl) (fun a S => ?_)
            refine lq (.bool (!x276)) S (q_pickT' rfl hc260 rfl) fun a S => ?_
            refine lx_nil ?_
            obtain rfl := Option.some.inj hm
            have H := H.sel [] (by decide)
            exact ⟨S.sub ⟨rfl, rfl, rfl, trivial⟩, H⟩
           ·have hm := ite_f (eq_false_of_ne_true hc260) e259
            have hc260 : (decide ((0 : Int) < x142)) = false := eq_false_of_ne_true hc260
            refine lx_skip S rfl rfl (isB_ne hc260) (by decide) (fun a S => ?_)
            refine lx_skip S rfl rfl (isB_ne hc260) (by decide) (fun a S => ?_)
            refine lx_skip S rfl rfl (isB_ne hc260) (by decide) (fun a S => ?_)
            refine lx_skip S rfl rfl (isB_ne hc260) (by decide) (fun a S => ?_)
            refine lx_skip S rfl rfl (isB_ne hc260) (by decide) (fun a S => ?_)
            refine lx_skip S rfl rfl (isB_ne hc260) (by decide) (fun a S => ?_)
            refine lx_skip S rfl rfl (isB_ne hc260) (by decide) (fun a S => ?_)
            refine lx_skip S rfl rfl (isB_ne hc260) (by decide) (fun a S => ?_)
            refine lx_skip S rfl rfl (isB_ne hc260) (by decide) (fun a S => ?_)
            refine lq (.bool false) S (q_pickF' rfl hc260 rfl) fun a S => ?_
            refine lx_nil ?_
            obtain rfl := Option.some.inj hm
            have H := H.sel [] (by decide)
            exact ⟨S.sub ⟨rfl, rfl, rfl, trivial⟩, H⟩
          ·rintro a w ⟨S, H⟩
           refine lx_nil (thenN ?_)
           refine cond_b S rfl (fun hc279 => ?_) (fun hc279 => ?_)
           ·have hm := ite_t hc279 hm
            refine wp_seq (region_plain ?_)
            refine lq (.bool false) S (q_assign rfl) fun a S => ?_
            refine lx_nil (thenN ?_)
            refine wp_ret (inBlock_ret ?_)
            refine then_ret ?_
            refine then_ret ?_
            refine inBlock_ret ?_
            refine then_ret ?_
            refine then_ret ?_
            obtain rfl := it_brk hm hc215
            have hm := ctl_inr hk212
            obtain rfl := Option.some.inj hm
            exact leave1 S rfl rfl ⟨rfl, H⟩
           ·have hm := ite_f hc279 hm
            refine wp_skip ?_
            refine inBlock_norm ?_
            refine thenN ?_
            refine region_plain ?_
            refine lq (.int .i64 x142) S (q_move rfl) fun a S => ?_
            refine lq (.int .i64 (W (x142 + (1 : Int)))) S (q_add rfl rfl) fun a S => ?_
            refine lq (.int .i64 (W (x142 + (1 : Int)))) S (q_assign rfl) fun a S => ?_
            refine lx_nil ?_
            exact ⟨m213, Nat.lt_succ_self _, (W (x142 + (1 : Int))), S.sub ⟨rfl, rfl, trivial⟩, H, it_cont hm hc215⟩
      ·have hm := ite_f hc216 hm
       refine wp_exit ?_
       refine then_exit ?_
       refine then_exit ?_
       refine inBlock_exit ?_
       obtain rfl := it_brk hm hc215
       exact ⟨S.sub trivial, H, rfl⟩

/-- spec.l01LabelName -/
def spec_l01LabelName_m (fuel : Nat) (a0 : Str) : Option (Str) :=
  (spec_l01Open_m fuel a0).bind fun x33 => (sub a0 (0 : Int) x33).bind fun xs36 => some (xs36)
set_option maxRecDepth 20000 in
theorem spec_l01LabelName_ok [dr : Dr] {w0 : World} {fuel : Nat} {a0 : Str} {r : Str} (hm : spec_l01LabelName_m fuel a0 = some r) :
  Calls Tryz.prog 83 #[sv a0] w0 fun e w => e = .returned (sv r) ∧ Heap w0 [] w := by
 unfold spec_l01LabelName_m at hm
 have H := Heap.start w0
 refine enter (args := [sv a0]) Tryz.func83 rfl 7 rfl (Nat.le_of_ble_eq_true rfl) (fun a S => ?_)
 refine wp_seq (region_plain ?_)
 refine lq (sv ([] : Str)) S (q_assign rfl) fun a S => ?_
 refine lx_nil (thenN ?_)
 refine wp_seq (region_plain ?_)
 refine lq (sv a0) S (q_move rfl) fun a S => ?_
 refine lq (sv a0) S (q_move rfl) fun a S => ?_
 obtain ⟨x33, e34, hm⟩ := bind_some hm
 refine lx_call (xs := [.tmp 4]) S trivial (by decide) rfl rfl Tryz.call97 ((spec_l01Open_ok  e34).mono ?_)
 rintro e w31 ⟨rfl, Hc32⟩
 have H := H.call0 Hc32
 refine ⟨_, rfl, trivial, fun a S => ?_⟩
 obtain ⟨xs36, e37, hm⟩ := bind_some hm
 obtain ⟨hsb, hse⟩ := sub_some e37
 replace hse := hse.symm
 subst hse
 refine lq (sv ((a0.take (x33).toNat).drop ((0 : Int)).toNat)) S (q_ssub (lo := none) (hi := (some (.tmp 5))) (l := (0 : Int)) (h := x33) rfl Tryz.underlying9 rfl rfl hsb.1 hsb.2.1 hsb.2.2) fun a S => ?_
 refine lq (sv ((a0.take (x33).toNat).drop ((0 : Int)).toNat)) S (q_assign rfl) fun a S => ?_
 refine lx_nil (thenN ?_)
 refine wp_ret ?_
 obtain rfl := Option.some.inj hm
 exact leave1 S rfl rfl ⟨rfl, H⟩

/-- spec.l14Selects -/
def spec_l14Selects_m (fuel : Nat) (a0 : Str) (a1 : Bool) (a2 : Str) : Option (Bool) :=
  (if ((a0.length : Int) == (0 : Int)) = true then some ((!a1)) else (idx a0 (W ((a0.length : Int) - (1 : Int)))).bind fun b32 => (if ((b32.toNat : Int) == (42 : Int)) = true then (spec_l01LabelName_m fuel a2).bind fun x39 => (sub a0 (0 : Int) (W ((a0.length : Int) - (1 : Int)))).bind fun xs42 => some (((x39 == xs42) != a1)) else some (((a0 == a2) != a1))))
set_option maxRecDepth 20000 in
theorem spec_l14Selects_ok [dr : Dr] {w0 : World} {fuel : Nat} {a0 : Str} {a1 : Bool} {a2 : Str} {r : Bool} (hm : spec_l14Selects_m fuel a0 a1 a2 = some r) :
  Calls Tryz.prog 70 #[sv a0, .bool a1, sv a2] w0 fun e w => e = .returned (.bool r) ∧ Heap w0 [] w := by
 unfold spec_l14Selects_m at hm
 have H := Heap.start w0
 refine enter (args := [sv a0, .bool a1, sv a2]) Tryz.func70 rfl 33 rfl (Nat.le_of_ble_eq_true rfl) (fun a S => ?_)
 refine wp_seq (region_plain ?_)
 refine lq (.bool false) S (q_assign rfl) fun a S => ?_
 refine lx_nil (thenN ?_)
 refine wp_seq (region_plain ?_)
 refine lq (sv a0) S (q_move rfl) fun a S => ?_
 refine lq (.int .i64 (a0.length : Int)) S (q_lenStr rfl rfl Tryz.underlying9) fun a S => ?_
 refine lq (.int .i64 (a0.length : Int)) S (q_assign rfl) fun a S => ?_
 refine lx_nil (thenN ?_)
 refine wp_seq (wp_seq (region_plain ?_))
 refine lq (.int .i64 (a0.length : Int)) S (q_move rfl) fun a S => ?_
 refine lq (.bool ((a0.length : Int) == (0 : Int))) S (q_eql rfl rfl) fun a S => ?_
 refine lx_nil (thenN ?_)
 refine cond_b S rfl (fun hc31 => ?_) (fun hc31 => ?_)
 ·have hm := ite_t hc31 hm
  refine wp_seq (region_plain ?_)
  refine lq (.bool a1) S (q_move rfl) fun a S => ?_
  refine lq (.bool (!a1)) S (q_not rfl) fun a S => ?_
  refine lq (.bool (!a1)) S (q_assign rfl) fun a S => ?_
  refine lx_nil (thenN ?_)
  refine wp_ret (then_ret ?_)
  obtain rfl := Option.some.inj hm
  exact leave1 S rfl rfl ⟨rfl, H⟩
 ·have hm := ite_f hc31 hm
  refine wp_skip (thenN ?_)
  refine wp_seq (wp_seq (region_plain ?_))
  refine lq (sv a0) S (q_move rfl) fun a S => ?_
  refine lq (.int .i64 (a0.length : Int)) S (q_move rfl) fun a S => ?_
  refine lq (.int .i64 (W ((a0.length : Int) - (1 : Int)))) S (q_sub rfl rfl) fun a S => ?_
  obtain ⟨b32, e33, hm⟩ := bind_some hm
  refine lq (.int .u8 (b32.toNat : Int)) S (q_sidx rfl rfl Tryz.underlying9 e33) fun a S => ?_
  refine lq (.bool ((b32.toNat : Int) == (42 : Int))) S (q_eql rfl rfl) fun a S => ?_
  refine lx_nil (thenN ?_)
  refine cond_b S rfl (fun hc34 => ?_) (fun hc34 => ?_)
  ·have hm := ite_t hc34 hm
   refine wp_seq ?_
   refine region_drawG (fun w1 => Heap w0 [] w1) (fun i => [1].contains i) mixed (by kernel_rfl) (fun w36 he35 => ?_)
   have H := H.later he35
   refine ⟨H.sel [] (by decide), ?_⟩
   refine lq (sv a2) S (q_move rfl) fun a S => ?_
   obtain ⟨x39, e40, hm⟩ := bind_some hm
   refine lx_call (xs := [.tmp 19]) S trivial (by decide) rfl rfl Tryz.call83 ((spec_l01LabelName_ok  e40).mono ?_)
   rintro e w37 ⟨rfl, Hc38⟩
   have H := H.call0 Hc38
   refine ⟨_, rfl, H.sel [] (by decide), fun a S => ?_⟩
   refine lq (sv a0) S (q_move rfl) fun a S => ?_
   refine lq (.int .i64 (a0.length : Int)) S (q_move rfl) fun a S => ?_
   refine lq (.int .i64 (W ((a0.length : Int) - (1 : Int)))) S (q_sub rfl rfl) fun a S => ?_
   obtain ⟨xs42, e43, hm⟩ := bind_some hm
   obtain ⟨hsb, hse⟩ := sub_some e43
   replace hse := hse.symm
   subst hse
   refine lq (sv ((a0.take ((W ((a0.length : Int) - (1 : Int)))).toNat).drop ((0 : Int)).toNat)) S (q_ssub (lo := none) (hi := (some (.tmp 23))) (l := (0 : Int)) (h := (W ((a0.length : Int) - (1 : Int)))) rfl Tryz.underlying9 rfl rfl hsb.1 hsb.2.1 hsb.2.2) fun a S => ?_
   refine lq (.bool (x39 == ((a0.take ((W ((a0.length : Int) - (1 : Int)))).toNat).drop ((0 : Int)).toNat))) S (q_seql rfl rfl) fun a S => ?_
   refine lq (.bool a1) S (q_move rfl) fun a S => ?_
   refine lq (.bool ((x39 == ((a0.take ((W ((a0.length : Int) - (1 : Int)))).toNat).drop ((0 : Int)).toNat)) != a1)) S (q_bneq rfl rfl Tryz.underlying4) fun a S => ?_
   refine lq (.bool ((x39 == ((a0.take ((W ((a0.length : Int) - (1 : Int)))).toNat).drop ((0 : Int)).toNat)) != a1)) S (q_assign rfl) fun a S => ?_
   refine lx_nil (thenN ?_)
   refine wp_ret (then_ret ?_)
   obtain rfl := Option.some.inj hm
   exact leave1 S rfl rfl ⟨rfl, H⟩
  ·have hm := ite_f hc34 hm
   refine wp_skip (thenN ?_)
   refine wp_seq (region_plain ?_)
   refine lq (sv a0) S (q_move rfl) fun a S => ?_
   refine lq (sv a2) S (q_move rfl) fun a S => ?_
   refine lq (.bool (a0 == a2)) S (q_seql rfl rfl) fun a S => ?_
   refine lq (.bool a1) S (q_move rfl) fun a S => ?_
   refine lq (.bool ((a0 == a2) != a1)) S (q_bneq rfl rfl Tryz.underlying4) fun a S => ?_
   refine lq (.bool ((a0 == a2) != a1)) S (q_assign rfl) fun a S => ?_
   refine lx_nil (thenN ?_)
   refine wp_ret ?_
   obtain rfl := Option.some.inj hm
   exact leave1 S rfl rfl ⟨rfl, H⟩

/-- spec.l14Step -/
def spec_l14Step_m (fuel : Nat) (a0 : Timpl_Node) (a1 : Timpl_Lts) (a2 : (List Bool)) : Option ((List Bool)) :=
  (mks a1.1 false).bind fun x65 => (iter (fun (s : (List Bool) × (Int)) => (match s with | (xs77, x78) => (if (decide (x78 < a1.1)) = true then (idx xs77 x78).bind fun _ => some (.inl ((xs77.set x78.toNat (a0.1 == (5 : Int))), (W (x78 + (1 : Int))))) else some (.inr (.inl (xs77)))) : Option (((List Bool) × (Int)) ⊕ (((List Bool)) ⊕ ((List Bool)))))) fuel (x65, (0 : Int))).bind fun res86 => ctl (β := (List Bool)) (ρ := (List Bool)) (τ := (List Bool)) res86 (fun (xs85) => (iter (fun (s : (List Bool) × (Int)) => (match s with | (xs154, x155) => (if (decide (x155 < (a1.2.2.2.length : Int))) = true then join (κ := List Bool → Option (((List Bool) × (Int)) ⊕ (((List Bool)) ⊕ ((List Bool))))) (fun (xs229 : List Bool) => some (.inl (xs229, (W (x155 + (1 : Int)))))) (fun K230 => (idx a1.2.2.2 x155).bind fun x232 => (idx a1.2.2.1 x232.2.1).bind fun x251 => (spec_l14Selects_m fuel a0.2.2.1 a0.2.2.2 x251).bind fun x258 => (if (!x258) = true then (K230 xs154) else join (κ := List Bool → Option (((List Bool) × (Int)) ⊕ (((List Bool)) ⊕ ((List Bool))))) (fun (xs262 : List Bool) => (if (a0.1 == (5 : Int)) = true then (idx a2 x232.2.2).bind fun x268 => some (!x268) else some false).bind fun t265 => (if t265 = true then (idx xs262 x232.1).bind fun _ => (K230 (xs262.set x232.1.toNat false)) else (K230 xs262))) (fun K263 => (if (a0.1 == (4 : Int)) = true then (idx a2 x232.2.2).bind fun x280 => some x280 else some false).bind fun t277 => (if t277 = true then (idx xs154 x232.1).bind fun _ => (K263 (xs154.set x232.1.toNat true)) else (K263 xs154))))) else some (.inr (.inl (xs154)))) : Option (((List Bool) × (Int)) ⊕ (((List Bool)) ⊕ ((List Bool)))))) fuel (xs85, (0 : Int))).bind fun res220 => ctl (β := (List Bool)) (ρ := (List Bool)) (τ := (List Bool)) res220 (fun (xs219) => some (xs219)) (fun q => some (q))) (fun q => some (q))
set_option maxRecDepth 20000 in
theorem spec_l14Step_ok [dr : Dr] {w0 : World} {fuel : Nat} {p0 p1 p2 : Value} {a0 : Timpl_Node} {a1 : Timpl_Lts} {a2 : (List Bool)} {r : (List Bool)} (h0 : Rd (rPtr Rimpl_Node) w0 p0 a0) (h1 : Rd (rPtr Rimpl_Lts) w0 p1 a1) (h2 : Rd (rList rBool) w0 p2 a2) (hm : spec_l14Step_m fuel a0 a1 a2 = some r) :
  Calls Tryz.prog 50 #[p0, p1, p2] w0 fun e w => ∃ (v0 : Value), e = .returned (v0) ∧ Heap w0 [oA (rList rBool) v0 r] w := by
 unfold spec_l14Step_m at hm
 have H := Heap.start w0
 obtain ⟨c31, h32, hat33⟩ := h0.ptr
 obtain ⟨c34, c35, rfl, h36, h37⟩ := h32
 obtain rfl := h36
 obtain ⟨c38, c39, rfl, h40, h41⟩ := h37
 obtain rfl := h40
 obtain ⟨c42, c43, rfl, h44, h45⟩ := h41
 obtain rfl := h44
 obtain rfl := h45
 obtain ⟨c46, h47, hat48⟩ := h1.ptr
 obtain ⟨c53, c54, rfl, h55, h56⟩ := h47
 obtain rfl := h55
 obtain ⟨c57, c58, rfl, h59, h60⟩ := h56
 obtain rfl := h59
 obtain ⟨c61, c62, rfl, h63, h64⟩ := h60
 obtain ⟨v49, rfl, h50⟩ := rd_list h63
 obtain ⟨v51, rfl, h52⟩ := rd_list h64
 refine enter (args := [p0, p1, p2]) Tryz.func50 rfl 100 rfl (Nat.le_of_ble_eq_true rfl) (fun a S => ?_)
 refine wp_seq (region_plain ?_)
 refine lq (.slice none 0 0) S (q_assign rfl) fun a S => ?_
 refine lx_nil (thenN ?_)
 refine wp_seq (region_plain ?_)
 refine lq p1 S (q_move rfl) fun a S => ?_
 refine lq p1 S (q_nilCheck rfl ((hat48 0 _ rfl).isP)) fun a S => ?_
 refine lq (pAdd p1 0) S (q_fieldAddr' 0 2 rfl ((hat48 0 _ rfl).isP) Tryz.underlying35 rfl Tryz.sizeOf2) fun a S => ?_
 refine lx_e (.int .i64 a1.1) S trivial (by decide) rfl trivial (q_load1 rfl Tryz.isAgg2 (by rintro _ rfl; exact (At.of_add (m := 0) (j := 0) ((hat48 0 _ rfl).ext H.ext)))) (fun a S => ?_)
 obtain ⟨x65, e66, hm⟩ := bind_some hm
 obtain ⟨m67, hn, hn2, rfl⟩ := mks_some e66
 refine lx_make (r := rBool) (z0 := false) (n := m67) S trivial (by decide) rfl H (by rw [← hn]; rfl) (by rw [← hn]; rfl) Tryz.underlying59 (Tryz.ti4) rfl rfl (Nat.le_of_ble_eq_true rfl) (fun w => ⟨rfl, rfl⟩) hn2 (by decide) (fun v68 w69 H => ⟨trivial, fun a S => ?_⟩)
 refine lq v68 S (q_assign rfl) fun a S => ?_
 refine lx_nil (thenN ?_)
 refine wp_seq (wp_seq (region_plain ?_))
 refine lq (.int .i64 (0 : Int)) S (q_assign rfl) fun a S => ?_
 refine lx_nil (thenN ?_)
 obtain ⟨res86, hit87, hk90⟩ := bind_some hm
 obtain ⟨f88, hf89, hit87⟩ := iter_name hit87
 refine block_loop (fun a w => ∃ (xs85 : List Bool), Slots a 100 [(0, p0), (1, p1), (2, p2), (7, v68)] ∧ Heap w0 [oA (rList rBool) v68 xs85] w ∧ res86 = .inl (xs85)) ?_ ?_
 ·rintro a w ⟨xs85, S, H, rfl⟩
  have hm := ctl_inl hk90
  refine thenN ?_
  refine wp_seq (wp_seq (region_plain ?_))
  refine lq (.int .i64 (0 : Int)) S (q_assign rfl) fun a S => ?_
  refine lx_nil (thenN ?_)
  obtain ⟨res220, hit221, hk224⟩ := bind_some hm
  obtain ⟨f222, hf223, hit221⟩ := iter_name hit221
  refine block_loop (fun a w => ∃ (xs219 : List Bool), Slots a 100 [(7, v68)] ∧ Heap w0 [oA (rList rBool) v68 xs219] w ∧ res220 = .inl (xs219)) ?_ ?_
  ·rintro a w ⟨xs219, S, H, rfl⟩
   have hm := ctl_inl hk224
   refine thenN ?_
   refine wp_seq (region_plain ?_)
   refine lq v68 S (q_move rfl) fun a S => ?_
   refine lq v68 S (q_assign rfl) fun a S => ?_
   refine lx_nil (thenN ?_)
   refine wp_ret ?_
   obtain rfl := Option.some.inj hm
   exact leave1 S rfl rfl ⟨v68, rfl, H⟩
  ·skip
   refine loop_ghost (fun n a w => ∃ (xs154 : List Bool) (x155 : Int), Slots a 100 [(0, p0), (1, p1), (2, p2), (7, v68), (9, (.int .i64 x155))] ∧ Heap w0 [oA (rList rBool) v68 xs154] w ∧ iter f222 n (xs154, x155) = some res220) _ ⟨xs85, (0 : Int), S.sub ⟨rfl, rfl, rfl, rfl, rfl, trivial⟩, H, hit221⟩ ?_
   rintro n a w ⟨xs154, x155, S, H, hit221⟩
   obtain ⟨m225, o226, rfl, hm, hc227⟩ := iter_step hit221
   rw [hf223] at hm
   refine wp_seq (wp_seq (region_plain ?_))
   refine lq (.int .i64 x155) S (q_move rfl) fun a S => ?_
   refine lq p1 S (q_move rfl) fun a S => ?_
   refine lq p1 S (q_nilCheck rfl ((hat48 0 _ rfl).isP)) fun a S => ?_
   refine lq (pAdd p1 3) S (q_fieldAddr' 3 33 rfl ((hat48 0 _ rfl).isP) Tryz.underlying35 rfl Tryz.sizeOf33) fun a S => ?_
   refine lx_e v51 S trivial (by decide) rfl trivial (q_load1 rfl Tryz.isAgg33 (by rintro _ rfl; exact (At.of_add (m := 3) (j := 0) ((hat48 3 _ rfl).ext H.ext)))) (fun a S => ?_)
   refine lq (.int .i64 (a1.2.2.2.length : Int)) S (q_lenSl rfl (h52).isSl rfl Tryz.underlying33) fun a S => ?_
   refine lq (.bool (decide (x155 < (a1.2.2.2.length : Int)))) S (q_lss rfl rfl) fun a S => ?_
   refine lx_nil (thenN ?_)
   refine cond_b S rfl (fun hc228 => ?_) (fun hc228 => ?_)
   ·have hm := ite_t hc228 hm
    refine wp_skip (thenN ?_)
    obtain ⟨K230, hK231, hm⟩ := join_elim hm
    refine seq_cut (fun a w => ∃ (xs229 : List Bool), Slots a 100 [(0, p0), (1, p1), (2, p2), (7, v68), (9, (.int .i64 x155))] ∧ Heap w0 [oA (rList rBool) v68 xs229] w ∧ K230 xs229 = some o226) ?_ ?_
    ·rintro a w ⟨xs229, S, H, hm⟩
     subst hK231
     refine region_plain ?_
     refine lq (.int .i64 x155) S (q_move rfl) fun a S => ?_
     refine lq (.int .i64 (W (x155 + (1 : Int)))) S (q_add rfl rfl) fun a S => ?_
     refine lq (.int .i64 (W (x155 + (1 : Int)))) S (q_assign rfl) fun a S => ?_
     refine lx_nil ?_
     exact ⟨m225, Nat.lt_succ_self _, xs229, (W (x155 + (1 : Int))), S.sub ⟨rfl, rfl, rfl, rfl, rfl, trivial⟩, H, it_cont hm hc227⟩
    ·skip
     refine wp_block ?_
     refine wp_seq (region_plain ?_)
     refine lq p1 S (q_move rfl) fun a S => ?_
     refine lq p1 S (q_nilCheck rfl ((hat48 0 _ rfl).isP)) fun a S => ?_
     refine lq (pAdd p1 3) S (q_fieldAddr' 3 33 rfl ((hat48 0 _ rfl).isP) Tryz.underlying35 rfl Tryz.sizeOf33) fun a S => ?_
     refine lx_e v51 S trivial (by decide) rfl trivial (q_load1 rfl Tryz.isAgg33 (by rintro _ rfl; exact (At.of_add (m := 3) (j := 0) ((hat48 3 _ rfl).ext H.ext)))) (fun a S => ?_)
     refine lq (.int .i64 x155) S (q_move rfl) fun a S => ?_
     obtain ⟨x232, e233, hm⟩ := bind_some hm
     obtain ⟨c234, h235, hat236⟩ := (h52).elem (idx_some e233).2
     obtain ⟨c237, c238, rfl, h239, h240⟩ := h235
     obtain rfl := h239
     obtain ⟨c241, c242, rfl, h243, h244⟩ := h240
     obtain rfl := h243
     obtain rfl := h244
     have hlt := lt_of_idx (idx_some e233).2
     refine lq (ePtr v51 (x155.toNat * 3)) S (q_indexAddr rfl (h52).isSl rfl (idx_some e233).1 hlt Tryz.underlying33 Tryz.sizeOf80) fun a S => ?_
     refine lx_e (.agg #[(.int .i64 x232.1), (.int .i64 x232.2.1), (.int .i64 x232.2.2)]) S trivial (by decide) rfl trivial (q_loadA (cs := [(.int .i64 x232.1), (.int .i64 x232.2.1), (.int .i64 x232.2.2)]) rfl ((hat236 0 _ rfl).isP) Tryz.isAgg80 Tryz.sizeOf80 (by rintro _ rfl; exact (fun j u hu => (hat236 j u hu).ext H.ext))) (fun a S => ?_)
     refine lx_alloc S trivial (by decide) rfl H Tryz.zeroValue80 rfl (fun b245 w246 H => ⟨trivial, fun a S => ?_⟩)
     refine lx_storeBox (o := 0) (i := 0) (us := [(.int .i64 x232.1), (.int .i64 x232.2.1), (.int .i64 x232.2.2)]) (cs' := [(.int .i64 x232.1), (.int .i64 x232.2.1), (.int .i64 x232.2.2)]) S trivial rfl H rfl rfl rfl rfl Tryz.sizeOf80 (Nat.le_of_ble_eq_true rfl) (List.forall_mem_cons.2 ⟨rfl, (List.forall_mem_cons.2 ⟨rfl, (List.forall_mem_cons.2 ⟨rfl, (List.forall_mem_nil _)⟩)⟩)⟩) rfl (fun w248 H => ⟨trivial, fun a S => ?_⟩)
     change Heap w0 [bA b245 [(.int .i64 x232.1), (.int .i64 x232.2.1), (.int .i64 x232.2.2)] 80, oA (rList rBool) v68 xs154] w248 at H
     refine lx_nil (thenN ?_)
     refine wp_seq ?_
     refine wp_seq ?_
     refine region_drawG (fun w1 => Heap w0 [bA b245 [(.int .i64 x232.1), (.int .i64 x232.2.1), (.int .i64 x232.2.2)] 80] w1) (fun i => [16].contains i) mixed (by kernel_rfl) (fun w250 he249 => ?_)
     have H := H.later he249
     refine ⟨H.sel [0] (by decide), ?_⟩
     refine lq p0 S (q_move rfl) fun a S => ?_
     refine lq p0 S (q_nilCheck rfl ((hat33 0 _ rfl).isP)) fun a S => ?_
     refine lq (pAdd p0 2) S (q_fieldAddr' 2 9 rfl ((hat33 0 _ rfl).isP) Tryz.underlying61 rfl Tryz.sizeOf9) fun a S => ?_
     refine lq (sv a0.2.2.1) S (q_load1 rfl Tryz.isAgg9 (fun w1 hC => (At.of_add (m := 2) (j := 0) ((hat33 2 _ rfl).ext hC.ext)))) fun a S => ?_
     refine lq p0 S (q_move rfl) fun a S => ?_
     refine lq p0 S (q_nilCheck rfl ((hat33 0 _ rfl).isP)) fun a S => ?_
     refine lq (pAdd p0 3) S (q_fieldAddr' 3 4 rfl ((hat33 0 _ rfl).isP) Tryz.underlying61 rfl Tryz.sizeOf4) fun a S => ?_
     refine lq (.bool a0.2.2.2) S (q_load1 rfl Tryz.isAgg4 (fun w1 hC => (At.of_add (m := 3) (j := 0) ((hat33 3 _ rfl).ext hC.ext)))) fun a S => ?_
     refine lq p1 S (q_move rfl) fun a S => ?_
     refine lq p1 S (q_nilCheck rfl ((hat48 0 _ rfl).isP)) fun a S => ?_
     refine lq (pAdd p1 2) S (q_fieldAddr' 2 23 rfl ((hat48 0 _ rfl).isP) Tryz.underlying35 rfl Tryz.sizeOf23) fun a S => ?_
     refine lq v49 S (q_load1 rfl Tryz.isAgg23 (fun w1 hC => (At.of_add (m := 2) (j := 0) ((hat48 2 _ rfl).ext hC.ext)))) fun a S => ?_
     refine lq (pAdd (bp b245) 1) S (q_fieldAddr' 1 2 rfl (isP_bp _) Tryz.underlying80 rfl Tryz.sizeOf2) fun a S => ?_
     refine lq (.int .i64 x232.2.1) S (q_load1 rfl Tryz.isAgg2 (fun w1 hC => (At.of_add (m := 1) (j := 0) (boxAt (i := 0) hC rfl (j := 1) rfl)))) fun a S => ?_
     obtain ⟨x251, e252, hm⟩ := bind_some hm
     obtain ⟨c253, h254, hat255⟩ := (h50).elem (idx_some e252).2
     obtain rfl := h254
     have hlt := lt_of_idx (idx_some e252).2
     refine lq (ePtr v49 (x232.2.1.toNat * 1)) S (q_indexAddr rfl (h50).isSl rfl (idx_some e252).1 hlt Tryz.underlying23 Tryz.sizeOf9) fun a S => ?_
     refine lq (sv x251) S (q_load1 rfl Tryz.isAgg9 (fun w1 hC => ((hat255 0 _ rfl).ext hC.ext))) fun a S => ?_
     obtain ⟨x258, e259, hm⟩ := bind_some hm
     refine lx_call (xs := [.tmp 51, .tmp 55, .tmp 63]) S trivial (by decide) rfl rfl Tryz.call70 ((spec_l14Selects_ok    e259).mono ?_)
     rintro e w256 ⟨rfl, Hc257⟩
     have H := H.call0 Hc257
     refine ⟨_, rfl, H.sel [0] (by decide), fun a S => ?_⟩
     refine lq (.bool (!x258)) S (q_not rfl) fun a S => ?_
     refine lx_nil (thenN ?_)
     refine cond_b S rfl (fun hc261 => ?_) (fun hc261 => ?_)
     ·have hm := ite_t hc261 hm
      refine wp_exit ?_
      refine then_exit ?_
      refine inBlock_exit ?_
      have H : Heap w0 [oA (rList rBool) v68 xs154] w256 := H.sel [1] (by decide)
      exact ⟨xs154, S.sub ⟨rfl, rfl, rfl, rfl, rfl, trivial⟩, H, hm⟩
     ·have hm := ite_f hc261 hm
      refine wp_skip (thenN ?_)
      obtain ⟨K263, hK264, hm⟩ := join_elim hm
      refine seq_cut (fun a w => ∃ (xs262 : List Bool), Slots a 100 [(0, p0), (1, p1), (2, p2), (7, v68), (9, (.int .i64 x155)), (10, (bp b245))] ∧ Heap w0 [oA (rList rBool) v68 xs262, bA b245 [(.int .i64 x232.1), (.int .i64 x232.2.1), (.int .i64 x232.2.2)] 80] w ∧ K263 xs262 = some o226) ?_ ?_
      ·rintro a w ⟨xs262, S, H, hm⟩
       subst hK264
       refine wp_seq (region_plain ?_)
       refine lq p0 S (q_move rfl) fun a S => ?_
       refine lq p0 S (q_nilCheck rfl ((hat33 0 _ rfl).isP)) fun a S => ?_
       refine lq (pAdd p0 0) S (q_fieldAddr' 0 2 rfl ((hat33 0 _ rfl).isP) Tryz.underlying61 rfl Tryz.sizeOf2) fun a S => ?_
       refine lx_e (.int .i64 a0.1) S trivial (by decide) rfl trivial (q_load1 rfl Tryz.isAgg2 (by rintro _ rfl; exact (At.of_add (m := 0) (j := 0) ((hat33 0 _ rfl).ext H.ext)))) (fun a S => ?_)
       refine lq (.bool (a0.1 == (5 : Int))) S (q_eql rfl rfl) fun a S => ?_
       refine lq (.bool (a0.1 == (5 : Int))) S (q_move rfl) fun a S => ?_
       obtain ⟨t265, e266, hm⟩ := bind_some hm
       refine lx_cut 7 (fun a w => Slots a 100 [(0, p0), (1, p1), (2, p2), (7, v68), (9, (.int .i64 x155)), (10, (bp b245)), (94, (.bool t265))] ∧ Heap w0 [oA (rList rBool) v68 xs262, bA b245 [(.int .i64 x232.1), (.int .i64 x232.2.1), (.int .i64 x232.2.2)] 80] w) ?_ ?_
       ·by_cases hc267 : (a0.1 == (5 : Int)) = true
        ·have hm := ite_t hc267 e266
         refine lx_q p2 S (want_b rfl rfl hc267) (by decide) (q_move rfl) (fun a S => ?_)
         refine lx_q (pAdd (bp b245) 2) S (want_b rfl rfl hc267) (by decide) (q_fieldAddr' 2 2 rfl (isP_bp _) Tryz.underlying80 rfl Tryz.sizeOf2) (fun a S => ?_)
         refine lx_e (.int .i64 x232.2.2) S (want_b rfl rfl hc267) (by decide) rfl trivial (q_load1 rfl Tryz.isAgg2 (by rintro _ rfl; exact (At.of_add (m := 2) (j := 0) (boxAt (i := 1) H rfl (j := 2) rfl)))) (fun a S => ?_)
         obtain ⟨x268, e269, hm⟩ := bind_some hm
         obtain ⟨c270, h271, hat272⟩ := (h2).elem (idx_some e269).2
         obtain rfl := h271
         have hlt := lt_of_idx (idx_some e269).2
         refine lx_q (ePtr p2 (x232.2.2.toNat * 1)) S (want_b rfl rfl hc267) (by decide) (q_indexAddr rfl (h2).isSl rfl (idx_some e269).1 hlt Tryz.underlying59 Tryz.sizeOf4) (fun a S => ?_)
         refine lx_e (.bool x268) S (want_b rfl rfl hc267) (by decide) rfl trivial (q_load1 rfl Tryz.isAgg4 (by rintro _ rfl; exact ((hat272 0 _ rfl).ext H.ext))) (fun a S => ?_)
         refine lx_q (.bool (!x268)) S (want_b rfl rfl hc267) (by decide) (q_not rfl) (fun a S => ?_)
         refine lq (.bool (!x268)) S (q_pickT' rfl hc267 rfl) fun a S => ?_
         refine lx_nil ?_
         obtain rfl := Option.some.inj hm
         exact ⟨S.sub ⟨rfl, rfl, rfl, rfl, rfl, rfl, rfl, trivial⟩, H⟩
        ·have hm := ite_f (eq_false_of_ne_true hc267) e266
         have hc267 : (a0.1 == (5 : Int)) = false := eq_false_of_ne_true hc267
         refine lx_skip S rfl rfl (isB_ne hc267) (by decide) (fun a S => ?_)
         refine lx_skip S rfl rfl (isB_ne hc267) (by decide) (fun a S => ?_)
         refine lx_skip S rfl rfl (isB_ne hc267) (by decide) (fun a S => ?_)
         refine lx_skip S rfl rfl (isB_ne hc267) (by decide) (fun a S => ?_)
         refine lx_skip S rfl rfl (isB_ne hc267) (by decide) (fun a S => ?_)
         refine lx_skip S rfl rfl (isB_ne hc267) (by decide) (fun a S => ?_)
         refine lq (.bool false) S (q_pickF' rfl hc267 rfl) fun a S => ?_
         refine lx_nil ?_
         obtain rfl := Option.some.inj hm
         exact ⟨S.sub ⟨rfl, rfl, rfl, rfl, rfl, rfl, rfl, trivial⟩, H⟩
       ·rintro a w ⟨S, H⟩
        refine lx_nil (thenN ?_)
        refine cond_b S rfl (fun hc273 => ?_) (fun hc273 => ?_)
        ·have hm := ite_t hc273 hm
         refine region_plain ?_
         refine lq v68 S (q_move rfl) fun a S => ?_
         refine lq (pAdd (bp b245) 0) S (q_fieldAddr' 0 2 rfl (isP_bp _) Tryz.underlying80 rfl Tryz.sizeOf2) fun a S => ?_
         refine lx_e (.int .i64 x232.1) S trivial (by decide) rfl trivial (q_load1 rfl Tryz.isAgg2 (by rintro _ rfl; exact (At.of_add (m := 0) (j := 0) (boxAt (i := 1) H rfl (j := 0) rfl)))) (fun a S => ?_)
         obtain ⟨x274, e275, hm⟩ := bind_some hm
         have hlt := lt_of_idx (idx_some e275).2
         refine lq (ePtr v68 (x232.1.toNat * 1)) S (q_indexAddr rfl (H.isSl 0 rfl) rfl (idx_some e275).1 hlt Tryz.underlying59 Tryz.sizeOf4) fun a S => ?_
         refine lx_storeElem (r := rBool) (us := [(.bool false)]) (off := 0) (e' := false) S trivial rfl H.putE (ev_zero rfl) rfl (idx_some e275).2 rfl Tryz.sizeOf4 (Nat.le_of_ble_eq_true rfl) (List.forall_mem_cons.2 ⟨rfl, (List.forall_mem_nil _)⟩) (Upd.full rfl (fun w G hG => by cases (show G = [] from hG); exact ⟨rfl, rfl⟩)) (fun w276 H => ⟨trivial, fun a S => ?_⟩)
         refine lx_nil ?_
         refine inBlock_norm ?_
         have H : Heap w0 [oA (rList rBool) v68 (xs262.set x232.1.toNat false)] w276 := H.sel [0] (by decide)
         exact ⟨(xs262.set x232.1.toNat false), S.sub ⟨rfl, rfl, rfl, rfl, rfl, trivial⟩, H, hm⟩
        ·have hm := ite_f hc273 hm
         refine wp_skip ?_
         refine inBlock_norm ?_
         have H : Heap w0 [oA (rList rBool) v68 xs262] w := H.sel [0] (by decide)
         exact ⟨xs262, S.sub ⟨rfl, rfl, rfl, rfl, rfl, trivial⟩, H, hm⟩
      ·skip
       refine wp_seq (region_plain ?_)
       refine lq p0 S (q_move rfl) fun a S => ?_
       refine lq p0 S (q_nilCheck rfl ((hat33 0 _ rfl).isP)) fun a S => ?_
       refine lq (pAdd p0 0) S (q_fieldAddr' 0 2 rfl ((hat33 0 _ rfl).isP) Tryz.underlying61 rfl Tryz.sizeOf2) fun a S => ?_
       refine lx_e (.int .i64 a0.1) S trivial (by decide) rfl trivial (q_load1 rfl Tryz.isAgg2 (by rintro _ rfl; exact (At.of_add (m := 0) (j := 0) ((hat33 0 _ rfl).ext H.ext)))) (fun a S => ?_)
       refine lq (.bool (a0.1 == (4 : Int))) S (q_eql rfl rfl) fun a S => ?_
       refine lq (.bool (a0.1 == (4 : Int))) S (q_move rfl) fun a S => ?_
       obtain ⟨t277, e278, hm⟩ := bind_some hm
       refine lx_cut 6 (fun a w => Slots a 100 [(0, p0), (1, p1), (2, p2), (7, v68), (9, (.int .i64 x155)), (10, (bp b245)), (77, (.bool t277))] ∧ Heap w0 [bA b245 [(.int .i64 x232.1), (.int .i64 x232.2.1), (.int .i64 x232.2.2)] 80, oA (rList rBool) v68 xs154] w) ?_ ?_
       ·by_cases hc279 : (a0.1 == (4 : Int)) = true
        ·have hm := ite_t hc279 e278
         refine lx_q p2 S (want_b rfl rfl hc279) (by decide) (q_move rfl) (fun a S => ?_)
         refine lx_q (pAdd (bp b245) 2) S (want_b rfl rfl hc279) (by decide) (q_fieldAddr' 2 2 rfl (isP_bp _) Tryz.underlying80 rfl Tryz.sizeOf2) (fun a S => ?_)
         refine lx_e (.int .i64 x232.2.2) S (want_b rfl rfl hc279) (by decide) rfl trivial (q_load1 rfl Tryz.isAgg2 (by rintro _ rfl; exact (At.of_add (m := 2) (j := 0) (boxAt (i := 0) H rfl (j := 2) rfl)))) (fun a S => ?_)
         obtain ⟨x280, e281, hm⟩ := bind_some hm
         obtain ⟨c282, h283, hat284⟩ := (h2).elem (idx_some e281).2
         obtain rfl := h283
         have hlt := lt_of_idx (idx_some e281).2
         refine lx_q (ePtr p2 (x232.2.2.toNat * 1)) S (want_b rfl rfl hc279) (by decide) (q_indexAddr rfl (h2).isSl rfl (idx_some e281).1 hlt Tryz.underlying59 Tryz.sizeOf4) (fun a S => ?_)
         refine lx_e (.bool x280) S (want_b rfl rfl hc279) (by decide) rfl trivial (q_load1 rfl Tryz.isAgg4 (by rintro _ rfl; exact ((hat284 0 _ rfl).ext H.ext))) (fun a S => ?_)
         refine lq (.bool x280) S (q_pickT' rfl hc279 rfl) fun a S => ?_
         refine lx_nil ?_
         obtain rfl := Option.some.inj hm
         exact ⟨S.sub ⟨rfl, rfl, rfl, rfl, rfl, rfl, rfl, trivial⟩, H⟩
        ·have hm := ite_f (eq_false_of_ne_true hc279) e278
         have hc279 : (a0.1 == (4 : Int)) = false := eq_false_of_ne_true hc279
         refine lx_skip S rfl rfl (isB_ne hc279) (by decide) (fun a S => ?_)
         refine lx_skip S rfl rfl (isB_ne hc279) (by decide) (fun a S => ?_)
         refine lx_skip S rfl rfl (isB_ne hc279) (by decide) (fun a S => ?_)
         refine lx_skip S rfl rfl (isB_ne hc279) (by decide) (fun a S => ?_)
         refine lx_skip S rfl rfl (isB_ne hc279) (by decide) (fun a S => ?_)
         refine lq (.bool false) S (q_pickF' rfl hc279 rfl) fun a S => ?_
         refine lx_nil ?_
         obtain rfl := Option.some.inj hm
         exact ⟨S.sub ⟨rfl, rfl, rfl, rfl, rfl, rfl, rfl, trivial⟩, H⟩
       ·rintro a w ⟨S, H⟩
        refine lx_nil (thenN ?_)
        refine cond_b S rfl (fun hc285 => ?_) (fun hc285 => ?_)
        ·have hm := ite_t hc285 hm
         refine region_plain ?_
         refine lq v68 S (q_move rfl) fun a S => ?_
         refine lq (pAdd (bp b245) 0) S (q_fieldAddr' 0 2 rfl (isP_bp _) Tryz.underlying80 rfl Tryz.sizeOf2) fun a S => ?_
         refine lx_e (.int .i64 x232.1) S trivial (by decide) rfl trivial (q_load1 rfl Tryz.isAgg2 (by rintro _ rfl; exact (At.of_add (m := 0) (j := 0) (boxAt (i := 0) H rfl (j := 0) rfl)))) (fun a S => ?_)
         obtain ⟨x286, e287, hm⟩ := bind_some hm
         have hlt := lt_of_idx (idx_some e287).2
         refine lq (ePtr v68 (x232.1.toNat * 1)) S (q_indexAddr rfl (H.isSl 1 rfl) rfl (idx_some e287).1 hlt Tryz.underlying59 Tryz.sizeOf4) fun a S => ?_
         have H : Heap w0 [oA (rList rBool) v68 xs154, bA b245 [(.int .i64 x232.1), (.int .i64 x232.2.1), (.int .i64 x232.2.2)] 80] w := H.front 1 rfl
         refine lx_storeElem (r := rBool) (us := [(.bool true)]) (off := 0) (e' := true) S trivial rfl H.putE (ev_zero rfl) rfl (idx_some e287).2 rfl Tryz.sizeOf4 (Nat.le_of_ble_eq_true rfl) (List.forall_mem_cons.2 ⟨rfl, (List.forall_mem_nil _)⟩) (Upd.full rfl (fun w G hG => by cases (show G = [] from hG); exact ⟨rfl, rfl⟩)) (fun w288 H => ⟨trivial, fun a S => ?_⟩)
         refine lx_nil ?_
         exact ⟨(xs154.set x232.1.toNat true), S.sub ⟨rfl, rfl, rfl, rfl, rfl, rfl, trivial⟩, H, hm⟩
        ·have hm := ite_f hc285 hm
         refine wp_skip ?_
         have H : Heap w0 [oA (rList rBool) v68 xs154, bA b245 [(.int .i64 x232.1), (.int .i64 x232.2.1), (.int .i64 x232.2.2)] 80] w := H.front 1 rfl
         exact ⟨xs154, S.sub ⟨rfl, rfl, rfl, rfl, rfl, rfl, trivial⟩, H, hm⟩
   ·have hm := ite_f hc228 hm
    refine wp_exit ?_
    refine then_exit ?_
    refine then_exit ?_
    refine inBlock_exit ?_
    obtain rfl := it_brk hm hc227
    exact ⟨xs154, S.sub ⟨rfl, trivial⟩, H, rfl⟩
 ·skip
  refine loop_ghost (fun n a w => ∃ (xs77 : List Bool) (x78 : Int), Slots a 100 [(0, p0), (1, p1), (2, p2), (7, v68), (8, (.int .i64 x78))] ∧ Heap w0 [oA (rList rBool) v68 xs77] w ∧ iter f88 n (xs77, x78) = some res86) _ ⟨(List.replicate m67 false), (0 : Int), S.sub ⟨rfl, rfl, rfl, rfl, rfl, trivial⟩, H, hit87⟩ ?_
  rintro n a w ⟨xs77, x78, S, H, hit87⟩
  obtain ⟨m289, o290, rfl, hm, hc291⟩ := iter_step hit87
  rw [hf89] at hm
  refine wp_seq (wp_seq (region_plain ?_))
  refine lq (.int .i64 x78) S (q_move rfl) fun a S => ?_
  refine lq p1 S (q_move rfl) fun a S => ?_
  refine lq p1 S (q_nilCheck rfl ((hat48 0 _ rfl).isP)) fun a S => ?_
  refine lq (pAdd p1 0) S (q_fieldAddr' 0 2 rfl ((hat48 0 _ rfl).isP) Tryz.underlying35 rfl Tryz.sizeOf2) fun a S => ?_
  refine lx_e (.int .i64 a1.1) S trivial (by decide) rfl trivial (q_load1 rfl Tryz.isAgg2 (by rintro _ rfl; exact (At.of_add (m := 0) (j := 0) ((hat48 0 _ rfl).ext H.ext)))) (fun a S => ?_)
  refine lq (.bool (decide (x78 < a1.1))) S (q_lss rfl rfl) fun a S => ?_
  refine lx_nil (thenN ?_)
  refine cond_b S rfl (fun hc292 => ?_) (fun hc292 => ?_)
  ·have hm := ite_t hc292 hm
   refine wp_skip (thenN ?_)
   refine wp_seq ?_
   refine wp_block ?_
   refine region_plain ?_
   refine lq v68 S (q_move rfl) fun a S => ?_
   refine lq (.int .i64 x78) S (q_move rfl) fun a S => ?_
   refine lq p0 S (q_move rfl) fun a S => ?_
   refine lq p0 S (q_nilCheck rfl ((hat33 0 _ rfl).isP)) fun a S => ?_
   refine lq (pAdd p0 0) S (q_fieldAddr' 0 2 rfl ((hat33 0 _ rfl).isP) Tryz.underlying61 rfl Tryz.sizeOf2) fun a S => ?_
   refine lx_e (.int .i64 a0.1) S trivial (by decide) rfl trivial (q_load1 rfl Tryz.isAgg2 (by rintro _ rfl; exact (At.of_add (m := 0) (j := 0) ((hat33 0 _ rfl).ext H.ext)))) (fun a S => ?_)
   refine lq (.bool (a0.1 == (5 : Int))) S (q_eql rfl rfl) fun a S => ?_
   obtain ⟨x293, e294, hm⟩ := bind_some hm
   have hlt := lt_of_idx (idx_some e294).2
   refine lq (ePtr v68 (x78.toNat * 1)) S (q_indexAddr rfl (H.isSl 0 rfl) rfl (idx_some e294).1 hlt Tryz.underlying59 Tryz.sizeOf4) fun a S => ?_
   refine lx_storeElem (r := rBool) (us := [(.bool (a0.1 == (5 : Int)))]) (off := 0) (e' := (a0.1 == (5 : Int))) S trivial rfl H.putE (ev_zero rfl) rfl (idx_some e294).2 rfl Tryz.sizeOf4 (Nat.le_of_ble_eq_true rfl) (List.forall_mem_cons.2 ⟨rfl, (List.forall_mem_nil _)⟩) (Upd.full rfl (fun w G hG => by cases (show G = [] from hG); exact ⟨rfl, rfl⟩)) (fun w295 H => ⟨trivial, fun a S => ?_⟩)
   refine lx_nil ?_
   refine inBlock_norm ?_
   refine thenN ?_
   refine region_plain ?_
   refine lq (.int .i64 x78) S (q_move rfl) fun a S => ?_
   refine lq (.int .i64 (W (x78 + (1 : Int)))) S (q_add rfl rfl) fun a S => ?_
   refine lq (.int .i64 (W (x78 + (1 : Int)))) S (q_assign rfl) fun a S => ?_
   refine lx_nil ?_
   exact ⟨m289, Nat.lt_succ_self _, (xs77.set x78.toNat (a0.1 == (5 : Int))), (W (x78 + (1 : Int))), S.sub ⟨rfl, rfl, rfl, rfl, rfl, trivial⟩, H, it_cont hm hc291⟩
  ·have hm := ite_f hc292 hm
   refine wp_exit ?_
   refine then_exit ?_
   refine then_exit ?_
   refine inBlock_exit ?_
   obtain rfl := it_brk hm hc291
   exact ⟨xs77, S.sub ⟨rfl, rfl, rfl, rfl, trivial⟩, H, rfl⟩
end Go.Proofs.YtnkpniekdipgaaaGreatDoor
