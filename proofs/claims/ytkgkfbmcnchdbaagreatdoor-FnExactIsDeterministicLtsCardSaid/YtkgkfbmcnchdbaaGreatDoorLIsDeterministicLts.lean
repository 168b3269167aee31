/- The model of a statement and its walk (printed by a program of this repo). -/
import Derived.Test.YtkgkfbmcnchdbaaGreatDoorF0
import Derived.Test.YtkgkfbmcnchdbaaGreatDoorF1
import Derived.Test.YtkgkfbmcnchdbaaGreatDoorF2
import Derived.Test.YtkgkfbmcnchdbaaGreatDoorF3
import Derived.Test.YtkgkfbmcnchdbaaGreatDoorF4
import Derived.Test.YtkgkfbmcnchdbaaGreatDoorGxT
import Derived.Test.YtkgkfbmcnchdbaaGreatDoorGxY
namespace Go.Proofs.YtkgkfbmcnchdbaaGreatDoor
open Go.RowKit Go.Gx

/-- spec.l11Single -/
def spec_l11Single_m (fuel : Nat) (a0 : Timpl_Lts) : Option (Bool) :=
  (iter (fun (s : (Int)) => (match s with | (x129) => (if (decide (x129 < (a0.2.2.2.length : Int))) = true then (idx a0.2.2.2 x129).bind fun x220 => (if (x220.2.1 == (0 : Int)) = true then some true else (if (decide ((0 : Int) < x129)) = true then (idx a0.2.2.2 x129).bind fun x239 => (idx a0.2.2.2 (W (x129 - (1 : Int)))).bind fun x252 => some (x239.1 == x252.1) else some false).bind fun t236 => (if t236 = true then (idx a0.2.2.2 x129).bind fun x268 => (idx a0.2.2.2 (W (x129 - (1 : Int)))).bind fun x281 => some (x268.2.1 == x281.2.1) else some false).bind fun t265 => some t265).bind fun t233 => (if t233 = true then some (.inr (.inr false)) else some (.inl ((W (x129 + (1 : Int)))))) else some (.inr (.inl ()))) : Option (((Int)) ⊕ ((Unit) ⊕ (Bool))))) fuel ((0 : Int))).bind fun res209 => ctl (β := Unit) (ρ := Bool) (τ := Bool) res209 (fun _ => some (true)) (fun q => some (q))
set_option maxRecDepth 20000 in
theorem spec_l11Single_ok {w0 : World} {fuel : Nat} {p0 : Value} {a0 : Timpl_Lts} {r : Bool} (h0 : Rd (rPtr Rimpl_Lts) w0 p0 a0) (hm : spec_l11Single_m fuel a0 = some r) :
  Calls Tryz.prog 76 #[p0] w0 fun e w => e = .returned (.bool r) ∧ Heap w0 [] w := by
 unfold spec_l11Single_m at hm
 have H := Heap.start w0
 obtain ⟨c31, h32, hat33⟩ := h0.ptr
 obtain ⟨c38, c39, rfl, h40, h41⟩ := h32
 obtain rfl := h40
 obtain ⟨c42, c43, rfl, h44, h45⟩ := h41
 obtain rfl := h44
 obtain ⟨c46, c47, rfl, h48, h49⟩ := h45
 obtain ⟨v34, rfl, h35⟩ := rd_list h48
 obtain ⟨v36, rfl, h37⟩ := rd_list h49
 refine enter (args := [p0]) Tryz.func76 rfl 66 rfl (Nat.le_of_ble_eq_true rfl) (fun a S => ?_)
 refine wp_seq (region_plain ?_)
 refine lq (.bool false) S (q_assign rfl) fun a S => ?_
 refine lx_nil (thenN ?_)
 refine wp_seq (wp_seq (region_plain ?_))
 refine lq (.int .i64 (0 : Int)) S (q_assign rfl) fun a S => ?_
 refine lx_nil (thenN ?_)
 obtain ⟨res209, hit210, hk213⟩ := bind_some hm
 obtain ⟨f211, hf212, hit210⟩ := iter_name hit210
 refine block_loop (fun a w => Slots a 66 [] ∧ Heap w0 [] w ∧ res209 = .inl ()) ?_ ?_
 ·rintro a w ⟨S, H, rfl⟩
  have hm := ctl_inl hk213
  refine thenN ?_
  refine wp_seq (region_plain ?_)
  refine lq (.bool true) S (q_assign rfl) fun a S => ?_
  refine lx_nil (thenN ?_)
  refine wp_ret ?_
  obtain rfl := Option.some.inj hm
  exact leave1 S rfl rfl ⟨rfl, H⟩
 ·skip
  refine loop_ghost (fun n a w => ∃ (x129 : Int), Slots a 66 [(0, p0), (3, (.int .i64 x129))] ∧ Heap w0 [] w ∧ iter f211 n (x129) = some res209) _ ⟨(0 : Int), S.sub ⟨rfl, rfl, trivial⟩, H, hit210⟩ ?_
  rintro n a w ⟨x129, S, H, hit210⟩
  obtain ⟨m214, o215, rfl, hm, hc216⟩ := iter_step hit210
  rw [hf212] at hm
  refine wp_seq (wp_seq (region_plain ?_))
  refine lq (.int .i64 x129) S (q_move rfl) fun a S => ?_
  refine lq p0 S (q_move rfl) fun a S => ?_
  refine lq p0 S (q_nilCheck rfl ((hat33 0 _ rfl).isP)) fun a S => ?_
  refine lq (pAdd p0 3) S (q_fieldAddr' 3 28 rfl ((hat33 0 _ rfl).isP) Tryz.underlying30 rfl Tryz.sizeOf28) fun a S => ?_
  refine lx_e v36 S trivial (by decide) rfl trivial (q_load1 rfl Tryz.isAgg28 (by rintro _ rfl; exact (At.of_add (m := 3) (j := 0) ((hat33 3 _ rfl).ext H.ext)))) (fun a S => ?_)
  refine lq (.int .i64 (a0.2.2.2.length : Int)) S (q_lenSl rfl (h37).isSl rfl Tryz.underlying28) fun a S => ?_
  refine lq (.bool (decide (x129 < (a0.2.2.2.length : Int)))) S (q_lss rfl rfl) fun a S => ?_
  refine lx_nil (thenN ?_)
  refine cond_b S rfl (fun hc217 => ?_) (fun hc217 => ?_)
  ·have hm := ite_t hc217 hm
   refine wp_skip (thenN ?_)
   refine wp_seq ?_
   refine wp_block ?_
   refine wp_seq ?_
   refine region_drawG (fun w1 => Heap w0 [] w1) (fun i => [].contains i) mixed (by kernel_rfl) (fun w219 he218 => ?_)
   have H := H.later he218
   refine ⟨H.sel [] (by decide), ?_⟩
   refine lq p0 S (q_move rfl) fun a S => ?_
   refine lq p0 S (q_nilCheck rfl ((hat33 0 _ rfl).isP)) fun a S => ?_
   refine lq (pAdd p0 3) S (q_fieldAddr' 3 28 rfl ((hat33 0 _ rfl).isP) Tryz.underlying30 rfl Tryz.sizeOf28) fun a S => ?_
   refine lq v36 S (q_load1 rfl Tryz.isAgg28 (fun w1 hC => (At.of_add (m := 3) (j := 0) ((hat33 3 _ rfl).ext hC.ext)))) fun a S => ?_
   refine lq (.int .i64 x129) S (q_move rfl) fun a S => ?_
   obtain ⟨x220, e221, hm⟩ := bind_some hm
   obtain ⟨c222, h223, hat224⟩ := (h37).elem (idx_some e221).2
   obtain ⟨c225, c226, rfl, h227, h228⟩ := h223
   obtain rfl := h227
   obtain ⟨c229, c230, rfl, h231, h232⟩ := h228
   obtain rfl := h231
   obtain rfl := h232
   have hlt := lt_of_idx (idx_some e221).2
   refine lq (ePtr v36 (x129.toNat * 3)) S (q_indexAddr rfl (h37).isSl rfl (idx_some e221).1 hlt Tryz.underlying28 Tryz.sizeOf72) fun a S => ?_
   refine lq (pAdd (ePtr v36 (x129.toNat * 3)) 1) S (q_fieldAddr' 1 2 rfl ((hat224 0 _ rfl).isP) Tryz.underlying72 rfl Tryz.sizeOf2) fun a S => ?_
   refine lq (.int .i64 x220.2.1) S (q_load1 rfl Tryz.isAgg2 (fun w1 hC => (At.of_add (m := 1) (j := 0) ((hat224 1 _ rfl).ext hC.ext)))) fun a S => ?_
   refine lq (.bool (x220.2.1 == (0 : Int))) S (q_eql rfl rfl) fun a S => ?_
   refine lq (.bool (x220.2.1 == (0 : Int))) S (q_move rfl) fun a S => ?_
   obtain ⟨t233, e234, hm⟩ := bind_some hm
   refine lx_cut 43 (fun a w => Slots a 66 [(0, p0), (3, (.int .i64 x129)), (65, (.bool t233))] ∧ Heap w0 [] w) ?_ ?_
   ·by_cases hc235 : (x220.2.1 == (0 : Int)) = true
    ·have hm := ite_t hc235 e234
     refine lx_skip S rfl rfl (isB_ne hc235) (by decide) (fun a S => ?_)
     refine lx_skip S rfl rfl (isB_ne hc235) (by decide) (fun a S => ?_)
     refine lx_skip S rfl rfl (isB_ne hc235) (by decide) (fun a S => ?_)
     refine lx_skip S rfl rfl rfl (by decide) (fun a S => ?_)
     refine lx_skip S rfl rfl rfl (by decide) (fun a S => ?_)
     refine lx_skip S rfl rfl rfl (by decide) (fun a S => ?_)
     refine lx_skip S rfl rfl rfl (by decide) (fun a S => ?_)
     refine lx_skip S rfl rfl rfl (by decide) (fun a S => ?_)
     refine lx_skip S rfl rfl rfl (by decide) (fun a S => ?_)
     refine lx_skip S rfl rfl rfl (by decide) (fun a S => ?_)
     refine lx_skip S rfl rfl rfl (by decide) (fun a S => ?_)
     refine lx_skip S rfl rfl rfl (by decide) (fun a S => ?_)
     refine lx_skip S rfl rfl rfl (by decide) (fun a S => ?_)
     refine lx_skip S rfl rfl rfl (by decide) (fun a S => ?_)
     refine lx_skip S rfl rfl rfl (by decide) (fun a S => ?_)
     refine lx_skip S rfl rfl rfl (by decide) (fun a S => ?_)
     refine lx_skip S rfl rfl rfl (by decide) (fun a S => ?_)
     refine lx_skip S rfl rfl rfl (by decide) (fun a S => ?_)
     refine lx_skip S rfl rfl rfl (by decide) (fun a S => ?_)
     refine lx_skip S rfl rfl rfl (by decide) (fun a S => ?_)
     refine lx_skip S rfl rfl rfl (by decide) (fun a S => ?_)
     refine lx_skip S rfl rfl (isB_ne hc235) (by decide) (fun a S => ?_)
     refine lx_skip S rfl rfl (isB_ne hc235) (by decide) (fun a S => ?_)
     refine lx_skip S rfl rfl rfl (by decide) (fun a S => ?_)
     refine lx_skip S rfl rfl rfl (by decide) (fun a S => ?_)
     refine lx_skip S rfl rfl rfl (by decide) (fun a S => ?_)
     refine lx_skip S rfl rfl rfl (by decide) (fun a S => ?_)
     refine lx_skip S rfl rfl rfl (by decide) (fun a S => ?_)
     refine lx_skip S rfl rfl rfl (by decide) (fun a S => ?_)
     refine lx_skip S rfl rfl rfl (by decide) (fun a S => ?_)
     refine lx_skip S rfl rfl rfl (by decide) (fun a S => ?_)
     refine lx_skip S rfl rfl rfl (by decide) (fun a S => ?_)
     refine lx_skip S rfl rfl rfl (by decide) (fun a S => ?_)
     refine lx_skip S rfl rfl rfl (by decide) (fun a S => ?_)
     refine lx_skip S rfl rfl rfl (by decide) (fun a S => ?_)
     refine lx_skip S rfl rfl rfl (by decide) (fun a S => ?_)
     refine lx_skip S rfl rfl rfl (by decide) (fun a S => ?_)
     refine lx_skip S rfl rfl rfl (by decide) (fun a S => ?_)
     refine lx_skip S rfl rfl rfl (by decide) (fun a S => ?_)
     refine lx_skip S rfl rfl rfl (by decide) (fun a S => ?_)
     refine lx_skip S rfl rfl rfl (by decide) (fun a S => ?_)
     refine lx_skip S rfl rfl (isB_ne hc235) (by decide) (fun a S => ?_)
     refine lq (.bool true) S (q_pickT' rfl hc235 rfl) fun a S => ?_
     refine lx_nil ?_
     obtain rfl := Option.some.inj hm
     exact ⟨S.sub ⟨rfl, rfl, rfl, trivial⟩, H⟩
    ·have hm := ite_f (eq_false_of_ne_true hc235) e234
     have hc235 : (x220.2.1 == (0 : Int)) = false := eq_false_of_ne_true hc235
     refine lx_q (.int .i64 x129) S (want_b rfl rfl hc235) (by decide) (q_move rfl) (fun a S => ?_)
     refine lx_q (.bool (decide ((0 : Int) < x129))) S (want_b rfl rfl hc235) (by decide) (q_gtr rfl rfl) (fun a S => ?_)
     refine lx_q (.bool (decide ((0 : Int) < x129))) S (want_b rfl rfl hc235) (by decide) (q_move rfl) (fun a S => ?_)
     obtain ⟨t236, e237, hm⟩ := bind_some hm
     refine lx_cut 19 (fun a w => Slots a 66 [(0, p0), (3, (.int .i64 x129)), (22, (.bool (x220.2.1 == (0 : Int)))), (44, (.bool t236))] ∧ Heap w0 [] w) ?_ ?_
     ·by_cases hc238 : (decide ((0 : Int) < x129)) = true
      ·have hm := ite_t hc238 e237
       refine lx_q p0 S (want_b rfl rfl hc238) (by decide) (q_move rfl) (fun a S => ?_)
       refine lx_q p0 S (want_b rfl rfl hc238) (by decide) (q_nilCheck rfl ((hat33 0 _ rfl).isP)) (fun a S => ?_)
       refine lx_q (pAdd p0 3) S (want_b rfl rfl hc238) (by decide) (q_fieldAddr' 3 28 rfl ((hat33 0 _ rfl).isP) Tryz.underlying30 rfl Tryz.sizeOf28) (fun a S => ?_)
       refine lx_q v36 S (want_b rfl rfl hc238) (by decide) (q_load1 rfl Tryz.isAgg28 (fun w1 hC => (At.of_add (m := 3) (j := 0) ((hat33 3 _ rfl).ext hC.ext)))) (fun a S => ?_)
       refine lx_q (.int .i64 x129) S (want_b rfl rfl hc238) (by decide) (q_move rfl) (fun a S => ?_)
       obtain ⟨x239, e240, hm⟩ := bind_some hm
       obtain ⟨c241, h242, hat243⟩ := (h37).elem (idx_some e240).2
       obtain ⟨c244, c245, rfl, h246, h247⟩ := h242
       obtain rfl := h246
       obtain ⟨c248, c249, rfl, h250, h251⟩ := h247
       obtain rfl := h250
       obtain rfl := h251
       have hlt := lt_of_idx (idx_some e240).2
       refine lx_q (ePtr v36 (x129.toNat * 3)) S (want_b rfl rfl hc238) (by decide) (q_indexAddr rfl (h37).isSl rfl (idx_some e240).1 hlt Tryz.underlying28 Tryz.sizeOf72) (fun a S => ?_)
       refine lx_q (pAdd (ePtr v36 (x129.toNat * 3)) 0) S (want_b rfl rfl hc238) (by decide) (q_fieldAddr' 0 2 rfl ((hat243 0 _ rfl).isP) Tryz.underlying72 rfl Tryz.sizeOf2) (fun a S => ?_)
       refine lx_q (.int .i64 x239.1) S (want_b rfl rfl hc238) (by decide) (q_load1 rfl Tryz.isAgg2 (fun w1 hC => (At.of_add (m := 0) (j := 0) ((hat243 0 _ rfl).ext hC.ext)))) (fun a S => ?_)
       refine lx_q p0 S (want_b rfl rfl hc238) (by decide) (q_move rfl) (fun a S => ?_)
       refine lx_q p0 S (want_b rfl rfl hc238) (by decide) (q_nilCheck rfl ((hat33 0 _ rfl).isP)) (fun a S => ?_)
       refine lx_q (pAdd p0 3) S (want_b rfl rfl hc238) (by decide) (q_fieldAddr' 3 28 rfl ((hat33 0 _ rfl).isP) Tryz.underlying30 rfl Tryz.sizeOf28) (fun a S => ?_)
       refine lx_q v36 S (want_b rfl rfl hc238) (by decide) (q_load1 rfl Tryz.isAgg28 (fun w1 hC => (At.of_add (m := 3) (j := 0) ((hat33 3 _ rfl).ext hC.ext)))) (fun a S => ?_)
       refine lx_q (.int .i64 x129) S (want_b rfl rfl hc238) (by decide) (q_move rfl) (fun a S => ?_)
       refine lx_q (.int .i64 (W (x129 - (1 : Int)))) S (want_b rfl rfl hc238) (by decide) (q_sub rfl rfl) (fun a S => ?_)
       obtain ⟨x252, e253, hm⟩ := bind_some hm
       obtain ⟨c254, h255, hat256⟩ := (h37).elem (idx_some e253).2
       obtain ⟨c257, c258, rfl, h259, h260⟩ := h255
       obtain rfl := h259
       obtain ⟨c261, c262, rfl, h263, h264⟩ := h260
       obtain rfl := h263
       obtain rfl := h264
       have hlt := lt_of_idx (idx_some e253).2
       refine lx_q (ePtr v36 ((W (x129 - (1 : Int))).toNat * 3)) S (want_b rfl rfl hc238) (by decide) (q_indexAddr rfl (h37).isSl rfl (idx_some e253).1 hlt Tryz.underlying28 Tryz.sizeOf72) (fun a S => ?_)
       refine lx_q (pAdd (ePtr v36 ((W (x129 - (1 : Int))).toNat * 3)) 0) S (want_b rfl rfl hc238) (by decide) (q_fieldAddr' 0 2 rfl ((hat256 0 _ rfl).isP) Tryz.underlying72 rfl Tryz.sizeOf2) (fun a S => ?_)
       refine lx_q (.int .i64 x252.1) S (want_b rfl rfl hc238) (by decide) (q_load1 rfl Tryz.isAgg2 (fun w1 hC => (At.of_add (m := 0) (j := 0) ((hat256 0 _ rfl).ext hC.ext)))) (fun a S => ?_)
       refine lx_q (.bool (x239.1 == x252.1)) S (want_b rfl rfl hc238) (by decide) (q_eql rfl rfl) (fun a S => ?_)
       refine lx_q (.bool (x239.1 == x252.1)) S (want_b rfl rfl hc235) (by decide) (q_pickT' rfl hc238 rfl) (fun a S => ?_)
       refine lx_nil ?_
       obtain rfl := Option.some.inj hm
       exact ⟨S.sub ⟨rfl, rfl, rfl, rfl, trivial⟩, H⟩
      ·have hm := ite_f (eq_false_of_ne_true hc238) e237
       have hc238 : (decide ((0 : Int) < x129)) = false := eq_false_of_ne_true hc238
       refine lx_skip S rfl rfl (isB_ne hc238) (by decide) (fun a S => ?_)
       refine lx_skip S rfl rfl (isB_ne hc238) (by decide) (fun a S => ?_)
       refine lx_skip S rfl rfl (isB_ne hc238) (by decide) (fun a S => ?_)
       refine lx_skip S rfl rfl (isB_ne hc238) (by decide) (fun a S => ?_)
       refine lx_skip S rfl rfl (isB_ne hc238) (by decide) (fun a S => ?_)
       refine lx_skip S rfl rfl (isB_ne hc238) (by decide) (fun a S => ?_)
       refine lx_skip S rfl rfl (isB_ne hc238) (by decide) (fun a S => ?_)
       refine lx_skip S rfl rfl (isB_ne hc238) (by decide) (fun a S => ?_)
       refine lx_skip S rfl rfl (isB_ne hc238) (by decide) (fun a S => ?_)
       refine lx_skip S rfl rfl (isB_ne hc238) (by decide) (fun a S => ?_)
       refine lx_skip S rfl rfl (isB_ne hc238) (by decide) (fun a S => ?_)
       refine lx_skip S rfl rfl (isB_ne hc238) (by decide) (fun a S => ?_)
       refine lx_skip S rfl rfl (isB_ne hc238) (by decide) (fun a S => ?_)
       refine lx_skip S rfl rfl (isB_ne hc238) (by decide) (fun a S => ?_)
       refine lx_skip S rfl rfl (isB_ne hc238) (by decide) (fun a S => ?_)
       refine lx_skip S rfl rfl (isB_ne hc238) (by decide) (fun a S => ?_)
       refine lx_skip S rfl rfl (isB_ne hc238) (by decide) (fun a S => ?_)
       refine lx_skip S rfl rfl (isB_ne hc238) (by decide) (fun a S => ?_)
       refine lx_q (.bool false) S (want_b rfl rfl hc235) (by decide) (q_pickF' rfl hc238 rfl) (fun a S => ?_)
       refine lx_nil ?_
       obtain rfl := Option.some.inj hm
       exact ⟨S.sub ⟨rfl, rfl, rfl, rfl, trivial⟩, H⟩
     ·rintro a w ⟨S, H⟩
      refine lx_q (.bool t236) S (want_b rfl rfl hc235) (by decide) (q_move rfl) (fun a S => ?_)
      obtain ⟨t265, e266, hm⟩ := bind_some hm
      refine lx_cut 19 (fun a w => Slots a 66 [(0, p0), (3, (.int .i64 x129)), (22, (.bool (x220.2.1 == (0 : Int)))), (64, (.bool t265))] ∧ Heap w0 [] w) ?_ ?_
      ·by_cases hc267 : t236 = true
       ·have hm := ite_t hc267 e266
        refine lx_q p0 S (want_b rfl rfl hc267) (by decide) (q_move rfl) (fun a S => ?_)
        refine lx_q p0 S (want_b rfl rfl hc267) (by decide) (q_nilCheck rfl ((hat33 0 _ rfl).isP)) (fun a S => ?_)
        refine lx_q (pAdd p0 3) S (want_b rfl rfl hc267) (by decide) (q_fieldAddr' 3 28 rfl ((hat33 0 _ rfl).isP) Tryz.underlying30 rfl Tryz.sizeOf28) (fun a S => ?_)
        refine lx_q v36 S (want_b rfl rfl hc267) (by decide) (q_load1 rfl Tryz.isAgg28 (fun w1 hC => (At.of_add (m := 3) (j := 0) ((hat33 3 _ rfl).ext hC.ext)))) (fun a S => ?_)
        refine lx_q (.int .i64 x129) S (want_b rfl rfl hc267) (by decide) (q_move rfl) (fun a S => ?_)
        obtain ⟨x268, e269, hm⟩ := bind_some hm
        obtain ⟨c270, h271, hat272⟩ := (h37).elem (idx_some e269).2
        obtain ⟨c273, c274, rfl, h275, h276⟩ := h271
        obtain rfl := h275
        obtain ⟨c277, c278, rfl, h279, h280⟩ := h276
        obtain rfl := h279
        obtain rfl := h280
        have hlt := lt_of_idx (idx_some e269).2
        refine lx_q (ePtr v36 (x129.toNat * 3)) S (want_b rfl rfl hc267) (by decide) (q_indexAddr rfl (h37).isSl rfl (idx_some e269).1 hlt Tryz.underlying28 Tryz.sizeOf72) (fun a S => ?_)
        refine lx_q (pAdd (ePtr v36 (x129.toNat * 3)) 1) S (want_b rfl rfl hc267) (by decide) (q_fieldAddr' 1 2 rfl ((hat272 0 _ rfl).isP) Tryz.underlying72 rfl Tryz.sizeOf2) (fun a S => ?_)
        refine lx_q (.int .i64 x268.2.1) S (want_b rfl rfl hc267) (by decide) (q_load1 rfl Tryz.isAgg2 (fun w1 hC => (At.of_add (m := 1) (j := 0) ((hat272 1 _ rfl).ext hC.ext)))) (fun a S => ?_)
        refine lx_q p0 S (want_b rfl rfl hc267) (by decide) (q_move rfl) (fun a S => ?_)
        refine lx_q p0 S (want_b rfl rfl hc267) (by decide) (q_nilCheck rfl ((hat33 0 _ rfl).isP)) (fun a S => ?_)
        refine lx_q (pAdd p0 3) S (want_b rfl rfl hc267) (by decide) (q_fieldAddr' 3 28 rfl ((hat33 0 _ rfl).isP) Tryz.underlying30 rfl Tryz.sizeOf28) (fun a S => ?_)
        refine lx_q v36 S (want_b rfl rfl hc267) (by decide) (q_load1 rfl Tryz.isAgg28 (fun w1 hC => (At.of_add (m := 3) (j := 0) ((hat33 3 _ rfl).ext hC.ext)))) (fun a S => ?_)
        refine lx_q (.int .i64 x129) S (want_b rfl rfl hc267) (by decide) (q_move rfl) (fun a S => ?_)
        refine lx_q (.int .i64 (W (x129 - (1 : Int)))) S (want_b rfl rfl hc267) (by decide) (q_sub rfl rfl) (fun a S => ?_)
        obtain ⟨x281, e282, hm⟩ := bind_some hm
        obtain ⟨c283, h284, hat285⟩ := (h37).elem (idx_some e282).2
        obtain ⟨c286, c287, rfl, h288, h289⟩ := h284
        obtain rfl := h288
        obtain ⟨c290, c291, rfl, h292, h293⟩ := h289
        obtain rfl := h292
        obtain rfl := h293
        have hlt := lt_of_idx (idx_some e282).2
        refine lx_q (ePtr v36 ((W (x129 - (1 : Int))).toNat * 3)) S (want_b rfl rfl hc267) (by decide) (q_indexAddr rfl (h37).isSl rfl (idx_some e282).1 hlt Tryz.underlying28 Tryz.sizeOf72) (fun a S => ?_)
        refine lx_q (pAdd (ePtr v36 ((W (x129 - (1 : Int))).toNat * 3)) 1) S (want_b rfl rfl hc267) (by decide) (q_fieldAddr' 1 2 rfl ((hat285 0 _ rfl).isP) Tryz.underlying72 rfl Tryz.sizeOf2) (fun a S => ?_)
        refine lx_q (.int .i64 x281.2.1) S (want_b rfl rfl hc267) (by decide) (q_load1 rfl Tryz.isAgg2 (fun w1 hC => (At.of_add (m := 1) (j := 0) ((hat285 1 _ rfl).ext hC.ext)))) (fun a S => ?_)
        refine lx_q (.bool (x268.2.1 == x281.2.1)) S (want_b rfl rfl hc267) (by decide) (q_eql rfl rfl) (fun a S => ?_)
        refine lx_q (.bool (x268.2.1 == x281.2.1)) S (want_b rfl rfl hc235) (by decide) (q_pickT' rfl hc267 rfl) (fun a S => ?_)
        refine lx_nil ?_
        obtain rfl := Option.some.inj hm
        exact ⟨S.sub ⟨rfl, rfl, rfl, rfl, trivial⟩, H⟩
       ·have hm := ite_f (eq_false_of_ne_true hc267) e266
        have hc267 : t236 = false := eq_false_of_ne_true hc267
        refine lx_skip S rfl rfl (isB_ne hc267) (by decide) (fun a S => ?_)
        refine lx_skip S rfl rfl (isB_ne hc267) (by decide) (fun a S => ?_)
        refine lx_skip S rfl rfl (isB_ne hc267) (by decide) (fun a S => ?_)
        refine lx_skip S rfl rfl (isB_ne hc267) (by decide) (fun a S => ?_)
        refine lx_skip S rfl rfl (isB_ne hc267) (by decide) (fun a S => ?_)
        refine lx_skip S rfl rfl (isB_ne hc267) (by decide) (fun a S => ?_)
        refine lx_skip S rfl rfl (isB_ne hc267) (by decide) (fun a S => ?_)
        refine lx_skip S rfl rfl (isB_ne hc267) (by decide) (fun a S => ?_)
        refine lx_skip S rfl rfl (isB_ne hc267) (by decide) (fun a S => ?_)
        refine lx_skip S rfl rfl (isB_ne hc267) (by decide) (fun a S => ?_)
        refine lx_skip S rfl rfl (isB_ne hc267) (by decide) (fun a S => ?_)
        refine lx_skip S rfl rfl (isB_ne hc267) (by decide) (fun a S => ?_)
        refine lx_skip S rfl rfl (isB_ne hc267) (by decide) (fun a S => ?_)
        refine lx_skip S rfl rfl (isB_ne hc267) (by decide) (fun a S => ?_)
        refine lx_skip S rfl rfl (isB_ne hc267) (by decide) (fun a S => ?_)
        refine lx_skip S rfl rfl (isB_ne hc267) (by decide) (fun a S => ?_)
        refine lx_skip S rfl rfl (isB_ne hc267) (by decide) (fun a S => ?_)
        refine lx_skip S rfl rfl (isB_ne hc267) (by decide) (fun a S => ?_)
        refine lx_q (.bool false) S (want_b rfl rfl hc235) (by decide) (q_pickF' rfl hc267 rfl) (fun a S => ?_)
        refine lx_nil ?_
        obtain rfl := Option.some.inj hm
        exact ⟨S.sub ⟨rfl, rfl, rfl, rfl, trivial⟩, H⟩
      ·rintro a w ⟨S, H⟩
       refine lq (.bool t265) S (q_pickF' rfl hc235 rfl) fun a S => ?_
       refine lx_nil ?_
       obtain rfl := Option.some.inj hm
       exact ⟨S.sub ⟨rfl, rfl, rfl, trivial⟩, H⟩
   ·rintro a w ⟨S, H⟩
    refine lx_nil (thenN ?_)
    refine cond_b S rfl (fun hc294 => ?_) (fun hc294 => ?_)
    ·have hm := ite_t hc294 hm
     refine wp_seq (region_plain ?_)
     refine lq (.bool false) S (q_assign rfl) fun a S => ?_
     refine lx_nil (thenN ?_)
     refine wp_ret (inBlock_ret ?_)
     refine then_ret ?_
     refine then_ret ?_
     refine inBlock_ret ?_
     refine then_ret ?_
     refine then_ret ?_
     obtain rfl := it_brk hm hc216
     have hm := ctl_inr hk213
     obtain rfl := Option.some.inj hm
     exact leave1 S rfl rfl ⟨rfl, H⟩
    ·have hm := ite_f hc294 hm
     refine wp_skip ?_
     refine inBlock_norm ?_
     refine thenN ?_
     refine region_plain ?_
     refine lq (.int .i64 x129) S (q_move rfl) fun a S => ?_
     refine lq (.int .i64 (W (x129 + (1 : Int)))) S (q_add rfl rfl) fun a S => ?_
     refine lq (.int .i64 (W (x129 + (1 : Int)))) S (q_assign rfl) fun a S => ?_
     refine lx_nil ?_
     exact ⟨m214, Nat.lt_succ_self _, (W (x129 + (1 : Int))), S.sub ⟨rfl, rfl, trivial⟩, H, it_cont hm hc216⟩
  ·have hm := ite_f hc217 hm
   refine wp_exit ?_
   refine then_exit ?_
   refine then_exit ?_
   refine inBlock_exit ?_
   obtain rfl := it_brk hm hc216
   exact ⟨S.sub trivial, H, rfl⟩

/-- spec.IsDeterministicLts -/
def spec_IsDeterministicLts_m (fuel : Nat) (a0 : Timpl_Lts) : Option (Bool) :=
  (spec_l11Is_m fuel (a0.1, a0.2.1, a0.2.2.1, a0.2.2.2)).bind fun x54 => (if x54 = true then (spec_l11Single_m fuel (a0.1, a0.2.1, a0.2.2.1, a0.2.2.2)).bind fun x62 => some x62 else some false).bind fun t57 => some (t57)
set_option maxRecDepth 20000 in
theorem spec_IsDeterministicLts_ok {w0 : World} {fuel : Nat} {p0 : Value} {a0 : Timpl_Lts} {r : Bool} (h0 : Rd Rimpl_Lts w0 p0 a0) (hm : spec_IsDeterministicLts_m fuel a0 = some r) :
  Calls Tryz.prog 24 #[p0] w0 fun e w => e = .returned (.bool r) ∧ Heap w0 [] w := by
 unfold spec_IsDeterministicLts_m at hm
 have H := Heap.start w0
 obtain ⟨c31, rfl, h32⟩ := h0
 obtain ⟨c37, c38, rfl, h39, h40⟩ := h32
 obtain rfl := h39
 obtain ⟨c41, c42, rfl, h43, h44⟩ := h40
 obtain rfl := h43
 obtain ⟨c45, c46, rfl, h47, h48⟩ := h44
 obtain ⟨v33, rfl, h34⟩ := rd_list h47
 obtain ⟨v35, rfl, h36⟩ := rd_list h48
 refine enter (args := [(.agg #[(.int .i64 a0.1), (.int .i64 a0.2.1), v33, v35])]) Tryz.func24 rfl 7 rfl (Nat.le_of_ble_eq_true rfl) (fun a S => ?_)
 refine wp_seq (region_plain ?_)
 refine lx_box S trivial (by decide) rfl H rfl rfl (fun b49 w50 H => ⟨trivial, fun a S => ?_⟩)
 refine lq (.bool false) S (q_assign rfl) fun a S => ?_
 refine lx_nil (thenN ?_)
 refine wp_seq (region_plain ?_)
 obtain ⟨x54, e55, hm⟩ := bind_some hm
 refine lx_call (xs := [.tmp 1]) S trivial (by decide) rfl rfl Tryz.call70 ((spec_l11Is_ok (rdPtr_box H 0 rfl ⟨[(.int .i64 a0.1)], [(.int .i64 a0.2.1), v33, v35], rfl, rfl, ⟨[(.int .i64 a0.2.1)], [v33, v35], rfl, rfl, ⟨[v33], [v35], rfl, ((H.arg h34)).list_rd, ((H.arg h36)).list_rd⟩⟩⟩) e55).mono ?_)
 rintro e w52 ⟨rfl, Hc53⟩
 have H := H.call0 Hc53
 refine ⟨_, rfl, trivial, fun a S => ?_⟩
 refine lq (.bool x54) S (q_move rfl) fun a S => ?_
 obtain ⟨t57, e58, hm⟩ := bind_some hm
 refine lx_cut 2 (fun a w => Slots a 7 [(6, (.bool t57))] ∧ Heap w0 [] w) ?_ ?_
 ·by_cases hc59 : x54 = true
  ·have hm := ite_t hc59 e58
   obtain ⟨x62, e63, hm⟩ := bind_some hm
   refine lx_call (xs := [.tmp 1]) S (want_b rfl rfl hc59) (by decide) rfl rfl Tryz.call76 ((spec_l11Single_ok (rdPtr_box H 0 rfl ⟨[(.int .i64 a0.1)], [(.int .i64 a0.2.1), v33, v35], rfl, rfl, ⟨[(.int .i64 a0.2.1)], [v33, v35], rfl, rfl, ⟨[v33], [v35], rfl, ((H.arg h34)).list_rd, ((H.arg h36)).list_rd⟩⟩⟩) e63).mono ?_)
   rintro e w60 ⟨rfl, Hc61⟩
   have H := H.call0 Hc61
   refine ⟨_, rfl, trivial, fun a S => ?_⟩
   refine lq (.bool x62) S (q_pickT' rfl hc59 rfl) fun a S => ?_
   refine lx_nil ?_
   obtain rfl := Option.some.inj hm
   have H := H.sel [] (by decide)
   exact ⟨S.sub ⟨rfl, trivial⟩, H⟩
  ·have hm := ite_f (eq_false_of_ne_true hc59) e58
   have hc59 : x54 = false := eq_false_of_ne_true hc59
   refine lx_skip S rfl rfl (isB_ne hc59) (by decide) (fun a S => ?_)
   refine lq (.bool false) S (q_pickF' rfl hc59 rfl) fun a S => ?_
   refine lx_nil ?_
   obtain rfl := Option.some.inj hm
   have H := H.sel [] (by decide)
   exact ⟨S.sub ⟨rfl, trivial⟩, H⟩
 ·rintro a w ⟨S, H⟩
  refine lq (.bool t57) S (q_assign rfl) fun a S => ?_
  refine lx_nil (thenN ?_)
  refine wp_ret ?_
  obtain rfl := Option.some.inj hm
  exact leave1 S rfl rfl ⟨rfl, H⟩

/-- impl.IsDeterministicLts -/
def impl_IsDeterministicLts_m (fuel : Nat) (a0 : Timpl_Lts) : Option (Bool) :=
  (impl_ValidLts_m fuel (a0.1, a0.2.1, a0.2.2.1, a0.2.2.2)).bind fun x54 => (if (!x54) = true then some (false) else (iter (fun (s : (Int)) => (match s with | (x115) => (if (decide (x115 < (a0.2.2.2.length : Int))) = true then (idx a0.2.2.2 x115).bind fun x182 => (if (x182.2.1 == (0 : Int)) = true then some true else (if (decide ((0 : Int) < x115)) = true then (idx a0.2.2.2 (W (x115 - (1 : Int)))).bind fun x207 => some (x207.1 == x182.1) else some false).bind fun t204 => (if t204 = true then (idx a0.2.2.2 (W (x115 - (1 : Int)))).bind fun x223 => some (x223.2.1 == x182.2.1) else some false).bind fun t220 => some t220).bind fun t201 => (if t201 = true then some (.inr (.inr false)) else some (.inl ((W (x115 + (1 : Int)))))) else some (.inr (.inl ()))) : Option (((Int)) ⊕ ((Unit) ⊕ (Bool))))) fuel ((0 : Int))).bind fun res173 => ctl (β := Unit) (ρ := Bool) (τ := Bool) res173 (fun _ => some (true)) (fun q => some (q)))
set_option maxRecDepth 20000 in
theorem impl_IsDeterministicLts_ok {w0 : World} {fuel : Nat} {p0 : Value} {a0 : Timpl_Lts} {r : Bool} (hG : Glob Tryz.prog w0) (h0 : Rd Rimpl_Lts w0 p0 a0) (hm : impl_IsDeterministicLts_m fuel a0 = some r) :
  Calls Tryz.prog 25 #[p0] w0 fun e w => e = .returned (.bool r) ∧ Heap w0 [] w := by
 unfold impl_IsDeterministicLts_m at hm
 have H := Heap.start w0
 obtain ⟨c31, rfl, h32⟩ := h0
 obtain ⟨c37, c38, rfl, h39, h40⟩ := h32
 obtain rfl := h39
 obtain ⟨c41, c42, rfl, h43, h44⟩ := h40
 obtain rfl := h43
 obtain ⟨c45, c46, rfl, h47, h48⟩ := h44
 obtain ⟨v33, rfl, h34⟩ := rd_list h47
 obtain ⟨v35, rfl, h36⟩ := rd_list h48
 refine enter (args := [(.agg #[(.int .i64 a0.1), (.int .i64 a0.2.1), v33, v35])]) Tryz.func25 rfl 48 rfl (Nat.le_of_ble_eq_true rfl) (fun a S => ?_)
 refine wp_seq (region_plain ?_)
 refine lx_box S trivial (by decide) rfl H rfl rfl (fun b49 w50 H => ⟨trivial, fun a S => ?_⟩)
 refine lq (.bool false) S (q_assign rfl) fun a S => ?_
 refine lx_nil (thenN ?_)
 refine wp_seq (wp_seq (region_plain ?_))
 refine lx_e (.agg #[(.int .i64 a0.1), (.int .i64 a0.2.1), v33, v35]) S trivial (by decide) rfl trivial (q_loadA (cs := [(.int .i64 a0.1), (.int .i64 a0.2.1), v33, v35]) rfl (isP_bp _) Tryz.isAgg30 Tryz.sizeOf30 (by rintro _ rfl; exact (fun j u hu => boxAt (i := 0) H rfl hu))) (fun a S => ?_)
 obtain ⟨x54, e55, hm⟩ := bind_some hm
 refine lx_call (xs := [.tmp 5]) S trivial (by decide) rfl rfl Tryz.call22 ((impl_ValidLts_ok (hG.ext H.ext) ⟨[(.int .i64 a0.1), (.int .i64 a0.2.1), v33, v35], rfl, ⟨[(.int .i64 a0.1)], [(.int .i64 a0.2.1), v33, v35], rfl, rfl, ⟨[(.int .i64 a0.2.1)], [v33, v35], rfl, rfl, ⟨[v33], [v35], rfl, ((H.arg h34)).list_rd, ((H.arg h36)).list_rd⟩⟩⟩⟩ e55).mono ?_)
 rintro e w52 ⟨rfl, Hc53⟩
 have H := H.call0 Hc53
 refine ⟨_, rfl, trivial, fun a S => ?_⟩
 refine lq (.bool (!x54)) S (q_not rfl) fun a S => ?_
 refine lx_nil (thenN ?_)
 refine cond_b S rfl (fun hc57 => ?_) (fun hc57 => ?_)
 ·have hm := ite_t hc57 hm
  refine wp_seq (region_plain ?_)
  refine lq (.bool false) S (q_assign rfl) fun a S => ?_
  refine lx_nil (thenN ?_)
  refine wp_ret (then_ret ?_)
  obtain rfl := Option.some.inj hm
  have H : Heap w0 [] w52 := H.sel [] (by decide)
  exact leave1 S rfl rfl ⟨rfl, H⟩
 ·have hm := ite_f hc57 hm
  refine wp_skip (thenN ?_)
  refine wp_seq (wp_seq (region_plain ?_))
  refine lq (pAdd (bp b49) 3) S (q_fieldAddr' 3 28 rfl (isP_bp _) Tryz.underlying30 rfl Tryz.sizeOf28) fun a S => ?_
  refine lx_e v35 S trivial (by decide) rfl trivial (q_load1 rfl Tryz.isAgg28 (by rintro _ rfl; exact (At.of_add (m := 3) (j := 0) (boxAt (i := 0) H rfl (j := 3) rfl)))) (fun a S => ?_)
  refine lq (.int .i64 (a0.2.2.2.length : Int)) S (q_lenSl rfl (h36).isSl rfl Tryz.underlying28) fun a S => ?_
  refine lq (.int .i64 (0 : Int)) S (q_move rfl) fun a S => ?_
  refine lx_nil (thenN ?_)
  obtain ⟨res173, hit174, hk177⟩ := bind_some hm
  obtain ⟨f175, hf176, hit174⟩ := iter_name hit174
  refine block_loop (fun a w => Slots a 48 [] ∧ Heap w0 [] w ∧ res173 = .inl ()) ?_ ?_
  ·rintro a w ⟨S, H, rfl⟩
   have hm := ctl_inl hk177
   refine thenN ?_
   refine wp_seq (region_plain ?_)
   refine lq (.bool true) S (q_assign rfl) fun a S => ?_
   refine lx_nil (thenN ?_)
   refine wp_ret ?_
   obtain rfl := Option.some.inj hm
   exact leave1 S rfl rfl ⟨rfl, H⟩
  ·skip
   refine loop_ghost (fun n a w => ∃ (x115 : Int), Slots a 48 [(1, (bp b49)), (9, v35), (10, (.int .i64 (a0.2.2.2.length : Int))), (11, (.int .i64 x115))] ∧ Heap w0 [bA b49 [(.int .i64 a0.1), (.int .i64 a0.2.1), v33, v35] 30] w ∧ iter f175 n (x115) = some res173) _ ⟨(0 : Int), S.sub ⟨rfl, rfl, rfl, rfl, trivial⟩, H, hit174⟩ ?_
   rintro n a w ⟨x115, S, H, hit174⟩
   obtain ⟨m178, o179, rfl, hm, hc180⟩ := iter_step hit174
   rw [hf176] at hm
   refine wp_seq (region_plain ?_)
   refine lq (.bool (decide (x115 < (a0.2.2.2.length : Int)))) S (q_lss rfl rfl) fun a S => ?_
   refine lx_nil (thenN ?_)
   refine wp_seq ?_
   refine cond_b S rfl (fun hc181 => ?_) (fun hc181 => ?_)
   ·have hm := ite_t hc181 hm
    refine wp_skip (thenN ?_)
    refine wp_seq ?_
    refine wp_block ?_
    refine wp_seq (region_plain ?_)
    refine lq (.int .i64 x115) S (q_move rfl) fun a S => ?_
    obtain ⟨x182, e183, hm⟩ := bind_some hm
    obtain ⟨c184, h185, hat186⟩ := (h36).elem (idx_some e183).2
    obtain ⟨c187, c188, rfl, h189, h190⟩ := h185
    obtain rfl := h189
    obtain ⟨c191, c192, rfl, h193, h194⟩ := h190
    obtain rfl := h193
    obtain rfl := h194
    have hlt := lt_of_idx (idx_some e183).2
    refine lq (ePtr v35 (x115.toNat * 3)) S (q_indexAddr rfl (h36).isSl rfl (idx_some e183).1 hlt Tryz.underlying28 Tryz.sizeOf72) fun a S => ?_
    refine lx_e (.agg #[(.int .i64 x182.1), (.int .i64 x182.2.1), (.int .i64 x182.2.2)]) S trivial (by decide) rfl trivial (q_loadA (cs := [(.int .i64 x182.1), (.int .i64 x182.2.1), (.int .i64 x182.2.2)]) rfl ((hat186 0 _ rfl).isP) Tryz.isAgg72 Tryz.sizeOf72 (by rintro _ rfl; exact (fun j u hu => (hat186 j u hu).ext H.ext))) (fun a S => ?_)
    refine lx_alloc S trivial (by decide) rfl H Tryz.zeroValue72 rfl (fun b195 w196 H => ⟨trivial, fun a S => ?_⟩)
    refine lq (.int .i64 x115) S (q_assign rfl) fun a S => ?_
    refine lx_storeBox (o := 0) (i := 0) (us := [(.int .i64 x182.1), (.int .i64 x182.2.1), (.int .i64 x182.2.2)]) (cs' := [(.int .i64 x182.1), (.int .i64 x182.2.1), (.int .i64 x182.2.2)]) S trivial rfl H rfl rfl rfl rfl Tryz.sizeOf72 (Nat.le_of_ble_eq_true rfl) (List.forall_mem_cons.2 ⟨rfl, (List.forall_mem_cons.2 ⟨rfl, (List.forall_mem_cons.2 ⟨rfl, (fun _ h => nomatch h)⟩)⟩)⟩) rfl (fun w198 H => ⟨trivial, fun a S => ?_⟩)
    change Heap w0 [bA b195 [(.int .i64 x182.1), (.int .i64 x182.2.1), (.int .i64 x182.2.2)] 72, bA b49 [(.int .i64 a0.1), (.int .i64 a0.2.1), v33, v35] 30] w198 at H
    refine lx_nil (thenN ?_)
    refine wp_seq ?_
    refine region_drawG (fun w1 => Heap w0 [bA b195 [(.int .i64 x182.1), (.int .i64 x182.2.1), (.int .i64 x182.2.2)] 72, bA b49 [(.int .i64 a0.1), (.int .i64 a0.2.1), v33, v35] 30] w1) (fun i => [].contains i) mixed (by kernel_rfl) (fun w200 he199 => ?_)
    have H := H.later he199
    refine ⟨H.sel [0, 1] (by decide), ?_⟩
    refine lq (pAdd (bp b195) 1) S (q_fieldAddr' 1 2 rfl (isP_bp _) Tryz.underlying72 rfl Tryz.sizeOf2) fun a S => ?_
    refine lq (.int .i64 x182.2.1) S (q_load1 rfl Tryz.isAgg2 (fun w1 hC => (At.of_add (m := 1) (j := 0) (boxAt (i := 0) hC rfl (j := 1) rfl)))) fun a S => ?_
    refine lq (.bool (x182.2.1 == (0 : Int))) S (q_eql rfl rfl) fun a S => ?_
    refine lq (.bool (x182.2.1 == (0 : Int))) S (q_move rfl) fun a S => ?_
    obtain ⟨t201, e202, hm⟩ := bind_some hm
    refine lx_cut 27 (fun a w => Slots a 48 [(1, (bp b49)), (9, v35), (10, (.int .i64 (a0.2.2.2.length : Int))), (11, (.int .i64 x115)), (46, (.bool t201))] ∧ Heap w0 [bA b49 [(.int .i64 a0.1), (.int .i64 a0.2.1), v33, v35] 30] w) ?_ ?_
    ·by_cases hc203 : (x182.2.1 == (0 : Int)) = true
     ·have hm := ite_t hc203 e202
      refine lx_skip S rfl rfl (isB_ne hc203) (by decide) (fun a S => ?_)
      refine lx_skip S rfl rfl (isB_ne hc203) (by decide) (fun a S => ?_)
      refine lx_skip S rfl rfl (isB_ne hc203) (by decide) (fun a S => ?_)
      refine lx_skip S rfl rfl rfl (by decide) (fun a S => ?_)
      refine lx_skip S rfl rfl rfl (by decide) (fun a S => ?_)
      refine lx_skip S rfl rfl rfl (by decide) (fun a S => ?_)
      refine lx_skip S rfl rfl rfl (by decide) (fun a S => ?_)
      refine lx_skip S rfl rfl rfl (by decide) (fun a S => ?_)
      refine lx_skip S rfl rfl rfl (by decide) (fun a S => ?_)
      refine lx_skip S rfl rfl rfl (by decide) (fun a S => ?_)
      refine lx_skip S rfl rfl rfl (by decide) (fun a S => ?_)
      refine lx_skip S rfl rfl rfl (by decide) (fun a S => ?_)
      refine lx_skip S rfl rfl rfl (by decide) (fun a S => ?_)
      refine lx_skip S rfl rfl (isB_ne hc203) (by decide) (fun a S => ?_)
      refine lx_skip S rfl rfl (isB_ne hc203) (by decide) (fun a S => ?_)
      refine lx_skip S rfl rfl rfl (by decide) (fun a S => ?_)
      refine lx_skip S rfl rfl rfl (by decide) (fun a S => ?_)
      refine lx_skip S rfl rfl rfl (by decide) (fun a S => ?_)
      refine lx_skip S rfl rfl rfl (by decide) (fun a S => ?_)
      refine lx_skip S rfl rfl rfl (by decide) (fun a S => ?_)
      refine lx_skip S rfl rfl rfl (by decide) (fun a S => ?_)
      refine lx_skip S rfl rfl rfl (by decide) (fun a S => ?_)
      refine lx_skip S rfl rfl rfl (by decide) (fun a S => ?_)
      refine lx_skip S rfl rfl rfl (by decide) (fun a S => ?_)
      refine lx_skip S rfl rfl rfl (by decide) (fun a S => ?_)
      refine lx_skip S rfl rfl (isB_ne hc203) (by decide) (fun a S => ?_)
      refine lq (.bool true) S (q_pickT' rfl hc203 rfl) fun a S => ?_
      refine lx_nil ?_
      obtain rfl := Option.some.inj hm
      have H := H.sel [1] (by decide)
      exact ⟨S.sub ⟨rfl, rfl, rfl, rfl, rfl, trivial⟩, H⟩
     ·have hm := ite_f (eq_false_of_ne_true hc203) e202
      have hc203 : (x182.2.1 == (0 : Int)) = false := eq_false_of_ne_true hc203
      refine lx_q (.int .i64 x115) S (want_b rfl rfl hc203) (by decide) (q_move rfl) (fun a S => ?_)
      refine lx_q (.bool (decide ((0 : Int) < x115))) S (want_b rfl rfl hc203) (by decide) (q_gtr rfl rfl) (fun a S => ?_)
      refine lx_q (.bool (decide ((0 : Int) < x115))) S (want_b rfl rfl hc203) (by decide) (q_move rfl) (fun a S => ?_)
      obtain ⟨t204, e205, hm⟩ := bind_some hm
      refine lx_cut 11 (fun a w => Slots a 48 [(1, (bp b49)), (3, (.int .i64 x115)), (4, (bp b195)), (9, v35), (10, (.int .i64 (a0.2.2.2.length : Int))), (11, (.int .i64 x115)), (19, (.bool (x182.2.1 == (0 : Int)))), (33, (.bool t204))] ∧ Heap w0 [bA b195 [(.int .i64 x182.1), (.int .i64 x182.2.1), (.int .i64 x182.2.2)] 72, bA b49 [(.int .i64 a0.1), (.int .i64 a0.2.1), v33, v35] 30] w) ?_ ?_
      ·by_cases hc206 : (decide ((0 : Int) < x115)) = true
       ·have hm := ite_t hc206 e205
        refine lx_q (pAdd (bp b49) 3) S (want_b rfl rfl hc206) (by decide) (q_fieldAddr' 3 28 rfl (isP_bp _) Tryz.underlying30 rfl Tryz.sizeOf28) (fun a S => ?_)
        refine lx_q v35 S (want_b rfl rfl hc206) (by decide) (q_load1 rfl Tryz.isAgg28 (fun w1 hC => (At.of_add (m := 3) (j := 0) (boxAt (i := 1) hC rfl (j := 3) rfl)))) (fun a S => ?_)
        refine lx_q (.int .i64 x115) S (want_b rfl rfl hc206) (by decide) (q_move rfl) (fun a S => ?_)
        refine lx_q (.int .i64 (W (x115 - (1 : Int)))) S (want_b rfl rfl hc206) (by decide) (q_sub rfl rfl) (fun a S => ?_)
        obtain ⟨x207, e208, hm⟩ := bind_some hm
        obtain ⟨c209, h210, hat211⟩ := (h36).elem (idx_some e208).2
        obtain ⟨c212, c213, rfl, h214, h215⟩ := h210
        obtain rfl := h214
        obtain ⟨c216, c217, rfl, h218, h219⟩ := h215
        obtain rfl := h218
        obtain rfl := h219
        have hlt := lt_of_idx (idx_some e208).2
        refine lx_q (ePtr v35 ((W (x115 - (1 : Int))).toNat * 3)) S (want_b rfl rfl hc206) (by decide) (q_indexAddr rfl (h36).isSl rfl (idx_some e208).1 hlt Tryz.underlying28 Tryz.sizeOf72) (fun a S => ?_)
        refine lx_q (pAdd (ePtr v35 ((W (x115 - (1 : Int))).toNat * 3)) 0) S (want_b rfl rfl hc206) (by decide) (q_fieldAddr' 0 2 rfl ((hat211 0 _ rfl).isP) Tryz.underlying72 rfl Tryz.sizeOf2) (fun a S => ?_)
        refine lx_q (.int .i64 x207.1) S (want_b rfl rfl hc206) (by decide) (q_load1 rfl Tryz.isAgg2 (fun w1 hC => (At.of_add (m := 0) (j := 0) ((hat211 0 _ rfl).ext hC.ext)))) (fun a S => ?_)
        refine lx_q (pAdd (bp b195) 0) S (want_b rfl rfl hc206) (by decide) (q_fieldAddr' 0 2 rfl (isP_bp _) Tryz.underlying72 rfl Tryz.sizeOf2) (fun a S => ?_)
        refine lx_q (.int .i64 x182.1) S (want_b rfl rfl hc206) (by decide) (q_load1 rfl Tryz.isAgg2 (fun w1 hC => (At.of_add (m := 0) (j := 0) (boxAt (i := 0) hC rfl (j := 0) rfl)))) (fun a S => ?_)
        refine lx_q (.bool (x207.1 == x182.1)) S (want_b rfl rfl hc206) (by decide) (q_eql rfl rfl) (fun a S => ?_)
        refine lx_q (.bool (x207.1 == x182.1)) S (want_b rfl rfl hc203) (by decide) (q_pickT' rfl hc206 rfl) (fun a S => ?_)
        refine lx_nil ?_
        obtain rfl := Option.some.inj hm
        exact ⟨S.sub ⟨rfl, rfl, rfl, rfl, rfl, rfl, rfl, rfl, trivial⟩, H⟩
       ·have hm := ite_f (eq_false_of_ne_true hc206) e205
        have hc206 : (decide ((0 : Int) < x115)) = false := eq_false_of_ne_true hc206
        refine lx_skip S rfl rfl (isB_ne hc206) (by decide) (fun a S => ?_)
        refine lx_skip S rfl rfl (isB_ne hc206) (by decide) (fun a S => ?_)
        refine lx_skip S rfl rfl (isB_ne hc206) (by decide) (fun a S => ?_)
        refine lx_skip S rfl rfl (isB_ne hc206) (by decide) (fun a S => ?_)
        refine lx_skip S rfl rfl (isB_ne hc206) (by decide) (fun a S => ?_)
        refine lx_skip S rfl rfl (isB_ne hc206) (by decide) (fun a S => ?_)
        refine lx_skip S rfl rfl (isB_ne hc206) (by decide) (fun a S => ?_)
        refine lx_skip S rfl rfl (isB_ne hc206) (by decide) (fun a S => ?_)
        refine lx_skip S rfl rfl (isB_ne hc206) (by decide) (fun a S => ?_)
        refine lx_skip S rfl rfl (isB_ne hc206) (by decide) (fun a S => ?_)
        refine lx_q (.bool false) S (want_b rfl rfl hc203) (by decide) (q_pickF' rfl hc206 rfl) (fun a S => ?_)
        refine lx_nil ?_
        obtain rfl := Option.some.inj hm
        exact ⟨S.sub ⟨rfl, rfl, rfl, rfl, rfl, rfl, rfl, rfl, trivial⟩, H⟩
      ·rintro a w ⟨S, H⟩
       refine lx_q (.bool t204) S (want_b rfl rfl hc203) (by decide) (q_move rfl) (fun a S => ?_)
       obtain ⟨t220, e221, hm⟩ := bind_some hm
       refine lx_cut 11 (fun a w => Slots a 48 [(1, (bp b49)), (9, v35), (10, (.int .i64 (a0.2.2.2.length : Int))), (11, (.int .i64 x115)), (19, (.bool (x182.2.1 == (0 : Int)))), (45, (.bool t220))] ∧ Heap w0 [bA b49 [(.int .i64 a0.1), (.int .i64 a0.2.1), v33, v35] 30] w) ?_ ?_
       ·by_cases hc222 : t204 = true
        ·have hm := ite_t hc222 e221
         refine lx_q (pAdd (bp b49) 3) S (want_b rfl rfl hc222) (by decide) (q_fieldAddr' 3 28 rfl (isP_bp _) Tryz.underlying30 rfl Tryz.sizeOf28) (fun a S => ?_)
         refine lx_q v35 S (want_b rfl rfl hc222) (by decide) (q_load1 rfl Tryz.isAgg28 (fun w1 hC => (At.of_add (m := 3) (j := 0) (boxAt (i := 1) hC rfl (j := 3) rfl)))) (fun a S => ?_)
         refine lx_q (.int .i64 x115) S (want_b rfl rfl hc222) (by decide) (q_move rfl) (fun a S => ?_)
         refine lx_q (.int .i64 (W (x115 - (1 : Int)))) S (want_b rfl rfl hc222) (by decide) (q_sub rfl rfl) (fun a S => ?_)
         obtain ⟨x223, e224, hm⟩ := bind_some hm
         obtain ⟨c225, h226, hat227⟩ := (h36).elem (idx_some e224).2
         obtain ⟨c228, c229, rfl, h230, h231⟩ := h226
         obtain rfl := h230
         obtain ⟨c232, c233, rfl, h234, h235⟩ := h231
         obtain rfl := h234
         obtain rfl := h235
         have hlt := lt_of_idx (idx_some e224).2
         refine lx_q (ePtr v35 ((W (x115 - (1 : Int))).toNat * 3)) S (want_b rfl rfl hc222) (by decide) (q_indexAddr rfl (h36).isSl rfl (idx_some e224).1 hlt Tryz.underlying28 Tryz.sizeOf72) (fun a S => ?_)
         refine lx_q (pAdd (ePtr v35 ((W (x115 - (1 : Int))).toNat * 3)) 1) S (want_b rfl rfl hc222) (by decide) (q_fieldAddr' 1 2 rfl ((hat227 0 _ rfl).isP) Tryz.underlying72 rfl Tryz.sizeOf2) (fun a S => ?_)
         refine lx_q (.int .i64 x223.2.1) S (want_b rfl rfl hc222) (by decide) (q_load1 rfl Tryz.isAgg2 (fun w1 hC => (At.of_add (m := 1) (j := 0) ((hat227 1 _ rfl).ext hC.ext)))) (fun a S => ?_)
         refine lx_q (pAdd (bp b195) 1) S (want_b rfl rfl hc222) (by decide) (q_fieldAddr' 1 2 rfl (isP_bp _) Tryz.underlying72 rfl Tryz.sizeOf2) (fun a S => ?_)
         refine lx_q (.int .i64 x182.2.1) S (want_b rfl rfl hc222) (by decide) (q_load1 rfl Tryz.isAgg2 (fun w1 hC => (At.of_add (m := 1) (j := 0) (boxAt (i := 0) hC rfl (j := 1) rfl)))) (fun a S => ?_)
         refine lx_q (.bool (x223.2.1 == x182.2.1)) S (want_b rfl rfl hc222) (by decide) (q_eql rfl rfl) (fun a S => ?_)
         refine lx_q (.bool (x223.2.1 == x182.2.1)) S (want_b rfl rfl hc203) (by decide) (q_pickT' rfl hc222 rfl) (fun a S => ?_)
         refine lx_nil ?_
         obtain rfl := Option.some.inj hm
         have H := H.sel [1] (by decide)
         exact ⟨S.sub ⟨rfl, rfl, rfl, rfl, rfl, rfl, trivial⟩, H⟩
        ·have hm := ite_f (eq_false_of_ne_true hc222) e221
         have hc222 : t204 = false := eq_false_of_ne_true hc222
         refine lx_skip S rfl rfl (isB_ne hc222) (by decide) (fun a S => ?_)
         refine lx_skip S rfl rfl (isB_ne hc222) (by decide) (fun a S => ?_)
         refine lx_skip S rfl rfl (isB_ne hc222) (by decide) (fun a S => ?_)
         refine lx_skip S rfl rfl (isB_ne hc222) (by decide) (fun a S => ?_)
         refine lx_skip S rfl rfl (isB_ne hc222) (by decide) (fun a S => ?_)
         refine lx_skip S rfl rfl (isB_ne hc222) (by decide) (fun a S => ?_)
         refine lx_skip S rfl rfl (isB_ne hc222) (by decide) (fun a S => ?_)
         refine lx_skip S rfl rfl (isB_ne hc222) (by decide) (fun a S => ?_)
         refine lx_skip S rfl rfl (isB_ne hc222) (by decide) (fun a S => ?_)
         refine lx_skip S rfl rfl (isB_ne hc222) (by decide) (fun a S => ?_)
         refine lx_q (.bool false) S (want_b rfl rfl hc203) (by decide) (q_pickF' rfl hc222 rfl) (fun a S => ?_)
         refine lx_nil ?_
         obtain rfl := Option.some.inj hm
         have H := H.sel [1] (by decide)
         exact ⟨S.sub ⟨rfl, rfl, rfl, rfl, rfl, rfl, trivial⟩, H⟩
       ·rintro a w ⟨S, H⟩
        refine lq (.bool t220) S (q_pickF' rfl hc203 rfl) fun a S => ?_
        refine lx_nil ?_
        obtain rfl := Option.some.inj hm
        exact ⟨S.sub ⟨rfl, rfl, rfl, rfl, rfl, trivial⟩, H⟩
    ·rintro a w ⟨S, H⟩
     refine lx_nil (thenN ?_)
     refine cond_b S rfl (fun hc236 => ?_) (fun hc236 => ?_)
     ·have hm := ite_t hc236 hm
      refine wp_seq (region_plain ?_)
      refine lq (.bool false) S (q_assign rfl) fun a S => ?_
      refine lx_nil (thenN ?_)
      refine wp_ret (inBlock_ret ?_)
      refine then_ret ?_
      refine then_ret ?_
      refine inBlock_ret ?_
      refine then_ret ?_
      refine then_ret ?_
      obtain rfl := it_brk hm hc180
      have hm := ctl_inr hk177
      obtain rfl := Option.some.inj hm
      have H : Heap w0 [] w := H.sel [] (by decide)
      exact leave1 S rfl rfl ⟨rfl, H⟩
     ·have hm := ite_f hc236 hm
      refine wp_skip ?_
      refine inBlock_norm ?_
      refine thenN ?_
      refine region_plain ?_
      refine lq (.int .i64 (W (x115 + (1 : Int)))) S (q_add rfl rfl) fun a S => ?_
      refine lq (.int .i64 (W (x115 + (1 : Int)))) S (q_move rfl) fun a S => ?_
      refine lx_nil ?_
      exact ⟨m178, Nat.lt_succ_self _, (W (x115 + (1 : Int))), S.sub ⟨rfl, rfl, rfl, rfl, trivial⟩, H, it_cont hm hc180⟩
   ·have hm := ite_f hc181 hm
    refine wp_exit ?_
    refine then_exit ?_
    refine then_exit ?_
    refine inBlock_exit ?_
    obtain rfl := it_brk hm hc180
    have H : Heap w0 [] w := H.sel [] (by decide)
    exact ⟨S.sub trivial, H, rfl⟩

/-- laws.FnExactIsDeterministicLts -/
def laws_FnExactIsDeterministicLts_m (fuel : Nat) (a0 : Tlaws_Lts) : Option (Bool) :=
  (laws_szLts_m fuel (a0.1, a0.2.1, a0.2.2.1, a0.2.2.2) (1048576 : Int)).bind fun x54 => (if (decide (x54 < (0 : Int))) = true then some (true) else (laws_toLts_m fuel (a0.1, a0.2.1, a0.2.2.1, a0.2.2.2)).bind fun x60 => (spec_IsDeterministicLts_m fuel (x60.1, x60.2.1, x60.2.2.1, x60.2.2.2)).bind fun x69 => (laws_toLts_m fuel (a0.1, a0.2.1, a0.2.2.1, a0.2.2.2)).bind fun x74 => (impl_IsDeterministicLts_m fuel (x74.1, x74.2.1, x74.2.2.1, x74.2.2.2)).bind fun x87 => (if (x87 != x69) = true then some (false) else (laws_toLts_m fuel (a0.1, a0.2.1, a0.2.2.1, a0.2.2.2)).bind fun x95 => (laws_eqLts_m fuel (x74.1, x74.2.1, x74.2.2.1, x74.2.2.2) (x95.1, x95.2.1, x95.2.2.1, x95.2.2.2)).bind fun x104 => (if (!x104) = true then some (false) else some (true))))
set_option maxRecDepth 20000 in
theorem laws_FnExactIsDeterministicLts_ok {w0 : World} {fuel : Nat} {p0 : Value} {a0 : Tlaws_Lts} {r : Bool} (hG : Glob Tryz.prog w0) (h0 : Rd Rlaws_Lts w0 p0 a0) (hm : laws_FnExactIsDeterministicLts_m fuel a0 = some r) :
  Calls Tryz.prog 4 #[p0] w0 fun e w => e = .returned (.bool r) ∧ Heap w0 [] w := by
 unfold laws_FnExactIsDeterministicLts_m at hm
 have H := Heap.start w0
 obtain ⟨c31, rfl, h32⟩ := h0
 obtain ⟨c37, c38, rfl, h39, h40⟩ := h32
 obtain rfl := h39
 obtain ⟨c41, c42, rfl, h43, h44⟩ := h40
 obtain rfl := h43
 obtain ⟨c45, c46, rfl, h47, h48⟩ := h44
 obtain ⟨v33, rfl, h34⟩ := rd_list h47
 obtain ⟨v35, rfl, h36⟩ := rd_list h48
 refine enter (args := [(.agg #[(.int .i64 a0.1), (.int .i64 a0.2.1), v33, v35])]) Tryz.func4 rfl 27 rfl (Nat.le_of_ble_eq_true rfl) (fun a S => ?_)
 refine wp_seq (region_plain ?_)
 refine lx_box S trivial (by decide) rfl H rfl rfl (fun b49 w50 H => ⟨trivial, fun a S => ?_⟩)
 refine lq (.bool false) S (q_assign rfl) fun a S => ?_
 refine lx_nil (thenN ?_)
 refine wp_seq (region_plain ?_)
 refine lq (.int .i64 (1048576 : Int)) S (q_assign rfl) fun a S => ?_
 refine lx_nil (thenN ?_)
 refine wp_seq (region_plain ?_)
 refine lx_e (.agg #[(.int .i64 a0.1), (.int .i64 a0.2.1), v33, v35]) S trivial (by decide) rfl trivial (q_loadA (cs := [(.int .i64 a0.1), (.int .i64 a0.2.1), v33, v35]) rfl (isP_bp _) Tryz.isAgg25 Tryz.sizeOf25 (by rintro _ rfl; exact (fun j u hu => boxAt (i := 0) H rfl hu))) (fun a S => ?_)
 refine lq (.int .i64 (1048576 : Int)) S (q_move rfl) fun a S => ?_
 obtain ⟨x54, e55, hm⟩ := bind_some hm
 refine lx_call (xs := [.tmp 7, .tmp 8]) S trivial (by decide) rfl rfl Tryz.call19 ((laws_szLts_ok ⟨[(.int .i64 a0.1), (.int .i64 a0.2.1), v33, v35], rfl, ⟨[(.int .i64 a0.1)], [(.int .i64 a0.2.1), v33, v35], rfl, rfl, ⟨[(.int .i64 a0.2.1)], [v33, v35], rfl, rfl, ⟨[v33], [v35], rfl, ((H.arg h34)).list_rd, ((H.arg h36)).list_rd⟩⟩⟩⟩  e55).mono ?_)
 rintro e w52 ⟨rfl, Hc53⟩
 have H := H.call0 Hc53
 refine ⟨_, rfl, trivial, fun a S => ?_⟩
 refine lq (.int .i64 x54) S (q_assign rfl) fun a S => ?_
 refine lx_nil (thenN ?_)
 refine wp_seq (wp_seq (region_plain ?_))
 refine lq (.int .i64 x54) S (q_move rfl) fun a S => ?_
 refine lq (.bool (decide (x54 < (0 : Int)))) S (q_lss rfl rfl) fun a S => ?_
 refine lx_nil (thenN ?_)
 refine cond_b S rfl (fun hc57 => ?_) (fun hc57 => ?_)
 ·have hm := ite_t hc57 hm
  refine wp_seq (region_plain ?_)
  refine lq (.bool true) S (q_assign rfl) fun a S => ?_
  refine lx_nil (thenN ?_)
  refine wp_ret (then_ret ?_)
  obtain rfl := Option.some.inj hm
  have H : Heap w0 [] w52 := H.sel [] (by decide)
  exact leave1 S rfl rfl ⟨rfl, H⟩
 ·have hm := ite_f hc57 hm
  refine wp_skip (thenN ?_)
  refine wp_seq (region_plain ?_)
  refine lx_e (.agg #[(.int .i64 a0.1), (.int .i64 a0.2.1), v33, v35]) S trivial (by decide) rfl trivial (q_loadA (cs := [(.int .i64 a0.1), (.int .i64 a0.2.1), v33, v35]) rfl (isP_bp _) Tryz.isAgg25 Tryz.sizeOf25 (by rintro _ rfl; exact (fun j u hu => boxAt (i := 0) H rfl hu))) (fun a S => ?_)
  obtain ⟨x60, e61, hm⟩ := bind_some hm
  refine lx_call (xs := [.tmp 12]) S trivial (by decide) rfl rfl Tryz.call21 ((laws_toLts_ok ⟨[(.int .i64 a0.1), (.int .i64 a0.2.1), v33, v35], rfl, ⟨[(.int .i64 a0.1)], [(.int .i64 a0.2.1), v33, v35], rfl, rfl, ⟨[(.int .i64 a0.2.1)], [v33, v35], rfl, rfl, ⟨[v33], [v35], rfl, ((H.arg h34)).list_rd, ((H.arg h36)).list_rd⟩⟩⟩⟩ e61).mono ?_)
  rintro e w58 ⟨v62, v63, rfl, Hc59⟩
  have H := H.call2 Hc59
  refine ⟨_, rfl, trivial, fun a S => ?_⟩
  obtain ⟨x69, e70, hm⟩ := bind_some hm
  refine lx_call (xs := [.tmp 13]) S trivial (by decide) rfl rfl Tryz.call24 ((spec_IsDeterministicLts_ok ⟨[(.int .i64 x60.1), (.int .i64 x60.2.1), v62, v63], rfl, ⟨[(.int .i64 x60.1)], [(.int .i64 x60.2.1), v62, v63], rfl, rfl, ⟨[(.int .i64 x60.2.1)], [v62, v63], rfl, rfl, ⟨[v62], [v63], rfl, ((H.rdAt 0 rfl)).list_rd, ((H.rdAt 1 rfl)).list_rd⟩⟩⟩⟩ e70).mono ?_)
  rintro e w67 ⟨rfl, Hc68⟩
  have H := H.call0 Hc68
  refine ⟨_, rfl, trivial, fun a S => ?_⟩
  refine lq (.bool x69) S (q_assign rfl) fun a S => ?_
  refine lx_nil (thenN ?_)
  refine wp_seq (region_plain ?_)
  refine lx_e (.agg #[(.int .i64 a0.1), (.int .i64 a0.2.1), v33, v35]) S trivial (by decide) rfl trivial (q_loadA (cs := [(.int .i64 a0.1), (.int .i64 a0.2.1), v33, v35]) rfl (isP_bp _) Tryz.isAgg25 Tryz.sizeOf25 (by rintro _ rfl; exact (fun j u hu => boxAt (i := 2) H rfl hu))) (fun a S => ?_)
  obtain ⟨x74, e75, hm⟩ := bind_some hm
  refine lx_call (xs := [.tmp 15]) S trivial (by decide) rfl rfl Tryz.call21 ((laws_toLts_ok ⟨[(.int .i64 a0.1), (.int .i64 a0.2.1), v33, v35], rfl, ⟨[(.int .i64 a0.1)], [(.int .i64 a0.2.1), v33, v35], rfl, rfl, ⟨[(.int .i64 a0.2.1)], [v33, v35], rfl, rfl, ⟨[v33], [v35], rfl, ((H.arg h34)).list_rd, ((H.arg h36)).list_rd⟩⟩⟩⟩ e75).mono ?_)
  rintro e w72 ⟨v76, v77, rfl, Hc73⟩
  have H := H.call2 Hc73
  refine ⟨_, rfl, trivial, fun a S => ?_⟩
  refine lx_alloc S trivial (by decide) rfl H Tryz.zeroValue30 rfl (fun b81 w82 H => ⟨trivial, fun a S => ?_⟩)
  refine lx_storeBox (o := 0) (i := 0) (us := [(.int .i64 x74.1), (.int .i64 x74.2.1), v76, v77]) (cs' := [(.int .i64 x74.1), (.int .i64 x74.2.1), v76, v77]) S trivial rfl H rfl rfl rfl rfl Tryz.sizeOf30 (Nat.le_of_ble_eq_true rfl) (List.forall_mem_cons.2 ⟨rfl, (List.forall_mem_cons.2 ⟨rfl, (List.forall_mem_cons.2 ⟨one_sl (H.isSl 1 rfl), (List.forall_mem_cons.2 ⟨one_sl (H.isSl 2 rfl), (fun _ h => nomatch h)⟩)⟩)⟩)⟩) rfl (fun w84 H => ⟨trivial, fun a S => ?_⟩)
  change Heap w0 [bA b81 [(.int .i64 x74.1), (.int .i64 x74.2.1), v76, v77] 30, oA (rList rStr) v76 x74.2.2.1, oA (rList Rimpl_Edge) v77 x74.2.2.2, oA (rList rStr) v62 x60.2.2.1, oA (rList Rimpl_Edge) v63 x60.2.2.2, bA b49 [(.int .i64 a0.1), (.int .i64 a0.2.1), v33, v35] 25] w84 at H
  refine lx_nil (thenN ?_)
  refine wp_seq (region_plain ?_)
  refine lx_e (.agg #[(.int .i64 x74.1), (.int .i64 x74.2.1), v76, v77]) S trivial (by decide) rfl trivial (q_loadA (cs := [(.int .i64 x74.1), (.int .i64 x74.2.1), v76, v77]) rfl (isP_bp _) Tryz.isAgg30 Tryz.sizeOf30 (by rintro _ rfl; exact (fun j u hu => boxAt (i := 0) H rfl hu))) (fun a S => ?_)
  obtain ⟨x87, e88, hm⟩ := bind_some hm
  refine lx_call (xs := [.tmp 17]) S trivial (by decide) rfl rfl Tryz.call25 ((impl_IsDeterministicLts_ok (hG.ext H.ext) ⟨[(.int .i64 x74.1), (.int .i64 x74.2.1), v76, v77], rfl, ⟨[(.int .i64 x74.1)], [(.int .i64 x74.2.1), v76, v77], rfl, rfl, ⟨[(.int .i64 x74.2.1)], [v76, v77], rfl, rfl, ⟨[v76], [v77], rfl, ((H.rdAt 1 rfl)).list_rd, ((H.rdAt 2 rfl)).list_rd⟩⟩⟩⟩ e88).mono ?_)
  rintro e w85 ⟨rfl, Hc86⟩
  have H := H.call0 Hc86
  refine ⟨_, rfl, trivial, fun a S => ?_⟩
  refine lq (.bool x87) S (q_assign rfl) fun a S => ?_
  refine lx_nil (thenN ?_)
  refine wp_seq (wp_seq (region_plain ?_))
  refine lq (.bool x87) S (q_move rfl) fun a S => ?_
  refine lq (.bool x69) S (q_move rfl) fun a S => ?_
  refine lq (.bool (x87 != x69)) S (q_bneq rfl rfl Tryz.underlying4) fun a S => ?_
  refine lx_nil (thenN ?_)
  refine cond_b S rfl (fun hc90 => ?_) (fun hc90 => ?_)
  ·have hm := ite_t hc90 hm
   refine wp_seq (region_plain ?_)
   refine lq (.bool false) S (q_assign rfl) fun a S => ?_
   refine lx_nil (thenN ?_)
   refine wp_ret (then_ret ?_)
   obtain rfl := Option.some.inj hm
   have H : Heap w0 [] w85 := H.sel [] (by decide)
   exact leave1 S rfl rfl ⟨rfl, H⟩
  ·have hm := ite_f hc90 hm
   refine wp_skip (thenN ?_)
   refine wp_seq ?_
   refine wp_seq ?_
   refine region_drawG (fun w1 => Heap w0 [bA b81 [(.int .i64 x74.1), (.int .i64 x74.2.1), v76, v77] 30, bA b49 [(.int .i64 a0.1), (.int .i64 a0.2.1), v33, v35] 25] w1) (fun i => [2, 3].contains i) mixed (by kernel_rfl) (fun w92 he91 => ?_)
   have H := H.later he91
   refine ⟨H.sel [0, 5] (by decide), ?_⟩
   refine lq (.agg #[(.int .i64 x74.1), (.int .i64 x74.2.1), v76, v77]) S (q_loadA (cs := [(.int .i64 x74.1), (.int .i64 x74.2.1), v76, v77]) rfl (isP_bp _) Tryz.isAgg30 Tryz.sizeOf30 (fun w1 hC => (fun j u hu => boxAt (i := 0) hC rfl hu))) fun a S => ?_
   refine lq (.agg #[(.int .i64 a0.1), (.int .i64 a0.2.1), v33, v35]) S (q_loadA (cs := [(.int .i64 a0.1), (.int .i64 a0.2.1), v33, v35]) rfl (isP_bp _) Tryz.isAgg25 Tryz.sizeOf25 (fun w1 hC => (fun j u hu => boxAt (i := 1) hC rfl hu))) fun a S => ?_
   obtain ⟨x95, e96, hm⟩ := bind_some hm
   refine lx_call (xs := [.tmp 23]) S trivial (by decide) rfl rfl Tryz.call21 ((laws_toLts_ok ⟨[(.int .i64 a0.1), (.int .i64 a0.2.1), v33, v35], rfl, ⟨[(.int .i64 a0.1)], [(.int .i64 a0.2.1), v33, v35], rfl, rfl, ⟨[(.int .i64 a0.2.1)], [v33, v35], rfl, rfl, ⟨[v33], [v35], rfl, ((H.arg h34)).list_rd, ((H.arg h36)).list_rd⟩⟩⟩⟩ e96).mono ?_)
   rintro e w93 ⟨v97, v98, rfl, Hc94⟩
   have H := H.call2 Hc94
   refine ⟨_, rfl, H.sel [2, 7] (by decide), fun a S => ?_⟩
   obtain ⟨x104, e105, hm⟩ := bind_some hm
   refine lx_call (xs := [.tmp 22, .tmp 24]) S trivial (by decide) rfl rfl Tryz.call23 ((laws_eqLts_ok ⟨[(.int .i64 x74.1), (.int .i64 x74.2.1), v76, v77], rfl, ⟨[(.int .i64 x74.1)], [(.int .i64 x74.2.1), v76, v77], rfl, rfl, ⟨[(.int .i64 x74.2.1)], [v76, v77], rfl, rfl, ⟨[v76], [v77], rfl, ((H.rdAt 3 rfl)).list_rd, ((H.rdAt 4 rfl)).list_rd⟩⟩⟩⟩ ⟨[(.int .i64 x95.1), (.int .i64 x95.2.1), v97, v98], rfl, ⟨[(.int .i64 x95.1)], [(.int .i64 x95.2.1), v97, v98], rfl, rfl, ⟨[(.int .i64 x95.2.1)], [v97, v98], rfl, rfl, ⟨[v97], [v98], rfl, ((H.rdAt 0 rfl)).list_rd, ((H.rdAt 1 rfl)).list_rd⟩⟩⟩⟩ e105).mono ?_)
   rintro e w102 ⟨rfl, Hc103⟩
   have H := H.call0 Hc103
   refine ⟨_, rfl, H.sel [2, 7] (by decide), fun a S => ?_⟩
   refine lq (.bool (!x104)) S (q_not rfl) fun a S => ?_
   refine lx_nil (thenN ?_)
   refine cond_b S rfl (fun hc107 => ?_) (fun hc107 => ?_)
   ·have hm := ite_t hc107 hm
    refine wp_seq (region_plain ?_)
    refine lq (.bool false) S (q_assign rfl) fun a S => ?_
    refine lx_nil (thenN ?_)
    refine wp_ret (then_ret ?_)
    obtain rfl := Option.some.inj hm
    have H : Heap w0 [] w102 := H.sel [] (by decide)
    exact leave1 S rfl rfl ⟨rfl, H⟩
   ·have hm := ite_f hc107 hm
    refine wp_skip (thenN ?_)
    refine wp_seq (region_plain ?_)
    refine lq (.bool true) S (q_assign rfl) fun a S => ?_
    refine lx_nil (thenN ?_)
    refine wp_ret ?_
    obtain rfl := Option.some.inj hm
    have H : Heap w0 [] w102 := H.sel [] (by decide)
    exact leave1 S rfl rfl ⟨rfl, H⟩
end Go.Proofs.YtkgkfbmcnchdbaaGreatDoor
