/- The models of some functions and their walks (printed by a program of this repo). -/
import Derived.Test.YtalcdoidimmdlaaGreatDoorF0
import Derived.Test.YtalcdoidimmdlaaGreatDoorF1
import Derived.Test.YtalcdoidimmdlaaGreatDoorFS
import Derived.Test.YtalcdoidimmdlaaGreatDoorGxT
import Derived.Test.YtalcdoidimmdlaaGreatDoorGxY
namespace Go.Proofs.YtalcdoidimmdlaaGreatDoor
open Go.RowKit Go.Gx

/-- spec.l14Shape -/
def spec_l14Shape_m (fuel : Nat) (a0 : (List Timpl_Node)) (a1 : Int) (a2 : Int) : Option (Bool) :=
  (if (decide ((a0.length : Int) < (1 : Int))) = true then some true else some (decide (a1 < (a0.length : Int)))).bind fun t31 => (if t31 = true then some (false) else (iter (fun (s : (Int) × (Int)) => (match s with | (x192, x193) => (if (decide (x193 < (a0.length : Int))) = true then (if (x192 == (0 : Int)) = true then some true else (idx a0 x193).bind fun x364 => (spec_l00In_m fuel x364.1 (0 : Int) a2).bind fun x383 => some (!x383)).bind fun t361 => (if t361 = true then some (.inr (.inr false)) else (idx a0 x193).bind fun x387 => (spec_l14Arity_m fuel x387.1).bind fun x406 => (idx a0 x193).bind fun x409 => (if (x409.1 == (4 : Int)) = true then some true else (idx a0 x193).bind fun x429 => some (x429.1 == (5 : Int))).bind fun t426 => (if t426 = true then (idx a0 x193).bind fun x449 => (spec_l14Pattern_m fuel x449.2.2.1).bind fun x468 => some (!x468) else some false).bind fun t446 => (if t446 = true then some true else (if (!t426) = true then (idx a0 x193).bind fun x477 => (if (x477.2.2.1 != ([] : Str)) = true then some true else (idx a0 x193).bind fun x497 => some x497.2.2.2).bind fun t494 => some t494 else some false).bind fun t474 => some t474).bind fun t471 => (if t471 = true then some (.inr (.inr false)) else some (.inl ((W (x192 + (W (x406 - (1 : Int))))), (W (x193 + (1 : Int))))))) else some (.inr (.inl (x192)))) : Option (((Int) × (Int)) ⊕ ((Int) ⊕ (Bool))))) fuel ((1 : Int), (0 : Int))).bind fun res352 => ctl (β := Int) (ρ := Bool) (τ := Bool) res352 (fun (x351) => some ((x351 == (0 : Int)))) (fun q => some (q)))
set_option maxRecDepth 20000 in
theorem spec_l14Shape_ok {w0 : World} {fuel : Nat} {p0 : Value} {a0 : (List Timpl_Node)} {a1 : Int} {a2 : Int} {r : Bool} (h0 : Rd (rList Rimpl_Node) w0 p0 a0) (hm : spec_l14Shape_m fuel a0 a1 a2 = some r) :
  Calls Tryz.prog 66 #[p0, .int .i64 a1, .int .i64 a2] w0 fun e w => e = .returned (.bool r) ∧ Heap w0 [] w := by
 unfold spec_l14Shape_m at hm
 have H := Heap.start w0
 refine enter (args := [p0, .int .i64 a1, .int .i64 a2]) Tryz.func66 rfl 91 rfl (Nat.le_of_ble_eq_true rfl) (fun a S => ?_)
 refine wp_seq (region_plain ?_)
 refine lq (.bool false) S (q_assign rfl) fun a S => ?_
 refine lx_nil (thenN ?_)
 refine wp_seq (wp_seq (region_plain ?_))
 refine lq p0 S (q_move rfl) fun a S => ?_
 refine lq (.int .i64 (a0.length : Int)) S (q_lenSl rfl (h0).isSl rfl Tryz.underlying26) fun a S => ?_
 refine lq (.bool (decide ((a0.length : Int) < (1 : Int)))) S (q_lss rfl rfl) fun a S => ?_
 refine lq (.bool (decide ((a0.length : Int) < (1 : Int)))) S (q_move rfl) fun a S => ?_
 obtain ⟨t31, e32, hm⟩ := bind_some hm
 refine lx_cut 5 (fun a w => Slots a 91 [(0, p0), (2, (.int .i64 a2)), (18, (.bool t31))] ∧ Heap w0 [] w) ?_ ?_
 ·by_cases hc33 : (decide ((a0.length : Int) < (1 : Int))) = true
  ·have hm := ite_t hc33 e32
   refine lx_skip S rfl rfl (isB_ne hc33) (by decide) (fun a S => ?_)
   refine lx_skip S rfl rfl (isB_ne hc33) (by decide) (fun a S => ?_)
   refine lx_skip S rfl rfl (isB_ne hc33) (by decide) (fun a S => ?_)
   refine lx_skip S rfl rfl (isB_ne hc33) (by decide) (fun a S => ?_)
   refine lq (.bool true) S (q_pickT' rfl hc33 rfl) fun a S => ?_
   refine lx_nil ?_
   obtain rfl := Option.some.inj hm
   exact ⟨S.sub ⟨rfl, rfl, rfl, trivial⟩, H⟩
  ·have hm := ite_f (eq_false_of_ne_true hc33) e32
   have hc33 : (decide ((a0.length : Int) < (1 : Int))) = false := eq_false_of_ne_true hc33
   refine lx_q p0 S (want_b rfl rfl hc33) (by decide) (q_move rfl) (fun a S => ?_)
   refine lx_q (.int .i64 (a0.length : Int)) S (want_b rfl rfl hc33) (by decide) (q_lenSl rfl (h0).isSl rfl Tryz.underlying26) (fun a S => ?_)
   refine lx_q (.int .i64 a1) S (want_b rfl rfl hc33) (by decide) (q_move rfl) (fun a S => ?_)
   refine lx_q (.bool (decide (a1 < (a0.length : Int)))) S (want_b rfl rfl hc33) (by decide) (q_gtr rfl rfl) (fun a S => ?_)
   refine lq (.bool (decide (a1 < (a0.length : Int)))) S (q_pickF' rfl hc33 rfl) fun a S => ?_
   refine lx_nil ?_
   obtain rfl := Option.some.inj hm
   exact ⟨S.sub ⟨rfl, rfl, rfl, trivial⟩, H⟩
 ·rintro a w ⟨S, H⟩
  refine lx_nil (thenN ?_)
  refine cond_b S rfl (fun hc34 => ?_) (fun hc34 => ?_)
  ·have hm := ite_t hc34 hm
   refine wp_seq (region_plain ?_)
   refine lq (.bool false) S (q_assign rfl) fun a S => ?_
   refine lx_nil (thenN ?_)
   refine wp_ret (then_ret ?_)
   obtain rfl := Option.some.inj hm
   exact leave1 S rfl rfl ⟨rfl, H⟩
  ·have hm := ite_f hc34 hm
   refine wp_skip (thenN ?_)
   refine wp_seq (region_plain ?_)
   refine lq (.int .i64 (1 : Int)) S (q_assign rfl) fun a S => ?_
   refine lx_nil (thenN ?_)
   refine wp_seq (wp_seq (region_plain ?_))
   refine lq (.int .i64 (0 : Int)) S (q_assign rfl) fun a S => ?_
   refine lx_nil (thenN ?_)
   obtain ⟨res352, hit353, hk356⟩ := bind_some hm
   obtain ⟨f354, hf355, hit353⟩ := iter_name hit353
   refine block_loop (fun a w => ∃ (x351 : Int), Slots a 91 [(7, (.int .i64 x351))] ∧ Heap w0 [] w ∧ res352 = .inl (x351)) ?_ ?_
   ·rintro a w ⟨x351, S, H, rfl⟩
    have hm := ctl_inl hk356
    refine thenN ?_
    refine wp_seq (region_plain ?_)
    refine lq (.int .i64 x351) S (q_move rfl) fun a S => ?_
    refine lq (.bool (x351 == (0 : Int))) S (q_eql rfl rfl) fun a S => ?_
    refine lq (.bool (x351 == (0 : Int))) S (q_assign rfl) fun a S => ?_
    refine lx_nil (thenN ?_)
    refine wp_ret ?_
    obtain rfl := Option.some.inj hm
    exact leave1 S rfl rfl ⟨rfl, H⟩
   ·skip
    refine loop_ghost (fun n a w => ∃ (x192 : Int) (x193 : Int), Slots a 91 [(0, p0), (2, (.int .i64 a2)), (7, (.int .i64 x192)), (8, (.int .i64 x193))] ∧ Heap w0 [] w ∧ iter f354 n (x192, x193) = some res352) _ ⟨(1 : Int), (0 : Int), S.sub ⟨rfl, rfl, rfl, rfl, trivial⟩, H, hit353⟩ ?_
    rintro n a w ⟨x192, x193, S, H, hit353⟩
    obtain ⟨m357, o358, rfl, hm, hc359⟩ := iter_step hit353
    rw [hf355] at hm
    refine wp_seq (wp_seq (region_plain ?_))
    refine lq (.int .i64 x193) S (q_move rfl) fun a S => ?_
    refine lq p0 S (q_move rfl) fun a S => ?_
    refine lq (.int .i64 (a0.length : Int)) S (q_lenSl rfl (h0).isSl rfl Tryz.underlying26) fun a S => ?_
    refine lq (.bool (decide (x193 < (a0.length : Int)))) S (q_lss rfl rfl) fun a S => ?_
    refine lx_nil (thenN ?_)
    refine cond_b S rfl (fun hc360 => ?_) (fun hc360 => ?_)
    ·have hm := ite_t hc360 hm
     refine wp_skip (thenN ?_)
     refine wp_seq ?_
     refine wp_block ?_
     refine wp_seq (wp_seq (region_plain ?_))
     refine lq (.int .i64 x192) S (q_move rfl) fun a S => ?_
     refine lq (.bool (x192 == (0 : Int))) S (q_eql rfl rfl) fun a S => ?_
     refine lq (.bool (x192 == (0 : Int))) S (q_move rfl) fun a S => ?_
     obtain ⟨t361, e362, hm⟩ := bind_some hm
     refine lx_cut 9 (fun a w => Slots a 91 [(0, p0), (2, (.int .i64 a2)), (7, (.int .i64 x192)), (8, (.int .i64 x193)), (36, (.bool t361))] ∧ Heap w0 [] w) ?_ ?_
     ·by_cases hc363 : (x192 == (0 : Int)) = true
      ·have hm := ite_t hc363 e362
       refine lx_skip S rfl rfl (isB_ne hc363) (by decide) (fun a S => ?_)
       refine lx_skip S rfl rfl (isB_ne hc363) (by decide) (fun a S => ?_)
       refine lx_skip S rfl rfl (isB_ne hc363) (by decide) (fun a S => ?_)
       refine lx_skip S rfl rfl (isB_ne hc363) (by decide) (fun a S => ?_)
       refine lx_skip S rfl rfl (isB_ne hc363) (by decide) (fun a S => ?_)
       refine lx_skip S rfl rfl (isB_ne hc363) (by decide) (fun a S => ?_)
       refine lx_skip S rfl rfl (isB_ne hc363) (by decide) (fun a S => ?_)
       refine lx_skip S rfl rfl (isB_ne hc363) (by decide) (fun a S => ?_)
       refine lq (.bool true) S (q_pickT' rfl hc363 rfl) fun a S => ?_
       refine lx_nil ?_
       obtain rfl := Option.some.inj hm
       exact ⟨S.sub ⟨rfl, rfl, rfl, rfl, rfl, trivial⟩, H⟩
      ·have hm := ite_f (eq_false_of_ne_true hc363) e362
       have hc363 : (x192 == (0 : Int)) = false := eq_false_of_ne_true hc363
       refine lx_q p0 S (want_b rfl rfl hc363) (by decide) (q_move rfl) (fun a S => ?_)
       refine lx_q (.int .i64 x193) S (want_b rfl rfl hc363) (by decide) (q_move rfl) (fun a S => ?_)
       obtain ⟨x364, e365, hm⟩ := bind_some hm
       obtain ⟨c366, h367, hat368⟩ := (h0).elem (idx_some e365).2
       obtain ⟨c369, c370, rfl, h371, h372⟩ := h367
       obtain rfl := h371
       obtain ⟨c373, c374, rfl, h375, h376⟩ := h372
       obtain rfl := h375
       obtain ⟨c377, c378, rfl, h379, h380⟩ := h376
       obtain rfl := h379
       obtain rfl := h380
       have hlt := lt_of_idx (idx_some e365).2
       refine lx_q (ePtr p0 (x193.toNat * 4)) S (want_b rfl rfl hc363) (by decide) (q_indexAddr rfl (h0).isSl rfl (idx_some e365).1 hlt Tryz.underlying26 Tryz.sizeOf57) (fun a S => ?_)
       refine lx_q (pAdd (ePtr p0 (x193.toNat * 4)) 0) S (want_b rfl rfl hc363) (by decide) (q_fieldAddr' 0 2 rfl ((hat368 0 _ rfl).isP) Tryz.underlying57 rfl Tryz.sizeOf2) (fun a S => ?_)
       refine lx_e (.int .i64 x364.1) S (want_b rfl rfl hc363) (by decide) rfl trivial (q_load1 rfl Tryz.isAgg2 (by rintro _ rfl; exact (At.of_add (m := 0) (j := 0) ((hat368 0 _ rfl).ext H.ext)))) (fun a S => ?_)
       refine lx_q (.int .i64 a2) S (want_b rfl rfl hc363) (by decide) (q_move rfl) (fun a S => ?_)
       obtain ⟨x383, e384, hm⟩ := bind_some hm
       refine lx_call (xs := [.tmp 32, .const (.int .i64 (0)), .tmp 33]) S (want_b rfl rfl hc363) (by decide) rfl rfl Tryz.call42 ((spec_l00In_ok    e384).mono ?_)
       rintro e w381 ⟨rfl, Hc382⟩
       have H := H.call0 Hc382
       refine ⟨_, rfl, trivial, fun a S => ?_⟩
       refine lx_q (.bool (!x383)) S (want_b rfl rfl hc363) (by decide) (q_not rfl) (fun a S => ?_)
       refine lq (.bool (!x383)) S (q_pickF' rfl hc363 rfl) fun a S => ?_
       refine lx_nil ?_
       obtain rfl := Option.some.inj hm
       exact ⟨S.sub ⟨rfl, rfl, rfl, rfl, rfl, trivial⟩, H⟩
     ·rintro a w ⟨S, H⟩
      refine lx_nil (thenN ?_)
      refine cond_b S rfl (fun hc386 => ?_) (fun hc386 => ?_)
      ·have hm := ite_t hc386 hm
       refine wp_seq (region_plain ?_)
       refine lq (.bool false) S (q_assign rfl) fun a S => ?_
       refine lx_nil (thenN ?_)
       refine wp_ret (then_ret ?_)
       refine inBlock_ret ?_
       refine then_ret ?_
       refine then_ret ?_
       refine inBlock_ret ?_
       refine then_ret ?_
       refine then_ret ?_
       obtain rfl := it_brk hm hc359
       have hm := ctl_inr hk356
       obtain rfl := Option.some.inj hm
       exact leave1 S rfl rfl ⟨rfl, H⟩
      ·have hm := ite_f hc386 hm
       refine wp_skip (thenN ?_)
       refine wp_seq (region_plain ?_)
       refine lq (.int .i64 x192) S (q_move rfl) fun a S => ?_
       refine lq p0 S (q_move rfl) fun a S => ?_
       refine lq (.int .i64 x193) S (q_move rfl) fun a S => ?_
       obtain ⟨x387, e388, hm⟩ := bind_some hm
       obtain ⟨c389, h390, hat391⟩ := (h0).elem (idx_some e388).2
       obtain ⟨c392, c393, rfl, h394, h395⟩ := h390
       obtain rfl := h394
       obtain ⟨c396, c397, rfl, h398, h399⟩ := h395
       obtain rfl := h398
       obtain ⟨c400, c401, rfl, h402, h403⟩ := h399
       obtain rfl := h402
       obtain rfl := h403
       have hlt := lt_of_idx (idx_some e388).2
       refine lq (ePtr p0 (x193.toNat * 4)) S (q_indexAddr rfl (h0).isSl rfl (idx_some e388).1 hlt Tryz.underlying26 Tryz.sizeOf57) fun a S => ?_
       refine lq (pAdd (ePtr p0 (x193.toNat * 4)) 0) S (q_fieldAddr' 0 2 rfl ((hat391 0 _ rfl).isP) Tryz.underlying57 rfl Tryz.sizeOf2) fun a S => ?_
       refine lx_e (.int .i64 x387.1) S trivial (by decide) rfl trivial (q_load1 rfl Tryz.isAgg2 (by rintro _ rfl; exact (At.of_add (m := 0) (j := 0) ((hat391 0 _ rfl).ext H.ext)))) (fun a S => ?_)
       obtain ⟨x406, e407, hm⟩ := bind_some hm
       refine lx_call (xs := [.tmp 42]) S trivial (by decide) rfl rfl Tryz.call60 ((spec_l14Arity_ok  e407).mono ?_)
       rintro e w404 ⟨rfl, Hc405⟩
       have H := H.call0 Hc405
       refine ⟨_, rfl, trivial, fun a S => ?_⟩
       refine lq (.int .i64 (W (x406 - (1 : Int)))) S (q_sub rfl rfl) fun a S => ?_
       refine lq (.int .i64 (W (x192 + (W (x406 - (1 : Int)))))) S (q_add rfl rfl) fun a S => ?_
       refine lq (.int .i64 (W (x192 + (W (x406 - (1 : Int)))))) S (q_assign rfl) fun a S => ?_
       refine lx_nil (thenN ?_)
       refine wp_seq (region_plain ?_)
       refine lq p0 S (q_move rfl) fun a S => ?_
       refine lq (.int .i64 x193) S (q_move rfl) fun a S => ?_
       obtain ⟨x409, e410, hm⟩ := bind_some hm
       obtain ⟨c411, h412, hat413⟩ := (h0).elem (idx_some e410).2
       obtain ⟨c414, c415, rfl, h416, h417⟩ := h412
       obtain rfl := h416
       obtain ⟨c418, c419, rfl, h420, h421⟩ := h417
       obtain rfl := h420
       obtain ⟨c422, c423, rfl, h424, h425⟩ := h421
       obtain rfl := h424
       obtain rfl := h425
       have hlt := lt_of_idx (idx_some e410).2
       refine lq (ePtr p0 (x193.toNat * 4)) S (q_indexAddr rfl (h0).isSl rfl (idx_some e410).1 hlt Tryz.underlying26 Tryz.sizeOf57) fun a S => ?_
       refine lq (pAdd (ePtr p0 (x193.toNat * 4)) 0) S (q_fieldAddr' 0 2 rfl ((hat413 0 _ rfl).isP) Tryz.underlying57 rfl Tryz.sizeOf2) fun a S => ?_
       refine lx_e (.int .i64 x409.1) S trivial (by decide) rfl trivial (q_load1 rfl Tryz.isAgg2 (by rintro _ rfl; exact (At.of_add (m := 0) (j := 0) ((hat413 0 _ rfl).ext H.ext)))) (fun a S => ?_)
       refine lq (.bool (x409.1 == (4 : Int))) S (q_eql rfl rfl) fun a S => ?_
       refine lq (.bool (x409.1 == (4 : Int))) S (q_move rfl) fun a S => ?_
       obtain ⟨t426, e427, hm⟩ := bind_some hm
       refine lx_cut 7 (fun a w => Slots a 91 [(0, p0), (2, (.int .i64 a2)), (7, (.int .i64 (W (x192 + (W (x406 - (1 : Int))))))), (8, (.int .i64 x193)), (59, (.bool t426))] ∧ Heap w0 [] w) ?_ ?_
       ·by_cases hc428 : (x409.1 == (4 : Int)) = true
        ·have hm := ite_t hc428 e427
         refine lx_skip S rfl rfl (isB_ne hc428) (by decide) (fun a S => ?_)
         refine lx_skip S rfl rfl (isB_ne hc428) (by decide) (fun a S => ?_)
         refine lx_skip S rfl rfl (isB_ne hc428) (by decide) (fun a S => ?_)
         refine lx_skip S rfl rfl (isB_ne hc428) (by decide) (fun a S => ?_)
         refine lx_skip S rfl rfl (isB_ne hc428) (by decide) (fun a S => ?_)
         refine lx_skip S rfl rfl (isB_ne hc428) (by decide) (fun a S => ?_)
         refine lq (.bool true) S (q_pickT' rfl hc428 rfl) fun a S => ?_
         refine lx_nil ?_
         obtain rfl := Option.some.inj hm
         exact ⟨S.sub ⟨rfl, rfl, rfl, rfl, rfl, trivial⟩, H⟩
        ·have hm := ite_f (eq_false_of_ne_true hc428) e427
         have hc428 : (x409.1 == (4 : Int)) = false := eq_false_of_ne_true hc428
         refine lx_q p0 S (want_b rfl rfl hc428) (by decide) (q_move rfl) (fun a S => ?_)
         refine lx_q (.int .i64 x193) S (want_b rfl rfl hc428) (by decide) (q_move rfl) (fun a S => ?_)
         obtain ⟨x429, e430, hm⟩ := bind_some hm
         obtain ⟨c431, h432, hat433⟩ := (h0).elem (idx_some e430).2
         obtain ⟨c434, c435, rfl, h436, h437⟩ := h432
         obtain rfl := h436
         obtain ⟨c438, c439, rfl, h440, h441⟩ := h437
         obtain rfl := h440
         obtain ⟨c442, c443, rfl, h444, h445⟩ := h441
         obtain rfl := h444
         obtain rfl := h445
         have hlt := lt_of_idx (idx_some e430).2
         refine lx_q (ePtr p0 (x193.toNat * 4)) S (want_b rfl rfl hc428) (by decide) (q_indexAddr rfl (h0).isSl rfl (idx_some e430).1 hlt Tryz.underlying26 Tryz.sizeOf57) (fun a S => ?_)
         refine lx_q (pAdd (ePtr p0 (x193.toNat * 4)) 0) S (want_b rfl rfl hc428) (by decide) (q_fieldAddr' 0 2 rfl ((hat433 0 _ rfl).isP) Tryz.underlying57 rfl Tryz.sizeOf2) (fun a S => ?_)
         refine lx_e (.int .i64 x429.1) S (want_b rfl rfl hc428) (by decide) rfl trivial (q_load1 rfl Tryz.isAgg2 (by rintro _ rfl; exact (At.of_add (m := 0) (j := 0) ((hat433 0 _ rfl).ext H.ext)))) (fun a S => ?_)
         refine lx_q (.bool (x429.1 == (5 : Int))) S (want_b rfl rfl hc428) (by decide) (q_eql rfl rfl) (fun a S => ?_)
         refine lq (.bool (x429.1 == (5 : Int))) S (q_pickF' rfl hc428 rfl) fun a S => ?_
         refine lx_nil ?_
         obtain rfl := Option.some.inj hm
         exact ⟨S.sub ⟨rfl, rfl, rfl, rfl, rfl, trivial⟩, H⟩
       ·rintro a w ⟨S, H⟩
        refine lq (.bool t426) S (q_assign rfl) fun a S => ?_
        refine lx_nil (thenN ?_)
        refine wp_seq (region_plain ?_)
        refine lq (.bool t426) S (q_move rfl) fun a S => ?_
        refine lq (.bool t426) S (q_move rfl) fun a S => ?_
        obtain ⟨t446, e447, hm⟩ := bind_some hm
        refine lx_cut 8 (fun a w => Slots a 91 [(0, p0), (2, (.int .i64 a2)), (7, (.int .i64 (W (x192 + (W (x406 - (1 : Int))))))), (8, (.int .i64 x193)), (9, (.bool t426)), (69, (.bool t446))] ∧ Heap w0 [] w) ?_ ?_
        ·by_cases hc448 : t426 = true
         ·have hm := ite_t hc448 e447
          refine lx_q p0 S (want_b rfl rfl hc448) (by decide) (q_move rfl) (fun a S => ?_)
          refine lx_q (.int .i64 x193) S (want_b rfl rfl hc448) (by decide) (q_move rfl) (fun a S => ?_)
          obtain ⟨x449, e450, hm⟩ := bind_some hm
          obtain ⟨c451, h452, hat453⟩ := (h0).elem (idx_some e450).2
          obtain ⟨c454, c455, rfl, h456, h457⟩ := h452
          obtain rfl := h456
          obtain ⟨c458, c459, rfl, h460, h461⟩ := h457
          obtain rfl := h460
          obtain ⟨c462, c463, rfl, h464, h465⟩ := h461
          obtain rfl := h464
          obtain rfl := h465
          have hlt := lt_of_idx (idx_some e450).2
          refine lx_q (ePtr p0 (x193.toNat * 4)) S (want_b rfl rfl hc448) (by decide) (q_indexAddr rfl (h0).isSl rfl (idx_some e450).1 hlt Tryz.underlying26 Tryz.sizeOf57) (fun a S => ?_)
          refine lx_q (pAdd (ePtr p0 (x193.toNat * 4)) 2) S (want_b rfl rfl hc448) (by decide) (q_fieldAddr' 2 9 rfl ((hat453 0 _ rfl).isP) Tryz.underlying57 rfl Tryz.sizeOf9) (fun a S => ?_)
          refine lx_e (sv x449.2.2.1) S (want_b rfl rfl hc448) (by decide) rfl trivial (q_load1 rfl Tryz.isAgg9 (by rintro _ rfl; exact (At.of_add (m := 2) (j := 0) ((hat453 2 _ rfl).ext H.ext)))) (fun a S => ?_)
          obtain ⟨x468, e469, hm⟩ := bind_some hm
          refine lx_call (xs := [.tmp 66]) S (want_b rfl rfl hc448) (by decide) rfl rfl Tryz.call86 ((spec_l14Pattern_ok  e469).mono ?_)
          rintro e w466 ⟨rfl, Hc467⟩
          have H := H.call0 Hc467
          refine ⟨_, rfl, trivial, fun a S => ?_⟩
          refine lx_q (.bool (!x468)) S (want_b rfl rfl hc448) (by decide) (q_not rfl) (fun a S => ?_)
          refine lq (.bool (!x468)) S (q_pickT' rfl hc448 rfl) fun a S => ?_
          refine lx_nil ?_
          obtain rfl := Option.some.inj hm
          exact ⟨S.sub ⟨rfl, rfl, rfl, rfl, rfl, rfl, trivial⟩, H⟩
         ·have hm := ite_f (eq_false_of_ne_true hc448) e447
          have hc448 : t426 = false := eq_false_of_ne_true hc448
          refine lx_skip S rfl rfl (isB_ne hc448) (by decide) (fun a S => ?_)
          refine lx_skip S rfl rfl (isB_ne hc448) (by decide) (fun a S => ?_)
          refine lx_skip S rfl rfl (isB_ne hc448) (by decide) (fun a S => ?_)
          refine lx_skip S rfl rfl (isB_ne hc448) (by decide) (fun a S => ?_)
          refine lx_skip S rfl rfl (isB_ne hc448) (by decide) (fun a S => ?_)
          refine lx_skip S rfl rfl (isB_ne hc448) (by decide) (fun a S => ?_)
          refine lx_skip S rfl rfl (isB_ne hc448) (by decide) (fun a S => ?_)
          refine lq (.bool false) S (q_pickF' rfl hc448 rfl) fun a S => ?_
          refine lx_nil ?_
          obtain rfl := Option.some.inj hm
          exact ⟨S.sub ⟨rfl, rfl, rfl, rfl, rfl, rfl, trivial⟩, H⟩
        ·rintro a w ⟨S, H⟩
         refine lq (.bool t446) S (q_move rfl) fun a S => ?_
         obtain ⟨t471, e472, hm⟩ := bind_some hm
         refine lx_cut 18 (fun a w => Slots a 91 [(0, p0), (2, (.int .i64 a2)), (7, (.int .i64 (W (x192 + (W (x406 - (1 : Int))))))), (8, (.int .i64 x193)), (88, (.bool t471))] ∧ Heap w0 [] w) ?_ ?_
         ·by_cases hc473 : t446 = true
          ·have hm := ite_t hc473 e472
           refine lx_skip S rfl rfl (isB_ne hc473) (by decide) (fun a S => ?_)
           refine lx_skip S rfl rfl (isB_ne hc473) (by decide) (fun a S => ?_)
           refine lx_skip S rfl rfl (isB_ne hc473) (by decide) (fun a S => ?_)
           refine lx_skip S rfl rfl rfl (by decide) (fun a S => ?_)
           refine lx_skip S rfl rfl rfl (by decide) (fun a S => ?_)
           refine lx_skip S rfl rfl rfl (by decide) (fun a S => ?_)
           refine lx_skip S rfl rfl rfl (by decide) (fun a S => ?_)
           refine lx_skip S rfl rfl rfl (by decide) (fun a S => ?_)
           refine lx_skip S rfl rfl rfl (by decide) (fun a S => ?_)
           refine lx_skip S rfl rfl rfl (by decide) (fun a S => ?_)
           refine lx_skip S rfl rfl rfl (by decide) (fun a S => ?_)
           refine lx_skip S rfl rfl rfl (by decide) (fun a S => ?_)
           refine lx_skip S rfl rfl rfl (by decide) (fun a S => ?_)
           refine lx_skip S rfl rfl rfl (by decide) (fun a S => ?_)
           refine lx_skip S rfl rfl rfl (by decide) (fun a S => ?_)
           refine lx_skip S rfl rfl rfl (by decide) (fun a S => ?_)
           refine lx_skip S rfl rfl (isB_ne hc473) (by decide) (fun a S => ?_)
           refine lq (.bool true) S (q_pickT' rfl hc473 rfl) fun a S => ?_
           refine lx_nil ?_
           obtain rfl := Option.some.inj hm
           exact ⟨S.sub ⟨rfl, rfl, rfl, rfl, rfl, trivial⟩, H⟩
          ·have hm := ite_f (eq_false_of_ne_true hc473) e472
           have hc473 : t446 = false := eq_false_of_ne_true hc473
           refine lx_q (.bool t426) S (want_b rfl rfl hc473) (by decide) (q_move rfl) (fun a S => ?_)
           refine lx_q (.bool (!t426)) S (want_b rfl rfl hc473) (by decide) (q_not rfl) (fun a S => ?_)
           refine lx_q (.bool (!t426)) S (want_b rfl rfl hc473) (by decide) (q_move rfl) (fun a S => ?_)
           obtain ⟨t474, e475, hm⟩ := bind_some hm
           refine lx_cut 14 (fun a w => Slots a 91 [(0, p0), (2, (.int .i64 a2)), (7, (.int .i64 (W (x192 + (W (x406 - (1 : Int))))))), (8, (.int .i64 x193)), (70, (.bool t446)), (87, (.bool t474))] ∧ Heap w0 [] w) ?_ ?_
           ·by_cases hc476 : (!t426) = true
            ·have hm := ite_t hc476 e475
             refine lx_q p0 S (want_b rfl rfl hc476) (by decide) (q_move rfl) (fun a S => ?_)
             refine lx_q (.int .i64 x193) S (want_b rfl rfl hc476) (by decide) (q_move rfl) (fun a S => ?_)
             obtain ⟨x477, e478, hm⟩ := bind_some hm
             obtain ⟨c479, h480, hat481⟩ := (h0).elem (idx_some e478).2
             obtain ⟨c482, c483, rfl, h484, h485⟩ := h480
             obtain rfl := h484
             obtain ⟨c486, c487, rfl, h488, h489⟩ := h485
             obtain rfl := h488
             obtain ⟨c490, c491, rfl, h492, h493⟩ := h489
             obtain rfl := h492
             obtain rfl := h493
             have hlt := lt_of_idx (idx_some e478).2
             refine lx_q (ePtr p0 (x193.toNat * 4)) S (want_b rfl rfl hc476) (by decide) (q_indexAddr rfl (h0).isSl rfl (idx_some e478).1 hlt Tryz.underlying26 Tryz.sizeOf57) (fun a S => ?_)
             refine lx_q (pAdd (ePtr p0 (x193.toNat * 4)) 2) S (want_b rfl rfl hc476) (by decide) (q_fieldAddr' 2 9 rfl ((hat481 0 _ rfl).isP) Tryz.underlying57 rfl Tryz.sizeOf9) (fun a S => ?_)
             refine lx_e (sv x477.2.2.1) S (want_b rfl rfl hc476) (by decide) rfl trivial (q_load1 rfl Tryz.isAgg9 (by rintro _ rfl; exact (At.of_add (m := 2) (j := 0) ((hat481 2 _ rfl).ext H.ext)))) (fun a S => ?_)
             refine lx_q (.bool (x477.2.2.1 != ([] : Str))) S (want_b rfl rfl hc476) (by decide) (q_sneq rfl rfl) (fun a S => ?_)
             refine lx_q (.bool (x477.2.2.1 != ([] : Str))) S (want_b rfl rfl hc476) (by decide) (q_move rfl) (fun a S => ?_)
             obtain ⟨t494, e495, hm⟩ := bind_some hm
             refine lx_cut 6 (fun a w => Slots a 91 [(0, p0), (2, (.int .i64 a2)), (7, (.int .i64 (W (x192 + (W (x406 - (1 : Int))))))), (8, (.int .i64 x193)), (70, (.bool t446)), (73, (.bool (!t426))), (86, (.bool t494))] ∧ Heap w0 [] w) ?_ ?_
             ·by_cases hc496 : (x477.2.2.1 != ([] : Str)) = true
              ·have hm := ite_t hc496 e495
               refine lx_skip S rfl rfl (isB_ne hc496) (by decide) (fun a S => ?_)
               refine lx_skip S rfl rfl (isB_ne hc496) (by decide) (fun a S => ?_)
               refine lx_skip S rfl rfl (isB_ne hc496) (by decide) (fun a S => ?_)
               refine lx_skip S rfl rfl (isB_ne hc496) (by decide) (fun a S => ?_)
               refine lx_skip S rfl rfl (isB_ne hc496) (by decide) (fun a S => ?_)
               refine lx_q (.bool true) S (want_b rfl rfl hc476) (by decide) (q_pickT' rfl hc496 rfl) (fun a S => ?_)
               refine lx_nil ?_
               obtain rfl := Option.some.inj hm
               exact ⟨S.sub ⟨rfl, rfl, rfl, rfl, rfl, rfl, rfl, trivial⟩, H⟩
              ·have hm := ite_f (eq_false_of_ne_true hc496) e495
               have hc496 : (x477.2.2.1 != ([] : Str)) = false := eq_false_of_ne_true hc496
               refine lx_q p0 S (want_b rfl rfl hc496) (by decide) (q_move rfl) (fun a S => ?_)
               refine lx_q (.int .i64 x193) S (want_b rfl rfl hc496) (by decide) (q_move rfl) (fun a S => ?_)
               obtain ⟨x497, e498, hm⟩ := bind_some hm
               obtain ⟨c499, h500, hat501⟩ := (h0).elem (idx_some e498).2
               obtain ⟨c502, c503, rfl, h504, h505⟩ := h500
               obtain rfl := h504
               obtain ⟨c506, c507, rfl, h508, h509⟩ := h505
               obtain rfl := h508
               obtain ⟨c510, c511, rfl, h512, h513⟩ := h509
               obtain rfl := h512
               obtain rfl := h513
               have hlt := lt_of_idx (idx_some e498).2
               refine lx_q (ePtr p0 (x193.toNat * 4)) S (want_b rfl rfl hc496) (by decide) (q_indexAddr rfl (h0).isSl rfl (idx_some e498).1 hlt Tryz.underlying26 Tryz.sizeOf57) (fun a S => ?_)
               refine lx_q (pAdd (ePtr p0 (x193.toNat * 4)) 3) S (want_b rfl rfl hc496) (by decide) (q_fieldAddr' 3 4 rfl ((hat501 0 _ rfl).isP) Tryz.underlying57 rfl Tryz.sizeOf4) (fun a S => ?_)
               refine lx_e (.bool x497.2.2.2) S (want_b rfl rfl hc496) (by decide) rfl trivial (q_load1 rfl Tryz.isAgg4 (by rintro _ rfl; exact (At.of_add (m := 3) (j := 0) ((hat501 3 _ rfl).ext H.ext)))) (fun a S => ?_)
               refine lx_q (.bool x497.2.2.2) S (want_b rfl rfl hc476) (by decide) (q_pickF' rfl hc496 rfl) (fun a S => ?_)
               refine lx_nil ?_
               obtain rfl := Option.some.inj hm
               exact ⟨S.sub ⟨rfl, rfl, rfl, rfl, rfl, rfl, rfl, trivial⟩, H⟩
             ·rintro a w ⟨S, H⟩
              refine lx_q (.bool t494) S (want_b rfl rfl hc473) (by decide) (q_pickT' rfl hc476 rfl) (fun a S => ?_)
              refine lx_nil ?_
              obtain rfl := Option.some.inj hm
              exact ⟨S.sub ⟨rfl, rfl, rfl, rfl, rfl, rfl, trivial⟩, H⟩
            ·have hm := ite_f (eq_false_of_ne_true hc476) e475
             have hc476 : (!t426) = false := eq_false_of_ne_true hc476
             refine lx_skip S rfl rfl (isB_ne hc476) (by decide) (fun a S => ?_)
             refine lx_skip S rfl rfl (isB_ne hc476) (by decide) (fun a S => ?_)
             refine lx_skip S rfl rfl (isB_ne hc476) (by decide) (fun a S => ?_)
             refine lx_skip S rfl rfl (isB_ne hc476) (by decide) (fun a S => ?_)
             refine lx_skip S rfl rfl (isB_ne hc476) (by decide) (fun a S => ?_)
             refine lx_skip S rfl rfl (isB_ne hc476) (by decide) (fun a S => ?_)
             refine lx_skip S rfl rfl (isB_ne hc476) (by decide) (fun a S => ?_)
             refine lx_skip S rfl rfl rfl (by decide) (fun a S => ?_)
             refine lx_skip S rfl rfl rfl (by decide) (fun a S => ?_)
             refine lx_skip S rfl rfl rfl (by decide) (fun a S => ?_)
             refine lx_skip S rfl rfl rfl (by decide) (fun a S => ?_)
             refine lx_skip S rfl rfl rfl (by decide) (fun a S => ?_)
             refine lx_skip S rfl rfl (isB_ne hc476) (by decide) (fun a S => ?_)
             refine lx_q (.bool false) S (want_b rfl rfl hc473) (by decide) (q_pickF' rfl hc476 rfl) (fun a S => ?_)
             refine lx_nil ?_
             obtain rfl := Option.some.inj hm
             exact ⟨S.sub ⟨rfl, rfl, rfl, rfl, rfl, rfl, trivial⟩, H⟩
           ·rintro a w ⟨S, H⟩
            refine lq (.bool t474) S (q_pickF' rfl hc473 rfl) fun a S => ?_
            refine lx_nil ?_
            obtain rfl := Option.some.inj hm
            exact ⟨S.sub ⟨rfl, rfl, rfl, rfl, rfl, trivial⟩, H⟩
         ·rintro a w ⟨S, H⟩
          refine lx_nil (thenN ?_)
          refine cond_b S rfl (fun hc514 => ?_) (fun hc514 => ?_)
          ·have hm := ite_t hc514 hm
           refine wp_seq (region_plain ?_)
           refine lq (.bool false) S (q_assign rfl) fun a S => ?_
           refine lx_nil (thenN ?_)
           refine wp_ret (inBlock_ret ?_)
           refine then_ret ?_
           refine then_ret ?_
           refine inBlock_ret ?_
           refine then_ret ?_
           refine then_ret ?_
           obtain rfl := it_brk hm hc359
           have hm := ctl_inr hk356
           obtain rfl := Option.some.inj hm
           exact leave1 S rfl rfl ⟨rfl, H⟩
          ·have hm := ite_f hc514 hm
           refine wp_skip ?_
           refine inBlock_norm ?_
           refine thenN ?_
           refine region_plain ?_
           refine lq (.int .i64 x193) S (q_move rfl) fun a S => ?_
           refine lq (.int .i64 (W (x193 + (1 : Int)))) S (q_add rfl rfl) fun a S => ?_
           refine lq (.int .i64 (W (x193 + (1 : Int)))) S (q_assign rfl) fun a S => ?_
           refine lx_nil ?_
           exact ⟨m357, Nat.lt_succ_self _, (W (x192 + (W (x406 - (1 : Int))))), (W (x193 + (1 : Int))), S.sub ⟨rfl, rfl, rfl, rfl, trivial⟩, H, it_cont hm hc359⟩
    ·have hm := ite_f hc360 hm
     refine wp_exit ?_
     refine then_exit ?_
     refine then_exit ?_
     refine inBlock_exit ?_
     obtain rfl := it_brk hm hc359
     exact ⟨x192, S.sub ⟨rfl, trivial⟩, H, rfl⟩

/-- impl.within -/
def impl_within_m (_ : Nat) (a0 : Int) (a1 : Int) (a2 : Int) : Option (Bool) :=
  (if (decide (a1 ≤ a0)) = true then some (decide (a0 ≤ a2)) else some false).bind fun t31 => some (t31)
set_option maxRecDepth 20000 in
theorem impl_within_ok {w0 : World} {fuel : Nat} {a0 : Int} {a1 : Int} {a2 : Int} {r : Bool} (hm : impl_within_m fuel a0 a1 a2 = some r) :
  Calls Tryz.prog 77 #[.int .i64 a0, .int .i64 a1, .int .i64 a2] w0 fun e w => e = .returned (.bool r) ∧ Heap w0 [] w := by
 unfold impl_within_m at hm
 have H := Heap.start w0
 refine enter (args := [.int .i64 a0, .int .i64 a1, .int .i64 a2]) Tryz.func77 rfl 15 rfl (Nat.le_of_ble_eq_true rfl) (fun a S => ?_)
 refine wp_seq (region_plain ?_)
 refine lq (.bool false) S (q_assign rfl) fun a S => ?_
 refine lx_nil (thenN ?_)
 refine wp_seq (region_plain ?_)
 refine lq (.int .i64 a0) S (q_move rfl) fun a S => ?_
 refine lq (.int .i64 a1) S (q_move rfl) fun a S => ?_
 refine lq (.bool (decide (a1 ≤ a0))) S (q_geq rfl rfl) fun a S => ?_
 refine lq (.bool (decide (a1 ≤ a0))) S (q_move rfl) fun a S => ?_
 obtain ⟨t31, e32, hm⟩ := bind_some hm
 refine lx_cut 4 (fun a w => Slots a 15 [(14, (.bool t31))] ∧ Heap w0 [] w) ?_ ?_
 ·by_cases hc33 : (decide (a1 ≤ a0)) = true
  ·have hm := ite_t hc33 e32
   refine lx_q (.int .i64 a0) S (want_b rfl rfl hc33) (by decide) (q_move rfl) (fun a S => ?_)
   refine lx_q (.int .i64 a2) S (want_b rfl rfl hc33) (by decide) (q_move rfl) (fun a S => ?_)
   refine lx_q (.bool (decide (a0 ≤ a2))) S (want_b rfl rfl hc33) (by decide) (q_leq rfl rfl) (fun a S => ?_)
   refine lq (.bool (decide (a0 ≤ a2))) S (q_pickT' rfl hc33 rfl) fun a S => ?_
   refine lx_nil ?_
   obtain rfl := Option.some.inj hm
   exact ⟨S.sub ⟨rfl, trivial⟩, H⟩
  ·have hm := ite_f (eq_false_of_ne_true hc33) e32
   have hc33 : (decide (a1 ≤ a0)) = false := eq_false_of_ne_true hc33
   refine lx_skip S rfl rfl (isB_ne hc33) (by decide) (fun a S => ?_)
   refine lx_skip S rfl rfl (isB_ne hc33) (by decide) (fun a S => ?_)
   refine lx_skip S rfl rfl (isB_ne hc33) (by decide) (fun a S => ?_)
   refine lq (.bool false) S (q_pickF' rfl hc33 rfl) fun a S => ?_
   refine lx_nil ?_
   obtain rfl := Option.some.inj hm
   exact ⟨S.sub ⟨rfl, trivial⟩, H⟩
 ·rintro a w ⟨S, H⟩
  refine lq (.bool t31) S (q_assign rfl) fun a S => ?_
  refine lx_nil (thenN ?_)
  refine wp_ret ?_
  obtain rfl := Option.some.inj hm
  exact leave1 S rfl rfl ⟨rfl, H⟩

/-- (impl.Node).operands -/
def impl_Node_operands_m (_ : Nat) (a0 : Timpl_Node) : Option (Int) :=
  join (κ := Bool → Option Int) (fun (x48 : Bool) => (if x48 = true then some ((2 : Int)) else join (κ := Bool → Option Int) (fun (x52 : Bool) => (if x52 = true then some ((1 : Int)) else some ((0 : Int)))) (fun K53 => (if (a0.1 == (4 : Int)) = true then (K53 (a0.1 == (4 : Int))) else (if (a0.1 == (5 : Int)) = true then (K53 (a0.1 == (5 : Int))) else (if (a0.1 == (7 : Int)) = true then (K53 (a0.1 == (7 : Int))) else (K53 (a0.1 == (8 : Int))))))))) (fun K49 => (if (a0.1 == (2 : Int)) = true then (K49 (a0.1 == (2 : Int))) else (K49 (a0.1 == (3 : Int)))))
set_option maxRecDepth 20000 in
theorem impl_Node_operands_ok {w0 : World} {fuel : Nat} {p0 : Value} {a0 : Timpl_Node} {r : Int} (h0 : Rd Rimpl_Node w0 p0 a0) (hm : impl_Node_operands_m fuel a0 = some r) :
  Calls Tryz.prog 63 #[p0] w0 fun e w => e = .returned (.int .i64 r) ∧ Heap w0 [] w := by
 unfold impl_Node_operands_m at hm
 have H := Heap.start w0
 obtain ⟨c31, rfl, h32⟩ := h0
 obtain ⟨c33, c34, rfl, h35, h36⟩ := h32
 obtain rfl := h35
 obtain ⟨c37, c38, rfl, h39, h40⟩ := h36
 obtain rfl := h39
 obtain ⟨c41, c42, rfl, h43, h44⟩ := h40
 obtain rfl := h43
 obtain rfl := h44
 refine enter (args := [(.agg #[(.int .i64 a0.1), (.int .i64 a0.2.1), (sv a0.2.2.1), (.bool a0.2.2.2)])]) Tryz.func63 rfl 13 rfl (Nat.le_of_ble_eq_true rfl) (fun a S => ?_)
 refine wp_seq (region_plain ?_)
 refine lx_box S trivial (by decide) rfl H rfl rfl (fun b45 w46 H => ⟨trivial, fun a S => ?_⟩)
 refine lq (.int .i64 (0 : Int)) S (q_assign rfl) fun a S => ?_
 refine lx_nil (thenN ?_)
 refine wp_seq (wp_seq (region_plain ?_))
 refine lq (pAdd (bp b45) 0) S (q_fieldAddr' 0 2 rfl (isP_bp _) Tryz.underlying57 rfl Tryz.sizeOf2) fun a S => ?_
 refine lx_e (.int .i64 a0.1) S trivial (by decide) rfl trivial (q_load1 rfl Tryz.isAgg2 (by rintro _ rfl; exact (At.of_add (m := 0) (j := 0) (boxAt (i := 0) H rfl (j := 0) rfl)))) (fun a S => ?_)
 refine lx_nil (thenN ?_)
 refine wp_block ?_
 obtain ⟨K49, hK50, hm⟩ := join_elim hm
 refine seq_cut (fun a w => ∃ (x48 : Bool), Slots a 13 [(4, (.int .i64 a0.1)), (5, (.bool x48))] ∧ Heap w0 [] w ∧ K49 x48 = some r) ?_ ?_
 ·rintro a w ⟨x48, S, H, hm⟩
  subst hK50
  refine cond_b S rfl (fun hc51 => ?_) (fun hc51 => ?_)
  ·have hm := ite_t hc51 hm
   refine wp_seq (region_plain ?_)
   refine lq (.int .i64 (2 : Int)) S (q_assign rfl) fun a S => ?_
   refine lx_nil (thenN ?_)
   refine wp_ret (inBlock_ret ?_)
   refine then_ret ?_
   obtain rfl := Option.some.inj hm
   exact leave1 S rfl rfl ⟨rfl, H⟩
  ·have hm := ite_f hc51 hm
   obtain ⟨K53, hK54, hm⟩ := join_elim hm
   refine seq_cut (fun a w => ∃ (x52 : Bool), Slots a 13 [(8, (.bool x52))] ∧ Heap w0 [] w ∧ K53 x52 = some r) ?_ ?_
   ·rintro a w ⟨x52, S, H, hm⟩
    subst hK54
    refine cond_b S rfl (fun hc55 => ?_) (fun hc55 => ?_)
    ·have hm := ite_t hc55 hm
     refine wp_seq (region_plain ?_)
     refine lq (.int .i64 (1 : Int)) S (q_assign rfl) fun a S => ?_
     refine lx_nil (thenN ?_)
     refine wp_ret (inBlock_ret ?_)
     refine then_ret ?_
     obtain rfl := Option.some.inj hm
     exact leave1 S rfl rfl ⟨rfl, H⟩
    ·have hm := ite_f hc55 hm
     refine wp_skip ?_
     refine inBlock_norm ?_
     refine thenN ?_
     refine wp_seq (region_plain ?_)
     refine lq (.int .i64 (0 : Int)) S (q_assign rfl) fun a S => ?_
     refine lx_nil (thenN ?_)
     refine wp_ret ?_
     obtain rfl := Option.some.inj hm
     exact leave1 S rfl rfl ⟨rfl, H⟩
   ·skip
    refine wp_seq (region_plain ?_)
    refine lq (.bool (a0.1 == (4 : Int))) S (q_eql rfl rfl) fun a S => ?_
    refine lq (.bool (a0.1 == (4 : Int))) S (q_assign rfl) fun a S => ?_
    refine lx_nil (thenN ?_)
    refine cond_b S rfl (fun hc56 => ?_) (fun hc56 => ?_)
    ·have hm := ite_t hc56 hm
     refine wp_skip ?_
     exact ⟨(a0.1 == (4 : Int)), S.sub ⟨rfl, trivial⟩, H, hm⟩
    ·have hm := ite_f hc56 hm
     refine wp_seq (region_plain ?_)
     refine lq (.bool (a0.1 == (5 : Int))) S (q_eql rfl rfl) fun a S => ?_
     refine lq (.bool (a0.1 == (5 : Int))) S (q_assign rfl) fun a S => ?_
     refine lx_nil (thenN ?_)
     refine cond_b S rfl (fun hc57 => ?_) (fun hc57 => ?_)
     ·have hm := ite_t hc57 hm
      refine wp_skip ?_
      exact ⟨(a0.1 == (5 : Int)), S.sub ⟨rfl, trivial⟩, H, hm⟩
     ·have hm := ite_f hc57 hm
      refine wp_seq (region_plain ?_)
      refine lq (.bool (a0.1 == (7 : Int))) S (q_eql rfl rfl) fun a S => ?_
      refine lq (.bool (a0.1 == (7 : Int))) S (q_assign rfl) fun a S => ?_
      refine lx_nil (thenN ?_)
      refine cond_b S rfl (fun hc58 => ?_) (fun hc58 => ?_)
      ·have hm := ite_t hc58 hm
       refine wp_skip ?_
       exact ⟨(a0.1 == (7 : Int)), S.sub ⟨rfl, trivial⟩, H, hm⟩
      ·have hm := ite_f hc58 hm
       refine region_plain ?_
       refine lq (.bool (a0.1 == (8 : Int))) S (q_eql rfl rfl) fun a S => ?_
       refine lq (.bool (a0.1 == (8 : Int))) S (q_assign rfl) fun a S => ?_
       refine lx_nil ?_
       exact ⟨(a0.1 == (8 : Int)), S.sub ⟨rfl, trivial⟩, H, hm⟩
 ·skip
  refine wp_seq (region_plain ?_)
  refine lq (.bool (a0.1 == (2 : Int))) S (q_eql rfl rfl) fun a S => ?_
  refine lq (.bool (a0.1 == (2 : Int))) S (q_assign rfl) fun a S => ?_
  refine lx_nil (thenN ?_)
  refine cond_b S rfl (fun hc59 => ?_) (fun hc59 => ?_)
  ·have hm := ite_t hc59 hm
   refine wp_skip ?_
   have H : Heap w0 [] w46 := H.sel [] (by decide)
   exact ⟨(a0.1 == (2 : Int)), S.sub ⟨rfl, rfl, trivial⟩, H, hm⟩
  ·have hm := ite_f hc59 hm
   refine region_plain ?_
   refine lq (.bool (a0.1 == (3 : Int))) S (q_eql rfl rfl) fun a S => ?_
   refine lq (.bool (a0.1 == (3 : Int))) S (q_assign rfl) fun a S => ?_
   refine lx_nil ?_
   have H : Heap w0 [] w46 := H.sel [] (by decide)
   exact ⟨(a0.1 == (3 : Int)), S.sub ⟨rfl, rfl, trivial⟩, H, hm⟩

/-- impl.shapeOk -/
def impl_shapeOk_m (fuel : Nat) (a0 : (List Timpl_Node)) : Option (Bool) :=
  (iter (fun (s : (Int) × (Int)) => (match s with | (x61, x62) => (if (decide (x62 < (a0.length : Int))) = true then (idx a0 x62).bind fun x103 => (if (x61 == (0 : Int)) = true then some (.inr (.inr false)) else (impl_Node_operands_m fuel (x103.1, x103.2.1, x103.2.2.1, x103.2.2.2)).bind fun x127 => some (.inl ((W (x61 + (W (x127 - (1 : Int))))), (W (x62 + (1 : Int)))))) else some (.inr (.inl (x61)))) : Option (((Int) × (Int)) ⊕ ((Int) ⊕ (Bool))))) fuel ((1 : Int), (0 : Int))).bind fun res94 => ctl (β := Int) (ρ := Bool) (τ := Bool) res94 (fun (x93) => some ((x93 == (0 : Int)))) (fun q => some (q))
set_option maxRecDepth 20000 in
theorem impl_shapeOk_ok {w0 : World} {fuel : Nat} {p0 : Value} {a0 : (List Timpl_Node)} {r : Bool} (h0 : Rd (rList Rimpl_Node) w0 p0 a0) (hm : impl_shapeOk_m fuel a0 = some r) :
  Calls Tryz.prog 78 #[p0] w0 fun e w => e = .returned (.bool r) ∧ Heap w0 [] w := by
 unfold impl_shapeOk_m at hm
 have H := Heap.start w0
 refine enter (args := [p0]) Tryz.func78 rfl 22 rfl (Nat.le_of_ble_eq_true rfl) (fun a S => ?_)
 refine wp_seq (region_plain ?_)
 refine lq (.bool false) S (q_assign rfl) fun a S => ?_
 refine lx_nil (thenN ?_)
 refine wp_seq (region_plain ?_)
 refine lq (.int .i64 (1 : Int)) S (q_assign rfl) fun a S => ?_
 refine lx_nil (thenN ?_)
 refine wp_seq (wp_seq (region_plain ?_))
 refine lq p0 S (q_move rfl) fun a S => ?_
 refine lq (.int .i64 (a0.length : Int)) S (q_lenSl rfl (h0).isSl rfl Tryz.underlying26) fun a S => ?_
 refine lq (.int .i64 (0 : Int)) S (q_move rfl) fun a S => ?_
 refine lx_nil (thenN ?_)
 obtain ⟨res94, hit95, hk98⟩ := bind_some hm
 obtain ⟨f96, hf97, hit95⟩ := iter_name hit95
 refine block_loop (fun a w => ∃ (x93 : Int), Slots a 22 [(3, (.int .i64 x93))] ∧ Heap w0 [] w ∧ res94 = .inl (x93)) ?_ ?_
 ·rintro a w ⟨x93, S, H, rfl⟩
  have hm := ctl_inl hk98
  refine thenN ?_
  refine wp_seq (region_plain ?_)
  refine lq (.int .i64 x93) S (q_move rfl) fun a S => ?_
  refine lq (.bool (x93 == (0 : Int))) S (q_eql rfl rfl) fun a S => ?_
  refine lq (.bool (x93 == (0 : Int))) S (q_assign rfl) fun a S => ?_
  refine lx_nil (thenN ?_)
  refine wp_ret ?_
  obtain rfl := Option.some.inj hm
  exact leave1 S rfl rfl ⟨rfl, H⟩
 ·skip
  refine loop_ghost (fun n a w => ∃ (x61 : Int) (x62 : Int), Slots a 22 [(3, (.int .i64 x61)), (6, p0), (7, (.int .i64 (a0.length : Int))), (8, (.int .i64 x62))] ∧ Heap w0 [] w ∧ iter f96 n (x61, x62) = some res94) _ ⟨(1 : Int), (0 : Int), S.sub ⟨rfl, rfl, rfl, rfl, trivial⟩, H, hit95⟩ ?_
  rintro n a w ⟨x61, x62, S, H, hit95⟩
  obtain ⟨m99, o100, rfl, hm, hc101⟩ := iter_step hit95
  rw [hf97] at hm
  refine wp_seq (region_plain ?_)
  refine lq (.bool (decide (x62 < (a0.length : Int)))) S (q_lss rfl rfl) fun a S => ?_
  refine lx_nil (thenN ?_)
  refine wp_seq ?_
  refine cond_b S rfl (fun hc102 => ?_) (fun hc102 => ?_)
  ·have hm := ite_t hc102 hm
   refine wp_skip (thenN ?_)
   refine wp_seq ?_
   refine wp_block ?_
   refine wp_seq (region_plain ?_)
   obtain ⟨x103, e104, hm⟩ := bind_some hm
   obtain ⟨c105, h106, hat107⟩ := (h0).elem (idx_some e104).2
   obtain ⟨c108, c109, rfl, h110, h111⟩ := h106
   obtain rfl := h110
   obtain ⟨c112, c113, rfl, h114, h115⟩ := h111
   obtain rfl := h114
   obtain ⟨c116, c117, rfl, h118, h119⟩ := h115
   obtain rfl := h118
   obtain rfl := h119
   have hlt := lt_of_idx (idx_some e104).2
   refine lq (ePtr p0 (x62.toNat * 4)) S (q_indexAddr rfl (h0).isSl rfl (idx_some e104).1 hlt Tryz.underlying26 Tryz.sizeOf57) fun a S => ?_
   refine lx_e (.agg #[(.int .i64 x103.1), (.int .i64 x103.2.1), (sv x103.2.2.1), (.bool x103.2.2.2)]) S trivial (by decide) rfl trivial (q_loadA (cs := [(.int .i64 x103.1), (.int .i64 x103.2.1), (sv x103.2.2.1), (.bool x103.2.2.2)]) rfl ((hat107 0 _ rfl).isP) Tryz.isAgg57 Tryz.sizeOf57 (by rintro _ rfl; exact (fun j u hu => (hat107 j u hu).ext H.ext))) (fun a S => ?_)
   refine lx_alloc S trivial (by decide) rfl H Tryz.zeroValue57 rfl (fun b120 w121 H => ⟨trivial, fun a S => ?_⟩)
   refine lx_storeBox (o := 0) (i := 0) (us := [(.int .i64 x103.1), (.int .i64 x103.2.1), (sv x103.2.2.1), (.bool x103.2.2.2)]) (cs' := [(.int .i64 x103.1), (.int .i64 x103.2.1), (sv x103.2.2.1), (.bool x103.2.2.2)]) S trivial rfl H rfl rfl rfl rfl Tryz.sizeOf57 (Nat.le_of_ble_eq_true rfl) (List.forall_mem_cons.2 ⟨rfl, (List.forall_mem_cons.2 ⟨rfl, (List.forall_mem_cons.2 ⟨rfl, (List.forall_mem_cons.2 ⟨rfl, (fun _ h => nomatch h)⟩)⟩)⟩)⟩) rfl (fun w123 H => ⟨trivial, fun a S => ?_⟩)
   change Heap w0 [bA b120 [(.int .i64 x103.1), (.int .i64 x103.2.1), (sv x103.2.2.1), (.bool x103.2.2.2)] 57] w123 at H
   refine lx_nil (thenN ?_)
   refine wp_seq (wp_seq (region_plain ?_))
   refine lq (.int .i64 x61) S (q_move rfl) fun a S => ?_
   refine lq (.bool (x61 == (0 : Int))) S (q_eql rfl rfl) fun a S => ?_
   refine lx_nil (thenN ?_)
   refine cond_b S rfl (fun hc124 => ?_) (fun hc124 => ?_)
   ·have hm := ite_t hc124 hm
    refine wp_seq (region_plain ?_)
    refine lq (.bool false) S (q_assign rfl) fun a S => ?_
    refine lx_nil (thenN ?_)
    refine wp_ret (then_ret ?_)
    refine inBlock_ret ?_
    refine then_ret ?_
    refine then_ret ?_
    refine inBlock_ret ?_
    refine then_ret ?_
    refine then_ret ?_
    obtain rfl := it_brk hm hc101
    have hm := ctl_inr hk98
    obtain rfl := Option.some.inj hm
    have H : Heap w0 [] w123 := H.sel [] (by decide)
    exact leave1 S rfl rfl ⟨rfl, H⟩
   ·have hm := ite_f hc124 hm
    refine wp_skip (thenN ?_)
    refine region_plain ?_
    refine lq (.int .i64 x61) S (q_move rfl) fun a S => ?_
    refine lx_e (.agg #[(.int .i64 x103.1), (.int .i64 x103.2.1), (sv x103.2.2.1), (.bool x103.2.2.2)]) S trivial (by decide) rfl trivial (q_loadA (cs := [(.int .i64 x103.1), (.int .i64 x103.2.1), (sv x103.2.2.1), (.bool x103.2.2.2)]) rfl (isP_bp _) Tryz.isAgg57 Tryz.sizeOf57 (by rintro _ rfl; exact (fun j u hu => boxAt (i := 0) H rfl hu))) (fun a S => ?_)
    obtain ⟨x127, e128, hm⟩ := bind_some hm
    refine lx_call (xs := [.tmp 15]) S trivial (by decide) rfl rfl Tryz.call63 ((impl_Node_operands_ok ⟨[(.int .i64 x103.1), (.int .i64 x103.2.1), (sv x103.2.2.1), (.bool x103.2.2.2)], rfl, ⟨[(.int .i64 x103.1)], [(.int .i64 x103.2.1), (sv x103.2.2.1), (.bool x103.2.2.2)], rfl, rfl, ⟨[(.int .i64 x103.2.1)], [(sv x103.2.2.1), (.bool x103.2.2.2)], rfl, rfl, ⟨[(sv x103.2.2.1)], [(.bool x103.2.2.2)], rfl, rfl, rfl⟩⟩⟩⟩ e128).mono ?_)
    rintro e w125 ⟨rfl, Hc126⟩
    have H := H.call0 Hc126
    refine ⟨_, rfl, trivial, fun a S => ?_⟩
    refine lq (.int .i64 (W (x127 - (1 : Int)))) S (q_sub rfl rfl) fun a S => ?_
    refine lq (.int .i64 (W (x61 + (W (x127 - (1 : Int)))))) S (q_add rfl rfl) fun a S => ?_
    refine lq (.int .i64 (W (x61 + (W (x127 - (1 : Int)))))) S (q_assign rfl) fun a S => ?_
    refine lx_nil ?_
    refine inBlock_norm ?_
    refine thenN ?_
    refine region_plain ?_
    refine lq (.int .i64 (W (x62 + (1 : Int)))) S (q_add rfl rfl) fun a S => ?_
    refine lq (.int .i64 (W (x62 + (1 : Int)))) S (q_move rfl) fun a S => ?_
    refine lx_nil ?_
    have H : Heap w0 [] w125 := H.sel [] (by decide)
    exact ⟨m99, Nat.lt_succ_self _, (W (x61 + (W (x127 - (1 : Int))))), (W (x62 + (1 : Int))), S.sub ⟨rfl, rfl, rfl, rfl, trivial⟩, H, it_cont hm hc101⟩
  ·have hm := ite_f hc102 hm
   refine wp_exit ?_
   refine then_exit ?_
   refine then_exit ?_
   refine inBlock_exit ?_
   obtain rfl := it_brk hm hc101
   exact ⟨x61, S.sub ⟨rfl, trivial⟩, H, rfl⟩

/-- (impl.Node).isModality -/
def impl_Node_isModality_m (_ : Nat) (a0 : Timpl_Node) : Option (Bool) :=
  (if (a0.1 == (4 : Int)) = true then some true else some (a0.1 == (5 : Int))).bind fun t48 => some (t48)
set_option maxRecDepth 20000 in
theorem impl_Node_isModality_ok {w0 : World} {fuel : Nat} {p0 : Value} {a0 : Timpl_Node} {r : Bool} (h0 : Rd Rimpl_Node w0 p0 a0) (hm : impl_Node_isModality_m fuel a0 = some r) :
  Calls Tryz.prog 73 #[p0] w0 fun e w => e = .returned (.bool r) ∧ Heap w0 [] w := by
 unfold impl_Node_isModality_m at hm
 have H := Heap.start w0
 obtain ⟨c31, rfl, h32⟩ := h0
 obtain ⟨c33, c34, rfl, h35, h36⟩ := h32
 obtain rfl := h35
 obtain ⟨c37, c38, rfl, h39, h40⟩ := h36
 obtain rfl := h39
 obtain ⟨c41, c42, rfl, h43, h44⟩ := h40
 obtain rfl := h43
 obtain rfl := h44
 refine enter (args := [(.agg #[(.int .i64 a0.1), (.int .i64 a0.2.1), (sv a0.2.2.1), (.bool a0.2.2.2)])]) Tryz.func73 rfl 11 rfl (Nat.le_of_ble_eq_true rfl) (fun a S => ?_)
 refine wp_seq (region_plain ?_)
 refine lx_box S trivial (by decide) rfl H rfl rfl (fun b45 w46 H => ⟨trivial, fun a S => ?_⟩)
 refine lq (.bool false) S (q_assign rfl) fun a S => ?_
 refine lx_nil (thenN ?_)
 refine wp_seq (region_plain ?_)
 refine lq (pAdd (bp b45) 0) S (q_fieldAddr' 0 2 rfl (isP_bp _) Tryz.underlying57 rfl Tryz.sizeOf2) fun a S => ?_
 refine lx_e (.int .i64 a0.1) S trivial (by decide) rfl trivial (q_load1 rfl Tryz.isAgg2 (by rintro _ rfl; exact (At.of_add (m := 0) (j := 0) (boxAt (i := 0) H rfl (j := 0) rfl)))) (fun a S => ?_)
 refine lq (.bool (a0.1 == (4 : Int))) S (q_eql rfl rfl) fun a S => ?_
 refine lq (.bool (a0.1 == (4 : Int))) S (q_move rfl) fun a S => ?_
 obtain ⟨t48, e49, hm⟩ := bind_some hm
 refine lx_cut 4 (fun a w => Slots a 11 [(10, (.bool t48))] ∧ Heap w0 [] w) ?_ ?_
 ·by_cases hc50 : (a0.1 == (4 : Int)) = true
  ·have hm := ite_t hc50 e49
   refine lx_skip S rfl rfl (isB_ne hc50) (by decide) (fun a S => ?_)
   refine lx_skip S rfl rfl (isB_ne hc50) (by decide) (fun a S => ?_)
   refine lx_skip S rfl rfl (isB_ne hc50) (by decide) (fun a S => ?_)
   refine lq (.bool true) S (q_pickT' rfl hc50 rfl) fun a S => ?_
   refine lx_nil ?_
   obtain rfl := Option.some.inj hm
   have H := H.sel [] (by decide)
   exact ⟨S.sub ⟨rfl, trivial⟩, H⟩
  ·have hm := ite_f (eq_false_of_ne_true hc50) e49
   have hc50 : (a0.1 == (4 : Int)) = false := eq_false_of_ne_true hc50
   refine lx_q (pAdd (bp b45) 0) S (want_b rfl rfl hc50) (by decide) (q_fieldAddr' 0 2 rfl (isP_bp _) Tryz.underlying57 rfl Tryz.sizeOf2) (fun a S => ?_)
   refine lx_e (.int .i64 a0.1) S (want_b rfl rfl hc50) (by decide) rfl trivial (q_load1 rfl Tryz.isAgg2 (by rintro _ rfl; exact (At.of_add (m := 0) (j := 0) (boxAt (i := 0) H rfl (j := 0) rfl)))) (fun a S => ?_)
   refine lx_q (.bool (a0.1 == (5 : Int))) S (want_b rfl rfl hc50) (by decide) (q_eql rfl rfl) (fun a S => ?_)
   refine lq (.bool (a0.1 == (5 : Int))) S (q_pickF' rfl hc50 rfl) fun a S => ?_
   refine lx_nil ?_
   obtain rfl := Option.some.inj hm
   have H := H.sel [] (by decide)
   exact ⟨S.sub ⟨rfl, trivial⟩, H⟩
 ·rintro a w ⟨S, H⟩
  refine lq (.bool t48) S (q_assign rfl) fun a S => ?_
  refine lx_nil (thenN ?_)
  refine wp_ret ?_
  obtain rfl := Option.some.inj hm
  exact leave1 S rfl rfl ⟨rfl, H⟩

/-- internal/stringslite.HasSuffix -/
def internal_stringslite_HasSuffix_m (_ : Nat) (a0 : Str) (a1 : Str) : Option (Bool) :=
  (if (decide ((a1.length : Int) ≤ (a0.length : Int))) = true then (sub a0 (W ((a0.length : Int) - (a1.length : Int))) (a0.length : Int)).bind fun xs34 => some (xs34 == a1) else some false).bind fun t31 => some (t31)
set_option maxRecDepth 20000 in
theorem internal_stringslite_HasSuffix_ok {w0 : World} {fuel : Nat} {a0 : Str} {a1 : Str} {r : Bool} (hm : internal_stringslite_HasSuffix_m fuel a0 a1 = some r) :
  Calls Tryz.prog 127 #[sv a0, sv a1] w0 fun e w => e = .returned (.bool r) ∧ Heap w0 [] w := by
 unfold internal_stringslite_HasSuffix_m at hm
 have H := Heap.start w0
 refine enter (args := [sv a0, sv a1]) Tryz.func127 rfl 21 rfl (Nat.le_of_ble_eq_true rfl) (fun a S => ?_)
 refine wp_seq (region_plain ?_)
 refine lq (.bool false) S (q_assign rfl) fun a S => ?_
 refine lx_nil (thenN ?_)
 refine wp_seq (region_plain ?_)
 refine lq (sv a0) S (q_move rfl) fun a S => ?_
 refine lq (.int .i64 (a0.length : Int)) S (q_lenStr rfl rfl Tryz.underlying9) fun a S => ?_
 refine lq (sv a1) S (q_move rfl) fun a S => ?_
 refine lq (.int .i64 (a1.length : Int)) S (q_lenStr rfl rfl Tryz.underlying9) fun a S => ?_
 refine lq (.bool (decide ((a1.length : Int) ≤ (a0.length : Int)))) S (q_geq rfl rfl) fun a S => ?_
 refine lq (.bool (decide ((a1.length : Int) ≤ (a0.length : Int)))) S (q_move rfl) fun a S => ?_
 obtain ⟨t31, e32, hm⟩ := bind_some hm
 refine lx_cut 10 (fun a w => Slots a 21 [(20, (.bool t31))] ∧ Heap w0 [] w) ?_ ?_
 ·by_cases hc33 : (decide ((a1.length : Int) ≤ (a0.length : Int))) = true
  ·have hm := ite_t hc33 e32
   refine lx_q (sv a0) S (want_b rfl rfl hc33) (by decide) (q_move rfl) (fun a S => ?_)
   refine lx_q (sv a0) S (want_b rfl rfl hc33) (by decide) (q_move rfl) (fun a S => ?_)
   refine lx_q (.int .i64 (a0.length : Int)) S (want_b rfl rfl hc33) (by decide) (q_lenStr rfl rfl Tryz.underlying9) (fun a S => ?_)
   refine lx_q (sv a1) S (want_b rfl rfl hc33) (by decide) (q_move rfl) (fun a S => ?_)
   refine lx_q (.int .i64 (a1.length : Int)) S (want_b rfl rfl hc33) (by decide) (q_lenStr rfl rfl Tryz.underlying9) (fun a S => ?_)
   refine lx_q (.int .i64 (W ((a0.length : Int) - (a1.length : Int)))) S (want_b rfl rfl hc33) (by decide) (q_sub rfl rfl) (fun a S => ?_)
   obtain ⟨xs34, e35, hm⟩ := bind_some hm
   obtain ⟨hsb, hse⟩ := sub_some e35
   replace hse := hse.symm
   subst hse
   refine lx_q (sv ((a0.take ((a0.length : Int)).toNat).drop ((W ((a0.length : Int) - (a1.length : Int)))).toNat)) S (want_b rfl rfl hc33) (by decide) (q_ssub (lo := (some (.tmp 16))) (hi := none) (l := (W ((a0.length : Int) - (a1.length : Int)))) (h := (a0.length : Int)) rfl Tryz.underlying9 rfl rfl hsb.1 hsb.2.1 hsb.2.2) (fun a S => ?_)
   refine lx_q (sv a1) S (want_b rfl rfl hc33) (by decide) (q_move rfl) (fun a S => ?_)
   refine lx_q (.bool (((a0.take ((a0.length : Int)).toNat).drop ((W ((a0.length : Int) - (a1.length : Int)))).toNat) == a1)) S (want_b rfl rfl hc33) (by decide) (q_seql rfl rfl) (fun a S => ?_)
   refine lq (.bool (((a0.take ((a0.length : Int)).toNat).drop ((W ((a0.length : Int) - (a1.length : Int)))).toNat) == a1)) S (q_pickT' rfl hc33 rfl) fun a S => ?_
   refine lx_nil ?_
   obtain rfl := Option.some.inj hm
   exact ⟨S.sub ⟨rfl, trivial⟩, H⟩
  ·have hm := ite_f (eq_false_of_ne_true hc33) e32
   have hc33 : (decide ((a1.length : Int) ≤ (a0.length : Int))) = false := eq_false_of_ne_true hc33
   refine lx_skip S rfl rfl (isB_ne hc33) (by decide) (fun a S => ?_)
   refine lx_skip S rfl rfl (isB_ne hc33) (by decide) (fun a S => ?_)
   refine lx_skip S rfl rfl (isB_ne hc33) (by decide) (fun a S => ?_)
   refine lx_skip S rfl rfl (isB_ne hc33) (by decide) (fun a S => ?_)
   refine lx_skip S rfl rfl (isB_ne hc33) (by decide) (fun a S => ?_)
   refine lx_skip S rfl rfl (isB_ne hc33) (by decide) (fun a S => ?_)
   refine lx_skip S rfl rfl (isB_ne hc33) (by decide) (fun a S => ?_)
   refine lx_skip S rfl rfl (isB_ne hc33) (by decide) (fun a S => ?_)
   refine lx_skip S rfl rfl (isB_ne hc33) (by decide) (fun a S => ?_)
   refine lq (.bool false) S (q_pickF' rfl hc33 rfl) fun a S => ?_
   refine lx_nil ?_
   obtain rfl := Option.some.inj hm
   exact ⟨S.sub ⟨rfl, trivial⟩, H⟩
 ·rintro a w ⟨S, H⟩
  refine lq (.bool t31) S (q_assign rfl) fun a S => ?_
  refine lx_nil (thenN ?_)
  refine wp_ret ?_
  obtain rfl := Option.some.inj hm
  exact leave1 S rfl rfl ⟨rfl, H⟩

/-- internal/stringslite.CutSuffix -/
def internal_stringslite_CutSuffix_m (fuel : Nat) (a0 : Str) (a1 : Str) : Option ((Str × Bool)) :=
  (internal_stringslite_HasSuffix_m fuel a0 a1).bind fun x33 => (if (!x33) = true then some ((a0, false)) else (sub a0 (0 : Int) (W ((a0.length : Int) - (a1.length : Int)))).bind fun xs37 => some ((xs37, true)))
set_option maxRecDepth 20000 in
theorem internal_stringslite_CutSuffix_ok {w0 : World} {fuel : Nat} {a0 : Str} {a1 : Str} {r : (Str × Bool)} (hm : internal_stringslite_CutSuffix_m fuel a0 a1 = some r) :
  Calls Tryz.prog 117 #[sv a0, sv a1] w0 fun e w => e = .returned (.tuple #[sv r.1, .bool r.2]) ∧ Heap w0 [] w := by
 unfold internal_stringslite_CutSuffix_m at hm
 have H := Heap.start w0
 refine enter (args := [sv a0, sv a1]) Tryz.func117 rfl 18 rfl (Nat.le_of_ble_eq_true rfl) (fun a S => ?_)
 refine wp_seq (region_plain ?_)
 refine lq (sv ([] : Str)) S (q_assign rfl) fun a S => ?_
 refine lq (.bool false) S (q_assign rfl) fun a S => ?_
 refine lx_nil (thenN ?_)
 refine wp_seq (wp_seq (region_plain ?_))
 refine lq (sv a0) S (q_move rfl) fun a S => ?_
 refine lq (sv a1) S (q_move rfl) fun a S => ?_
 obtain ⟨x33, e34, hm⟩ := bind_some hm
 refine lx_call (xs := [.tmp 6, .tmp 7]) S trivial (by decide) rfl rfl Tryz.call127 ((internal_stringslite_HasSuffix_ok   e34).mono ?_)
 rintro e w31 ⟨rfl, Hc32⟩
 have H := H.call0 Hc32
 refine ⟨_, rfl, trivial, fun a S => ?_⟩
 refine lq (.bool (!x33)) S (q_not rfl) fun a S => ?_
 refine lx_nil (thenN ?_)
 refine cond_b S rfl (fun hc36 => ?_) (fun hc36 => ?_)
 ·have hm := ite_t hc36 hm
  refine wp_seq (region_plain ?_)
  refine lq (sv a0) S (q_move rfl) fun a S => ?_
  refine lq (sv a0) S (q_assign rfl) fun a S => ?_
  refine lq (.bool false) S (q_assign rfl) fun a S => ?_
  refine lx_nil (thenN ?_)
  refine wp_ret (then_ret ?_)
  obtain rfl := Option.some.inj hm
  exact leave2 S rfl rfl rfl ⟨rfl, H⟩
 ·have hm := ite_f hc36 hm
  refine wp_skip (thenN ?_)
  refine wp_seq (region_plain ?_)
  refine lq (sv a0) S (q_move rfl) fun a S => ?_
  refine lq (sv a0) S (q_move rfl) fun a S => ?_
  refine lq (.int .i64 (a0.length : Int)) S (q_lenStr rfl rfl Tryz.underlying9) fun a S => ?_
  refine lq (sv a1) S (q_move rfl) fun a S => ?_
  refine lq (.int .i64 (a1.length : Int)) S (q_lenStr rfl rfl Tryz.underlying9) fun a S => ?_
  refine lq (.int .i64 (W ((a0.length : Int) - (a1.length : Int)))) S (q_sub rfl rfl) fun a S => ?_
  obtain ⟨xs37, e38, hm⟩ := bind_some hm
  obtain ⟨hsb, hse⟩ := sub_some e38
  replace hse := hse.symm
  subst hse
  refine lq (sv ((a0.take ((W ((a0.length : Int) - (a1.length : Int)))).toNat).drop ((0 : Int)).toNat)) S (q_ssub (lo := none) (hi := (some (.tmp 16))) (l := (0 : Int)) (h := (W ((a0.length : Int) - (a1.length : Int)))) rfl Tryz.underlying9 rfl rfl hsb.1 hsb.2.1 hsb.2.2) fun a S => ?_
  refine lq (sv ((a0.take ((W ((a0.length : Int) - (a1.length : Int)))).toNat).drop ((0 : Int)).toNat)) S (q_assign rfl) fun a S => ?_
  refine lq (.bool true) S (q_assign rfl) fun a S => ?_
  refine lx_nil (thenN ?_)
  refine wp_ret ?_
  obtain rfl := Option.some.inj hm
  exact leave2 S rfl rfl rfl ⟨rfl, H⟩

/-- strings.CutSuffix -/
def strings_CutSuffix_m (fuel : Nat) (a0 : Str) (a1 : Str) : Option ((Str × Bool)) :=
  (internal_stringslite_CutSuffix_m fuel a0 a1).bind fun x33 => some ((x33.1, x33.2))
set_option maxRecDepth 20000 in
theorem strings_CutSuffix_ok {w0 : World} {fuel : Nat} {a0 : Str} {a1 : Str} {r : (Str × Bool)} (hm : strings_CutSuffix_m fuel a0 a1 = some r) :
  Calls Tryz.prog 102 #[sv a0, sv a1] w0 fun e w => e = .returned (.tuple #[sv r.1, .bool r.2]) ∧ Heap w0 [] w := by
 unfold strings_CutSuffix_m at hm
 have H := Heap.start w0
 refine enter (args := [sv a0, sv a1]) Tryz.func102 rfl 11 rfl (Nat.le_of_ble_eq_true rfl) (fun a S => ?_)
 refine wp_seq (region_plain ?_)
 refine lq (sv ([] : Str)) S (q_assign rfl) fun a S => ?_
 refine lq (.bool false) S (q_assign rfl) fun a S => ?_
 refine lx_nil (thenN ?_)
 refine wp_seq (region_plain ?_)
 refine lq (sv a0) S (q_move rfl) fun a S => ?_
 refine lq (sv a1) S (q_move rfl) fun a S => ?_
 obtain ⟨x33, e34, hm⟩ := bind_some hm
 refine lx_call (xs := [.tmp 6, .tmp 7]) S trivial (by decide) rfl rfl Tryz.call117 ((internal_stringslite_CutSuffix_ok   e34).mono ?_)
 rintro e w31 ⟨rfl, Hc32⟩
 have H := H.call0 Hc32
 refine ⟨_, rfl, trivial, fun a S => ?_⟩
 refine lq (sv x33.1) S (q_extract rfl rfl) fun a S => ?_
 refine lq (.bool x33.2) S (q_extract rfl rfl) fun a S => ?_
 refine lq (sv x33.1) S (q_assign rfl) fun a S => ?_
 refine lq (.bool x33.2) S (q_assign rfl) fun a S => ?_
 refine lx_nil (thenN ?_)
 refine wp_ret ?_
 obtain rfl := Option.some.inj hm
 exact leave2 S rfl rfl rfl ⟨rfl, H⟩

/-- impl.Decimal -/
def impl_Decimal_m (fuel : Nat) (a0 : Int) : Option (Str) :=
  (strconv_FormatInt_m fuel a0 (10 : Int)).bind fun x33 => some (x33)
set_option maxRecDepth 20000 in
theorem impl_Decimal_ok {w0 : World} {fuel : Nat} {a0 : Int} {r : Str} (hG : Glob Tryz.prog w0) (hm : impl_Decimal_m fuel a0 = some r) :
  Calls Tryz.prog 132 #[.int .i64 a0] w0 fun e w => e = .returned (sv r) ∧ Heap w0 [] w := by
 unfold impl_Decimal_m at hm
 have H := Heap.start w0
 refine enter (args := [.int .i64 a0]) Tryz.func132 rfl 5 rfl (Nat.le_of_ble_eq_true rfl) (fun a S => ?_)
 refine wp_seq (region_plain ?_)
 refine lq (sv ([] : Str)) S (q_assign rfl) fun a S => ?_
 refine lx_nil (thenN ?_)
 refine wp_seq (region_plain ?_)
 refine lq (.int .i64 a0) S (q_move rfl) fun a S => ?_
 obtain ⟨x33, e34, hm⟩ := bind_some hm
 refine lx_call (xs := [.tmp 3, .const (.int .i64 (10))]) S trivial (by decide) rfl rfl Tryz.call146 ((strconv_FormatInt_ok (hG.ext H.ext)   e34).mono ?_)
 rintro e w31 ⟨rfl, Hc32⟩
 have H := H.call0 Hc32
 refine ⟨_, rfl, trivial, fun a S => ?_⟩
 refine lq (sv x33) S (q_assign rfl) fun a S => ?_
 refine lx_nil (thenN ?_)
 refine wp_ret ?_
 obtain rfl := Option.some.inj hm
 exact leave1 S rfl rfl ⟨rfl, H⟩

/-- impl.ReadDecimal -/
def impl_ReadDecimal_m (fuel : Nat) (a0 : Str) : Option ((Int × Bool)) :=
  (strings_TrimPrefix_m fuel a0 ([45] : Str)).bind fun x33 => (if (decide ((18 : Int) < (x33.length : Int))) = true then some (((0 : Int), false)) else (strconv_ParseInt_m fuel a0 (10 : Int) (64 : Int)).bind fun x39 => (if x39.2 = true then some true else (impl_Decimal_m fuel x39.1).bind fun x49 => some (x49 != a0)).bind fun t44 => (if t44 = true then some (((0 : Int), false)) else some ((x39.1, true))))
set_option maxRecDepth 20000 in
theorem impl_ReadDecimal_ok {w0 : World} {fuel : Nat} {a0 : Str} {r : (Int × Bool)} (hG : GlobE Tryz.prog w0) (hm : impl_ReadDecimal_m fuel a0 = some r) :
  Calls Tryz.prog 120 #[sv a0] w0 fun e w => e = .returned (.tuple #[.int .i64 r.1, .bool r.2]) ∧ Heap w0 [] w := by
 unfold impl_ReadDecimal_m at hm
 have H := Heap.start w0
 refine enter (args := [sv a0]) Tryz.func120 rfl 24 rfl (Nat.le_of_ble_eq_true rfl) (fun a S => ?_)
 refine wp_seq (region_plain ?_)
 refine lq (.int .i64 (0 : Int)) S (q_assign rfl) fun a S => ?_
 refine lq (.bool false) S (q_assign rfl) fun a S => ?_
 refine lx_nil (thenN ?_)
 refine wp_seq (wp_seq (region_plain ?_))
 refine lq (sv a0) S (q_move rfl) fun a S => ?_
 obtain ⟨x33, e34, hm⟩ := bind_some hm
 refine lx_call (xs := [.tmp 6, .const (sv [45])]) S trivial (by decide) rfl rfl Tryz.call130 ((strings_TrimPrefix_ok   e34).mono ?_)
 rintro e w31 ⟨rfl, Hc32⟩
 have H := H.call0 Hc32
 refine ⟨_, rfl, trivial, fun a S => ?_⟩
 refine lq (.int .i64 (x33.length : Int)) S (q_lenStr rfl rfl Tryz.underlying9) fun a S => ?_
 refine lq (.bool (decide ((18 : Int) < (x33.length : Int)))) S (q_gtr rfl rfl) fun a S => ?_
 refine lx_nil (thenN ?_)
 refine cond_b S rfl (fun hc36 => ?_) (fun hc36 => ?_)
 ·have hm := ite_t hc36 hm
  refine wp_seq (region_plain ?_)
  refine lq (.int .i64 (0 : Int)) S (q_assign rfl) fun a S => ?_
  refine lq (.bool false) S (q_assign rfl) fun a S => ?_
  refine lx_nil (thenN ?_)
  refine wp_ret (then_ret ?_)
  obtain rfl := Option.some.inj hm
  exact leave2 S rfl rfl rfl ⟨rfl, H⟩
 ·have hm := ite_f hc36 hm
  refine wp_skip (thenN ?_)
  refine wp_seq (region_plain ?_)
  refine lq (sv a0) S (q_move rfl) fun a S => ?_
  obtain ⟨x39, e40, hm⟩ := bind_some hm
  refine lx_call (xs := [.tmp 11, .const (.int .i64 (10)), .const (.int .i64 (64))]) S trivial (by decide) rfl rfl Tryz.call131 ((strconv_ParseInt_ok (hG.ext H.ext)    e40).mono ?_)
  rintro e w37 ⟨ve41, rfl, he42, Hc38⟩
  have H := H.call0 Hc38
  refine ⟨_, rfl, trivial, fun a S => ?_⟩
  refine lq (.tuple #[(.int .i64 x39.1), ve41]) S (q_move rfl) fun a S => ?_
  refine lq (.int .i64 x39.1) S (q_extract rfl rfl) fun a S => ?_
  refine lq ve41 S (q_extract rfl rfl) fun a S => ?_
  refine lq (.int .i64 x39.1) S (q_assign rfl) fun a S => ?_
  refine lq ve41 S (q_assign rfl) fun a S => ?_
  refine lx_nil (thenN ?_)
  refine wp_seq (wp_seq (region_plain ?_))
  refine lq ve41 S (q_move rfl) fun a S => ?_
  refine lq (.bool x39.2) S (q_errneq rfl he42 Tryz.underlying152) fun a S => ?_
  refine lq (.bool x39.2) S (q_move rfl) fun a S => ?_
  obtain ⟨t44, e45, hm⟩ := bind_some hm
  refine lx_cut 5 (fun a w => Slots a 24 [(4, (.int .i64 x39.1)), (22, (.bool t44))] ∧ Heap w0 [] w) ?_ ?_
  ·by_cases hc46 : x39.2 = true
   ·have hm := ite_t hc46 e45
    refine lx_skip S rfl rfl (isB_ne hc46) (by decide) (fun a S => ?_)
    refine lx_skip S rfl rfl (isB_ne hc46) (by decide) (fun a S => ?_)
    refine lx_skip S rfl rfl (isB_ne hc46) (by decide) (fun a S => ?_)
    refine lx_skip S rfl rfl (isB_ne hc46) (by decide) (fun a S => ?_)
    refine lq (.bool true) S (q_pickT' rfl hc46 rfl) fun a S => ?_
    refine lx_nil ?_
    obtain rfl := Option.some.inj hm
    exact ⟨S.sub ⟨rfl, rfl, trivial⟩, H⟩
   ·have hm := ite_f (eq_false_of_ne_true hc46) e45
    have hc46 : x39.2 = false := eq_false_of_ne_true hc46
    refine lx_q (.int .i64 x39.1) S (want_b rfl rfl hc46) (by decide) (q_move rfl) (fun a S => ?_)
    obtain ⟨x49, e50, hm⟩ := bind_some hm
    refine lx_call (xs := [.tmp 18]) S (want_b rfl rfl hc46) (by decide) rfl rfl Tryz.call132 ((impl_Decimal_ok (hG.ext H.ext).toGlob  e50).mono ?_)
    rintro e w47 ⟨rfl, Hc48⟩
    have H := H.call0 Hc48
    refine ⟨_, rfl, trivial, fun a S => ?_⟩
    refine lx_q (sv a0) S (want_b rfl rfl hc46) (by decide) (q_move rfl) (fun a S => ?_)
    refine lx_q (.bool (x49 != a0)) S (want_b rfl rfl hc46) (by decide) (q_sneq rfl rfl) (fun a S => ?_)
    refine lq (.bool (x49 != a0)) S (q_pickF' rfl hc46 rfl) fun a S => ?_
    refine lx_nil ?_
    obtain rfl := Option.some.inj hm
    exact ⟨S.sub ⟨rfl, rfl, trivial⟩, H⟩
  ·rintro a w ⟨S, H⟩
   refine lx_nil (thenN ?_)
   refine cond_b S rfl (fun hc52 => ?_) (fun hc52 => ?_)
   ·have hm := ite_t hc52 hm
    refine wp_seq (region_plain ?_)
    refine lq (.int .i64 (0 : Int)) S (q_assign rfl) fun a S => ?_
    refine lq (.bool false) S (q_assign rfl) fun a S => ?_
    refine lx_nil (thenN ?_)
    refine wp_ret (then_ret ?_)
    obtain rfl := Option.some.inj hm
    exact leave2 S rfl rfl rfl ⟨rfl, H⟩
   ·have hm := ite_f hc52 hm
    refine wp_skip (thenN ?_)
    refine wp_seq (region_plain ?_)
    refine lq (.int .i64 x39.1) S (q_move rfl) fun a S => ?_
    refine lq (.int .i64 x39.1) S (q_assign rfl) fun a S => ?_
    refine lq (.bool true) S (q_assign rfl) fun a S => ?_
    refine lx_nil (thenN ?_)
    refine wp_ret ?_
    obtain rfl := Option.some.inj hm
    exact leave2 S rfl rfl rfl ⟨rfl, H⟩

/-- impl.readNumbers -/
def impl_readNumbers_m (fuel : Nat) (a0 : (List Str)) : Option (((List Int) × Bool)) :=
  (iter (fun (s : (List Int) × (Int)) => (match s with | (xs57, x59) => (if (decide (x59 < (a0.length : Int))) = true then (idx a0 x59).bind fun x97 => (impl_ReadDecimal_m fuel x97).bind fun x104 => (if (!x104.2) = true then some (.inr (.inr ([], false))) else (app xs57 [x104.1]).bind fun x112 => some (.inl (x112, (W (x59 + (1 : Int)))))) else some (.inr (.inl (xs57)))) : Option (((List Int) × (Int)) ⊕ (((List Int)) ⊕ (((List Int) × Bool)))))) fuel ([], (0 : Int))).bind fun res87 => ctl (β := (List Int)) (ρ := ((List Int) × Bool)) (τ := ((List Int) × Bool)) res87 (fun (xs85) => some ((xs85, true))) (fun q => some (q))
set_option maxRecDepth 20000 in
theorem impl_readNumbers_ok {w0 : World} {fuel : Nat} {p0 : Value} {a0 : (List Str)} {r : ((List Int) × Bool)} (hG : GlobE Tryz.prog w0) (h0 : Rd (rList rStr) w0 p0 a0) (hm : impl_readNumbers_m fuel a0 = some r) :
  Calls Tryz.prog 108 #[p0] w0 fun e w => ∃ (v0 : Value), e = .returned (.tuple #[v0, .bool r.2]) ∧ Heap w0 [oA (rList (rInt .i64)) v0 r.1] w := by
 unfold impl_readNumbers_m at hm
 have H := Heap.start w0
 refine enter (args := [p0]) Tryz.func108 rfl 28 rfl (Nat.le_of_ble_eq_true rfl) (fun a S => ?_)
 refine wp_seq (region_plain ?_)
 refine lq (.slice none 0 0) S (q_assign rfl) fun a S => ?_
 refine lq (.bool false) S (q_assign rfl) fun a S => ?_
 refine lx_nil (thenN ?_)
 refine wp_seq (region_plain ?_)
 refine lq (.slice none 0 0) S (q_assign rfl) fun a S => ?_
 refine lx_nil (thenN ?_)
 refine wp_seq (wp_seq (region_plain ?_))
 refine lq p0 S (q_move rfl) fun a S => ?_
 refine lq (.int .i64 (a0.length : Int)) S (q_lenSl rfl (h0).isSl rfl Tryz.underlying30) fun a S => ?_
 refine lq (.int .i64 (0 : Int)) S (q_move rfl) fun a S => ?_
 refine lx_nil (thenN ?_)
 obtain ⟨res87, hit88, hk91⟩ := bind_some hm
 obtain ⟨f89, hf90, hit88⟩ := iter_name hit88
 refine block_loop (fun a w => ∃ (xs85 : List Int) (v84 : Value), Slots a 28 [(4, v84)] ∧ Heap w0 [oA (rList (rInt .i64)) v84 xs85] w ∧ res87 = .inl (xs85)) ?_ ?_
 ·rintro a w ⟨xs85, v84, S, H, rfl⟩
  have hm := ctl_inl hk91
  refine thenN ?_
  refine wp_seq (region_plain ?_)
  refine lq v84 S (q_move rfl) fun a S => ?_
  refine lq v84 S (q_assign rfl) fun a S => ?_
  refine lq (.bool true) S (q_assign rfl) fun a S => ?_
  refine lx_nil (thenN ?_)
  refine wp_ret ?_
  obtain rfl := Option.some.inj hm
  exact leave2 S rfl rfl rfl ⟨v84, rfl, H⟩
 ·skip
  have H : Heap w0 [oA (rList (rInt .i64)) (.slice none 0 0) ([] : List Int)] w0 := H.nilList (rInt .i64)
  refine loop_ghost (fun n a w => ∃ (xs57 : List Int) (x59 : Int) (v56 : Value), Slots a 28 [(4, v56), (9, p0), (10, (.int .i64 (a0.length : Int))), (11, (.int .i64 x59))] ∧ Heap w0 [oA (rList (rInt .i64)) v56 xs57] w ∧ iter f89 n (xs57, x59) = some res87) _ ⟨[], (0 : Int), (.slice none 0 0), S.sub ⟨rfl, rfl, rfl, rfl, trivial⟩, H, hit88⟩ ?_
  rintro n a w ⟨xs57, x59, v56, S, H, hit88⟩
  obtain ⟨m93, o94, rfl, hm, hc95⟩ := iter_step hit88
  rw [hf90] at hm
  refine wp_seq (region_plain ?_)
  refine lq (.bool (decide (x59 < (a0.length : Int)))) S (q_lss rfl rfl) fun a S => ?_
  refine lx_nil (thenN ?_)
  refine wp_seq ?_
  refine cond_b S rfl (fun hc96 => ?_) (fun hc96 => ?_)
  ·have hm := ite_t hc96 hm
   refine wp_skip (thenN ?_)
   refine wp_seq ?_
   refine wp_block ?_
   refine wp_seq (region_plain ?_)
   obtain ⟨x97, e98, hm⟩ := bind_some hm
   obtain ⟨c99, h100, hat101⟩ := (h0).elem (idx_some e98).2
   obtain rfl := h100
   have hlt := lt_of_idx (idx_some e98).2
   refine lq (ePtr p0 (x59.toNat * 1)) S (q_indexAddr rfl (h0).isSl rfl (idx_some e98).1 hlt Tryz.underlying30 Tryz.sizeOf9) fun a S => ?_
   refine lx_e (sv x97) S trivial (by decide) rfl trivial (q_load1 rfl Tryz.isAgg9 (by rintro _ rfl; exact ((hat101 0 _ rfl).ext H.ext))) (fun a S => ?_)
   refine lq (sv x97) S (q_assign rfl) fun a S => ?_
   refine lx_nil (thenN ?_)
   refine wp_seq (region_plain ?_)
   refine lq (sv x97) S (q_move rfl) fun a S => ?_
   obtain ⟨x104, e105, hm⟩ := bind_some hm
   refine lx_call (xs := [.tmp 16]) S trivial (by decide) rfl rfl Tryz.call120 ((impl_ReadDecimal_ok (hG.ext H.ext)  e105).mono ?_)
   rintro e w102 ⟨rfl, Hc103⟩
   have H := H.call0 Hc103
   refine ⟨_, rfl, trivial, fun a S => ?_⟩
   refine lq (.tuple #[(.int .i64 x104.1), (.bool x104.2)]) S (q_move rfl) fun a S => ?_
   refine lq (.int .i64 x104.1) S (q_extract rfl rfl) fun a S => ?_
   refine lq (.bool x104.2) S (q_extract rfl rfl) fun a S => ?_
   refine lq (.int .i64 x104.1) S (q_assign rfl) fun a S => ?_
   refine lq (.bool x104.2) S (q_assign rfl) fun a S => ?_
   refine lx_nil (thenN ?_)
   refine wp_seq (wp_seq (region_plain ?_))
   refine lq (.bool x104.2) S (q_move rfl) fun a S => ?_
   refine lq (.bool (!x104.2)) S (q_not rfl) fun a S => ?_
   refine lx_nil (thenN ?_)
   refine cond_b S rfl (fun hc107 => ?_) (fun hc107 => ?_)
   ·have hm := ite_t hc107 hm
    refine wp_seq (region_plain ?_)
    refine lq (.slice none 0 0) S (q_assign rfl) fun a S => ?_
    refine lq (.bool false) S (q_assign rfl) fun a S => ?_
    refine lx_nil (thenN ?_)
    refine wp_ret (then_ret ?_)
    refine inBlock_ret ?_
    refine then_ret ?_
    refine then_ret ?_
    refine inBlock_ret ?_
    refine then_ret ?_
    refine then_ret ?_
    obtain rfl := it_brk hm hc95
    have hm := ctl_inr hk91
    obtain rfl := Option.some.inj hm
    have H : Heap w0 [oA (rList (rInt .i64)) (.slice none 0 0) ([] : List Int), oA (rList (rInt .i64)) v56 xs57] w102 := H.nilList (rInt .i64)
    have H : Heap w0 [oA (rList (rInt .i64)) (.slice none 0 0) ([] : List Int)] w102 := H.sel [0] (by decide)
    exact leave2 S rfl rfl rfl ⟨(.slice none 0 0), rfl, H⟩
   ·have hm := ite_f hc107 hm
    refine wp_skip (thenN ?_)
    refine region_plain ?_
    refine lq v56 S (q_move rfl) fun a S => ?_
    refine lq (.int .i64 x104.1) S (q_move rfl) fun a S => ?_
    refine lx_buildSlice (r := (rInt .i64)) (xs := [x104.1]) (ps := [(0, [(.int .i64 x104.1)])]) (cs := [(.int .i64 x104.1)]) (parts := [(0, .tmp 23)]) S trivial (by decide) rfl (H.put0 (A := eA) rfl) rfl Tryz.underlying45 Tryz.sizeOf2 Tryz.zeroValue2 (by decide) ⟨rfl, rfl, Nat.le_of_ble_eq_true rfl, trivial⟩ (by intro zs hz; exact fill_dense hz ⟨rfl, trivial⟩ rfl rfl) rfl (by decide) (fun w F hA => by cases (show F = [] from hA); exact ⟨_, _, [(.int .i64 x104.1)], _, rfl, rfl, ⟨rfl, rfl⟩, ⟨rfl, rfl⟩⟩) (fun v109 w110 H => ⟨trivial, fun a S => ?_⟩)
    obtain ⟨x112, e113, hm⟩ := bind_some hm
    obtain ⟨hle, hap⟩ := app_some e113
    replace hap := hap.symm
    subst hap
    have H : Heap w0 [oA (rList (rInt .i64)) v109 [x104.1], oA (rList (rInt .i64)) v56 xs57] w110 := H.front 0 rfl
    have H : Heap w0 [oA (rList (rInt .i64)) v56 xs57, oA (rList (rInt .i64)) v109 [x104.1]] w110 := H.front 1 rfl
    refine lx_appendOwn (r := (rInt .i64)) S trivial (by decide) rfl H rfl rfl Tryz.underlying45 Tryz.ti2 rfl rfl rfl (Nat.le_of_ble_eq_true rfl) (by decide) hle (fun v114 w115 H => ⟨trivial, fun a S => ?_⟩)
    refine lq v114 S (q_assign rfl) fun a S => ?_
    refine lx_nil ?_
    refine inBlock_norm ?_
    refine thenN ?_
    refine region_plain ?_
    refine lq (.int .i64 (W (x59 + (1 : Int)))) S (q_add rfl rfl) fun a S => ?_
    refine lq (.int .i64 (W (x59 + (1 : Int)))) S (q_move rfl) fun a S => ?_
    refine lx_nil ?_
    exact ⟨m93, Nat.lt_succ_self _, (xs57 ++ [x104.1]), (W (x59 + (1 : Int))), v114, S.sub ⟨rfl, rfl, rfl, rfl, trivial⟩, H, it_cont hm hc95⟩
  ·have hm := ite_f hc96 hm
   refine wp_exit ?_
   refine then_exit ?_
   refine then_exit ?_
   refine inBlock_exit ?_
   obtain rfl := it_brk hm hc95
   exact ⟨xs57, v56, S.sub ⟨rfl, trivial⟩, H, rfl⟩

/-- impl.isDigit -/
def impl_isDigit_m (_ : Nat) (a0 : Int) : Option (Bool) :=
  (if (decide ((48 : Int) ≤ a0)) = true then some (decide (a0 ≤ (57 : Int))) else some false).bind fun t31 => some (t31)
set_option maxRecDepth 20000 in
theorem impl_isDigit_ok {w0 : World} {fuel : Nat} {a0 : Int} {r : Bool} (hm : impl_isDigit_m fuel a0 = some r) :
  Calls Tryz.prog 128 #[.int .u8 a0] w0 fun e w => e = .returned (.bool r) ∧ Heap w0 [] w := by
 unfold impl_isDigit_m at hm
 have H := Heap.start w0
 refine enter (args := [.int .u8 a0]) Tryz.func128 rfl 9 rfl (Nat.le_of_ble_eq_true rfl) (fun a S => ?_)
 refine wp_seq (region_plain ?_)
 refine lq (.bool false) S (q_assign rfl) fun a S => ?_
 refine lx_nil (thenN ?_)
 refine wp_seq (region_plain ?_)
 refine lq (.int .u8 a0) S (q_move rfl) fun a S => ?_
 refine lq (.bool (decide ((48 : Int) ≤ a0))) S (q_geq rfl rfl) fun a S => ?_
 refine lq (.bool (decide ((48 : Int) ≤ a0))) S (q_move rfl) fun a S => ?_
 obtain ⟨t31, e32, hm⟩ := bind_some hm
 refine lx_cut 3 (fun a w => Slots a 9 [(8, (.bool t31))] ∧ Heap w0 [] w) ?_ ?_
 ·by_cases hc33 : (decide ((48 : Int) ≤ a0)) = true
  ·have hm := ite_t hc33 e32
   refine lx_q (.int .u8 a0) S (want_b rfl rfl hc33) (by decide) (q_move rfl) (fun a S => ?_)
   refine lx_q (.bool (decide (a0 ≤ (57 : Int)))) S (want_b rfl rfl hc33) (by decide) (q_leq rfl rfl) (fun a S => ?_)
   refine lq (.bool (decide (a0 ≤ (57 : Int)))) S (q_pickT' rfl hc33 rfl) fun a S => ?_
   refine lx_nil ?_
   obtain rfl := Option.some.inj hm
   exact ⟨S.sub ⟨rfl, trivial⟩, H⟩
  ·have hm := ite_f (eq_false_of_ne_true hc33) e32
   have hc33 : (decide ((48 : Int) ≤ a0)) = false := eq_false_of_ne_true hc33
   refine lx_skip S rfl rfl (isB_ne hc33) (by decide) (fun a S => ?_)
   refine lx_skip S rfl rfl (isB_ne hc33) (by decide) (fun a S => ?_)
   refine lq (.bool false) S (q_pickF' rfl hc33 rfl) fun a S => ?_
   refine lx_nil ?_
   obtain rfl := Option.some.inj hm
   exact ⟨S.sub ⟨rfl, trivial⟩, H⟩
 ·rintro a w ⟨S, H⟩
  refine lq (.bool t31) S (q_assign rfl) fun a S => ?_
  refine lx_nil (thenN ?_)
  refine wp_ret ?_
  obtain rfl := Option.some.inj hm
  exact leave1 S rfl rfl ⟨rfl, H⟩

/-- impl.IsName -/
def impl_IsName_m (fuel : Nat) (a0 : Str) : Option (Bool) :=
  (iter (fun (s : (Int)) => (match s with | (x54) => (if (decide (x54 < (a0.length : Int))) = true then (idx a0 x54).bind fun b90 => (if (decide ((97 : Int) ≤ (b90.toNat : Int))) = true then (idx a0 x54).bind fun b95 => some (decide ((b95.toNat : Int) ≤ (122 : Int))) else some false).bind fun t92 => (if (!t92) = true then (if (x54 == (0 : Int)) = true then some true else (idx a0 x54).bind fun b103 => (impl_isDigit_m fuel (b103.toNat : Int)).bind fun x107 => some (!x107)).bind fun t100 => some t100 else some false).bind fun t97 => (if t97 = true then some (.inr (.inr false)) else some (.inl ((W (x54 + (1 : Int)))))) else some (.inr (.inl ()))) : Option (((Int)) ⊕ ((Unit) ⊕ (Bool))))) fuel ((0 : Int))).bind fun res78 => ctl (β := Unit) (ρ := Bool) (τ := Bool) res78 (fun _ => (if (decide ((1 : Int) ≤ (a0.length : Int))) = true then some (decide ((a0.length : Int) ≤ (10 : Int))) else some false).bind fun t83 => some (t83)) (fun q => some (q))
set_option maxRecDepth 20000 in
theorem impl_IsName_ok {w0 : World} {fuel : Nat} {a0 : Str} {r : Bool} (hm : impl_IsName_m fuel a0 = some r) :
  Calls Tryz.prog 118 #[sv a0] w0 fun e w => e = .returned (.bool r) ∧ Heap w0 [] w := by
 unfold impl_IsName_m at hm
 have H := Heap.start w0
 refine enter (args := [sv a0]) Tryz.func118 rfl 42 rfl (Nat.le_of_ble_eq_true rfl) (fun a S => ?_)
 refine wp_seq (region_plain ?_)
 refine lq (.bool false) S (q_assign rfl) fun a S => ?_
 refine lx_nil (thenN ?_)
 refine wp_seq (wp_seq (region_plain ?_))
 refine lq (sv a0) S (q_move rfl) fun a S => ?_
 refine lq (.int .i64 (a0.length : Int)) S (q_lenStr rfl rfl Tryz.underlying9) fun a S => ?_
 refine lq (.int .i64 (0 : Int)) S (q_move rfl) fun a S => ?_
 refine lx_nil (thenN ?_)
 obtain ⟨res78, hit79, hk82⟩ := bind_some hm
 obtain ⟨f80, hf81, hit79⟩ := iter_name hit79
 refine block_loop (fun a w => Slots a 42 [(0, (sv a0))] ∧ Heap w0 [] w ∧ res78 = .inl ()) ?_ ?_
 ·rintro a w ⟨S, H, rfl⟩
  have hm := ctl_inl hk82
  refine thenN ?_
  refine wp_seq (region_plain ?_)
  refine lq (sv a0) S (q_move rfl) fun a S => ?_
  refine lq (.int .i64 (a0.length : Int)) S (q_lenStr rfl rfl Tryz.underlying9) fun a S => ?_
  refine lq (.bool (decide ((1 : Int) ≤ (a0.length : Int)))) S (q_geq rfl rfl) fun a S => ?_
  refine lq (.bool (decide ((1 : Int) ≤ (a0.length : Int)))) S (q_move rfl) fun a S => ?_
  obtain ⟨t83, e84, hm⟩ := bind_some hm
  refine lx_cut 4 (fun a w => Slots a 42 [(41, (.bool t83))] ∧ Heap w0 [] w) ?_ ?_
  ·by_cases hc85 : (decide ((1 : Int) ≤ (a0.length : Int))) = true
   ·have hm := ite_t hc85 e84
    refine lx_q (sv a0) S (want_b rfl rfl hc85) (by decide) (q_move rfl) (fun a S => ?_)
    refine lx_q (.int .i64 (a0.length : Int)) S (want_b rfl rfl hc85) (by decide) (q_lenStr rfl rfl Tryz.underlying9) (fun a S => ?_)
    refine lx_q (.bool (decide ((a0.length : Int) ≤ (10 : Int)))) S (want_b rfl rfl hc85) (by decide) (q_leq rfl rfl) (fun a S => ?_)
    refine lq (.bool (decide ((a0.length : Int) ≤ (10 : Int)))) S (q_pickT' rfl hc85 rfl) fun a S => ?_
    refine lx_nil ?_
    obtain rfl := Option.some.inj hm
    exact ⟨S.sub ⟨rfl, trivial⟩, H⟩
   ·have hm := ite_f (eq_false_of_ne_true hc85) e84
    have hc85 : (decide ((1 : Int) ≤ (a0.length : Int))) = false := eq_false_of_ne_true hc85
    refine lx_skip S rfl rfl (isB_ne hc85) (by decide) (fun a S => ?_)
    refine lx_skip S rfl rfl (isB_ne hc85) (by decide) (fun a S => ?_)
    refine lx_skip S rfl rfl (isB_ne hc85) (by decide) (fun a S => ?_)
    refine lq (.bool false) S (q_pickF' rfl hc85 rfl) fun a S => ?_
    refine lx_nil ?_
    obtain rfl := Option.some.inj hm
    exact ⟨S.sub ⟨rfl, trivial⟩, H⟩
  ·rintro a w ⟨S, H⟩
   refine lq (.bool t83) S (q_assign rfl) fun a S => ?_
   refine lx_nil (thenN ?_)
   refine wp_ret ?_
   obtain rfl := Option.some.inj hm
   exact leave1 S rfl rfl ⟨rfl, H⟩
 ·skip
  refine loop_ghost (fun n a w => ∃ (x54 : Int), Slots a 42 [(0, (sv a0)), (6, (.int .i64 (a0.length : Int))), (7, (.int .i64 x54))] ∧ Heap w0 [] w ∧ iter f80 n (x54) = some res78) _ ⟨(0 : Int), S.sub ⟨rfl, rfl, rfl, trivial⟩, H, hit79⟩ ?_
  rintro n a w ⟨x54, S, H, hit79⟩
  obtain ⟨m86, o87, rfl, hm, hc88⟩ := iter_step hit79
  rw [hf81] at hm
  refine wp_seq (region_plain ?_)
  refine lq (.bool (decide (x54 < (a0.length : Int)))) S (q_lss rfl rfl) fun a S => ?_
  refine lx_nil (thenN ?_)
  refine wp_seq ?_
  refine cond_b S rfl (fun hc89 => ?_) (fun hc89 => ?_)
  ·have hm := ite_t hc89 hm
   refine wp_skip (thenN ?_)
   refine wp_seq ?_
   refine wp_block ?_
   refine wp_seq (region_plain ?_)
   refine lq (.int .i64 x54) S (q_move rfl) fun a S => ?_
   refine lq (.int .i64 x54) S (q_assign rfl) fun a S => ?_
   refine lx_nil (thenN ?_)
   refine wp_seq (region_plain ?_)
   refine lq (sv a0) S (q_move rfl) fun a S => ?_
   refine lq (.int .i64 x54) S (q_move rfl) fun a S => ?_
   obtain ⟨b90, e91, hm⟩ := bind_some hm
   refine lq (.int .u8 (b90.toNat : Int)) S (q_sidx rfl rfl Tryz.underlying9 e91) fun a S => ?_
   refine lq (.bool (decide ((97 : Int) ≤ (b90.toNat : Int)))) S (q_geq rfl rfl) fun a S => ?_
   refine lq (.bool (decide ((97 : Int) ≤ (b90.toNat : Int)))) S (q_move rfl) fun a S => ?_
   obtain ⟨t92, e93, hm⟩ := bind_some hm
   refine lx_cut 5 (fun a w => Slots a 42 [(0, (sv a0)), (3, (.int .i64 x54)), (6, (.int .i64 (a0.length : Int))), (7, (.int .i64 x54)), (19, (.bool t92))] ∧ Heap w0 [] w) ?_ ?_
   ·by_cases hc94 : (decide ((97 : Int) ≤ (b90.toNat : Int))) = true
    ·have hm := ite_t hc94 e93
     refine lx_q (sv a0) S (want_b rfl rfl hc94) (by decide) (q_move rfl) (fun a S => ?_)
     refine lx_q (.int .i64 x54) S (want_b rfl rfl hc94) (by decide) (q_move rfl) (fun a S => ?_)
     obtain ⟨b95, e96, hm⟩ := bind_some hm
     refine lx_q (.int .u8 (b95.toNat : Int)) S (want_b rfl rfl hc94) (by decide) (q_sidx rfl rfl Tryz.underlying9 e96) (fun a S => ?_)
     refine lx_q (.bool (decide ((b95.toNat : Int) ≤ (122 : Int)))) S (want_b rfl rfl hc94) (by decide) (q_leq rfl rfl) (fun a S => ?_)
     refine lq (.bool (decide ((b95.toNat : Int) ≤ (122 : Int)))) S (q_pickT' rfl hc94 rfl) fun a S => ?_
     refine lx_nil ?_
     obtain rfl := Option.some.inj hm
     exact ⟨S.sub ⟨rfl, rfl, rfl, rfl, rfl, trivial⟩, H⟩
    ·have hm := ite_f (eq_false_of_ne_true hc94) e93
     have hc94 : (decide ((97 : Int) ≤ (b90.toNat : Int))) = false := eq_false_of_ne_true hc94
     refine lx_skip S rfl rfl (isB_ne hc94) (by decide) (fun a S => ?_)
     refine lx_skip S rfl rfl (isB_ne hc94) (by decide) (fun a S => ?_)
     refine lx_skip S rfl rfl (isB_ne hc94) (by decide) (fun a S => ?_)
     refine lx_skip S rfl rfl (isB_ne hc94) (by decide) (fun a S => ?_)
     refine lq (.bool false) S (q_pickF' rfl hc94 rfl) fun a S => ?_
     refine lx_nil ?_
     obtain rfl := Option.some.inj hm
     exact ⟨S.sub ⟨rfl, rfl, rfl, rfl, rfl, trivial⟩, H⟩
   ·rintro a w ⟨S, H⟩
    refine lq (.bool t92) S (q_assign rfl) fun a S => ?_
    refine lx_nil (thenN ?_)
    refine wp_seq (region_plain ?_)
    refine lq (.bool t92) S (q_move rfl) fun a S => ?_
    refine lq (.bool (!t92)) S (q_not rfl) fun a S => ?_
    refine lq (.bool (!t92)) S (q_move rfl) fun a S => ?_
    obtain ⟨t97, e98, hm⟩ := bind_some hm
    refine lx_cut 10 (fun a w => Slots a 42 [(0, (sv a0)), (6, (.int .i64 (a0.length : Int))), (7, (.int .i64 x54)), (32, (.bool t97))] ∧ Heap w0 [] w) ?_ ?_
    ·by_cases hc99 : (!t92) = true
     ·have hm := ite_t hc99 e98
      refine lx_q (.int .i64 x54) S (want_b rfl rfl hc99) (by decide) (q_move rfl) (fun a S => ?_)
      refine lx_q (.bool (x54 == (0 : Int))) S (want_b rfl rfl hc99) (by decide) (q_eql rfl rfl) (fun a S => ?_)
      refine lx_q (.bool (x54 == (0 : Int))) S (want_b rfl rfl hc99) (by decide) (q_move rfl) (fun a S => ?_)
      obtain ⟨t100, e101, hm⟩ := bind_some hm
      refine lx_cut 6 (fun a w => Slots a 42 [(0, (sv a0)), (6, (.int .i64 (a0.length : Int))), (7, (.int .i64 x54)), (22, (.bool (!t92))), (31, (.bool t100))] ∧ Heap w0 [] w) ?_ ?_
      ·by_cases hc102 : (x54 == (0 : Int)) = true
       ·have hm := ite_t hc102 e101
        refine lx_skip S rfl rfl (isB_ne hc102) (by decide) (fun a S => ?_)
        refine lx_skip S rfl rfl (isB_ne hc102) (by decide) (fun a S => ?_)
        refine lx_skip S rfl rfl (isB_ne hc102) (by decide) (fun a S => ?_)
        refine lx_skip S rfl rfl (isB_ne hc102) (by decide) (fun a S => ?_)
        refine lx_skip S rfl rfl (isB_ne hc102) (by decide) (fun a S => ?_)
        refine lx_q (.bool true) S (want_b rfl rfl hc99) (by decide) (q_pickT' rfl hc102 rfl) (fun a S => ?_)
        refine lx_nil ?_
        obtain rfl := Option.some.inj hm
        exact ⟨S.sub ⟨rfl, rfl, rfl, rfl, rfl, trivial⟩, H⟩
       ·have hm := ite_f (eq_false_of_ne_true hc102) e101
        have hc102 : (x54 == (0 : Int)) = false := eq_false_of_ne_true hc102
        refine lx_q (sv a0) S (want_b rfl rfl hc102) (by decide) (q_move rfl) (fun a S => ?_)
        refine lx_q (.int .i64 x54) S (want_b rfl rfl hc102) (by decide) (q_move rfl) (fun a S => ?_)
        obtain ⟨b103, e104, hm⟩ := bind_some hm
        refine lx_q (.int .u8 (b103.toNat : Int)) S (want_b rfl rfl hc102) (by decide) (q_sidx rfl rfl Tryz.underlying9 e104) (fun a S => ?_)
        obtain ⟨x107, e108, hm⟩ := bind_some hm
        refine lx_call (xs := [.tmp 28]) S (want_b rfl rfl hc102) (by decide) rfl rfl Tryz.call128 ((impl_isDigit_ok  e108).mono ?_)
        rintro e w105 ⟨rfl, Hc106⟩
        have H := H.call0 Hc106
        refine ⟨_, rfl, trivial, fun a S => ?_⟩
        refine lx_q (.bool (!x107)) S (want_b rfl rfl hc102) (by decide) (q_not rfl) (fun a S => ?_)
        refine lx_q (.bool (!x107)) S (want_b rfl rfl hc99) (by decide) (q_pickF' rfl hc102 rfl) (fun a S => ?_)
        refine lx_nil ?_
        obtain rfl := Option.some.inj hm
        exact ⟨S.sub ⟨rfl, rfl, rfl, rfl, rfl, trivial⟩, H⟩
      ·rintro a w ⟨S, H⟩
       refine lq (.bool t100) S (q_pickT' rfl hc99 rfl) fun a S => ?_
       refine lx_nil ?_
       obtain rfl := Option.some.inj hm
       exact ⟨S.sub ⟨rfl, rfl, rfl, rfl, trivial⟩, H⟩
     ·have hm := ite_f (eq_false_of_ne_true hc99) e98
      have hc99 : (!t92) = false := eq_false_of_ne_true hc99
      refine lx_skip S rfl rfl (isB_ne hc99) (by decide) (fun a S => ?_)
      refine lx_skip S rfl rfl (isB_ne hc99) (by decide) (fun a S => ?_)
      refine lx_skip S rfl rfl (isB_ne hc99) (by decide) (fun a S => ?_)
      refine lx_skip S rfl rfl rfl (by decide) (fun a S => ?_)
      refine lx_skip S rfl rfl rfl (by decide) (fun a S => ?_)
      refine lx_skip S rfl rfl rfl (by decide) (fun a S => ?_)
      refine lx_skip S rfl rfl rfl (by decide) (fun a S => ?_)
      refine lx_skip S rfl rfl rfl (by decide) (fun a S => ?_)
      refine lx_skip S rfl rfl (isB_ne hc99) (by decide) (fun a S => ?_)
      refine lq (.bool false) S (q_pickF' rfl hc99 rfl) fun a S => ?_
      refine lx_nil ?_
      obtain rfl := Option.some.inj hm
      exact ⟨S.sub ⟨rfl, rfl, rfl, rfl, trivial⟩, H⟩
    ·rintro a w ⟨S, H⟩
     refine lx_nil (thenN ?_)
     refine cond_b S rfl (fun hc110 => ?_) (fun hc110 => ?_)
     ·have hm := ite_t hc110 hm
      refine wp_seq (region_plain ?_)
      refine lq (.bool false) S (q_assign rfl) fun a S => ?_
      refine lx_nil (thenN ?_)
      refine wp_ret (inBlock_ret ?_)
      refine then_ret ?_
      refine then_ret ?_
      refine inBlock_ret ?_
      refine then_ret ?_
      refine then_ret ?_
      obtain rfl := it_brk hm hc88
      have hm := ctl_inr hk82
      obtain rfl := Option.some.inj hm
      exact leave1 S rfl rfl ⟨rfl, H⟩
     ·have hm := ite_f hc110 hm
      refine wp_skip ?_
      refine inBlock_norm ?_
      refine thenN ?_
      refine region_plain ?_
      refine lq (.int .i64 (W (x54 + (1 : Int)))) S (q_add rfl rfl) fun a S => ?_
      refine lq (.int .i64 (W (x54 + (1 : Int)))) S (q_move rfl) fun a S => ?_
      refine lx_nil ?_
      exact ⟨m86, Nat.lt_succ_self _, (W (x54 + (1 : Int))), S.sub ⟨rfl, rfl, rfl, trivial⟩, H, it_cont hm hc88⟩
  ·have hm := ite_f hc89 hm
   refine wp_exit ?_
   refine then_exit ?_
   refine then_exit ?_
   refine inBlock_exit ?_
   obtain rfl := it_brk hm hc88
   exact ⟨S.sub ⟨rfl, trivial⟩, H, rfl⟩

/-- impl.IsAction -/
def impl_IsAction_m (fuel : Nat) (a0 : Str) : Option (Bool) :=
  (impl_IsName_m fuel a0).bind fun x33 => (if x33 = true then some (a0 != ([116, 97, 117] : Str)) else some false).bind fun t36 => some (t36)
set_option maxRecDepth 20000 in
theorem impl_IsAction_ok {w0 : World} {fuel : Nat} {a0 : Str} {r : Bool} (hm : impl_IsAction_m fuel a0 = some r) :
  Calls Tryz.prog 106 #[sv a0] w0 fun e w => e = .returned (.bool r) ∧ Heap w0 [] w := by
 unfold impl_IsAction_m at hm
 have H := Heap.start w0
 refine enter (args := [sv a0]) Tryz.func106 rfl 9 rfl (Nat.le_of_ble_eq_true rfl) (fun a S => ?_)
 refine wp_seq (region_plain ?_)
 refine lq (.bool false) S (q_assign rfl) fun a S => ?_
 refine lx_nil (thenN ?_)
 refine wp_seq (region_plain ?_)
 refine lq (sv a0) S (q_move rfl) fun a S => ?_
 obtain ⟨x33, e34, hm⟩ := bind_some hm
 refine lx_call (xs := [.tmp 3]) S trivial (by decide) rfl rfl Tryz.call118 ((impl_IsName_ok  e34).mono ?_)
 rintro e w31 ⟨rfl, Hc32⟩
 have H := H.call0 Hc32
 refine ⟨_, rfl, trivial, fun a S => ?_⟩
 refine lq (.bool x33) S (q_move rfl) fun a S => ?_
 obtain ⟨t36, e37, hm⟩ := bind_some hm
 refine lx_cut 3 (fun a w => Slots a 9 [(8, (.bool t36))] ∧ Heap w0 [] w) ?_ ?_
 ·by_cases hc38 : x33 = true
  ·have hm := ite_t hc38 e37
   refine lx_q (sv a0) S (want_b rfl rfl hc38) (by decide) (q_move rfl) (fun a S => ?_)
   refine lx_q (.bool (a0 != ([116, 97, 117] : Str))) S (want_b rfl rfl hc38) (by decide) (q_sneq rfl rfl) (fun a S => ?_)
   refine lq (.bool (a0 != ([116, 97, 117] : Str))) S (q_pickT' rfl hc38 rfl) fun a S => ?_
   refine lx_nil ?_
   obtain rfl := Option.some.inj hm
   exact ⟨S.sub ⟨rfl, trivial⟩, H⟩
  ·have hm := ite_f (eq_false_of_ne_true hc38) e37
   have hc38 : x33 = false := eq_false_of_ne_true hc38
   refine lx_skip S rfl rfl (isB_ne hc38) (by decide) (fun a S => ?_)
   refine lx_skip S rfl rfl (isB_ne hc38) (by decide) (fun a S => ?_)
   refine lq (.bool false) S (q_pickF' rfl hc38 rfl) fun a S => ?_
   refine lx_nil ?_
   obtain rfl := Option.some.inj hm
   exact ⟨S.sub ⟨rfl, trivial⟩, H⟩
 ·rintro a w ⟨S, H⟩
  refine lq (.bool t36) S (q_assign rfl) fun a S => ?_
  refine lx_nil (thenN ?_)
  refine wp_ret ?_
  obtain rfl := Option.some.inj hm
  exact leave1 S rfl rfl ⟨rfl, H⟩

/-- slices.IndexFunc[[]int64,int64] -/
def slices_IndexFunc__int64_int64_m (fuel : Nat) (a0 : (List Int)) (a1 : (Int → Option Bool)) : Option (Int) :=
  (iter (fun (s : (Int)) => (match s with | (x46) => (if (decide (x46 < (a0.length : Int))) = true then (idx a0 x46).bind fun x71 => (a1 x71).bind fun x80 => (if x80 = true then some (.inr (.inr x46)) else some (.inl ((W (x46 + (1 : Int)))))) else some (.inr (.inl ()))) : Option (((Int)) ⊕ ((Unit) ⊕ (Int))))) fuel ((0 : Int))).bind fun res62 => ctl (β := Unit) (ρ := Int) (τ := Int) res62 (fun _ => some ((-1 : Int))) (fun q => some (q))
set_option maxRecDepth 20000 in
theorem slices_IndexFunc__int64_int64_ok {w0 : World} {fuel : Nat} {p0 : Value} {a0 : (List Int)} {a1 : (Int → Option Bool)} {f1 : Nat} {fs1 cp1 : List Value} {r : Int} (h0 : Rd (rList (rInt .i64)) w0 p0 a0) (hcf1 : ∀ args w, (callFunc f1 args).run Tryz.prog w = .ok (.enter f1 args) w) (hf1 : ∀ {w : World} {x0_ : Int} {y : Bool}, Ext w0 w → a1 x0_ = some y → Calls Tryz.prog f1 (fs1 ++ ([.int .i64 x0_] : List Value) ++ cp1).toArray w fun e w' => e = .returned (.bool y) ∧ Heap w [] w') (hm : slices_IndexFunc__int64_int64_m fuel a0 a1 = some r) :
  Calls Tryz.prog 101 #[p0, .func (.func f1) fs1.toArray cp1.toArray] w0 fun e w => e = .returned (.int .i64 r) ∧ Heap w0 [] w := by
 unfold slices_IndexFunc__int64_int64_m at hm
 have H := Heap.start w0
 refine enter (args := [p0, .func (.func f1) fs1.toArray cp1.toArray]) Tryz.func101 rfl 19 rfl (Nat.le_of_ble_eq_true rfl) (fun a S => ?_)
 refine wp_seq (region_plain ?_)
 refine lq (.int .i64 (0 : Int)) S (q_assign rfl) fun a S => ?_
 refine lx_nil (thenN ?_)
 refine wp_seq (wp_seq (region_plain ?_))
 refine lq p0 S (q_move rfl) fun a S => ?_
 refine lq (.int .i64 (a0.length : Int)) S (q_lenSl rfl (h0).isSl rfl Tryz.underlying45) fun a S => ?_
 refine lq (.int .i64 (0 : Int)) S (q_move rfl) fun a S => ?_
 refine lx_nil (thenN ?_)
 obtain ⟨res62, hit63, hk66⟩ := bind_some hm
 obtain ⟨f64, hf65, hit63⟩ := iter_name hit63
 refine block_loop (fun a w => Slots a 19 [] ∧ Heap w0 [] w ∧ res62 = .inl ()) ?_ ?_
 ·rintro a w ⟨S, H, rfl⟩
  have hm := ctl_inl hk66
  refine thenN ?_
  refine wp_seq (region_plain ?_)
  refine lq (.int .i64 (-1 : Int)) S (q_assign rfl) fun a S => ?_
  refine lx_nil (thenN ?_)
  refine wp_ret ?_
  obtain rfl := Option.some.inj hm
  exact leave1 S rfl rfl ⟨rfl, H⟩
 ·skip
  refine loop_ghost (fun n a w => ∃ (x46 : Int), Slots a 19 [(0, p0), (1, (.func (.func f1) fs1.toArray cp1.toArray)), (7, (.int .i64 (a0.length : Int))), (8, (.int .i64 x46))] ∧ Heap w0 [] w ∧ iter f64 n (x46) = some res62) _ ⟨(0 : Int), S.sub ⟨rfl, rfl, rfl, rfl, trivial⟩, H, hit63⟩ ?_
  rintro n a w ⟨x46, S, H, hit63⟩
  obtain ⟨m67, o68, rfl, hm, hc69⟩ := iter_step hit63
  rw [hf65] at hm
  refine wp_seq (region_plain ?_)
  refine lq (.bool (decide (x46 < (a0.length : Int)))) S (q_lss rfl rfl) fun a S => ?_
  refine lx_nil (thenN ?_)
  refine wp_seq ?_
  refine cond_b S rfl (fun hc70 => ?_) (fun hc70 => ?_)
  ·have hm := ite_t hc70 hm
   refine wp_skip (thenN ?_)
   refine wp_seq ?_
   refine wp_block ?_
   refine wp_seq (region_plain ?_)
   refine lq (.int .i64 x46) S (q_move rfl) fun a S => ?_
   refine lq (.int .i64 x46) S (q_assign rfl) fun a S => ?_
   refine lx_nil (thenN ?_)
   refine wp_seq (region_plain ?_)
   refine lq (.func (.func f1) fs1.toArray cp1.toArray) S (q_move rfl) fun a S => ?_
   refine lq p0 S (q_move rfl) fun a S => ?_
   refine lq (.int .i64 x46) S (q_move rfl) fun a S => ?_
   obtain ⟨x71, e72, hm⟩ := bind_some hm
   obtain ⟨c73, h74, hat75⟩ := (h0).elem (idx_some e72).2
   obtain rfl := h74
   have hlt := lt_of_idx (idx_some e72).2
   refine lq (ePtr p0 (x46.toNat * 1)) S (q_indexAddr rfl (h0).isSl rfl (idx_some e72).1 hlt Tryz.underlying45 Tryz.sizeOf2) fun a S => ?_
   refine lx_e (.int .i64 x71) S trivial (by decide) rfl trivial (q_load1 rfl Tryz.isAgg2 (by rintro _ rfl; exact ((hat75 0 _ rfl).ext H.ext))) (fun a S => ?_)
   obtain ⟨x80, e81, hm⟩ := bind_some hm
   refine lx_callV (f := f1) (first := fs1) (cap := cp1) (xs := [.tmp 15]) S trivial (by decide) rfl rfl rfl hcf1 ((hf1 H.ext  e81).mono ?_)
   rintro e w78 ⟨rfl, Hc79⟩
   have H := H.call0 Hc79
   refine ⟨_, rfl, trivial, fun a S => ?_⟩
   refine lx_nil (thenN ?_)
   refine cond_b S rfl (fun hc83 => ?_) (fun hc83 => ?_)
   ·have hm := ite_t hc83 hm
    refine wp_seq (region_plain ?_)
    refine lq (.int .i64 x46) S (q_move rfl) fun a S => ?_
    refine lq (.int .i64 x46) S (q_assign rfl) fun a S => ?_
    refine lx_nil (thenN ?_)
    refine wp_ret (inBlock_ret ?_)
    refine then_ret ?_
    refine then_ret ?_
    refine inBlock_ret ?_
    refine then_ret ?_
    refine then_ret ?_
    obtain rfl := it_brk hm hc69
    have hm := ctl_inr hk66
    obtain rfl := Option.some.inj hm
    exact leave1 S rfl rfl ⟨rfl, H⟩
   ·have hm := ite_f hc83 hm
    refine wp_skip ?_
    refine inBlock_norm ?_
    refine thenN ?_
    refine region_plain ?_
    refine lq (.int .i64 (W (x46 + (1 : Int)))) S (q_add rfl rfl) fun a S => ?_
    refine lq (.int .i64 (W (x46 + (1 : Int)))) S (q_move rfl) fun a S => ?_
    refine lx_nil ?_
    exact ⟨m67, Nat.lt_succ_self _, (W (x46 + (1 : Int))), S.sub ⟨rfl, rfl, rfl, rfl, trivial⟩, H, it_cont hm hc69⟩
  ·have hm := ite_f hc70 hm
   refine wp_exit ?_
   refine then_exit ?_
   refine then_exit ?_
   refine inBlock_exit ?_
   obtain rfl := it_brk hm hc69
   exact ⟨S.sub trivial, H, rfl⟩

/-- slices.ContainsFunc[[]int64,int64] -/
def slices_ContainsFunc__int64_int64_m (fuel : Nat) (a0 : (List Int)) (a1 : (Int → Option Bool)) : Option (Bool) :=
  (slices_IndexFunc__int64_int64_m fuel a0 a1).bind fun x33 => some ((decide ((0 : Int) ≤ x33)))
set_option maxRecDepth 20000 in
theorem slices_ContainsFunc__int64_int64_ok {w0 : World} {fuel : Nat} {p0 : Value} {a0 : (List Int)} {a1 : (Int → Option Bool)} {f1 : Nat} {fs1 cp1 : List Value} {r : Bool} (h0 : Rd (rList (rInt .i64)) w0 p0 a0) (hcf1 : ∀ args w, (callFunc f1 args).run Tryz.prog w = .ok (.enter f1 args) w) (hf1 : ∀ {w : World} {x0_ : Int} {y : Bool}, Ext w0 w → a1 x0_ = some y → Calls Tryz.prog f1 (fs1 ++ ([.int .i64 x0_] : List Value) ++ cp1).toArray w fun e w' => e = .returned (.bool y) ∧ Heap w [] w') (hm : slices_ContainsFunc__int64_int64_m fuel a0 a1 = some r) :
  Calls Tryz.prog 89 #[p0, .func (.func f1) fs1.toArray cp1.toArray] w0 fun e w => e = .returned (.bool r) ∧ Heap w0 [] w := by
 unfold slices_ContainsFunc__int64_int64_m at hm
 have H := Heap.start w0
 refine enter (args := [p0, .func (.func f1) fs1.toArray cp1.toArray]) Tryz.func89 rfl 9 rfl (Nat.le_of_ble_eq_true rfl) (fun a S => ?_)
 refine wp_seq (region_plain ?_)
 refine lq (.bool false) S (q_assign rfl) fun a S => ?_
 refine lx_nil (thenN ?_)
 refine wp_seq (region_plain ?_)
 refine lq p0 S (q_move rfl) fun a S => ?_
 refine lq (.func (.func f1) fs1.toArray cp1.toArray) S (q_move rfl) fun a S => ?_
 obtain ⟨x33, e34, hm⟩ := bind_some hm
 refine lx_call (xs := [.tmp 5, .tmp 6]) S trivial (by decide) rfl rfl Tryz.call101 ((slices_IndexFunc__int64_int64_ok (f1 := f1) (fs1 := fs1) (cp1 := cp1) (a1 := a1) (H.arg h0) hcf1 (fun he  hm => hf1 ((H.ext).trans he)  hm) e34).mono ?_)
 rintro e w31 ⟨rfl, Hc32⟩
 have H := H.call0 Hc32
 refine ⟨_, rfl, trivial, fun a S => ?_⟩
 refine lq (.bool (decide ((0 : Int) ≤ x33))) S (q_geq rfl rfl) fun a S => ?_
 refine lq (.bool (decide ((0 : Int) ≤ x33))) S (q_assign rfl) fun a S => ?_
 refine lx_nil (thenN ?_)
 refine wp_ret ?_
 obtain rfl := Option.some.inj hm
 exact leave1 S rfl rfl ⟨rfl, H⟩

/-- impl.isValue -/
def impl_isValue_m (fuel : Nat) (a0 : Int) : Option (Bool) :=
  (impl_within_m fuel a0 (0 : Int) (63 : Int)).bind fun x33 => some (x33)
set_option maxRecDepth 20000 in
theorem impl_isValue_ok {w0 : World} {fuel : Nat} {a0 : Int} {r : Bool} (hm : impl_isValue_m fuel a0 = some r) :
  Calls Tryz.prog 137 #[.int .i64 a0] w0 fun e w => e = .returned (.bool r) ∧ Heap w0 [] w := by
 unfold impl_isValue_m at hm
 have H := Heap.start w0
 refine enter (args := [.int .i64 a0]) Tryz.func137 rfl 5 rfl (Nat.le_of_ble_eq_true rfl) (fun a S => ?_)
 refine wp_seq (region_plain ?_)
 refine lq (.bool false) S (q_assign rfl) fun a S => ?_
 refine lx_nil (thenN ?_)
 refine wp_seq (region_plain ?_)
 refine lq (.int .i64 a0) S (q_move rfl) fun a S => ?_
 obtain ⟨x33, e34, hm⟩ := bind_some hm
 refine lx_call (xs := [.tmp 3, .const (.int .i64 (0)), .const (.int .i64 (63))]) S trivial (by decide) rfl rfl Tryz.call77 ((impl_within_ok    e34).mono ?_)
 rintro e w31 ⟨rfl, Hc32⟩
 have H := H.call0 Hc32
 refine ⟨_, rfl, trivial, fun a S => ?_⟩
 refine lq (.bool x33) S (q_assign rfl) fun a S => ?_
 refine lx_nil (thenN ?_)
 refine wp_ret ?_
 obtain rfl := Option.some.inj hm
 exact leave1 S rfl rfl ⟨rfl, H⟩

/-- impl.areValues$1 -/
def impl_areValues_1_m (fuel : Nat) (a0 : Int) : Option (Bool) :=
  (impl_isValue_m fuel a0).bind fun x33 => some ((!x33))
set_option maxRecDepth 20000 in
theorem impl_areValues_1_ok {w0 : World} {fuel : Nat} {a0 : Int} {r : Bool} (hm : impl_areValues_1_m fuel a0 = some r) :
  Calls Tryz.prog 136 #[.int .i64 a0] w0 fun e w => e = .returned (.bool r) ∧ Heap w0 [] w := by
 unfold impl_areValues_1_m at hm
 have H := Heap.start w0
 refine enter (args := [.int .i64 a0]) Tryz.func136 rfl 6 rfl (Nat.le_of_ble_eq_true rfl) (fun a S => ?_)
 refine wp_seq (region_plain ?_)
 refine lq (.bool false) S (q_assign rfl) fun a S => ?_
 refine lx_nil (thenN ?_)
 refine wp_seq (region_plain ?_)
 refine lq (.int .i64 a0) S (q_move rfl) fun a S => ?_
 obtain ⟨x33, e34, hm⟩ := bind_some hm
 refine lx_call (xs := [.tmp 3]) S trivial (by decide) rfl rfl Tryz.call137 ((impl_isValue_ok  e34).mono ?_)
 rintro e w31 ⟨rfl, Hc32⟩
 have H := H.call0 Hc32
 refine ⟨_, rfl, trivial, fun a S => ?_⟩
 refine lq (.bool (!x33)) S (q_not rfl) fun a S => ?_
 refine lq (.bool (!x33)) S (q_assign rfl) fun a S => ?_
 refine lx_nil (thenN ?_)
 refine wp_ret ?_
 obtain rfl := Option.some.inj hm
 exact leave1 S rfl rfl ⟨rfl, H⟩

/-- impl.areValues -/
def impl_areValues_m (fuel : Nat) (a0 : (List Int)) : Option (Bool) :=
  (slices_ContainsFunc__int64_int64_m fuel a0 (fun (z0 : Int) => impl_areValues_1_m fuel z0)).bind fun x33 => some ((!x33))
set_option maxRecDepth 20000 in
theorem impl_areValues_ok {w0 : World} {fuel : Nat} {p0 : Value} {a0 : (List Int)} {r : Bool} (h0 : Rd (rList (rInt .i64)) w0 p0 a0) (hm : impl_areValues_m fuel a0 = some r) :
  Calls Tryz.prog 123 #[p0] w0 fun e w => e = .returned (.bool r) ∧ Heap w0 [] w := by
 unfold impl_areValues_m at hm
 have H := Heap.start w0
 refine enter (args := [p0]) Tryz.func123 rfl 6 rfl (Nat.le_of_ble_eq_true rfl) (fun a S => ?_)
 refine wp_seq (region_plain ?_)
 refine lq (.bool false) S (q_assign rfl) fun a S => ?_
 refine lx_nil (thenN ?_)
 refine wp_seq (region_plain ?_)
 refine lq p0 S (q_move rfl) fun a S => ?_
 obtain ⟨x33, e34, hm⟩ := bind_some hm
 refine lx_call (xs := [.tmp 3, .func 136]) S trivial (by decide) rfl rfl Tryz.call89 ((slices_ContainsFunc__int64_int64_ok (f1 := 136) (fs1 := ([] : List Value)) (cp1 := ([] : List Value)) (a1 := (fun (z0 : Int) => impl_areValues_1_m fuel z0)) (H.arg h0) Tryz.call136 (fun he  hm => impl_areValues_1_ok    hm) e34).mono ?_)
 rintro e w31 ⟨rfl, Hc32⟩
 have H := H.call0 Hc32
 refine ⟨_, rfl, trivial, fun a S => ?_⟩
 refine lq (.bool (!x33)) S (q_not rfl) fun a S => ?_
 refine lq (.bool (!x33)) S (q_assign rfl) fun a S => ?_
 refine lx_nil (thenN ?_)
 refine wp_ret ?_
 obtain rfl := Option.some.inj hm
 exact leave1 S rfl rfl ⟨rfl, H⟩

/-- impl.joined -/
def impl_joined_m (fuel : Nat) (a0 : (List Int)) (a1 : Str) : Option (Str) :=
  (mks (a0.length : Int) ([] : Str)).bind fun x31 => (iter (fun (s : (List Str) × (Int)) => (match s with | (xs53, x54) => (if (decide (x54 < (a0.length : Int))) = true then (idx a0 x54).bind fun x86 => (impl_Decimal_m fuel x86).bind fun x93 => (idx xs53 x54).bind fun _ => some (.inl ((xs53.set x54.toNat x93), (W (x54 + (1 : Int))))) else some (.inr (.inl (xs53)))) : Option (((List Str) × (Int)) ⊕ (((List Str)) ⊕ (Str))))) fuel (x31, (0 : Int))).bind fun res72 => ctl (β := (List Str)) (ρ := Str) (τ := Str) res72 (fun (xs71) => (strings_Join_m fuel xs71 a1).bind fun x79 => some (x79)) (fun q => some (q))
set_option maxRecDepth 20000 in
theorem impl_joined_ok {w0 : World} {fuel : Nat} {p0 : Value} {a0 : (List Int)} {a1 : Str} {r : Str} (hG : Glob Tryz.prog w0) (h0 : Rd (rList (rInt .i64)) w0 p0 a0) (hm : impl_joined_m fuel a0 a1 = some r) :
  Calls Tryz.prog 124 #[p0, sv a1] w0 fun e w => e = .returned (sv r) ∧ Heap w0 [] w := by
 unfold impl_joined_m at hm
 have H := Heap.start w0
 refine enter (args := [p0, sv a1]) Tryz.func124 rfl 27 rfl (Nat.le_of_ble_eq_true rfl) (fun a S => ?_)
 refine wp_seq (region_plain ?_)
 refine lq (sv ([] : Str)) S (q_assign rfl) fun a S => ?_
 refine lx_nil (thenN ?_)
 refine wp_seq (region_plain ?_)
 refine lq p0 S (q_move rfl) fun a S => ?_
 refine lq (.int .i64 (a0.length : Int)) S (q_lenSl rfl (h0).isSl rfl Tryz.underlying45) fun a S => ?_
 obtain ⟨x31, e32, hm⟩ := bind_some hm
 obtain ⟨m33, hn, hn2, rfl⟩ := mks_some e32
 refine lx_make (r := rStr) (z0 := ([] : Str)) (n := m33) S trivial (by decide) rfl H (by rw [← hn]; rfl) (by rw [← hn]; rfl) Tryz.underlying30 (Tryz.ti9) rfl rfl (Nat.le_of_ble_eq_true rfl) (fun w => ⟨rfl, rfl⟩) hn2 (by decide) (fun v34 w35 H => ⟨trivial, fun a S => ?_⟩)
 refine lq v34 S (q_assign rfl) fun a S => ?_
 refine lx_nil (thenN ?_)
 refine wp_seq (wp_seq (region_plain ?_))
 refine lq p0 S (q_move rfl) fun a S => ?_
 refine lq (.int .i64 (a0.length : Int)) S (q_lenSl rfl (h0).isSl rfl Tryz.underlying45) fun a S => ?_
 refine lq (.int .i64 (0 : Int)) S (q_move rfl) fun a S => ?_
 refine lx_nil (thenN ?_)
 obtain ⟨res72, hit73, hk76⟩ := bind_some hm
 obtain ⟨f74, hf75, hit73⟩ := iter_name hit73
 refine block_loop (fun a w => ∃ (xs71 : List Str), Slots a 27 [(1, (sv a1)), (5, v34)] ∧ Heap w0 [oA (rList rStr) v34 xs71] w ∧ res72 = .inl (xs71)) ?_ ?_
 ·rintro a w ⟨xs71, S, H, rfl⟩
  have hm := ctl_inl hk76
  refine thenN ?_
  refine wp_seq (region_plain ?_)
  refine lq v34 S (q_move rfl) fun a S => ?_
  refine lq (sv a1) S (q_move rfl) fun a S => ?_
  obtain ⟨x79, e80, hm⟩ := bind_some hm
  refine lx_call (xs := [.tmp 24, .tmp 25]) S trivial (by decide) rfl rfl Tryz.call138 ((strings_Join_ok (H.rdAt 0 rfl)  e80).mono ?_)
  rintro e w77 ⟨rfl, Hc78⟩
  have H := H.call0 Hc78
  refine ⟨_, rfl, trivial, fun a S => ?_⟩
  refine lq (sv x79) S (q_assign rfl) fun a S => ?_
  refine lx_nil (thenN ?_)
  refine wp_ret ?_
  obtain rfl := Option.some.inj hm
  have H : Heap w0 [] w77 := H.sel [] (by decide)
  exact leave1 S rfl rfl ⟨rfl, H⟩
 ·skip
  refine loop_ghost (fun n a w => ∃ (xs53 : List Str) (x54 : Int), Slots a 27 [(1, (sv a1)), (5, v34), (11, p0), (12, (.int .i64 (a0.length : Int))), (13, (.int .i64 x54))] ∧ Heap w0 [oA (rList rStr) v34 xs53] w ∧ iter f74 n (xs53, x54) = some res72) _ ⟨(List.replicate m33 ([] : Str)), (0 : Int), S.sub ⟨rfl, rfl, rfl, rfl, rfl, trivial⟩, H, hit73⟩ ?_
  rintro n a w ⟨xs53, x54, S, H, hit73⟩
  obtain ⟨m82, o83, rfl, hm, hc84⟩ := iter_step hit73
  rw [hf75] at hm
  refine wp_seq (region_plain ?_)
  refine lq (.bool (decide (x54 < (a0.length : Int)))) S (q_lss rfl rfl) fun a S => ?_
  refine lx_nil (thenN ?_)
  refine wp_seq ?_
  refine cond_b S rfl (fun hc85 => ?_) (fun hc85 => ?_)
  ·have hm := ite_t hc85 hm
   refine wp_skip (thenN ?_)
   refine wp_seq ?_
   refine wp_block ?_
   refine wp_seq (region_plain ?_)
   refine lq (.int .i64 x54) S (q_move rfl) fun a S => ?_
   obtain ⟨x86, e87, hm⟩ := bind_some hm
   obtain ⟨c88, h89, hat90⟩ := (h0).elem (idx_some e87).2
   obtain rfl := h89
   have hlt := lt_of_idx (idx_some e87).2
   refine lq (ePtr p0 (x54.toNat * 1)) S (q_indexAddr rfl (h0).isSl rfl (idx_some e87).1 hlt Tryz.underlying45 Tryz.sizeOf2) fun a S => ?_
   refine lx_e (.int .i64 x86) S trivial (by decide) rfl trivial (q_load1 rfl Tryz.isAgg2 (by rintro _ rfl; exact ((hat90 0 _ rfl).ext H.ext))) (fun a S => ?_)
   refine lq (.int .i64 x54) S (q_assign rfl) fun a S => ?_
   refine lq (.int .i64 x86) S (q_assign rfl) fun a S => ?_
   refine lx_nil (thenN ?_)
   refine region_plain ?_
   refine lq v34 S (q_move rfl) fun a S => ?_
   refine lq (.int .i64 x54) S (q_move rfl) fun a S => ?_
   refine lq (.int .i64 x86) S (q_move rfl) fun a S => ?_
   obtain ⟨x93, e94, hm⟩ := bind_some hm
   refine lx_call (xs := [.tmp 20]) S trivial (by decide) rfl rfl Tryz.call132 ((impl_Decimal_ok (hG.ext H.ext)  e94).mono ?_)
   rintro e w91 ⟨rfl, Hc92⟩
   have H := H.call0 Hc92
   refine ⟨_, rfl, trivial, fun a S => ?_⟩
   obtain ⟨x96, e97, hm⟩ := bind_some hm
   have hlt := lt_of_idx (idx_some e97).2
   refine lq (ePtr v34 (x54.toNat * 1)) S (q_indexAddr rfl (H.isSl 0 rfl) rfl (idx_some e97).1 hlt Tryz.underlying30 Tryz.sizeOf9) fun a S => ?_
   refine lx_storeElem (r := rStr) (us := [(sv x93)]) (off := 0) (e' := x93) S trivial rfl H.putE (ev_zero rfl) rfl (idx_some e97).2 rfl Tryz.sizeOf9 (Nat.le_of_ble_eq_true rfl) (List.forall_mem_cons.2 ⟨rfl, (fun _ h => nomatch h)⟩) (Upd.full rfl (fun w G hG => by cases (show G = [] from hG); exact ⟨rfl, rfl⟩)) (fun w98 H => ⟨trivial, fun a S => ?_⟩)
   refine lx_nil ?_
   refine inBlock_norm ?_
   refine thenN ?_
   refine region_plain ?_
   refine lq (.int .i64 (W (x54 + (1 : Int)))) S (q_add rfl rfl) fun a S => ?_
   refine lq (.int .i64 (W (x54 + (1 : Int)))) S (q_move rfl) fun a S => ?_
   refine lx_nil ?_
   exact ⟨m82, Nat.lt_succ_self _, (xs53.set x54.toNat x93), (W (x54 + (1 : Int))), S.sub ⟨rfl, rfl, rfl, rfl, rfl, trivial⟩, H, it_cont hm hc84⟩
  ·have hm := ite_f hc85 hm
   refine wp_exit ?_
   refine then_exit ?_
   refine then_exit ?_
   refine inBlock_exit ?_
   obtain rfl := it_brk hm hc84
   exact ⟨xs53, S.sub ⟨rfl, rfl, trivial⟩, H, rfl⟩
end Go.Proofs.YtalcdoidimmdlaaGreatDoor
