/- The model of a statement and its walk (printed by a program of this repo). -/
import Derived.Test.YtkgkfbmcnchdbaaGreatDoorF0
import Derived.Test.YtkgkfbmcnchdbaaGreatDoorF1
import Derived.Test.YtkgkfbmcnchdbaaGreatDoorF11
import Derived.Test.YtkgkfbmcnchdbaaGreatDoorF2
import Derived.Test.YtkgkfbmcnchdbaaGreatDoorF3
import Derived.Test.YtkgkfbmcnchdbaaGreatDoorF4
import Derived.Test.YtkgkfbmcnchdbaaGreatDoorF7
import Derived.Test.YtkgkfbmcnchdbaaGreatDoorGxT
import Derived.Test.YtkgkfbmcnchdbaaGreatDoorGxY
namespace Go.Proofs.YtkgkfbmcnchdbaaGreatDoor
open Go.RowKit Go.Gx

/-- spec.l24Part -/
def spec_l24Part_m (fuel : Nat) (a0 : Timpl_Lts) (a1 : (List Timpl_Edge)) : Option (Bool) :=
  (iter (fun (s : (Int) × (Int)) => (match s with | (x162, x163) => (if (decide (x163 < (a1.length : Int))) = true then (iter (fun (s : (Int)) => (match s with | (x318) => (if (decide (x318 < (a0.2.2.2.length : Int))) = true then (idx a0.2.2.2 x318).bind fun x367 => (idx a1 x163).bind fun x380 => some ([x367.1, x367.2.1, x367.2.2] != [x380.1, x380.2.1, x380.2.2]) else some false).bind fun t364 => (if t364 = true then some (.inl ((W (x318 + (1 : Int))))) else some (.inr (.inl (x318)))) : Option (((Int)) ⊕ ((Int) ⊕ (Bool))))) fuel (x162)).bind fun res353 => ctl (β := Int) (ρ := Bool) (τ := (((Int) × (Int)) ⊕ ((Unit) ⊕ (Bool)))) res353 (fun (x352) => (if (x352 == (a0.2.2.2.length : Int)) = true then some (.inr (.inr false)) else some (.inl ((W (x352 + (1 : Int))), (W (x163 + (1 : Int))))))) (fun q => some (.inr (.inr q))) else some (.inr (.inl ()))) : Option (((Int) × (Int)) ⊕ ((Unit) ⊕ (Bool))))) fuel ((0 : Int), (0 : Int))).bind fun res276 => ctl (β := Unit) (ρ := Bool) (τ := Bool) res276 (fun _ => some (true)) (fun q => some (q))
set_option maxRecDepth 20000 in
theorem spec_l24Part_ok {w0 : World} {fuel : Nat} {p0 p1 : Value} {a0 : Timpl_Lts} {a1 : (List Timpl_Edge)} {r : Bool} (h0 : Rd (rPtr Rimpl_Lts) w0 p0 a0) (h1 : Rd (rList Rimpl_Edge) w0 p1 a1) (hm : spec_l24Part_m fuel a0 a1 = some r) :
  Calls Tryz.prog 110 #[p0, p1] w0 fun e w => e = .returned (.bool r) ∧ Heap w0 [] w := by
 unfold spec_l24Part_m at hm
 have H := Heap.start w0
 obtain ⟨c31, h32, hat33⟩ := h0.ptr
 obtain ⟨c38, c39, rfl, h40, h41⟩ := h32
 obtain rfl := h40
 obtain ⟨c42, c43, rfl, h44, h45⟩ := h41
 obtain rfl := h44
 obtain ⟨c46, c47, rfl, h48, h49⟩ := h45
 obtain ⟨v34, rfl, h35⟩ := rd_list h48
 obtain ⟨v36, rfl, h37⟩ := rd_list h49
 refine enter (args := [p0, p1]) Tryz.func110 rfl 45 rfl (Nat.le_of_ble_eq_true rfl) (fun a S => ?_)
 refine wp_seq (region_plain ?_)
 refine lq (.bool false) S (q_assign rfl) fun a S => ?_
 refine lx_nil (thenN ?_)
 refine wp_seq (region_plain ?_)
 refine lq (.int .i64 (0 : Int)) S (q_assign rfl) fun a S => ?_
 refine lx_nil (thenN ?_)
 refine wp_seq (wp_seq (region_plain ?_))
 refine lq (.int .i64 (0 : Int)) S (q_assign rfl) fun a S => ?_
 refine lx_nil (thenN ?_)
 obtain ⟨res276, hit277, hk280⟩ := bind_some hm
 obtain ⟨f278, hf279, hit277⟩ := iter_name hit277
 refine block_loop (fun a w => Slots a 45 [] ∧ Heap w0 [] w ∧ res276 = .inl ()) ?_ ?_
 ·rintro a w ⟨S, H, rfl⟩
  have hm := ctl_inl hk280
  refine thenN ?_
  refine wp_seq (region_plain ?_)
  refine lq (.bool true) S (q_assign rfl) fun a S => ?_
  refine lx_nil (thenN ?_)
  refine wp_ret ?_
  obtain rfl := Option.some.inj hm
  exact leave1 S rfl rfl ⟨rfl, H⟩
 ·skip
  refine loop_ghost (fun n a w => ∃ (x162 : Int) (x163 : Int), Slots a 45 [(0, p0), (1, p1), (5, (.int .i64 x162)), (6, (.int .i64 x163))] ∧ Heap w0 [] w ∧ iter f278 n (x162, x163) = some res276) _ ⟨(0 : Int), (0 : Int), S.sub ⟨rfl, rfl, rfl, rfl, trivial⟩, H, hit277⟩ ?_
  rintro n a w ⟨x162, x163, S, H, hit277⟩
  obtain ⟨m281, o282, rfl, hm, hc283⟩ := iter_step hit277
  rw [hf279] at hm
  refine wp_seq (wp_seq (region_plain ?_))
  refine lq (.int .i64 x163) S (q_move rfl) fun a S => ?_
  refine lq p1 S (q_move rfl) fun a S => ?_
  refine lq (.int .i64 (a1.length : Int)) S (q_lenSl rfl (h1).isSl rfl Tryz.underlying28) fun a S => ?_
  refine lq (.bool (decide (x163 < (a1.length : Int)))) S (q_lss rfl rfl) fun a S => ?_
  refine lx_nil (thenN ?_)
  refine cond_b S rfl (fun hc284 => ?_) (fun hc284 => ?_)
  ·have hm := ite_t hc284 hm
   refine wp_skip (thenN ?_)
   refine wp_seq ?_
   refine wp_block ?_
   refine wp_seq ?_
   obtain ⟨res353, hit354, hk357⟩ := bind_some hm
   obtain ⟨f355, hf356, hit354⟩ := iter_name hit354
   refine block_loop (fun a w => ∃ (x352 : Int), Slots a 45 [(0, p0), (1, p1), (5, (.int .i64 x352)), (6, (.int .i64 x163))] ∧ Heap w0 [] w ∧ res353 = .inl (x352)) ?_ ?_
   ·rintro a w ⟨x352, S, H, rfl⟩
    have hm := ctl_inl hk357
    refine thenN ?_
    refine wp_seq (wp_seq (region_plain ?_))
    refine lq (.int .i64 x352) S (q_move rfl) fun a S => ?_
    refine lq p0 S (q_move rfl) fun a S => ?_
    refine lq p0 S (q_nilCheck rfl ((hat33 0 _ rfl).isP)) fun a S => ?_
    refine lq (pAdd p0 3) S (q_fieldAddr' 3 28 rfl ((hat33 0 _ rfl).isP) Tryz.underlying30 rfl Tryz.sizeOf28) fun a S => ?_
    refine lx_e v36 S trivial (by decide) rfl trivial (q_load1 rfl Tryz.isAgg28 (by rintro _ rfl; exact (At.of_add (m := 3) (j := 0) ((hat33 3 _ rfl).ext H.ext)))) (fun a S => ?_)
    refine lq (.int .i64 (a0.2.2.2.length : Int)) S (q_lenSl rfl (h37).isSl rfl Tryz.underlying28) fun a S => ?_
    refine lq (.bool (x352 == (a0.2.2.2.length : Int))) S (q_eql rfl rfl) fun a S => ?_
    refine lx_nil (thenN ?_)
    refine cond_b S rfl (fun hc358 => ?_) (fun hc358 => ?_)
    ·have hm := ite_t hc358 hm
     refine wp_seq (region_plain ?_)
     refine lq (.bool false) S (q_assign rfl) fun a S => ?_
     refine lx_nil (thenN ?_)
     refine wp_ret (then_ret ?_)
     refine inBlock_ret ?_
     refine then_ret ?_
     refine then_ret ?_
     refine inBlock_ret ?_
     refine then_ret ?_
     refine then_ret ?_
     obtain rfl := it_brk hm hc283
     have hm := ctl_inr hk280
     obtain rfl := Option.some.inj hm
     exact leave1 S rfl rfl ⟨rfl, H⟩
    ·have hm := ite_f hc358 hm
     refine wp_skip (thenN ?_)
     refine region_plain ?_
     refine lq (.int .i64 x352) S (q_move rfl) fun a S => ?_
     refine lq (.int .i64 (W (x352 + (1 : Int)))) S (q_add rfl rfl) fun a S => ?_
     refine lq (.int .i64 (W (x352 + (1 : Int)))) S (q_assign rfl) fun a S => ?_
     refine lx_nil ?_
     refine inBlock_norm ?_
     refine thenN ?_
     refine region_plain ?_
     refine lq (.int .i64 x163) S (q_move rfl) fun a S => ?_
     refine lq (.int .i64 (W (x163 + (1 : Int)))) S (q_add rfl rfl) fun a S => ?_
     refine lq (.int .i64 (W (x163 + (1 : Int)))) S (q_assign rfl) fun a S => ?_
     refine lx_nil ?_
     exact ⟨m281, Nat.lt_succ_self _, (W (x352 + (1 : Int))), (W (x163 + (1 : Int))), S.sub ⟨rfl, rfl, rfl, rfl, trivial⟩, H, it_cont hm hc283⟩
   ·skip
    refine loop_ghost (fun n a w => ∃ (x318 : Int), Slots a 45 [(0, p0), (1, p1), (5, (.int .i64 x318)), (6, (.int .i64 x163))] ∧ Heap w0 [] w ∧ iter f355 n (x318) = some res353) _ ⟨x162, S.sub ⟨rfl, rfl, rfl, rfl, trivial⟩, H, hit354⟩ ?_
    rintro n a w ⟨x318, S, H, hit354⟩
    obtain ⟨m359, o360, rfl, hm, hc361⟩ := iter_step hit354
    rw [hf356] at hm
    refine wp_seq ?_
    refine wp_seq ?_
    refine region_drawG (fun w1 => Heap w0 [] w1) (fun i => [].contains i) mixed (by kernel_rfl) (fun w363 he362 => ?_)
    have H := H.later he362
    refine ⟨H.sel [] (by decide), ?_⟩
    refine lq (.int .i64 x318) S (q_move rfl) fun a S => ?_
    refine lq p0 S (q_move rfl) fun a S => ?_
    refine lq p0 S (q_nilCheck rfl ((hat33 0 _ rfl).isP)) fun a S => ?_
    refine lq (pAdd p0 3) S (q_fieldAddr' 3 28 rfl ((hat33 0 _ rfl).isP) Tryz.underlying30 rfl Tryz.sizeOf28) fun a S => ?_
    refine lq v36 S (q_load1 rfl Tryz.isAgg28 (fun w1 hC => (At.of_add (m := 3) (j := 0) ((hat33 3 _ rfl).ext hC.ext)))) fun a S => ?_
    refine lq (.int .i64 (a0.2.2.2.length : Int)) S (q_lenSl rfl (h37).isSl rfl Tryz.underlying28) fun a S => ?_
    refine lq (.bool (decide (x318 < (a0.2.2.2.length : Int)))) S (q_lss rfl rfl) fun a S => ?_
    refine lq (.bool (decide (x318 < (a0.2.2.2.length : Int)))) S (q_move rfl) fun a S => ?_
    obtain ⟨t364, e365, hm⟩ := bind_some hm
    refine lx_cut 13 (fun a w => Slots a 45 [(0, p0), (1, p1), (5, (.int .i64 x318)), (6, (.int .i64 x163)), (33, (.bool t364))] ∧ Heap w0 [] w) ?_ ?_
    ·by_cases hc366 : (decide (x318 < (a0.2.2.2.length : Int))) = true
     ·have hm := ite_t hc366 e365
      refine lx_q p0 S (want_b rfl rfl hc366) (by decide) (q_move rfl) (fun a S => ?_)
      refine lx_q p0 S (want_b rfl rfl hc366) (by decide) (q_nilCheck rfl ((hat33 0 _ rfl).isP)) (fun a S => ?_)
      refine lx_q (pAdd p0 3) S (want_b rfl rfl hc366) (by decide) (q_fieldAddr' 3 28 rfl ((hat33 0 _ rfl).isP) Tryz.underlying30 rfl Tryz.sizeOf28) (fun a S => ?_)
      refine lx_q v36 S (want_b rfl rfl hc366) (by decide) (q_load1 rfl Tryz.isAgg28 (fun w1 hC => (At.of_add (m := 3) (j := 0) ((hat33 3 _ rfl).ext hC.ext)))) (fun a S => ?_)
      refine lx_q (.int .i64 x318) S (want_b rfl rfl hc366) (by decide) (q_move rfl) (fun a S => ?_)
      obtain ⟨x367, e368, hm⟩ := bind_some hm
      obtain ⟨c369, h370, hat371⟩ := (h37).elem (idx_some e368).2
      obtain ⟨c372, c373, rfl, h374, h375⟩ := h370
      obtain rfl := h374
      obtain ⟨c376, c377, rfl, h378, h379⟩ := h375
      obtain rfl := h378
      obtain rfl := h379
      have hlt := lt_of_idx (idx_some e368).2
      refine lx_q (ePtr v36 (x318.toNat * 3)) S (want_b rfl rfl hc366) (by decide) (q_indexAddr rfl (h37).isSl rfl (idx_some e368).1 hlt Tryz.underlying28 Tryz.sizeOf72) (fun a S => ?_)
      refine lx_q (.agg #[(.int .i64 x367.1), (.int .i64 x367.2.1), (.int .i64 x367.2.2)]) S (want_b rfl rfl hc366) (by decide) (q_loadA (cs := [(.int .i64 x367.1), (.int .i64 x367.2.1), (.int .i64 x367.2.2)]) rfl ((hat371 0 _ rfl).isP) Tryz.isAgg72 Tryz.sizeOf72 (fun w1 hC => (fun j u hu => (hat371 j u hu).ext hC.ext))) (fun a S => ?_)
      refine lx_q p1 S (want_b rfl rfl hc366) (by decide) (q_move rfl) (fun a S => ?_)
      refine lx_q (.int .i64 x163) S (want_b rfl rfl hc366) (by decide) (q_move rfl) (fun a S => ?_)
      obtain ⟨x380, e381, hm⟩ := bind_some hm
      obtain ⟨c382, h383, hat384⟩ := (h1).elem (idx_some e381).2
      obtain ⟨c385, c386, rfl, h387, h388⟩ := h383
      obtain rfl := h387
      obtain ⟨c389, c390, rfl, h391, h392⟩ := h388
      obtain rfl := h391
      obtain rfl := h392
      have hlt := lt_of_idx (idx_some e381).2
      refine lx_q (ePtr p1 (x163.toNat * 3)) S (want_b rfl rfl hc366) (by decide) (q_indexAddr rfl (h1).isSl rfl (idx_some e381).1 hlt Tryz.underlying28 Tryz.sizeOf72) (fun a S => ?_)
      refine lx_q (.agg #[(.int .i64 x380.1), (.int .i64 x380.2.1), (.int .i64 x380.2.2)]) S (want_b rfl rfl hc366) (by decide) (q_loadA (cs := [(.int .i64 x380.1), (.int .i64 x380.2.1), (.int .i64 x380.2.2)]) rfl ((hat384 0 _ rfl).isP) Tryz.isAgg72 Tryz.sizeOf72 (fun w1 hC => (fun j u hu => (hat384 j u hu).ext hC.ext))) (fun a S => ?_)
      refine lx_q (.bool ([x367.1, x367.2.1, x367.2.2] != [x380.1, x380.2.1, x380.2.2])) S (want_b rfl rfl hc366) (by decide) (q_aneq (ms := [x367.1, x367.2.1, x367.2.2]) (ns := [x380.1, x380.2.1, x380.2.2]) rfl rfl Tryz.underlying72 (by kernel_rfl) (by kernel_rfl) ⟨by decide, Tryz.underlying2, rfl, ⟨by decide, Tryz.underlying2, rfl, ⟨by decide, Tryz.underlying2, rfl, trivial⟩⟩⟩ rfl rfl) (fun a S => ?_)
      refine lq (.bool ([x367.1, x367.2.1, x367.2.2] != [x380.1, x380.2.1, x380.2.2])) S (q_pickT' rfl hc366 rfl) fun a S => ?_
      refine lx_nil ?_
      obtain rfl := Option.some.inj hm
      exact ⟨S.sub ⟨rfl, rfl, rfl, rfl, rfl, trivial⟩, H⟩
     ·have hm := ite_f (eq_false_of_ne_true hc366) e365
      have hc366 : (decide (x318 < (a0.2.2.2.length : Int))) = false := eq_false_of_ne_true hc366
      refine lx_skip S rfl rfl (isB_ne hc366) (by decide) (fun a S => ?_)
      refine lx_skip S rfl rfl (isB_ne hc366) (by decide) (fun a S => ?_)
      refine lx_skip S rfl rfl (isB_ne hc366) (by decide) (fun a S => ?_)
      refine lx_skip S rfl rfl (isB_ne hc366) (by decide) (fun a S => ?_)
      refine lx_skip S rfl rfl (isB_ne hc366) (by decide) (fun a S => ?_)
      refine lx_skip S rfl rfl (isB_ne hc366) (by decide) (fun a S => ?_)
      refine lx_skip S rfl rfl (isB_ne hc366) (by decide) (fun a S => ?_)
      refine lx_skip S rfl rfl (isB_ne hc366) (by decide) (fun a S => ?_)
      refine lx_skip S rfl rfl (isB_ne hc366) (by decide) (fun a S => ?_)
      refine lx_skip S rfl rfl (isB_ne hc366) (by decide) (fun a S => ?_)
      refine lx_skip S rfl rfl (isB_ne hc366) (by decide) (fun a S => ?_)
      refine lx_skip S rfl rfl (isB_ne hc366) (by decide) (fun a S => ?_)
      refine lq (.bool false) S (q_pickF' rfl hc366 rfl) fun a S => ?_
      refine lx_nil ?_
      obtain rfl := Option.some.inj hm
      exact ⟨S.sub ⟨rfl, rfl, rfl, rfl, rfl, trivial⟩, H⟩
    ·rintro a w ⟨S, H⟩
     refine lx_nil (thenN ?_)
     refine cond_b S rfl (fun hc393 => ?_) (fun hc393 => ?_)
     ·have hm := ite_t hc393 hm
      refine wp_skip (thenN ?_)
      refine wp_block ?_
      refine region_plain ?_
      refine lq (.int .i64 x318) S (q_move rfl) fun a S => ?_
      refine lq (.int .i64 (W (x318 + (1 : Int)))) S (q_add rfl rfl) fun a S => ?_
      refine lq (.int .i64 (W (x318 + (1 : Int)))) S (q_assign rfl) fun a S => ?_
      refine lx_nil ?_
      refine inBlock_norm ?_
      exact ⟨m359, Nat.lt_succ_self _, (W (x318 + (1 : Int))), S.sub ⟨rfl, rfl, rfl, rfl, trivial⟩, H, it_cont hm hc361⟩
     ·have hm := ite_f hc393 hm
      refine wp_exit ?_
      refine then_exit ?_
      refine then_exit ?_
      refine inBlock_exit ?_
      obtain rfl := it_brk hm hc361
      exact ⟨x318, S.sub ⟨rfl, rfl, rfl, rfl, trivial⟩, H, rfl⟩
  ·have hm := ite_f hc284 hm
   refine wp_exit ?_
   refine then_exit ?_
   refine then_exit ?_
   refine inBlock_exit ?_
   obtain rfl := it_brk hm hc283
   exact ⟨S.sub trivial, H, rfl⟩

/-- spec.l11Own -/
def spec_l11Own_m (_ : Nat) (a0 : Timpl_Lts) : Option (Timpl_Lts) :=
  (app ([] : List Str) a0.2.2.1).bind fun x62 => (app ([] : List Timpl_Edge) a0.2.2.2).bind fun x71 => some ((a0.1, a0.2.1, x62, x71))
set_option maxRecDepth 20000 in
theorem spec_l11Own_ok {w0 : World} {fuel : Nat} {p0 : Value} {a0 : Timpl_Lts} {r : Timpl_Lts} (h0 : Rd (rPtr Rimpl_Lts) w0 p0 a0) (hm : spec_l11Own_m fuel a0 = some r) :
  Calls Tryz.prog 148 #[p0] w0 fun e w => ∃ (v0 : Value) (v1 : Value), e = .returned (.agg #[.int .i64 r.1, .int .i64 r.2.1, v0, v1]) ∧ Heap w0 [oA (rList rStr) v0 r.2.2.1, oA (rList Rimpl_Edge) v1 r.2.2.2] w := by
 unfold spec_l11Own_m at hm
 have H := Heap.start w0
 obtain ⟨c31, h32, hat33⟩ := h0.ptr
 obtain ⟨c38, c39, rfl, h40, h41⟩ := h32
 obtain rfl := h40
 obtain ⟨c42, c43, rfl, h44, h45⟩ := h41
 obtain rfl := h44
 obtain ⟨c46, c47, rfl, h48, h49⟩ := h45
 obtain ⟨v34, rfl, h35⟩ := rd_list h48
 obtain ⟨v36, rfl, h37⟩ := rd_list h49
 refine enter (args := [p0]) Tryz.func148 rfl 28 rfl (Nat.le_of_ble_eq_true rfl) (fun a S => ?_)
 refine wp_seq (region_plain ?_)
 refine lx_alloc S trivial (by decide) rfl H Tryz.zeroValue30 rfl (fun b50 w51 H => ⟨trivial, fun a S => ?_⟩)
 refine lx_nil (thenN ?_)
 refine wp_seq ?_
 refine region_drawG (fun w1 => Heap w0 [] w1) (fun i => [9, 10].contains i) mixed (by kernel_rfl) (fun w54 he53 => ?_)
 have H := H.later he53
 refine ⟨H.sel [] (by decide), ?_⟩
 refine lq p0 S (q_move rfl) fun a S => ?_
 refine lq p0 S (q_nilCheck rfl ((hat33 0 _ rfl).isP)) fun a S => ?_
 refine lq (pAdd p0 0) S (q_fieldAddr' 0 2 rfl ((hat33 0 _ rfl).isP) Tryz.underlying30 rfl Tryz.sizeOf2) fun a S => ?_
 refine lq (.int .i64 a0.1) S (q_load1 rfl Tryz.isAgg2 (fun w1 hC => (At.of_add (m := 0) (j := 0) ((hat33 0 _ rfl).ext hC.ext)))) fun a S => ?_
 refine lq p0 S (q_move rfl) fun a S => ?_
 refine lq p0 S (q_nilCheck rfl ((hat33 0 _ rfl).isP)) fun a S => ?_
 refine lq (pAdd p0 1) S (q_fieldAddr' 1 2 rfl ((hat33 0 _ rfl).isP) Tryz.underlying30 rfl Tryz.sizeOf2) fun a S => ?_
 refine lq (.int .i64 a0.2.1) S (q_load1 rfl Tryz.isAgg2 (fun w1 hC => (At.of_add (m := 1) (j := 0) ((hat33 1 _ rfl).ext hC.ext)))) fun a S => ?_
 refine lq (.agg #[(.int .i64 a0.1), (.int .i64 a0.2.1), (.slice none 0 0), (.slice none 0 0)]) S (q_build (zs := [(.int .i64 (0 : Int)), (.int .i64 (0 : Int)), (.slice none 0 0), (.slice none 0 0)]) (szs := [1, 1, 1, 1]) (ps := [(0, [(.int .i64 a0.1)]), (1, [(.int .i64 a0.2.1)])]) (parts := [(0, .tmp 7), (1, .tmp 11)]) rfl Tryz.underlying30 Tryz.zeroValue30 (fun w => by simp [Tryz.sizeOf2, Tryz.sizeOf22, Tryz.sizeOf28]) ⟨rfl, rfl, Nat.le_of_ble_eq_true rfl, ⟨rfl, rfl, Nat.le_of_ble_eq_true rfl, trivial⟩⟩ rfl) fun a S => ?_
 refine lx_alloc S trivial (by decide) rfl H Tryz.zeroValue30 rfl (fun b55 w56 H => ⟨H.sel [] (by decide), fun a S => ?_⟩)
 refine lx_storeBox (o := 0) (i := 0) (us := [(.int .i64 a0.1), (.int .i64 a0.2.1), (.slice none 0 0), (.slice none 0 0)]) (cs' := [(.int .i64 a0.1), (.int .i64 a0.2.1), (.slice none 0 0), (.slice none 0 0)]) S trivial rfl H rfl rfl rfl rfl Tryz.sizeOf30 (Nat.le_of_ble_eq_true rfl) (List.forall_mem_cons.2 ⟨rfl, (List.forall_mem_cons.2 ⟨rfl, (List.forall_mem_cons.2 ⟨rfl, (List.forall_mem_cons.2 ⟨rfl, (fun _ h => nomatch h)⟩)⟩)⟩)⟩) rfl (fun w58 H => ⟨H.sel [] (by decide), fun a S => ?_⟩)
 change Heap w0 [bA b55 [(.int .i64 a0.1), (.int .i64 a0.2.1), (.slice none 0 0), (.slice none 0 0)] 30, bA b50 [(.int .i64 (0 : Int)), (.int .i64 (0 : Int)), (.slice none 0 0), (.slice none 0 0)] 30] w58 at H
 refine lx_nil (thenN ?_)
 refine wp_seq (region_plain ?_)
 refine lx_buildSlice0 (r := rStr) S trivial (by decide) rfl H Tryz.underlying22 Tryz.sizeOf9 (fun v59 w60 H => ⟨trivial, fun a S => ?_⟩)
 refine lq p0 S (q_move rfl) fun a S => ?_
 refine lq p0 S (q_nilCheck rfl ((hat33 0 _ rfl).isP)) fun a S => ?_
 refine lq (pAdd p0 2) S (q_fieldAddr' 2 22 rfl ((hat33 0 _ rfl).isP) Tryz.underlying30 rfl Tryz.sizeOf22) fun a S => ?_
 refine lx_e v34 S trivial (by decide) rfl trivial (q_load1 rfl Tryz.isAgg22 (by rintro _ rfl; exact (At.of_add (m := 2) (j := 0) ((hat33 2 _ rfl).ext H.ext)))) (fun a S => ?_)
 obtain ⟨x62, e63, hm⟩ := bind_some hm
 obtain ⟨hle, hap⟩ := app_some e63
 replace hap := hap.symm
 subst hap
 refine lx_appendRd (r := rStr) S trivial (by decide) rfl H flat_str (H.arg h35) rfl rfl Tryz.underlying22 Tryz.ti9 rfl rfl rfl (by decide) (by decide) hle (fun v64 w65 H => ⟨trivial, fun a S => ?_⟩)
 refine lq (pAdd (bp b55) 2) S (q_fieldAddr' 2 22 rfl (isP_bp _) Tryz.underlying30 rfl Tryz.sizeOf22) fun a S => ?_
 refine lx_storeBox (o := 2) (i := 1) (us := [v64]) (cs' := [(.int .i64 a0.1), (.int .i64 a0.2.1), v64, (.slice none 0 0)]) S trivial rfl H rfl rfl rfl (cells_sl (H.isSl 0 rfl)) Tryz.sizeOf22 (Nat.le_of_ble_eq_true rfl) (List.forall_mem_cons.2 ⟨one_sl (H.isSl 0 rfl), (fun _ h => nomatch h)⟩) rfl (fun w67 H => ⟨trivial, fun a S => ?_⟩)
 change Heap w0 [oA (rList rStr) v64 (([] : List Str) ++ a0.2.2.1), bA b55 [(.int .i64 a0.1), (.int .i64 a0.2.1), v64, (.slice none 0 0)] 30, bA b50 [(.int .i64 (0 : Int)), (.int .i64 (0 : Int)), (.slice none 0 0), (.slice none 0 0)] 30] w67 at H
 refine lx_nil (thenN ?_)
 refine wp_seq (region_plain ?_)
 refine lx_buildSlice0 (r := Rimpl_Edge) S trivial (by decide) rfl H Tryz.underlying28 Tryz.sizeOf72 (fun v68 w69 H => ⟨trivial, fun a S => ?_⟩)
 refine lq p0 S (q_move rfl) fun a S => ?_
 refine lq p0 S (q_nilCheck rfl ((hat33 0 _ rfl).isP)) fun a S => ?_
 refine lq (pAdd p0 3) S (q_fieldAddr' 3 28 rfl ((hat33 0 _ rfl).isP) Tryz.underlying30 rfl Tryz.sizeOf28) fun a S => ?_
 refine lx_e v36 S trivial (by decide) rfl trivial (q_load1 rfl Tryz.isAgg28 (by rintro _ rfl; exact (At.of_add (m := 3) (j := 0) ((hat33 3 _ rfl).ext H.ext)))) (fun a S => ?_)
 obtain ⟨x71, e72, hm⟩ := bind_some hm
 obtain ⟨hle, hap⟩ := app_some e72
 replace hap := hap.symm
 subst hap
 refine lx_appendRd (r := Rimpl_Edge) S trivial (by decide) rfl H (flat_prod (flat_int _) (flat_prod (flat_int _) (flat_int _))) (H.arg h37) rfl rfl Tryz.underlying28 Tryz.ti72 rfl rfl rfl (by decide) (by decide) hle (fun v73 w74 H => ⟨trivial, fun a S => ?_⟩)
 refine lq (pAdd (bp b55) 3) S (q_fieldAddr' 3 28 rfl (isP_bp _) Tryz.underlying30 rfl Tryz.sizeOf28) fun a S => ?_
 refine lx_storeBox (o := 3) (i := 2) (us := [v73]) (cs' := [(.int .i64 a0.1), (.int .i64 a0.2.1), v64, v73]) S trivial rfl H rfl rfl rfl (cells_sl (H.isSl 0 rfl)) Tryz.sizeOf28 (Nat.le_of_ble_eq_true rfl) (List.forall_mem_cons.2 ⟨one_sl (H.isSl 0 rfl), (fun _ h => nomatch h)⟩) rfl (fun w76 H => ⟨trivial, fun a S => ?_⟩)
 change Heap w0 [oA (rList Rimpl_Edge) v73 (([] : List Timpl_Edge) ++ a0.2.2.2), oA (rList rStr) v64 (([] : List Str) ++ a0.2.2.1), bA b55 [(.int .i64 a0.1), (.int .i64 a0.2.1), v64, v73] 30, bA b50 [(.int .i64 (0 : Int)), (.int .i64 (0 : Int)), (.slice none 0 0), (.slice none 0 0)] 30] w76 at H
 refine lx_nil (thenN ?_)
 refine wp_seq (region_plain ?_)
 refine lx_e (.agg #[(.int .i64 a0.1), (.int .i64 a0.2.1), v64, v73]) S trivial (by decide) rfl trivial (q_loadA (cs := [(.int .i64 a0.1), (.int .i64 a0.2.1), v64, v73]) rfl (isP_bp _) Tryz.isAgg30 Tryz.sizeOf30 (by rintro _ rfl; exact (fun j u hu => boxAt (i := 2) H rfl hu))) (fun a S => ?_)
 refine lx_storeBox (o := 0) (i := 3) (us := [(.int .i64 a0.1), (.int .i64 a0.2.1), v64, v73]) (cs' := [(.int .i64 a0.1), (.int .i64 a0.2.1), v64, v73]) S trivial rfl H rfl rfl rfl rfl Tryz.sizeOf30 (Nat.le_of_ble_eq_true rfl) (List.forall_mem_cons.2 ⟨rfl, (List.forall_mem_cons.2 ⟨rfl, (List.forall_mem_cons.2 ⟨one_sl (H.isSl 1 rfl), (List.forall_mem_cons.2 ⟨one_sl (H.isSl 0 rfl), (fun _ h => nomatch h)⟩)⟩)⟩)⟩) rfl (fun w77 H => ⟨trivial, fun a S => ?_⟩)
 change Heap w0 [oA (rList Rimpl_Edge) v73 (([] : List Timpl_Edge) ++ a0.2.2.2), oA (rList rStr) v64 (([] : List Str) ++ a0.2.2.1), bA b55 [(.int .i64 a0.1), (.int .i64 a0.2.1), v64, v73] 30, bA b50 [(.int .i64 a0.1), (.int .i64 a0.2.1), v64, v73] 30] w77 at H
 refine lx_nil (thenN ?_)
 refine wp_ret ?_
 have hrv0 := RV.cellA (t := 30) (q := 2) (env := [(0, p0), (2, (bp b50)), (3, (bp b55)), (4, p0), (5, p0), (6, (pAdd p0 0)), (7, (.int .i64 a0.1)), (8, p0), (9, p0), (10, (pAdd p0 1)), (11, (.int .i64 a0.2.1)), (12, (.agg #[(.int .i64 a0.1), (.int .i64 a0.2.1), (.slice none 0 0), (.slice none 0 0)])), (13, v59), (14, p0), (15, p0), (16, (pAdd p0 2)), (17, v34), (18, v64), (19, (pAdd (bp b55) 2)), (20, v68), (21, p0), (22, p0), (23, (pAdd p0 3)), (24, v36), (25, v73), (26, (pAdd (bp b55) 3)), (27, (.agg #[(.int .i64 a0.1), (.int .i64 a0.2.1), v64, v73]))]) H (i := 3) rfl rfl Tryz.isAgg30 Tryz.sizeOf30
 obtain rfl := Option.some.inj hm
 have H : Heap w0 [oA (rList rStr) v64 (([] : List Str) ++ a0.2.2.1), oA (rList Rimpl_Edge) v73 (([] : List Timpl_Edge) ++ a0.2.2.2), bA b55 [(.int .i64 a0.1), (.int .i64 a0.2.1), v64, v73] 30, bA b50 [(.int .i64 a0.1), (.int .i64 a0.2.1), v64, v73] 30] w77 := H.front 1 rfl
 have H : Heap w0 [oA (rList rStr) v64 (([] : List Str) ++ a0.2.2.1), oA (rList Rimpl_Edge) v73 (([] : List Timpl_Edge) ++ a0.2.2.2)] w77 := H.sel [0, 1] (by decide)
 exact leaveR1 S rfl hrv0 ⟨v64, v73, rfl, H⟩

/-- spec.l24Sub -/
def spec_l24Sub_m (fuel : Nat) (a0 : Timpl_Lts) (a1 : (List Timpl_Edge)) : Option (Timpl_Lts) :=
  (spec_l11Own_m fuel a0).bind fun x55 => (app ([] : List Timpl_Edge) a1).bind fun x69 => some ((x55.1, x55.2.1, x55.2.2.1, x69))
set_option maxRecDepth 20000 in
theorem spec_l24Sub_ok {w0 : World} {fuel : Nat} {p0 p1 : Value} {a0 : Timpl_Lts} {a1 : (List Timpl_Edge)} {r : Timpl_Lts} (h0 : Rd (rPtr Rimpl_Lts) w0 p0 a0) (h1 : Rd (rList Rimpl_Edge) w0 p1 a1) (hm : spec_l24Sub_m fuel a0 a1 = some r) :
  Calls Tryz.prog 111 #[p0, p1] w0 fun e w => ∃ (v0 : Value) (v1 : Value), e = .returned (.agg #[.int .i64 r.1, .int .i64 r.2.1, v0, v1]) ∧ Heap w0 [oA (rList rStr) v0 r.2.2.1, oA (rList Rimpl_Edge) v1 r.2.2.2] w := by
 unfold spec_l24Sub_m at hm
 have H := Heap.start w0
 obtain ⟨c31, h32, hat33⟩ := h0.ptr
 obtain ⟨c38, c39, rfl, h40, h41⟩ := h32
 obtain rfl := h40
 obtain ⟨c42, c43, rfl, h44, h45⟩ := h41
 obtain rfl := h44
 obtain ⟨c46, c47, rfl, h48, h49⟩ := h45
 obtain ⟨v34, rfl, h35⟩ := rd_list h48
 obtain ⟨v36, rfl, h37⟩ := rd_list h49
 refine enter (args := [p0, p1]) Tryz.func111 rfl 13 rfl (Nat.le_of_ble_eq_true rfl) (fun a S => ?_)
 refine wp_seq (region_plain ?_)
 refine lx_alloc S trivial (by decide) rfl H Tryz.zeroValue30 rfl (fun b50 w51 H => ⟨trivial, fun a S => ?_⟩)
 refine lx_nil (thenN ?_)
 refine wp_seq (region_plain ?_)
 refine lq p0 S (q_move rfl) fun a S => ?_
 obtain ⟨x55, e56, hm⟩ := bind_some hm
 refine lx_call (xs := [.tmp 6]) S trivial (by decide) rfl rfl Tryz.call148 ((spec_l11Own_ok (H.arg h0) e56).mono ?_)
 rintro e w53 ⟨v57, v58, rfl, Hc54⟩
 have H := H.call2 Hc54
 refine ⟨_, rfl, trivial, fun a S => ?_⟩
 refine lx_alloc S trivial (by decide) rfl H Tryz.zeroValue30 rfl (fun b62 w63 H => ⟨trivial, fun a S => ?_⟩)
 refine lx_storeBox (o := 0) (i := 0) (us := [(.int .i64 x55.1), (.int .i64 x55.2.1), v57, v58]) (cs' := [(.int .i64 x55.1), (.int .i64 x55.2.1), v57, v58]) S trivial rfl H rfl rfl rfl rfl Tryz.sizeOf30 (Nat.le_of_ble_eq_true rfl) (List.forall_mem_cons.2 ⟨rfl, (List.forall_mem_cons.2 ⟨rfl, (List.forall_mem_cons.2 ⟨one_sl (H.isSl 1 rfl), (List.forall_mem_cons.2 ⟨one_sl (H.isSl 2 rfl), (fun _ h => nomatch h)⟩)⟩)⟩)⟩) rfl (fun w65 H => ⟨trivial, fun a S => ?_⟩)
 change Heap w0 [bA b62 [(.int .i64 x55.1), (.int .i64 x55.2.1), v57, v58] 30, oA (rList rStr) v57 x55.2.2.1, oA (rList Rimpl_Edge) v58 x55.2.2.2, bA b50 [(.int .i64 (0 : Int)), (.int .i64 (0 : Int)), (.slice none 0 0), (.slice none 0 0)] 30] w65 at H
 refine lx_nil (thenN ?_)
 refine wp_seq (region_plain ?_)
 refine lx_buildSlice0 (r := Rimpl_Edge) S trivial (by decide) rfl H Tryz.underlying28 Tryz.sizeOf72 (fun v66 w67 H => ⟨trivial, fun a S => ?_⟩)
 refine lq p1 S (q_move rfl) fun a S => ?_
 obtain ⟨x69, e70, hm⟩ := bind_some hm
 obtain ⟨hle, hap⟩ := app_some e70
 replace hap := hap.symm
 subst hap
 refine lx_appendRd (r := Rimpl_Edge) S trivial (by decide) rfl H (flat_prod (flat_int _) (flat_prod (flat_int _) (flat_int _))) (H.arg h1) rfl rfl Tryz.underlying28 Tryz.ti72 rfl rfl rfl (by decide) (by decide) hle (fun v71 w72 H => ⟨trivial, fun a S => ?_⟩)
 refine lq (pAdd (bp b62) 3) S (q_fieldAddr' 3 28 rfl (isP_bp _) Tryz.underlying30 rfl Tryz.sizeOf28) fun a S => ?_
 refine lx_storeBox (o := 3) (i := 1) (us := [v71]) (cs' := [(.int .i64 x55.1), (.int .i64 x55.2.1), v57, v71]) S trivial rfl H rfl rfl rfl (cells_sl (H.isSl 0 rfl)) Tryz.sizeOf28 (Nat.le_of_ble_eq_true rfl) (List.forall_mem_cons.2 ⟨one_sl (H.isSl 0 rfl), (fun _ h => nomatch h)⟩) rfl (fun w74 H => ⟨trivial, fun a S => ?_⟩)
 change Heap w0 [oA (rList Rimpl_Edge) v71 (([] : List Timpl_Edge) ++ a1), bA b62 [(.int .i64 x55.1), (.int .i64 x55.2.1), v57, v71] 30, oA (rList rStr) v57 x55.2.2.1, oA (rList Rimpl_Edge) v58 x55.2.2.2, bA b50 [(.int .i64 (0 : Int)), (.int .i64 (0 : Int)), (.slice none 0 0), (.slice none 0 0)] 30] w74 at H
 refine lx_nil (thenN ?_)
 refine wp_seq (region_plain ?_)
 refine lx_e (.agg #[(.int .i64 x55.1), (.int .i64 x55.2.1), v57, v71]) S trivial (by decide) rfl trivial (q_loadA (cs := [(.int .i64 x55.1), (.int .i64 x55.2.1), v57, v71]) rfl (isP_bp _) Tryz.isAgg30 Tryz.sizeOf30 (by rintro _ rfl; exact (fun j u hu => boxAt (i := 1) H rfl hu))) (fun a S => ?_)
 refine lx_storeBox (o := 0) (i := 4) (us := [(.int .i64 x55.1), (.int .i64 x55.2.1), v57, v71]) (cs' := [(.int .i64 x55.1), (.int .i64 x55.2.1), v57, v71]) S trivial rfl H rfl rfl rfl rfl Tryz.sizeOf30 (Nat.le_of_ble_eq_true rfl) (List.forall_mem_cons.2 ⟨rfl, (List.forall_mem_cons.2 ⟨rfl, (List.forall_mem_cons.2 ⟨one_sl (H.isSl 2 rfl), (List.forall_mem_cons.2 ⟨one_sl (H.isSl 0 rfl), (fun _ h => nomatch h)⟩)⟩)⟩)⟩) rfl (fun w75 H => ⟨trivial, fun a S => ?_⟩)
 change Heap w0 [oA (rList Rimpl_Edge) v71 (([] : List Timpl_Edge) ++ a1), bA b62 [(.int .i64 x55.1), (.int .i64 x55.2.1), v57, v71] 30, oA (rList rStr) v57 x55.2.2.1, oA (rList Rimpl_Edge) v58 x55.2.2.2, bA b50 [(.int .i64 x55.1), (.int .i64 x55.2.1), v57, v71] 30] w75 at H
 refine lx_nil (thenN ?_)
 refine wp_ret ?_
 have hrv0 := RV.cellA (t := 30) (q := 4) (env := [(0, p0), (1, p1), (4, (bp b50)), (5, (bp b62)), (6, p0), (7, (.agg #[(.int .i64 x55.1), (.int .i64 x55.2.1), v57, v58])), (8, v66), (9, p1), (10, v71), (11, (pAdd (bp b62) 3)), (12, (.agg #[(.int .i64 x55.1), (.int .i64 x55.2.1), v57, v71]))]) H (i := 4) rfl rfl Tryz.isAgg30 Tryz.sizeOf30
 obtain rfl := Option.some.inj hm
 have H : Heap w0 [oA (rList rStr) v57 x55.2.2.1, oA (rList Rimpl_Edge) v71 (([] : List Timpl_Edge) ++ a1), bA b62 [(.int .i64 x55.1), (.int .i64 x55.2.1), v57, v71] 30, oA (rList Rimpl_Edge) v58 x55.2.2.2, bA b50 [(.int .i64 x55.1), (.int .i64 x55.2.1), v57, v71] 30] w75 := H.front 2 rfl
 have H : Heap w0 [oA (rList rStr) v57 x55.2.2.1, oA (rList Rimpl_Edge) v71 (([] : List Timpl_Edge) ++ a1)] w75 := H.sel [0, 1] (by decide)
 exact leaveR1 S rfl hrv0 ⟨v57, v71, rfl, H⟩

/-- spec.SubSystem -/
def spec_SubSystem_m (fuel : Nat) (a0 : Timpl_Lts) (a1 : (List Timpl_Edge)) : Option ((Timpl_Lts × Int)) :=
  (spec_l11Is_m fuel (a0.1, a0.2.1, a0.2.2.1, a0.2.2.2)).bind fun x57 => (if (!x57) = true then some ((((0 : Int), (0 : Int), [], []), (1 : Int))) else (spec_l24Part_m fuel (a0.1, a0.2.1, a0.2.2.1, a0.2.2.2) a1).bind fun x66 => (if (!x66) = true then some ((((0 : Int), (0 : Int), [], []), (2 : Int))) else (spec_l24Sub_m fuel (a0.1, a0.2.1, a0.2.2.1, a0.2.2.2) a1).bind fun x75 => some (((x75.1, x75.2.1, x75.2.2.1, x75.2.2.2), (0 : Int)))))
set_option maxRecDepth 20000 in
theorem spec_SubSystem_ok {w0 : World} {fuel : Nat} {p0 p1 : Value} {a0 : Timpl_Lts} {a1 : (List Timpl_Edge)} {r : (Timpl_Lts × Int)} (h0 : Rd Rimpl_Lts w0 p0 a0) (h1 : Rd (rList Rimpl_Edge) w0 p1 a1) (hm : spec_SubSystem_m fuel a0 a1 = some r) :
  Calls Tryz.prog 58 #[p0, p1] w0 fun e w => ∃ (v0 : Value) (v1 : Value), e = .returned (.tuple #[.agg #[.int .i64 r.1.1, .int .i64 r.1.2.1, v0, v1], .int .i64 r.2]) ∧ Heap w0 [oA (rList rStr) v0 r.1.2.2.1, oA (rList Rimpl_Edge) v1 r.1.2.2.2] w := by
 unfold spec_SubSystem_m at hm
 have H := Heap.start w0
 obtain ⟨c31, rfl, h32⟩ := h0
 obtain ⟨c37, c38, rfl, h39, h40⟩ := h32
 obtain rfl := h39
 obtain ⟨c41, c42, rfl, h43, h44⟩ := h40
 obtain rfl := h43
 obtain ⟨c45, c46, rfl, h47, h48⟩ := h44
 obtain ⟨v33, rfl, h34⟩ := rd_list h47
 obtain ⟨v35, rfl, h36⟩ := rd_list h48
 refine enter (args := [(.agg #[(.int .i64 a0.1), (.int .i64 a0.2.1), v33, v35]), p1]) Tryz.func58 rfl 15 rfl (Nat.le_of_ble_eq_true rfl) (fun a S => ?_)
 refine wp_seq (region_plain ?_)
 refine lx_box S trivial (by decide) rfl H rfl rfl (fun b49 w50 H => ⟨trivial, fun a S => ?_⟩)
 refine lx_alloc S trivial (by decide) rfl H Tryz.zeroValue30 rfl (fun b52 w53 H => ⟨trivial, fun a S => ?_⟩)
 refine lq (.int .i64 (0 : Int)) S (q_assign rfl) fun a S => ?_
 refine lx_nil (thenN ?_)
 refine wp_seq (wp_seq (region_plain ?_))
 obtain ⟨x57, e58, hm⟩ := bind_some hm
 refine lx_call (xs := [.tmp 2]) S trivial (by decide) rfl rfl Tryz.call70 ((spec_l11Is_ok (rdPtr_box H 1 rfl ⟨[(.int .i64 a0.1)], [(.int .i64 a0.2.1), v33, v35], rfl, rfl, ⟨[(.int .i64 a0.2.1)], [v33, v35], rfl, rfl, ⟨[v33], [v35], rfl, ((H.arg h34)).list_rd, ((H.arg h36)).list_rd⟩⟩⟩) e58).mono ?_)
 rintro e w55 ⟨rfl, Hc56⟩
 have H := H.call0 Hc56
 refine ⟨_, rfl, trivial, fun a S => ?_⟩
 refine lq (.bool (!x57)) S (q_not rfl) fun a S => ?_
 refine lx_nil (thenN ?_)
 refine cond_b S rfl (fun hc60 => ?_) (fun hc60 => ?_)
 ·have hm := ite_t hc60 hm
  refine wp_seq (region_plain ?_)
  refine lq (.agg #[(.int .i64 (0 : Int)), (.int .i64 (0 : Int)), (.slice none 0 0), (.slice none 0 0)]) S (q_build (zs := [(.int .i64 (0 : Int)), (.int .i64 (0 : Int)), (.slice none 0 0), (.slice none 0 0)]) (szs := [1, 1, 1, 1]) (ps := []) (parts := []) rfl Tryz.underlying30 Tryz.zeroValue30 (fun w => by simp [Tryz.sizeOf2, Tryz.sizeOf22, Tryz.sizeOf28]) trivial rfl) fun a S => ?_
  refine lx_storeBox (o := 0) (i := 0) (us := [(.int .i64 (0 : Int)), (.int .i64 (0 : Int)), (.slice none 0 0), (.slice none 0 0)]) (cs' := [(.int .i64 (0 : Int)), (.int .i64 (0 : Int)), (.slice none 0 0), (.slice none 0 0)]) S trivial rfl H rfl rfl rfl rfl Tryz.sizeOf30 (Nat.le_of_ble_eq_true rfl) (List.forall_mem_cons.2 ⟨rfl, (List.forall_mem_cons.2 ⟨rfl, (List.forall_mem_cons.2 ⟨rfl, (List.forall_mem_cons.2 ⟨rfl, (fun _ h => nomatch h)⟩)⟩)⟩)⟩) rfl (fun w61 H => ⟨trivial, fun a S => ?_⟩)
  change Heap w0 [bA b52 [(.int .i64 (0 : Int)), (.int .i64 (0 : Int)), (.slice none 0 0), (.slice none 0 0)] 30, bA b49 [(.int .i64 a0.1), (.int .i64 a0.2.1), v33, v35] 30] w61 at H
  refine lq (.int .i64 (1 : Int)) S (q_assign rfl) fun a S => ?_
  refine lx_nil (thenN ?_)
  refine wp_ret ?_
  have hrv0 := RV.cellA (t := 30) (q := 4) (env := [(0, (.agg #[(.int .i64 a0.1), (.int .i64 a0.2.1), v33, v35])), (1, p1), (2, (bp b49)), (4, (bp b52)), (5, (.int .i64 (1 : Int))), (6, (.bool x57)), (7, (.bool (!x57))), (8, (.agg #[(.int .i64 (0 : Int)), (.int .i64 (0 : Int)), (.slice none 0 0), (.slice none 0 0)]))]) H (i := 0) rfl rfl Tryz.isAgg30 Tryz.sizeOf30
  have hrv1 : RV Tryz.prog _ w61 (.tmp 5) (.int .i64 (1 : Int)) := (rfl : lk [(0, (.agg #[(.int .i64 a0.1), (.int .i64 a0.2.1), v33, v35])), (1, p1), (2, (bp b49)), (4, (bp b52)), (5, (.int .i64 (1 : Int))), (6, (.bool x57)), (7, (.bool (!x57))), (8, (.agg #[(.int .i64 (0 : Int)), (.int .i64 (0 : Int)), (.slice none 0 0), (.slice none 0 0)]))] 5 = some (.int .i64 (1 : Int)))
  refine then_ret ?_
  obtain rfl := Option.some.inj hm
  have H : Heap w0 [oA (rList rStr) (.slice none 0 0) ([] : List Str), bA b52 [(.int .i64 (0 : Int)), (.int .i64 (0 : Int)), (.slice none 0 0), (.slice none 0 0)] 30, bA b49 [(.int .i64 a0.1), (.int .i64 a0.2.1), v33, v35] 30] w61 := H.nilList rStr
  have H : Heap w0 [oA (rList Rimpl_Edge) (.slice none 0 0) ([] : List Timpl_Edge), oA (rList rStr) (.slice none 0 0) ([] : List Str), bA b52 [(.int .i64 (0 : Int)), (.int .i64 (0 : Int)), (.slice none 0 0), (.slice none 0 0)] 30, bA b49 [(.int .i64 a0.1), (.int .i64 a0.2.1), v33, v35] 30] w61 := H.nilList Rimpl_Edge
  have H : Heap w0 [oA (rList rStr) (.slice none 0 0) ([] : List Str), oA (rList Rimpl_Edge) (.slice none 0 0) ([] : List Timpl_Edge), bA b52 [(.int .i64 (0 : Int)), (.int .i64 (0 : Int)), (.slice none 0 0), (.slice none 0 0)] 30, bA b49 [(.int .i64 a0.1), (.int .i64 a0.2.1), v33, v35] 30] w61 := H.front 1 rfl
  have H : Heap w0 [oA (rList rStr) (.slice none 0 0) ([] : List Str), oA (rList Rimpl_Edge) (.slice none 0 0) ([] : List Timpl_Edge)] w61 := H.sel [0, 1] (by decide)
  exact leaveR2 S rfl hrv0 hrv1 ⟨(.slice none 0 0), (.slice none 0 0), rfl, H⟩
 ·have hm := ite_f hc60 hm
  refine wp_skip (thenN ?_)
  refine wp_seq (wp_seq (region_plain ?_))
  refine lq p1 S (q_move rfl) fun a S => ?_
  obtain ⟨x66, e67, hm⟩ := bind_some hm
  refine lx_call (xs := [.tmp 2, .tmp 9]) S trivial (by decide) rfl rfl Tryz.call110 ((spec_l24Part_ok (rdPtr_box H 1 rfl ⟨[(.int .i64 a0.1)], [(.int .i64 a0.2.1), v33, v35], rfl, rfl, ⟨[(.int .i64 a0.2.1)], [v33, v35], rfl, rfl, ⟨[v33], [v35], rfl, ((H.arg h34)).list_rd, ((H.arg h36)).list_rd⟩⟩⟩) (H.arg h1) e67).mono ?_)
  rintro e w64 ⟨rfl, Hc65⟩
  have H := H.call0 Hc65
  refine ⟨_, rfl, trivial, fun a S => ?_⟩
  refine lq (.bool (!x66)) S (q_not rfl) fun a S => ?_
  refine lx_nil (thenN ?_)
  refine cond_b S rfl (fun hc69 => ?_) (fun hc69 => ?_)
  ·have hm := ite_t hc69 hm
   refine wp_seq (region_plain ?_)
   refine lq (.agg #[(.int .i64 (0 : Int)), (.int .i64 (0 : Int)), (.slice none 0 0), (.slice none 0 0)]) S (q_build (zs := [(.int .i64 (0 : Int)), (.int .i64 (0 : Int)), (.slice none 0 0), (.slice none 0 0)]) (szs := [1, 1, 1, 1]) (ps := []) (parts := []) rfl Tryz.underlying30 Tryz.zeroValue30 (fun w => by simp [Tryz.sizeOf2, Tryz.sizeOf22, Tryz.sizeOf28]) trivial rfl) fun a S => ?_
   refine lx_storeBox (o := 0) (i := 0) (us := [(.int .i64 (0 : Int)), (.int .i64 (0 : Int)), (.slice none 0 0), (.slice none 0 0)]) (cs' := [(.int .i64 (0 : Int)), (.int .i64 (0 : Int)), (.slice none 0 0), (.slice none 0 0)]) S trivial rfl H rfl rfl rfl rfl Tryz.sizeOf30 (Nat.le_of_ble_eq_true rfl) (List.forall_mem_cons.2 ⟨rfl, (List.forall_mem_cons.2 ⟨rfl, (List.forall_mem_cons.2 ⟨rfl, (List.forall_mem_cons.2 ⟨rfl, (fun _ h => nomatch h)⟩)⟩)⟩)⟩) rfl (fun w70 H => ⟨trivial, fun a S => ?_⟩)
   change Heap w0 [bA b52 [(.int .i64 (0 : Int)), (.int .i64 (0 : Int)), (.slice none 0 0), (.slice none 0 0)] 30, bA b49 [(.int .i64 a0.1), (.int .i64 a0.2.1), v33, v35] 30] w70 at H
   refine lq (.int .i64 (2 : Int)) S (q_assign rfl) fun a S => ?_
   refine lx_nil (thenN ?_)
   refine wp_ret ?_
   have hrv0 := RV.cellA (t := 30) (q := 4) (env := [(0, (.agg #[(.int .i64 a0.1), (.int .i64 a0.2.1), v33, v35])), (1, p1), (2, (bp b49)), (4, (bp b52)), (5, (.int .i64 (2 : Int))), (6, (.bool x57)), (7, (.bool (!x57))), (9, p1), (10, (.bool x66)), (11, (.bool (!x66))), (12, (.agg #[(.int .i64 (0 : Int)), (.int .i64 (0 : Int)), (.slice none 0 0), (.slice none 0 0)]))]) H (i := 0) rfl rfl Tryz.isAgg30 Tryz.sizeOf30
   have hrv1 : RV Tryz.prog _ w70 (.tmp 5) (.int .i64 (2 : Int)) := (rfl : lk [(0, (.agg #[(.int .i64 a0.1), (.int .i64 a0.2.1), v33, v35])), (1, p1), (2, (bp b49)), (4, (bp b52)), (5, (.int .i64 (2 : Int))), (6, (.bool x57)), (7, (.bool (!x57))), (9, p1), (10, (.bool x66)), (11, (.bool (!x66))), (12, (.agg #[(.int .i64 (0 : Int)), (.int .i64 (0 : Int)), (.slice none 0 0), (.slice none 0 0)]))] 5 = some (.int .i64 (2 : Int)))
   refine then_ret ?_
   obtain rfl := Option.some.inj hm
   have H : Heap w0 [oA (rList rStr) (.slice none 0 0) ([] : List Str), bA b52 [(.int .i64 (0 : Int)), (.int .i64 (0 : Int)), (.slice none 0 0), (.slice none 0 0)] 30, bA b49 [(.int .i64 a0.1), (.int .i64 a0.2.1), v33, v35] 30] w70 := H.nilList rStr
   have H : Heap w0 [oA (rList Rimpl_Edge) (.slice none 0 0) ([] : List Timpl_Edge), oA (rList rStr) (.slice none 0 0) ([] : List Str), bA b52 [(.int .i64 (0 : Int)), (.int .i64 (0 : Int)), (.slice none 0 0), (.slice none 0 0)] 30, bA b49 [(.int .i64 a0.1), (.int .i64 a0.2.1), v33, v35] 30] w70 := H.nilList Rimpl_Edge
   have H : Heap w0 [oA (rList rStr) (.slice none 0 0) ([] : List Str), oA (rList Rimpl_Edge) (.slice none 0 0) ([] : List Timpl_Edge), bA b52 [(.int .i64 (0 : Int)), (.int .i64 (0 : Int)), (.slice none 0 0), (.slice none 0 0)] 30, bA b49 [(.int .i64 a0.1), (.int .i64 a0.2.1), v33, v35] 30] w70 := H.front 1 rfl
   have H : Heap w0 [oA (rList rStr) (.slice none 0 0) ([] : List Str), oA (rList Rimpl_Edge) (.slice none 0 0) ([] : List Timpl_Edge)] w70 := H.sel [0, 1] (by decide)
   exact leaveR2 S rfl hrv0 hrv1 ⟨(.slice none 0 0), (.slice none 0 0), rfl, H⟩
  ·have hm := ite_f hc69 hm
   refine wp_skip (thenN ?_)
   refine wp_seq (region_plain ?_)
   refine lq p1 S (q_move rfl) fun a S => ?_
   obtain ⟨x75, e76, hm⟩ := bind_some hm
   refine lx_call (xs := [.tmp 2, .tmp 13]) S trivial (by decide) rfl rfl Tryz.call111 ((spec_l24Sub_ok (rdPtr_box H 1 rfl ⟨[(.int .i64 a0.1)], [(.int .i64 a0.2.1), v33, v35], rfl, rfl, ⟨[(.int .i64 a0.2.1)], [v33, v35], rfl, rfl, ⟨[v33], [v35], rfl, ((H.arg h34)).list_rd, ((H.arg h36)).list_rd⟩⟩⟩) (H.arg h1) e76).mono ?_)
   rintro e w73 ⟨v77, v78, rfl, Hc74⟩
   have H := H.call2 Hc74
   refine ⟨_, rfl, trivial, fun a S => ?_⟩
   refine lx_storeBox (o := 0) (i := 2) (us := [(.int .i64 x75.1), (.int .i64 x75.2.1), v77, v78]) (cs' := [(.int .i64 x75.1), (.int .i64 x75.2.1), v77, v78]) S trivial rfl H rfl rfl rfl rfl Tryz.sizeOf30 (Nat.le_of_ble_eq_true rfl) (List.forall_mem_cons.2 ⟨rfl, (List.forall_mem_cons.2 ⟨rfl, (List.forall_mem_cons.2 ⟨one_sl (H.isSl 0 rfl), (List.forall_mem_cons.2 ⟨one_sl (H.isSl 1 rfl), (fun _ h => nomatch h)⟩)⟩)⟩)⟩) rfl (fun w82 H => ⟨trivial, fun a S => ?_⟩)
   change Heap w0 [oA (rList rStr) v77 x75.2.2.1, oA (rList Rimpl_Edge) v78 x75.2.2.2, bA b52 [(.int .i64 x75.1), (.int .i64 x75.2.1), v77, v78] 30, bA b49 [(.int .i64 a0.1), (.int .i64 a0.2.1), v33, v35] 30] w82 at H
   refine lq (.int .i64 (0 : Int)) S (q_assign rfl) fun a S => ?_
   refine lx_nil (thenN ?_)
   refine wp_ret ?_
   have hrv0 := RV.cellA (t := 30) (q := 4) (env := [(0, (.agg #[(.int .i64 a0.1), (.int .i64 a0.2.1), v33, v35])), (1, p1), (2, (bp b49)), (4, (bp b52)), (5, (.int .i64 (0 : Int))), (6, (.bool x57)), (7, (.bool (!x57))), (9, p1), (10, (.bool x66)), (11, (.bool (!x66))), (13, p1), (14, (.agg #[(.int .i64 x75.1), (.int .i64 x75.2.1), v77, v78]))]) H (i := 2) rfl rfl Tryz.isAgg30 Tryz.sizeOf30
   have hrv1 : RV Tryz.prog _ w82 (.tmp 5) (.int .i64 (0 : Int)) := (rfl : lk [(0, (.agg #[(.int .i64 a0.1), (.int .i64 a0.2.1), v33, v35])), (1, p1), (2, (bp b49)), (4, (bp b52)), (5, (.int .i64 (0 : Int))), (6, (.bool x57)), (7, (.bool (!x57))), (9, p1), (10, (.bool x66)), (11, (.bool (!x66))), (13, p1), (14, (.agg #[(.int .i64 x75.1), (.int .i64 x75.2.1), v77, v78]))] 5 = some (.int .i64 (0 : Int)))
   obtain rfl := Option.some.inj hm
   have H : Heap w0 [oA (rList rStr) v77 x75.2.2.1, oA (rList Rimpl_Edge) v78 x75.2.2.2] w82 := H.sel [0, 1] (by decide)
   exact leaveR2 S rfl hrv0 hrv1 ⟨v77, v78, rfl, H⟩

/-- slices.Index[[]impl.Edge,impl.Edge] -/
def slices_Index__impl_Edge_impl_Edge_m (fuel : Nat) (a0 : (List Timpl_Edge)) (a1 : Timpl_Edge) : Option (Int) :=
  (iter (fun (s : (Int)) => (match s with | (x62) => (if (decide (x62 < (a0.length : Int))) = true then (idx a0 x62).bind fun x92 => (if ([a1.1, a1.2.1, a1.2.2] == [x92.1, x92.2.1, x92.2.2]) = true then some (.inr (.inr x62)) else some (.inl ((W (x62 + (1 : Int)))))) else some (.inr (.inl ()))) : Option (((Int)) ⊕ ((Unit) ⊕ (Int))))) fuel ((0 : Int))).bind fun res81 => ctl (β := Unit) (ρ := Int) (τ := Int) res81 (fun _ => some ((-1 : Int))) (fun q => some (q))
set_option maxRecDepth 20000 in
theorem slices_Index__impl_Edge_impl_Edge_ok {w0 : World} {fuel : Nat} {p0 p1 : Value} {a0 : (List Timpl_Edge)} {a1 : Timpl_Edge} {r : Int} (h0 : Rd (rList Rimpl_Edge) w0 p0 a0) (h1 : Rd Rimpl_Edge w0 p1 a1) (hm : slices_Index__impl_Edge_impl_Edge_m fuel a0 a1 = some r) :
  Calls Tryz.prog 170 #[p0, p1] w0 fun e w => e = .returned (.int .i64 r) ∧ Heap w0 [] w := by
 unfold slices_Index__impl_Edge_impl_Edge_m at hm
 have H := Heap.start w0
 obtain ⟨c31, rfl, h32⟩ := h1
 obtain ⟨c33, c34, rfl, h35, h36⟩ := h32
 obtain rfl := h35
 obtain ⟨c37, c38, rfl, h39, h40⟩ := h36
 obtain rfl := h39
 obtain rfl := h40
 refine enter (args := [p0, (.agg #[(.int .i64 a1.1), (.int .i64 a1.2.1), (.int .i64 a1.2.2)])]) Tryz.func170 rfl 19 rfl (Nat.le_of_ble_eq_true rfl) (fun a S => ?_)
 refine wp_seq (region_plain ?_)
 refine lx_box S trivial (by decide) rfl H rfl rfl (fun b41 w42 H => ⟨trivial, fun a S => ?_⟩)
 refine lq (.int .i64 (0 : Int)) S (q_assign rfl) fun a S => ?_
 refine lx_nil (thenN ?_)
 refine wp_seq (wp_seq (region_plain ?_))
 refine lq p0 S (q_move rfl) fun a S => ?_
 refine lq (.int .i64 (a0.length : Int)) S (q_lenSl rfl (h0).isSl rfl Tryz.underlying28) fun a S => ?_
 refine lq (.int .i64 (0 : Int)) S (q_move rfl) fun a S => ?_
 refine lx_nil (thenN ?_)
 obtain ⟨res81, hit82, hk85⟩ := bind_some hm
 obtain ⟨f83, hf84, hit82⟩ := iter_name hit82
 refine block_loop (fun a w => Slots a 19 [] ∧ Heap w0 [] w ∧ res81 = .inl ()) ?_ ?_
 ·rintro a w ⟨S, H, rfl⟩
  have hm := ctl_inl hk85
  refine thenN ?_
  refine wp_seq (region_plain ?_)
  refine lq (.int .i64 (-1 : Int)) S (q_assign rfl) fun a S => ?_
  refine lx_nil (thenN ?_)
  refine wp_ret ?_
  obtain rfl := Option.some.inj hm
  exact leave1 S rfl rfl ⟨rfl, H⟩
 ·skip
  refine loop_ghost (fun n a w => ∃ (x62 : Int), Slots a 19 [(0, p0), (3, (bp b41)), (7, (.int .i64 (a0.length : Int))), (8, (.int .i64 x62))] ∧ Heap w0 [bA b41 [(.int .i64 a1.1), (.int .i64 a1.2.1), (.int .i64 a1.2.2)] 72] w ∧ iter f83 n (x62) = some res81) _ ⟨(0 : Int), S.sub ⟨rfl, rfl, rfl, rfl, trivial⟩, H, hit82⟩ ?_
  rintro n a w ⟨x62, S, H, hit82⟩
  obtain ⟨m86, o87, rfl, hm, hc88⟩ := iter_step hit82
  rw [hf84] at hm
  refine wp_seq (region_plain ?_)
  refine lq (.bool (decide (x62 < (a0.length : Int)))) S (q_lss rfl rfl) fun a S => ?_
  refine lx_nil (thenN ?_)
  refine wp_seq ?_
  refine cond_b S rfl (fun hc89 => ?_) (fun hc89 => ?_)
  ·have hm := ite_t hc89 hm
   refine wp_skip (thenN ?_)
   refine wp_seq ?_
   refine wp_block ?_
   refine wp_seq (region_plain ?_)
   refine lq (.int .i64 x62) S (q_move rfl) fun a S => ?_
   refine lq (.int .i64 x62) S (q_assign rfl) fun a S => ?_
   refine lx_nil (thenN ?_)
   refine wp_seq ?_
   refine region_drawG (fun w1 => Heap w0 [bA b41 [(.int .i64 a1.1), (.int .i64 a1.2.1), (.int .i64 a1.2.2)] 72] w1) (fun i => [].contains i) mixed (by kernel_rfl) (fun w91 he90 => ?_)
   have H := H.later he90
   refine ⟨H.sel [0] (by decide), ?_⟩
   refine lq (.agg #[(.int .i64 a1.1), (.int .i64 a1.2.1), (.int .i64 a1.2.2)]) S (q_loadA (cs := [(.int .i64 a1.1), (.int .i64 a1.2.1), (.int .i64 a1.2.2)]) rfl (isP_bp _) Tryz.isAgg72 Tryz.sizeOf72 (fun w1 hC => (fun j u hu => boxAt (i := 0) hC rfl hu))) fun a S => ?_
   refine lq p0 S (q_move rfl) fun a S => ?_
   refine lq (.int .i64 x62) S (q_move rfl) fun a S => ?_
   obtain ⟨x92, e93, hm⟩ := bind_some hm
   obtain ⟨c94, h95, hat96⟩ := (h0).elem (idx_some e93).2
   obtain ⟨c97, c98, rfl, h99, h100⟩ := h95
   obtain rfl := h99
   obtain ⟨c101, c102, rfl, h103, h104⟩ := h100
   obtain rfl := h103
   obtain rfl := h104
   have hlt := lt_of_idx (idx_some e93).2
   refine lq (ePtr p0 (x62.toNat * 3)) S (q_indexAddr rfl (h0).isSl rfl (idx_some e93).1 hlt Tryz.underlying28 Tryz.sizeOf72) fun a S => ?_
   refine lq (.agg #[(.int .i64 x92.1), (.int .i64 x92.2.1), (.int .i64 x92.2.2)]) S (q_loadA (cs := [(.int .i64 x92.1), (.int .i64 x92.2.1), (.int .i64 x92.2.2)]) rfl ((hat96 0 _ rfl).isP) Tryz.isAgg72 Tryz.sizeOf72 (fun w1 hC => (fun j u hu => (hat96 j u hu).ext hC.ext))) fun a S => ?_
   refine lq (.bool ([a1.1, a1.2.1, a1.2.2] == [x92.1, x92.2.1, x92.2.2])) S (q_aeql (ms := [a1.1, a1.2.1, a1.2.2]) (ns := [x92.1, x92.2.1, x92.2.2]) rfl rfl Tryz.underlying72 (by kernel_rfl) (by kernel_rfl) ⟨by decide, Tryz.underlying2, rfl, ⟨by decide, Tryz.underlying2, rfl, ⟨by decide, Tryz.underlying2, rfl, trivial⟩⟩⟩ rfl rfl) fun a S => ?_
   refine lx_nil (thenN ?_)
   refine cond_b S rfl (fun hc105 => ?_) (fun hc105 => ?_)
   ·have hm := ite_t hc105 hm
    refine wp_seq (region_plain ?_)
    refine lq (.int .i64 x62) S (q_move rfl) fun a S => ?_
    refine lq (.int .i64 x62) S (q_assign rfl) fun a S => ?_
    refine lx_nil (thenN ?_)
    refine wp_ret (inBlock_ret ?_)
    refine then_ret ?_
    refine then_ret ?_
    refine inBlock_ret ?_
    refine then_ret ?_
    refine then_ret ?_
    obtain rfl := it_brk hm hc88
    have hm := ctl_inr hk85
    obtain rfl := Option.some.inj hm
    have H : Heap w0 [] w91 := H.sel [] (by decide)
    exact leave1 S rfl rfl ⟨rfl, H⟩
   ·have hm := ite_f hc105 hm
    refine wp_skip ?_
    refine inBlock_norm ?_
    refine thenN ?_
    refine region_plain ?_
    refine lq (.int .i64 (W (x62 + (1 : Int)))) S (q_add rfl rfl) fun a S => ?_
    refine lq (.int .i64 (W (x62 + (1 : Int)))) S (q_move rfl) fun a S => ?_
    refine lx_nil ?_
    exact ⟨m86, Nat.lt_succ_self _, (W (x62 + (1 : Int))), S.sub ⟨rfl, rfl, rfl, rfl, trivial⟩, H, it_cont hm hc88⟩
  ·have hm := ite_f hc89 hm
   refine wp_exit ?_
   refine then_exit ?_
   refine then_exit ?_
   refine inBlock_exit ?_
   obtain rfl := it_brk hm hc88
   have H : Heap w0 [] w := H.sel [] (by decide)
   exact ⟨S.sub trivial, H, rfl⟩

/-- slices.Contains[[]impl.Edge,impl.Edge] -/
def slices_Contains__impl_Edge_impl_Edge_m (fuel : Nat) (a0 : (List Timpl_Edge)) (a1 : Timpl_Edge) : Option (Bool) :=
  (slices_Index__impl_Edge_impl_Edge_m fuel a0 (a1.1, a1.2.1, a1.2.2)).bind fun x46 => some ((decide ((0 : Int) ≤ x46)))
set_option maxRecDepth 20000 in
theorem slices_Contains__impl_Edge_impl_Edge_ok {w0 : World} {fuel : Nat} {p0 p1 : Value} {a0 : (List Timpl_Edge)} {a1 : Timpl_Edge} {r : Bool} (h0 : Rd (rList Rimpl_Edge) w0 p0 a0) (h1 : Rd Rimpl_Edge w0 p1 a1) (hm : slices_Contains__impl_Edge_impl_Edge_m fuel a0 a1 = some r) :
  Calls Tryz.prog 149 #[p0, p1] w0 fun e w => e = .returned (.bool r) ∧ Heap w0 [] w := by
 unfold slices_Contains__impl_Edge_impl_Edge_m at hm
 have H := Heap.start w0
 obtain ⟨c31, rfl, h32⟩ := h1
 obtain ⟨c33, c34, rfl, h35, h36⟩ := h32
 obtain rfl := h35
 obtain ⟨c37, c38, rfl, h39, h40⟩ := h36
 obtain rfl := h39
 obtain rfl := h40
 refine enter (args := [p0, (.agg #[(.int .i64 a1.1), (.int .i64 a1.2.1), (.int .i64 a1.2.2)])]) Tryz.func149 rfl 9 rfl (Nat.le_of_ble_eq_true rfl) (fun a S => ?_)
 refine wp_seq (region_plain ?_)
 refine lx_box S trivial (by decide) rfl H rfl rfl (fun b41 w42 H => ⟨trivial, fun a S => ?_⟩)
 refine lq (.bool false) S (q_assign rfl) fun a S => ?_
 refine lx_nil (thenN ?_)
 refine wp_seq (region_plain ?_)
 refine lq p0 S (q_move rfl) fun a S => ?_
 refine lx_e (.agg #[(.int .i64 a1.1), (.int .i64 a1.2.1), (.int .i64 a1.2.2)]) S trivial (by decide) rfl trivial (q_loadA (cs := [(.int .i64 a1.1), (.int .i64 a1.2.1), (.int .i64 a1.2.2)]) rfl (isP_bp _) Tryz.isAgg72 Tryz.sizeOf72 (by rintro _ rfl; exact (fun j u hu => boxAt (i := 0) H rfl hu))) (fun a S => ?_)
 obtain ⟨x46, e47, hm⟩ := bind_some hm
 refine lx_call (xs := [.tmp 5, .tmp 6]) S trivial (by decide) rfl rfl Tryz.call170 ((slices_Index__impl_Edge_impl_Edge_ok (H.arg h0) ⟨[(.int .i64 a1.1), (.int .i64 a1.2.1), (.int .i64 a1.2.2)], rfl, ⟨[(.int .i64 a1.1)], [(.int .i64 a1.2.1), (.int .i64 a1.2.2)], rfl, rfl, ⟨[(.int .i64 a1.2.1)], [(.int .i64 a1.2.2)], rfl, rfl, rfl⟩⟩⟩ e47).mono ?_)
 rintro e w44 ⟨rfl, Hc45⟩
 have H := H.call0 Hc45
 refine ⟨_, rfl, trivial, fun a S => ?_⟩
 refine lq (.bool (decide ((0 : Int) ≤ x46))) S (q_geq rfl rfl) fun a S => ?_
 refine lq (.bool (decide ((0 : Int) ≤ x46))) S (q_assign rfl) fun a S => ?_
 refine lx_nil (thenN ?_)
 refine wp_ret ?_
 obtain rfl := Option.some.inj hm
 have H : Heap w0 [] w44 := H.sel [] (by decide)
 exact leave1 S rfl rfl ⟨rfl, H⟩

/-- (impl.Lts).edgesOk -/
def impl_Lts_edgesOk_m (fuel : Nat) (a0 : Timpl_Lts) (a1 : (List Timpl_Edge)) : Option (Bool) :=
  (iter (fun (s : (Int)) => (match s with | (x103) => (if (decide (x103 < (a1.length : Int))) = true then (idx a1 x103).bind fun x164 => (slices_Contains__impl_Edge_impl_Edge_m fuel a0.2.2.2 (x164.1, x164.2.1, x164.2.2)).bind fun x185 => (if (!x185) = true then some true else (if (decide ((0 : Int) < x103)) = true then (idx a1 (W (x103 - (1 : Int)))).bind fun x194 => (impl_compareEdges_m fuel (x194.1, x194.2.1, x194.2.2) (x164.1, x164.2.1, x164.2.2)).bind fun x209 => some (decide ((0 : Int) ≤ x209)) else some false).bind fun t191 => some t191).bind fun t188 => (if t188 = true then some (.inr (.inr false)) else some (.inl ((W (x103 + (1 : Int)))))) else some (.inr (.inl ()))) : Option (((Int)) ⊕ ((Unit) ⊕ (Bool))))) fuel ((0 : Int))).bind fun res155 => ctl (β := Unit) (ρ := Bool) (τ := Bool) res155 (fun _ => some (true)) (fun q => some (q))
set_option maxRecDepth 20000 in
theorem impl_Lts_edgesOk_ok {w0 : World} {fuel : Nat} {p0 p1 : Value} {a0 : Timpl_Lts} {a1 : (List Timpl_Edge)} {r : Bool} (h0 : Rd Rimpl_Lts w0 p0 a0) (h1 : Rd (rList Rimpl_Edge) w0 p1 a1) (hm : impl_Lts_edgesOk_m fuel a0 a1 = some r) :
  Calls Tryz.prog 113 #[p0, p1] w0 fun e w => e = .returned (.bool r) ∧ Heap w0 [] w := by
 unfold impl_Lts_edgesOk_m at hm
 have H := Heap.start w0
 obtain ⟨c31, rfl, h32⟩ := h0
 obtain ⟨c37, c38, rfl, h39, h40⟩ := h32
 obtain rfl := h39
 obtain ⟨c41, c42, rfl, h43, h44⟩ := h40
 obtain rfl := h43
 obtain ⟨c45, c46, rfl, h47, h48⟩ := h44
 obtain ⟨v33, rfl, h34⟩ := rd_list h47
 obtain ⟨v35, rfl, h36⟩ := rd_list h48
 refine enter (args := [(.agg #[(.int .i64 a0.1), (.int .i64 a0.2.1), v33, v35]), p1]) Tryz.func113 rfl 34 rfl (Nat.le_of_ble_eq_true rfl) (fun a S => ?_)
 refine wp_seq (region_plain ?_)
 refine lx_box S trivial (by decide) rfl H rfl rfl (fun b49 w50 H => ⟨trivial, fun a S => ?_⟩)
 refine lq (.bool false) S (q_assign rfl) fun a S => ?_
 refine lx_nil (thenN ?_)
 refine wp_seq (wp_seq (region_plain ?_))
 refine lq p1 S (q_move rfl) fun a S => ?_
 refine lq (.int .i64 (a1.length : Int)) S (q_lenSl rfl (h1).isSl rfl Tryz.underlying28) fun a S => ?_
 refine lq (.int .i64 (0 : Int)) S (q_move rfl) fun a S => ?_
 refine lx_nil (thenN ?_)
 obtain ⟨res155, hit156, hk159⟩ := bind_some hm
 obtain ⟨f157, hf158, hit156⟩ := iter_name hit156
 refine block_loop (fun a w => Slots a 34 [] ∧ Heap w0 [] w ∧ res155 = .inl ()) ?_ ?_
 ·rintro a w ⟨S, H, rfl⟩
  have hm := ctl_inl hk159
  refine thenN ?_
  refine wp_seq (region_plain ?_)
  refine lq (.bool true) S (q_assign rfl) fun a S => ?_
  refine lx_nil (thenN ?_)
  refine wp_ret ?_
  obtain rfl := Option.some.inj hm
  exact leave1 S rfl rfl ⟨rfl, H⟩
 ·skip
  refine loop_ghost (fun n a w => ∃ (x103 : Int), Slots a 34 [(1, p1), (2, (bp b49)), (7, p1), (8, (.int .i64 (a1.length : Int))), (9, (.int .i64 x103))] ∧ Heap w0 [bA b49 [(.int .i64 a0.1), (.int .i64 a0.2.1), v33, v35] 30] w ∧ iter f157 n (x103) = some res155) _ ⟨(0 : Int), S.sub ⟨rfl, rfl, rfl, rfl, rfl, trivial⟩, H, hit156⟩ ?_
  rintro n a w ⟨x103, S, H, hit156⟩
  obtain ⟨m160, o161, rfl, hm, hc162⟩ := iter_step hit156
  rw [hf158] at hm
  refine wp_seq (region_plain ?_)
  refine lq (.bool (decide (x103 < (a1.length : Int)))) S (q_lss rfl rfl) fun a S => ?_
  refine lx_nil (thenN ?_)
  refine wp_seq ?_
  refine cond_b S rfl (fun hc163 => ?_) (fun hc163 => ?_)
  ·have hm := ite_t hc163 hm
   refine wp_skip (thenN ?_)
   refine wp_seq ?_
   refine wp_block ?_
   refine wp_seq (region_plain ?_)
   refine lq (.int .i64 x103) S (q_move rfl) fun a S => ?_
   obtain ⟨x164, e165, hm⟩ := bind_some hm
   obtain ⟨c166, h167, hat168⟩ := (h1).elem (idx_some e165).2
   obtain ⟨c169, c170, rfl, h171, h172⟩ := h167
   obtain rfl := h171
   obtain ⟨c173, c174, rfl, h175, h176⟩ := h172
   obtain rfl := h175
   obtain rfl := h176
   have hlt := lt_of_idx (idx_some e165).2
   refine lq (ePtr p1 (x103.toNat * 3)) S (q_indexAddr rfl (h1).isSl rfl (idx_some e165).1 hlt Tryz.underlying28 Tryz.sizeOf72) fun a S => ?_
   refine lx_e (.agg #[(.int .i64 x164.1), (.int .i64 x164.2.1), (.int .i64 x164.2.2)]) S trivial (by decide) rfl trivial (q_loadA (cs := [(.int .i64 x164.1), (.int .i64 x164.2.1), (.int .i64 x164.2.2)]) rfl ((hat168 0 _ rfl).isP) Tryz.isAgg72 Tryz.sizeOf72 (by rintro _ rfl; exact (fun j u hu => (hat168 j u hu).ext H.ext))) (fun a S => ?_)
   refine lx_alloc S trivial (by decide) rfl H Tryz.zeroValue72 rfl (fun b177 w178 H => ⟨trivial, fun a S => ?_⟩)
   refine lq (.int .i64 x103) S (q_assign rfl) fun a S => ?_
   refine lx_storeBox (o := 0) (i := 0) (us := [(.int .i64 x164.1), (.int .i64 x164.2.1), (.int .i64 x164.2.2)]) (cs' := [(.int .i64 x164.1), (.int .i64 x164.2.1), (.int .i64 x164.2.2)]) S trivial rfl H rfl rfl rfl rfl Tryz.sizeOf72 (Nat.le_of_ble_eq_true rfl) (List.forall_mem_cons.2 ⟨rfl, (List.forall_mem_cons.2 ⟨rfl, (List.forall_mem_cons.2 ⟨rfl, (fun _ h => nomatch h)⟩)⟩)⟩) rfl (fun w180 H => ⟨trivial, fun a S => ?_⟩)
   change Heap w0 [bA b177 [(.int .i64 x164.1), (.int .i64 x164.2.1), (.int .i64 x164.2.2)] 72, bA b49 [(.int .i64 a0.1), (.int .i64 a0.2.1), v33, v35] 30] w180 at H
   refine lx_nil (thenN ?_)
   refine wp_seq ?_
   refine region_drawG (fun w1 => Heap w0 [bA b177 [(.int .i64 x164.1), (.int .i64 x164.2.1), (.int .i64 x164.2.2)] 72, bA b49 [(.int .i64 a0.1), (.int .i64 a0.2.1), v33, v35] 30] w1) (fun i => [3, 15].contains i) mixed (by kernel_rfl) (fun w182 he181 => ?_)
   have H := H.later he181
   refine ⟨H.sel [0, 1] (by decide), ?_⟩
   refine lq (pAdd (bp b49) 3) S (q_fieldAddr' 3 28 rfl (isP_bp _) Tryz.underlying30 rfl Tryz.sizeOf28) fun a S => ?_
   refine lq v35 S (q_load1 rfl Tryz.isAgg28 (fun w1 hC => (At.of_add (m := 3) (j := 0) (boxAt (i := 1) hC rfl (j := 3) rfl)))) fun a S => ?_
   refine lq (.agg #[(.int .i64 x164.1), (.int .i64 x164.2.1), (.int .i64 x164.2.2)]) S (q_loadA (cs := [(.int .i64 x164.1), (.int .i64 x164.2.1), (.int .i64 x164.2.2)]) rfl (isP_bp _) Tryz.isAgg72 Tryz.sizeOf72 (fun w1 hC => (fun j u hu => boxAt (i := 0) hC rfl hu))) fun a S => ?_
   obtain ⟨x185, e186, hm⟩ := bind_some hm
   refine lx_call (xs := [.tmp 15, .tmp 16]) S trivial (by decide) rfl rfl Tryz.call149 ((slices_Contains__impl_Edge_impl_Edge_ok (H.arg h36) ⟨[(.int .i64 x164.1), (.int .i64 x164.2.1), (.int .i64 x164.2.2)], rfl, ⟨[(.int .i64 x164.1)], [(.int .i64 x164.2.1), (.int .i64 x164.2.2)], rfl, rfl, ⟨[(.int .i64 x164.2.1)], [(.int .i64 x164.2.2)], rfl, rfl, rfl⟩⟩⟩ e186).mono ?_)
   rintro e w183 ⟨rfl, Hc184⟩
   have H := H.call0 Hc184
   refine ⟨_, rfl, H.sel [0, 1] (by decide), fun a S => ?_⟩
   refine lq (.bool (!x185)) S (q_not rfl) fun a S => ?_
   refine lq (.bool (!x185)) S (q_move rfl) fun a S => ?_
   obtain ⟨t188, e189, hm⟩ := bind_some hm
   refine lx_cut 13 (fun a w => Slots a 34 [(1, p1), (2, (bp b49)), (7, p1), (8, (.int .i64 (a1.length : Int))), (9, (.int .i64 x103)), (32, (.bool t188))] ∧ Heap w0 [bA b49 [(.int .i64 a0.1), (.int .i64 a0.2.1), v33, v35] 30] w) ?_ ?_
   ·by_cases hc190 : (!x185) = true
    ·have hm := ite_t hc190 e189
     refine lx_skip S rfl rfl (isB_ne hc190) (by decide) (fun a S => ?_)
     refine lx_skip S rfl rfl (isB_ne hc190) (by decide) (fun a S => ?_)
     refine lx_skip S rfl rfl (isB_ne hc190) (by decide) (fun a S => ?_)
     refine lx_skip S rfl rfl rfl (by decide) (fun a S => ?_)
     refine lx_skip S rfl rfl rfl (by decide) (fun a S => ?_)
     refine lx_skip S rfl rfl rfl (by decide) (fun a S => ?_)
     refine lx_skip S rfl rfl rfl (by decide) (fun a S => ?_)
     refine lx_skip S rfl rfl rfl (by decide) (fun a S => ?_)
     refine lx_skip S rfl rfl rfl (by decide) (fun a S => ?_)
     refine lx_skip S rfl rfl rfl (by decide) (fun a S => ?_)
     refine lx_skip S rfl rfl rfl (by decide) (fun a S => ?_)
     refine lx_skip S rfl rfl (isB_ne hc190) (by decide) (fun a S => ?_)
     refine lq (.bool true) S (q_pickT' rfl hc190 rfl) fun a S => ?_
     refine lx_nil ?_
     obtain rfl := Option.some.inj hm
     have H := H.sel [1] (by decide)
     exact ⟨S.sub ⟨rfl, rfl, rfl, rfl, rfl, rfl, trivial⟩, H⟩
    ·have hm := ite_f (eq_false_of_ne_true hc190) e189
     have hc190 : (!x185) = false := eq_false_of_ne_true hc190
     refine lx_q (.int .i64 x103) S (want_b rfl rfl hc190) (by decide) (q_move rfl) (fun a S => ?_)
     refine lx_q (.bool (decide ((0 : Int) < x103))) S (want_b rfl rfl hc190) (by decide) (q_gtr rfl rfl) (fun a S => ?_)
     refine lx_q (.bool (decide ((0 : Int) < x103))) S (want_b rfl rfl hc190) (by decide) (q_move rfl) (fun a S => ?_)
     obtain ⟨t191, e192, hm⟩ := bind_some hm
     refine lx_cut 9 (fun a w => Slots a 34 [(1, p1), (2, (bp b49)), (7, p1), (8, (.int .i64 (a1.length : Int))), (9, (.int .i64 x103)), (19, (.bool (!x185))), (31, (.bool t191))] ∧ Heap w0 [bA b49 [(.int .i64 a0.1), (.int .i64 a0.2.1), v33, v35] 30] w) ?_ ?_
     ·by_cases hc193 : (decide ((0 : Int) < x103)) = true
      ·have hm := ite_t hc193 e192
       refine lx_q p1 S (want_b rfl rfl hc193) (by decide) (q_move rfl) (fun a S => ?_)
       refine lx_q (.int .i64 x103) S (want_b rfl rfl hc193) (by decide) (q_move rfl) (fun a S => ?_)
       refine lx_q (.int .i64 (W (x103 - (1 : Int)))) S (want_b rfl rfl hc193) (by decide) (q_sub rfl rfl) (fun a S => ?_)
       obtain ⟨x194, e195, hm⟩ := bind_some hm
       obtain ⟨c196, h197, hat198⟩ := (h1).elem (idx_some e195).2
       obtain ⟨c199, c200, rfl, h201, h202⟩ := h197
       obtain rfl := h201
       obtain ⟨c203, c204, rfl, h205, h206⟩ := h202
       obtain rfl := h205
       obtain rfl := h206
       have hlt := lt_of_idx (idx_some e195).2
       refine lx_q (ePtr p1 ((W (x103 - (1 : Int))).toNat * 3)) S (want_b rfl rfl hc193) (by decide) (q_indexAddr rfl (h1).isSl rfl (idx_some e195).1 hlt Tryz.underlying28 Tryz.sizeOf72) (fun a S => ?_)
       refine lx_q (.agg #[(.int .i64 x194.1), (.int .i64 x194.2.1), (.int .i64 x194.2.2)]) S (want_b rfl rfl hc193) (by decide) (q_loadA (cs := [(.int .i64 x194.1), (.int .i64 x194.2.1), (.int .i64 x194.2.2)]) rfl ((hat198 0 _ rfl).isP) Tryz.isAgg72 Tryz.sizeOf72 (fun w1 hC => (fun j u hu => (hat198 j u hu).ext hC.ext))) (fun a S => ?_)
       refine lx_q (.agg #[(.int .i64 x164.1), (.int .i64 x164.2.1), (.int .i64 x164.2.2)]) S (want_b rfl rfl hc193) (by decide) (q_loadA (cs := [(.int .i64 x164.1), (.int .i64 x164.2.1), (.int .i64 x164.2.2)]) rfl (isP_bp _) Tryz.isAgg72 Tryz.sizeOf72 (fun w1 hC => (fun j u hu => boxAt (i := 0) hC rfl hu))) (fun a S => ?_)
       obtain ⟨x209, e210, hm⟩ := bind_some hm
       refine lx_call (xs := [.tmp 27, .tmp 28]) S (want_b rfl rfl hc193) (by decide) rfl rfl Tryz.call75 ((impl_compareEdges_ok ⟨[(.int .i64 x194.1), (.int .i64 x194.2.1), (.int .i64 x194.2.2)], rfl, ⟨[(.int .i64 x194.1)], [(.int .i64 x194.2.1), (.int .i64 x194.2.2)], rfl, rfl, ⟨[(.int .i64 x194.2.1)], [(.int .i64 x194.2.2)], rfl, rfl, rfl⟩⟩⟩ ⟨[(.int .i64 x164.1), (.int .i64 x164.2.1), (.int .i64 x164.2.2)], rfl, ⟨[(.int .i64 x164.1)], [(.int .i64 x164.2.1), (.int .i64 x164.2.2)], rfl, rfl, ⟨[(.int .i64 x164.2.1)], [(.int .i64 x164.2.2)], rfl, rfl, rfl⟩⟩⟩ e210).mono ?_)
       rintro e w207 ⟨rfl, Hc208⟩
       have H := H.call0 Hc208
       refine ⟨_, rfl, H.sel [0, 1] (by decide), fun a S => ?_⟩
       refine lx_q (.bool (decide ((0 : Int) ≤ x209))) S (want_b rfl rfl hc193) (by decide) (q_geq rfl rfl) (fun a S => ?_)
       refine lx_q (.bool (decide ((0 : Int) ≤ x209))) S (want_b rfl rfl hc190) (by decide) (q_pickT' rfl hc193 rfl) (fun a S => ?_)
       refine lx_nil ?_
       obtain rfl := Option.some.inj hm
       have H := H.sel [1] (by decide)
       exact ⟨S.sub ⟨rfl, rfl, rfl, rfl, rfl, rfl, rfl, trivial⟩, H⟩
      ·have hm := ite_f (eq_false_of_ne_true hc193) e192
       have hc193 : (decide ((0 : Int) < x103)) = false := eq_false_of_ne_true hc193
       refine lx_skip S rfl rfl (isB_ne hc193) (by decide) (fun a S => ?_)
       refine lx_skip S rfl rfl (isB_ne hc193) (by decide) (fun a S => ?_)
       refine lx_skip S rfl rfl (isB_ne hc193) (by decide) (fun a S => ?_)
       refine lx_skip S rfl rfl (isB_ne hc193) (by decide) (fun a S => ?_)
       refine lx_skip S rfl rfl (isB_ne hc193) (by decide) (fun a S => ?_)
       refine lx_skip S rfl rfl (isB_ne hc193) (by decide) (fun a S => ?_)
       refine lx_skip S rfl rfl (isB_ne hc193) (by decide) (fun a S => ?_)
       refine lx_skip S rfl rfl (isB_ne hc193) (by decide) (fun a S => ?_)
       refine lx_q (.bool false) S (want_b rfl rfl hc190) (by decide) (q_pickF' rfl hc193 rfl) (fun a S => ?_)
       refine lx_nil ?_
       obtain rfl := Option.some.inj hm
       have H := H.sel [1] (by decide)
       exact ⟨S.sub ⟨rfl, rfl, rfl, rfl, rfl, rfl, rfl, trivial⟩, H⟩
     ·rintro a w ⟨S, H⟩
      refine lq (.bool t191) S (q_pickF' rfl hc190 rfl) fun a S => ?_
      refine lx_nil ?_
      obtain rfl := Option.some.inj hm
      exact ⟨S.sub ⟨rfl, rfl, rfl, rfl, rfl, rfl, trivial⟩, H⟩
   ·rintro a w ⟨S, H⟩
    refine lx_nil (thenN ?_)
    refine cond_b S rfl (fun hc212 => ?_) (fun hc212 => ?_)
    ·have hm := ite_t hc212 hm
     refine wp_seq (region_plain ?_)
     refine lq (.bool false) S (q_assign rfl) fun a S => ?_
     refine lx_nil (thenN ?_)
     refine wp_ret (inBlock_ret ?_)
     refine then_ret ?_
     refine then_ret ?_
     refine inBlock_ret ?_
     refine then_ret ?_
     refine then_ret ?_
     obtain rfl := it_brk hm hc162
     have hm := ctl_inr hk159
     obtain rfl := Option.some.inj hm
     have H : Heap w0 [] w := H.sel [] (by decide)
     exact leave1 S rfl rfl ⟨rfl, H⟩
    ·have hm := ite_f hc212 hm
     refine wp_skip ?_
     refine inBlock_norm ?_
     refine thenN ?_
     refine region_plain ?_
     refine lq (.int .i64 (W (x103 + (1 : Int)))) S (q_add rfl rfl) fun a S => ?_
     refine lq (.int .i64 (W (x103 + (1 : Int)))) S (q_move rfl) fun a S => ?_
     refine lx_nil ?_
     exact ⟨m160, Nat.lt_succ_self _, (W (x103 + (1 : Int))), S.sub ⟨rfl, rfl, rfl, rfl, rfl, trivial⟩, H, it_cont hm hc162⟩
  ·have hm := ite_f hc163 hm
   refine wp_exit ?_
   refine then_exit ?_
   refine then_exit ?_
   refine inBlock_exit ?_
   obtain rfl := it_brk hm hc162
   have H : Heap w0 [] w := H.sel [] (by decide)
   exact ⟨S.sub trivial, H, rfl⟩

/-- slices.Clone[[]string,string] -/
def slices_Clone__string_string_m (_ : Nat) (a0 : (List Str)) : Option ((List Str)) :=
  (app ([] : List Str) a0).bind fun x38 => some (x38)
set_option maxRecDepth 20000 in
theorem slices_Clone__string_string_ok {w0 : World} {fuel : Nat} {p0 : Value} {a0 : (List Str)} {r : (List Str)} (h0 : Rd (rList rStr) w0 p0 a0) (hm : slices_Clone__string_string_m fuel a0 = some r) :
  Calls Tryz.prog 150 #[p0] w0 fun e w => ∃ (v0 : Value), e = .returned (v0) ∧ Heap w0 [oA (rList rStr) v0 r] w := by
 unfold slices_Clone__string_string_m at hm
 have H := Heap.start w0
 refine enter (args := [p0]) Tryz.func150 rfl 8 rfl (Nat.le_of_ble_eq_true rfl) (fun a S => ?_)
 refine wp_seq (region_plain ?_)
 refine lq (.slice none 0 0) S (q_assign rfl) fun a S => ?_
 refine lx_nil (thenN ?_)
 refine wp_seq (wp_seq (region_plain ?_))
 refine lq p0 S (q_move rfl) fun a S => ?_
 obtain ⟨bn31, hqn, hb32⟩ := ((H.arg h0)).isNil (P := Tryz.prog) Tryz.underlying22
 refine lq (.bool bn31) S (hqn rfl rfl) fun a S => ?_
 refine lx_nil (thenN ?_)
 refine cond_b S rfl (fun hc33 => ?_) (fun hc33 => ?_)
 ·obtain rfl := hb32 hc33
  replace hm : some [] = some r := by simpa [app] using hm
  refine wp_seq (region_plain ?_)
  refine lq (.slice none 0 0) S (q_assign rfl) fun a S => ?_
  refine lx_nil (thenN ?_)
  refine wp_ret (then_ret ?_)
  obtain rfl := Option.some.inj hm
  have H : Heap w0 [oA (rList rStr) (.slice none 0 0) ([] : List Str)] w0 := H.nilList rStr
  exact leave1 S rfl rfl ⟨(.slice none 0 0), rfl, H⟩
 ·skip
  refine wp_skip (thenN ?_)
  refine wp_seq (region_plain ?_)
  refine lx_buildSlice0 (r := rStr) S trivial (by decide) rfl H Tryz.underlying22 Tryz.sizeOf9 (fun v35 w36 H => ⟨trivial, fun a S => ?_⟩)
  refine lq p0 S (q_move rfl) fun a S => ?_
  obtain ⟨x38, e39, hm⟩ := bind_some hm
  obtain ⟨hle, hap⟩ := app_some e39
  replace hap := hap.symm
  subst hap
  refine lx_appendRd (r := rStr) S trivial (by decide) rfl H flat_str (H.arg h0) rfl rfl Tryz.underlying22 Tryz.ti9 rfl rfl rfl (by decide) (by decide) hle (fun v40 w41 H => ⟨trivial, fun a S => ?_⟩)
  refine lq v40 S (q_assign rfl) fun a S => ?_
  refine lx_nil (thenN ?_)
  refine wp_ret ?_
  obtain rfl := Option.some.inj hm
  exact leave1 S rfl rfl ⟨v40, rfl, H⟩

/-- slices.Clone[[]impl.Edge,impl.Edge] -/
def slices_Clone__impl_Edge_impl_Edge_m (_ : Nat) (a0 : (List Timpl_Edge)) : Option ((List Timpl_Edge)) :=
  (app ([] : List Timpl_Edge) a0).bind fun x38 => some (x38)
set_option maxRecDepth 20000 in
theorem slices_Clone__impl_Edge_impl_Edge_ok {w0 : World} {fuel : Nat} {p0 : Value} {a0 : (List Timpl_Edge)} {r : (List Timpl_Edge)} (h0 : Rd (rList Rimpl_Edge) w0 p0 a0) (hm : slices_Clone__impl_Edge_impl_Edge_m fuel a0 = some r) :
  Calls Tryz.prog 151 #[p0] w0 fun e w => ∃ (v0 : Value), e = .returned (v0) ∧ Heap w0 [oA (rList Rimpl_Edge) v0 r] w := by
 unfold slices_Clone__impl_Edge_impl_Edge_m at hm
 have H := Heap.start w0
 refine enter (args := [p0]) Tryz.func151 rfl 8 rfl (Nat.le_of_ble_eq_true rfl) (fun a S => ?_)
 refine wp_seq (region_plain ?_)
 refine lq (.slice none 0 0) S (q_assign rfl) fun a S => ?_
 refine lx_nil (thenN ?_)
 refine wp_seq (wp_seq (region_plain ?_))
 refine lq p0 S (q_move rfl) fun a S => ?_
 obtain ⟨bn31, hqn, hb32⟩ := ((H.arg h0)).isNil (P := Tryz.prog) Tryz.underlying28
 refine lq (.bool bn31) S (hqn rfl rfl) fun a S => ?_
 refine lx_nil (thenN ?_)
 refine cond_b S rfl (fun hc33 => ?_) (fun hc33 => ?_)
 ·obtain rfl := hb32 hc33
  replace hm : some [] = some r := by simpa [app] using hm
  refine wp_seq (region_plain ?_)
  refine lq (.slice none 0 0) S (q_assign rfl) fun a S => ?_
  refine lx_nil (thenN ?_)
  refine wp_ret (then_ret ?_)
  obtain rfl := Option.some.inj hm
  have H : Heap w0 [oA (rList Rimpl_Edge) (.slice none 0 0) ([] : List Timpl_Edge)] w0 := H.nilList Rimpl_Edge
  exact leave1 S rfl rfl ⟨(.slice none 0 0), rfl, H⟩
 ·skip
  refine wp_skip (thenN ?_)
  refine wp_seq (region_plain ?_)
  refine lx_buildSlice0 (r := Rimpl_Edge) S trivial (by decide) rfl H Tryz.underlying28 Tryz.sizeOf72 (fun v35 w36 H => ⟨trivial, fun a S => ?_⟩)
  refine lq p0 S (q_move rfl) fun a S => ?_
  obtain ⟨x38, e39, hm⟩ := bind_some hm
  obtain ⟨hle, hap⟩ := app_some e39
  replace hap := hap.symm
  subst hap
  refine lx_appendRd (r := Rimpl_Edge) S trivial (by decide) rfl H (flat_prod (flat_int _) (flat_prod (flat_int _) (flat_int _))) (H.arg h0) rfl rfl Tryz.underlying28 Tryz.ti72 rfl rfl rfl (by decide) (by decide) hle (fun v40 w41 H => ⟨trivial, fun a S => ?_⟩)
  refine lq v40 S (q_assign rfl) fun a S => ?_
  refine lx_nil (thenN ?_)
  refine wp_ret ?_
  obtain rfl := Option.some.inj hm
  exact leave1 S rfl rfl ⟨v40, rfl, H⟩

/-- (impl.Lts).withEdges -/
def impl_Lts_withEdges_m (fuel : Nat) (a0 : Timpl_Lts) (a1 : (List Timpl_Edge)) : Option (Timpl_Lts) :=
  (slices_Clone__string_string_m fuel a0.2.2.1).bind fun x59 => (slices_Clone__impl_Edge_impl_Edge_m fuel a1).bind fun x66 => some ((a0.1, a0.2.1, x59, x66))
set_option maxRecDepth 20000 in
theorem impl_Lts_withEdges_ok {w0 : World} {fuel : Nat} {p0 p1 : Value} {a0 : Timpl_Lts} {a1 : (List Timpl_Edge)} {r : Timpl_Lts} (h0 : Rd Rimpl_Lts w0 p0 a0) (h1 : Rd (rList Rimpl_Edge) w0 p1 a1) (hm : impl_Lts_withEdges_m fuel a0 a1 = some r) :
  Calls Tryz.prog 114 #[p0, p1] w0 fun e w => ∃ (v0 : Value) (v1 : Value), e = .returned (.agg #[.int .i64 r.1, .int .i64 r.2.1, v0, v1]) ∧ Heap w0 [oA (rList rStr) v0 r.2.2.1, oA (rList Rimpl_Edge) v1 r.2.2.2] w := by
 unfold impl_Lts_withEdges_m at hm
 have H := Heap.start w0
 obtain ⟨c31, rfl, h32⟩ := h0
 obtain ⟨c37, c38, rfl, h39, h40⟩ := h32
 obtain rfl := h39
 obtain ⟨c41, c42, rfl, h43, h44⟩ := h40
 obtain rfl := h43
 obtain ⟨c45, c46, rfl, h47, h48⟩ := h44
 obtain ⟨v33, rfl, h34⟩ := rd_list h47
 obtain ⟨v35, rfl, h36⟩ := rd_list h48
 refine enter (args := [(.agg #[(.int .i64 a0.1), (.int .i64 a0.2.1), v33, v35]), p1]) Tryz.func114 rfl 15 rfl (Nat.le_of_ble_eq_true rfl) (fun a S => ?_)
 refine wp_seq (region_plain ?_)
 refine lx_box S trivial (by decide) rfl H rfl rfl (fun b49 w50 H => ⟨trivial, fun a S => ?_⟩)
 refine lx_alloc S trivial (by decide) rfl H Tryz.zeroValue30 rfl (fun b52 w53 H => ⟨trivial, fun a S => ?_⟩)
 refine lx_nil (thenN ?_)
 refine wp_seq ?_
 refine region_drawG (fun w1 => Heap w0 [bA b49 [(.int .i64 a0.1), (.int .i64 a0.2.1), v33, v35] 30] w1) (fun i => [6, 8, 10].contains i) mixed (by kernel_rfl) (fun w56 he55 => ?_)
 have H := H.later he55
 refine ⟨H.sel [1] (by decide), ?_⟩
 refine lq (pAdd (bp b49) 0) S (q_fieldAddr' 0 2 rfl (isP_bp _) Tryz.underlying30 rfl Tryz.sizeOf2) fun a S => ?_
 refine lq (.int .i64 a0.1) S (q_load1 rfl Tryz.isAgg2 (fun w1 hC => (At.of_add (m := 0) (j := 0) (boxAt (i := 0) hC rfl (j := 0) rfl)))) fun a S => ?_
 refine lq (pAdd (bp b49) 1) S (q_fieldAddr' 1 2 rfl (isP_bp _) Tryz.underlying30 rfl Tryz.sizeOf2) fun a S => ?_
 refine lq (.int .i64 a0.2.1) S (q_load1 rfl Tryz.isAgg2 (fun w1 hC => (At.of_add (m := 1) (j := 0) (boxAt (i := 0) hC rfl (j := 1) rfl)))) fun a S => ?_
 refine lq (pAdd (bp b49) 2) S (q_fieldAddr' 2 22 rfl (isP_bp _) Tryz.underlying30 rfl Tryz.sizeOf22) fun a S => ?_
 refine lq v33 S (q_load1 rfl Tryz.isAgg22 (fun w1 hC => (At.of_add (m := 2) (j := 0) (boxAt (i := 0) hC rfl (j := 2) rfl)))) fun a S => ?_
 obtain ⟨x59, e60, hm⟩ := bind_some hm
 refine lx_call (xs := [.tmp 10]) S trivial (by decide) rfl rfl Tryz.call150 ((slices_Clone__string_string_ok (H.arg h34) e60).mono ?_)
 rintro e w57 ⟨v61, rfl, Hc58⟩
 have H := H.call1 Hc58
 refine ⟨_, rfl, H.sel [2] (by decide), fun a S => ?_⟩
 refine lq p1 S (q_move rfl) fun a S => ?_
 obtain ⟨x66, e67, hm⟩ := bind_some hm
 refine lx_call (xs := [.tmp 12]) S trivial (by decide) rfl rfl Tryz.call151 ((slices_Clone__impl_Edge_impl_Edge_ok (H.arg h1) e67).mono ?_)
 rintro e w64 ⟨v68, rfl, Hc65⟩
 have H := H.call1 Hc65
 refine ⟨_, rfl, H.sel [3] (by decide), fun a S => ?_⟩
 refine lq (.agg #[(.int .i64 a0.1), (.int .i64 a0.2.1), v61, v68]) S (q_build (zs := [(.int .i64 (0 : Int)), (.int .i64 (0 : Int)), (.slice none 0 0), (.slice none 0 0)]) (szs := [1, 1, 1, 1]) (ps := [(0, [(.int .i64 a0.1)]), (1, [(.int .i64 a0.2.1)]), (2, [v61]), (3, [v68])]) (parts := [(0, .tmp 6), (1, .tmp 8), (2, .tmp 11), (3, .tmp 13)]) rfl Tryz.underlying30 Tryz.zeroValue30 (fun w => by simp [Tryz.sizeOf2, Tryz.sizeOf22, Tryz.sizeOf28]) ⟨rfl, rfl, Nat.le_of_ble_eq_true rfl, ⟨rfl, rfl, Nat.le_of_ble_eq_true rfl, ⟨rfl, (cells_sl (H.isSl 1 rfl)), Nat.le_of_ble_eq_true rfl, ⟨rfl, (cells_sl (H.isSl 0 rfl)), Nat.le_of_ble_eq_true rfl, trivial⟩⟩⟩⟩ rfl) fun a S => ?_
 refine lx_storeBox (o := 0) (i := 2) (us := [(.int .i64 a0.1), (.int .i64 a0.2.1), v61, v68]) (cs' := [(.int .i64 a0.1), (.int .i64 a0.2.1), v61, v68]) S trivial rfl H rfl rfl rfl rfl Tryz.sizeOf30 (Nat.le_of_ble_eq_true rfl) (List.forall_mem_cons.2 ⟨rfl, (List.forall_mem_cons.2 ⟨rfl, (List.forall_mem_cons.2 ⟨one_sl (H.isSl 1 rfl), (List.forall_mem_cons.2 ⟨one_sl (H.isSl 0 rfl), (fun _ h => nomatch h)⟩)⟩)⟩)⟩) rfl (fun w71 H => ⟨H.sel [3] (by decide), fun a S => ?_⟩)
 change Heap w0 [oA (rList Rimpl_Edge) v68 x66, oA (rList rStr) v61 x59, bA b52 [(.int .i64 a0.1), (.int .i64 a0.2.1), v61, v68] 30, bA b49 [(.int .i64 a0.1), (.int .i64 a0.2.1), v33, v35] 30] w71 at H
 refine lx_nil (thenN ?_)
 refine wp_ret ?_
 have hrv0 := RV.cellA (t := 30) (q := 4) (env := [(0, (.agg #[(.int .i64 a0.1), (.int .i64 a0.2.1), v33, v35])), (1, p1), (2, (bp b49)), (4, (bp b52)), (5, (pAdd (bp b49) 0)), (6, (.int .i64 a0.1)), (7, (pAdd (bp b49) 1)), (8, (.int .i64 a0.2.1)), (9, (pAdd (bp b49) 2)), (10, v33), (11, v61), (12, p1), (13, v68), (14, (.agg #[(.int .i64 a0.1), (.int .i64 a0.2.1), v61, v68]))]) H (i := 2) rfl rfl Tryz.isAgg30 Tryz.sizeOf30
 obtain rfl := Option.some.inj hm
 have H : Heap w0 [oA (rList rStr) v61 x59, oA (rList Rimpl_Edge) v68 x66, bA b52 [(.int .i64 a0.1), (.int .i64 a0.2.1), v61, v68] 30, bA b49 [(.int .i64 a0.1), (.int .i64 a0.2.1), v33, v35] 30] w71 := H.front 1 rfl
 have H : Heap w0 [oA (rList rStr) v61 x59, oA (rList Rimpl_Edge) v68 x66] w71 := H.sel [0, 1] (by decide)
 exact leaveR1 S rfl hrv0 ⟨v61, v68, rfl, H⟩

/-- impl.SubSystem -/
def impl_SubSystem_m (fuel : Nat) (a0 : Timpl_Lts) (a1 : (List Timpl_Edge)) : Option ((Timpl_Lts × Int)) :=
  (impl_ValidLts_m fuel (a0.1, a0.2.1, a0.2.2.1, a0.2.2.2)).bind fun x57 => (if (!x57) = true then some ((((0 : Int), (0 : Int), [], []), (1 : Int))) else (impl_Lts_edgesOk_m fuel (a0.1, a0.2.1, a0.2.2.1, a0.2.2.2) a1).bind fun x66 => (if (!x66) = true then some ((((0 : Int), (0 : Int), [], []), (2 : Int))) else (impl_Lts_withEdges_m fuel (a0.1, a0.2.1, a0.2.2.1, a0.2.2.2) a1).bind fun x75 => some (((x75.1, x75.2.1, x75.2.2.1, x75.2.2.2), (0 : Int)))))
set_option maxRecDepth 20000 in
theorem impl_SubSystem_ok {w0 : World} {fuel : Nat} {p0 p1 : Value} {a0 : Timpl_Lts} {a1 : (List Timpl_Edge)} {r : (Timpl_Lts × Int)} (hG : Glob Tryz.prog w0) (h0 : Rd Rimpl_Lts w0 p0 a0) (h1 : Rd (rList Rimpl_Edge) w0 p1 a1) (hm : impl_SubSystem_m fuel a0 a1 = some r) :
  Calls Tryz.prog 60 #[p0, p1] w0 fun e w => ∃ (v0 : Value) (v1 : Value), e = .returned (.tuple #[.agg #[.int .i64 r.1.1, .int .i64 r.1.2.1, v0, v1], .int .i64 r.2]) ∧ Heap w0 [oA (rList rStr) v0 r.1.2.2.1, oA (rList Rimpl_Edge) v1 r.1.2.2.2] w := by
 unfold impl_SubSystem_m at hm
 have H := Heap.start w0
 obtain ⟨c31, rfl, h32⟩ := h0
 obtain ⟨c37, c38, rfl, h39, h40⟩ := h32
 obtain rfl := h39
 obtain ⟨c41, c42, rfl, h43, h44⟩ := h40
 obtain rfl := h43
 obtain ⟨c45, c46, rfl, h47, h48⟩ := h44
 obtain ⟨v33, rfl, h34⟩ := rd_list h47
 obtain ⟨v35, rfl, h36⟩ := rd_list h48
 refine enter (args := [(.agg #[(.int .i64 a0.1), (.int .i64 a0.2.1), v33, v35]), p1]) Tryz.func60 rfl 20 rfl (Nat.le_of_ble_eq_true rfl) (fun a S => ?_)
 refine wp_seq (region_plain ?_)
 refine lx_box S trivial (by decide) rfl H rfl rfl (fun b49 w50 H => ⟨trivial, fun a S => ?_⟩)
 refine lx_alloc S trivial (by decide) rfl H Tryz.zeroValue30 rfl (fun b52 w53 H => ⟨trivial, fun a S => ?_⟩)
 refine lq (.int .i64 (0 : Int)) S (q_assign rfl) fun a S => ?_
 refine lx_nil (thenN ?_)
 refine wp_seq ?_
 refine wp_block ?_
 refine wp_seq (region_plain ?_)
 refine lx_e (.agg #[(.int .i64 a0.1), (.int .i64 a0.2.1), v33, v35]) S trivial (by decide) rfl trivial (q_loadA (cs := [(.int .i64 a0.1), (.int .i64 a0.2.1), v33, v35]) rfl (isP_bp _) Tryz.isAgg30 Tryz.sizeOf30 (by rintro _ rfl; exact (fun j u hu => boxAt (i := 1) H rfl hu))) (fun a S => ?_)
 obtain ⟨x57, e58, hm⟩ := bind_some hm
 refine lx_call (xs := [.tmp 7]) S trivial (by decide) rfl rfl Tryz.call22 ((impl_ValidLts_ok (hG.ext H.ext) ⟨[(.int .i64 a0.1), (.int .i64 a0.2.1), v33, v35], rfl, ⟨[(.int .i64 a0.1)], [(.int .i64 a0.2.1), v33, v35], rfl, rfl, ⟨[(.int .i64 a0.2.1)], [v33, v35], rfl, rfl, ⟨[v33], [v35], rfl, ((H.arg h34)).list_rd, ((H.arg h36)).list_rd⟩⟩⟩⟩ e58).mono ?_)
 rintro e w55 ⟨rfl, Hc56⟩
 have H := H.call0 Hc56
 refine ⟨_, rfl, trivial, fun a S => ?_⟩
 refine lq (.bool (!x57)) S (q_not rfl) fun a S => ?_
 refine lq (.bool (!x57)) S (q_assign rfl) fun a S => ?_
 refine lx_nil (thenN ?_)
 refine cond_b S rfl (fun hc60 => ?_) (fun hc60 => ?_)
 ·have hm := ite_t hc60 hm
  refine wp_seq (region_plain ?_)
  refine lq (.agg #[(.int .i64 (0 : Int)), (.int .i64 (0 : Int)), (.slice none 0 0), (.slice none 0 0)]) S (q_build (zs := [(.int .i64 (0 : Int)), (.int .i64 (0 : Int)), (.slice none 0 0), (.slice none 0 0)]) (szs := [1, 1, 1, 1]) (ps := []) (parts := []) rfl Tryz.underlying30 Tryz.zeroValue30 (fun w => by simp [Tryz.sizeOf2, Tryz.sizeOf22, Tryz.sizeOf28]) trivial rfl) fun a S => ?_
  refine lx_storeBox (o := 0) (i := 0) (us := [(.int .i64 (0 : Int)), (.int .i64 (0 : Int)), (.slice none 0 0), (.slice none 0 0)]) (cs' := [(.int .i64 (0 : Int)), (.int .i64 (0 : Int)), (.slice none 0 0), (.slice none 0 0)]) S trivial rfl H rfl rfl rfl rfl Tryz.sizeOf30 (Nat.le_of_ble_eq_true rfl) (List.forall_mem_cons.2 ⟨rfl, (List.forall_mem_cons.2 ⟨rfl, (List.forall_mem_cons.2 ⟨rfl, (List.forall_mem_cons.2 ⟨rfl, (fun _ h => nomatch h)⟩)⟩)⟩)⟩) rfl (fun w61 H => ⟨trivial, fun a S => ?_⟩)
  change Heap w0 [bA b52 [(.int .i64 (0 : Int)), (.int .i64 (0 : Int)), (.slice none 0 0), (.slice none 0 0)] 30, bA b49 [(.int .i64 a0.1), (.int .i64 a0.2.1), v33, v35] 30] w61 at H
  refine lq (.int .i64 (1 : Int)) S (q_assign rfl) fun a S => ?_
  refine lx_nil (thenN ?_)
  refine wp_ret ?_
  have hrv0 := RV.cellA (t := 30) (q := 4) (env := [(0, (.agg #[(.int .i64 a0.1), (.int .i64 a0.2.1), v33, v35])), (1, p1), (2, (bp b49)), (4, (bp b52)), (5, (.int .i64 (1 : Int))), (6, (.bool (!x57))), (7, (.agg #[(.int .i64 a0.1), (.int .i64 a0.2.1), v33, v35])), (8, (.bool x57)), (9, (.bool (!x57))), (10, (.agg #[(.int .i64 (0 : Int)), (.int .i64 (0 : Int)), (.slice none 0 0), (.slice none 0 0)]))]) H (i := 0) rfl rfl Tryz.isAgg30 Tryz.sizeOf30
  have hrv1 : RV Tryz.prog _ w61 (.tmp 5) (.int .i64 (1 : Int)) := (rfl : lk [(0, (.agg #[(.int .i64 a0.1), (.int .i64 a0.2.1), v33, v35])), (1, p1), (2, (bp b49)), (4, (bp b52)), (5, (.int .i64 (1 : Int))), (6, (.bool (!x57))), (7, (.agg #[(.int .i64 a0.1), (.int .i64 a0.2.1), v33, v35])), (8, (.bool x57)), (9, (.bool (!x57))), (10, (.agg #[(.int .i64 (0 : Int)), (.int .i64 (0 : Int)), (.slice none 0 0), (.slice none 0 0)]))] 5 = some (.int .i64 (1 : Int)))
  refine inBlock_ret ?_
  refine then_ret ?_
  obtain rfl := Option.some.inj hm
  have H : Heap w0 [oA (rList rStr) (.slice none 0 0) ([] : List Str), bA b52 [(.int .i64 (0 : Int)), (.int .i64 (0 : Int)), (.slice none 0 0), (.slice none 0 0)] 30, bA b49 [(.int .i64 a0.1), (.int .i64 a0.2.1), v33, v35] 30] w61 := H.nilList rStr
  have H : Heap w0 [oA (rList Rimpl_Edge) (.slice none 0 0) ([] : List Timpl_Edge), oA (rList rStr) (.slice none 0 0) ([] : List Str), bA b52 [(.int .i64 (0 : Int)), (.int .i64 (0 : Int)), (.slice none 0 0), (.slice none 0 0)] 30, bA b49 [(.int .i64 a0.1), (.int .i64 a0.2.1), v33, v35] 30] w61 := H.nilList Rimpl_Edge
  have H : Heap w0 [oA (rList rStr) (.slice none 0 0) ([] : List Str), oA (rList Rimpl_Edge) (.slice none 0 0) ([] : List Timpl_Edge), bA b52 [(.int .i64 (0 : Int)), (.int .i64 (0 : Int)), (.slice none 0 0), (.slice none 0 0)] 30, bA b49 [(.int .i64 a0.1), (.int .i64 a0.2.1), v33, v35] 30] w61 := H.front 1 rfl
  have H : Heap w0 [oA (rList rStr) (.slice none 0 0) ([] : List Str), oA (rList Rimpl_Edge) (.slice none 0 0) ([] : List Timpl_Edge)] w61 := H.sel [0, 1] (by decide)
  exact leaveR2 S rfl hrv0 hrv1 ⟨(.slice none 0 0), (.slice none 0 0), rfl, H⟩
 ·have hm := ite_f hc60 hm
  refine wp_seq (region_plain ?_)
  refine lx_e (.agg #[(.int .i64 a0.1), (.int .i64 a0.2.1), v33, v35]) S trivial (by decide) rfl trivial (q_loadA (cs := [(.int .i64 a0.1), (.int .i64 a0.2.1), v33, v35]) rfl (isP_bp _) Tryz.isAgg30 Tryz.sizeOf30 (by rintro _ rfl; exact (fun j u hu => boxAt (i := 1) H rfl hu))) (fun a S => ?_)
  refine lq p1 S (q_move rfl) fun a S => ?_
  obtain ⟨x66, e67, hm⟩ := bind_some hm
  refine lx_call (xs := [.tmp 12, .tmp 13]) S trivial (by decide) rfl rfl Tryz.call113 ((impl_Lts_edgesOk_ok ⟨[(.int .i64 a0.1), (.int .i64 a0.2.1), v33, v35], rfl, ⟨[(.int .i64 a0.1)], [(.int .i64 a0.2.1), v33, v35], rfl, rfl, ⟨[(.int .i64 a0.2.1)], [v33, v35], rfl, rfl, ⟨[v33], [v35], rfl, ((H.arg h34)).list_rd, ((H.arg h36)).list_rd⟩⟩⟩⟩ (H.arg h1) e67).mono ?_)
  rintro e w64 ⟨rfl, Hc65⟩
  have H := H.call0 Hc65
  refine ⟨_, rfl, trivial, fun a S => ?_⟩
  refine lq (.bool (!x66)) S (q_not rfl) fun a S => ?_
  refine lq (.bool (!x66)) S (q_assign rfl) fun a S => ?_
  refine lx_nil (thenN ?_)
  refine cond_b S rfl (fun hc69 => ?_) (fun hc69 => ?_)
  ·have hm := ite_t hc69 hm
   refine wp_seq (region_plain ?_)
   refine lq (.agg #[(.int .i64 (0 : Int)), (.int .i64 (0 : Int)), (.slice none 0 0), (.slice none 0 0)]) S (q_build (zs := [(.int .i64 (0 : Int)), (.int .i64 (0 : Int)), (.slice none 0 0), (.slice none 0 0)]) (szs := [1, 1, 1, 1]) (ps := []) (parts := []) rfl Tryz.underlying30 Tryz.zeroValue30 (fun w => by simp [Tryz.sizeOf2, Tryz.sizeOf22, Tryz.sizeOf28]) trivial rfl) fun a S => ?_
   refine lx_storeBox (o := 0) (i := 0) (us := [(.int .i64 (0 : Int)), (.int .i64 (0 : Int)), (.slice none 0 0), (.slice none 0 0)]) (cs' := [(.int .i64 (0 : Int)), (.int .i64 (0 : Int)), (.slice none 0 0), (.slice none 0 0)]) S trivial rfl H rfl rfl rfl rfl Tryz.sizeOf30 (Nat.le_of_ble_eq_true rfl) (List.forall_mem_cons.2 ⟨rfl, (List.forall_mem_cons.2 ⟨rfl, (List.forall_mem_cons.2 ⟨rfl, (List.forall_mem_cons.2 ⟨rfl, (fun _ h => nomatch h)⟩)⟩)⟩)⟩) rfl (fun w70 H => ⟨trivial, fun a S => ?_⟩)
   change Heap w0 [bA b52 [(.int .i64 (0 : Int)), (.int .i64 (0 : Int)), (.slice none 0 0), (.slice none 0 0)] 30, bA b49 [(.int .i64 a0.1), (.int .i64 a0.2.1), v33, v35] 30] w70 at H
   refine lq (.int .i64 (2 : Int)) S (q_assign rfl) fun a S => ?_
   refine lx_nil (thenN ?_)
   refine wp_ret ?_
   have hrv0 := RV.cellA (t := 30) (q := 4) (env := [(0, (.agg #[(.int .i64 a0.1), (.int .i64 a0.2.1), v33, v35])), (1, p1), (2, (bp b49)), (4, (bp b52)), (5, (.int .i64 (2 : Int))), (6, (.bool (!x57))), (7, (.agg #[(.int .i64 a0.1), (.int .i64 a0.2.1), v33, v35])), (8, (.bool x57)), (9, (.bool (!x57))), (11, (.bool (!x66))), (12, (.agg #[(.int .i64 a0.1), (.int .i64 a0.2.1), v33, v35])), (13, p1), (14, (.bool x66)), (15, (.bool (!x66))), (16, (.agg #[(.int .i64 (0 : Int)), (.int .i64 (0 : Int)), (.slice none 0 0), (.slice none 0 0)]))]) H (i := 0) rfl rfl Tryz.isAgg30 Tryz.sizeOf30
   have hrv1 : RV Tryz.prog _ w70 (.tmp 5) (.int .i64 (2 : Int)) := (rfl : lk [(0, (.agg #[(.int .i64 a0.1), (.int .i64 a0.2.1), v33, v35])), (1, p1), (2, (bp b49)), (4, (bp b52)), (5, (.int .i64 (2 : Int))), (6, (.bool (!x57))), (7, (.agg #[(.int .i64 a0.1), (.int .i64 a0.2.1), v33, v35])), (8, (.bool x57)), (9, (.bool (!x57))), (11, (.bool (!x66))), (12, (.agg #[(.int .i64 a0.1), (.int .i64 a0.2.1), v33, v35])), (13, p1), (14, (.bool x66)), (15, (.bool (!x66))), (16, (.agg #[(.int .i64 (0 : Int)), (.int .i64 (0 : Int)), (.slice none 0 0), (.slice none 0 0)]))] 5 = some (.int .i64 (2 : Int)))
   refine inBlock_ret ?_
   refine then_ret ?_
   obtain rfl := Option.some.inj hm
   have H : Heap w0 [oA (rList rStr) (.slice none 0 0) ([] : List Str), bA b52 [(.int .i64 (0 : Int)), (.int .i64 (0 : Int)), (.slice none 0 0), (.slice none 0 0)] 30, bA b49 [(.int .i64 a0.1), (.int .i64 a0.2.1), v33, v35] 30] w70 := H.nilList rStr
   have H : Heap w0 [oA (rList Rimpl_Edge) (.slice none 0 0) ([] : List Timpl_Edge), oA (rList rStr) (.slice none 0 0) ([] : List Str), bA b52 [(.int .i64 (0 : Int)), (.int .i64 (0 : Int)), (.slice none 0 0), (.slice none 0 0)] 30, bA b49 [(.int .i64 a0.1), (.int .i64 a0.2.1), v33, v35] 30] w70 := H.nilList Rimpl_Edge
   have H : Heap w0 [oA (rList rStr) (.slice none 0 0) ([] : List Str), oA (rList Rimpl_Edge) (.slice none 0 0) ([] : List Timpl_Edge), bA b52 [(.int .i64 (0 : Int)), (.int .i64 (0 : Int)), (.slice none 0 0), (.slice none 0 0)] 30, bA b49 [(.int .i64 a0.1), (.int .i64 a0.2.1), v33, v35] 30] w70 := H.front 1 rfl
   have H : Heap w0 [oA (rList rStr) (.slice none 0 0) ([] : List Str), oA (rList Rimpl_Edge) (.slice none 0 0) ([] : List Timpl_Edge)] w70 := H.sel [0, 1] (by decide)
   exact leaveR2 S rfl hrv0 hrv1 ⟨(.slice none 0 0), (.slice none 0 0), rfl, H⟩
  ·have hm := ite_f hc69 hm
   refine wp_skip ?_
   refine inBlock_norm ?_
   refine thenN ?_
   refine wp_seq (region_plain ?_)
   refine lx_e (.agg #[(.int .i64 a0.1), (.int .i64 a0.2.1), v33, v35]) S trivial (by decide) rfl trivial (q_loadA (cs := [(.int .i64 a0.1), (.int .i64 a0.2.1), v33, v35]) rfl (isP_bp _) Tryz.isAgg30 Tryz.sizeOf30 (by rintro _ rfl; exact (fun j u hu => boxAt (i := 1) H rfl hu))) (fun a S => ?_)
   refine lq p1 S (q_move rfl) fun a S => ?_
   obtain ⟨x75, e76, hm⟩ := bind_some hm
   refine lx_call (xs := [.tmp 17, .tmp 18]) S trivial (by decide) rfl rfl Tryz.call114 ((impl_Lts_withEdges_ok ⟨[(.int .i64 a0.1), (.int .i64 a0.2.1), v33, v35], rfl, ⟨[(.int .i64 a0.1)], [(.int .i64 a0.2.1), v33, v35], rfl, rfl, ⟨[(.int .i64 a0.2.1)], [v33, v35], rfl, rfl, ⟨[v33], [v35], rfl, ((H.arg h34)).list_rd, ((H.arg h36)).list_rd⟩⟩⟩⟩ (H.arg h1) e76).mono ?_)
   rintro e w73 ⟨v77, v78, rfl, Hc74⟩
   have H := H.call2 Hc74
   refine ⟨_, rfl, trivial, fun a S => ?_⟩
   refine lx_storeBox (o := 0) (i := 2) (us := [(.int .i64 x75.1), (.int .i64 x75.2.1), v77, v78]) (cs' := [(.int .i64 x75.1), (.int .i64 x75.2.1), v77, v78]) S trivial rfl H rfl rfl rfl rfl Tryz.sizeOf30 (Nat.le_of_ble_eq_true rfl) (List.forall_mem_cons.2 ⟨rfl, (List.forall_mem_cons.2 ⟨rfl, (List.forall_mem_cons.2 ⟨one_sl (H.isSl 0 rfl), (List.forall_mem_cons.2 ⟨one_sl (H.isSl 1 rfl), (fun _ h => nomatch h)⟩)⟩)⟩)⟩) rfl (fun w82 H => ⟨trivial, fun a S => ?_⟩)
   change Heap w0 [oA (rList rStr) v77 x75.2.2.1, oA (rList Rimpl_Edge) v78 x75.2.2.2, bA b52 [(.int .i64 x75.1), (.int .i64 x75.2.1), v77, v78] 30, bA b49 [(.int .i64 a0.1), (.int .i64 a0.2.1), v33, v35] 30] w82 at H
   refine lq (.int .i64 (0 : Int)) S (q_assign rfl) fun a S => ?_
   refine lx_nil (thenN ?_)
   refine wp_ret ?_
   have hrv0 := RV.cellA (t := 30) (q := 4) (env := [(0, (.agg #[(.int .i64 a0.1), (.int .i64 a0.2.1), v33, v35])), (1, p1), (2, (bp b49)), (4, (bp b52)), (5, (.int .i64 (0 : Int))), (6, (.bool (!x57))), (7, (.agg #[(.int .i64 a0.1), (.int .i64 a0.2.1), v33, v35])), (8, (.bool x57)), (9, (.bool (!x57))), (11, (.bool (!x66))), (12, (.agg #[(.int .i64 a0.1), (.int .i64 a0.2.1), v33, v35])), (13, p1), (14, (.bool x66)), (15, (.bool (!x66))), (17, (.agg #[(.int .i64 a0.1), (.int .i64 a0.2.1), v33, v35])), (18, p1), (19, (.agg #[(.int .i64 x75.1), (.int .i64 x75.2.1), v77, v78]))]) H (i := 2) rfl rfl Tryz.isAgg30 Tryz.sizeOf30
   have hrv1 : RV Tryz.prog _ w82 (.tmp 5) (.int .i64 (0 : Int)) := (rfl : lk [(0, (.agg #[(.int .i64 a0.1), (.int .i64 a0.2.1), v33, v35])), (1, p1), (2, (bp b49)), (4, (bp b52)), (5, (.int .i64 (0 : Int))), (6, (.bool (!x57))), (7, (.agg #[(.int .i64 a0.1), (.int .i64 a0.2.1), v33, v35])), (8, (.bool x57)), (9, (.bool (!x57))), (11, (.bool (!x66))), (12, (.agg #[(.int .i64 a0.1), (.int .i64 a0.2.1), v33, v35])), (13, p1), (14, (.bool x66)), (15, (.bool (!x66))), (17, (.agg #[(.int .i64 a0.1), (.int .i64 a0.2.1), v33, v35])), (18, p1), (19, (.agg #[(.int .i64 x75.1), (.int .i64 x75.2.1), v77, v78]))] 5 = some (.int .i64 (0 : Int)))
   obtain rfl := Option.some.inj hm
   have H : Heap w0 [oA (rList rStr) v77 x75.2.2.1, oA (rList Rimpl_Edge) v78 x75.2.2.2] w82 := H.sel [0, 1] (by decide)
   exact leaveR2 S rfl hrv0 hrv1 ⟨v77, v78, rfl, H⟩

/-- laws.heldLts -/
def laws_heldLts_m (fuel : Nat) (a0 : Timpl_Lts) (a1 : Int) : Option (Int) :=
  (laws_heldStringS_m fuel a0.2.2.1 a1).bind fun x54 => (if (decide (x54 < (0 : Int))) = true then some ((-1 : Int)) else (laws_heldEdgeS_m fuel a0.2.2.2 x54).bind fun x60 => (if (decide (x60 < (0 : Int))) = true then some ((-1 : Int)) else some (x60)))
set_option maxRecDepth 20000 in
theorem laws_heldLts_ok {w0 : World} {fuel : Nat} {p0 : Value} {a0 : Timpl_Lts} {a1 : Int} {r : Int} (h0 : Rd Rimpl_Lts w0 p0 a0) (hm : laws_heldLts_m fuel a0 a1 = some r) :
  Calls Tryz.prog 61 #[p0, .int .i64 a1] w0 fun e w => e = .returned (.int .i64 r) ∧ Heap w0 [] w := by
 unfold laws_heldLts_m at hm
 have H := Heap.start w0
 obtain ⟨c31, rfl, h32⟩ := h0
 obtain ⟨c37, c38, rfl, h39, h40⟩ := h32
 obtain rfl := h39
 obtain ⟨c41, c42, rfl, h43, h44⟩ := h40
 obtain rfl := h43
 obtain ⟨c45, c46, rfl, h47, h48⟩ := h44
 obtain ⟨v33, rfl, h34⟩ := rd_list h47
 obtain ⟨v35, rfl, h36⟩ := rd_list h48
 refine enter (args := [(.agg #[(.int .i64 a0.1), (.int .i64 a0.2.1), v33, v35]), .int .i64 a1]) Tryz.func61 rfl 18 rfl (Nat.le_of_ble_eq_true rfl) (fun a S => ?_)
 refine wp_seq (region_plain ?_)
 refine lx_box S trivial (by decide) rfl H rfl rfl (fun b49 w50 H => ⟨trivial, fun a S => ?_⟩)
 refine lq (.int .i64 (0 : Int)) S (q_assign rfl) fun a S => ?_
 refine lx_nil (thenN ?_)
 refine wp_seq (region_plain ?_)
 refine lq (pAdd (bp b49) 2) S (q_fieldAddr' 2 22 rfl (isP_bp _) Tryz.underlying30 rfl Tryz.sizeOf22) fun a S => ?_
 refine lx_e v33 S trivial (by decide) rfl trivial (q_load1 rfl Tryz.isAgg22 (by rintro _ rfl; exact (At.of_add (m := 2) (j := 0) (boxAt (i := 0) H rfl (j := 2) rfl)))) (fun a S => ?_)
 refine lq (.int .i64 a1) S (q_move rfl) fun a S => ?_
 obtain ⟨x54, e55, hm⟩ := bind_some hm
 refine lx_call (xs := [.tmp 6, .tmp 7]) S trivial (by decide) rfl rfl Tryz.call41 ((laws_heldStringS_ok (H.arg h34)  e55).mono ?_)
 rintro e w52 ⟨rfl, Hc53⟩
 have H := H.call0 Hc53
 refine ⟨_, rfl, trivial, fun a S => ?_⟩
 refine lq (.int .i64 x54) S (q_assign rfl) fun a S => ?_
 refine lx_nil (thenN ?_)
 refine wp_seq (wp_seq (region_plain ?_))
 refine lq (.int .i64 x54) S (q_move rfl) fun a S => ?_
 refine lq (.bool (decide (x54 < (0 : Int)))) S (q_lss rfl rfl) fun a S => ?_
 refine lx_nil (thenN ?_)
 refine cond_b S rfl (fun hc57 => ?_) (fun hc57 => ?_)
 ·have hm := ite_t hc57 hm
  refine wp_seq (region_plain ?_)
  refine lq (.int .i64 (-1 : Int)) S (q_assign rfl) fun a S => ?_
  refine lx_nil (thenN ?_)
  refine wp_ret (then_ret ?_)
  obtain rfl := Option.some.inj hm
  have H : Heap w0 [] w52 := H.sel [] (by decide)
  exact leave1 S rfl rfl ⟨rfl, H⟩
 ·have hm := ite_f hc57 hm
  refine wp_skip (thenN ?_)
  refine wp_seq (region_plain ?_)
  refine lq (pAdd (bp b49) 3) S (q_fieldAddr' 3 28 rfl (isP_bp _) Tryz.underlying30 rfl Tryz.sizeOf28) fun a S => ?_
  refine lx_e v35 S trivial (by decide) rfl trivial (q_load1 rfl Tryz.isAgg28 (by rintro _ rfl; exact (At.of_add (m := 3) (j := 0) (boxAt (i := 0) H rfl (j := 3) rfl)))) (fun a S => ?_)
  refine lq (.int .i64 x54) S (q_move rfl) fun a S => ?_
  obtain ⟨x60, e61, hm⟩ := bind_some hm
  refine lx_call (xs := [.tmp 12, .tmp 13]) S trivial (by decide) rfl rfl Tryz.call35 ((laws_heldEdgeS_ok (H.arg h36)  e61).mono ?_)
  rintro e w58 ⟨rfl, Hc59⟩
  have H := H.call0 Hc59
  refine ⟨_, rfl, trivial, fun a S => ?_⟩
  refine lq (.int .i64 x60) S (q_assign rfl) fun a S => ?_
  refine lx_nil (thenN ?_)
  refine wp_seq (wp_seq (region_plain ?_))
  refine lq (.int .i64 x60) S (q_move rfl) fun a S => ?_
  refine lq (.bool (decide (x60 < (0 : Int)))) S (q_lss rfl rfl) fun a S => ?_
  refine lx_nil (thenN ?_)
  refine cond_b S rfl (fun hc63 => ?_) (fun hc63 => ?_)
  ·have hm := ite_t hc63 hm
   refine wp_seq (region_plain ?_)
   refine lq (.int .i64 (-1 : Int)) S (q_assign rfl) fun a S => ?_
   refine lx_nil (thenN ?_)
   refine wp_ret (then_ret ?_)
   obtain rfl := Option.some.inj hm
   have H : Heap w0 [] w58 := H.sel [] (by decide)
   exact leave1 S rfl rfl ⟨rfl, H⟩
  ·have hm := ite_f hc63 hm
   refine wp_skip (thenN ?_)
   refine wp_seq (region_plain ?_)
   refine lq (.int .i64 x60) S (q_move rfl) fun a S => ?_
   refine lq (.int .i64 x60) S (q_assign rfl) fun a S => ?_
   refine lx_nil (thenN ?_)
   refine wp_ret ?_
   obtain rfl := Option.some.inj hm
   have H : Heap w0 [] w58 := H.sel [] (by decide)
   exact leave1 S rfl rfl ⟨rfl, H⟩

/-- laws.FnExactSubSystem -/
def laws_FnExactSubSystem_m (fuel : Nat) (a0 : Tlaws_Lts) (a1 : (List Tlaws_Edge)) : Option (Bool) :=
  (laws_szLts_m fuel (a0.1, a0.2.1, a0.2.2.1, a0.2.2.2) (1048576 : Int)).bind fun x54 => (if (decide (x54 < (0 : Int))) = true then some (true) else (laws_szEdgeS_m fuel a1 x54).bind fun x60 => (if (decide (x60 < (0 : Int))) = true then some (true) else (laws_toLts_m fuel (a0.1, a0.2.1, a0.2.2.1, a0.2.2.2)).bind fun x66 => (laws_toEdgeS_m fuel a1).bind fun x75 => (spec_SubSystem_m fuel (x66.1, x66.2.1, x66.2.2.1, x66.2.2.2) x75).bind fun x82 => (laws_toLts_m fuel (a0.1, a0.2.1, a0.2.2.1, a0.2.2.2)).bind fun x95 => (laws_toEdgeS_m fuel a1).bind fun x108 => (impl_SubSystem_m fuel (x95.1, x95.2.1, x95.2.2.1, x95.2.2.2) x108).bind fun x115 => (laws_eqLts_m fuel (x115.1.1, x115.1.2.1, x115.1.2.2.1, x115.1.2.2.2) (x82.1.1, x82.1.2.1, x82.1.2.2.1, x82.1.2.2.2)).bind fun x128 => (if (!x128) = true then some true else some (x115.2 != x82.2)).bind fun t131 => (if t131 = true then some (false) else (laws_toLts_m fuel (a0.1, a0.2.1, a0.2.2.1, a0.2.2.2)).bind fun x139 => (laws_eqLts_m fuel (x95.1, x95.2.1, x95.2.2.1, x95.2.2.2) (x139.1, x139.2.1, x139.2.2.1, x139.2.2.2)).bind fun x148 => (if (!x148) = true then some (false) else (laws_toEdgeS_m fuel a1).bind fun x154 => (laws_eqEdgeS_m fuel x108 x154).bind fun x161 => (if (!x161) = true then some (false) else (laws_markLts_m fuel (x95.1, x95.2.1, x95.2.2.1, x95.2.2.2) (1 : Int)).bind fun x167 => (laws_markEdgeS_m fuel x108 x167.1).bind fun x171 => (if (decide (x171.1 < (0 : Int))) = true then some true else (laws_eqLts_m fuel (x115.1.1, x115.1.2.1, x115.1.2.2.1, x115.1.2.2.2) (x82.1.1, x82.1.2.1, x82.1.2.2.1, x82.1.2.2.2)).bind fun x178 => some (!x178)).bind fun t173 => (if t173 = true then some true else some (x115.2 != x82.2)).bind fun t181 => (if t181 = true then some (false) else (laws_markLts_m fuel (x115.1.1, x115.1.2.1, x115.1.2.2.1, x115.1.2.2.2) (1 : Int)).bind fun x187 => (laws_heldLts_m fuel (x115.1.1, x115.1.2.1, x187.2.1, x187.2.2) (1 : Int)).bind fun x191 => (if (decide (x191 < (0 : Int))) = true then some (false) else (if (x191 != x187.1) = true then some (false) else (laws_toLts_m fuel (a0.1, a0.2.1, a0.2.2.1, a0.2.2.2)).bind fun x198 => (laws_toEdgeS_m fuel a1).bind fun x207 => (impl_SubSystem_m fuel (x198.1, x198.2.1, x198.2.2.1, x198.2.2.2) x207).bind fun x214 => (laws_eqLts_m fuel (x214.1.1, x214.1.2.1, x214.1.2.2.1, x214.1.2.2.2) (x82.1.1, x82.1.2.1, x82.1.2.2.1, x82.1.2.2.2)).bind fun x227 => (if (!x227) = true then some true else some (x214.2 != x82.2)).bind fun t230 => (if t230 = true then some (false) else (laws_heldLts_m fuel (x115.1.1, x115.1.2.1, x187.2.1, x187.2.2) (1 : Int)).bind fun x236 => (if (decide (x236 < (0 : Int))) = true then some (false) else (if (x236 != x187.1) = true then some (false) else some (true))))))))))))
set_option maxRecDepth 20000 in
theorem laws_FnExactSubSystem_ok {w0 : World} {fuel : Nat} {p0 p1 : Value} {a0 : Tlaws_Lts} {a1 : (List Tlaws_Edge)} {r : Bool} (hG : Glob Tryz.prog w0) (h0 : Rd Rlaws_Lts w0 p0 a0) (h1 : Rd (rList Rlaws_Edge) w0 p1 a1) (hm : laws_FnExactSubSystem_m fuel a0 a1 = some r) :
  Calls Tryz.prog 15 #[p0, p1] w0 fun e w => e = .returned (.bool r) ∧ Heap w0 [] w := by
 unfold laws_FnExactSubSystem_m at hm
 have H := Heap.start w0
 obtain ⟨c31, rfl, h32⟩ := h0
 obtain ⟨c37, c38, rfl, h39, h40⟩ := h32
 obtain rfl := h39
 obtain ⟨c41, c42, rfl, h43, h44⟩ := h40
 obtain rfl := h43
 obtain ⟨c45, c46, rfl, h47, h48⟩ := h44
 obtain ⟨v33, rfl, h34⟩ := rd_list h47
 obtain ⟨v35, rfl, h36⟩ := rd_list h48
 refine enter (args := [(.agg #[(.int .i64 a0.1), (.int .i64 a0.2.1), v33, v35]), p1]) Tryz.func15 rfl 119 rfl (Nat.le_of_ble_eq_true rfl) (fun a S => ?_)
 refine wp_seq (region_plain ?_)
 refine lx_box S trivial (by decide) rfl H rfl rfl (fun b49 w50 H => ⟨trivial, fun a S => ?_⟩)
 refine lq (.bool false) S (q_assign rfl) fun a S => ?_
 refine lx_nil (thenN ?_)
 refine wp_seq (region_plain ?_)
 refine lq (.int .i64 (1048576 : Int)) S (q_assign rfl) fun a S => ?_
 refine lx_nil (thenN ?_)
 refine wp_seq (region_plain ?_)
 refine lx_e (.agg #[(.int .i64 a0.1), (.int .i64 a0.2.1), v33, v35]) S trivial (by decide) rfl trivial (q_loadA (cs := [(.int .i64 a0.1), (.int .i64 a0.2.1), v33, v35]) rfl (isP_bp _) Tryz.isAgg25 Tryz.sizeOf25 (by rintro _ rfl; exact (fun j u hu => boxAt (i := 0) H rfl hu))) (fun a S => ?_)
 refine lq (.int .i64 (1048576 : Int)) S (q_move rfl) fun a S => ?_
 obtain ⟨x54, e55, hm⟩ := bind_some hm
 refine lx_call (xs := [.tmp 17, .tmp 18]) S trivial (by decide) rfl rfl Tryz.call19 ((laws_szLts_ok ⟨[(.int .i64 a0.1), (.int .i64 a0.2.1), v33, v35], rfl, ⟨[(.int .i64 a0.1)], [(.int .i64 a0.2.1), v33, v35], rfl, rfl, ⟨[(.int .i64 a0.2.1)], [v33, v35], rfl, rfl, ⟨[v33], [v35], rfl, ((H.arg h34)).list_rd, ((H.arg h36)).list_rd⟩⟩⟩⟩  e55).mono ?_)
 rintro e w52 ⟨rfl, Hc53⟩
 have H := H.call0 Hc53
 refine ⟨_, rfl, trivial, fun a S => ?_⟩
 refine lq (.int .i64 x54) S (q_assign rfl) fun a S => ?_
 refine lx_nil (thenN ?_)
 refine wp_seq (wp_seq (region_plain ?_))
 refine lq (.int .i64 x54) S (q_move rfl) fun a S => ?_
 refine lq (.bool (decide (x54 < (0 : Int)))) S (q_lss rfl rfl) fun a S => ?_
 refine lx_nil (thenN ?_)
 refine cond_b S rfl (fun hc57 => ?_) (fun hc57 => ?_)
 ·have hm := ite_t hc57 hm
  refine wp_seq (region_plain ?_)
  refine lq (.bool true) S (q_assign rfl) fun a S => ?_
  refine lx_nil (thenN ?_)
  refine wp_ret (then_ret ?_)
  obtain rfl := Option.some.inj hm
  have H : Heap w0 [] w52 := H.sel [] (by decide)
  exact leave1 S rfl rfl ⟨rfl, H⟩
 ·have hm := ite_f hc57 hm
  refine wp_skip (thenN ?_)
  refine wp_seq (region_plain ?_)
  refine lq p1 S (q_move rfl) fun a S => ?_
  refine lq (.int .i64 x54) S (q_move rfl) fun a S => ?_
  obtain ⟨x60, e61, hm⟩ := bind_some hm
  refine lx_call (xs := [.tmp 22, .tmp 23]) S trivial (by decide) rfl rfl Tryz.call57 ((laws_szEdgeS_ok (H.arg h1)  e61).mono ?_)
  rintro e w58 ⟨rfl, Hc59⟩
  have H := H.call0 Hc59
  refine ⟨_, rfl, trivial, fun a S => ?_⟩
  refine lq (.int .i64 x60) S (q_assign rfl) fun a S => ?_
  refine lx_nil (thenN ?_)
  refine wp_seq (wp_seq (region_plain ?_))
  refine lq (.int .i64 x60) S (q_move rfl) fun a S => ?_
  refine lq (.bool (decide (x60 < (0 : Int)))) S (q_lss rfl rfl) fun a S => ?_
  refine lx_nil (thenN ?_)
  refine cond_b S rfl (fun hc63 => ?_) (fun hc63 => ?_)
  ·have hm := ite_t hc63 hm
   refine wp_seq (region_plain ?_)
   refine lq (.bool true) S (q_assign rfl) fun a S => ?_
   refine lx_nil (thenN ?_)
   refine wp_ret (then_ret ?_)
   obtain rfl := Option.some.inj hm
   have H : Heap w0 [] w58 := H.sel [] (by decide)
   exact leave1 S rfl rfl ⟨rfl, H⟩
  ·have hm := ite_f hc63 hm
   refine wp_skip (thenN ?_)
   refine wp_seq (region_plain ?_)
   refine lx_e (.agg #[(.int .i64 a0.1), (.int .i64 a0.2.1), v33, v35]) S trivial (by decide) rfl trivial (q_loadA (cs := [(.int .i64 a0.1), (.int .i64 a0.2.1), v33, v35]) rfl (isP_bp _) Tryz.isAgg25 Tryz.sizeOf25 (by rintro _ rfl; exact (fun j u hu => boxAt (i := 0) H rfl hu))) (fun a S => ?_)
   obtain ⟨x66, e67, hm⟩ := bind_some hm
   refine lx_call (xs := [.tmp 28]) S trivial (by decide) rfl rfl Tryz.call21 ((laws_toLts_ok ⟨[(.int .i64 a0.1), (.int .i64 a0.2.1), v33, v35], rfl, ⟨[(.int .i64 a0.1)], [(.int .i64 a0.2.1), v33, v35], rfl, rfl, ⟨[(.int .i64 a0.2.1)], [v33, v35], rfl, rfl, ⟨[v33], [v35], rfl, ((H.arg h34)).list_rd, ((H.arg h36)).list_rd⟩⟩⟩⟩ e67).mono ?_)
   rintro e w64 ⟨v68, v69, rfl, Hc65⟩
   have H := H.call2 Hc65
   refine ⟨_, rfl, trivial, fun a S => ?_⟩
   refine lq p1 S (q_move rfl) fun a S => ?_
   obtain ⟨x75, e76, hm⟩ := bind_some hm
   refine lx_call (xs := [.tmp 30]) S trivial (by decide) rfl rfl Tryz.call59 ((laws_toEdgeS_ok (H.arg h1) e76).mono ?_)
   rintro e w73 ⟨v77, rfl, Hc74⟩
   have H := H.call1 Hc74
   refine ⟨_, rfl, trivial, fun a S => ?_⟩
   obtain ⟨x82, e83, hm⟩ := bind_some hm
   refine lx_call (xs := [.tmp 29, .tmp 31]) S trivial (by decide) rfl rfl Tryz.call58 ((spec_SubSystem_ok ⟨[(.int .i64 x66.1), (.int .i64 x66.2.1), v68, v69], rfl, ⟨[(.int .i64 x66.1)], [(.int .i64 x66.2.1), v68, v69], rfl, rfl, ⟨[(.int .i64 x66.2.1)], [v68, v69], rfl, rfl, ⟨[v68], [v69], rfl, ((H.rdAt 1 rfl)).list_rd, ((H.rdAt 2 rfl)).list_rd⟩⟩⟩⟩ (H.rdAt 0 rfl) e83).mono ?_)
   rintro e w80 ⟨v84, v85, rfl, Hc81⟩
   have H := H.call2 Hc81
   refine ⟨_, rfl, trivial, fun a S => ?_⟩
   refine lq (.tuple #[(.agg #[(.int .i64 x82.1.1), (.int .i64 x82.1.2.1), v84, v85]), (.int .i64 x82.2)]) S (q_move rfl) fun a S => ?_
   refine lq (.agg #[(.int .i64 x82.1.1), (.int .i64 x82.1.2.1), v84, v85]) S (q_extract rfl rfl) fun a S => ?_
   refine lq (.int .i64 x82.2) S (q_extract rfl rfl) fun a S => ?_
   refine lx_alloc S trivial (by decide) rfl H Tryz.zeroValue30 rfl (fun b89 w90 H => ⟨trivial, fun a S => ?_⟩)
   refine lx_storeBox (o := 0) (i := 0) (us := [(.int .i64 x82.1.1), (.int .i64 x82.1.2.1), v84, v85]) (cs' := [(.int .i64 x82.1.1), (.int .i64 x82.1.2.1), v84, v85]) S trivial rfl H rfl rfl rfl rfl Tryz.sizeOf30 (Nat.le_of_ble_eq_true rfl) (List.forall_mem_cons.2 ⟨rfl, (List.forall_mem_cons.2 ⟨rfl, (List.forall_mem_cons.2 ⟨one_sl (H.isSl 1 rfl), (List.forall_mem_cons.2 ⟨one_sl (H.isSl 2 rfl), (fun _ h => nomatch h)⟩)⟩)⟩)⟩) rfl (fun w92 H => ⟨trivial, fun a S => ?_⟩)
   change Heap w0 [bA b89 [(.int .i64 x82.1.1), (.int .i64 x82.1.2.1), v84, v85] 30, oA (rList rStr) v84 x82.1.2.2.1, oA (rList Rimpl_Edge) v85 x82.1.2.2.2, oA (rList Rimpl_Edge) v77 x75, oA (rList rStr) v68 x66.2.2.1, oA (rList Rimpl_Edge) v69 x66.2.2.2, bA b49 [(.int .i64 a0.1), (.int .i64 a0.2.1), v33, v35] 25] w92 at H
   refine lq (.int .i64 x82.2) S (q_assign rfl) fun a S => ?_
   refine lx_nil (thenN ?_)
   refine wp_seq (region_plain ?_)
   refine lx_e (.agg #[(.int .i64 a0.1), (.int .i64 a0.2.1), v33, v35]) S trivial (by decide) rfl trivial (q_loadA (cs := [(.int .i64 a0.1), (.int .i64 a0.2.1), v33, v35]) rfl (isP_bp _) Tryz.isAgg25 Tryz.sizeOf25 (by rintro _ rfl; exact (fun j u hu => boxAt (i := 6) H rfl hu))) (fun a S => ?_)
   obtain ⟨x95, e96, hm⟩ := bind_some hm
   refine lx_call (xs := [.tmp 35]) S trivial (by decide) rfl rfl Tryz.call21 ((laws_toLts_ok ⟨[(.int .i64 a0.1), (.int .i64 a0.2.1), v33, v35], rfl, ⟨[(.int .i64 a0.1)], [(.int .i64 a0.2.1), v33, v35], rfl, rfl, ⟨[(.int .i64 a0.2.1)], [v33, v35], rfl, rfl, ⟨[v33], [v35], rfl, ((H.arg h34)).list_rd, ((H.arg h36)).list_rd⟩⟩⟩⟩ e96).mono ?_)
   rintro e w93 ⟨v97, v98, rfl, Hc94⟩
   have H := H.call2 Hc94
   refine ⟨_, rfl, trivial, fun a S => ?_⟩
   refine lx_alloc S trivial (by decide) rfl H Tryz.zeroValue30 rfl (fun b102 w103 H => ⟨trivial, fun a S => ?_⟩)
   refine lx_storeBox (o := 0) (i := 0) (us := [(.int .i64 x95.1), (.int .i64 x95.2.1), v97, v98]) (cs' := [(.int .i64 x95.1), (.int .i64 x95.2.1), v97, v98]) S trivial rfl H rfl rfl rfl rfl Tryz.sizeOf30 (Nat.le_of_ble_eq_true rfl) (List.forall_mem_cons.2 ⟨rfl, (List.forall_mem_cons.2 ⟨rfl, (List.forall_mem_cons.2 ⟨one_sl (H.isSl 1 rfl), (List.forall_mem_cons.2 ⟨one_sl (H.isSl 2 rfl), (fun _ h => nomatch h)⟩)⟩)⟩)⟩) rfl (fun w105 H => ⟨trivial, fun a S => ?_⟩)
   change Heap w0 [bA b102 [(.int .i64 x95.1), (.int .i64 x95.2.1), v97, v98] 30, oA (rList rStr) v97 x95.2.2.1, oA (rList Rimpl_Edge) v98 x95.2.2.2, bA b89 [(.int .i64 x82.1.1), (.int .i64 x82.1.2.1), v84, v85] 30, oA (rList rStr) v84 x82.1.2.2.1, oA (rList Rimpl_Edge) v85 x82.1.2.2.2, oA (rList Rimpl_Edge) v77 x75, oA (rList rStr) v68 x66.2.2.1, oA (rList Rimpl_Edge) v69 x66.2.2.2, bA b49 [(.int .i64 a0.1), (.int .i64 a0.2.1), v33, v35] 25] w105 at H
   refine lx_nil (thenN ?_)
   refine wp_seq (region_plain ?_)
   refine lq p1 S (q_move rfl) fun a S => ?_
   obtain ⟨x108, e109, hm⟩ := bind_some hm
   refine lx_call (xs := [.tmp 37]) S trivial (by decide) rfl rfl Tryz.call59 ((laws_toEdgeS_ok (H.arg h1) e109).mono ?_)
   rintro e w106 ⟨v110, rfl, Hc107⟩
   have H := H.call1 Hc107
   refine ⟨_, rfl, trivial, fun a S => ?_⟩
   refine lq v110 S (q_assign rfl) fun a S => ?_
   refine lx_nil (thenN ?_)
   refine wp_seq (region_plain ?_)
   refine lx_e (.agg #[(.int .i64 x95.1), (.int .i64 x95.2.1), v97, v98]) S trivial (by decide) rfl trivial (q_loadA (cs := [(.int .i64 x95.1), (.int .i64 x95.2.1), v97, v98]) rfl (isP_bp _) Tryz.isAgg30 Tryz.sizeOf30 (by rintro _ rfl; exact (fun j u hu => boxAt (i := 1) H rfl hu))) (fun a S => ?_)
   refine lq v110 S (q_move rfl) fun a S => ?_
   obtain ⟨x115, e116, hm⟩ := bind_some hm
   refine lx_call (xs := [.tmp 40, .tmp 41]) S trivial (by decide) rfl rfl Tryz.call60 ((impl_SubSystem_ok (hG.ext H.ext) ⟨[(.int .i64 x95.1), (.int .i64 x95.2.1), v97, v98], rfl, ⟨[(.int .i64 x95.1)], [(.int .i64 x95.2.1), v97, v98], rfl, rfl, ⟨[(.int .i64 x95.2.1)], [v97, v98], rfl, rfl, ⟨[v97], [v98], rfl, ((H.rdAt 2 rfl)).list_rd, ((H.rdAt 3 rfl)).list_rd⟩⟩⟩⟩ (H.rdAt 0 rfl) e116).mono ?_)
   rintro e w113 ⟨v117, v118, rfl, Hc114⟩
   have H := H.call2 Hc114
   refine ⟨_, rfl, trivial, fun a S => ?_⟩
   refine lq (.tuple #[(.agg #[(.int .i64 x115.1.1), (.int .i64 x115.1.2.1), v117, v118]), (.int .i64 x115.2)]) S (q_move rfl) fun a S => ?_
   refine lq (.agg #[(.int .i64 x115.1.1), (.int .i64 x115.1.2.1), v117, v118]) S (q_extract rfl rfl) fun a S => ?_
   refine lq (.int .i64 x115.2) S (q_extract rfl rfl) fun a S => ?_
   refine lx_alloc S trivial (by decide) rfl H Tryz.zeroValue30 rfl (fun b122 w123 H => ⟨trivial, fun a S => ?_⟩)
   refine lx_storeBox (o := 0) (i := 0) (us := [(.int .i64 x115.1.1), (.int .i64 x115.1.2.1), v117, v118]) (cs' := [(.int .i64 x115.1.1), (.int .i64 x115.1.2.1), v117, v118]) S trivial rfl H rfl rfl rfl rfl Tryz.sizeOf30 (Nat.le_of_ble_eq_true rfl) (List.forall_mem_cons.2 ⟨rfl, (List.forall_mem_cons.2 ⟨rfl, (List.forall_mem_cons.2 ⟨one_sl (H.isSl 1 rfl), (List.forall_mem_cons.2 ⟨one_sl (H.isSl 2 rfl), (fun _ h => nomatch h)⟩)⟩)⟩)⟩) rfl (fun w125 H => ⟨trivial, fun a S => ?_⟩)
   change Heap w0 [bA b122 [(.int .i64 x115.1.1), (.int .i64 x115.1.2.1), v117, v118] 30, oA (rList rStr) v117 x115.1.2.2.1, oA (rList Rimpl_Edge) v118 x115.1.2.2.2, oA (rList Rimpl_Edge) v110 x108, bA b102 [(.int .i64 x95.1), (.int .i64 x95.2.1), v97, v98] 30, oA (rList rStr) v97 x95.2.2.1, oA (rList Rimpl_Edge) v98 x95.2.2.2, bA b89 [(.int .i64 x82.1.1), (.int .i64 x82.1.2.1), v84, v85] 30, oA (rList rStr) v84 x82.1.2.2.1, oA (rList Rimpl_Edge) v85 x82.1.2.2.2, oA (rList Rimpl_Edge) v77 x75, oA (rList rStr) v68 x66.2.2.1, oA (rList Rimpl_Edge) v69 x66.2.2.2, bA b49 [(.int .i64 a0.1), (.int .i64 a0.2.1), v33, v35] 25] w125 at H
   refine lq (.int .i64 x115.2) S (q_assign rfl) fun a S => ?_
   refine lx_nil (thenN ?_)
   refine wp_seq (wp_seq (region_plain ?_))
   refine lx_e (.agg #[(.int .i64 x115.1.1), (.int .i64 x115.1.2.1), v117, v118]) S trivial (by decide) rfl trivial (q_loadA (cs := [(.int .i64 x115.1.1), (.int .i64 x115.1.2.1), v117, v118]) rfl (isP_bp _) Tryz.isAgg30 Tryz.sizeOf30 (by rintro _ rfl; exact (fun j u hu => boxAt (i := 0) H rfl hu))) (fun a S => ?_)
   refine lx_e (.agg #[(.int .i64 x82.1.1), (.int .i64 x82.1.2.1), v84, v85]) S trivial (by decide) rfl trivial (q_loadA (cs := [(.int .i64 x82.1.1), (.int .i64 x82.1.2.1), v84, v85]) rfl (isP_bp _) Tryz.isAgg30 Tryz.sizeOf30 (by rintro _ rfl; exact (fun j u hu => boxAt (i := 7) H rfl hu))) (fun a S => ?_)
   obtain ⟨x128, e129, hm⟩ := bind_some hm
   refine lx_call (xs := [.tmp 45, .tmp 46]) S trivial (by decide) rfl rfl Tryz.call23 ((laws_eqLts_ok ⟨[(.int .i64 x115.1.1), (.int .i64 x115.1.2.1), v117, v118], rfl, ⟨[(.int .i64 x115.1.1)], [(.int .i64 x115.1.2.1), v117, v118], rfl, rfl, ⟨[(.int .i64 x115.1.2.1)], [v117, v118], rfl, rfl, ⟨[v117], [v118], rfl, ((H.rdAt 1 rfl)).list_rd, ((H.rdAt 2 rfl)).list_rd⟩⟩⟩⟩ ⟨[(.int .i64 x82.1.1), (.int .i64 x82.1.2.1), v84, v85], rfl, ⟨[(.int .i64 x82.1.1)], [(.int .i64 x82.1.2.1), v84, v85], rfl, rfl, ⟨[(.int .i64 x82.1.2.1)], [v84, v85], rfl, rfl, ⟨[v84], [v85], rfl, ((H.rdAt 8 rfl)).list_rd, ((H.rdAt 9 rfl)).list_rd⟩⟩⟩⟩ e129).mono ?_)
   rintro e w126 ⟨rfl, Hc127⟩
   have H := H.call0 Hc127
   refine ⟨_, rfl, trivial, fun a S => ?_⟩
   refine lq (.bool (!x128)) S (q_not rfl) fun a S => ?_
   refine lq (.bool (!x128)) S (q_move rfl) fun a S => ?_
   obtain ⟨t131, e132, hm⟩ := bind_some hm
   refine lx_cut 4 (fun a w => Slots a 119 [(1, p1), (2, (bp b49)), (6, (bp b89)), (7, (.int .i64 x82.2)), (8, (bp b102)), (9, v110), (10, (bp b122)), (11, (.int .i64 x115.2)), (53, (.bool t131))] ∧ Heap w0 [bA b122 [(.int .i64 x115.1.1), (.int .i64 x115.1.2.1), v117, v118] 30, oA (rList rStr) v117 x115.1.2.2.1, oA (rList Rimpl_Edge) v118 x115.1.2.2.2, oA (rList Rimpl_Edge) v110 x108, bA b102 [(.int .i64 x95.1), (.int .i64 x95.2.1), v97, v98] 30, oA (rList rStr) v97 x95.2.2.1, oA (rList Rimpl_Edge) v98 x95.2.2.2, bA b89 [(.int .i64 x82.1.1), (.int .i64 x82.1.2.1), v84, v85] 30, oA (rList rStr) v84 x82.1.2.2.1, oA (rList Rimpl_Edge) v85 x82.1.2.2.2, bA b49 [(.int .i64 a0.1), (.int .i64 a0.2.1), v33, v35] 25] w) ?_ ?_
   ·by_cases hc133 : (!x128) = true
    ·have hm := ite_t hc133 e132
     refine lx_skip S rfl rfl (isB_ne hc133) (by decide) (fun a S => ?_)
     refine lx_skip S rfl rfl (isB_ne hc133) (by decide) (fun a S => ?_)
     refine lx_skip S rfl rfl (isB_ne hc133) (by decide) (fun a S => ?_)
     refine lq (.bool true) S (q_pickT' rfl hc133 rfl) fun a S => ?_
     refine lx_nil ?_
     obtain rfl := Option.some.inj hm
     have H := H.sel [0, 1, 2, 3, 4, 5, 6, 7, 8, 9, 13] (by decide)
     exact ⟨S.sub ⟨rfl, rfl, rfl, rfl, rfl, rfl, rfl, rfl, rfl, trivial⟩, H⟩
    ·have hm := ite_f (eq_false_of_ne_true hc133) e132
     have hc133 : (!x128) = false := eq_false_of_ne_true hc133
     refine lx_q (.int .i64 x115.2) S (want_b rfl rfl hc133) (by decide) (q_move rfl) (fun a S => ?_)
     refine lx_q (.int .i64 x82.2) S (want_b rfl rfl hc133) (by decide) (q_move rfl) (fun a S => ?_)
     refine lx_q (.bool (x115.2 != x82.2)) S (want_b rfl rfl hc133) (by decide) (q_neq rfl rfl) (fun a S => ?_)
     refine lq (.bool (x115.2 != x82.2)) S (q_pickF' rfl hc133 rfl) fun a S => ?_
     refine lx_nil ?_
     obtain rfl := Option.some.inj hm
     have H := H.sel [0, 1, 2, 3, 4, 5, 6, 7, 8, 9, 13] (by decide)
     exact ⟨S.sub ⟨rfl, rfl, rfl, rfl, rfl, rfl, rfl, rfl, rfl, trivial⟩, H⟩
   ·rintro a w ⟨S, H⟩
    refine lx_nil (thenN ?_)
    refine cond_b S rfl (fun hc134 => ?_) (fun hc134 => ?_)
    ·have hm := ite_t hc134 hm
     refine wp_seq (region_plain ?_)
     refine lq (.bool false) S (q_assign rfl) fun a S => ?_
     refine lx_nil (thenN ?_)
     refine wp_ret (then_ret ?_)
     obtain rfl := Option.some.inj hm
     have H : Heap w0 [] w := H.sel [] (by decide)
     exact leave1 S rfl rfl ⟨rfl, H⟩
    ·have hm := ite_f hc134 hm
     refine wp_skip (thenN ?_)
     refine wp_seq ?_
     refine wp_seq ?_
     refine region_drawG (fun w1 => Heap w0 [bA b102 [(.int .i64 x95.1), (.int .i64 x95.2.1), v97, v98] 30, bA b49 [(.int .i64 a0.1), (.int .i64 a0.2.1), v33, v35] 25] w1) (fun i => [2, 3].contains i) mixed (by kernel_rfl) (fun w136 he135 => ?_)
     have H := H.later he135
     refine ⟨H.sel [4, 10] (by decide), ?_⟩
     refine lq (.agg #[(.int .i64 x95.1), (.int .i64 x95.2.1), v97, v98]) S (q_loadA (cs := [(.int .i64 x95.1), (.int .i64 x95.2.1), v97, v98]) rfl (isP_bp _) Tryz.isAgg30 Tryz.sizeOf30 (fun w1 hC => (fun j u hu => boxAt (i := 0) hC rfl hu))) fun a S => ?_
     refine lq (.agg #[(.int .i64 a0.1), (.int .i64 a0.2.1), v33, v35]) S (q_loadA (cs := [(.int .i64 a0.1), (.int .i64 a0.2.1), v33, v35]) rfl (isP_bp _) Tryz.isAgg25 Tryz.sizeOf25 (fun w1 hC => (fun j u hu => boxAt (i := 1) hC rfl hu))) fun a S => ?_
     obtain ⟨x139, e140, hm⟩ := bind_some hm
     refine lx_call (xs := [.tmp 55]) S trivial (by decide) rfl rfl Tryz.call21 ((laws_toLts_ok ⟨[(.int .i64 a0.1), (.int .i64 a0.2.1), v33, v35], rfl, ⟨[(.int .i64 a0.1)], [(.int .i64 a0.2.1), v33, v35], rfl, rfl, ⟨[(.int .i64 a0.2.1)], [v33, v35], rfl, rfl, ⟨[v33], [v35], rfl, ((H.arg h34)).list_rd, ((H.arg h36)).list_rd⟩⟩⟩⟩ e140).mono ?_)
     rintro e w137 ⟨v141, v142, rfl, Hc138⟩
     have H := H.call2 Hc138
     refine ⟨_, rfl, H.sel [6, 12] (by decide), fun a S => ?_⟩
     obtain ⟨x148, e149, hm⟩ := bind_some hm
     refine lx_call (xs := [.tmp 54, .tmp 56]) S trivial (by decide) rfl rfl Tryz.call23 ((laws_eqLts_ok ⟨[(.int .i64 x95.1), (.int .i64 x95.2.1), v97, v98], rfl, ⟨[(.int .i64 x95.1)], [(.int .i64 x95.2.1), v97, v98], rfl, rfl, ⟨[(.int .i64 x95.2.1)], [v97, v98], rfl, rfl, ⟨[v97], [v98], rfl, ((H.rdAt 7 rfl)).list_rd, ((H.rdAt 8 rfl)).list_rd⟩⟩⟩⟩ ⟨[(.int .i64 x139.1), (.int .i64 x139.2.1), v141, v142], rfl, ⟨[(.int .i64 x139.1)], [(.int .i64 x139.2.1), v141, v142], rfl, rfl, ⟨[(.int .i64 x139.2.1)], [v141, v142], rfl, rfl, ⟨[v141], [v142], rfl, ((H.rdAt 0 rfl)).list_rd, ((H.rdAt 1 rfl)).list_rd⟩⟩⟩⟩ e149).mono ?_)
     rintro e w146 ⟨rfl, Hc147⟩
     have H := H.call0 Hc147
     refine ⟨_, rfl, H.sel [6, 12] (by decide), fun a S => ?_⟩
     refine lq (.bool (!x148)) S (q_not rfl) fun a S => ?_
     refine lx_nil (thenN ?_)
     refine cond_b S rfl (fun hc151 => ?_) (fun hc151 => ?_)
     ·have hm := ite_t hc151 hm
      refine wp_seq (region_plain ?_)
      refine lq (.bool false) S (q_assign rfl) fun a S => ?_
      refine lx_nil (thenN ?_)
      refine wp_ret (then_ret ?_)
      obtain rfl := Option.some.inj hm
      have H : Heap w0 [] w146 := H.sel [] (by decide)
      exact leave1 S rfl rfl ⟨rfl, H⟩
     ·have hm := ite_f hc151 hm
      refine wp_skip (thenN ?_)
      refine wp_seq (wp_seq (region_plain ?_))
      refine lq v110 S (q_move rfl) fun a S => ?_
      refine lq p1 S (q_move rfl) fun a S => ?_
      obtain ⟨x154, e155, hm⟩ := bind_some hm
      refine lx_call (xs := [.tmp 60]) S trivial (by decide) rfl rfl Tryz.call59 ((laws_toEdgeS_ok (H.arg h1) e155).mono ?_)
      rintro e w152 ⟨v156, rfl, Hc153⟩
      have H := H.call1 Hc153
      refine ⟨_, rfl, trivial, fun a S => ?_⟩
      obtain ⟨x161, e162, hm⟩ := bind_some hm
      refine lx_call (xs := [.tmp 59, .tmp 61]) S trivial (by decide) rfl rfl Tryz.call32 ((laws_eqEdgeS_ok (H.rdAt 6 rfl) (H.rdAt 0 rfl) e162).mono ?_)
      rintro e w159 ⟨rfl, Hc160⟩
      have H := H.call0 Hc160
      refine ⟨_, rfl, trivial, fun a S => ?_⟩
      refine lq (.bool (!x161)) S (q_not rfl) fun a S => ?_
      refine lx_nil (thenN ?_)
      refine cond_b S rfl (fun hc164 => ?_) (fun hc164 => ?_)
      ·have hm := ite_t hc164 hm
       refine wp_seq (region_plain ?_)
       refine lq (.bool false) S (q_assign rfl) fun a S => ?_
       refine lx_nil (thenN ?_)
       refine wp_ret (then_ret ?_)
       obtain rfl := Option.some.inj hm
       have H : Heap w0 [] w159 := H.sel [] (by decide)
       exact leave1 S rfl rfl ⟨rfl, H⟩
      ·have hm := ite_f hc164 hm
       refine wp_skip (thenN ?_)
       refine wp_seq (region_plain ?_)
       refine lq (.int .i64 (1 : Int)) S (q_assign rfl) fun a S => ?_
       refine lx_nil (thenN ?_)
       refine wp_seq (region_plain ?_)
       refine lx_e (.agg #[(.int .i64 x95.1), (.int .i64 x95.2.1), v97, v98]) S trivial (by decide) rfl trivial (q_loadA (cs := [(.int .i64 x95.1), (.int .i64 x95.2.1), v97, v98]) rfl (isP_bp _) Tryz.isAgg30 Tryz.sizeOf30 (by rintro _ rfl; exact (fun j u hu => boxAt (i := 7) H rfl hu))) (fun a S => ?_)
       refine lq (.int .i64 (1 : Int)) S (q_move rfl) fun a S => ?_
       obtain ⟨x167, e168, hm⟩ := bind_some hm
       have H : Heap w0 [oA (rList Rimpl_Edge) v98 x95.2.2.2, oA (rList Rimpl_Edge) v156 x154, oA (rList rStr) v141 x139.2.2.1, oA (rList Rimpl_Edge) v142 x139.2.2.2, bA b122 [(.int .i64 x115.1.1), (.int .i64 x115.1.2.1), v117, v118] 30, oA (rList rStr) v117 x115.1.2.2.1, oA (rList Rimpl_Edge) v118 x115.1.2.2.2, oA (rList Rimpl_Edge) v110 x108, bA b102 [(.int .i64 x95.1), (.int .i64 x95.2.1), v97, v98] 30, oA (rList rStr) v97 x95.2.2.1, bA b89 [(.int .i64 x82.1.1), (.int .i64 x82.1.2.1), v84, v85] 30, oA (rList rStr) v84 x82.1.2.2.1, oA (rList Rimpl_Edge) v85 x82.1.2.2.2, bA b49 [(.int .i64 a0.1), (.int .i64 a0.2.1), v33, v35] 25] w159 := H.front 9 rfl
       have H : Heap w0 [oA (rList rStr) v97 x95.2.2.1, oA (rList Rimpl_Edge) v98 x95.2.2.2, oA (rList Rimpl_Edge) v156 x154, oA (rList rStr) v141 x139.2.2.1, oA (rList Rimpl_Edge) v142 x139.2.2.2, bA b122 [(.int .i64 x115.1.1), (.int .i64 x115.1.2.1), v117, v118] 30, oA (rList rStr) v117 x115.1.2.2.1, oA (rList Rimpl_Edge) v118 x115.1.2.2.2, oA (rList Rimpl_Edge) v110 x108, bA b102 [(.int .i64 x95.1), (.int .i64 x95.2.1), v97, v98] 30, bA b89 [(.int .i64 x82.1.1), (.int .i64 x82.1.2.1), v84, v85] 30, oA (rList rStr) v84 x82.1.2.2.1, oA (rList Rimpl_Edge) v85 x82.1.2.2.2, bA b49 [(.int .i64 a0.1), (.int .i64 a0.2.1), v33, v35] 25] w159 := H.front 9 rfl
       refine lx_call (xs := [.tmp 64, .tmp 65]) S trivial (by decide) rfl rfl Tryz.call33 ((laws_markLts_ok H  e168).mono ?_)
       rintro e w165 ⟨rfl, H⟩
       refine ⟨_, rfl, trivial, fun a S => ?_⟩
       refine lq (.int .i64 x167.1) S (q_assign rfl) fun a S => ?_
       refine lx_nil (thenN ?_)
       refine wp_seq (region_plain ?_)
       refine lq v110 S (q_move rfl) fun a S => ?_
       refine lq (.int .i64 x167.1) S (q_move rfl) fun a S => ?_
       obtain ⟨x171, e172, hm⟩ := bind_some hm
       have H : Heap w0 [oA (rList Rimpl_Edge) v110 x108, oA (rList rStr) v97 x167.2.1, oA (rList Rimpl_Edge) v98 x167.2.2, oA (rList Rimpl_Edge) v156 x154, oA (rList rStr) v141 x139.2.2.1, oA (rList Rimpl_Edge) v142 x139.2.2.2, bA b122 [(.int .i64 x115.1.1), (.int .i64 x115.1.2.1), v117, v118] 30, oA (rList rStr) v117 x115.1.2.2.1, oA (rList Rimpl_Edge) v118 x115.1.2.2.2, bA b102 [(.int .i64 x95.1), (.int .i64 x95.2.1), v97, v98] 30, bA b89 [(.int .i64 x82.1.1), (.int .i64 x82.1.2.1), v84, v85] 30, oA (rList rStr) v84 x82.1.2.2.1, oA (rList Rimpl_Edge) v85 x82.1.2.2.2, bA b49 [(.int .i64 a0.1), (.int .i64 a0.2.1), v33, v35] 25] w165 := H.front 8 rfl
       refine lx_call (xs := [.tmp 67, .tmp 68]) S trivial (by decide) rfl rfl Tryz.call34 ((laws_markEdgeS_ok H  e172).mono ?_)
       rintro e w169 ⟨rfl, H⟩
       refine ⟨_, rfl, trivial, fun a S => ?_⟩
       refine lq (.int .i64 x171.1) S (q_assign rfl) fun a S => ?_
       refine lx_nil (thenN ?_)
       refine wp_seq (wp_seq (region_plain ?_))
       refine lq (.int .i64 x171.1) S (q_move rfl) fun a S => ?_
       refine lq (.bool (decide (x171.1 < (0 : Int)))) S (q_lss rfl rfl) fun a S => ?_
       refine lq (.bool (decide (x171.1 < (0 : Int)))) S (q_move rfl) fun a S => ?_
       obtain ⟨t173, e174, hm⟩ := bind_some hm
       refine lx_cut 5 (fun a w => Slots a 119 [(1, p1), (2, (bp b49)), (6, (bp b89)), (7, (.int .i64 x82.2)), (10, (bp b122)), (11, (.int .i64 x115.2)), (77, (.bool t173))] ∧ Heap w0 [bA b122 [(.int .i64 x115.1.1), (.int .i64 x115.1.2.1), v117, v118] 30, oA (rList rStr) v117 x115.1.2.2.1, oA (rList Rimpl_Edge) v118 x115.1.2.2.2, bA b89 [(.int .i64 x82.1.1), (.int .i64 x82.1.2.1), v84, v85] 30, oA (rList rStr) v84 x82.1.2.2.1, oA (rList Rimpl_Edge) v85 x82.1.2.2.2, bA b49 [(.int .i64 a0.1), (.int .i64 a0.2.1), v33, v35] 25] w) ?_ ?_
       ·by_cases hc175 : (decide (x171.1 < (0 : Int))) = true
        ·have hm := ite_t hc175 e174
         refine lx_skip S rfl rfl (isB_ne hc175) (by decide) (fun a S => ?_)
         refine lx_skip S rfl rfl (isB_ne hc175) (by decide) (fun a S => ?_)
         refine lx_skip S rfl rfl (isB_ne hc175) (by decide) (fun a S => ?_)
         refine lx_skip S rfl rfl (isB_ne hc175) (by decide) (fun a S => ?_)
         refine lq (.bool true) S (q_pickT' rfl hc175 rfl) fun a S => ?_
         refine lx_nil ?_
         obtain rfl := Option.some.inj hm
         have H := H.sel [6, 7, 8, 10, 11, 12, 13] (by decide)
         exact ⟨S.sub ⟨rfl, rfl, rfl, rfl, rfl, rfl, rfl, trivial⟩, H⟩
        ·have hm := ite_f (eq_false_of_ne_true hc175) e174
         have hc175 : (decide (x171.1 < (0 : Int))) = false := eq_false_of_ne_true hc175
         refine lx_e (.agg #[(.int .i64 x115.1.1), (.int .i64 x115.1.2.1), v117, v118]) S (want_b rfl rfl hc175) (by decide) rfl trivial (q_loadA (cs := [(.int .i64 x115.1.1), (.int .i64 x115.1.2.1), v117, v118]) rfl (isP_bp _) Tryz.isAgg30 Tryz.sizeOf30 (by rintro _ rfl; exact (fun j u hu => boxAt (i := 6) H rfl hu))) (fun a S => ?_)
         refine lx_e (.agg #[(.int .i64 x82.1.1), (.int .i64 x82.1.2.1), v84, v85]) S (want_b rfl rfl hc175) (by decide) rfl trivial (q_loadA (cs := [(.int .i64 x82.1.1), (.int .i64 x82.1.2.1), v84, v85]) rfl (isP_bp _) Tryz.isAgg30 Tryz.sizeOf30 (by rintro _ rfl; exact (fun j u hu => boxAt (i := 10) H rfl hu))) (fun a S => ?_)
         obtain ⟨x178, e179, hm⟩ := bind_some hm
         refine lx_call (xs := [.tmp 73, .tmp 74]) S (want_b rfl rfl hc175) (by decide) rfl rfl Tryz.call23 ((laws_eqLts_ok ⟨[(.int .i64 x115.1.1), (.int .i64 x115.1.2.1), v117, v118], rfl, ⟨[(.int .i64 x115.1.1)], [(.int .i64 x115.1.2.1), v117, v118], rfl, rfl, ⟨[(.int .i64 x115.1.2.1)], [v117, v118], rfl, rfl, ⟨[v117], [v118], rfl, ((H.rdAt 7 rfl)).list_rd, ((H.rdAt 8 rfl)).list_rd⟩⟩⟩⟩ ⟨[(.int .i64 x82.1.1), (.int .i64 x82.1.2.1), v84, v85], rfl, ⟨[(.int .i64 x82.1.1)], [(.int .i64 x82.1.2.1), v84, v85], rfl, rfl, ⟨[(.int .i64 x82.1.2.1)], [v84, v85], rfl, rfl, ⟨[v84], [v85], rfl, ((H.rdAt 11 rfl)).list_rd, ((H.rdAt 12 rfl)).list_rd⟩⟩⟩⟩ e179).mono ?_)
         rintro e w176 ⟨rfl, Hc177⟩
         have H := H.call0 Hc177
         refine ⟨_, rfl, trivial, fun a S => ?_⟩
         refine lx_q (.bool (!x178)) S (want_b rfl rfl hc175) (by decide) (q_not rfl) (fun a S => ?_)
         refine lq (.bool (!x178)) S (q_pickF' rfl hc175 rfl) fun a S => ?_
         refine lx_nil ?_
         obtain rfl := Option.some.inj hm
         have H := H.sel [6, 7, 8, 10, 11, 12, 13] (by decide)
         exact ⟨S.sub ⟨rfl, rfl, rfl, rfl, rfl, rfl, rfl, trivial⟩, H⟩
       ·rintro a w ⟨S, H⟩
        refine lq (.bool t173) S (q_move rfl) fun a S => ?_
        obtain ⟨t181, e182, hm⟩ := bind_some hm
        refine lx_cut 4 (fun a w => Slots a 119 [(1, p1), (2, (bp b49)), (6, (bp b89)), (7, (.int .i64 x82.2)), (10, (bp b122)), (82, (.bool t181))] ∧ Heap w0 [bA b122 [(.int .i64 x115.1.1), (.int .i64 x115.1.2.1), v117, v118] 30, oA (rList rStr) v117 x115.1.2.2.1, oA (rList Rimpl_Edge) v118 x115.1.2.2.2, bA b89 [(.int .i64 x82.1.1), (.int .i64 x82.1.2.1), v84, v85] 30, oA (rList rStr) v84 x82.1.2.2.1, oA (rList Rimpl_Edge) v85 x82.1.2.2.2, bA b49 [(.int .i64 a0.1), (.int .i64 a0.2.1), v33, v35] 25] w) ?_ ?_
        ·by_cases hc183 : t173 = true
         ·have hm := ite_t hc183 e182
          refine lx_skip S rfl rfl (isB_ne hc183) (by decide) (fun a S => ?_)
          refine lx_skip S rfl rfl (isB_ne hc183) (by decide) (fun a S => ?_)
          refine lx_skip S rfl rfl (isB_ne hc183) (by decide) (fun a S => ?_)
          refine lq (.bool true) S (q_pickT' rfl hc183 rfl) fun a S => ?_
          refine lx_nil ?_
          obtain rfl := Option.some.inj hm
          exact ⟨S.sub ⟨rfl, rfl, rfl, rfl, rfl, rfl, trivial⟩, H⟩
         ·have hm := ite_f (eq_false_of_ne_true hc183) e182
          have hc183 : t173 = false := eq_false_of_ne_true hc183
          refine lx_q (.int .i64 x115.2) S (want_b rfl rfl hc183) (by decide) (q_move rfl) (fun a S => ?_)
          refine lx_q (.int .i64 x82.2) S (want_b rfl rfl hc183) (by decide) (q_move rfl) (fun a S => ?_)
          refine lx_q (.bool (x115.2 != x82.2)) S (want_b rfl rfl hc183) (by decide) (q_neq rfl rfl) (fun a S => ?_)
          refine lq (.bool (x115.2 != x82.2)) S (q_pickF' rfl hc183 rfl) fun a S => ?_
          refine lx_nil ?_
          obtain rfl := Option.some.inj hm
          exact ⟨S.sub ⟨rfl, rfl, rfl, rfl, rfl, rfl, trivial⟩, H⟩
        ·rintro a w ⟨S, H⟩
         refine lx_nil (thenN ?_)
         refine cond_b S rfl (fun hc184 => ?_) (fun hc184 => ?_)
         ·have hm := ite_t hc184 hm
          refine wp_seq (region_plain ?_)
          refine lq (.bool false) S (q_assign rfl) fun a S => ?_
          refine lx_nil (thenN ?_)
          refine wp_ret (then_ret ?_)
          obtain rfl := Option.some.inj hm
          have H : Heap w0 [] w := H.sel [] (by decide)
          exact leave1 S rfl rfl ⟨rfl, H⟩
         ·have hm := ite_f hc184 hm
          refine wp_skip (thenN ?_)
          refine wp_seq (region_plain ?_)
          refine lq (.int .i64 (1 : Int)) S (q_assign rfl) fun a S => ?_
          refine lx_nil (thenN ?_)
          refine wp_seq (region_plain ?_)
          refine lx_e (.agg #[(.int .i64 x115.1.1), (.int .i64 x115.1.2.1), v117, v118]) S trivial (by decide) rfl trivial (q_loadA (cs := [(.int .i64 x115.1.1), (.int .i64 x115.1.2.1), v117, v118]) rfl (isP_bp _) Tryz.isAgg30 Tryz.sizeOf30 (by rintro _ rfl; exact (fun j u hu => boxAt (i := 0) H rfl hu))) (fun a S => ?_)
          refine lq (.int .i64 (1 : Int)) S (q_move rfl) fun a S => ?_
          obtain ⟨x187, e188, hm⟩ := bind_some hm
          have H : Heap w0 [oA (rList Rimpl_Edge) v118 x115.1.2.2.2, bA b122 [(.int .i64 x115.1.1), (.int .i64 x115.1.2.1), v117, v118] 30, oA (rList rStr) v117 x115.1.2.2.1, bA b89 [(.int .i64 x82.1.1), (.int .i64 x82.1.2.1), v84, v85] 30, oA (rList rStr) v84 x82.1.2.2.1, oA (rList Rimpl_Edge) v85 x82.1.2.2.2, bA b49 [(.int .i64 a0.1), (.int .i64 a0.2.1), v33, v35] 25] w := H.front 2 rfl
          have H : Heap w0 [oA (rList rStr) v117 x115.1.2.2.1, oA (rList Rimpl_Edge) v118 x115.1.2.2.2, bA b122 [(.int .i64 x115.1.1), (.int .i64 x115.1.2.1), v117, v118] 30, bA b89 [(.int .i64 x82.1.1), (.int .i64 x82.1.2.1), v84, v85] 30, oA (rList rStr) v84 x82.1.2.2.1, oA (rList Rimpl_Edge) v85 x82.1.2.2.2, bA b49 [(.int .i64 a0.1), (.int .i64 a0.2.1), v33, v35] 25] w := H.front 2 rfl
          refine lx_call (xs := [.tmp 83, .tmp 84]) S trivial (by decide) rfl rfl Tryz.call33 ((laws_markLts_ok H  e188).mono ?_)
          rintro e w185 ⟨rfl, H⟩
          refine ⟨_, rfl, trivial, fun a S => ?_⟩
          refine lq (.int .i64 x187.1) S (q_assign rfl) fun a S => ?_
          refine lx_nil (thenN ?_)
          refine wp_seq (region_plain ?_)
          refine lq (.int .i64 (1 : Int)) S (q_assign rfl) fun a S => ?_
          refine lx_nil (thenN ?_)
          refine wp_seq (region_plain ?_)
          refine lx_e (.agg #[(.int .i64 x115.1.1), (.int .i64 x115.1.2.1), v117, v118]) S trivial (by decide) rfl trivial (q_loadA (cs := [(.int .i64 x115.1.1), (.int .i64 x115.1.2.1), v117, v118]) rfl (isP_bp _) Tryz.isAgg30 Tryz.sizeOf30 (by rintro _ rfl; exact (fun j u hu => boxAt (i := 2) H rfl hu))) (fun a S => ?_)
          refine lq (.int .i64 (1 : Int)) S (q_move rfl) fun a S => ?_
          obtain ⟨x191, e192, hm⟩ := bind_some hm
          refine lx_call (xs := [.tmp 86, .tmp 87]) S trivial (by decide) rfl rfl Tryz.call61 ((laws_heldLts_ok (a0 := (x115.1.1, x115.1.2.1, x187.2.1, x187.2.2)) ⟨[(.int .i64 x115.1.1), (.int .i64 x115.1.2.1), v117, v118], rfl, ⟨[(.int .i64 x115.1.1)], [(.int .i64 x115.1.2.1), v117, v118], rfl, rfl, ⟨[(.int .i64 x115.1.2.1)], [v117, v118], rfl, rfl, ⟨[v117], [v118], rfl, ((H.rdAt 0 rfl)).list_rd, ((H.rdAt 1 rfl)).list_rd⟩⟩⟩⟩  e192).mono ?_)
          rintro e w189 ⟨rfl, Hc190⟩
          have H := H.call0 Hc190
          refine ⟨_, rfl, trivial, fun a S => ?_⟩
          refine lq (.int .i64 x191) S (q_assign rfl) fun a S => ?_
          refine lx_nil (thenN ?_)
          refine wp_seq (wp_seq (region_plain ?_))
          refine lq (.int .i64 x191) S (q_move rfl) fun a S => ?_
          refine lq (.bool (decide (x191 < (0 : Int)))) S (q_lss rfl rfl) fun a S => ?_
          refine lx_nil (thenN ?_)
          refine cond_b S rfl (fun hc194 => ?_) (fun hc194 => ?_)
          ·have hm := ite_t hc194 hm
           refine wp_seq (region_plain ?_)
           refine lq (.bool false) S (q_assign rfl) fun a S => ?_
           refine lx_nil (thenN ?_)
           refine wp_ret (then_ret ?_)
           obtain rfl := Option.some.inj hm
           have H : Heap w0 [] w189 := H.sel [] (by decide)
           exact leave1 S rfl rfl ⟨rfl, H⟩
          ·have hm := ite_f hc194 hm
           refine wp_skip (thenN ?_)
           refine wp_seq (wp_seq (region_plain ?_))
           refine lq (.int .i64 x191) S (q_move rfl) fun a S => ?_
           refine lq (.int .i64 x187.1) S (q_move rfl) fun a S => ?_
           refine lq (.bool (x191 != x187.1)) S (q_neq rfl rfl) fun a S => ?_
           refine lx_nil (thenN ?_)
           refine cond_b S rfl (fun hc195 => ?_) (fun hc195 => ?_)
           ·have hm := ite_t hc195 hm
            refine wp_seq (region_plain ?_)
            refine lq (.bool false) S (q_assign rfl) fun a S => ?_
            refine lx_nil (thenN ?_)
            refine wp_ret (then_ret ?_)
            obtain rfl := Option.some.inj hm
            have H : Heap w0 [] w189 := H.sel [] (by decide)
            exact leave1 S rfl rfl ⟨rfl, H⟩
           ·have hm := ite_f hc195 hm
            refine wp_skip (thenN ?_)
            refine wp_seq (region_plain ?_)
            refine lx_e (.agg #[(.int .i64 a0.1), (.int .i64 a0.2.1), v33, v35]) S trivial (by decide) rfl trivial (q_loadA (cs := [(.int .i64 a0.1), (.int .i64 a0.2.1), v33, v35]) rfl (isP_bp _) Tryz.isAgg25 Tryz.sizeOf25 (by rintro _ rfl; exact (fun j u hu => boxAt (i := 6) H rfl hu))) (fun a S => ?_)
            obtain ⟨x198, e199, hm⟩ := bind_some hm
            refine lx_call (xs := [.tmp 95]) S trivial (by decide) rfl rfl Tryz.call21 ((laws_toLts_ok ⟨[(.int .i64 a0.1), (.int .i64 a0.2.1), v33, v35], rfl, ⟨[(.int .i64 a0.1)], [(.int .i64 a0.2.1), v33, v35], rfl, rfl, ⟨[(.int .i64 a0.2.1)], [v33, v35], rfl, rfl, ⟨[v33], [v35], rfl, ((H.arg h34)).list_rd, ((H.arg h36)).list_rd⟩⟩⟩⟩ e199).mono ?_)
            rintro e w196 ⟨v200, v201, rfl, Hc197⟩
            have H := H.call2 Hc197
            refine ⟨_, rfl, trivial, fun a S => ?_⟩
            refine lq p1 S (q_move rfl) fun a S => ?_
            obtain ⟨x207, e208, hm⟩ := bind_some hm
            refine lx_call (xs := [.tmp 97]) S trivial (by decide) rfl rfl Tryz.call59 ((laws_toEdgeS_ok (H.arg h1) e208).mono ?_)
            rintro e w205 ⟨v209, rfl, Hc206⟩
            have H := H.call1 Hc206
            refine ⟨_, rfl, trivial, fun a S => ?_⟩
            obtain ⟨x214, e215, hm⟩ := bind_some hm
            refine lx_call (xs := [.tmp 96, .tmp 98]) S trivial (by decide) rfl rfl Tryz.call60 ((impl_SubSystem_ok (hG.ext H.ext) ⟨[(.int .i64 x198.1), (.int .i64 x198.2.1), v200, v201], rfl, ⟨[(.int .i64 x198.1)], [(.int .i64 x198.2.1), v200, v201], rfl, rfl, ⟨[(.int .i64 x198.2.1)], [v200, v201], rfl, rfl, ⟨[v200], [v201], rfl, ((H.rdAt 1 rfl)).list_rd, ((H.rdAt 2 rfl)).list_rd⟩⟩⟩⟩ (H.rdAt 0 rfl) e215).mono ?_)
            rintro e w212 ⟨v216, v217, rfl, Hc213⟩
            have H := H.call2 Hc213
            refine ⟨_, rfl, trivial, fun a S => ?_⟩
            refine lq (.tuple #[(.agg #[(.int .i64 x214.1.1), (.int .i64 x214.1.2.1), v216, v217]), (.int .i64 x214.2)]) S (q_move rfl) fun a S => ?_
            refine lq (.agg #[(.int .i64 x214.1.1), (.int .i64 x214.1.2.1), v216, v217]) S (q_extract rfl rfl) fun a S => ?_
            refine lq (.int .i64 x214.2) S (q_extract rfl rfl) fun a S => ?_
            refine lx_alloc S trivial (by decide) rfl H Tryz.zeroValue30 rfl (fun b221 w222 H => ⟨trivial, fun a S => ?_⟩)
            refine lx_storeBox (o := 0) (i := 0) (us := [(.int .i64 x214.1.1), (.int .i64 x214.1.2.1), v216, v217]) (cs' := [(.int .i64 x214.1.1), (.int .i64 x214.1.2.1), v216, v217]) S trivial rfl H rfl rfl rfl rfl Tryz.sizeOf30 (Nat.le_of_ble_eq_true rfl) (List.forall_mem_cons.2 ⟨rfl, (List.forall_mem_cons.2 ⟨rfl, (List.forall_mem_cons.2 ⟨one_sl (H.isSl 1 rfl), (List.forall_mem_cons.2 ⟨one_sl (H.isSl 2 rfl), (fun _ h => nomatch h)⟩)⟩)⟩)⟩) rfl (fun w224 H => ⟨trivial, fun a S => ?_⟩)
            change Heap w0 [bA b221 [(.int .i64 x214.1.1), (.int .i64 x214.1.2.1), v216, v217] 30, oA (rList rStr) v216 x214.1.2.2.1, oA (rList Rimpl_Edge) v217 x214.1.2.2.2, oA (rList Rimpl_Edge) v209 x207, oA (rList rStr) v200 x198.2.2.1, oA (rList Rimpl_Edge) v201 x198.2.2.2, oA (rList rStr) v117 x187.2.1, oA (rList Rimpl_Edge) v118 x187.2.2, bA b122 [(.int .i64 x115.1.1), (.int .i64 x115.1.2.1), v117, v118] 30, bA b89 [(.int .i64 x82.1.1), (.int .i64 x82.1.2.1), v84, v85] 30, oA (rList rStr) v84 x82.1.2.2.1, oA (rList Rimpl_Edge) v85 x82.1.2.2.2, bA b49 [(.int .i64 a0.1), (.int .i64 a0.2.1), v33, v35] 25] w224 at H
            refine lq (.int .i64 x214.2) S (q_assign rfl) fun a S => ?_
            refine lx_nil (thenN ?_)
            refine wp_seq (wp_seq (region_plain ?_))
            refine lx_e (.agg #[(.int .i64 x214.1.1), (.int .i64 x214.1.2.1), v216, v217]) S trivial (by decide) rfl trivial (q_loadA (cs := [(.int .i64 x214.1.1), (.int .i64 x214.1.2.1), v216, v217]) rfl (isP_bp _) Tryz.isAgg30 Tryz.sizeOf30 (by rintro _ rfl; exact (fun j u hu => boxAt (i := 0) H rfl hu))) (fun a S => ?_)
            refine lx_e (.agg #[(.int .i64 x82.1.1), (.int .i64 x82.1.2.1), v84, v85]) S trivial (by decide) rfl trivial (q_loadA (cs := [(.int .i64 x82.1.1), (.int .i64 x82.1.2.1), v84, v85]) rfl (isP_bp _) Tryz.isAgg30 Tryz.sizeOf30 (by rintro _ rfl; exact (fun j u hu => boxAt (i := 9) H rfl hu))) (fun a S => ?_)
            obtain ⟨x227, e228, hm⟩ := bind_some hm
            refine lx_call (xs := [.tmp 102, .tmp 103]) S trivial (by decide) rfl rfl Tryz.call23 ((laws_eqLts_ok ⟨[(.int .i64 x214.1.1), (.int .i64 x214.1.2.1), v216, v217], rfl, ⟨[(.int .i64 x214.1.1)], [(.int .i64 x214.1.2.1), v216, v217], rfl, rfl, ⟨[(.int .i64 x214.1.2.1)], [v216, v217], rfl, rfl, ⟨[v216], [v217], rfl, ((H.rdAt 1 rfl)).list_rd, ((H.rdAt 2 rfl)).list_rd⟩⟩⟩⟩ ⟨[(.int .i64 x82.1.1), (.int .i64 x82.1.2.1), v84, v85], rfl, ⟨[(.int .i64 x82.1.1)], [(.int .i64 x82.1.2.1), v84, v85], rfl, rfl, ⟨[(.int .i64 x82.1.2.1)], [v84, v85], rfl, rfl, ⟨[v84], [v85], rfl, ((H.rdAt 10 rfl)).list_rd, ((H.rdAt 11 rfl)).list_rd⟩⟩⟩⟩ e228).mono ?_)
            rintro e w225 ⟨rfl, Hc226⟩
            have H := H.call0 Hc226
            refine ⟨_, rfl, trivial, fun a S => ?_⟩
            refine lq (.bool (!x227)) S (q_not rfl) fun a S => ?_
            refine lq (.bool (!x227)) S (q_move rfl) fun a S => ?_
            obtain ⟨t230, e231, hm⟩ := bind_some hm
            refine lx_cut 4 (fun a w => Slots a 119 [(10, (bp b122)), (13, (.int .i64 x187.1)), (110, (.bool t230))] ∧ Heap w0 [oA (rList rStr) v117 x187.2.1, oA (rList Rimpl_Edge) v118 x187.2.2, bA b122 [(.int .i64 x115.1.1), (.int .i64 x115.1.2.1), v117, v118] 30] w) ?_ ?_
            ·by_cases hc232 : (!x227) = true
             ·have hm := ite_t hc232 e231
              refine lx_skip S rfl rfl (isB_ne hc232) (by decide) (fun a S => ?_)
              refine lx_skip S rfl rfl (isB_ne hc232) (by decide) (fun a S => ?_)
              refine lx_skip S rfl rfl (isB_ne hc232) (by decide) (fun a S => ?_)
              refine lq (.bool true) S (q_pickT' rfl hc232 rfl) fun a S => ?_
              refine lx_nil ?_
              obtain rfl := Option.some.inj hm
              have H := H.sel [6, 7, 8] (by decide)
              exact ⟨S.sub ⟨rfl, rfl, rfl, trivial⟩, H⟩
             ·have hm := ite_f (eq_false_of_ne_true hc232) e231
              have hc232 : (!x227) = false := eq_false_of_ne_true hc232
              refine lx_q (.int .i64 x214.2) S (want_b rfl rfl hc232) (by decide) (q_move rfl) (fun a S => ?_)
              refine lx_q (.int .i64 x82.2) S (want_b rfl rfl hc232) (by decide) (q_move rfl) (fun a S => ?_)
              refine lx_q (.bool (x214.2 != x82.2)) S (want_b rfl rfl hc232) (by decide) (q_neq rfl rfl) (fun a S => ?_)
              refine lq (.bool (x214.2 != x82.2)) S (q_pickF' rfl hc232 rfl) fun a S => ?_
              refine lx_nil ?_
              obtain rfl := Option.some.inj hm
              have H := H.sel [6, 7, 8] (by decide)
              exact ⟨S.sub ⟨rfl, rfl, rfl, trivial⟩, H⟩
            ·rintro a w ⟨S, H⟩
             refine lx_nil (thenN ?_)
             refine cond_b S rfl (fun hc233 => ?_) (fun hc233 => ?_)
             ·have hm := ite_t hc233 hm
              refine wp_seq (region_plain ?_)
              refine lq (.bool false) S (q_assign rfl) fun a S => ?_
              refine lx_nil (thenN ?_)
              refine wp_ret (then_ret ?_)
              obtain rfl := Option.some.inj hm
              have H : Heap w0 [] w := H.sel [] (by decide)
              exact leave1 S rfl rfl ⟨rfl, H⟩
             ·have hm := ite_f hc233 hm
              refine wp_skip (thenN ?_)
              refine wp_seq (region_plain ?_)
              refine lq (.int .i64 (1 : Int)) S (q_assign rfl) fun a S => ?_
              refine lx_nil (thenN ?_)
              refine wp_seq (region_plain ?_)
              refine lx_e (.agg #[(.int .i64 x115.1.1), (.int .i64 x115.1.2.1), v117, v118]) S trivial (by decide) rfl trivial (q_loadA (cs := [(.int .i64 x115.1.1), (.int .i64 x115.1.2.1), v117, v118]) rfl (isP_bp _) Tryz.isAgg30 Tryz.sizeOf30 (by rintro _ rfl; exact (fun j u hu => boxAt (i := 2) H rfl hu))) (fun a S => ?_)
              refine lq (.int .i64 (1 : Int)) S (q_move rfl) fun a S => ?_
              obtain ⟨x236, e237, hm⟩ := bind_some hm
              refine lx_call (xs := [.tmp 111, .tmp 112]) S trivial (by decide) rfl rfl Tryz.call61 ((laws_heldLts_ok (a0 := (x115.1.1, x115.1.2.1, x187.2.1, x187.2.2)) ⟨[(.int .i64 x115.1.1), (.int .i64 x115.1.2.1), v117, v118], rfl, ⟨[(.int .i64 x115.1.1)], [(.int .i64 x115.1.2.1), v117, v118], rfl, rfl, ⟨[(.int .i64 x115.1.2.1)], [v117, v118], rfl, rfl, ⟨[v117], [v118], rfl, ((H.rdAt 0 rfl)).list_rd, ((H.rdAt 1 rfl)).list_rd⟩⟩⟩⟩  e237).mono ?_)
              rintro e w234 ⟨rfl, Hc235⟩
              have H := H.call0 Hc235
              refine ⟨_, rfl, trivial, fun a S => ?_⟩
              refine lq (.int .i64 x236) S (q_assign rfl) fun a S => ?_
              refine lx_nil (thenN ?_)
              refine wp_seq (wp_seq (region_plain ?_))
              refine lq (.int .i64 x236) S (q_move rfl) fun a S => ?_
              refine lq (.bool (decide (x236 < (0 : Int)))) S (q_lss rfl rfl) fun a S => ?_
              refine lx_nil (thenN ?_)
              refine cond_b S rfl (fun hc239 => ?_) (fun hc239 => ?_)
              ·have hm := ite_t hc239 hm
               refine wp_seq (region_plain ?_)
               refine lq (.bool false) S (q_assign rfl) fun a S => ?_
               refine lx_nil (thenN ?_)
               refine wp_ret (then_ret ?_)
               obtain rfl := Option.some.inj hm
               have H : Heap w0 [] w234 := H.sel [] (by decide)
               exact leave1 S rfl rfl ⟨rfl, H⟩
              ·have hm := ite_f hc239 hm
               refine wp_skip (thenN ?_)
               refine wp_seq (wp_seq (region_plain ?_))
               refine lq (.int .i64 x236) S (q_move rfl) fun a S => ?_
               refine lq (.int .i64 x187.1) S (q_move rfl) fun a S => ?_
               refine lq (.bool (x236 != x187.1)) S (q_neq rfl rfl) fun a S => ?_
               refine lx_nil (thenN ?_)
               refine cond_b S rfl (fun hc240 => ?_) (fun hc240 => ?_)
               ·have hm := ite_t hc240 hm
                refine wp_seq (region_plain ?_)
                refine lq (.bool false) S (q_assign rfl) fun a S => ?_
                refine lx_nil (thenN ?_)
                refine wp_ret (then_ret ?_)
                obtain rfl := Option.some.inj hm
                have H : Heap w0 [] w234 := H.sel [] (by decide)
                exact leave1 S rfl rfl ⟨rfl, H⟩
               ·have hm := ite_f hc240 hm
                refine wp_skip (thenN ?_)
                refine wp_seq (region_plain ?_)
                refine lq (.bool true) S (q_assign rfl) fun a S => ?_
                refine lx_nil (thenN ?_)
                refine wp_ret ?_
                obtain rfl := Option.some.inj hm
                have H : Heap w0 [] w234 := H.sel [] (by decide)
                exact leave1 S rfl rfl ⟨rfl, H⟩
end Go.Proofs.YtkgkfbmcnchdbaaGreatDoor
