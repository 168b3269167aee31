/- The models of some functions and their walks (printed by a program of this repo). -/
import Derived.Test.YtcddkipbedfhkaaF0
import Derived.Test.YtcddkipbedfhkaaF1
import Derived.Test.YtcddkipbedfhkaaF2
import Derived.Test.YtcddkipbedfhkaaF3
import Derived.Test.YtcddkipbedfhkaaGxAr
import Derived.Test.YtcddkipbedfhkaaGxT
import Derived.Test.YtcddkipbedfhkaaGxY
namespace Go.Proofs.Ytcddkipbedfhkaa
open Go.RowKit Go.Gx

/-- spec.l23Lift -/
def spec_l23Lift_m (fuel : Nat) (a0 : (List Int)) (a1 : (List Int)) (a2 : Int) (a3 : Int) : Option ((List Int)) :=
  (if ((a0.length : Int) == (0 : Int)) = true then some (([] : List Int)) else (spec_l23Places_m fuel a2 a3).bind fun x37 => (mks (5 : Int) (0 : Int)).bind fun x40 => (iter (fun (s : (List Int) × (Int)) => (match s with | (xs57, x58) => (if (decide (x58 < x37)) = true then (idx a0 x58).bind fun x169 => (idx xs57 x58).bind fun _ => some (.inl ((xs57.set x58.toNat x169), (W (x58 + (1 : Int))))) else some (.inr (.inl (xs57)))) : Option (((List Int) × (Int)) ⊕ (((List Int)) ⊕ ((List Int)))))) fuel (x40, (0 : Int))).bind fun res71 => ctl (β := (List Int)) (ρ := (List Int)) (τ := (List Int)) res71 (fun (xs70) => (spec_l23Bad_m fuel a2 a3).bind fun x78 => (if (decide (x78 < (0 : Int))) = true then some (xs70) else (iter (fun (s : (List Int) × (Int)) => (match s with | (xs106, x107) => (if (decide ((0 : Int) ≤ x107)) = true then (idx xs106 x107).bind fun x146 => (idx a1 x107).bind fun x148 => (if (decide (x146 < x148)) = true then (idx xs106 x107).bind fun x154 => (idx xs106 x107).bind fun _ => some (.inr (.inr (xs106.set x107.toNat (W (x154 + (1 : Int)))))) else (idx xs106 x107).bind fun _ => some (.inl ((xs106.set x107.toNat (0 : Int)), (W (x107 - (1 : Int)))))) else some (.inr (.inl ()))) : Option (((List Int) × (Int)) ⊕ ((Unit) ⊕ ((List Int)))))) fuel (xs70, (W (x37 - (1 : Int))))).bind fun res132 => ctl (β := Unit) (ρ := (List Int)) (τ := (List Int)) res132 (fun _ => some (([] : List Int))) (fun q => some (q)))) (fun q => some (q)))
set_option maxRecDepth 20000 in
theorem spec_l23Lift_ok [dr : Dr] {w0 : World} {fuel : Nat} {p0 p1 : Value} {a0 : (List Int)} {a1 : (List Int)} {a2 : Int} {a3 : Int} {r : (List Int)} (h0 : Rd (rList (rInt .i64)) w0 p0 a0) (h1 : Rd (rList (rInt .i64)) w0 p1 a1) (hm : spec_l23Lift_m fuel a0 a1 a2 a3 = some r) :
  Calls Try.prog 87 #[p0, p1, .int .i64 a2, .int .i64 a3] w0 fun e w => ∃ (v0 : Value), e = .returned (v0) ∧ Heap w0 [oA (rList (rInt .i64)) v0 r] w := by
 unfold spec_l23Lift_m at hm
 have H := Heap.start w0
 refine enter (args := [p0, p1, .int .i64 a2, .int .i64 a3]) Try.func87 rfl 64 rfl (Nat.le_of_ble_eq_true rfl) (fun a S => ?_)
 refine wp_seq (region_plain ?_)
 refine lq (.slice none 0 0) S (q_assign rfl) fun a S => ?_
 refine lx_nil (thenN ?_)
 refine wp_seq (wp_seq (region_plain ?_))
 refine lq p0 S (q_move rfl) fun a S => ?_
 refine lq (.int .i64 (a0.length : Int)) S (q_lenSl rfl (h0).isSl rfl Try.underlying38) fun a S => ?_
 refine lq (.bool ((a0.length : Int) == (0 : Int))) S (q_eql rfl rfl) fun a S => ?_
 refine lx_nil (thenN ?_)
 refine cond_b S rfl (fun hc31 => ?_) (fun hc31 => ?_)
 ·have hm := ite_t hc31 hm
  refine wp_seq (region_plain ?_)
  refine lx_buildSlice0 (r := (rInt .i64)) S trivial (by decide) rfl H Try.underlying38 Try.sizeOf2 (fun v32 w33 H => ⟨trivial, fun a S => ?_⟩)
  refine lq v32 S (q_assign rfl) fun a S => ?_
  refine lx_nil (thenN ?_)
  refine wp_ret (then_ret ?_)
  obtain rfl := Option.some.inj hm
  exact leave1 S rfl rfl ⟨v32, rfl, H⟩
 ·have hm := ite_f hc31 hm
  refine wp_skip (thenN ?_)
  refine wp_seq (region_plain ?_)
  refine lq (.int .i64 a2) S (q_move rfl) fun a S => ?_
  refine lq (.int .i64 a3) S (q_move rfl) fun a S => ?_
  obtain ⟨x37, e38, hm⟩ := bind_some hm
  refine lx_call (xs := [.tmp 17, .tmp 18]) S trivial (by decide) rfl rfl Try.call82 ((spec_l23Places_ok   e38).mono ?_)
  rintro e w35 ⟨rfl, Hc36⟩
  have H := H.call0 Hc36
  refine ⟨_, rfl, trivial, fun a S => ?_⟩
  refine lq (.int .i64 x37) S (q_assign rfl) fun a S => ?_
  refine lx_nil (thenN ?_)
  refine wp_seq (region_plain ?_)
  obtain ⟨x40, e41, hm⟩ := bind_some hm
  obtain ⟨m42, hn, hn2, rfl⟩ := mks_some e41
  refine lx_make (r := (rInt .i64)) (z0 := (0 : Int)) (n := m42) S trivial (by decide) rfl H (by rw [← hn]; rfl) (by rw [← hn]; rfl) Try.underlying38 (Try.ti2) rfl rfl (Nat.le_of_ble_eq_true rfl) (fun w => ⟨rfl, rfl⟩) hn2 (by decide) (fun v43 w44 H => ⟨trivial, fun a S => ?_⟩)
  refine lq v43 S (q_assign rfl) fun a S => ?_
  refine lx_nil (thenN ?_)
  refine wp_seq (wp_seq (region_plain ?_))
  refine lq (.int .i64 (0 : Int)) S (q_assign rfl) fun a S => ?_
  refine lx_nil (thenN ?_)
  obtain ⟨res71, hit72, hk75⟩ := bind_some hm
  obtain ⟨f73, hf74, hit72⟩ := iter_name hit72
  refine block_loop (fun a w => ∃ (xs70 : List Int), Slots a 64 [(1, p1), (2, (.int .i64 a2)), (3, (.int .i64 a3)), (9, (.int .i64 x37)), (10, v43)] ∧ Heap w0 [oA (rList (rInt .i64)) v43 xs70] w ∧ res71 = .inl (xs70)) ?_ ?_
  ·rintro a w ⟨xs70, S, H, rfl⟩
   have hm := ctl_inl hk75
   refine thenN ?_
   refine wp_seq (wp_seq (region_plain ?_))
   refine lq (.int .i64 a2) S (q_move rfl) fun a S => ?_
   refine lq (.int .i64 a3) S (q_move rfl) fun a S => ?_
   obtain ⟨x78, e79, hm⟩ := bind_some hm
   refine lx_call (xs := [.tmp 33, .tmp 34]) S trivial (by decide) rfl rfl Try.call61 ((spec_l23Bad_ok   e79).mono ?_)
   rintro e w76 ⟨rfl, Hc77⟩
   have H := H.call0 Hc77
   refine ⟨_, rfl, trivial, fun a S => ?_⟩
   refine lq (.bool (decide (x78 < (0 : Int)))) S (q_lss rfl rfl) fun a S => ?_
   refine lx_nil (thenN ?_)
   refine cond_b S rfl (fun hc81 => ?_) (fun hc81 => ?_)
   ·have hm := ite_t hc81 hm
    refine wp_seq (region_plain ?_)
    refine lq v43 S (q_move rfl) fun a S => ?_
    refine lq v43 S (q_assign rfl) fun a S => ?_
    refine lx_nil (thenN ?_)
    refine wp_ret (then_ret ?_)
    obtain rfl := Option.some.inj hm
    exact leave1 S rfl rfl ⟨v43, rfl, H⟩
   ·have hm := ite_f hc81 hm
    refine wp_skip (thenN ?_)
    refine wp_seq (wp_seq (region_plain ?_))
    refine lq (.int .i64 x37) S (q_move rfl) fun a S => ?_
    refine lq (.int .i64 (W (x37 - (1 : Int)))) S (q_sub rfl rfl) fun a S => ?_
    refine lq (.int .i64 (W (x37 - (1 : Int)))) S (q_assign rfl) fun a S => ?_
    refine lx_nil (thenN ?_)
    obtain ⟨res132, hit133, hk136⟩ := bind_some hm
    obtain ⟨f134, hf135, hit133⟩ := iter_name hit133
    refine block_loop (fun a w => Slots a 64 [] ∧ Heap w0 [] w ∧ res132 = .inl ()) ?_ ?_
    ·rintro a w ⟨S, H, rfl⟩
     have hm := ctl_inl hk136
     refine thenN ?_
     refine wp_seq (region_plain ?_)
     refine lx_buildSlice0 (r := (rInt .i64)) S trivial (by decide) rfl H Try.underlying38 Try.sizeOf2 (fun v137 w138 H => ⟨trivial, fun a S => ?_⟩)
     refine lq v137 S (q_assign rfl) fun a S => ?_
     refine lx_nil (thenN ?_)
     refine wp_ret ?_
     obtain rfl := Option.some.inj hm
     exact leave1 S rfl rfl ⟨v137, rfl, H⟩
    ·skip
     refine loop_ghost (fun n a w => ∃ (xs106 : List Int) (x107 : Int), Slots a 64 [(1, p1), (10, v43), (12, (.int .i64 x107))] ∧ Heap w0 [oA (rList (rInt .i64)) v43 xs106] w ∧ iter f134 n (xs106, x107) = some res132) _ ⟨xs70, (W (x37 - (1 : Int))), S.sub ⟨rfl, rfl, rfl, trivial⟩, H, hit133⟩ ?_
     rintro n a w ⟨xs106, x107, S, H, hit133⟩
     obtain ⟨m140, o141, rfl, hm, hc142⟩ := iter_step hit133
     rw [hf135] at hm
     refine wp_seq (wp_seq (region_plain ?_))
     refine lq (.int .i64 x107) S (q_move rfl) fun a S => ?_
     refine lq (.bool (decide ((0 : Int) ≤ x107))) S (q_geq rfl rfl) fun a S => ?_
     refine lx_nil (thenN ?_)
     refine cond_b S rfl (fun hc143 => ?_) (fun hc143 => ?_)
     ·have hm := ite_t hc143 hm
      refine wp_skip (thenN ?_)
      refine wp_seq ?_
      refine wp_block ?_
      refine wp_seq ?_
      refine wp_seq ?_
      refine region_drawG (fun w1 => Heap w0 [oA (rList (rInt .i64)) v43 xs106] w1) (fun i => [].contains i) mixed (by kernel_rfl) (fun w145 he144 => ?_)
      have H := H.later he144
      refine ⟨H.sel [0] (by decide), ?_⟩
      refine lq v43 S (q_move rfl) fun a S => ?_
      refine lq (.int .i64 x107) S (q_move rfl) fun a S => ?_
      obtain ⟨x146, e147, hm⟩ := bind_some hm
      have hlt := lt_of_idx (idx_some e147).2
      refine lq (ePtr v43 (x107.toNat * 1)) S (q_indexAddr rfl (H.isSl 0 rfl) rfl (idx_some e147).1 hlt Try.underlying38 Try.sizeOf2) fun a S => ?_
      refine lq (.int .i64 x146) S (q_load1 rfl Try.isAgg2 (fun w1 hC => ((hC.rdAt 0 rfl).elemAt (j := 0) (idx_some e147).2 (by intro B w cs h; obtain rfl := h; rfl)))) fun a S => ?_
      refine lq p1 S (q_move rfl) fun a S => ?_
      refine lq (.int .i64 x107) S (q_move rfl) fun a S => ?_
      obtain ⟨x148, e149, hm⟩ := bind_some hm
      obtain ⟨c150, h151, hat152⟩ := (h1).elem (idx_some e149).2
      obtain rfl := h151
      have hlt := lt_of_idx (idx_some e149).2
      refine lq (ePtr p1 (x107.toNat * 1)) S (q_indexAddr rfl (h1).isSl rfl (idx_some e149).1 hlt Try.underlying38 Try.sizeOf2) fun a S => ?_
      refine lq (.int .i64 x148) S (q_load1 rfl Try.isAgg2 (fun w1 hC => ((hat152 0 _ rfl).ext hC.ext))) fun a S => ?_
      refine lq (.bool (decide (x146 < x148))) S (q_lss rfl rfl) fun a S => ?_
      refine lx_nil (thenN ?_)
      refine cond_b S rfl (fun hc153 => ?_) (fun hc153 => ?_)
      ·have hm := ite_t hc153 hm
       refine wp_seq (region_plain ?_)
       refine lq v43 S (q_move rfl) fun a S => ?_
       refine lq (.int .i64 x107) S (q_move rfl) fun a S => ?_
       obtain ⟨x154, e155, hm⟩ := bind_some hm
       have hlt := lt_of_idx (idx_some e155).2
       refine lq (ePtr v43 (x107.toNat * 1)) S (q_indexAddr rfl (H.isSl 0 rfl) rfl (idx_some e155).1 hlt Try.underlying38 Try.sizeOf2) fun a S => ?_
       obtain ⟨c156, h157, hat158⟩ := (H.rdAt 0 rfl).elem (idx_some e155).2
       obtain rfl := h157
       refine lx_e (.int .i64 x154) S trivial (by decide) rfl trivial (q_load1 rfl Try.isAgg2 (by rintro _ rfl; exact (hat158 0 _ rfl))) (fun a S => ?_)
       refine lq (.int .i64 (W (x154 + (1 : Int)))) S (q_add rfl rfl) fun a S => ?_
       obtain ⟨x159, e160, hm⟩ := bind_some hm
       have hlt := lt_of_idx (idx_some e160).2
       refine lq (ePtr v43 (x107.toNat * 1)) S (q_indexAddr rfl (H.isSl 0 rfl) rfl (idx_some e160).1 hlt Try.underlying38 Try.sizeOf2) fun a S => ?_
       refine lx_storeElem (r := (rInt .i64)) (us := [(.int .i64 (W (x154 + (1 : Int))))]) (off := 0) (e' := (W (x154 + (1 : Int)))) S trivial rfl H.putE (ev_zero rfl) rfl (idx_some e160).2 rfl Try.sizeOf2 (Nat.le_of_ble_eq_true rfl) (List.forall_mem_cons.2 ⟨rfl, (List.forall_mem_nil _)⟩) (Upd.full rfl (fun w G hG => by cases (show G = [] from hG); exact ⟨rfl, rfl⟩)) (fun w161 H => ⟨trivial, fun a S => ?_⟩)
       refine lx_nil (thenN ?_)
       refine wp_seq (region_plain ?_)
       refine lq v43 S (q_move rfl) fun a S => ?_
       refine lq v43 S (q_assign rfl) fun a S => ?_
       refine lx_nil (thenN ?_)
       refine wp_ret (then_ret ?_)
       refine inBlock_ret ?_
       refine then_ret ?_
       refine then_ret ?_
       refine inBlock_ret ?_
       refine then_ret ?_
       refine then_ret ?_
       obtain rfl := it_brk hm hc142
       have hm := ctl_inr hk136
       obtain rfl := Option.some.inj hm
       exact leave1 S rfl rfl ⟨v43, rfl, H⟩
      ·have hm := ite_f hc153 hm
       refine wp_skip (thenN ?_)
       refine region_plain ?_
       refine lq v43 S (q_move rfl) fun a S => ?_
       refine lq (.int .i64 x107) S (q_move rfl) fun a S => ?_
       obtain ⟨x162, e163, hm⟩ := bind_some hm
       have hlt := lt_of_idx (idx_some e163).2
       refine lq (ePtr v43 (x107.toNat * 1)) S (q_indexAddr rfl (H.isSl 0 rfl) rfl (idx_some e163).1 hlt Try.underlying38 Try.sizeOf2) fun a S => ?_
       refine lx_storeElem (r := (rInt .i64)) (us := [(.int .i64 (0 : Int))]) (off := 0) (e' := (0 : Int)) S trivial rfl H.putE (ev_zero rfl) rfl (idx_some e163).2 rfl Try.sizeOf2 (Nat.le_of_ble_eq_true rfl) (List.forall_mem_cons.2 ⟨rfl, (List.forall_mem_nil _)⟩) (Upd.full rfl (fun w G hG => by cases (show G = [] from hG); exact ⟨rfl, rfl⟩)) (fun w164 H => ⟨trivial, fun a S => ?_⟩)
       refine lx_nil ?_
       refine inBlock_norm ?_
       refine thenN ?_
       refine region_plain ?_
       refine lq (.int .i64 x107) S (q_move rfl) fun a S => ?_
       refine lq (.int .i64 (W (x107 - (1 : Int)))) S (q_sub rfl rfl) fun a S => ?_
       refine lq (.int .i64 (W (x107 - (1 : Int)))) S (q_assign rfl) fun a S => ?_
       refine lx_nil ?_
       exact ⟨m140, Nat.lt_succ_self _, (xs106.set x107.toNat (0 : Int)), (W (x107 - (1 : Int))), S.sub ⟨rfl, rfl, rfl, trivial⟩, H, it_cont hm hc142⟩
     ·have hm := ite_f hc143 hm
      refine wp_exit ?_
      refine then_exit ?_
      refine then_exit ?_
      refine inBlock_exit ?_
      obtain rfl := it_brk hm hc142
      have H : Heap w0 [] w := H.sel [] (by decide)
      exact ⟨S.sub trivial, H, rfl⟩
  ·skip
   refine loop_ghost (fun n a w => ∃ (xs57 : List Int) (x58 : Int), Slots a 64 [(0, p0), (1, p1), (2, (.int .i64 a2)), (3, (.int .i64 a3)), (9, (.int .i64 x37)), (10, v43), (11, (.int .i64 x58))] ∧ Heap w0 [oA (rList (rInt .i64)) v43 xs57] w ∧ iter f73 n (xs57, x58) = some res71) _ ⟨(List.replicate m42 (0 : Int)), (0 : Int), S.sub ⟨rfl, rfl, rfl, rfl, rfl, rfl, rfl, trivial⟩, H, hit72⟩ ?_
   rintro n a w ⟨xs57, x58, S, H, hit72⟩
   obtain ⟨m165, o166, rfl, hm, hc167⟩ := iter_step hit72
   rw [hf74] at hm
   refine wp_seq (wp_seq (region_plain ?_))
   refine lq (.int .i64 x58) S (q_move rfl) fun a S => ?_
   refine lq (.int .i64 x37) S (q_move rfl) fun a S => ?_
   refine lq (.bool (decide (x58 < x37))) S (q_lss rfl rfl) fun a S => ?_
   refine lx_nil (thenN ?_)
   refine cond_b S rfl (fun hc168 => ?_) (fun hc168 => ?_)
   ·have hm := ite_t hc168 hm
    refine wp_skip (thenN ?_)
    refine wp_seq ?_
    refine wp_block ?_
    refine region_plain ?_
    refine lq v43 S (q_move rfl) fun a S => ?_
    refine lq (.int .i64 x58) S (q_move rfl) fun a S => ?_
    refine lq p0 S (q_move rfl) fun a S => ?_
    refine lq (.int .i64 x58) S (q_move rfl) fun a S => ?_
    obtain ⟨x169, e170, hm⟩ := bind_some hm
    obtain ⟨c171, h172, hat173⟩ := (h0).elem (idx_some e170).2
    obtain rfl := h172
    have hlt := lt_of_idx (idx_some e170).2
    refine lq (ePtr p0 (x58.toNat * 1)) S (q_indexAddr rfl (h0).isSl rfl (idx_some e170).1 hlt Try.underlying38 Try.sizeOf2) fun a S => ?_
    refine lx_e (.int .i64 x169) S trivial (by decide) rfl trivial (q_load1 rfl Try.isAgg2 (by rintro _ rfl; exact ((hat173 0 _ rfl).ext H.ext))) (fun a S => ?_)
    obtain ⟨x174, e175, hm⟩ := bind_some hm
    have hlt := lt_of_idx (idx_some e175).2
    refine lq (ePtr v43 (x58.toNat * 1)) S (q_indexAddr rfl (H.isSl 0 rfl) rfl (idx_some e175).1 hlt Try.underlying38 Try.sizeOf2) fun a S => ?_
    refine lx_storeElem (r := (rInt .i64)) (us := [(.int .i64 x169)]) (off := 0) (e' := x169) S trivial rfl H.putE (ev_zero rfl) rfl (idx_some e175).2 rfl Try.sizeOf2 (Nat.le_of_ble_eq_true rfl) (List.forall_mem_cons.2 ⟨rfl, (List.forall_mem_nil _)⟩) (Upd.full rfl (fun w G hG => by cases (show G = [] from hG); exact ⟨rfl, rfl⟩)) (fun w176 H => ⟨trivial, fun a S => ?_⟩)
    refine lx_nil ?_
    refine inBlock_norm ?_
    refine thenN ?_
    refine region_plain ?_
    refine lq (.int .i64 x58) S (q_move rfl) fun a S => ?_
    refine lq (.int .i64 (W (x58 + (1 : Int)))) S (q_add rfl rfl) fun a S => ?_
    refine lq (.int .i64 (W (x58 + (1 : Int)))) S (q_assign rfl) fun a S => ?_
    refine lx_nil ?_
    exact ⟨m165, Nat.lt_succ_self _, (xs57.set x58.toNat x169), (W (x58 + (1 : Int))), S.sub ⟨rfl, rfl, rfl, rfl, rfl, rfl, rfl, trivial⟩, H, it_cont hm hc167⟩
   ·have hm := ite_f hc168 hm
    refine wp_exit ?_
    refine then_exit ?_
    refine then_exit ?_
    refine inBlock_exit ?_
    obtain rfl := it_brk hm hc167
    exact ⟨xs57, S.sub ⟨rfl, rfl, rfl, rfl, rfl, trivial⟩, H, rfl⟩

/-- spec.l23Greater -/
def spec_l23Greater_m (fuel : Nat) (a0 : (List Int)) (a1 : (List Int)) : Option (Bool) :=
  (if ((a1.length : Int) == (0 : Int)) = true then some (false) else (if ((a0.length : Int) == (0 : Int)) = true then some true else (spec_l01Compare_m fuel a0 a1).bind fun x37 => some (decide ((0 : Int) < x37))).bind fun t32 => some (t32))
set_option maxRecDepth 20000 in
theorem spec_l23Greater_ok [dr : Dr] {w0 : World} {fuel : Nat} {p0 p1 : Value} {a0 : (List Int)} {a1 : (List Int)} {r : Bool} (h0 : Rd (rList (rInt .i64)) w0 p0 a0) (h1 : Rd (rList (rInt .i64)) w0 p1 a1) (hm : spec_l23Greater_m fuel a0 a1 = some r) :
  Calls Try.prog 72 #[p0, p1] w0 fun e w => e = .returned (.bool r) ∧ Heap w0 [] w := by
 unfold spec_l23Greater_m at hm
 have H := Heap.start w0
 refine enter (args := [p0, p1]) Try.func72 rfl 17 rfl (Nat.le_of_ble_eq_true rfl) (fun a S => ?_)
 refine wp_seq (region_plain ?_)
 refine lq (.bool false) S (q_assign rfl) fun a S => ?_
 refine lx_nil (thenN ?_)
 refine wp_seq (wp_seq (region_plain ?_))
 refine lq p1 S (q_move rfl) fun a S => ?_
 refine lq (.int .i64 (a1.length : Int)) S (q_lenSl rfl (h1).isSl rfl Try.underlying38) fun a S => ?_
 refine lq (.bool ((a1.length : Int) == (0 : Int))) S (q_eql rfl rfl) fun a S => ?_
 refine lx_nil (thenN ?_)
 refine cond_b S rfl (fun hc31 => ?_) (fun hc31 => ?_)
 ·have hm := ite_t hc31 hm
  refine wp_seq (region_plain ?_)
  refine lq (.bool false) S (q_assign rfl) fun a S => ?_
  refine lx_nil (thenN ?_)
  refine wp_ret (then_ret ?_)
  obtain rfl := Option.some.inj hm
  exact leave1 S rfl rfl ⟨rfl, H⟩
 ·have hm := ite_f hc31 hm
  refine wp_skip (thenN ?_)
  refine wp_seq (region_plain ?_)
  refine lq p0 S (q_move rfl) fun a S => ?_
  refine lq (.int .i64 (a0.length : Int)) S (q_lenSl rfl (h0).isSl rfl Try.underlying38) fun a S => ?_
  refine lq (.bool ((a0.length : Int) == (0 : Int))) S (q_eql rfl rfl) fun a S => ?_
  refine lq (.bool ((a0.length : Int) == (0 : Int))) S (q_move rfl) fun a S => ?_
  obtain ⟨t32, e33, hm⟩ := bind_some hm
  refine lx_cut 5 (fun a w => Slots a 17 [(16, (.bool t32))] ∧ Heap w0 [] w) ?_ ?_
  ·by_cases hc34 : ((a0.length : Int) == (0 : Int)) = true
   ·have hm := ite_t hc34 e33
    refine lx_skip S rfl rfl (isB_ne hc34) (by decide) (fun a S => ?_)
    refine lx_skip S rfl rfl (isB_ne hc34) (by decide) (fun a S => ?_)
    refine lx_skip S rfl rfl (isB_ne hc34) (by decide) (fun a S => ?_)
    refine lx_skip S rfl rfl (isB_ne hc34) (by decide) (fun a S => ?_)
    refine lq (.bool true) S (q_pickT' rfl hc34 rfl) fun a S => ?_
    refine lx_nil ?_
    obtain rfl := Option.some.inj hm
    exact ⟨S.sub ⟨rfl, trivial⟩, H⟩
   ·have hm := ite_f (eq_false_of_ne_true hc34) e33
    have hc34 : ((a0.length : Int) == (0 : Int)) = false := eq_false_of_ne_true hc34
    refine lx_q p0 S (want_b rfl rfl hc34) (by decide) (q_move rfl) (fun a S => ?_)
    refine lx_q p1 S (want_b rfl rfl hc34) (by decide) (q_move rfl) (fun a S => ?_)
    obtain ⟨x37, e38, hm⟩ := bind_some hm
    refine lx_call (xs := [.tmp 12, .tmp 13]) S (want_b rfl rfl hc34) (by decide) rfl rfl Try.call83 ((spec_l01Compare_ok (H.arg h0) (H.arg h1) e38).mono ?_)
    rintro e w35 ⟨rfl, Hc36⟩
    have H := H.call0 Hc36
    refine ⟨_, rfl, trivial, fun a S => ?_⟩
    refine lx_q (.bool (decide ((0 : Int) < x37))) S (want_b rfl rfl hc34) (by decide) (q_gtr rfl rfl) (fun a S => ?_)
    refine lq (.bool (decide ((0 : Int) < x37))) S (q_pickF' rfl hc34 rfl) fun a S => ?_
    refine lx_nil ?_
    obtain rfl := Option.some.inj hm
    exact ⟨S.sub ⟨rfl, trivial⟩, H⟩
  ·rintro a w ⟨S, H⟩
   refine lq (.bool t32) S (q_assign rfl) fun a S => ?_
   refine lx_nil (thenN ?_)
   refine wp_ret ?_
   obtain rfl := Option.some.inj hm
   exact leave1 S rfl rfl ⟨rfl, H⟩

/-- spec.l23Row -/
def spec_l23Row_m (fuel : Nat) (a0 : (List Timpl_Vertex)) (a1 : Int) (a2 : (List (List Int))) (a3 : (List Int)) (a4 : Int) : Option ((List Int)) :=
  (mks (5 : Int) (0 : Int)).bind fun x31 => join (κ := List Int → Option (List Int)) (fun (xs38 : List Int) => (iter (fun (s : (List Int) × (Int)) => (match s with | (xs169, x171) => (idx a0 a4).bind fun x309 => (if (decide (x171 < (x309.2.2.length : Int))) = true then join (κ := List Int → Option (((List Int) × (Int)) ⊕ (((List Int)) ⊕ ((List Int))))) (fun (xs326 : List Int) => some (.inl (xs326, (W (x171 + (1 : Int)))))) (fun K328 => (idx a0 a4).bind fun x332 => (idx x332.2.2 x171).bind fun x347 => (idx a2 x347).bind fun x352 => (idx a0 a4).bind fun x359 => (spec_l23Lift_m fuel x352 a3 a1 x359.2.1).bind fun x376 => (idx a0 a4).bind fun x381 => (if (x381.1 == a1) = true then (spec_l23Greater_m fuel xs169 x376).bind fun x401 => some x401 else some false).bind fun t396 => (if t396 = true then some true else (idx a0 a4).bind fun x407 => (if (x407.1 != a1) = true then (spec_l23Greater_m fuel x376 xs169).bind fun x427 => some x427 else some false).bind fun t422 => some t422).bind fun t404 => (if t404 = true then (K328 x376) else (K328 xs169))) else some (.inr (.inl (xs169)))) : Option (((List Int) × (Int)) ⊕ (((List Int)) ⊕ ((List Int)))))) fuel (xs38, (0 : Int))).bind fun res301 => ctl (β := (List Int)) (ρ := (List Int)) (τ := (List Int)) res301 (fun (xs299) => some (xs299)) (fun q => some (q))) (fun K40 => (idx a0 a4).bind fun x431 => (if (x431.1 == a1) = true then (K40 ([] : List Int)) else (K40 x31)))
set_option maxRecDepth 20000 in
theorem spec_l23Row_ok [dr : Dr] {w0 : World} {fuel : Nat} {p0 p2 p3 : Value} {a0 : (List Timpl_Vertex)} {a1 : Int} {a2 : (List (List Int))} {a3 : (List Int)} {a4 : Int} {r : (List Int)} (h0 : Rd (rList Rimpl_Vertex) w0 p0 a0) (h2 : Rd (rList (rList (rInt .i64))) w0 p2 a2) (h3 : Rd (rList (rInt .i64)) w0 p3 a3) (hm : spec_l23Row_m fuel a0 a1 a2 a3 a4 = some r) :
  Calls Try.prog 71 #[p0, .int .i64 a1, p2, p3, .int .i64 a4] w0 fun e w => ∃ (v0 : Value), e = .returned (v0) ∧ Heap w0 [oA (rList (rInt .i64)) v0 r] w := by
 unfold spec_l23Row_m at hm
 have H := Heap.start w0
 refine enter (args := [p0, .int .i64 a1, p2, p3, .int .i64 a4]) Try.func71 rfl 80 rfl (Nat.le_of_ble_eq_true rfl) (fun a S => ?_)
 refine wp_seq (region_plain ?_)
 refine lq (.slice none 0 0) S (q_assign rfl) fun a S => ?_
 refine lx_nil (thenN ?_)
 refine wp_seq (region_plain ?_)
 obtain ⟨x31, e32, hm⟩ := bind_some hm
 obtain ⟨m33, hn, hn2, rfl⟩ := mks_some e32
 refine lx_make (r := (rInt .i64)) (z0 := (0 : Int)) (n := m33) S trivial (by decide) rfl H (by rw [← hn]; rfl) (by rw [← hn]; rfl) Try.underlying38 (Try.ti2) rfl rfl (Nat.le_of_ble_eq_true rfl) (fun w => ⟨rfl, rfl⟩) hn2 (by decide) (fun v34 w35 H => ⟨trivial, fun a S => ?_⟩)
 refine lq v34 S (q_assign rfl) fun a S => ?_
 refine lx_nil (thenN ?_)
 obtain ⟨K40, hK41, hm⟩ := join_elim hm
 refine seq_cut (fun a w => ∃ (xs38 : List Int) (v37 : Value), Slots a 80 [(0, p0), (1, (.int .i64 a1)), (2, p2), (3, p3), (4, (.int .i64 a4)), (11, v37)] ∧ Heap w0 [oA (rList (rInt .i64)) v37 xs38] w ∧ K40 xs38 = some r) ?_ ?_
 ·rintro a w ⟨xs38, v37, S, H, hm⟩
  subst hK41
  refine wp_seq (wp_seq (region_plain ?_))
  refine lq (.int .i64 (0 : Int)) S (q_assign rfl) fun a S => ?_
  refine lx_nil (thenN ?_)
  obtain ⟨res301, hit302, hk305⟩ := bind_some hm
  obtain ⟨f303, hf304, hit302⟩ := iter_name hit302
  refine block_loop (fun a w => ∃ (xs299 : List Int) (v298 : Value), Slots a 80 [(11, v298)] ∧ Heap w0 [oA (rList (rInt .i64)) v298 xs299] w ∧ res301 = .inl (xs299)) ?_ ?_
  ·rintro a w ⟨xs299, v298, S, H, rfl⟩
   have hm := ctl_inl hk305
   refine thenN ?_
   refine wp_seq (region_plain ?_)
   refine lq v298 S (q_move rfl) fun a S => ?_
   refine lq v298 S (q_assign rfl) fun a S => ?_
   refine lx_nil (thenN ?_)
   refine wp_ret ?_
   obtain rfl := Option.some.inj hm
   exact leave1 S rfl rfl ⟨v298, rfl, H⟩
  ·skip
   refine loop_ghost (fun n a w => ∃ (xs169 : List Int) (x171 : Int) (v168 : Value), Slots a 80 [(0, p0), (1, (.int .i64 a1)), (2, p2), (3, p3), (4, (.int .i64 a4)), (11, v168), (12, (.int .i64 x171))] ∧ Heap w0 [oA (rList (rInt .i64)) v168 xs169] w ∧ iter f303 n (xs169, x171) = some res301) _ ⟨xs38, (0 : Int), v37, S.sub ⟨rfl, rfl, rfl, rfl, rfl, rfl, rfl, trivial⟩, H, hit302⟩ ?_
   rintro n a w ⟨xs169, x171, v168, S, H, hit302⟩
   obtain ⟨m306, o307, rfl, hm, hc308⟩ := iter_step hit302
   rw [hf304] at hm
   refine wp_seq (wp_seq (region_plain ?_))
   refine lq (.int .i64 x171) S (q_move rfl) fun a S => ?_
   refine lq p0 S (q_move rfl) fun a S => ?_
   refine lq (.int .i64 a4) S (q_move rfl) fun a S => ?_
   obtain ⟨x309, e310, hm⟩ := bind_some hm
   obtain ⟨c311, h312, hat313⟩ := (h0).elem (idx_some e310).2
   obtain ⟨c316, c317, rfl, h318, h319⟩ := h312
   obtain rfl := h318
   obtain ⟨c320, c321, rfl, h322, h323⟩ := h319
   obtain rfl := h322
   obtain ⟨v314, rfl, h315⟩ := rd_list h323
   have hlt := lt_of_idx (idx_some e310).2
   refine lq (ePtr p0 (a4.toNat * 3)) S (q_indexAddr rfl (h0).isSl rfl (idx_some e310).1 hlt Try.underlying27 Try.sizeOf53) fun a S => ?_
   refine lq (pAdd (ePtr p0 (a4.toNat * 3)) 2) S (q_fieldAddr' 2 38 rfl ((hat313 0 _ rfl).isP) Try.underlying53 rfl Try.sizeOf38) fun a S => ?_
   refine lx_e v314 S trivial (by decide) rfl trivial (q_load1 rfl Try.isAgg38 (by rintro _ rfl; exact (At.of_add (m := 2) (j := 0) ((hat313 2 _ rfl).ext H.ext)))) (fun a S => ?_)
   refine lq (.int .i64 (x309.2.2.length : Int)) S (q_lenSl rfl (h315).isSl rfl Try.underlying38) fun a S => ?_
   refine lq (.bool (decide (x171 < (x309.2.2.length : Int)))) S (q_lss rfl rfl) fun a S => ?_
   refine lx_nil (thenN ?_)
   refine cond_b S rfl (fun hc324 => ?_) (fun hc324 => ?_)
   ·have hm := ite_t hc324 hm
    refine wp_skip (thenN ?_)
    obtain ⟨K328, hK329, hm⟩ := join_elim hm
    refine seq_cut (fun a w => ∃ (xs326 : List Int) (v325 : Value), Slots a 80 [(0, p0), (1, (.int .i64 a1)), (2, p2), (3, p3), (4, (.int .i64 a4)), (11, v325), (12, (.int .i64 x171))] ∧ Heap w0 [oA (rList (rInt .i64)) v325 xs326] w ∧ K328 xs326 = some o307) ?_ ?_
    ·rintro a w ⟨xs326, v325, S, H, hm⟩
     subst hK329
     refine region_plain ?_
     refine lq (.int .i64 x171) S (q_move rfl) fun a S => ?_
     refine lq (.int .i64 (W (x171 + (1 : Int)))) S (q_add rfl rfl) fun a S => ?_
     refine lq (.int .i64 (W (x171 + (1 : Int)))) S (q_assign rfl) fun a S => ?_
     refine lx_nil ?_
     exact ⟨m306, Nat.lt_succ_self _, xs326, (W (x171 + (1 : Int))), v325, S.sub ⟨rfl, rfl, rfl, rfl, rfl, rfl, rfl, trivial⟩, H, it_cont hm hc308⟩
    ·skip
     refine wp_block ?_
     refine wp_seq ?_
     refine region_drawG (fun w1 => Heap w0 [] w1) (fun i => [18].contains i) mixed (by kernel_rfl) (fun w331 he330 => ?_)
     have H := H.later he330
     refine ⟨H.sel [] (by decide), ?_⟩
     refine lq p2 S (q_move rfl) fun a S => ?_
     refine lq p0 S (q_move rfl) fun a S => ?_
     refine lq (.int .i64 a4) S (q_move rfl) fun a S => ?_
     obtain ⟨x332, e333, hm⟩ := bind_some hm
     obtain ⟨c334, h335, hat336⟩ := (h0).elem (idx_some e333).2
     obtain ⟨c339, c340, rfl, h341, h342⟩ := h335
     obtain rfl := h341
     obtain ⟨c343, c344, rfl, h345, h346⟩ := h342
     obtain rfl := h345
     obtain ⟨v337, rfl, h338⟩ := rd_list h346
     have hlt := lt_of_idx (idx_some e333).2
     refine lq (ePtr p0 (a4.toNat * 3)) S (q_indexAddr rfl (h0).isSl rfl (idx_some e333).1 hlt Try.underlying27 Try.sizeOf53) fun a S => ?_
     refine lq (pAdd (ePtr p0 (a4.toNat * 3)) 2) S (q_fieldAddr' 2 38 rfl ((hat336 0 _ rfl).isP) Try.underlying53 rfl Try.sizeOf38) fun a S => ?_
     refine lq v337 S (q_load1 rfl Try.isAgg38 (fun w1 hC => (At.of_add (m := 2) (j := 0) ((hat336 2 _ rfl).ext hC.ext)))) fun a S => ?_
     refine lq (.int .i64 x171) S (q_move rfl) fun a S => ?_
     obtain ⟨x347, e348, hm⟩ := bind_some hm
     obtain ⟨c349, h350, hat351⟩ := (h338).elem (idx_some e348).2
     obtain rfl := h350
     have hlt := lt_of_idx (idx_some e348).2
     refine lq (ePtr v337 (x171.toNat * 1)) S (q_indexAddr rfl (h338).isSl rfl (idx_some e348).1 hlt Try.underlying38 Try.sizeOf2) fun a S => ?_
     refine lq (.int .i64 x347) S (q_load1 rfl Try.isAgg2 (fun w1 hC => ((hat351 0 _ rfl).ext hC.ext))) fun a S => ?_
     obtain ⟨x352, e353, hm⟩ := bind_some hm
     obtain ⟨c354, h355, hat356⟩ := (h2).elem (idx_some e353).2
     obtain ⟨v357, rfl, h358⟩ := rd_list h355
     have hlt := lt_of_idx (idx_some e353).2
     refine lq (ePtr p2 (x347.toNat * 1)) S (q_indexAddr rfl (h2).isSl rfl (idx_some e353).1 hlt Try.underlying23 Try.sizeOf38) fun a S => ?_
     refine lq v357 S (q_load1 rfl Try.isAgg38 (fun w1 hC => ((hat356 0 _ rfl).ext hC.ext))) fun a S => ?_
     refine lq p3 S (q_move rfl) fun a S => ?_
     refine lq (.int .i64 a1) S (q_move rfl) fun a S => ?_
     refine lq p0 S (q_move rfl) fun a S => ?_
     refine lq (.int .i64 a4) S (q_move rfl) fun a S => ?_
     obtain ⟨x359, e360, hm⟩ := bind_some hm
     obtain ⟨c361, h362, hat363⟩ := (h0).elem (idx_some e360).2
     obtain ⟨c366, c367, rfl, h368, h369⟩ := h362
     obtain rfl := h368
     obtain ⟨c370, c371, rfl, h372, h373⟩ := h369
     obtain rfl := h372
     obtain ⟨v364, rfl, h365⟩ := rd_list h373
     have hlt := lt_of_idx (idx_some e360).2
     refine lq (ePtr p0 (a4.toNat * 3)) S (q_indexAddr rfl (h0).isSl rfl (idx_some e360).1 hlt Try.underlying27 Try.sizeOf53) fun a S => ?_
     refine lq (pAdd (ePtr p0 (a4.toNat * 3)) 1) S (q_fieldAddr' 1 2 rfl ((hat363 0 _ rfl).isP) Try.underlying53 rfl Try.sizeOf2) fun a S => ?_
     refine lq (.int .i64 x359.2.1) S (q_load1 rfl Try.isAgg2 (fun w1 hC => (At.of_add (m := 1) (j := 0) ((hat363 1 _ rfl).ext hC.ext)))) fun a S => ?_
     obtain ⟨x376, e377, hm⟩ := bind_some hm
     refine lx_call (xs := [.tmp 43, .tmp 44, .tmp 45, .tmp 50]) S trivial (by decide) rfl rfl Try.call87 ((spec_l23Lift_ok (H.arg h358) (H.arg h3)   e377).mono ?_)
     rintro e w374 ⟨v378, rfl, Hc375⟩
     have H := H.call1 Hc375
     refine ⟨_, rfl, H.sel [] (by decide), fun a S => ?_⟩
     refine lq v378 S (q_assign rfl) fun a S => ?_
     refine lx_nil (thenN ?_)
     refine wp_seq (region_plain ?_)
     refine lq p0 S (q_move rfl) fun a S => ?_
     refine lq (.int .i64 a4) S (q_move rfl) fun a S => ?_
     obtain ⟨x381, e382, hm⟩ := bind_some hm
     obtain ⟨c383, h384, hat385⟩ := (h0).elem (idx_some e382).2
     obtain ⟨c388, c389, rfl, h390, h391⟩ := h384
     obtain rfl := h390
     obtain ⟨c392, c393, rfl, h394, h395⟩ := h391
     obtain rfl := h394
     obtain ⟨v386, rfl, h387⟩ := rd_list h395
     have hlt := lt_of_idx (idx_some e382).2
     refine lq (ePtr p0 (a4.toNat * 3)) S (q_indexAddr rfl (h0).isSl rfl (idx_some e382).1 hlt Try.underlying27 Try.sizeOf53) fun a S => ?_
     refine lq (pAdd (ePtr p0 (a4.toNat * 3)) 0) S (q_fieldAddr' 0 2 rfl ((hat385 0 _ rfl).isP) Try.underlying53 rfl Try.sizeOf2) fun a S => ?_
     refine lx_e (.int .i64 x381.1) S trivial (by decide) rfl trivial (q_load1 rfl Try.isAgg2 (by rintro _ rfl; exact (At.of_add (m := 0) (j := 0) ((hat385 0 _ rfl).ext H.ext)))) (fun a S => ?_)
     refine lq (.int .i64 a1) S (q_move rfl) fun a S => ?_
     refine lq (.bool (x381.1 == a1)) S (q_eql rfl rfl) fun a S => ?_
     refine lq (.bool (x381.1 == a1)) S (q_move rfl) fun a S => ?_
     obtain ⟨t396, e397, hm⟩ := bind_some hm
     refine lx_cut 4 (fun a w => Slots a 80 [(0, p0), (1, (.int .i64 a1)), (2, p2), (3, p3), (4, (.int .i64 a4)), (11, v168), (12, (.int .i64 x171)), (13, v378), (63, (.bool t396))] ∧ Heap w0 [oA (rList (rInt .i64)) v378 x376, oA (rList (rInt .i64)) v168 xs169] w) ?_ ?_
     ·by_cases hc398 : (x381.1 == a1) = true
      ·have hm := ite_t hc398 e397
       refine lx_q v168 S (want_b rfl rfl hc398) (by decide) (q_move rfl) (fun a S => ?_)
       refine lx_q v378 S (want_b rfl rfl hc398) (by decide) (q_move rfl) (fun a S => ?_)
       obtain ⟨x401, e402, hm⟩ := bind_some hm
       refine lx_call (xs := [.tmp 60, .tmp 61]) S (want_b rfl rfl hc398) (by decide) rfl rfl Try.call72 ((spec_l23Greater_ok (H.rdAt 1 rfl) (H.rdAt 0 rfl) e402).mono ?_)
       rintro e w399 ⟨rfl, Hc400⟩
       have H := H.call0 Hc400
       refine ⟨_, rfl, trivial, fun a S => ?_⟩
       refine lq (.bool x401) S (q_pickT' rfl hc398 rfl) fun a S => ?_
       refine lx_nil ?_
       obtain rfl := Option.some.inj hm
       exact ⟨S.sub ⟨rfl, rfl, rfl, rfl, rfl, rfl, rfl, rfl, rfl, trivial⟩, H⟩
      ·have hm := ite_f (eq_false_of_ne_true hc398) e397
       have hc398 : (x381.1 == a1) = false := eq_false_of_ne_true hc398
       refine lx_skip S rfl rfl (isB_ne hc398) (by decide) (fun a S => ?_)
       refine lx_skip S rfl rfl (isB_ne hc398) (by decide) (fun a S => ?_)
       refine lx_skip S rfl rfl (isB_ne hc398) (by decide) (fun a S => ?_)
       refine lq (.bool false) S (q_pickF' rfl hc398 rfl) fun a S => ?_
       refine lx_nil ?_
       obtain rfl := Option.some.inj hm
       exact ⟨S.sub ⟨rfl, rfl, rfl, rfl, rfl, rfl, rfl, rfl, rfl, trivial⟩, H⟩
     ·rintro a w ⟨S, H⟩
      refine lq (.bool t396) S (q_move rfl) fun a S => ?_
      obtain ⟨t404, e405, hm⟩ := bind_some hm
      refine lx_cut 13 (fun a w => Slots a 80 [(0, p0), (1, (.int .i64 a1)), (2, p2), (3, p3), (4, (.int .i64 a4)), (11, v168), (12, (.int .i64 x171)), (13, v378), (77, (.bool t404))] ∧ Heap w0 [oA (rList (rInt .i64)) v378 x376, oA (rList (rInt .i64)) v168 xs169] w) ?_ ?_
      ·by_cases hc406 : t396 = true
       ·have hm := ite_t hc406 e405
        refine lx_skip S rfl rfl (isB_ne hc406) (by decide) (fun a S => ?_)
        refine lx_skip S rfl rfl (isB_ne hc406) (by decide) (fun a S => ?_)
        refine lx_skip S rfl rfl (isB_ne hc406) (by decide) (fun a S => ?_)
        refine lx_skip S rfl rfl (isB_ne hc406) (by decide) (fun a S => ?_)
        refine lx_skip S rfl rfl (isB_ne hc406) (by decide) (fun a S => ?_)
        refine lx_skip S rfl rfl (isB_ne hc406) (by decide) (fun a S => ?_)
        refine lx_skip S rfl rfl (isB_ne hc406) (by decide) (fun a S => ?_)
        refine lx_skip S rfl rfl (isB_ne hc406) (by decide) (fun a S => ?_)
        refine lx_skip S rfl rfl rfl (by decide) (fun a S => ?_)
        refine lx_skip S rfl rfl rfl (by decide) (fun a S => ?_)
        refine lx_skip S rfl rfl rfl (by decide) (fun a S => ?_)
        refine lx_skip S rfl rfl (isB_ne hc406) (by decide) (fun a S => ?_)
        refine lq (.bool true) S (q_pickT' rfl hc406 rfl) fun a S => ?_
        refine lx_nil ?_
        obtain rfl := Option.some.inj hm
        exact ⟨S.sub ⟨rfl, rfl, rfl, rfl, rfl, rfl, rfl, rfl, rfl, trivial⟩, H⟩
       ·have hm := ite_f (eq_false_of_ne_true hc406) e405
        have hc406 : t396 = false := eq_false_of_ne_true hc406
        refine lx_q p0 S (want_b rfl rfl hc406) (by decide) (q_move rfl) (fun a S => ?_)
        refine lx_q (.int .i64 a4) S (want_b rfl rfl hc406) (by decide) (q_move rfl) (fun a S => ?_)
        obtain ⟨x407, e408, hm⟩ := bind_some hm
        obtain ⟨c409, h410, hat411⟩ := (h0).elem (idx_some e408).2
        obtain ⟨c414, c415, rfl, h416, h417⟩ := h410
        obtain rfl := h416
        obtain ⟨c418, c419, rfl, h420, h421⟩ := h417
        obtain rfl := h420
        obtain ⟨v412, rfl, h413⟩ := rd_list h421
        have hlt := lt_of_idx (idx_some e408).2
        refine lx_q (ePtr p0 (a4.toNat * 3)) S (want_b rfl rfl hc406) (by decide) (q_indexAddr rfl (h0).isSl rfl (idx_some e408).1 hlt Try.underlying27 Try.sizeOf53) (fun a S => ?_)
        refine lx_q (pAdd (ePtr p0 (a4.toNat * 3)) 0) S (want_b rfl rfl hc406) (by decide) (q_fieldAddr' 0 2 rfl ((hat411 0 _ rfl).isP) Try.underlying53 rfl Try.sizeOf2) (fun a S => ?_)
        refine lx_e (.int .i64 x407.1) S (want_b rfl rfl hc406) (by decide) rfl trivial (q_load1 rfl Try.isAgg2 (by rintro _ rfl; exact (At.of_add (m := 0) (j := 0) ((hat411 0 _ rfl).ext H.ext)))) (fun a S => ?_)
        refine lx_q (.int .i64 a1) S (want_b rfl rfl hc406) (by decide) (q_move rfl) (fun a S => ?_)
        refine lx_q (.bool (x407.1 != a1)) S (want_b rfl rfl hc406) (by decide) (q_neq rfl rfl) (fun a S => ?_)
        refine lx_q (.bool (x407.1 != a1)) S (want_b rfl rfl hc406) (by decide) (q_move rfl) (fun a S => ?_)
        obtain ⟨t422, e423, hm⟩ := bind_some hm
        refine lx_cut 4 (fun a w => Slots a 80 [(0, p0), (1, (.int .i64 a1)), (2, p2), (3, p3), (4, (.int .i64 a4)), (11, v168), (12, (.int .i64 x171)), (13, v378), (64, (.bool t396)), (76, (.bool t422))] ∧ Heap w0 [oA (rList (rInt .i64)) v378 x376, oA (rList (rInt .i64)) v168 xs169] w) ?_ ?_
        ·by_cases hc424 : (x407.1 != a1) = true
         ·have hm := ite_t hc424 e423
          refine lx_q v378 S (want_b rfl rfl hc424) (by decide) (q_move rfl) (fun a S => ?_)
          refine lx_q v168 S (want_b rfl rfl hc424) (by decide) (q_move rfl) (fun a S => ?_)
          obtain ⟨x427, e428, hm⟩ := bind_some hm
          refine lx_call (xs := [.tmp 73, .tmp 74]) S (want_b rfl rfl hc424) (by decide) rfl rfl Try.call72 ((spec_l23Greater_ok (H.rdAt 0 rfl) (H.rdAt 1 rfl) e428).mono ?_)
          rintro e w425 ⟨rfl, Hc426⟩
          have H := H.call0 Hc426
          refine ⟨_, rfl, trivial, fun a S => ?_⟩
          refine lx_q (.bool x427) S (want_b rfl rfl hc406) (by decide) (q_pickT' rfl hc424 rfl) (fun a S => ?_)
          refine lx_nil ?_
          obtain rfl := Option.some.inj hm
          exact ⟨S.sub ⟨rfl, rfl, rfl, rfl, rfl, rfl, rfl, rfl, rfl, rfl, trivial⟩, H⟩
         ·have hm := ite_f (eq_false_of_ne_true hc424) e423
          have hc424 : (x407.1 != a1) = false := eq_false_of_ne_true hc424
          refine lx_skip S rfl rfl (isB_ne hc424) (by decide) (fun a S => ?_)
          refine lx_skip S rfl rfl (isB_ne hc424) (by decide) (fun a S => ?_)
          refine lx_skip S rfl rfl (isB_ne hc424) (by decide) (fun a S => ?_)
          refine lx_q (.bool false) S (want_b rfl rfl hc406) (by decide) (q_pickF' rfl hc424 rfl) (fun a S => ?_)
          refine lx_nil ?_
          obtain rfl := Option.some.inj hm
          exact ⟨S.sub ⟨rfl, rfl, rfl, rfl, rfl, rfl, rfl, rfl, rfl, rfl, trivial⟩, H⟩
        ·rintro a w ⟨S, H⟩
         refine lq (.bool t422) S (q_pickF' rfl hc406 rfl) fun a S => ?_
         refine lx_nil ?_
         obtain rfl := Option.some.inj hm
         exact ⟨S.sub ⟨rfl, rfl, rfl, rfl, rfl, rfl, rfl, rfl, rfl, trivial⟩, H⟩
      ·rintro a w ⟨S, H⟩
       refine lx_nil (thenN ?_)
       refine cond_b S rfl (fun hc430 => ?_) (fun hc430 => ?_)
       ·have hm := ite_t hc430 hm
        refine region_plain ?_
        refine lq v378 S (q_move rfl) fun a S => ?_
        refine lq v378 S (q_assign rfl) fun a S => ?_
        refine lx_nil ?_
        refine inBlock_norm ?_
        have H : Heap w0 [oA (rList (rInt .i64)) v378 x376] w := H.sel [0] (by decide)
        exact ⟨x376, v378, S.sub ⟨rfl, rfl, rfl, rfl, rfl, rfl, rfl, trivial⟩, H, hm⟩
       ·have hm := ite_f hc430 hm
        refine wp_skip ?_
        refine inBlock_norm ?_
        have H : Heap w0 [oA (rList (rInt .i64)) v168 xs169] w := H.sel [1] (by decide)
        exact ⟨xs169, v168, S.sub ⟨rfl, rfl, rfl, rfl, rfl, rfl, rfl, trivial⟩, H, hm⟩
   ·have hm := ite_f hc324 hm
    refine wp_exit ?_
    refine then_exit ?_
    refine then_exit ?_
    refine inBlock_exit ?_
    obtain rfl := it_brk hm hc308
    exact ⟨xs169, v168, S.sub ⟨rfl, trivial⟩, H, rfl⟩
 ·skip
  refine wp_seq (region_plain ?_)
  refine lq p0 S (q_move rfl) fun a S => ?_
  refine lq (.int .i64 a4) S (q_move rfl) fun a S => ?_
  obtain ⟨x431, e432, hm⟩ := bind_some hm
  obtain ⟨c433, h434, hat435⟩ := (h0).elem (idx_some e432).2
  obtain ⟨c438, c439, rfl, h440, h441⟩ := h434
  obtain rfl := h440
  obtain ⟨c442, c443, rfl, h444, h445⟩ := h441
  obtain rfl := h444
  obtain ⟨v436, rfl, h437⟩ := rd_list h445
  have hlt := lt_of_idx (idx_some e432).2
  refine lq (ePtr p0 (a4.toNat * 3)) S (q_indexAddr rfl (h0).isSl rfl (idx_some e432).1 hlt Try.underlying27 Try.sizeOf53) fun a S => ?_
  refine lq (pAdd (ePtr p0 (a4.toNat * 3)) 0) S (q_fieldAddr' 0 2 rfl ((hat435 0 _ rfl).isP) Try.underlying53 rfl Try.sizeOf2) fun a S => ?_
  refine lx_e (.int .i64 x431.1) S trivial (by decide) rfl trivial (q_load1 rfl Try.isAgg2 (by rintro _ rfl; exact (At.of_add (m := 0) (j := 0) ((hat435 0 _ rfl).ext H.ext)))) (fun a S => ?_)
  refine lq (.int .i64 a1) S (q_move rfl) fun a S => ?_
  refine lq (.bool (x431.1 == a1)) S (q_eql rfl rfl) fun a S => ?_
  refine lx_nil (thenN ?_)
  refine cond_b S rfl (fun hc446 => ?_) (fun hc446 => ?_)
  ·have hm := ite_t hc446 hm
   refine region_plain ?_
   refine lx_buildSlice0 (r := (rInt .i64)) S trivial (by decide) rfl H Try.underlying38 Try.sizeOf2 (fun v447 w448 H => ⟨trivial, fun a S => ?_⟩)
   refine lq v447 S (q_assign rfl) fun a S => ?_
   refine lx_nil ?_
   have H : Heap w0 [oA (rList (rInt .i64)) v447 ([] : List Int)] w448 := H.sel [0] (by decide)
   exact ⟨([] : List Int), v447, S.sub ⟨rfl, rfl, rfl, rfl, rfl, rfl, trivial⟩, H, hm⟩
  ·have hm := ite_f hc446 hm
   refine wp_skip ?_
   exact ⟨(List.replicate m33 (0 : Int)), v34, S.sub ⟨rfl, rfl, rfl, rfl, rfl, rfl, trivial⟩, H, hm⟩

/-- spec.l00Own -/
def spec_l00Own_m (_ : Nat) (a0 : (List Int)) : Option ((List Int)) :=
  (app ([] : List Int) a0).bind fun x34 => some (x34)
set_option maxRecDepth 20000 in
theorem spec_l00Own_ok [dr : Dr] {w0 : World} {fuel : Nat} {p0 : Value} {a0 : (List Int)} {r : (List Int)} (h0 : Rd (rList (rInt .i64)) w0 p0 a0) (hm : spec_l00Own_m fuel a0 = some r) :
  Calls Try.prog 73 #[p0] w0 fun e w => ∃ (v0 : Value), e = .returned (v0) ∧ Heap w0 [oA (rList (rInt .i64)) v0 r] w := by
 unfold spec_l00Own_m at hm
 have H := Heap.start w0
 refine enter (args := [p0]) Try.func73 rfl 6 rfl (Nat.le_of_ble_eq_true rfl) (fun a S => ?_)
 refine wp_seq (region_plain ?_)
 refine lq (.slice none 0 0) S (q_assign rfl) fun a S => ?_
 refine lx_nil (thenN ?_)
 refine wp_seq (region_plain ?_)
 refine lx_buildSlice0 (r := (rInt .i64)) S trivial (by decide) rfl H Try.underlying38 Try.sizeOf2 (fun v31 w32 H => ⟨trivial, fun a S => ?_⟩)
 refine lq p0 S (q_move rfl) fun a S => ?_
 obtain ⟨x34, e35, hm⟩ := bind_some hm
 obtain ⟨hle, hap⟩ := app_some e35
 replace hap := hap.symm
 subst hap
 refine lx_appendRd (r := (rInt .i64)) S trivial (by decide) rfl H (flat_int _) (H.arg h0) rfl rfl Try.underlying38 Try.ti2 rfl rfl rfl (Nat.le_of_ble_eq_true rfl) (by decide) hle (fun v36 w37 H => ⟨trivial, fun a S => ?_⟩)
 refine lq v36 S (q_assign rfl) fun a S => ?_
 refine lx_nil (thenN ?_)
 refine wp_ret ?_
 obtain rfl := Option.some.inj hm
 exact leave1 S rfl rfl ⟨v36, rfl, H⟩

/-- spec.l23Measures -/
def spec_l23Measures_m (fuel : Nat) (a0 : (List Timpl_Vertex)) (a1 : Int) : Option ((List (List Int))) :=
  (spec_l23Tops_m fuel a0 a1).bind fun x33 => (iter (fun (s : (List (List Int)) × (Int)) => (match s with | (xs61, x63) => (if (decide (x63 < (a0.length : Int))) = true then (mks (5 : Int) (0 : Int)).bind fun x485 => (app xs61 [x485]).bind fun x494 => some (.inl (x494, (W (x63 + (1 : Int))))) else some (.inr (.inl (xs61)))) : Option (((List (List Int)) × (Int)) ⊕ (((List (List Int))) ⊕ ((List (List Int))))))) fuel (([] : List (List Int)), (0 : Int))).bind fun res86 => ctl (β := (List (List Int))) (ρ := (List (List Int))) (τ := (List (List Int))) res86 (fun (xs84) => (iter (fun (s : (List (List Int)) × (Bool)) => (match s with | (xs218, x219) => (if x219 = true then (iter (fun (s : (List (List Int)) × (Bool) × (Int)) => (match s with | (xs395, x396, x397) => (if (decide (x397 < (a0.length : Int))) = true then join (κ := List (List Int) → Bool → Option (((List (List Int)) × (Bool) × (Int)) ⊕ (((List (List Int)) × Bool) ⊕ ((List (List Int)))))) (fun (xs447 : List (List Int)) (x448 : Bool) => some (.inl (xs447, x448, (W (x397 + (1 : Int)))))) (fun K449 => (spec_l23Row_m fuel a0 a1 xs395 x33 x397).bind fun x453 => (idx xs395 x397).bind fun x458 => (spec_l23Greater_m fuel x453 x458).bind fun x467 => (if x467 = true then (spec_l00Own_m fuel x453).bind fun x473 => (idx xs395 x397).bind fun _ => (K449 (xs395.set x397.toNat x473) true) else (K449 xs395 x396))) else some (.inr (.inl (xs395, x396)))) : Option (((List (List Int)) × (Bool) × (Int)) ⊕ (((List (List Int)) × Bool) ⊕ ((List (List Int))))))) fuel (xs218, false, (0 : Int))).bind fun res438 => ctl (β := (List (List Int)) × Bool) (ρ := (List (List Int))) (τ := (((List (List Int)) × (Bool)) ⊕ (((List (List Int))) ⊕ ((List (List Int)))))) res438 (fun (xs436, x437) => some (.inl (xs436, x437))) (fun q => some (.inr (.inr q))) else some (.inr (.inl (xs218)))) : Option (((List (List Int)) × (Bool)) ⊕ (((List (List Int))) ⊕ ((List (List Int))))))) fuel (xs84, true)).bind fun res348 => ctl (β := (List (List Int))) (ρ := (List (List Int))) (τ := (List (List Int))) res348 (fun (xs347) => some (xs347)) (fun q => some (q))) (fun q => some (q))
set_option maxRecDepth 20000 in
theorem spec_l23Measures_ok [dr : Dr] {w0 : World} {fuel : Nat} {p0 : Value} {a0 : (List Timpl_Vertex)} {a1 : Int} {r : (List (List Int))} (h0 : Rd (rList Rimpl_Vertex) w0 p0 a0) (hm : spec_l23Measures_m fuel a0 a1 = some r) :
  Calls Try.prog 46 #[p0, .int .i64 a1] w0 fun e w => ∃ (v0 : Value), e = .returned (v0) ∧ Heap w0 [oA (rList (rList (rInt .i64))) v0 r] w := by
 unfold spec_l23Measures_m at hm
 have H := Heap.start w0
 refine enter (args := [p0, .int .i64 a1]) Try.func46 rfl 50 rfl (Nat.le_of_ble_eq_true rfl) (fun a S => ?_)
 refine wp_seq (region_plain ?_)
 refine lq (.slice none 0 0) S (q_assign rfl) fun a S => ?_
 refine lx_nil (thenN ?_)
 refine wp_seq (region_plain ?_)
 refine lq p0 S (q_move rfl) fun a S => ?_
 refine lq (.int .i64 a1) S (q_move rfl) fun a S => ?_
 obtain ⟨x33, e34, hm⟩ := bind_some hm
 refine lx_call (xs := [.tmp 11, .tmp 12]) S trivial (by decide) rfl rfl Try.call31 ((spec_l23Tops_ok (H.arg h0)  e34).mono ?_)
 rintro e w31 ⟨v35, rfl, Hc32⟩
 have H := H.call1 Hc32
 refine ⟨_, rfl, trivial, fun a S => ?_⟩
 refine lq v35 S (q_assign rfl) fun a S => ?_
 refine lx_nil (thenN ?_)
 refine wp_seq (region_plain ?_)
 refine lx_buildSlice0 (r := (rList (rInt .i64))) S trivial (by decide) rfl H Try.underlying23 Try.sizeOf38 (fun v38 w39 H => ⟨trivial, fun a S => ?_⟩)
 refine lq v38 S (q_assign rfl) fun a S => ?_
 refine lx_nil (thenN ?_)
 refine wp_seq (wp_seq (region_plain ?_))
 refine lq (.int .i64 (0 : Int)) S (q_assign rfl) fun a S => ?_
 refine lx_nil (thenN ?_)
 obtain ⟨res86, hit87, hk90⟩ := bind_some hm
 obtain ⟨f88, hf89, hit87⟩ := iter_name hit87
 refine block_loop (fun a w => ∃ (xs84 : List (List Int)) (v83 : Value), Slots a 50 [(0, p0), (1, (.int .i64 a1)), (5, v35), (6, v83)] ∧ Heap w0 [oA (rList (rInt .i64)) v35 x33, oA (rList (rList (rInt .i64))) v83 xs84] w ∧ res86 = .inl (xs84)) ?_ ?_
 ·rintro a w ⟨xs84, v83, S, H, rfl⟩
  have hm := ctl_inl hk90
  refine thenN ?_
  refine wp_seq (wp_seq (region_plain ?_))
  refine lq (.bool true) S (q_assign rfl) fun a S => ?_
  refine lx_nil (thenN ?_)
  obtain ⟨res348, hit349, hk352⟩ := bind_some hm
  obtain ⟨f350, hf351, hit349⟩ := iter_name hit349
  refine block_loop (fun a w => ∃ (xs347 : List (List Int)), Slots a 50 [(6, v83)] ∧ Heap w0 [oA (rList (rList (rInt .i64))) v83 xs347] w ∧ res348 = .inl (xs347)) ?_ ?_
  ·rintro a w ⟨xs347, S, H, rfl⟩
   have hm := ctl_inl hk352
   refine thenN ?_
   refine wp_seq (region_plain ?_)
   refine lq v83 S (q_move rfl) fun a S => ?_
   refine lq v83 S (q_assign rfl) fun a S => ?_
   refine lx_nil (thenN ?_)
   refine wp_ret ?_
   obtain rfl := Option.some.inj hm
   exact leave1 S rfl rfl ⟨v83, rfl, H⟩
  ·skip
   refine loop_ghost (fun n a w => ∃ (xs218 : List (List Int)) (x219 : Bool), Slots a 50 [(0, p0), (1, (.int .i64 a1)), (5, v35), (6, v83), (8, (.bool x219))] ∧ Heap w0 [oA (rList (rInt .i64)) v35 x33, oA (rList (rList (rInt .i64))) v83 xs218] w ∧ iter f350 n (xs218, x219) = some res348) _ ⟨xs84, true, S.sub ⟨rfl, rfl, rfl, rfl, rfl, trivial⟩, H, hit349⟩ ?_
   rintro n a w ⟨xs218, x219, S, H, hit349⟩
   obtain ⟨m353, o354, rfl, hm, hc355⟩ := iter_step hit349
   rw [hf351] at hm
   refine wp_seq (wp_seq (region_plain ?_))
   refine lq (.bool x219) S (q_move rfl) fun a S => ?_
   refine lx_nil (thenN ?_)
   refine cond_b S rfl (fun hc356 => ?_) (fun hc356 => ?_)
   ·have hm := ite_t hc356 hm
    refine wp_skip (thenN ?_)
    refine wp_block ?_
    refine wp_seq (region_plain ?_)
    refine lq (.bool false) S (q_assign rfl) fun a S => ?_
    refine lx_nil (thenN ?_)
    refine wp_seq (region_plain ?_)
    refine lq (.int .i64 (0 : Int)) S (q_assign rfl) fun a S => ?_
    refine lx_nil (thenN ?_)
    obtain ⟨res438, hit439, hk442⟩ := bind_some hm
    obtain ⟨f440, hf441, hit439⟩ := iter_name hit439
    refine block_loop (fun a w => ∃ (xs436 : List (List Int)) (x437 : Bool), Slots a 50 [(0, p0), (1, (.int .i64 a1)), (5, v35), (6, v83), (8, (.bool x437))] ∧ Heap w0 [oA (rList (rInt .i64)) v35 x33, oA (rList (rList (rInt .i64))) v83 xs436] w ∧ res438 = .inl (xs436, x437)) ?_ ?_
    ·rintro a w ⟨xs436, x437, S, H, rfl⟩
     have hm := ctl_inl hk442
     refine inBlock_norm ?_
     exact ⟨m353, Nat.lt_succ_self _, xs436, x437, S.sub ⟨rfl, rfl, rfl, rfl, rfl, trivial⟩, H, it_cont hm hc355⟩
    ·skip
     refine loop_ghost (fun n a w => ∃ (xs395 : List (List Int)) (x396 : Bool) (x397 : Int), Slots a 50 [(0, p0), (1, (.int .i64 a1)), (5, v35), (6, v83), (8, (.bool x396)), (9, (.int .i64 x397))] ∧ Heap w0 [oA (rList (rInt .i64)) v35 x33, oA (rList (rList (rInt .i64))) v83 xs395] w ∧ iter f440 n (xs395, x396, x397) = some res438) _ ⟨xs218, false, (0 : Int), S.sub ⟨rfl, rfl, rfl, rfl, rfl, rfl, trivial⟩, H, hit439⟩ ?_
     rintro n a w ⟨xs395, x396, x397, S, H, hit439⟩
     obtain ⟨m443, o444, rfl, hm, hc445⟩ := iter_step hit439
     rw [hf441] at hm
     refine wp_seq (wp_seq (region_plain ?_))
     refine lq (.int .i64 x397) S (q_move rfl) fun a S => ?_
     refine lq p0 S (q_move rfl) fun a S => ?_
     refine lq (.int .i64 (a0.length : Int)) S (q_lenSl rfl (h0).isSl rfl Try.underlying27) fun a S => ?_
     refine lq (.bool (decide (x397 < (a0.length : Int)))) S (q_lss rfl rfl) fun a S => ?_
     refine lx_nil (thenN ?_)
     refine cond_b S rfl (fun hc446 => ?_) (fun hc446 => ?_)
     ·have hm := ite_t hc446 hm
      refine wp_skip (thenN ?_)
      obtain ⟨K449, hK450, hm⟩ := join_elim hm
      refine seq_cut (fun a w => ∃ (xs447 : List (List Int)) (x448 : Bool), Slots a 50 [(0, p0), (1, (.int .i64 a1)), (5, v35), (6, v83), (8, (.bool x448)), (9, (.int .i64 x397))] ∧ Heap w0 [oA (rList (rInt .i64)) v35 x33, oA (rList (rList (rInt .i64))) v83 xs447] w ∧ K449 xs447 x448 = some o444) ?_ ?_
      ·rintro a w ⟨xs447, x448, S, H, hm⟩
       subst hK450
       refine region_plain ?_
       refine lq (.int .i64 x397) S (q_move rfl) fun a S => ?_
       refine lq (.int .i64 (W (x397 + (1 : Int)))) S (q_add rfl rfl) fun a S => ?_
       refine lq (.int .i64 (W (x397 + (1 : Int)))) S (q_assign rfl) fun a S => ?_
       refine lx_nil ?_
       exact ⟨m443, Nat.lt_succ_self _, xs447, x448, (W (x397 + (1 : Int))), S.sub ⟨rfl, rfl, rfl, rfl, rfl, rfl, trivial⟩, H, it_cont hm hc445⟩
      ·skip
       refine wp_block ?_
       refine wp_seq (region_plain ?_)
       refine lq p0 S (q_move rfl) fun a S => ?_
       refine lq (.int .i64 a1) S (q_move rfl) fun a S => ?_
       refine lq v83 S (q_move rfl) fun a S => ?_
       refine lq v35 S (q_move rfl) fun a S => ?_
       refine lq (.int .i64 x397) S (q_move rfl) fun a S => ?_
       obtain ⟨x453, e454, hm⟩ := bind_some hm
       refine lx_call (xs := [.tmp 32, .tmp 33, .tmp 34, .tmp 35, .tmp 36]) S trivial (by decide) rfl rfl Try.call71 ((spec_l23Row_ok (H.arg h0)  (H.rdAt 1 rfl) (H.rdAt 0 rfl)  e454).mono ?_)
       rintro e w451 ⟨v455, rfl, Hc452⟩
       have H := H.call1 Hc452
       refine ⟨_, rfl, trivial, fun a S => ?_⟩
       refine lq v455 S (q_assign rfl) fun a S => ?_
       refine lx_nil (thenN ?_)
       refine wp_seq (region_plain ?_)
       refine lq v455 S (q_move rfl) fun a S => ?_
       refine lq v83 S (q_move rfl) fun a S => ?_
       refine lq (.int .i64 x397) S (q_move rfl) fun a S => ?_
       obtain ⟨x458, e459, hm⟩ := bind_some hm
       have hlt := lt_of_idx (idx_some e459).2
       refine lq (ePtr v83 (x397.toNat * 1)) S (q_indexAddr rfl (H.isSl 2 rfl) rfl (idx_some e459).1 hlt Try.underlying23 Try.sizeOf38) fun a S => ?_
       obtain ⟨c460, h461, hat462⟩ := (H.rdAt 2 rfl).elem (idx_some e459).2
       obtain ⟨v463, rfl, h464⟩ := rd_list h461
       refine lx_e v463 S trivial (by decide) rfl trivial (q_load1 rfl Try.isAgg38 (by rintro _ rfl; exact (hat462 0 _ rfl))) (fun a S => ?_)
       obtain ⟨x467, e468, hm⟩ := bind_some hm
       refine lx_call (xs := [.tmp 38, .tmp 42]) S trivial (by decide) rfl rfl Try.call72 ((spec_l23Greater_ok (H.rdAt 0 rfl) (h464.ext (Ext.refl _)) e468).mono ?_)
       rintro e w465 ⟨rfl, Hc466⟩
       have H := H.call0 Hc466
       refine ⟨_, rfl, trivial, fun a S => ?_⟩
       refine lx_nil (thenN ?_)
       refine cond_b S rfl (fun hc470 => ?_) (fun hc470 => ?_)
       ·have hm := ite_t hc470 hm
        refine wp_seq (region_plain ?_)
        refine lq v83 S (q_move rfl) fun a S => ?_
        refine lq (.int .i64 x397) S (q_move rfl) fun a S => ?_
        refine lq v455 S (q_move rfl) fun a S => ?_
        obtain ⟨x473, e474, hm⟩ := bind_some hm
        refine lx_call (xs := [.tmp 46]) S trivial (by decide) rfl rfl Try.call73 ((spec_l00Own_ok (H.rdAt 0 rfl) e474).mono ?_)
        rintro e w471 ⟨v475, rfl, Hc472⟩
        have H := H.call1 Hc472
        refine ⟨_, rfl, trivial, fun a S => ?_⟩
        obtain ⟨x478, e479, hm⟩ := bind_some hm
        have hlt := lt_of_idx (idx_some e479).2
        refine lq (ePtr v83 (x397.toNat * 1)) S (q_indexAddr rfl (H.isSl 3 rfl) rfl (idx_some e479).1 hlt Try.underlying23 Try.sizeOf38) fun a S => ?_
        have hcl : Value.cells v475 = List.toArray [v475] := (cells_sl (H.isSl 0 rfl))
        have hon : ∀ c ∈ ([v475] : List Value), c.oneCell' = true := (List.forall_mem_cons.2 ⟨one_sl (H.isSl 0 rfl), (List.forall_mem_nil _)⟩)
        have H : Heap w0 [oA (rList (rList (rInt .i64))) v83 xs395, oA (rList (rInt .i64)) v475 x473, oA (rList (rInt .i64)) v455 x453, oA (rList (rInt .i64)) v35 x33] w471 := H.front 3 rfl
        refine lx_storeElem (r := (rList (rInt .i64))) (us := [v475]) (off := 0) (e' := x473) S trivial rfl H (ev_zero rfl) rfl (idx_some e479).2 hcl Try.sizeOf38 (Nat.le_of_ble_eq_true rfl) hon (Upd.full rfl (fun w G hG => oA_list.1 hG)) (fun w480 H => ⟨trivial, fun a S => ?_⟩)
        refine lx_nil (thenN ?_)
        refine region_plain ?_
        refine lq (.bool true) S (q_assign rfl) fun a S => ?_
        refine lx_nil ?_
        refine inBlock_norm ?_
        have H : Heap w0 [oA (rList (rInt .i64)) v35 x33, oA (rList (rList (rInt .i64))) v83 (xs395.set x397.toNat x473), oA (rList (rInt .i64)) v455 x453] w480 := H.front 2 rfl
        have H : Heap w0 [oA (rList (rInt .i64)) v35 x33, oA (rList (rList (rInt .i64))) v83 (xs395.set x397.toNat x473)] w480 := H.sel [0, 1] (by decide)
        exact ⟨(xs395.set x397.toNat x473), true, S.sub ⟨rfl, rfl, rfl, rfl, rfl, rfl, trivial⟩, H, hm⟩
       ·have hm := ite_f hc470 hm
        refine wp_skip ?_
        refine inBlock_norm ?_
        have H : Heap w0 [oA (rList (rInt .i64)) v35 x33, oA (rList (rList (rInt .i64))) v83 xs395] w465 := H.sel [1, 2] (by decide)
        exact ⟨xs395, x396, S.sub ⟨rfl, rfl, rfl, rfl, rfl, rfl, trivial⟩, H, hm⟩
     ·have hm := ite_f hc446 hm
      refine wp_exit ?_
      refine then_exit ?_
      refine then_exit ?_
      refine inBlock_exit ?_
      obtain rfl := it_brk hm hc445
      exact ⟨xs395, x396, S.sub ⟨rfl, rfl, rfl, rfl, rfl, trivial⟩, H, rfl⟩
   ·have hm := ite_f hc356 hm
    refine wp_exit ?_
    refine then_exit ?_
    refine then_exit ?_
    refine inBlock_exit ?_
    obtain rfl := it_brk hm hc355
    have H : Heap w0 [oA (rList (rList (rInt .i64))) v83 xs218] w := H.sel [1] (by decide)
    exact ⟨xs218, S.sub ⟨rfl, trivial⟩, H, rfl⟩
 ·skip
  have H : Heap w0 [oA (rList (rInt .i64)) v35 x33, oA (rList (rList (rInt .i64))) v38 ([] : List (List Int))] w39 := H.front 1 rfl
  refine loop_ghost (fun n a w => ∃ (xs61 : List (List Int)) (x63 : Int) (v60 : Value), Slots a 50 [(0, p0), (1, (.int .i64 a1)), (5, v35), (6, v60), (7, (.int .i64 x63))] ∧ Heap w0 [oA (rList (rInt .i64)) v35 x33, oA (rList (rList (rInt .i64))) v60 xs61] w ∧ iter f88 n (xs61, x63) = some res86) _ ⟨([] : List (List Int)), (0 : Int), v38, S.sub ⟨rfl, rfl, rfl, rfl, rfl, trivial⟩, H, hit87⟩ ?_
  rintro n a w ⟨xs61, x63, v60, S, H, hit87⟩
  obtain ⟨m481, o482, rfl, hm, hc483⟩ := iter_step hit87
  rw [hf89] at hm
  refine wp_seq (wp_seq (region_plain ?_))
  refine lq (.int .i64 x63) S (q_move rfl) fun a S => ?_
  refine lq p0 S (q_move rfl) fun a S => ?_
  refine lq (.int .i64 (a0.length : Int)) S (q_lenSl rfl (h0).isSl rfl Try.underlying27) fun a S => ?_
  refine lq (.bool (decide (x63 < (a0.length : Int)))) S (q_lss rfl rfl) fun a S => ?_
  refine lx_nil (thenN ?_)
  refine cond_b S rfl (fun hc484 => ?_) (fun hc484 => ?_)
  ·have hm := ite_t hc484 hm
   refine wp_skip (thenN ?_)
   refine wp_seq ?_
   refine wp_block ?_
   refine region_plain ?_
   refine lq v60 S (q_move rfl) fun a S => ?_
   obtain ⟨x485, e486, hm⟩ := bind_some hm
   obtain ⟨m487, hn, hn2, rfl⟩ := mks_some e486
   refine lx_make (r := (rInt .i64)) (z0 := (0 : Int)) (n := m487) S trivial (by decide) rfl H (by rw [← hn]; rfl) (by rw [← hn]; rfl) Try.underlying38 (Try.ti2) rfl rfl (Nat.le_of_ble_eq_true rfl) (fun w => ⟨rfl, rfl⟩) hn2 (by decide) (fun v488 w489 H => ⟨trivial, fun a S => ?_⟩)
   refine lx_buildSlice (r := (rList (rInt .i64))) (xs := [(List.replicate m487 (0 : Int))]) (ps := [(0, [v488])]) (cs := [v488]) (parts := [(0, .tmp 22)]) S trivial (by decide) rfl H rfl Try.underlying23 Try.sizeOf38 Try.zeroValue38 (by decide) ⟨rfl, (cells_sl (H.isSl 0 rfl)), Nat.le_of_ble_eq_true rfl, trivial⟩ (by intro zs hz; exact fill_dense hz ⟨rfl, trivial⟩ rfl rfl) rfl (by decide) (fun w F hA => ownL_one_mk (ownF (oA_list.1 hA))) (fun v491 w492 H => ⟨trivial, fun a S => ?_⟩)
   obtain ⟨x494, e495, hm⟩ := bind_some hm
   obtain ⟨hle, hap⟩ := app_some e495
   replace hap := hap.symm
   subst hap
   have H : Heap w0 [oA (rList (rList (rInt .i64))) v491 [(List.replicate m487 (0 : Int))], oA (rList (rInt .i64)) v35 x33, oA (rList (rList (rInt .i64))) v60 xs61] w492 := H.front 0 rfl
   have H : Heap w0 [oA (rList (rList (rInt .i64))) v60 xs61, oA (rList (rList (rInt .i64))) v491 [(List.replicate m487 (0 : Int))], oA (rList (rInt .i64)) v35 x33] w492 := H.front 2 rfl
   refine lx_appendOwn (r := (rList (rInt .i64))) S trivial (by decide) rfl H rfl rfl Try.underlying23 Try.ti38 rfl rfl rfl (Nat.le_of_ble_eq_true rfl) (by decide) hle (fun v496 w497 H => ⟨trivial, fun a S => ?_⟩)
   refine lq v496 S (q_assign rfl) fun a S => ?_
   refine lx_nil ?_
   refine inBlock_norm ?_
   refine thenN ?_
   refine region_plain ?_
   refine lq (.int .i64 x63) S (q_move rfl) fun a S => ?_
   refine lq (.int .i64 (W (x63 + (1 : Int)))) S (q_add rfl rfl) fun a S => ?_
   refine lq (.int .i64 (W (x63 + (1 : Int)))) S (q_assign rfl) fun a S => ?_
   refine lx_nil ?_
   have H : Heap w0 [oA (rList (rInt .i64)) v35 x33, oA (rList (rList (rInt .i64))) v496 (xs61 ++ [(List.replicate m487 (0 : Int))])] w497 := H.front 1 rfl
   exact ⟨m481, Nat.lt_succ_self _, (xs61 ++ [(List.replicate m487 (0 : Int))]), (W (x63 + (1 : Int))), v496, S.sub ⟨rfl, rfl, rfl, rfl, rfl, trivial⟩, H, it_cont hm hc483⟩
  ·have hm := ite_f hc484 hm
   refine wp_exit ?_
   refine then_exit ?_
   refine then_exit ?_
   refine inBlock_exit ?_
   obtain rfl := it_brk hm hc483
   exact ⟨xs61, v60, S.sub ⟨rfl, rfl, rfl, rfl, trivial⟩, H, rfl⟩

/-- spec.MeasuresOf -/
def spec_MeasuresOf_m (fuel : Nat) (a0 : (List Timpl_Vertex)) (a1 : Int) : Option (((List (List Int)) × Int)) :=
  (spec_l23Is_m fuel a0).bind fun x33 => (if (!x33) = true then some (([], (1 : Int))) else (spec_l00In_m fuel a1 (0 : Int) (1 : Int)).bind fun x40 => (if (!x40) = true then some (([], (2 : Int))) else (if (decide ((16 : Int) < (a0.length : Int))) = true then some (([], (5 : Int))) else (spec_l23Measures_m fuel a0 a1).bind fun x49 => some ((x49, (0 : Int))))))
set_option maxRecDepth 20000 in
theorem spec_MeasuresOf_ok [dr : Dr] {w0 : World} {fuel : Nat} {p0 : Value} {a0 : (List Timpl_Vertex)} {a1 : Int} {r : ((List (List Int)) × Int)} (h0 : Rd (rList Rimpl_Vertex) w0 p0 a0) (hm : spec_MeasuresOf_m fuel a0 a1 = some r) :
  Calls Try.prog 14 #[p0, .int .i64 a1] w0 fun e w => ∃ (v0 : Value), e = .returned (.tuple #[v0, .int .i64 r.2]) ∧ Heap w0 [oA (rList (rList (rInt .i64))) v0 r.1] w := by
 unfold spec_MeasuresOf_m at hm
 have H := Heap.start w0
 refine enter (args := [p0, .int .i64 a1]) Try.func14 rfl 18 rfl (Nat.le_of_ble_eq_true rfl) (fun a S => ?_)
 refine wp_seq (region_plain ?_)
 refine lq (.slice none 0 0) S (q_assign rfl) fun a S => ?_
 refine lq (.int .i64 (0 : Int)) S (q_assign rfl) fun a S => ?_
 refine lx_nil (thenN ?_)
 refine wp_seq (wp_seq (region_plain ?_))
 refine lq p0 S (q_move rfl) fun a S => ?_
 obtain ⟨x33, e34, hm⟩ := bind_some hm
 refine lx_call (xs := [.tmp 6]) S trivial (by decide) rfl rfl Try.call29 ((spec_l23Is_ok (H.arg h0) e34).mono ?_)
 rintro e w31 ⟨rfl, Hc32⟩
 have H := H.call0 Hc32
 refine ⟨_, rfl, trivial, fun a S => ?_⟩
 refine lq (.bool (!x33)) S (q_not rfl) fun a S => ?_
 refine lx_nil (thenN ?_)
 refine cond_b S rfl (fun hc36 => ?_) (fun hc36 => ?_)
 ·have hm := ite_t hc36 hm
  refine wp_seq (region_plain ?_)
  refine lq (.slice none 0 0) S (q_assign rfl) fun a S => ?_
  refine lq (.int .i64 (1 : Int)) S (q_assign rfl) fun a S => ?_
  refine lx_nil (thenN ?_)
  refine wp_ret (then_ret ?_)
  obtain rfl := Option.some.inj hm
  have H : Heap w0 [oA (rList (rList (rInt .i64))) (.slice none 0 0) ([] : List (List Int))] w31 := H.nilList (rList (rInt .i64))
  exact leave2 S rfl rfl rfl ⟨(.slice none 0 0), rfl, H⟩
 ·have hm := ite_f hc36 hm
  refine wp_skip (thenN ?_)
  refine wp_seq (wp_seq (region_plain ?_))
  refine lq (.int .i64 a1) S (q_move rfl) fun a S => ?_
  obtain ⟨x40, e41, hm⟩ := bind_some hm
  refine lx_call (xs := [.tmp 9, .const (.int .i64 (0)), .const (.int .i64 (1))]) S trivial (by decide) rfl rfl Try.call30 ((spec_l00In_ok    e41).mono ?_)
  rintro e w38 ⟨rfl, Hc39⟩
  have H := H.call0 Hc39
  refine ⟨_, rfl, trivial, fun a S => ?_⟩
  refine lq (.bool (!x40)) S (q_not rfl) fun a S => ?_
  refine lx_nil (thenN ?_)
  refine cond_b S rfl (fun hc43 => ?_) (fun hc43 => ?_)
  ·have hm := ite_t hc43 hm
   refine wp_seq (region_plain ?_)
   refine lq (.slice none 0 0) S (q_assign rfl) fun a S => ?_
   refine lq (.int .i64 (2 : Int)) S (q_assign rfl) fun a S => ?_
   refine lx_nil (thenN ?_)
   refine wp_ret (then_ret ?_)
   obtain rfl := Option.some.inj hm
   have H : Heap w0 [oA (rList (rList (rInt .i64))) (.slice none 0 0) ([] : List (List Int))] w38 := H.nilList (rList (rInt .i64))
   exact leave2 S rfl rfl rfl ⟨(.slice none 0 0), rfl, H⟩
  ·have hm := ite_f hc43 hm
   refine wp_skip (thenN ?_)
   refine wp_seq (wp_seq (region_plain ?_))
   refine lq p0 S (q_move rfl) fun a S => ?_
   refine lq (.int .i64 (a0.length : Int)) S (q_lenSl rfl (h0).isSl rfl Try.underlying27) fun a S => ?_
   refine lq (.bool (decide ((16 : Int) < (a0.length : Int)))) S (q_gtr rfl rfl) fun a S => ?_
   refine lx_nil (thenN ?_)
   refine cond_b S rfl (fun hc45 => ?_) (fun hc45 => ?_)
   ·have hm := ite_t hc45 hm
    refine wp_seq (region_plain ?_)
    refine lq (.slice none 0 0) S (q_assign rfl) fun a S => ?_
    refine lq (.int .i64 (5 : Int)) S (q_assign rfl) fun a S => ?_
    refine lx_nil (thenN ?_)
    refine wp_ret (then_ret ?_)
    obtain rfl := Option.some.inj hm
    have H : Heap w0 [oA (rList (rList (rInt .i64))) (.slice none 0 0) ([] : List (List Int))] w38 := H.nilList (rList (rInt .i64))
    exact leave2 S rfl rfl rfl ⟨(.slice none 0 0), rfl, H⟩
   ·have hm := ite_f hc45 hm
    refine wp_skip (thenN ?_)
    refine wp_seq (region_plain ?_)
    refine lq p0 S (q_move rfl) fun a S => ?_
    refine lq (.int .i64 a1) S (q_move rfl) fun a S => ?_
    obtain ⟨x49, e50, hm⟩ := bind_some hm
    refine lx_call (xs := [.tmp 15, .tmp 16]) S trivial (by decide) rfl rfl Try.call46 ((spec_l23Measures_ok (H.arg h0)  e50).mono ?_)
    rintro e w47 ⟨v51, rfl, Hc48⟩
    have H := H.call1 Hc48
    refine ⟨_, rfl, trivial, fun a S => ?_⟩
    refine lq v51 S (q_assign rfl) fun a S => ?_
    refine lq (.int .i64 (0 : Int)) S (q_assign rfl) fun a S => ?_
    refine lx_nil (thenN ?_)
    refine wp_ret ?_
    obtain rfl := Option.some.inj hm
    exact leave2 S rfl rfl rfl ⟨v51, rfl, H⟩

/-- (*impl.measured).needed -/
def Pimpl_measured_needed_m (fuel : Nat) (a0 : Timpl_measured) (a1 : Int) (a2 : (List Int)) : Option ((List Int)) :=
  (if ((a2.length : Int) == (0 : Int)) = true then some ([]) else (Pimpl_measured_upTo_m fuel a0 a1).bind fun x64 => (sub a2 (0 : Int) x64).bind fun xs67 => (slices_Clone__int64_int64_m fuel xs67).bind fun x71 => (mks (W ((5 : Int) - x64)) (0 : Int)).bind fun x76 => (app x71 x76).bind fun x80 => (if ((a1.tmod (2 : Int)) == a0.2.1) = true then some (x80) else (iter (fun (s : (List Int) × (Int)) => (match s with | (xs107, x108) => (if (decide ((0 : Int) ≤ x108)) = true then (idx xs107 x108).bind fun x142 => (idx [a0.2.2.1, a0.2.2.2.1, a0.2.2.2.2.1, a0.2.2.2.2.2.1, a0.2.2.2.2.2.2] x108).bind fun x144 => (if (decide (x142 < x144)) = true then (idx xs107 x108).bind fun x147 => (idx xs107 x108).bind fun _ => some (.inr (.inr (xs107.set x108.toNat (W (x147 + (1 : Int)))))) else (idx xs107 x108).bind fun _ => some (.inl ((xs107.set x108.toNat (0 : Int)), (W (x108 - (1 : Int)))))) else some (.inr (.inl ()))) : Option (((List Int) × (Int)) ⊕ ((Unit) ⊕ ((List Int)))))) fuel (x80, (W (x64 - (1 : Int))))).bind fun res130 => ctl (β := Unit) (ρ := (List Int)) (τ := (List Int)) res130 (fun _ => some ([])) (fun q => some (q))))
set_option maxRecDepth 20000 in
theorem Pimpl_measured_needed_ok [dr : Dr] {w0 : World} {fuel : Nat} {p0 p2 : Value} {a0 : Timpl_measured} {a1 : Int} {a2 : (List Int)} {r : (List Int)} (h0 : Rd (rPtr Rimpl_measured) w0 p0 a0) (h2 : Rd (rList (rInt .i64)) w0 p2 a2) (hm : Pimpl_measured_needed_m fuel a0 a1 a2 = some r) :
  Calls Try.prog 74 #[p0, .int .i64 a1, p2] w0 fun e w => ∃ (v0 : Value), e = .returned (v0) ∧ Heap w0 [oA (rList (rInt .i64)) v0 r] w := by
 unfold Pimpl_measured_needed_m at hm
 have H := Heap.start w0
 obtain ⟨c31, h32, hat33⟩ := h0.ptr
 obtain ⟨c36, c37, rfl, h38, h39⟩ := h32
 obtain ⟨v34, rfl, h35⟩ := rd_list h38
 obtain ⟨c40, c41, rfl, h42, h43⟩ := h39
 obtain rfl := h42
 obtain ⟨c44, c45, rfl, h46, h47⟩ := h43
 obtain rfl := h46
 obtain ⟨c48, c49, rfl, h50, h51⟩ := h47
 obtain rfl := h50
 obtain ⟨c52, c53, rfl, h54, h55⟩ := h51
 obtain rfl := h54
 obtain ⟨c56, c57, rfl, h58, h59⟩ := h55
 obtain rfl := h58
 obtain rfl := h59
 refine enter (args := [p0, .int .i64 a1, p2]) Try.func74 rfl 58 rfl (Nat.le_of_ble_eq_true rfl) (fun a S => ?_)
 refine wp_seq (region_plain ?_)
 refine lq (.slice none 0 0) S (q_assign rfl) fun a S => ?_
 refine lx_nil (thenN ?_)
 refine wp_seq (wp_seq (region_plain ?_))
 refine lq p2 S (q_move rfl) fun a S => ?_
 refine lq (.int .i64 (a2.length : Int)) S (q_lenSl rfl (h2).isSl rfl Try.underlying38) fun a S => ?_
 refine lq (.bool ((a2.length : Int) == (0 : Int))) S (q_eql rfl rfl) fun a S => ?_
 refine lx_nil (thenN ?_)
 refine cond_b S rfl (fun hc60 => ?_) (fun hc60 => ?_)
 ·have hm := ite_t hc60 hm
  refine wp_seq (region_plain ?_)
  refine lq (.slice none 0 0) S (q_assign rfl) fun a S => ?_
  refine lx_nil (thenN ?_)
  refine wp_ret (then_ret ?_)
  obtain rfl := Option.some.inj hm
  have H : Heap w0 [oA (rList (rInt .i64)) (.slice none 0 0) ([] : List Int)] w0 := H.nilList (rInt .i64)
  exact leave1 S rfl rfl ⟨(.slice none 0 0), rfl, H⟩
 ·have hm := ite_f hc60 hm
  refine wp_skip (thenN ?_)
  refine wp_seq (region_plain ?_)
  refine lq p0 S (q_move rfl) fun a S => ?_
  refine lq (.int .i64 a1) S (q_move rfl) fun a S => ?_
  obtain ⟨x64, e65, hm⟩ := bind_some hm
  refine lx_call (xs := [.tmp 13, .tmp 14]) S trivial (by decide) rfl rfl Try.call68 ((Pimpl_measured_upTo_ok (H.arg h0)  e65).mono ?_)
  rintro e w62 ⟨rfl, Hc63⟩
  have H := H.call0 Hc63
  refine ⟨_, rfl, trivial, fun a S => ?_⟩
  refine lq (.int .i64 x64) S (q_assign rfl) fun a S => ?_
  refine lx_nil (thenN ?_)
  refine wp_seq (region_plain ?_)
  refine lq p2 S (q_move rfl) fun a S => ?_
  refine lq (.int .i64 x64) S (q_move rfl) fun a S => ?_
  obtain ⟨xs67, e68, hm⟩ := bind_some hm
  have hsb := (sub_some e68).1
  refine lq (subV p2 ((0 : Int)).toNat (x64).toNat 1) S (q_slice (lo := none) (hi := (some (.tmp 17))) (l := (0 : Int)) (h := x64) (size := 1) rfl (h2).isSl Try.underlying38 Try.sizeOf2 rfl rfl hsb.1 hsb.2.1 hsb.2.2) fun a S => ?_
  obtain ⟨x71, e72, hm⟩ := bind_some hm
  refine lx_call (xs := [.tmp 18]) S trivial (by decide) rfl rfl Try.call88 ((slices_Clone__int64_int64_ok (H.arg (h2.sub e68)) e72).mono ?_)
  rintro e w69 ⟨v73, rfl, Hc70⟩
  have H := H.call1 Hc70
  refine ⟨_, rfl, trivial, fun a S => ?_⟩
  refine lq (.int .i64 x64) S (q_move rfl) fun a S => ?_
  refine lq (.int .i64 (W ((5 : Int) - x64))) S (q_sub rfl rfl) fun a S => ?_
  obtain ⟨x76, e77, hm⟩ := bind_some hm
  obtain ⟨m78, hn79, _, hz⟩ := mks_some e77
  replace hz := hz.symm
  subst hz
  obtain ⟨x80, e81, hm⟩ := bind_some hm
  obtain ⟨hle, hap⟩ := app_some e81
  replace hap := hap.symm
  subst hap
  rw [List.length_replicate] at hle
  refine lx_appendZeros (r := (rInt .i64)) (z0 := (0 : Int)) (m := m78) S trivial (by decide) rfl H rfl (by rw [← hn79]; rfl) Try.underlying38 Try.underlying3 Try.ti2 rfl rfl rfl (Nat.le_of_ble_eq_true rfl) (by decide) (fun w => ⟨rfl, rfl⟩) hle (fun v82 w83 H => ⟨trivial, fun a S => ?_⟩)
  refine lq v82 S (q_assign rfl) fun a S => ?_
  refine lx_nil (thenN ?_)
  refine wp_seq (wp_seq (region_plain ?_))
  refine lq (.int .i64 a1) S (q_move rfl) fun a S => ?_
  refine lq (.int .i64 (a1.tmod (2 : Int))) S (q_rem rfl rfl (show (2 : Int) ≠ 0 from by decide)) fun a S => ?_
  refine lq p0 S (q_move rfl) fun a S => ?_
  refine lq p0 S (q_nilCheck rfl ((hat33 0 _ rfl).isP)) fun a S => ?_
  refine lq (pAdd p0 1) S (q_fieldAddr' 1 2 rfl ((hat33 0 _ rfl).isP) Try.underlying87 rfl Try.sizeOf2) fun a S => ?_
  refine lx_e (.int .i64 a0.2.1) S trivial (by decide) rfl trivial (q_load1 rfl Try.isAgg2 (by rintro _ rfl; exact (At.of_add (m := 1) (j := 0) ((hat33 1 _ rfl).ext H.ext)))) (fun a S => ?_)
  refine lq (.bool ((a1.tmod (2 : Int)) == a0.2.1)) S (q_eql rfl rfl) fun a S => ?_
  refine lx_nil (thenN ?_)
  refine cond_b S rfl (fun hc85 => ?_) (fun hc85 => ?_)
  ·have hm := ite_t hc85 hm
   refine wp_seq (region_plain ?_)
   refine lq v82 S (q_move rfl) fun a S => ?_
   refine lq v82 S (q_assign rfl) fun a S => ?_
   refine lx_nil (thenN ?_)
   refine wp_ret (then_ret ?_)
   obtain rfl := Option.some.inj hm
   exact leave1 S rfl rfl ⟨v82, rfl, H⟩
  ·have hm := ite_f hc85 hm
   refine wp_skip (thenN ?_)
   refine wp_seq (wp_seq (region_plain ?_))
   refine lq (.int .i64 x64) S (q_move rfl) fun a S => ?_
   refine lq (.int .i64 (W (x64 - (1 : Int)))) S (q_sub rfl rfl) fun a S => ?_
   refine lq (.int .i64 (W (x64 - (1 : Int)))) S (q_assign rfl) fun a S => ?_
   refine lx_nil (thenN ?_)
   obtain ⟨res130, hit131, hk134⟩ := bind_some hm
   obtain ⟨f132, hf133, hit131⟩ := iter_name hit131
   refine block_loop (fun a w => Slots a 58 [] ∧ Heap w0 [] w ∧ res130 = .inl ()) ?_ ?_
   ·rintro a w ⟨S, H, rfl⟩
    have hm := ctl_inl hk134
    refine thenN ?_
    refine wp_seq (region_plain ?_)
    refine lq (.slice none 0 0) S (q_assign rfl) fun a S => ?_
    refine lx_nil (thenN ?_)
    refine wp_ret ?_
    obtain rfl := Option.some.inj hm
    have H : Heap w0 [oA (rList (rInt .i64)) (.slice none 0 0) ([] : List Int)] w := H.nilList (rInt .i64)
    exact leave1 S rfl rfl ⟨(.slice none 0 0), rfl, H⟩
   ·skip
    refine loop_ghost (fun n a w => ∃ (xs107 : List Int) (x108 : Int), Slots a 58 [(0, p0), (8, v82), (9, (.int .i64 x108))] ∧ Heap w0 [oA (rList (rInt .i64)) v82 xs107] w ∧ iter f132 n (xs107, x108) = some res130) _ ⟨(x71 ++ (List.replicate m78 (0 : Int))), (W (x64 - (1 : Int))), S.sub ⟨rfl, rfl, rfl, trivial⟩, H, hit131⟩ ?_
    rintro n a w ⟨xs107, x108, S, H, hit131⟩
    obtain ⟨m136, o137, rfl, hm, hc138⟩ := iter_step hit131
    rw [hf133] at hm
    refine wp_seq (wp_seq (region_plain ?_))
    refine lq (.int .i64 x108) S (q_move rfl) fun a S => ?_
    refine lq (.bool (decide ((0 : Int) ≤ x108))) S (q_geq rfl rfl) fun a S => ?_
    refine lx_nil (thenN ?_)
    refine cond_b S rfl (fun hc139 => ?_) (fun hc139 => ?_)
    ·have hm := ite_t hc139 hm
     refine wp_skip (thenN ?_)
     refine wp_seq ?_
     refine wp_block ?_
     refine wp_seq ?_
     refine wp_seq ?_
     refine region_drawG (fun w1 => Heap w0 [oA (rList (rInt .i64)) v82 xs107] w1) (fun i => [].contains i) mixed (by kernel_rfl) (fun w141 he140 => ?_)
     have H := H.later he140
     refine ⟨H.sel [0] (by decide), ?_⟩
     refine lq v82 S (q_move rfl) fun a S => ?_
     refine lq (.int .i64 x108) S (q_move rfl) fun a S => ?_
     obtain ⟨x142, e143, hm⟩ := bind_some hm
     have hlt := lt_of_idx (idx_some e143).2
     refine lq (ePtr v82 (x108.toNat * 1)) S (q_indexAddr rfl (H.isSl 0 rfl) rfl (idx_some e143).1 hlt Try.underlying38 Try.sizeOf2) fun a S => ?_
     refine lq (.int .i64 x142) S (q_load1 rfl Try.isAgg2 (fun w1 hC => ((hC.rdAt 0 rfl).elemAt (j := 0) (idx_some e143).2 (by intro B w cs h; obtain rfl := h; rfl)))) fun a S => ?_
     refine lq p0 S (q_move rfl) fun a S => ?_
     refine lq (.int .i64 x108) S (q_move rfl) fun a S => ?_
     refine lq p0 S (q_nilCheck rfl ((hat33 0 _ rfl).isP)) fun a S => ?_
     refine lq (pAdd p0 2) S (q_fieldAddr' 2 85 rfl ((hat33 0 _ rfl).isP) Try.underlying87 rfl Try.sizeOf85) fun a S => ?_
     obtain ⟨x144, e145, hm⟩ := bind_some hm
     refine lq (pAdd (pAdd p0 2) (x108.toNat * 1)) S (q_indexArr rfl (((hat33 0 _ rfl).isP).add 2) rfl (idx_some e145).1 (lt_of_idx (idx_some e145).2) Try.underlying85 Try.sizeOf2) fun a S => ?_
     refine lq (.int .i64 x144) S (q_load1 rfl Try.isAgg2 (fun w1 hC => (at_idx (At.of_add (m := 2) (j := x108.toNat) ((hat33 (2 + x108.toNat) _ (arr_at (ms := [a0.2.2.1, a0.2.2.2.1, a0.2.2.2.2.1, a0.2.2.2.2.2.1, a0.2.2.2.2.2.2]) rfl (idx_some e145).2)).ext hC.ext))))) fun a S => ?_
     refine lq (.bool (decide (x142 < x144))) S (q_lss rfl rfl) fun a S => ?_
     refine lx_nil (thenN ?_)
     refine cond_b S rfl (fun hc146 => ?_) (fun hc146 => ?_)
     ·have hm := ite_t hc146 hm
      refine wp_seq (region_plain ?_)
      refine lq v82 S (q_move rfl) fun a S => ?_
      refine lq (.int .i64 x108) S (q_move rfl) fun a S => ?_
      obtain ⟨x147, e148, hm⟩ := bind_some hm
      have hlt := lt_of_idx (idx_some e148).2
      refine lq (ePtr v82 (x108.toNat * 1)) S (q_indexAddr rfl (H.isSl 0 rfl) rfl (idx_some e148).1 hlt Try.underlying38 Try.sizeOf2) fun a S => ?_
      obtain ⟨c149, h150, hat151⟩ := (H.rdAt 0 rfl).elem (idx_some e148).2
      obtain rfl := h150
      refine lx_e (.int .i64 x147) S trivial (by decide) rfl trivial (q_load1 rfl Try.isAgg2 (by rintro _ rfl; exact (hat151 0 _ rfl))) (fun a S => ?_)
      refine lq (.int .i64 (W (x147 + (1 : Int)))) S (q_add rfl rfl) fun a S => ?_
      obtain ⟨x152, e153, hm⟩ := bind_some hm
      have hlt := lt_of_idx (idx_some e153).2
      refine lq (ePtr v82 (x108.toNat * 1)) S (q_indexAddr rfl (H.isSl 0 rfl) rfl (idx_some e153).1 hlt Try.underlying38 Try.sizeOf2) fun a S => ?_
      refine lx_storeElem (r := (rInt .i64)) (us := [(.int .i64 (W (x147 + (1 : Int))))]) (off := 0) (e' := (W (x147 + (1 : Int)))) S trivial rfl H.putE (ev_zero rfl) rfl (idx_some e153).2 rfl Try.sizeOf2 (Nat.le_of_ble_eq_true rfl) (List.forall_mem_cons.2 ⟨rfl, (List.forall_mem_nil _)⟩) (Upd.full rfl (fun w G hG => by cases (show G = [] from hG); exact ⟨rfl, rfl⟩)) (fun w154 H => ⟨trivial, fun a S => ?_⟩)
      refine lx_nil (thenN ?_)
      refine wp_seq (region_plain ?_)
      refine lq v82 S (q_move rfl) fun a S => ?_
      refine lq v82 S (q_assign rfl) fun a S => ?_
      refine lx_nil (thenN ?_)
      refine wp_ret (then_ret ?_)
      refine inBlock_ret ?_
      refine then_ret ?_
      refine then_ret ?_
      refine inBlock_ret ?_
      refine then_ret ?_
      refine then_ret ?_
      obtain rfl := it_brk hm hc138
      have hm := ctl_inr hk134
      obtain rfl := Option.some.inj hm
      exact leave1 S rfl rfl ⟨v82, rfl, H⟩
     ·have hm := ite_f hc146 hm
      refine wp_skip (thenN ?_)
      refine region_plain ?_
      refine lq v82 S (q_move rfl) fun a S => ?_
      refine lq (.int .i64 x108) S (q_move rfl) fun a S => ?_
      obtain ⟨x155, e156, hm⟩ := bind_some hm
      have hlt := lt_of_idx (idx_some e156).2
      refine lq (ePtr v82 (x108.toNat * 1)) S (q_indexAddr rfl (H.isSl 0 rfl) rfl (idx_some e156).1 hlt Try.underlying38 Try.sizeOf2) fun a S => ?_
      refine lx_storeElem (r := (rInt .i64)) (us := [(.int .i64 (0 : Int))]) (off := 0) (e' := (0 : Int)) S trivial rfl H.putE (ev_zero rfl) rfl (idx_some e156).2 rfl Try.sizeOf2 (Nat.le_of_ble_eq_true rfl) (List.forall_mem_cons.2 ⟨rfl, (List.forall_mem_nil _)⟩) (Upd.full rfl (fun w G hG => by cases (show G = [] from hG); exact ⟨rfl, rfl⟩)) (fun w157 H => ⟨trivial, fun a S => ?_⟩)
      refine lx_nil ?_
      refine inBlock_norm ?_
      refine thenN ?_
      refine region_plain ?_
      refine lq (.int .i64 x108) S (q_move rfl) fun a S => ?_
      refine lq (.int .i64 (W (x108 - (1 : Int)))) S (q_sub rfl rfl) fun a S => ?_
      refine lq (.int .i64 (W (x108 - (1 : Int)))) S (q_assign rfl) fun a S => ?_
      refine lx_nil ?_
      exact ⟨m136, Nat.lt_succ_self _, (xs107.set x108.toNat (0 : Int)), (W (x108 - (1 : Int))), S.sub ⟨rfl, rfl, rfl, trivial⟩, H, it_cont hm hc138⟩
    ·have hm := ite_f hc139 hm
     refine wp_exit ?_
     refine then_exit ?_
     refine then_exit ?_
     refine inBlock_exit ?_
     obtain rfl := it_brk hm hc138
     have H : Heap w0 [] w := H.sel [] (by decide)
     exact ⟨S.sub trivial, H, rfl⟩

/-- impl.compareRows -/
def impl_compareRows_m (fuel : Nat) (a0 : (List Int)) (a1 : (List Int)) : Option (Int) :=
  (if ((a0.length : Int) == (0 : Int)) = true then some ((a1.length : Int) == (0 : Int)) else some false).bind fun t31 => (if t31 = true then some ((0 : Int)) else (if ((a0.length : Int) == (0 : Int)) = true then some ((1 : Int)) else (if ((a1.length : Int) == (0 : Int)) = true then some ((-1 : Int)) else (slices_Compare__int64_int64_m fuel a0 a1).bind fun x39 => some (x39))))
set_option maxRecDepth 20000 in
theorem impl_compareRows_ok [dr : Dr] {w0 : World} {fuel : Nat} {p0 p1 : Value} {a0 : (List Int)} {a1 : (List Int)} {r : Int} (h0 : Rd (rList (rInt .i64)) w0 p0 a0) (h1 : Rd (rList (rInt .i64)) w0 p1 a1) (hm : impl_compareRows_m fuel a0 a1 = some r) :
  Calls Try.prog 48 #[p0, p1] w0 fun e w => e = .returned (.int .i64 r) ∧ Heap w0 [] w := by
 unfold impl_compareRows_m at hm
 have H := Heap.start w0
 refine enter (args := [p0, p1]) Try.func48 rfl 25 rfl (Nat.le_of_ble_eq_true rfl) (fun a S => ?_)
 refine wp_seq (region_plain ?_)
 refine lq (.int .i64 (0 : Int)) S (q_assign rfl) fun a S => ?_
 refine lx_nil (thenN ?_)
 refine wp_seq ?_
 refine wp_block ?_
 refine wp_seq (region_plain ?_)
 refine lq p0 S (q_move rfl) fun a S => ?_
 refine lq (.int .i64 (a0.length : Int)) S (q_lenSl rfl (h0).isSl rfl Try.underlying38) fun a S => ?_
 refine lq (.bool ((a0.length : Int) == (0 : Int))) S (q_eql rfl rfl) fun a S => ?_
 refine lq (.bool ((a0.length : Int) == (0 : Int))) S (q_move rfl) fun a S => ?_
 obtain ⟨t31, e32, hm⟩ := bind_some hm
 refine lx_cut 4 (fun a w => Slots a 25 [(0, p0), (1, p1), (13, (.bool t31))] ∧ Heap w0 [] w) ?_ ?_
 ·by_cases hc33 : ((a0.length : Int) == (0 : Int)) = true
  ·have hm := ite_t hc33 e32
   refine lx_q p1 S (want_b rfl rfl hc33) (by decide) (q_move rfl) (fun a S => ?_)
   refine lx_q (.int .i64 (a1.length : Int)) S (want_b rfl rfl hc33) (by decide) (q_lenSl rfl (h1).isSl rfl Try.underlying38) (fun a S => ?_)
   refine lx_q (.bool ((a1.length : Int) == (0 : Int))) S (want_b rfl rfl hc33) (by decide) (q_eql rfl rfl) (fun a S => ?_)
   refine lq (.bool ((a1.length : Int) == (0 : Int))) S (q_pickT' rfl hc33 rfl) fun a S => ?_
   refine lx_nil ?_
   obtain rfl := Option.some.inj hm
   exact ⟨S.sub ⟨rfl, rfl, rfl, trivial⟩, H⟩
  ·have hm := ite_f (eq_false_of_ne_true hc33) e32
   have hc33 : ((a0.length : Int) == (0 : Int)) = false := eq_false_of_ne_true hc33
   refine lx_skip S rfl rfl (isB_ne hc33) (by decide) (fun a S => ?_)
   refine lx_skip S rfl rfl (isB_ne hc33) (by decide) (fun a S => ?_)
   refine lx_skip S rfl rfl (isB_ne hc33) (by decide) (fun a S => ?_)
   refine lq (.bool false) S (q_pickF' rfl hc33 rfl) fun a S => ?_
   refine lx_nil ?_
   obtain rfl := Option.some.inj hm
   exact ⟨S.sub ⟨rfl, rfl, rfl, trivial⟩, H⟩
 ·rintro a w ⟨S, H⟩
  refine lq (.bool t31) S (q_assign rfl) fun a S => ?_
  refine lx_nil (thenN ?_)
  refine cond_b S rfl (fun hc34 => ?_) (fun hc34 => ?_)
  ·have hm := ite_t hc34 hm
   refine wp_seq (region_plain ?_)
   refine lq (.int .i64 (0 : Int)) S (q_assign rfl) fun a S => ?_
   refine lx_nil (thenN ?_)
   refine wp_ret (inBlock_ret ?_)
   refine then_ret ?_
   obtain rfl := Option.some.inj hm
   exact leave1 S rfl rfl ⟨rfl, H⟩
  ·have hm := ite_f hc34 hm
   refine wp_seq (region_plain ?_)
   refine lq p0 S (q_move rfl) fun a S => ?_
   refine lq (.int .i64 (a0.length : Int)) S (q_lenSl rfl (h0).isSl rfl Try.underlying38) fun a S => ?_
   refine lq (.bool ((a0.length : Int) == (0 : Int))) S (q_eql rfl rfl) fun a S => ?_
   refine lq (.bool ((a0.length : Int) == (0 : Int))) S (q_assign rfl) fun a S => ?_
   refine lx_nil (thenN ?_)
   refine cond_b S rfl (fun hc35 => ?_) (fun hc35 => ?_)
   ·have hm := ite_t hc35 hm
    refine wp_seq (region_plain ?_)
    refine lq (.int .i64 (1 : Int)) S (q_assign rfl) fun a S => ?_
    refine lx_nil (thenN ?_)
    refine wp_ret (inBlock_ret ?_)
    refine then_ret ?_
    obtain rfl := Option.some.inj hm
    exact leave1 S rfl rfl ⟨rfl, H⟩
   ·have hm := ite_f hc35 hm
    refine wp_seq (region_plain ?_)
    refine lq p1 S (q_move rfl) fun a S => ?_
    refine lq (.int .i64 (a1.length : Int)) S (q_lenSl rfl (h1).isSl rfl Try.underlying38) fun a S => ?_
    refine lq (.bool ((a1.length : Int) == (0 : Int))) S (q_eql rfl rfl) fun a S => ?_
    refine lq (.bool ((a1.length : Int) == (0 : Int))) S (q_assign rfl) fun a S => ?_
    refine lx_nil (thenN ?_)
    refine cond_b S rfl (fun hc36 => ?_) (fun hc36 => ?_)
    ·have hm := ite_t hc36 hm
     refine wp_seq (region_plain ?_)
     refine lq (.int .i64 (-1 : Int)) S (q_assign rfl) fun a S => ?_
     refine lx_nil (thenN ?_)
     refine wp_ret (inBlock_ret ?_)
     refine then_ret ?_
     obtain rfl := Option.some.inj hm
     exact leave1 S rfl rfl ⟨rfl, H⟩
    ·have hm := ite_f hc36 hm
     refine wp_skip ?_
     refine inBlock_norm ?_
     refine thenN ?_
     refine wp_seq (region_plain ?_)
     refine lq p0 S (q_move rfl) fun a S => ?_
     refine lq p1 S (q_move rfl) fun a S => ?_
     obtain ⟨x39, e40, hm⟩ := bind_some hm
     refine lx_call (xs := [.tmp 22, .tmp 23]) S trivial (by decide) rfl rfl Try.call69 ((slices_Compare__int64_int64_ok (H.arg h0) (H.arg h1) e40).mono ?_)
     rintro e w37 ⟨rfl, Hc38⟩
     have H := H.call0 Hc38
     refine ⟨_, rfl, trivial, fun a S => ?_⟩
     refine lq (.int .i64 x39) S (q_assign rfl) fun a S => ?_
     refine lx_nil (thenN ?_)
     refine wp_ret ?_
     obtain rfl := Option.some.inj hm
     exact leave1 S rfl rfl ⟨rfl, H⟩

/-- (*impl.measured).due -/
def Pimpl_measured_due_m (fuel : Nat) (a0 : Timpl_measured) (a1 : Timpl_Vertex) (a2 : (List (List Int))) : Option ((List Int)) :=
  join (κ := List Int → Option (List Int)) (fun (xs76 : List Int) => (iter (fun (s : (List Int) × (Int)) => (match s with | (xs129, x131) => (if (decide (x131 < (a1.2.2.length : Int))) = true then join (κ := List Int → Option (((List Int) × (Int)) ⊕ (((List Int)) ⊕ ((List Int))))) (fun (xs193 : List Int) => some (.inl (xs193, (W (x131 + (1 : Int)))))) (fun K195 => (idx a1.2.2 x131).bind fun x197 => (idx a2 x197).bind fun x204 => (Pimpl_measured_needed_m fuel a0 a1.2.1 x204).bind fun x213 => (impl_compareRows_m fuel x213 xs129).bind fun x220 => (if (decide ((0 : Int) < x220)) = true then some (a1.1 != a0.2.1) else some false).bind fun t225 => (if t225 = true then some true else (if (decide (x220 < (0 : Int))) = true then some (a1.1 == a0.2.1) else some false).bind fun t231 => some t231).bind fun t228 => (if t228 = true then (K195 x213) else (K195 xs129))) else some (.inr (.inl (xs129)))) : Option (((List Int) × (Int)) ⊕ (((List Int)) ⊕ ((List Int)))))) fuel (xs76, (0 : Int))).bind fun res183 => ctl (β := (List Int)) (ρ := (List Int)) (τ := (List Int)) res183 (fun (xs181) => some (xs181)) (fun q => some (q))) (fun K78 => (if (a1.1 != a0.2.1) = true then (mks (5 : Int) (0 : Int)).bind fun x238 => (K78 x238) else (K78 [])))
set_option maxRecDepth 20000 in
theorem Pimpl_measured_due_ok [dr : Dr] {w0 : World} {fuel : Nat} {p0 p1 p2 : Value} {a0 : Timpl_measured} {a1 : Timpl_Vertex} {a2 : (List (List Int))} {r : (List Int)} (h0 : Rd (rPtr Rimpl_measured) w0 p0 a0) (h1 : Rd Rimpl_Vertex w0 p1 a1) (h2 : Rd (rList (rList (rInt .i64))) w0 p2 a2) (hm : Pimpl_measured_due_m fuel a0 a1 a2 = some r) :
  Calls Try.prog 47 #[p0, p1, p2] w0 fun e w => ∃ (v0 : Value), e = .returned (v0) ∧ Heap w0 [oA (rList (rInt .i64)) v0 r] w := by
 unfold Pimpl_measured_due_m at hm
 have H := Heap.start w0
 obtain ⟨c31, h32, hat33⟩ := h0.ptr
 obtain ⟨c36, c37, rfl, h38, h39⟩ := h32
 obtain ⟨v34, rfl, h35⟩ := rd_list h38
 obtain ⟨c40, c41, rfl, h42, h43⟩ := h39
 obtain rfl := h42
 obtain ⟨c44, c45, rfl, h46, h47⟩ := h43
 obtain rfl := h46
 obtain ⟨c48, c49, rfl, h50, h51⟩ := h47
 obtain rfl := h50
 obtain ⟨c52, c53, rfl, h54, h55⟩ := h51
 obtain rfl := h54
 obtain ⟨c56, c57, rfl, h58, h59⟩ := h55
 obtain rfl := h58
 obtain rfl := h59
 obtain ⟨c60, rfl, h61⟩ := h1
 obtain ⟨c64, c65, rfl, h66, h67⟩ := h61
 obtain rfl := h66
 obtain ⟨c68, c69, rfl, h70, h71⟩ := h67
 obtain rfl := h70
 obtain ⟨v62, rfl, h63⟩ := rd_list h71
 refine enter (args := [p0, (.agg #[(.int .i64 a1.1), (.int .i64 a1.2.1), v62]), p2]) Try.func47 rfl 65 rfl (Nat.le_of_ble_eq_true rfl) (fun a S => ?_)
 refine wp_seq (region_plain ?_)
 refine lx_box S trivial (by decide) rfl H rfl rfl (fun b72 w73 H => ⟨trivial, fun a S => ?_⟩)
 refine lq (.slice none 0 0) S (q_assign rfl) fun a S => ?_
 refine lx_nil (thenN ?_)
 refine wp_seq (region_plain ?_)
 refine lq (.slice none 0 0) S (q_assign rfl) fun a S => ?_
 refine lx_nil (thenN ?_)
 obtain ⟨K78, hK79, hm⟩ := join_elim hm
 refine seq_cut (fun a w => ∃ (xs76 : List Int) (v75 : Value), Slots a 65 [(0, p0), (2, p2), (4, (bp b72)), (7, v75)] ∧ Heap w0 [bA b72 [(.int .i64 a1.1), (.int .i64 a1.2.1), v62] 53, oA (rList (rInt .i64)) v75 xs76] w ∧ K78 xs76 = some r) ?_ ?_
 ·rintro a w ⟨xs76, v75, S, H, hm⟩
  subst hK79
  refine wp_seq (wp_seq (region_plain ?_))
  refine lq (pAdd (bp b72) 2) S (q_fieldAddr' 2 38 rfl (isP_bp _) Try.underlying53 rfl Try.sizeOf38) fun a S => ?_
  refine lx_e v62 S trivial (by decide) rfl trivial (q_load1 rfl Try.isAgg38 (by rintro _ rfl; exact (At.of_add (m := 2) (j := 0) (boxAt (i := 0) H rfl (j := 2) rfl)))) (fun a S => ?_)
  refine lq (.int .i64 (a1.2.2.length : Int)) S (q_lenSl rfl (h63).isSl rfl Try.underlying38) fun a S => ?_
  refine lq (.int .i64 (0 : Int)) S (q_move rfl) fun a S => ?_
  refine lx_nil (thenN ?_)
  obtain ⟨res183, hit184, hk187⟩ := bind_some hm
  obtain ⟨f185, hf186, hit184⟩ := iter_name hit184
  refine block_loop (fun a w => ∃ (xs181 : List Int) (v180 : Value), Slots a 65 [(7, v180)] ∧ Heap w0 [oA (rList (rInt .i64)) v180 xs181] w ∧ res183 = .inl (xs181)) ?_ ?_
  ·rintro a w ⟨xs181, v180, S, H, rfl⟩
   have hm := ctl_inl hk187
   refine thenN ?_
   refine wp_seq (region_plain ?_)
   refine lq v180 S (q_move rfl) fun a S => ?_
   refine lq v180 S (q_assign rfl) fun a S => ?_
   refine lx_nil (thenN ?_)
   refine wp_ret ?_
   obtain rfl := Option.some.inj hm
   exact leave1 S rfl rfl ⟨v180, rfl, H⟩
  ·skip
   refine loop_ghost (fun n a w => ∃ (xs129 : List Int) (x131 : Int) (v128 : Value), Slots a 65 [(0, p0), (2, p2), (4, (bp b72)), (7, v128), (21, v62), (22, (.int .i64 (a1.2.2.length : Int))), (23, (.int .i64 x131))] ∧ Heap w0 [bA b72 [(.int .i64 a1.1), (.int .i64 a1.2.1), v62] 53, oA (rList (rInt .i64)) v128 xs129] w ∧ iter f185 n (xs129, x131) = some res183) _ ⟨xs76, (0 : Int), v75, S.sub ⟨rfl, rfl, rfl, rfl, rfl, rfl, rfl, trivial⟩, H, hit184⟩ ?_
   rintro n a w ⟨xs129, x131, v128, S, H, hit184⟩
   obtain ⟨m188, o189, rfl, hm, hc190⟩ := iter_step hit184
   rw [hf186] at hm
   refine wp_seq (region_plain ?_)
   refine lq (.bool (decide (x131 < (a1.2.2.length : Int)))) S (q_lss rfl rfl) fun a S => ?_
   refine lx_nil (thenN ?_)
   refine wp_seq ?_
   refine cond_b S rfl (fun hc191 => ?_) (fun hc191 => ?_)
   ·have hm := ite_t hc191 hm
    refine wp_skip (thenN ?_)
    obtain ⟨K195, hK196, hm⟩ := join_elim hm
    refine seq_cut (fun a w => ∃ (xs193 : List Int) (v192 : Value), Slots a 65 [(0, p0), (2, p2), (4, (bp b72)), (7, v192), (21, v62), (22, (.int .i64 (a1.2.2.length : Int))), (23, (.int .i64 x131))] ∧ Heap w0 [bA b72 [(.int .i64 a1.1), (.int .i64 a1.2.1), v62] 53, oA (rList (rInt .i64)) v192 xs193] w ∧ K195 xs193 = some o189) ?_ ?_
    ·rintro a w ⟨xs193, v192, S, H, hm⟩
     subst hK196
     refine region_plain ?_
     refine lq (.int .i64 (W (x131 + (1 : Int)))) S (q_add rfl rfl) fun a S => ?_
     refine lq (.int .i64 (W (x131 + (1 : Int)))) S (q_move rfl) fun a S => ?_
     refine lx_nil ?_
     exact ⟨m188, Nat.lt_succ_self _, xs193, (W (x131 + (1 : Int))), v192, S.sub ⟨rfl, rfl, rfl, rfl, rfl, rfl, rfl, trivial⟩, H, it_cont hm hc190⟩
    ·skip
     refine wp_block ?_
     refine wp_seq (region_plain ?_)
     obtain ⟨x197, e198, hm⟩ := bind_some hm
     obtain ⟨c199, h200, hat201⟩ := (h63).elem (idx_some e198).2
     obtain rfl := h200
     have hlt := lt_of_idx (idx_some e198).2
     refine lq (ePtr v62 (x131.toNat * 1)) S (q_indexAddr rfl (h63).isSl rfl (idx_some e198).1 hlt Try.underlying38 Try.sizeOf2) fun a S => ?_
     refine lx_e (.int .i64 x197) S trivial (by decide) rfl trivial (q_load1 rfl Try.isAgg2 (by rintro _ rfl; exact ((hat201 0 _ rfl).ext H.ext))) (fun a S => ?_)
     refine lq (.int .i64 x197) S (q_assign rfl) fun a S => ?_
     refine lx_nil (thenN ?_)
     refine wp_seq ?_
     refine region_drawG (fun w1 => Heap w0 [bA b72 [(.int .i64 a1.1), (.int .i64 a1.2.1), v62] 53] w1) (fun i => [7].contains i) mixed (by kernel_rfl) (fun w203 he202 => ?_)
     have H := H.later he202
     refine ⟨H.sel [0] (by decide), ?_⟩
     refine lq p0 S (q_move rfl) fun a S => ?_
     refine lq (pAdd (bp b72) 1) S (q_fieldAddr' 1 2 rfl (isP_bp _) Try.underlying53 rfl Try.sizeOf2) fun a S => ?_
     refine lq (.int .i64 a1.2.1) S (q_load1 rfl Try.isAgg2 (fun w1 hC => (At.of_add (m := 1) (j := 0) (boxAt (i := 0) hC rfl (j := 1) rfl)))) fun a S => ?_
     refine lq p2 S (q_move rfl) fun a S => ?_
     refine lq (.int .i64 x197) S (q_move rfl) fun a S => ?_
     obtain ⟨x204, e205, hm⟩ := bind_some hm
     obtain ⟨c206, h207, hat208⟩ := (h2).elem (idx_some e205).2
     obtain ⟨v209, rfl, h210⟩ := rd_list h207
     have hlt := lt_of_idx (idx_some e205).2
     refine lq (ePtr p2 (x197.toNat * 1)) S (q_indexAddr rfl (h2).isSl rfl (idx_some e205).1 hlt Try.underlying23 Try.sizeOf38) fun a S => ?_
     refine lq v209 S (q_load1 rfl Try.isAgg38 (fun w1 hC => ((hat208 0 _ rfl).ext hC.ext))) fun a S => ?_
     obtain ⟨x213, e214, hm⟩ := bind_some hm
     refine lx_call (xs := [.tmp 27, .tmp 29, .tmp 33]) S trivial (by decide) rfl rfl Try.call74 ((Pimpl_measured_needed_ok (H.arg h0)  (H.arg h210) e214).mono ?_)
     rintro e w211 ⟨v215, rfl, Hc212⟩
     have H := H.call1 Hc212
     refine ⟨_, rfl, H.sel [1] (by decide), fun a S => ?_⟩
     refine lq v215 S (q_assign rfl) fun a S => ?_
     refine lx_nil (thenN ?_)
     refine wp_seq (region_plain ?_)
     refine lq v215 S (q_move rfl) fun a S => ?_
     refine lq v128 S (q_move rfl) fun a S => ?_
     obtain ⟨x220, e221, hm⟩ := bind_some hm
     refine lx_call (xs := [.tmp 35, .tmp 36]) S trivial (by decide) rfl rfl Try.call48 ((impl_compareRows_ok (H.rdAt 0 rfl) (H.rdAt 2 rfl) e221).mono ?_)
     rintro e w218 ⟨rfl, Hc219⟩
     have H := H.call0 Hc219
     refine ⟨_, rfl, trivial, fun a S => ?_⟩
     refine lq (.int .i64 x220) S (q_assign rfl) fun a S => ?_
     refine lx_nil (thenN ?_)
     refine wp_seq ?_
     refine region_drawG (fun w1 => Heap w0 [bA b72 [(.int .i64 a1.1), (.int .i64 a1.2.1), v62] 53] w1) (fun i => [].contains i) mixed (by kernel_rfl) (fun w224 he223 => ?_)
     have H := H.later he223
     refine ⟨H.sel [1] (by decide), ?_⟩
     refine lq (.int .i64 x220) S (q_move rfl) fun a S => ?_
     refine lq (.bool (decide ((0 : Int) < x220))) S (q_gtr rfl rfl) fun a S => ?_
     refine lq (.bool (decide ((0 : Int) < x220))) S (q_move rfl) fun a S => ?_
     obtain ⟨t225, e226, hm⟩ := bind_some hm
     refine lx_cut 8 (fun a w => Slots a 65 [(0, p0), (2, p2), (4, (bp b72)), (7, v128), (10, v215), (11, (.int .i64 x220)), (21, v62), (22, (.int .i64 (a1.2.2.length : Int))), (23, (.int .i64 x131)), (48, (.bool t225))] ∧ Heap w0 [oA (rList (rInt .i64)) v215 x213, bA b72 [(.int .i64 a1.1), (.int .i64 a1.2.1), v62] 53, oA (rList (rInt .i64)) v128 xs129] w) ?_ ?_
     ·by_cases hc227 : (decide ((0 : Int) < x220)) = true
      ·have hm := ite_t hc227 e226
       refine lx_q (pAdd (bp b72) 0) S (want_b rfl rfl hc227) (by decide) (q_fieldAddr' 0 2 rfl (isP_bp _) Try.underlying53 rfl Try.sizeOf2) (fun a S => ?_)
       refine lx_q (.int .i64 a1.1) S (want_b rfl rfl hc227) (by decide) (q_load1 rfl Try.isAgg2 (fun w1 hC => (At.of_add (m := 0) (j := 0) (boxAt (i := 0) hC rfl (j := 0) rfl)))) (fun a S => ?_)
       refine lx_q p0 S (want_b rfl rfl hc227) (by decide) (q_move rfl) (fun a S => ?_)
       refine lx_q p0 S (want_b rfl rfl hc227) (by decide) (q_nilCheck rfl ((hat33 0 _ rfl).isP)) (fun a S => ?_)
       refine lx_q (pAdd p0 1) S (want_b rfl rfl hc227) (by decide) (q_fieldAddr' 1 2 rfl ((hat33 0 _ rfl).isP) Try.underlying87 rfl Try.sizeOf2) (fun a S => ?_)
       refine lx_q (.int .i64 a0.2.1) S (want_b rfl rfl hc227) (by decide) (q_load1 rfl Try.isAgg2 (fun w1 hC => (At.of_add (m := 1) (j := 0) ((hat33 1 _ rfl).ext hC.ext)))) (fun a S => ?_)
       refine lx_q (.bool (a1.1 != a0.2.1)) S (want_b rfl rfl hc227) (by decide) (q_neq rfl rfl) (fun a S => ?_)
       refine lq (.bool (a1.1 != a0.2.1)) S (q_pickT' rfl hc227 rfl) fun a S => ?_
       refine lx_nil ?_
       obtain rfl := Option.some.inj hm
       exact ⟨S.sub ⟨rfl, rfl, rfl, rfl, rfl, rfl, rfl, rfl, rfl, rfl, trivial⟩, H⟩
      ·have hm := ite_f (eq_false_of_ne_true hc227) e226
       have hc227 : (decide ((0 : Int) < x220)) = false := eq_false_of_ne_true hc227
       refine lx_skip S rfl rfl (isB_ne hc227) (by decide) (fun a S => ?_)
       refine lx_skip S rfl rfl (isB_ne hc227) (by decide) (fun a S => ?_)
       refine lx_skip S rfl rfl (isB_ne hc227) (by decide) (fun a S => ?_)
       refine lx_skip S rfl rfl (isB_ne hc227) (by decide) (fun a S => ?_)
       refine lx_skip S rfl rfl (isB_ne hc227) (by decide) (fun a S => ?_)
       refine lx_skip S rfl rfl (isB_ne hc227) (by decide) (fun a S => ?_)
       refine lx_skip S rfl rfl (isB_ne hc227) (by decide) (fun a S => ?_)
       refine lq (.bool false) S (q_pickF' rfl hc227 rfl) fun a S => ?_
       refine lx_nil ?_
       obtain rfl := Option.some.inj hm
       exact ⟨S.sub ⟨rfl, rfl, rfl, rfl, rfl, rfl, rfl, rfl, rfl, rfl, trivial⟩, H⟩
     ·rintro a w ⟨S, H⟩
      refine lq (.bool t225) S (q_move rfl) fun a S => ?_
      obtain ⟨t228, e229, hm⟩ := bind_some hm
      refine lx_cut 12 (fun a w => Slots a 65 [(0, p0), (2, p2), (4, (bp b72)), (7, v128), (10, v215), (21, v62), (22, (.int .i64 (a1.2.2.length : Int))), (23, (.int .i64 x131)), (61, (.bool t228))] ∧ Heap w0 [oA (rList (rInt .i64)) v215 x213, bA b72 [(.int .i64 a1.1), (.int .i64 a1.2.1), v62] 53, oA (rList (rInt .i64)) v128 xs129] w) ?_ ?_
      ·by_cases hc230 : t225 = true
       ·have hm := ite_t hc230 e229
        refine lx_skip S rfl rfl (isB_ne hc230) (by decide) (fun a S => ?_)
        refine lx_skip S rfl rfl (isB_ne hc230) (by decide) (fun a S => ?_)
        refine lx_skip S rfl rfl (isB_ne hc230) (by decide) (fun a S => ?_)
        refine lx_skip S rfl rfl rfl (by decide) (fun a S => ?_)
        refine lx_skip S rfl rfl rfl (by decide) (fun a S => ?_)
        refine lx_skip S rfl rfl rfl (by decide) (fun a S => ?_)
        refine lx_skip S rfl rfl rfl (by decide) (fun a S => ?_)
        refine lx_skip S rfl rfl rfl (by decide) (fun a S => ?_)
        refine lx_skip S rfl rfl rfl (by decide) (fun a S => ?_)
        refine lx_skip S rfl rfl rfl (by decide) (fun a S => ?_)
        refine lx_skip S rfl rfl (isB_ne hc230) (by decide) (fun a S => ?_)
        refine lq (.bool true) S (q_pickT' rfl hc230 rfl) fun a S => ?_
        refine lx_nil ?_
        obtain rfl := Option.some.inj hm
        exact ⟨S.sub ⟨rfl, rfl, rfl, rfl, rfl, rfl, rfl, rfl, rfl, trivial⟩, H⟩
       ·have hm := ite_f (eq_false_of_ne_true hc230) e229
        have hc230 : t225 = false := eq_false_of_ne_true hc230
        refine lx_q (.int .i64 x220) S (want_b rfl rfl hc230) (by decide) (q_move rfl) (fun a S => ?_)
        refine lx_q (.bool (decide (x220 < (0 : Int)))) S (want_b rfl rfl hc230) (by decide) (q_lss rfl rfl) (fun a S => ?_)
        refine lx_q (.bool (decide (x220 < (0 : Int)))) S (want_b rfl rfl hc230) (by decide) (q_move rfl) (fun a S => ?_)
        obtain ⟨t231, e232, hm⟩ := bind_some hm
        refine lx_cut 8 (fun a w => Slots a 65 [(0, p0), (2, p2), (4, (bp b72)), (7, v128), (10, v215), (21, v62), (22, (.int .i64 (a1.2.2.length : Int))), (23, (.int .i64 x131)), (49, (.bool t225)), (60, (.bool t231))] ∧ Heap w0 [oA (rList (rInt .i64)) v215 x213, bA b72 [(.int .i64 a1.1), (.int .i64 a1.2.1), v62] 53, oA (rList (rInt .i64)) v128 xs129] w) ?_ ?_
        ·by_cases hc233 : (decide (x220 < (0 : Int))) = true
         ·have hm := ite_t hc233 e232
          refine lx_q (pAdd (bp b72) 0) S (want_b rfl rfl hc233) (by decide) (q_fieldAddr' 0 2 rfl (isP_bp _) Try.underlying53 rfl Try.sizeOf2) (fun a S => ?_)
          refine lx_q (.int .i64 a1.1) S (want_b rfl rfl hc233) (by decide) (q_load1 rfl Try.isAgg2 (fun w1 hC => (At.of_add (m := 0) (j := 0) (boxAt (i := 0) hC rfl (j := 0) rfl)))) (fun a S => ?_)
          refine lx_q p0 S (want_b rfl rfl hc233) (by decide) (q_move rfl) (fun a S => ?_)
          refine lx_q p0 S (want_b rfl rfl hc233) (by decide) (q_nilCheck rfl ((hat33 0 _ rfl).isP)) (fun a S => ?_)
          refine lx_q (pAdd p0 1) S (want_b rfl rfl hc233) (by decide) (q_fieldAddr' 1 2 rfl ((hat33 0 _ rfl).isP) Try.underlying87 rfl Try.sizeOf2) (fun a S => ?_)
          refine lx_q (.int .i64 a0.2.1) S (want_b rfl rfl hc233) (by decide) (q_load1 rfl Try.isAgg2 (fun w1 hC => (At.of_add (m := 1) (j := 0) ((hat33 1 _ rfl).ext hC.ext)))) (fun a S => ?_)
          refine lx_q (.bool (a1.1 == a0.2.1)) S (want_b rfl rfl hc233) (by decide) (q_eql rfl rfl) (fun a S => ?_)
          refine lx_q (.bool (a1.1 == a0.2.1)) S (want_b rfl rfl hc230) (by decide) (q_pickT' rfl hc233 rfl) (fun a S => ?_)
          refine lx_nil ?_
          obtain rfl := Option.some.inj hm
          exact ⟨S.sub ⟨rfl, rfl, rfl, rfl, rfl, rfl, rfl, rfl, rfl, rfl, trivial⟩, H⟩
         ·have hm := ite_f (eq_false_of_ne_true hc233) e232
          have hc233 : (decide (x220 < (0 : Int))) = false := eq_false_of_ne_true hc233
          refine lx_skip S rfl rfl (isB_ne hc233) (by decide) (fun a S => ?_)
          refine lx_skip S rfl rfl (isB_ne hc233) (by decide) (fun a S => ?_)
          refine lx_skip S rfl rfl (isB_ne hc233) (by decide) (fun a S => ?_)
          refine lx_skip S rfl rfl (isB_ne hc233) (by decide) (fun a S => ?_)
          refine lx_skip S rfl rfl (isB_ne hc233) (by decide) (fun a S => ?_)
          refine lx_skip S rfl rfl (isB_ne hc233) (by decide) (fun a S => ?_)
          refine lx_skip S rfl rfl (isB_ne hc233) (by decide) (fun a S => ?_)
          refine lx_q (.bool false) S (want_b rfl rfl hc230) (by decide) (q_pickF' rfl hc233 rfl) (fun a S => ?_)
          refine lx_nil ?_
          obtain rfl := Option.some.inj hm
          exact ⟨S.sub ⟨rfl, rfl, rfl, rfl, rfl, rfl, rfl, rfl, rfl, rfl, trivial⟩, H⟩
        ·rintro a w ⟨S, H⟩
         refine lq (.bool t231) S (q_pickF' rfl hc230 rfl) fun a S => ?_
         refine lx_nil ?_
         obtain rfl := Option.some.inj hm
         exact ⟨S.sub ⟨rfl, rfl, rfl, rfl, rfl, rfl, rfl, rfl, rfl, trivial⟩, H⟩
      ·rintro a w ⟨S, H⟩
       refine lx_nil (thenN ?_)
       refine cond_b S rfl (fun hc234 => ?_) (fun hc234 => ?_)
       ·have hm := ite_t hc234 hm
        refine region_plain ?_
        refine lq v215 S (q_move rfl) fun a S => ?_
        refine lq v215 S (q_assign rfl) fun a S => ?_
        refine lx_nil ?_
        refine inBlock_norm ?_
        have H : Heap w0 [bA b72 [(.int .i64 a1.1), (.int .i64 a1.2.1), v62] 53, oA (rList (rInt .i64)) v215 x213, oA (rList (rInt .i64)) v128 xs129] w := H.front 1 rfl
        have H : Heap w0 [bA b72 [(.int .i64 a1.1), (.int .i64 a1.2.1), v62] 53, oA (rList (rInt .i64)) v215 x213] w := H.sel [0, 1] (by decide)
        exact ⟨x213, v215, S.sub ⟨rfl, rfl, rfl, rfl, rfl, rfl, rfl, trivial⟩, H, hm⟩
       ·have hm := ite_f hc234 hm
        refine wp_skip ?_
        refine inBlock_norm ?_
        have H : Heap w0 [bA b72 [(.int .i64 a1.1), (.int .i64 a1.2.1), v62] 53, oA (rList (rInt .i64)) v128 xs129] w := H.sel [1, 2] (by decide)
        exact ⟨xs129, v128, S.sub ⟨rfl, rfl, rfl, rfl, rfl, rfl, rfl, trivial⟩, H, hm⟩
   ·have hm := ite_f hc191 hm
    refine wp_exit ?_
    refine then_exit ?_
    refine then_exit ?_
    refine inBlock_exit ?_
    obtain rfl := it_brk hm hc190
    have H : Heap w0 [oA (rList (rInt .i64)) v128 xs129] w := H.sel [1] (by decide)
    exact ⟨xs129, v128, S.sub ⟨rfl, trivial⟩, H, rfl⟩
 ·skip
  refine wp_seq ?_
  refine region_drawG (fun w1 => Heap w0 [bA b72 [(.int .i64 a1.1), (.int .i64 a1.2.1), v62] 53] w1) (fun i => [].contains i) mixed (by kernel_rfl) (fun w236 he235 => ?_)
  have H := H.later he235
  refine ⟨H.sel [0] (by decide), ?_⟩
  refine lq (pAdd (bp b72) 0) S (q_fieldAddr' 0 2 rfl (isP_bp _) Try.underlying53 rfl Try.sizeOf2) fun a S => ?_
  refine lq (.int .i64 a1.1) S (q_load1 rfl Try.isAgg2 (fun w1 hC => (At.of_add (m := 0) (j := 0) (boxAt (i := 0) hC rfl (j := 0) rfl)))) fun a S => ?_
  refine lq p0 S (q_move rfl) fun a S => ?_
  refine lq p0 S (q_nilCheck rfl ((hat33 0 _ rfl).isP)) fun a S => ?_
  refine lq (pAdd p0 1) S (q_fieldAddr' 1 2 rfl ((hat33 0 _ rfl).isP) Try.underlying87 rfl Try.sizeOf2) fun a S => ?_
  refine lq (.int .i64 a0.2.1) S (q_load1 rfl Try.isAgg2 (fun w1 hC => (At.of_add (m := 1) (j := 0) ((hat33 1 _ rfl).ext hC.ext)))) fun a S => ?_
  refine lq (.bool (a1.1 != a0.2.1)) S (q_neq rfl rfl) fun a S => ?_
  refine lx_nil (thenN ?_)
  refine cond_b S rfl (fun hc237 => ?_) (fun hc237 => ?_)
  ·have hm := ite_t hc237 hm
   refine region_plain ?_
   obtain ⟨x238, e239, hm⟩ := bind_some hm
   obtain ⟨m240, hn, hn2, rfl⟩ := mks_some e239
   refine lx_make (r := (rInt .i64)) (z0 := (0 : Int)) (n := m240) S trivial (by decide) rfl H (by rw [← hn]; rfl) (by rw [← hn]; rfl) Try.underlying38 (Try.ti2) rfl rfl (Nat.le_of_ble_eq_true rfl) (fun w => ⟨rfl, rfl⟩) hn2 (by decide) (fun v241 w242 H => ⟨trivial, fun a S => ?_⟩)
   refine lq v241 S (q_assign rfl) fun a S => ?_
   refine lx_nil ?_
   have H : Heap w0 [bA b72 [(.int .i64 a1.1), (.int .i64 a1.2.1), v62] 53, oA (rList (rInt .i64)) v241 (List.replicate m240 (0 : Int))] w242 := H.front 1 rfl
   exact ⟨(List.replicate m240 (0 : Int)), v241, S.sub ⟨rfl, rfl, rfl, rfl, trivial⟩, H, hm⟩
  ·have hm := ite_f hc237 hm
   refine wp_skip ?_
   have H : Heap w0 [oA (rList (rInt .i64)) (.slice none 0 0) ([] : List Int), bA b72 [(.int .i64 a1.1), (.int .i64 a1.2.1), v62] 53] w236 := H.nilList (rInt .i64)
   have H : Heap w0 [bA b72 [(.int .i64 a1.1), (.int .i64 a1.2.1), v62] 53, oA (rList (rInt .i64)) (.slice none 0 0) ([] : List Int)] w236 := H.front 1 rfl
   exact ⟨[], (.slice none 0 0), S.sub ⟨rfl, rfl, rfl, rfl, trivial⟩, H, hm⟩
end Go.Proofs.Ytcddkipbedfhkaa
