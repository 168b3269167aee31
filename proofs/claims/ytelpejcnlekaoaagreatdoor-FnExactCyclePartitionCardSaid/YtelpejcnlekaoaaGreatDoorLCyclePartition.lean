/- The model of a statement and its walk (printed by a program of this repo). -/
import Derived.Test.YtelpejcnlekaoaaGreatDoorF0
import Derived.Test.YtelpejcnlekaoaaGreatDoorF1
import Derived.Test.YtelpejcnlekaoaaGreatDoorF2
import Derived.Test.YtelpejcnlekaoaaGreatDoorF3
import Derived.Test.YtelpejcnlekaoaaGreatDoorF4
import Derived.Test.YtelpejcnlekaoaaGreatDoorGxJ
import Derived.Test.YtelpejcnlekaoaaGreatDoorGxT
import Derived.Test.YtelpejcnlekaoaaGreatDoorGxY
namespace Go.Proofs.YtelpejcnlekaoaaGreatDoor
open Go.RowKit Go.Gx

/-- spec.l15Inert -/
def spec_l15Inert_m (_ : Nat) (a0 : Timpl_Edge) (a1 : (List Int)) : Option (Bool) :=
  (if (a0.2.1 == (0 : Int)) = true then (idx a1 a0.1).bind fun x47 => (idx a1 a0.2.2).bind fun x52 => some (x47 == x52) else some false).bind fun t44 => some (t44)
set_option maxRecDepth 20000 in
theorem spec_l15Inert_ok {w0 : World} {fuel : Nat} {p0 p1 : Value} {a0 : Timpl_Edge} {a1 : (List Int)} {r : Bool} (h0 : Rd (rPtr Rimpl_Edge) w0 p0 a0) (h1 : Rd (rList (rInt .i64)) w0 p1 a1) (hm : spec_l15Inert_m fuel a0 a1 = some r) :
  Calls Tryz.prog 61 #[p0, p1] w0 fun e w => e = .returned (.bool r) ∧ Heap w0 [] w := by
 unfold spec_l15Inert_m at hm
 have H := Heap.start w0
 obtain ⟨c31, h32, hat33⟩ := h0.ptr
 obtain ⟨c34, c35, rfl, h36, h37⟩ := h32
 obtain rfl := h36
 obtain ⟨c38, c39, rfl, h40, h41⟩ := h37
 obtain rfl := h40
 obtain rfl := h41
 refine enter (args := [p0, p1]) Tryz.func61 rfl 27 rfl (Nat.le_of_ble_eq_true rfl) (fun a S => ?_)
 refine wp_seq (region_plain ?_)
 refine lq (.bool false) S (q_assign rfl) fun a S => ?_
 refine lx_nil (thenN ?_)
 refine wp_seq ?_
 refine region_drawG (fun w1 => Heap w0 [] w1) (fun i => [].contains i) mixed (by kernel_rfl) (fun w43 he42 => ?_)
 have H := H.later he42
 refine ⟨H.sel [] (by decide), ?_⟩
 refine lq p0 S (q_move rfl) fun a S => ?_
 refine lq p0 S (q_nilCheck rfl ((hat33 0 _ rfl).isP)) fun a S => ?_
 refine lq (pAdd p0 1) S (q_fieldAddr' 1 2 rfl ((hat33 0 _ rfl).isP) Tryz.underlying62 rfl Tryz.sizeOf2) fun a S => ?_
 refine lq (.int .i64 a0.2.1) S (q_load1 rfl Tryz.isAgg2 (fun w1 hC => (At.of_add (m := 1) (j := 0) ((hat33 1 _ rfl).ext hC.ext)))) fun a S => ?_
 refine lq (.bool (a0.2.1 == (0 : Int))) S (q_eql rfl rfl) fun a S => ?_
 refine lq (.bool (a0.2.1 == (0 : Int))) S (q_move rfl) fun a S => ?_
 obtain ⟨t44, e45, hm⟩ := bind_some hm
 refine lx_cut 16 (fun a w => Slots a 27 [(26, (.bool t44))] ∧ Heap w0 [] w) ?_ ?_
 ·by_cases hc46 : (a0.2.1 == (0 : Int)) = true
  ·have hm := ite_t hc46 e45
   refine lx_q p1 S (want_b rfl rfl hc46) (by decide) (q_move rfl) (fun a S => ?_)
   refine lx_q p0 S (want_b rfl rfl hc46) (by decide) (q_move rfl) (fun a S => ?_)
   refine lx_q p0 S (want_b rfl rfl hc46) (by decide) (q_nilCheck rfl ((hat33 0 _ rfl).isP)) (fun a S => ?_)
   refine lx_q (pAdd p0 0) S (want_b rfl rfl hc46) (by decide) (q_fieldAddr' 0 2 rfl ((hat33 0 _ rfl).isP) Tryz.underlying62 rfl Tryz.sizeOf2) (fun a S => ?_)
   refine lx_q (.int .i64 a0.1) S (want_b rfl rfl hc46) (by decide) (q_load1 rfl Tryz.isAgg2 (fun w1 hC => (At.of_add (m := 0) (j := 0) ((hat33 0 _ rfl).ext hC.ext)))) (fun a S => ?_)
   obtain ⟨x47, e48, hm⟩ := bind_some hm
   obtain ⟨c49, h50, hat51⟩ := (h1).elem (idx_some e48).2
   obtain rfl := h50
   have hlt := lt_of_idx (idx_some e48).2
   refine lx_q (ePtr p1 (a0.1.toNat * 1)) S (want_b rfl rfl hc46) (by decide) (q_indexAddr rfl (h1).isSl rfl (idx_some e48).1 hlt Tryz.underlying36 Tryz.sizeOf2) (fun a S => ?_)
   refine lx_q (.int .i64 x47) S (want_b rfl rfl hc46) (by decide) (q_load1 rfl Tryz.isAgg2 (fun w1 hC => ((hat51 0 _ rfl).ext hC.ext))) (fun a S => ?_)
   refine lx_q p1 S (want_b rfl rfl hc46) (by decide) (q_move rfl) (fun a S => ?_)
   refine lx_q p0 S (want_b rfl rfl hc46) (by decide) (q_move rfl) (fun a S => ?_)
   refine lx_q p0 S (want_b rfl rfl hc46) (by decide) (q_nilCheck rfl ((hat33 0 _ rfl).isP)) (fun a S => ?_)
   refine lx_q (pAdd p0 2) S (want_b rfl rfl hc46) (by decide) (q_fieldAddr' 2 2 rfl ((hat33 0 _ rfl).isP) Tryz.underlying62 rfl Tryz.sizeOf2) (fun a S => ?_)
   refine lx_q (.int .i64 a0.2.2) S (want_b rfl rfl hc46) (by decide) (q_load1 rfl Tryz.isAgg2 (fun w1 hC => (At.of_add (m := 2) (j := 0) ((hat33 2 _ rfl).ext hC.ext)))) (fun a S => ?_)
   obtain ⟨x52, e53, hm⟩ := bind_some hm
   obtain ⟨c54, h55, hat56⟩ := (h1).elem (idx_some e53).2
   obtain rfl := h55
   have hlt := lt_of_idx (idx_some e53).2
   refine lx_q (ePtr p1 (a0.2.2.toNat * 1)) S (want_b rfl rfl hc46) (by decide) (q_indexAddr rfl (h1).isSl rfl (idx_some e53).1 hlt Tryz.underlying36 Tryz.sizeOf2) (fun a S => ?_)
   refine lx_q (.int .i64 x52) S (want_b rfl rfl hc46) (by decide) (q_load1 rfl Tryz.isAgg2 (fun w1 hC => ((hat56 0 _ rfl).ext hC.ext))) (fun a S => ?_)
   refine lx_q (.bool (x47 == x52)) S (want_b rfl rfl hc46) (by decide) (q_eql rfl rfl) (fun a S => ?_)
   refine lq (.bool (x47 == x52)) S (q_pickT' rfl hc46 rfl) fun a S => ?_
   refine lx_nil ?_
   obtain rfl := Option.some.inj hm
   exact ⟨S.sub ⟨rfl, trivial⟩, H⟩
  ·have hm := ite_f (eq_false_of_ne_true hc46) e45
   have hc46 : (a0.2.1 == (0 : Int)) = false := eq_false_of_ne_true hc46
   refine lx_skip S rfl rfl (isB_ne hc46) (by decide) (fun a S => ?_)
   refine lx_skip S rfl rfl (isB_ne hc46) (by decide) (fun a S => ?_)
   refine lx_skip S rfl rfl (isB_ne hc46) (by decide) (fun a S => ?_)
   refine lx_skip S rfl rfl (isB_ne hc46) (by decide) (fun a S => ?_)
   refine lx_skip S rfl rfl (isB_ne hc46) (by decide) (fun a S => ?_)
   refine lx_skip S rfl rfl (isB_ne hc46) (by decide) (fun a S => ?_)
   refine lx_skip S rfl rfl (isB_ne hc46) (by decide) (fun a S => ?_)
   refine lx_skip S rfl rfl (isB_ne hc46) (by decide) (fun a S => ?_)
   refine lx_skip S rfl rfl (isB_ne hc46) (by decide) (fun a S => ?_)
   refine lx_skip S rfl rfl (isB_ne hc46) (by decide) (fun a S => ?_)
   refine lx_skip S rfl rfl (isB_ne hc46) (by decide) (fun a S => ?_)
   refine lx_skip S rfl rfl (isB_ne hc46) (by decide) (fun a S => ?_)
   refine lx_skip S rfl rfl (isB_ne hc46) (by decide) (fun a S => ?_)
   refine lx_skip S rfl rfl (isB_ne hc46) (by decide) (fun a S => ?_)
   refine lx_skip S rfl rfl (isB_ne hc46) (by decide) (fun a S => ?_)
   refine lq (.bool false) S (q_pickF' rfl hc46 rfl) fun a S => ?_
   refine lx_nil ?_
   obtain rfl := Option.some.inj hm
   exact ⟨S.sub ⟨rfl, trivial⟩, H⟩
 ·rintro a w ⟨S, H⟩
  refine lq (.bool t44) S (q_assign rfl) fun a S => ?_
  refine lx_nil (thenN ?_)
  refine wp_ret ?_
  obtain rfl := Option.some.inj hm
  exact leave1 S rfl rfl ⟨rfl, H⟩

/-- spec.l15Reach -/
def spec_l15Reach_m (fuel : Nat) (a0 : Timpl_Lts) (a1 : (List Int)) (a2 : Int) : Option ((List Bool)) :=
  (mks a0.1 false).bind fun x50 => (idx x50 a2).bind fun _ => (iter (fun (s : (List Bool) × (Bool)) => (match s with | (xs222, x223) => (if x223 = true then (iter (fun (s : (List Bool) × (Bool) × (Int)) => (match s with | (xs447, x448, x449) => (if (decide (x449 < (a0.2.2.2.length : Int))) = true then join (κ := List Bool → Bool → Option (((List Bool) × (Bool) × (Int)) ⊕ (((List Bool) × Bool) ⊕ ((List Bool))))) (fun (xs511 : List Bool) (x512 : Bool) => some (.inl (xs511, x512, (W (x449 + (1 : Int)))))) (fun K513 => (idx a0.2.2.2 x449).bind fun x515 => (idx xs447 x515.1).bind fun x532 => (if x532 = true then (idx xs447 x515.2.2).bind fun x540 => some (!x540) else some false).bind fun t537 => (if t537 = true then (spec_l15Inert_m fuel (x515.1, x515.2.1, x515.2.2) a1).bind fun x550 => some x550 else some false).bind fun t545 => (if t545 = true then (idx xs447 x515.2.2).bind fun _ => (K513 (xs447.set x515.2.2.toNat true) true) else (K513 xs447 x448))) else some (.inr (.inl (xs447, x448)))) : Option (((List Bool) × (Bool) × (Int)) ⊕ (((List Bool) × Bool) ⊕ ((List Bool)))))) fuel (xs222, false, (0 : Int))).bind fun res502 => ctl (β := (List Bool) × Bool) (ρ := (List Bool)) (τ := (((List Bool) × (Bool)) ⊕ (((List Bool)) ⊕ ((List Bool))))) res502 (fun (xs500, x501) => some (.inl (xs500, x501))) (fun q => some (.inr (.inr q))) else some (.inr (.inl (xs222)))) : Option (((List Bool) × (Bool)) ⊕ (((List Bool)) ⊕ ((List Bool)))))) fuel ((x50.set a2.toNat true), true)).bind fun res388 => ctl (β := (List Bool)) (ρ := (List Bool)) (τ := (List Bool)) res388 (fun (xs387) => some (xs387)) (fun q => some (q))
set_option maxRecDepth 20000 in
theorem spec_l15Reach_ok {w0 : World} {fuel : Nat} {p0 p1 : Value} {a0 : Timpl_Lts} {a1 : (List Int)} {a2 : Int} {r : (List Bool)} (h0 : Rd (rPtr Rimpl_Lts) w0 p0 a0) (h1 : Rd (rList (rInt .i64)) w0 p1 a1) (hm : spec_l15Reach_m fuel a0 a1 a2 = some r) :
  Calls Tryz.prog 52 #[p0, p1, .int .i64 a2] w0 fun e w => ∃ (v0 : Value), e = .returned (v0) ∧ Heap w0 [oA (rList rBool) v0 r] w := by
 unfold spec_l15Reach_m at hm
 have H := Heap.start w0
 obtain ⟨c31, h32, hat33⟩ := h0.ptr
 obtain ⟨c38, c39, rfl, h40, h41⟩ := h32
 obtain rfl := h40
 obtain ⟨c42, c43, rfl, h44, h45⟩ := h41
 obtain rfl := h44
 obtain ⟨c46, c47, rfl, h48, h49⟩ := h45
 obtain ⟨v34, rfl, h35⟩ := rd_list h48
 obtain ⟨v36, rfl, h37⟩ := rd_list h49
 refine enter (args := [p0, p1, .int .i64 a2]) Tryz.func52 rfl 58 rfl (Nat.le_of_ble_eq_true rfl) (fun a S => ?_)
 refine wp_seq (region_plain ?_)
 refine lq (.slice none 0 0) S (q_assign rfl) fun a S => ?_
 refine lx_nil (thenN ?_)
 refine wp_seq (region_plain ?_)
 refine lq p0 S (q_move rfl) fun a S => ?_
 refine lq p0 S (q_nilCheck rfl ((hat33 0 _ rfl).isP)) fun a S => ?_
 refine lq (pAdd p0 0) S (q_fieldAddr' 0 2 rfl ((hat33 0 _ rfl).isP) Tryz.underlying29 rfl Tryz.sizeOf2) fun a S => ?_
 refine lx_e (.int .i64 a0.1) S trivial (by decide) rfl trivial (q_load1 rfl Tryz.isAgg2 (by rintro _ rfl; exact (At.of_add (m := 0) (j := 0) ((hat33 0 _ rfl).ext H.ext)))) (fun a S => ?_)
 obtain ⟨x50, e51, hm⟩ := bind_some hm
 obtain ⟨m52, hn, hn2, rfl⟩ := mks_some e51
 refine lx_make (r := rBool) (z0 := false) (n := m52) S trivial (by decide) rfl H (by rw [← hn]; rfl) (by rw [← hn]; rfl) Tryz.underlying65 (Tryz.ti4) rfl rfl (by decide) (fun w => ⟨rfl, rfl⟩) hn2 (by decide) (fun v53 w54 H => ⟨trivial, fun a S => ?_⟩)
 refine lq v53 S (q_assign rfl) fun a S => ?_
 refine lx_nil (thenN ?_)
 refine wp_seq (region_plain ?_)
 refine lq v53 S (q_move rfl) fun a S => ?_
 refine lq (.int .i64 a2) S (q_move rfl) fun a S => ?_
 obtain ⟨x56, e57, hm⟩ := bind_some hm
 have hlt := lt_of_idx (idx_some e57).2
 refine lq (ePtr v53 (a2.toNat * 1)) S (q_indexAddr rfl (H.isSl 0 rfl) rfl (idx_some e57).1 hlt Tryz.underlying65 Tryz.sizeOf4) fun a S => ?_
 refine lx_storeElem (r := rBool) (us := [(.bool true)]) (off := 0) (e' := true) S trivial rfl H.putE (ev_zero rfl) rfl (idx_some e57).2 rfl Tryz.sizeOf4 (Nat.le_of_ble_eq_true rfl) (List.forall_mem_cons.2 ⟨rfl, (fun _ h => nomatch h)⟩) (Upd.full rfl (fun w G hG => by cases (show G = [] from hG); exact ⟨rfl, rfl⟩)) (fun w58 H => ⟨trivial, fun a S => ?_⟩)
 refine lx_nil (thenN ?_)
 refine wp_seq (wp_seq (region_plain ?_))
 refine lq (.bool true) S (q_assign rfl) fun a S => ?_
 refine lx_nil (thenN ?_)
 obtain ⟨res388, hit389, hk392⟩ := bind_some hm
 obtain ⟨f390, hf391, hit389⟩ := iter_name hit389
 refine block_loop (fun a w => ∃ (xs387 : List Bool), Slots a 58 [(7, v53)] ∧ Heap w0 [oA (rList rBool) v53 xs387] w ∧ res388 = .inl (xs387)) ?_ ?_
 ·rintro a w ⟨xs387, S, H, rfl⟩
  have hm := ctl_inl hk392
  refine thenN ?_
  refine wp_seq (region_plain ?_)
  refine lq v53 S (q_move rfl) fun a S => ?_
  refine lq v53 S (q_assign rfl) fun a S => ?_
  refine lx_nil (thenN ?_)
  refine wp_ret ?_
  obtain rfl := Option.some.inj hm
  exact leave1 S rfl rfl ⟨v53, rfl, H⟩
 ·skip
  refine loop_ghost (fun n a w => ∃ (xs222 : List Bool) (x223 : Bool), Slots a 58 [(0, p0), (1, p1), (7, v53), (8, (.bool x223))] ∧ Heap w0 [oA (rList rBool) v53 xs222] w ∧ iter f390 n (xs222, x223) = some res388) _ ⟨((List.replicate m52 false).set a2.toNat true), true, S.sub ⟨rfl, rfl, rfl, rfl, trivial⟩, H, hit389⟩ ?_
  rintro n a w ⟨xs222, x223, S, H, hit389⟩
  obtain ⟨m393, o394, rfl, hm, hc395⟩ := iter_step hit389
  rw [hf391] at hm
  refine wp_seq (wp_seq (region_plain ?_))
  refine lq (.bool x223) S (q_move rfl) fun a S => ?_
  refine lx_nil (thenN ?_)
  refine cond_b S rfl (fun hc396 => ?_) (fun hc396 => ?_)
  ·have hm := ite_t hc396 hm
   refine wp_skip (thenN ?_)
   refine wp_block ?_
   refine wp_seq (region_plain ?_)
   refine lq (.bool false) S (q_assign rfl) fun a S => ?_
   refine lx_nil (thenN ?_)
   refine wp_seq (region_plain ?_)
   refine lq (.int .i64 (0 : Int)) S (q_assign rfl) fun a S => ?_
   refine lx_nil (thenN ?_)
   obtain ⟨res502, hit503, hk506⟩ := bind_some hm
   obtain ⟨f504, hf505, hit503⟩ := iter_name hit503
   refine block_loop (fun a w => ∃ (xs500 : List Bool) (x501 : Bool), Slots a 58 [(0, p0), (1, p1), (7, v53), (8, (.bool x501))] ∧ Heap w0 [oA (rList rBool) v53 xs500] w ∧ res502 = .inl (xs500, x501)) ?_ ?_
   ·rintro a w ⟨xs500, x501, S, H, rfl⟩
    have hm := ctl_inl hk506
    refine inBlock_norm ?_
    exact ⟨m393, Nat.lt_succ_self _, xs500, x501, S.sub ⟨rfl, rfl, rfl, rfl, trivial⟩, H, it_cont hm hc395⟩
   ·skip
    refine loop_ghost (fun n a w => ∃ (xs447 : List Bool) (x448 : Bool) (x449 : Int), Slots a 58 [(0, p0), (1, p1), (7, v53), (8, (.bool x448)), (9, (.int .i64 x449))] ∧ Heap w0 [oA (rList rBool) v53 xs447] w ∧ iter f504 n (xs447, x448, x449) = some res502) _ ⟨xs222, false, (0 : Int), S.sub ⟨rfl, rfl, rfl, rfl, rfl, trivial⟩, H, hit503⟩ ?_
    rintro n a w ⟨xs447, x448, x449, S, H, hit503⟩
    obtain ⟨m507, o508, rfl, hm, hc509⟩ := iter_step hit503
    rw [hf505] at hm
    refine wp_seq (wp_seq (region_plain ?_))
    refine lq (.int .i64 x449) S (q_move rfl) fun a S => ?_
    refine lq p0 S (q_move rfl) fun a S => ?_
    refine lq p0 S (q_nilCheck rfl ((hat33 0 _ rfl).isP)) fun a S => ?_
    refine lq (pAdd p0 3) S (q_fieldAddr' 3 27 rfl ((hat33 0 _ rfl).isP) Tryz.underlying29 rfl Tryz.sizeOf27) fun a S => ?_
    refine lx_e v36 S trivial (by decide) rfl trivial (q_load1 rfl Tryz.isAgg27 (by rintro _ rfl; exact (At.of_add (m := 3) (j := 0) ((hat33 3 _ rfl).ext H.ext)))) (fun a S => ?_)
    refine lq (.int .i64 (a0.2.2.2.length : Int)) S (q_lenSl rfl (h37).isSl rfl Tryz.underlying27) fun a S => ?_
    refine lq (.bool (decide (x449 < (a0.2.2.2.length : Int)))) S (q_lss rfl rfl) fun a S => ?_
    refine lx_nil (thenN ?_)
    refine cond_b S rfl (fun hc510 => ?_) (fun hc510 => ?_)
    ·have hm := ite_t hc510 hm
     refine wp_skip (thenN ?_)
     obtain ⟨K513, hK514, hm⟩ := join_elim hm
     refine seq_cut (fun a w => ∃ (xs511 : List Bool) (x512 : Bool), Slots a 58 [(0, p0), (1, p1), (7, v53), (8, (.bool x512)), (9, (.int .i64 x449))] ∧ Heap w0 [oA (rList rBool) v53 xs511] w ∧ K513 xs511 x512 = some o508) ?_ ?_
     ·rintro a w ⟨xs511, x512, S, H, hm⟩
      subst hK514
      refine region_plain ?_
      refine lq (.int .i64 x449) S (q_move rfl) fun a S => ?_
      refine lq (.int .i64 (W (x449 + (1 : Int)))) S (q_add rfl rfl) fun a S => ?_
      refine lq (.int .i64 (W (x449 + (1 : Int)))) S (q_assign rfl) fun a S => ?_
      refine lx_nil ?_
      exact ⟨m507, Nat.lt_succ_self _, xs511, x512, (W (x449 + (1 : Int))), S.sub ⟨rfl, rfl, rfl, rfl, rfl, trivial⟩, H, it_cont hm hc509⟩
     ·skip
      refine wp_block ?_
      refine wp_seq (region_plain ?_)
      refine lq p0 S (q_move rfl) fun a S => ?_
      refine lq p0 S (q_nilCheck rfl ((hat33 0 _ rfl).isP)) fun a S => ?_
      refine lq (pAdd p0 3) S (q_fieldAddr' 3 27 rfl ((hat33 0 _ rfl).isP) Tryz.underlying29 rfl Tryz.sizeOf27) fun a S => ?_
      refine lx_e v36 S trivial (by decide) rfl trivial (q_load1 rfl Tryz.isAgg27 (by rintro _ rfl; exact (At.of_add (m := 3) (j := 0) ((hat33 3 _ rfl).ext H.ext)))) (fun a S => ?_)
      refine lq (.int .i64 x449) S (q_move rfl) fun a S => ?_
      obtain ⟨x515, e516, hm⟩ := bind_some hm
      obtain ⟨c517, h518, hat519⟩ := (h37).elem (idx_some e516).2
      obtain ⟨c520, c521, rfl, h522, h523⟩ := h518
      obtain rfl := h522
      obtain ⟨c524, c525, rfl, h526, h527⟩ := h523
      obtain rfl := h526
      obtain rfl := h527
      have hlt := lt_of_idx (idx_some e516).2
      refine lq (ePtr v36 (x449.toNat * 3)) S (q_indexAddr rfl (h37).isSl rfl (idx_some e516).1 hlt Tryz.underlying27 Tryz.sizeOf62) fun a S => ?_
      refine lx_e (.agg #[(.int .i64 x515.1), (.int .i64 x515.2.1), (.int .i64 x515.2.2)]) S trivial (by decide) rfl trivial (q_loadA (cs := [(.int .i64 x515.1), (.int .i64 x515.2.1), (.int .i64 x515.2.2)]) rfl ((hat519 0 _ rfl).isP) Tryz.isAgg62 Tryz.sizeOf62 (by rintro _ rfl; exact (fun j u hu => (hat519 j u hu).ext H.ext))) (fun a S => ?_)
      refine lx_alloc S trivial (by decide) rfl H Tryz.zeroValue62 rfl (fun b528 w529 H => ⟨trivial, fun a S => ?_⟩)
      refine lx_storeBox (o := 0) (i := 0) (us := [(.int .i64 x515.1), (.int .i64 x515.2.1), (.int .i64 x515.2.2)]) (cs' := [(.int .i64 x515.1), (.int .i64 x515.2.1), (.int .i64 x515.2.2)]) S trivial rfl H rfl rfl rfl rfl Tryz.sizeOf62 (Nat.le_of_ble_eq_true rfl) (List.forall_mem_cons.2 ⟨rfl, (List.forall_mem_cons.2 ⟨rfl, (List.forall_mem_cons.2 ⟨rfl, (fun _ h => nomatch h)⟩)⟩)⟩) rfl (fun w531 H => ⟨trivial, fun a S => ?_⟩)
      change Heap w0 [bA b528 [(.int .i64 x515.1), (.int .i64 x515.2.1), (.int .i64 x515.2.2)] 62, oA (rList rBool) v53 xs447] w531 at H
      refine lx_nil (thenN ?_)
      refine wp_seq (region_plain ?_)
      refine lq v53 S (q_move rfl) fun a S => ?_
      refine lq (pAdd (bp b528) 0) S (q_fieldAddr' 0 2 rfl (isP_bp _) Tryz.underlying62 rfl Tryz.sizeOf2) fun a S => ?_
      refine lx_e (.int .i64 x515.1) S trivial (by decide) rfl trivial (q_load1 rfl Tryz.isAgg2 (by rintro _ rfl; exact (At.of_add (m := 0) (j := 0) (boxAt (i := 0) H rfl (j := 0) rfl)))) (fun a S => ?_)
      obtain ⟨x532, e533, hm⟩ := bind_some hm
      have hlt := lt_of_idx (idx_some e533).2
      refine lq (ePtr v53 (x515.1.toNat * 1)) S (q_indexAddr rfl (H.isSl 1 rfl) rfl (idx_some e533).1 hlt Tryz.underlying65 Tryz.sizeOf4) fun a S => ?_
      obtain ⟨c534, h535, hat536⟩ := (H.rdAt 1 rfl).elem (idx_some e533).2
      obtain rfl := h535
      refine lx_e (.bool x532) S trivial (by decide) rfl trivial (q_load1 rfl Tryz.isAgg4 (by rintro _ rfl; exact (hat536 0 _ rfl))) (fun a S => ?_)
      refine lq (.bool x532) S (q_move rfl) fun a S => ?_
      obtain ⟨t537, e538, hm⟩ := bind_some hm
      refine lx_cut 7 (fun a w => Slots a 58 [(0, p0), (1, p1), (7, v53), (8, (.bool x448)), (9, (.int .i64 x449)), (10, (bp b528)), (48, (.bool t537))] ∧ Heap w0 [bA b528 [(.int .i64 x515.1), (.int .i64 x515.2.1), (.int .i64 x515.2.2)] 62, oA (rList rBool) v53 xs447] w) ?_ ?_
      ·by_cases hc539 : x532 = true
       ·have hm := ite_t hc539 e538
        refine lx_q v53 S (want_b rfl rfl hc539) (by decide) (q_move rfl) (fun a S => ?_)
        refine lx_q (pAdd (bp b528) 2) S (want_b rfl rfl hc539) (by decide) (q_fieldAddr' 2 2 rfl (isP_bp _) Tryz.underlying62 rfl Tryz.sizeOf2) (fun a S => ?_)
        refine lx_e (.int .i64 x515.2.2) S (want_b rfl rfl hc539) (by decide) rfl trivial (q_load1 rfl Tryz.isAgg2 (by rintro _ rfl; exact (At.of_add (m := 2) (j := 0) (boxAt (i := 0) H rfl (j := 2) rfl)))) (fun a S => ?_)
        obtain ⟨x540, e541, hm⟩ := bind_some hm
        have hlt := lt_of_idx (idx_some e541).2
        refine lx_q (ePtr v53 (x515.2.2.toNat * 1)) S (want_b rfl rfl hc539) (by decide) (q_indexAddr rfl (H.isSl 1 rfl) rfl (idx_some e541).1 hlt Tryz.underlying65 Tryz.sizeOf4) (fun a S => ?_)
        obtain ⟨c542, h543, hat544⟩ := (H.rdAt 1 rfl).elem (idx_some e541).2
        obtain rfl := h543
        refine lx_e (.bool x540) S (want_b rfl rfl hc539) (by decide) rfl trivial (q_load1 rfl Tryz.isAgg4 (by rintro _ rfl; exact (hat544 0 _ rfl))) (fun a S => ?_)
        refine lx_q (.bool (!x540)) S (want_b rfl rfl hc539) (by decide) (q_not rfl) (fun a S => ?_)
        refine lq (.bool (!x540)) S (q_pickT' rfl hc539 rfl) fun a S => ?_
        refine lx_nil ?_
        obtain rfl := Option.some.inj hm
        exact ⟨S.sub ⟨rfl, rfl, rfl, rfl, rfl, rfl, rfl, trivial⟩, H⟩
       ·have hm := ite_f (eq_false_of_ne_true hc539) e538
        have hc539 : x532 = false := eq_false_of_ne_true hc539
        refine lx_skip S rfl rfl (isB_ne hc539) (by decide) (fun a S => ?_)
        refine lx_skip S rfl rfl (isB_ne hc539) (by decide) (fun a S => ?_)
        refine lx_skip S rfl rfl (isB_ne hc539) (by decide) (fun a S => ?_)
        refine lx_skip S rfl rfl (isB_ne hc539) (by decide) (fun a S => ?_)
        refine lx_skip S rfl rfl (isB_ne hc539) (by decide) (fun a S => ?_)
        refine lx_skip S rfl rfl (isB_ne hc539) (by decide) (fun a S => ?_)
        refine lq (.bool false) S (q_pickF' rfl hc539 rfl) fun a S => ?_
        refine lx_nil ?_
        obtain rfl := Option.some.inj hm
        exact ⟨S.sub ⟨rfl, rfl, rfl, rfl, rfl, rfl, rfl, trivial⟩, H⟩
      ·rintro a w ⟨S, H⟩
       refine lq (.bool t537) S (q_move rfl) fun a S => ?_
       obtain ⟨t545, e546, hm⟩ := bind_some hm
       refine lx_cut 3 (fun a w => Slots a 58 [(0, p0), (1, p1), (7, v53), (8, (.bool x448)), (9, (.int .i64 x449)), (10, (bp b528)), (52, (.bool t545))] ∧ Heap w0 [bA b528 [(.int .i64 x515.1), (.int .i64 x515.2.1), (.int .i64 x515.2.2)] 62, oA (rList rBool) v53 xs447] w) ?_ ?_
       ·by_cases hc547 : t537 = true
        ·have hm := ite_t hc547 e546
         refine lx_q p1 S (want_b rfl rfl hc547) (by decide) (q_move rfl) (fun a S => ?_)
         obtain ⟨x550, e551, hm⟩ := bind_some hm
         refine lx_call (xs := [.tmp 10, .tmp 50]) S (want_b rfl rfl hc547) (by decide) rfl rfl Tryz.call61 ((spec_l15Inert_ok (rdPtr_box H 0 rfl ⟨[(.int .i64 x515.1)], [(.int .i64 x515.2.1), (.int .i64 x515.2.2)], rfl, rfl, ⟨[(.int .i64 x515.2.1)], [(.int .i64 x515.2.2)], rfl, rfl, rfl⟩⟩) (H.arg h1) e551).mono ?_)
         rintro e w548 ⟨rfl, Hc549⟩
         have H := H.call0 Hc549
         refine ⟨_, rfl, trivial, fun a S => ?_⟩
         refine lq (.bool x550) S (q_pickT' rfl hc547 rfl) fun a S => ?_
         refine lx_nil ?_
         obtain rfl := Option.some.inj hm
         exact ⟨S.sub ⟨rfl, rfl, rfl, rfl, rfl, rfl, rfl, trivial⟩, H⟩
        ·have hm := ite_f (eq_false_of_ne_true hc547) e546
         have hc547 : t537 = false := eq_false_of_ne_true hc547
         refine lx_skip S rfl rfl (isB_ne hc547) (by decide) (fun a S => ?_)
         refine lx_skip S rfl rfl (isB_ne hc547) (by decide) (fun a S => ?_)
         refine lq (.bool false) S (q_pickF' rfl hc547 rfl) fun a S => ?_
         refine lx_nil ?_
         obtain rfl := Option.some.inj hm
         exact ⟨S.sub ⟨rfl, rfl, rfl, rfl, rfl, rfl, rfl, trivial⟩, H⟩
       ·rintro a w ⟨S, H⟩
        refine lx_nil (thenN ?_)
        refine cond_b S rfl (fun hc553 => ?_) (fun hc553 => ?_)
        ·have hm := ite_t hc553 hm
         refine wp_seq (region_plain ?_)
         refine lq v53 S (q_move rfl) fun a S => ?_
         refine lq (pAdd (bp b528) 2) S (q_fieldAddr' 2 2 rfl (isP_bp _) Tryz.underlying62 rfl Tryz.sizeOf2) fun a S => ?_
         refine lx_e (.int .i64 x515.2.2) S trivial (by decide) rfl trivial (q_load1 rfl Tryz.isAgg2 (by rintro _ rfl; exact (At.of_add (m := 2) (j := 0) (boxAt (i := 0) H rfl (j := 2) rfl)))) (fun a S => ?_)
         obtain ⟨x554, e555, hm⟩ := bind_some hm
         have hlt := lt_of_idx (idx_some e555).2
         refine lq (ePtr v53 (x515.2.2.toNat * 1)) S (q_indexAddr rfl (H.isSl 1 rfl) rfl (idx_some e555).1 hlt Tryz.underlying65 Tryz.sizeOf4) fun a S => ?_
         have H : Heap w0 [oA (rList rBool) v53 xs447, bA b528 [(.int .i64 x515.1), (.int .i64 x515.2.1), (.int .i64 x515.2.2)] 62] w := H.front 1 rfl
         refine lx_storeElem (r := rBool) (us := [(.bool true)]) (off := 0) (e' := true) S trivial rfl H.putE (ev_zero rfl) rfl (idx_some e555).2 rfl Tryz.sizeOf4 (Nat.le_of_ble_eq_true rfl) (List.forall_mem_cons.2 ⟨rfl, (fun _ h => nomatch h)⟩) (Upd.full rfl (fun w G hG => by cases (show G = [] from hG); exact ⟨rfl, rfl⟩)) (fun w556 H => ⟨trivial, fun a S => ?_⟩)
         refine lx_nil (thenN ?_)
         refine region_plain ?_
         refine lq (.bool true) S (q_assign rfl) fun a S => ?_
         refine lx_nil ?_
         refine inBlock_norm ?_
         have H : Heap w0 [oA (rList rBool) v53 (xs447.set x515.2.2.toNat true)] w556 := H.sel [0] (by decide)
         exact ⟨(xs447.set x515.2.2.toNat true), true, S.sub ⟨rfl, rfl, rfl, rfl, rfl, trivial⟩, H, hm⟩
        ·have hm := ite_f hc553 hm
         refine wp_skip ?_
         refine inBlock_norm ?_
         have H : Heap w0 [oA (rList rBool) v53 xs447] w := H.sel [1] (by decide)
         exact ⟨xs447, x448, S.sub ⟨rfl, rfl, rfl, rfl, rfl, trivial⟩, H, hm⟩
    ·have hm := ite_f hc510 hm
     refine wp_exit ?_
     refine then_exit ?_
     refine then_exit ?_
     refine inBlock_exit ?_
     obtain rfl := it_brk hm hc509
     exact ⟨xs447, x448, S.sub ⟨rfl, rfl, rfl, rfl, trivial⟩, H, rfl⟩
  ·have hm := ite_f hc396 hm
   refine wp_exit ?_
   refine then_exit ?_
   refine then_exit ?_
   refine inBlock_exit ?_
   obtain rfl := it_brk hm hc395
   exact ⟨xs222, S.sub ⟨rfl, trivial⟩, H, rfl⟩

/-- spec.l15Cycles -/
def spec_l15Cycles_m (fuel : Nat) (a0 : Timpl_Lts) : Option ((List Int)) :=
  (mks a0.1 (0 : Int)).bind fun x50 => (iter (fun (s : (List (List Bool)) × (Int)) => (match s with | (xs80, x82) => (if (decide (x82 < a0.1)) = true then (spec_l15Reach_m fuel a0 x50 x82).bind fun x593 => (app xs80 [x593]).bind fun x601 => some (.inl (x601, (W (x82 + (1 : Int))))) else some (.inr (.inl (xs80)))) : Option (((List (List Bool)) × (Int)) ⊕ (((List (List Bool))) ⊕ ((List Int)))))) fuel (([] : List (List Bool)), (0 : Int))).bind fun res106 => ctl (β := (List (List Bool))) (ρ := (List Int)) (τ := (List Int)) res106 (fun (xs104) => (iter (fun (s : (List Int) × (Int) × (Int)) => (match s with | (xs269, x271, x272) => (if (decide (x272 < a0.1)) = true then (iter (fun (s : (Int) × (Int)) => (match s with | (x481, x482) => (if (decide (x482 < x272)) = true then some (decide (x481 < (0 : Int))) else some false).bind fun t547 => (if t547 = true then join (κ := Int → Option (((Int) × (Int)) ⊕ ((Int) ⊕ ((List Int))))) (fun (x551 : Int) => some (.inl (x551, (W (x482 + (1 : Int)))))) (fun K552 => (idx xs104 x272).bind fun x554 => (idx x554 x482).bind fun x561 => (if x561 = true then (idx xs104 x482).bind fun x569 => (idx x569 x272).bind fun x576 => some x576 else some false).bind fun t566 => (if t566 = true then (idx xs269 x482).bind fun x582 => (K552 x582) else (K552 x481))) else some (.inr (.inl (x481)))) : Option (((Int) × (Int)) ⊕ ((Int) ⊕ ((List Int)))))) fuel ((-1 : Int), (0 : Int))).bind fun res526 => ctl (β := Int) (ρ := (List Int)) (τ := (((List Int) × (Int) × (Int)) ⊕ (((List Int)) ⊕ ((List Int))))) res526 (fun (x525) => join (κ := Int → Int → Option (((List Int) × (Int) × (Int)) ⊕ (((List Int)) ⊕ ((List Int))))) (fun (x531 : Int) (x532 : Int) => (app xs269 [x532]).bind fun x538 => some (.inl (x538, x531, (W (x272 + (1 : Int)))))) (fun K533 => (if (decide (x525 < (0 : Int))) = true then (K533 (W (x271 + (1 : Int))) x271) else (K533 x271 x525)))) (fun q => some (.inr (.inr q))) else some (.inr (.inl (xs269)))) : Option (((List Int) × (Int) × (Int)) ⊕ (((List Int)) ⊕ ((List Int)))))) fuel (([] : List Int), (0 : Int), (0 : Int))).bind fun res430 => ctl (β := (List Int)) (ρ := (List Int)) (τ := (List Int)) res430 (fun (xs428) => some (xs428)) (fun q => some (q))) (fun q => some (q))
set_option maxRecDepth 20000 in
theorem spec_l15Cycles_ok {w0 : World} {fuel : Nat} {p0 : Value} {a0 : Timpl_Lts} {r : (List Int)} (h0 : Rd (rPtr Rimpl_Lts) w0 p0 a0) (hm : spec_l15Cycles_m fuel a0 = some r) :
  Calls Tryz.prog 32 #[p0] w0 fun e w => ∃ (v0 : Value), e = .returned (v0) ∧ Heap w0 [oA (rList (rInt .i64)) v0 r] w := by
 unfold spec_l15Cycles_m at hm
 have H := Heap.start w0
 obtain ⟨c31, h32, hat33⟩ := h0.ptr
 obtain ⟨c38, c39, rfl, h40, h41⟩ := h32
 obtain rfl := h40
 obtain ⟨c42, c43, rfl, h44, h45⟩ := h41
 obtain rfl := h44
 obtain ⟨c46, c47, rfl, h48, h49⟩ := h45
 obtain ⟨v34, rfl, h35⟩ := rd_list h48
 obtain ⟨v36, rfl, h37⟩ := rd_list h49
 refine enter (args := [p0]) Tryz.func32 rfl 80 rfl (Nat.le_of_ble_eq_true rfl) (fun a S => ?_)
 refine wp_seq (region_plain ?_)
 refine lq (.slice none 0 0) S (q_assign rfl) fun a S => ?_
 refine lx_nil (thenN ?_)
 refine wp_seq (region_plain ?_)
 refine lq p0 S (q_move rfl) fun a S => ?_
 refine lq p0 S (q_nilCheck rfl ((hat33 0 _ rfl).isP)) fun a S => ?_
 refine lq (pAdd p0 0) S (q_fieldAddr' 0 2 rfl ((hat33 0 _ rfl).isP) Tryz.underlying29 rfl Tryz.sizeOf2) fun a S => ?_
 refine lx_e (.int .i64 a0.1) S trivial (by decide) rfl trivial (q_load1 rfl Tryz.isAgg2 (by rintro _ rfl; exact (At.of_add (m := 0) (j := 0) ((hat33 0 _ rfl).ext H.ext)))) (fun a S => ?_)
 obtain ⟨x50, e51, hm⟩ := bind_some hm
 obtain ⟨m52, hn, hn2, rfl⟩ := mks_some e51
 refine lx_make (r := (rInt .i64)) (z0 := (0 : Int)) (n := m52) S trivial (by decide) rfl H (by rw [← hn]; rfl) (by rw [← hn]; rfl) Tryz.underlying36 (Tryz.ti2) rfl rfl (by decide) (fun w => ⟨rfl, rfl⟩) hn2 (by decide) (fun v53 w54 H => ⟨trivial, fun a S => ?_⟩)
 refine lq v53 S (q_assign rfl) fun a S => ?_
 refine lx_nil (thenN ?_)
 refine wp_seq (region_plain ?_)
 refine lx_buildSlice0 (r := (rList rBool)) S trivial (by decide) rfl H Tryz.underlying77 Tryz.sizeOf65 (fun v56 w57 H => ⟨trivial, fun a S => ?_⟩)
 refine lq v56 S (q_assign rfl) fun a S => ?_
 refine lx_nil (thenN ?_)
 refine wp_seq (wp_seq (region_plain ?_))
 refine lq (.int .i64 (0 : Int)) S (q_assign rfl) fun a S => ?_
 refine lx_nil (thenN ?_)
 obtain ⟨res106, hit107, hk110⟩ := bind_some hm
 obtain ⟨f108, hf109, hit107⟩ := iter_name hit107
 refine block_loop (fun a w => ∃ (xs104 : List (List Bool)) (v103 : Value), Slots a 80 [(0, p0), (4, v103)] ∧ Heap w0 [oA (rList (rList rBool)) v103 xs104] w ∧ res106 = .inl (xs104)) ?_ ?_
 ·rintro a w ⟨xs104, v103, S, H, rfl⟩
  have hm := ctl_inl hk110
  refine thenN ?_
  refine wp_seq (region_plain ?_)
  refine lx_buildSlice0 (r := (rInt .i64)) S trivial (by decide) rfl H Tryz.underlying36 Tryz.sizeOf2 (fun v111 w112 H => ⟨trivial, fun a S => ?_⟩)
  refine lq v111 S (q_assign rfl) fun a S => ?_
  refine lx_nil (thenN ?_)
  refine wp_seq (region_plain ?_)
  refine lq (.int .i64 (0 : Int)) S (q_assign rfl) fun a S => ?_
  refine lx_nil (thenN ?_)
  refine wp_seq (wp_seq (region_plain ?_))
  refine lq (.int .i64 (0 : Int)) S (q_assign rfl) fun a S => ?_
  refine lx_nil (thenN ?_)
  obtain ⟨res430, hit431, hk434⟩ := bind_some hm
  obtain ⟨f432, hf433, hit431⟩ := iter_name hit431
  refine block_loop (fun a w => ∃ (xs428 : List Int) (v427 : Value), Slots a 80 [(6, v427)] ∧ Heap w0 [oA (rList (rInt .i64)) v427 xs428] w ∧ res430 = .inl (xs428)) ?_ ?_
  ·rintro a w ⟨xs428, v427, S, H, rfl⟩
   have hm := ctl_inl hk434
   refine thenN ?_
   refine wp_seq (region_plain ?_)
   refine lq v427 S (q_move rfl) fun a S => ?_
   refine lq v427 S (q_assign rfl) fun a S => ?_
   refine lx_nil (thenN ?_)
   refine wp_ret ?_
   obtain rfl := Option.some.inj hm
   exact leave1 S rfl rfl ⟨v427, rfl, H⟩
  ·skip
   have H : Heap w0 [oA (rList (rList rBool)) v103 xs104, oA (rList (rInt .i64)) v111 ([] : List Int)] w112 := H.front 1 rfl
   refine loop_ghost (fun n a w => ∃ (xs269 : List Int) (x271 : Int) (x272 : Int) (v268 : Value), Slots a 80 [(0, p0), (4, v103), (6, v268), (7, (.int .i64 x271)), (8, (.int .i64 x272))] ∧ Heap w0 [oA (rList (rList rBool)) v103 xs104, oA (rList (rInt .i64)) v268 xs269] w ∧ iter f432 n (xs269, x271, x272) = some res430) _ ⟨([] : List Int), (0 : Int), (0 : Int), v111, S.sub ⟨rfl, rfl, rfl, rfl, rfl, trivial⟩, H, hit431⟩ ?_
   rintro n a w ⟨xs269, x271, x272, v268, S, H, hit431⟩
   obtain ⟨m435, o436, rfl, hm, hc437⟩ := iter_step hit431
   rw [hf433] at hm
   refine wp_seq (wp_seq (region_plain ?_))
   refine lq (.int .i64 x272) S (q_move rfl) fun a S => ?_
   refine lq p0 S (q_move rfl) fun a S => ?_
   refine lq p0 S (q_nilCheck rfl ((hat33 0 _ rfl).isP)) fun a S => ?_
   refine lq (pAdd p0 0) S (q_fieldAddr' 0 2 rfl ((hat33 0 _ rfl).isP) Tryz.underlying29 rfl Tryz.sizeOf2) fun a S => ?_
   refine lx_e (.int .i64 a0.1) S trivial (by decide) rfl trivial (q_load1 rfl Tryz.isAgg2 (by rintro _ rfl; exact (At.of_add (m := 0) (j := 0) ((hat33 0 _ rfl).ext H.ext)))) (fun a S => ?_)
   refine lq (.bool (decide (x272 < a0.1))) S (q_lss rfl rfl) fun a S => ?_
   refine lx_nil (thenN ?_)
   refine cond_b S rfl (fun hc438 => ?_) (fun hc438 => ?_)
   ·have hm := ite_t hc438 hm
    refine wp_skip (thenN ?_)
    refine wp_seq ?_
    refine wp_block ?_
    refine wp_seq (region_plain ?_)
    refine lq (.int .i64 (-1 : Int)) S (q_assign rfl) fun a S => ?_
    refine lx_nil (thenN ?_)
    refine wp_seq (wp_seq (region_plain ?_))
    refine lq (.int .i64 (0 : Int)) S (q_assign rfl) fun a S => ?_
    refine lx_nil (thenN ?_)
    obtain ⟨res526, hit527, hk530⟩ := bind_some hm
    obtain ⟨f528, hf529, hit527⟩ := iter_name hit527
    refine block_loop (fun a w => ∃ (x525 : Int), Slots a 80 [(0, p0), (4, v103), (6, v268), (7, (.int .i64 x271)), (8, (.int .i64 x272)), (9, (.int .i64 x525))] ∧ Heap w0 [oA (rList (rList rBool)) v103 xs104, oA (rList (rInt .i64)) v268 xs269] w ∧ res526 = .inl (x525)) ?_ ?_
    ·rintro a w ⟨x525, S, H, rfl⟩
     have hm := ctl_inl hk530
     refine thenN ?_
     obtain ⟨K533, hK534, hm⟩ := join_elim hm
     refine seq_cut (fun a w => ∃ (x531 : Int) (x532 : Int), Slots a 80 [(0, p0), (4, v103), (6, v268), (7, (.int .i64 x531)), (8, (.int .i64 x272)), (9, (.int .i64 x532))] ∧ Heap w0 [oA (rList (rList rBool)) v103 xs104, oA (rList (rInt .i64)) v268 xs269] w ∧ K533 x531 x532 = some o436) ?_ ?_
     ·rintro a w ⟨x531, x532, S, H, hm⟩
      subst hK534
      refine region_plain ?_
      refine lq v268 S (q_move rfl) fun a S => ?_
      refine lq (.int .i64 x532) S (q_move rfl) fun a S => ?_
      refine lx_buildSlice (r := (rInt .i64)) (xs := [x532]) (ps := [(0, [(.int .i64 x532)])]) (cs := [(.int .i64 x532)]) (parts := [(0, .tmp 76)]) S trivial (by decide) rfl (H.put0 (A := eA) rfl) rfl Tryz.underlying36 Tryz.sizeOf2 Tryz.zeroValue2 (by decide) ⟨rfl, rfl, Nat.le_of_ble_eq_true rfl, trivial⟩ (by intro zs hz; exact fill_dense hz ⟨rfl, trivial⟩ rfl rfl) rfl (by decide) (fun w F hA => by cases (show F = [] from hA); exact ⟨_, _, [(.int .i64 x532)], _, rfl, rfl, ⟨rfl, rfl⟩, ⟨rfl, rfl⟩⟩) (fun v535 w536 H => ⟨trivial, fun a S => ?_⟩)
      obtain ⟨x538, e539, hm⟩ := bind_some hm
      obtain ⟨hle, hap⟩ := app_some e539
      replace hap := hap.symm
      subst hap
      have H : Heap w0 [oA (rList (rInt .i64)) v535 [x532], oA (rList (rList rBool)) v103 xs104, oA (rList (rInt .i64)) v268 xs269] w536 := H.front 0 rfl
      have H : Heap w0 [oA (rList (rInt .i64)) v268 xs269, oA (rList (rInt .i64)) v535 [x532], oA (rList (rList rBool)) v103 xs104] w536 := H.front 2 rfl
      refine lx_appendOwn (r := (rInt .i64)) S trivial (by decide) rfl H rfl rfl Tryz.underlying36 Tryz.ti2 rfl rfl rfl (by decide) (by decide) hle (fun v540 w541 H => ⟨trivial, fun a S => ?_⟩)
      refine lq v540 S (q_assign rfl) fun a S => ?_
      refine lx_nil ?_
      refine inBlock_norm ?_
      refine thenN ?_
      refine region_plain ?_
      refine lq (.int .i64 x272) S (q_move rfl) fun a S => ?_
      refine lq (.int .i64 (W (x272 + (1 : Int)))) S (q_add rfl rfl) fun a S => ?_
      refine lq (.int .i64 (W (x272 + (1 : Int)))) S (q_assign rfl) fun a S => ?_
      refine lx_nil ?_
      have H : Heap w0 [oA (rList (rList rBool)) v103 xs104, oA (rList (rInt .i64)) v540 (xs269 ++ [x532])] w541 := H.front 1 rfl
      exact ⟨m435, Nat.lt_succ_self _, (xs269 ++ [x532]), x531, (W (x272 + (1 : Int))), v540, S.sub ⟨rfl, rfl, rfl, rfl, rfl, trivial⟩, H, it_cont hm hc437⟩
     ·skip
      refine wp_seq (region_plain ?_)
      refine lq (.int .i64 x525) S (q_move rfl) fun a S => ?_
      refine lq (.bool (decide (x525 < (0 : Int)))) S (q_lss rfl rfl) fun a S => ?_
      refine lx_nil (thenN ?_)
      refine cond_b S rfl (fun hc543 => ?_) (fun hc543 => ?_)
      ·have hm := ite_t hc543 hm
       refine wp_seq (region_plain ?_)
       refine lq (.int .i64 x271) S (q_move rfl) fun a S => ?_
       refine lq (.int .i64 x271) S (q_assign rfl) fun a S => ?_
       refine lx_nil (thenN ?_)
       refine region_plain ?_
       refine lq (.int .i64 x271) S (q_move rfl) fun a S => ?_
       refine lq (.int .i64 (W (x271 + (1 : Int)))) S (q_add rfl rfl) fun a S => ?_
       refine lq (.int .i64 (W (x271 + (1 : Int)))) S (q_assign rfl) fun a S => ?_
       refine lx_nil ?_
       exact ⟨(W (x271 + (1 : Int))), x271, S.sub ⟨rfl, rfl, rfl, rfl, rfl, rfl, trivial⟩, H, hm⟩
      ·have hm := ite_f hc543 hm
       refine wp_skip ?_
       exact ⟨x271, x525, S.sub ⟨rfl, rfl, rfl, rfl, rfl, rfl, trivial⟩, H, hm⟩
    ·skip
     refine loop_ghost (fun n a w => ∃ (x481 : Int) (x482 : Int), Slots a 80 [(0, p0), (4, v103), (6, v268), (7, (.int .i64 x271)), (8, (.int .i64 x272)), (9, (.int .i64 x481)), (10, (.int .i64 x482))] ∧ Heap w0 [oA (rList (rList rBool)) v103 xs104, oA (rList (rInt .i64)) v268 xs269] w ∧ iter f528 n (x481, x482) = some res526) _ ⟨(-1 : Int), (0 : Int), S.sub ⟨rfl, rfl, rfl, rfl, rfl, rfl, rfl, trivial⟩, H, hit527⟩ ?_
     rintro n a w ⟨x481, x482, S, H, hit527⟩
     obtain ⟨m544, o545, rfl, hm, hc546⟩ := iter_step hit527
     rw [hf529] at hm
     refine wp_seq (wp_seq (region_plain ?_))
     refine lq (.int .i64 x482) S (q_move rfl) fun a S => ?_
     refine lq (.int .i64 x272) S (q_move rfl) fun a S => ?_
     refine lq (.bool (decide (x482 < x272))) S (q_lss rfl rfl) fun a S => ?_
     refine lq (.bool (decide (x482 < x272))) S (q_move rfl) fun a S => ?_
     obtain ⟨t547, e548, hm⟩ := bind_some hm
     refine lx_cut 3 (fun a w => Slots a 80 [(0, p0), (4, v103), (6, v268), (7, (.int .i64 x271)), (8, (.int .i64 x272)), (9, (.int .i64 x481)), (10, (.int .i64 x482)), (47, (.bool t547))] ∧ Heap w0 [oA (rList (rList rBool)) v103 xs104, oA (rList (rInt .i64)) v268 xs269] w) ?_ ?_
     ·by_cases hc549 : (decide (x482 < x272)) = true
      ·have hm := ite_t hc549 e548
       refine lx_q (.int .i64 x481) S (want_b rfl rfl hc549) (by decide) (q_move rfl) (fun a S => ?_)
       refine lx_q (.bool (decide (x481 < (0 : Int)))) S (want_b rfl rfl hc549) (by decide) (q_lss rfl rfl) (fun a S => ?_)
       refine lq (.bool (decide (x481 < (0 : Int)))) S (q_pickT' rfl hc549 rfl) fun a S => ?_
       refine lx_nil ?_
       obtain rfl := Option.some.inj hm
       exact ⟨S.sub ⟨rfl, rfl, rfl, rfl, rfl, rfl, rfl, rfl, trivial⟩, H⟩
      ·have hm := ite_f (eq_false_of_ne_true hc549) e548
       have hc549 : (decide (x482 < x272)) = false := eq_false_of_ne_true hc549
       refine lx_skip S rfl rfl (isB_ne hc549) (by decide) (fun a S => ?_)
       refine lx_skip S rfl rfl (isB_ne hc549) (by decide) (fun a S => ?_)
       refine lq (.bool false) S (q_pickF' rfl hc549 rfl) fun a S => ?_
       refine lx_nil ?_
       obtain rfl := Option.some.inj hm
       exact ⟨S.sub ⟨rfl, rfl, rfl, rfl, rfl, rfl, rfl, rfl, trivial⟩, H⟩
     ·rintro a w ⟨S, H⟩
      refine lx_nil (thenN ?_)
      refine cond_b S rfl (fun hc550 => ?_) (fun hc550 => ?_)
      ·have hm := ite_t hc550 hm
       refine wp_skip (thenN ?_)
       obtain ⟨K552, hK553, hm⟩ := join_elim hm
       refine seq_cut (fun a w => ∃ (x551 : Int), Slots a 80 [(0, p0), (4, v103), (6, v268), (7, (.int .i64 x271)), (8, (.int .i64 x272)), (9, (.int .i64 x551)), (10, (.int .i64 x482))] ∧ Heap w0 [oA (rList (rList rBool)) v103 xs104, oA (rList (rInt .i64)) v268 xs269] w ∧ K552 x551 = some o545) ?_ ?_
       ·rintro a w ⟨x551, S, H, hm⟩
        subst hK553
        refine region_plain ?_
        refine lq (.int .i64 x482) S (q_move rfl) fun a S => ?_
        refine lq (.int .i64 (W (x482 + (1 : Int)))) S (q_add rfl rfl) fun a S => ?_
        refine lq (.int .i64 (W (x482 + (1 : Int)))) S (q_assign rfl) fun a S => ?_
        refine lx_nil ?_
        exact ⟨m544, Nat.lt_succ_self _, x551, (W (x482 + (1 : Int))), S.sub ⟨rfl, rfl, rfl, rfl, rfl, rfl, rfl, trivial⟩, H, it_cont hm hc546⟩
       ·skip
        refine wp_block ?_
        refine wp_seq (region_plain ?_)
        refine lq v103 S (q_move rfl) fun a S => ?_
        refine lq (.int .i64 x272) S (q_move rfl) fun a S => ?_
        obtain ⟨x554, e555, hm⟩ := bind_some hm
        have hlt := lt_of_idx (idx_some e555).2
        refine lq (ePtr v103 (x272.toNat * 1)) S (q_indexAddr rfl (H.isSl 0 rfl) rfl (idx_some e555).1 hlt Tryz.underlying77 Tryz.sizeOf65) fun a S => ?_
        obtain ⟨c556, h557, hat558⟩ := (H.rdAt 0 rfl).elem (idx_some e555).2
        obtain ⟨v559, rfl, h560⟩ := rd_list h557
        refine lx_e v559 S trivial (by decide) rfl trivial (q_load1 rfl Tryz.isAgg65 (by rintro _ rfl; exact (hat558 0 _ rfl))) (fun a S => ?_)
        refine lq (.int .i64 x482) S (q_move rfl) fun a S => ?_
        obtain ⟨x561, e562, hm⟩ := bind_some hm
        obtain ⟨c563, h564, hat565⟩ := (h560).elem (idx_some e562).2
        obtain rfl := h564
        have hlt := lt_of_idx (idx_some e562).2
        refine lq (ePtr v559 (x482.toNat * 1)) S (q_indexAddr rfl (h560).isSl rfl (idx_some e562).1 hlt Tryz.underlying65 Tryz.sizeOf4) fun a S => ?_
        refine lx_e (.bool x561) S trivial (by decide) rfl trivial (q_load1 rfl Tryz.isAgg4 (by rintro _ rfl; exact ((hat565 0 _ rfl).ext (Ext.refl _)))) (fun a S => ?_)
        refine lq (.bool x561) S (q_move rfl) fun a S => ?_
        obtain ⟨t566, e567, hm⟩ := bind_some hm
        refine lx_cut 8 (fun a w => Slots a 80 [(0, p0), (4, v103), (6, v268), (7, (.int .i64 x271)), (8, (.int .i64 x272)), (9, (.int .i64 x481)), (10, (.int .i64 x482)), (65, (.bool t566))] ∧ Heap w0 [oA (rList (rList rBool)) v103 xs104, oA (rList (rInt .i64)) v268 xs269] w) ?_ ?_
        ·by_cases hc568 : x561 = true
         ·have hm := ite_t hc568 e567
          refine lx_q v103 S (want_b rfl rfl hc568) (by decide) (q_move rfl) (fun a S => ?_)
          refine lx_q (.int .i64 x482) S (want_b rfl rfl hc568) (by decide) (q_move rfl) (fun a S => ?_)
          obtain ⟨x569, e570, hm⟩ := bind_some hm
          have hlt := lt_of_idx (idx_some e570).2
          refine lx_q (ePtr v103 (x482.toNat * 1)) S (want_b rfl rfl hc568) (by decide) (q_indexAddr rfl (H.isSl 0 rfl) rfl (idx_some e570).1 hlt Tryz.underlying77 Tryz.sizeOf65) (fun a S => ?_)
          obtain ⟨c571, h572, hat573⟩ := (H.rdAt 0 rfl).elem (idx_some e570).2
          obtain ⟨v574, rfl, h575⟩ := rd_list h572
          refine lx_e v574 S (want_b rfl rfl hc568) (by decide) rfl trivial (q_load1 rfl Tryz.isAgg65 (by rintro _ rfl; exact (hat573 0 _ rfl))) (fun a S => ?_)
          refine lx_q (.int .i64 x272) S (want_b rfl rfl hc568) (by decide) (q_move rfl) (fun a S => ?_)
          obtain ⟨x576, e577, hm⟩ := bind_some hm
          obtain ⟨c578, h579, hat580⟩ := (h575).elem (idx_some e577).2
          obtain rfl := h579
          have hlt := lt_of_idx (idx_some e577).2
          refine lx_q (ePtr v574 (x272.toNat * 1)) S (want_b rfl rfl hc568) (by decide) (q_indexAddr rfl (h575).isSl rfl (idx_some e577).1 hlt Tryz.underlying65 Tryz.sizeOf4) (fun a S => ?_)
          refine lx_e (.bool x576) S (want_b rfl rfl hc568) (by decide) rfl trivial (q_load1 rfl Tryz.isAgg4 (by rintro _ rfl; exact ((hat580 0 _ rfl).ext (Ext.refl _)))) (fun a S => ?_)
          refine lq (.bool x576) S (q_pickT' rfl hc568 rfl) fun a S => ?_
          refine lx_nil ?_
          obtain rfl := Option.some.inj hm
          exact ⟨S.sub ⟨rfl, rfl, rfl, rfl, rfl, rfl, rfl, rfl, trivial⟩, H⟩
         ·have hm := ite_f (eq_false_of_ne_true hc568) e567
          have hc568 : x561 = false := eq_false_of_ne_true hc568
          refine lx_skip S rfl rfl (isB_ne hc568) (by decide) (fun a S => ?_)
          refine lx_skip S rfl rfl (isB_ne hc568) (by decide) (fun a S => ?_)
          refine lx_skip S rfl rfl (isB_ne hc568) (by decide) (fun a S => ?_)
          refine lx_skip S rfl rfl (isB_ne hc568) (by decide) (fun a S => ?_)
          refine lx_skip S rfl rfl (isB_ne hc568) (by decide) (fun a S => ?_)
          refine lx_skip S rfl rfl (isB_ne hc568) (by decide) (fun a S => ?_)
          refine lx_skip S rfl rfl (isB_ne hc568) (by decide) (fun a S => ?_)
          refine lq (.bool false) S (q_pickF' rfl hc568 rfl) fun a S => ?_
          refine lx_nil ?_
          obtain rfl := Option.some.inj hm
          exact ⟨S.sub ⟨rfl, rfl, rfl, rfl, rfl, rfl, rfl, rfl, trivial⟩, H⟩
        ·rintro a w ⟨S, H⟩
         refine lx_nil (thenN ?_)
         refine cond_b S rfl (fun hc581 => ?_) (fun hc581 => ?_)
         ·have hm := ite_t hc581 hm
          refine region_plain ?_
          refine lq v268 S (q_move rfl) fun a S => ?_
          refine lq (.int .i64 x482) S (q_move rfl) fun a S => ?_
          obtain ⟨x582, e583, hm⟩ := bind_some hm
          have hlt := lt_of_idx (idx_some e583).2
          refine lq (ePtr v268 (x482.toNat * 1)) S (q_indexAddr rfl (H.isSl 1 rfl) rfl (idx_some e583).1 hlt Tryz.underlying36 Tryz.sizeOf2) fun a S => ?_
          obtain ⟨c584, h585, hat586⟩ := (H.rdAt 1 rfl).elem (idx_some e583).2
          obtain rfl := h585
          refine lx_e (.int .i64 x582) S trivial (by decide) rfl trivial (q_load1 rfl Tryz.isAgg2 (by rintro _ rfl; exact (hat586 0 _ rfl))) (fun a S => ?_)
          refine lq (.int .i64 x582) S (q_assign rfl) fun a S => ?_
          refine lx_nil ?_
          refine inBlock_norm ?_
          exact ⟨x582, S.sub ⟨rfl, rfl, rfl, rfl, rfl, rfl, rfl, trivial⟩, H, hm⟩
         ·have hm := ite_f hc581 hm
          refine wp_skip ?_
          refine inBlock_norm ?_
          exact ⟨x481, S.sub ⟨rfl, rfl, rfl, rfl, rfl, rfl, rfl, trivial⟩, H, hm⟩
      ·have hm := ite_f hc550 hm
       refine wp_exit ?_
       refine then_exit ?_
       refine then_exit ?_
       refine inBlock_exit ?_
       obtain rfl := it_brk hm hc546
       exact ⟨x481, S.sub ⟨rfl, rfl, rfl, rfl, rfl, rfl, trivial⟩, H, rfl⟩
   ·have hm := ite_f hc438 hm
    refine wp_exit ?_
    refine then_exit ?_
    refine then_exit ?_
    refine inBlock_exit ?_
    obtain rfl := it_brk hm hc437
    have H : Heap w0 [oA (rList (rInt .i64)) v268 xs269] w := H.sel [1] (by decide)
    exact ⟨xs269, v268, S.sub ⟨rfl, trivial⟩, H, rfl⟩
 ·skip
  have H : Heap w0 [oA (rList (rInt .i64)) v53 (List.replicate m52 (0 : Int)), oA (rList (rList rBool)) v56 ([] : List (List Bool))] w57 := H.front 1 rfl
  refine loop_ghost (fun n a w => ∃ (xs80 : List (List Bool)) (x82 : Int) (v79 : Value), Slots a 80 [(0, p0), (3, v53), (4, v79), (5, (.int .i64 x82))] ∧ Heap w0 [oA (rList (rInt .i64)) v53 (List.replicate m52 (0 : Int)), oA (rList (rList rBool)) v79 xs80] w ∧ iter f108 n (xs80, x82) = some res106) _ ⟨([] : List (List Bool)), (0 : Int), v56, S.sub ⟨rfl, rfl, rfl, rfl, trivial⟩, H, hit107⟩ ?_
  rintro n a w ⟨xs80, x82, v79, S, H, hit107⟩
  obtain ⟨m587, o588, rfl, hm, hc589⟩ := iter_step hit107
  rw [hf109] at hm
  refine wp_seq (wp_seq (region_plain ?_))
  refine lq (.int .i64 x82) S (q_move rfl) fun a S => ?_
  refine lq p0 S (q_move rfl) fun a S => ?_
  refine lq p0 S (q_nilCheck rfl ((hat33 0 _ rfl).isP)) fun a S => ?_
  refine lq (pAdd p0 0) S (q_fieldAddr' 0 2 rfl ((hat33 0 _ rfl).isP) Tryz.underlying29 rfl Tryz.sizeOf2) fun a S => ?_
  refine lx_e (.int .i64 a0.1) S trivial (by decide) rfl trivial (q_load1 rfl Tryz.isAgg2 (by rintro _ rfl; exact (At.of_add (m := 0) (j := 0) ((hat33 0 _ rfl).ext H.ext)))) (fun a S => ?_)
  refine lq (.bool (decide (x82 < a0.1))) S (q_lss rfl rfl) fun a S => ?_
  refine lx_nil (thenN ?_)
  refine cond_b S rfl (fun hc590 => ?_) (fun hc590 => ?_)
  ·have hm := ite_t hc590 hm
   refine wp_skip (thenN ?_)
   refine wp_seq ?_
   refine wp_block ?_
   refine region_plain ?_
   refine lq v79 S (q_move rfl) fun a S => ?_
   refine lq p0 S (q_move rfl) fun a S => ?_
   refine lq v53 S (q_move rfl) fun a S => ?_
   refine lq (.int .i64 x82) S (q_move rfl) fun a S => ?_
   obtain ⟨x593, e594, hm⟩ := bind_some hm
   refine lx_call (xs := [.tmp 26, .tmp 27, .tmp 28]) S trivial (by decide) rfl rfl Tryz.call52 ((spec_l15Reach_ok (H.arg h0) (H.rdAt 0 rfl)  e594).mono ?_)
   rintro e w591 ⟨v595, rfl, Hc592⟩
   have H := H.call1 Hc592
   refine ⟨_, rfl, trivial, fun a S => ?_⟩
   refine lx_buildSlice (r := (rList rBool)) (xs := [x593]) (ps := [(0, [v595])]) (cs := [v595]) (parts := [(0, .tmp 29)]) S trivial (by decide) rfl H rfl Tryz.underlying77 Tryz.sizeOf65 Tryz.zeroValue65 (by decide) ⟨rfl, (cells_sl (H.isSl 0 rfl)), Nat.le_of_ble_eq_true rfl, trivial⟩ (by intro zs hz; exact fill_dense hz ⟨rfl, trivial⟩ rfl rfl) rfl (by decide) (fun w F hA => ownL_one_mk (ownF (oA_list.1 hA))) (fun v598 w599 H => ⟨trivial, fun a S => ?_⟩)
   obtain ⟨x601, e602, hm⟩ := bind_some hm
   obtain ⟨hle, hap⟩ := app_some e602
   replace hap := hap.symm
   subst hap
   have H : Heap w0 [oA (rList (rList rBool)) v598 [x593], oA (rList (rInt .i64)) v53 (List.replicate m52 (0 : Int)), oA (rList (rList rBool)) v79 xs80] w599 := H.front 0 rfl
   have H : Heap w0 [oA (rList (rList rBool)) v79 xs80, oA (rList (rList rBool)) v598 [x593], oA (rList (rInt .i64)) v53 (List.replicate m52 (0 : Int))] w599 := H.front 2 rfl
   refine lx_appendOwn (r := (rList rBool)) S trivial (by decide) rfl H rfl rfl Tryz.underlying77 Tryz.ti65 rfl rfl rfl (by decide) (by decide) hle (fun v603 w604 H => ⟨trivial, fun a S => ?_⟩)
   refine lq v603 S (q_assign rfl) fun a S => ?_
   refine lx_nil ?_
   refine inBlock_norm ?_
   refine thenN ?_
   refine region_plain ?_
   refine lq (.int .i64 x82) S (q_move rfl) fun a S => ?_
   refine lq (.int .i64 (W (x82 + (1 : Int)))) S (q_add rfl rfl) fun a S => ?_
   refine lq (.int .i64 (W (x82 + (1 : Int)))) S (q_assign rfl) fun a S => ?_
   refine lx_nil ?_
   have H : Heap w0 [oA (rList (rInt .i64)) v53 (List.replicate m52 (0 : Int)), oA (rList (rList rBool)) v603 (xs80 ++ [x593])] w604 := H.front 1 rfl
   exact ⟨m587, Nat.lt_succ_self _, (xs80 ++ [x593]), (W (x82 + (1 : Int))), v603, S.sub ⟨rfl, rfl, rfl, rfl, trivial⟩, H, it_cont hm hc589⟩
  ·have hm := ite_f hc590 hm
   refine wp_exit ?_
   refine then_exit ?_
   refine then_exit ?_
   refine inBlock_exit ?_
   obtain rfl := it_brk hm hc589
   have H : Heap w0 [oA (rList (rList rBool)) v79 xs80] w := H.sel [1] (by decide)
   exact ⟨xs80, v79, S.sub ⟨rfl, rfl, trivial⟩, H, rfl⟩

/-- spec.CyclePartition -/
def spec_CyclePartition_m (fuel : Nat) (a0 : Timpl_Lts) : Option (((List Int) × Int)) :=
  (spec_l11Is_m fuel (a0.1, a0.2.1, a0.2.2.1, a0.2.2.2)).bind fun x54 => (if (!x54) = true then some (([], (1 : Int))) else (spec_l15Cycles_m fuel (a0.1, a0.2.1, a0.2.2.1, a0.2.2.2)).bind fun x61 => some ((x61, (0 : Int))))
set_option maxRecDepth 20000 in
theorem spec_CyclePartition_ok {w0 : World} {fuel : Nat} {p0 : Value} {a0 : Timpl_Lts} {r : ((List Int) × Int)} (h0 : Rd Rimpl_Lts w0 p0 a0) (hm : spec_CyclePartition_m fuel a0 = some r) :
  Calls Tryz.prog 12 #[p0] w0 fun e w => ∃ (v0 : Value), e = .returned (.tuple #[v0, .int .i64 r.2]) ∧ Heap w0 [oA (rList (rInt .i64)) v0 r.1] w := by
 unfold spec_CyclePartition_m at hm
 have H := Heap.start w0
 obtain ⟨c31, rfl, h32⟩ := h0
 obtain ⟨c37, c38, rfl, h39, h40⟩ := h32
 obtain rfl := h39
 obtain ⟨c41, c42, rfl, h43, h44⟩ := h40
 obtain rfl := h43
 obtain ⟨c45, c46, rfl, h47, h48⟩ := h44
 obtain ⟨v33, rfl, h34⟩ := rd_list h47
 obtain ⟨v35, rfl, h36⟩ := rd_list h48
 refine enter (args := [(.agg #[(.int .i64 a0.1), (.int .i64 a0.2.1), v33, v35])]) Tryz.func12 rfl 7 rfl (Nat.le_of_ble_eq_true rfl) (fun a S => ?_)
 refine wp_seq (region_plain ?_)
 refine lx_box S trivial (by decide) rfl H rfl rfl (fun b49 w50 H => ⟨trivial, fun a S => ?_⟩)
 refine lq (.slice none 0 0) S (q_assign rfl) fun a S => ?_
 refine lq (.int .i64 (0 : Int)) S (q_assign rfl) fun a S => ?_
 refine lx_nil (thenN ?_)
 refine wp_seq (wp_seq (region_plain ?_))
 obtain ⟨x54, e55, hm⟩ := bind_some hm
 refine lx_call (xs := [.tmp 1]) S trivial (by decide) rfl rfl Tryz.call19 ((spec_l11Is_ok (rdPtr_box H 0 rfl ⟨[(.int .i64 a0.1)], [(.int .i64 a0.2.1), v33, v35], rfl, rfl, ⟨[(.int .i64 a0.2.1)], [v33, v35], rfl, rfl, ⟨[v33], [v35], rfl, ((H.arg h34)).list_rd, ((H.arg h36)).list_rd⟩⟩⟩) e55).mono ?_)
 rintro e w52 ⟨rfl, Hc53⟩
 have H := H.call0 Hc53
 refine ⟨_, rfl, trivial, fun a S => ?_⟩
 refine lq (.bool (!x54)) S (q_not rfl) fun a S => ?_
 refine lx_nil (thenN ?_)
 refine cond_b S rfl (fun hc57 => ?_) (fun hc57 => ?_)
 ·have hm := ite_t hc57 hm
  refine wp_seq (region_plain ?_)
  refine lq (.slice none 0 0) S (q_assign rfl) fun a S => ?_
  refine lq (.int .i64 (1 : Int)) S (q_assign rfl) fun a S => ?_
  refine lx_nil (thenN ?_)
  refine wp_ret (then_ret ?_)
  obtain rfl := Option.some.inj hm
  have H : Heap w0 [oA (rList (rInt .i64)) (.slice none 0 0) ([] : List Int), bA b49 [(.int .i64 a0.1), (.int .i64 a0.2.1), v33, v35] 29] w52 := H.nilList (rInt .i64)
  have H : Heap w0 [oA (rList (rInt .i64)) (.slice none 0 0) ([] : List Int)] w52 := H.sel [0] (by decide)
  exact leave2 S rfl rfl rfl ⟨(.slice none 0 0), rfl, H⟩
 ·have hm := ite_f hc57 hm
  refine wp_skip (thenN ?_)
  refine wp_seq (region_plain ?_)
  obtain ⟨x61, e62, hm⟩ := bind_some hm
  refine lx_call (xs := [.tmp 1]) S trivial (by decide) rfl rfl Tryz.call32 ((spec_l15Cycles_ok (rdPtr_box H 0 rfl ⟨[(.int .i64 a0.1)], [(.int .i64 a0.2.1), v33, v35], rfl, rfl, ⟨[(.int .i64 a0.2.1)], [v33, v35], rfl, rfl, ⟨[v33], [v35], rfl, ((H.arg h34)).list_rd, ((H.arg h36)).list_rd⟩⟩⟩) e62).mono ?_)
  rintro e w59 ⟨v63, rfl, Hc60⟩
  have H := H.call1 Hc60
  refine ⟨_, rfl, trivial, fun a S => ?_⟩
  refine lq v63 S (q_assign rfl) fun a S => ?_
  refine lq (.int .i64 (0 : Int)) S (q_assign rfl) fun a S => ?_
  refine lx_nil (thenN ?_)
  refine wp_ret ?_
  obtain rfl := Option.some.inj hm
  have H : Heap w0 [oA (rList (rInt .i64)) v63 x61] w59 := H.sel [0] (by decide)
  exact leave2 S rfl rfl rfl ⟨v63, rfl, H⟩

/-- (impl.Lts).internalSets -/
def impl_Lts_internalSets_m (fuel : Nat) (a0 : Timpl_Lts) : Option ((List (List Int))) :=
  (iter (fun (s : (List (List Int)) × (Int)) => (match s with | (xs77, x79) => (if (decide (x79 < a0.1)) = true then (impl_Lts_internal_m fuel (a0.1, a0.2.1, a0.2.2.1, a0.2.2.2) [x79]).bind fun x121 => (app xs77 [x121]).bind fun x129 => some (.inl (x129, (W (x79 + (1 : Int))))) else some (.inr (.inl (xs77)))) : Option (((List (List Int)) × (Int)) ⊕ (((List (List Int))) ⊕ ((List (List Int))))))) fuel ([], (0 : Int))).bind fun res106 => ctl (β := (List (List Int))) (ρ := (List (List Int))) (τ := (List (List Int))) res106 (fun (xs104) => some (xs104)) (fun q => some (q))
set_option maxRecDepth 20000 in
theorem impl_Lts_internalSets_ok {w0 : World} {fuel : Nat} {p0 : Value} {a0 : Timpl_Lts} {r : (List (List Int))} (h0 : Rd Rimpl_Lts w0 p0 a0) (hm : impl_Lts_internalSets_m fuel a0 = some r) :
  Calls Tryz.prog 33 #[p0] w0 fun e w => ∃ (v0 : Value), e = .returned (v0) ∧ Heap w0 [oA (rList (rList (rInt .i64))) v0 r] w := by
 unfold impl_Lts_internalSets_m at hm
 have H := Heap.start w0
 obtain ⟨c31, rfl, h32⟩ := h0
 obtain ⟨c37, c38, rfl, h39, h40⟩ := h32
 obtain rfl := h39
 obtain ⟨c41, c42, rfl, h43, h44⟩ := h40
 obtain rfl := h43
 obtain ⟨c45, c46, rfl, h47, h48⟩ := h44
 obtain ⟨v33, rfl, h34⟩ := rd_list h47
 obtain ⟨v35, rfl, h36⟩ := rd_list h48
 refine enter (args := [(.agg #[(.int .i64 a0.1), (.int .i64 a0.2.1), v33, v35])]) Tryz.func33 rfl 19 rfl (Nat.le_of_ble_eq_true rfl) (fun a S => ?_)
 refine wp_seq (region_plain ?_)
 refine lx_box S trivial (by decide) rfl H rfl rfl (fun b49 w50 H => ⟨trivial, fun a S => ?_⟩)
 refine lq (.slice none 0 0) S (q_assign rfl) fun a S => ?_
 refine lx_nil (thenN ?_)
 refine wp_seq (region_plain ?_)
 refine lq (.slice none 0 0) S (q_assign rfl) fun a S => ?_
 refine lx_nil (thenN ?_)
 refine wp_seq (wp_seq (region_plain ?_))
 refine lq (pAdd (bp b49) 0) S (q_fieldAddr' 0 2 rfl (isP_bp _) Tryz.underlying29 rfl Tryz.sizeOf2) fun a S => ?_
 refine lx_e (.int .i64 a0.1) S trivial (by decide) rfl trivial (q_load1 rfl Tryz.isAgg2 (by rintro _ rfl; exact (At.of_add (m := 0) (j := 0) (boxAt (i := 0) H rfl (j := 0) rfl)))) (fun a S => ?_)
 refine lq (.int .i64 (0 : Int)) S (q_move rfl) fun a S => ?_
 refine lx_nil (thenN ?_)
 obtain ⟨res106, hit107, hk110⟩ := bind_some hm
 obtain ⟨f108, hf109, hit107⟩ := iter_name hit107
 refine block_loop (fun a w => ∃ (xs104 : List (List Int)) (v103 : Value), Slots a 19 [(3, v103)] ∧ Heap w0 [oA (rList (rList (rInt .i64))) v103 xs104] w ∧ res106 = .inl (xs104)) ?_ ?_
 ·rintro a w ⟨xs104, v103, S, H, rfl⟩
  have hm := ctl_inl hk110
  refine thenN ?_
  refine wp_seq (region_plain ?_)
  refine lq v103 S (q_move rfl) fun a S => ?_
  refine lq v103 S (q_assign rfl) fun a S => ?_
  refine lx_nil (thenN ?_)
  refine wp_ret ?_
  obtain rfl := Option.some.inj hm
  exact leave1 S rfl rfl ⟨v103, rfl, H⟩
 ·skip
  have H : Heap w0 [oA (rList (rList (rInt .i64))) (.slice none 0 0) ([] : List (List Int)), bA b49 [(.int .i64 a0.1), (.int .i64 a0.2.1), v33, v35] 29] w50 := H.nilList (rList (rInt .i64))
  have H : Heap w0 [bA b49 [(.int .i64 a0.1), (.int .i64 a0.2.1), v33, v35] 29, oA (rList (rList (rInt .i64))) (.slice none 0 0) ([] : List (List Int))] w50 := H.front 1 rfl
  refine loop_ghost (fun n a w => ∃ (xs77 : List (List Int)) (x79 : Int) (v76 : Value), Slots a 19 [(1, (bp b49)), (3, v76), (6, (.int .i64 a0.1)), (7, (.int .i64 x79))] ∧ Heap w0 [bA b49 [(.int .i64 a0.1), (.int .i64 a0.2.1), v33, v35] 29, oA (rList (rList (rInt .i64))) v76 xs77] w ∧ iter f108 n (xs77, x79) = some res106) _ ⟨[], (0 : Int), (.slice none 0 0), S.sub ⟨rfl, rfl, rfl, rfl, trivial⟩, H, hit107⟩ ?_
  rintro n a w ⟨xs77, x79, v76, S, H, hit107⟩
  obtain ⟨m112, o113, rfl, hm, hc114⟩ := iter_step hit107
  rw [hf109] at hm
  refine wp_seq (region_plain ?_)
  refine lq (.bool (decide (x79 < a0.1))) S (q_lss rfl rfl) fun a S => ?_
  refine lx_nil (thenN ?_)
  refine wp_seq ?_
  refine cond_b S rfl (fun hc115 => ?_) (fun hc115 => ?_)
  ·have hm := ite_t hc115 hm
   refine wp_skip (thenN ?_)
   refine wp_seq ?_
   refine wp_block ?_
   refine wp_seq (region_plain ?_)
   refine lq (.int .i64 x79) S (q_move rfl) fun a S => ?_
   refine lq (.int .i64 x79) S (q_assign rfl) fun a S => ?_
   refine lx_nil (thenN ?_)
   refine region_plain ?_
   refine lq v76 S (q_move rfl) fun a S => ?_
   refine lx_e (.agg #[(.int .i64 a0.1), (.int .i64 a0.2.1), v33, v35]) S trivial (by decide) rfl trivial (q_loadA (cs := [(.int .i64 a0.1), (.int .i64 a0.2.1), v33, v35]) rfl (isP_bp _) Tryz.isAgg29 Tryz.sizeOf29 (by rintro _ rfl; exact (fun j u hu => boxAt (i := 0) H rfl hu))) (fun a S => ?_)
   refine lq (.int .i64 x79) S (q_move rfl) fun a S => ?_
   refine lx_buildSlice (r := (rInt .i64)) (xs := [x79]) (ps := [(0, [(.int .i64 x79)])]) (cs := [(.int .i64 x79)]) (parts := [(0, .tmp 12)]) S trivial (by decide) rfl (H.put0 (A := eA) rfl) rfl Tryz.underlying36 Tryz.sizeOf2 Tryz.zeroValue2 (by decide) ⟨rfl, rfl, Nat.le_of_ble_eq_true rfl, trivial⟩ (by intro zs hz; exact fill_dense hz ⟨rfl, trivial⟩ rfl rfl) rfl (by decide) (fun w F hA => by cases (show F = [] from hA); exact ⟨_, _, [(.int .i64 x79)], _, rfl, rfl, ⟨rfl, rfl⟩, ⟨rfl, rfl⟩⟩) (fun v116 w117 H => ⟨trivial, fun a S => ?_⟩)
   obtain ⟨x121, e122, hm⟩ := bind_some hm
   refine lx_call (xs := [.tmp 11, .tmp 13]) S trivial (by decide) rfl rfl Tryz.call53 ((impl_Lts_internal_ok ⟨[(.int .i64 a0.1), (.int .i64 a0.2.1), v33, v35], rfl, ⟨[(.int .i64 a0.1)], [(.int .i64 a0.2.1), v33, v35], rfl, rfl, ⟨[(.int .i64 a0.2.1)], [v33, v35], rfl, rfl, ⟨[v33], [v35], rfl, ((H.arg h34)).list_rd, ((H.arg h36)).list_rd⟩⟩⟩⟩ (H.rdAt 0 rfl) e122).mono ?_)
   rintro e w119 ⟨v123, rfl, Hc120⟩
   have H := H.call1 Hc120
   refine ⟨_, rfl, trivial, fun a S => ?_⟩
   refine lx_buildSlice (r := (rList (rInt .i64))) (xs := [x121]) (ps := [(0, [v123])]) (cs := [v123]) (parts := [(0, .tmp 14)]) S trivial (by decide) rfl H rfl Tryz.underlying54 Tryz.sizeOf36 Tryz.zeroValue36 (by decide) ⟨rfl, (cells_sl (H.isSl 0 rfl)), Nat.le_of_ble_eq_true rfl, trivial⟩ (by intro zs hz; exact fill_dense hz ⟨rfl, trivial⟩ rfl rfl) rfl (by decide) (fun w F hA => ownL_one_mk (ownF (oA_list.1 hA))) (fun v126 w127 H => ⟨trivial, fun a S => ?_⟩)
   obtain ⟨x129, e130, hm⟩ := bind_some hm
   obtain ⟨hle, hap⟩ := app_some e130
   replace hap := hap.symm
   subst hap
   have H : Heap w0 [oA (rList (rList (rInt .i64))) v126 [x121], oA (rList (rInt .i64)) v116 [x79], bA b49 [(.int .i64 a0.1), (.int .i64 a0.2.1), v33, v35] 29, oA (rList (rList (rInt .i64))) v76 xs77] w127 := H.front 0 rfl
   have H : Heap w0 [oA (rList (rList (rInt .i64))) v76 xs77, oA (rList (rList (rInt .i64))) v126 [x121], oA (rList (rInt .i64)) v116 [x79], bA b49 [(.int .i64 a0.1), (.int .i64 a0.2.1), v33, v35] 29] w127 := H.front 3 rfl
   refine lx_appendOwn (r := (rList (rInt .i64))) S trivial (by decide) rfl H rfl rfl Tryz.underlying54 Tryz.ti36 rfl rfl rfl (by decide) (by decide) hle (fun v131 w132 H => ⟨trivial, fun a S => ?_⟩)
   refine lq v131 S (q_assign rfl) fun a S => ?_
   refine lx_nil ?_
   refine inBlock_norm ?_
   refine thenN ?_
   refine region_plain ?_
   refine lq (.int .i64 (W (x79 + (1 : Int)))) S (q_add rfl rfl) fun a S => ?_
   refine lq (.int .i64 (W (x79 + (1 : Int)))) S (q_move rfl) fun a S => ?_
   refine lx_nil ?_
   have H : Heap w0 [bA b49 [(.int .i64 a0.1), (.int .i64 a0.2.1), v33, v35] 29, oA (rList (rList (rInt .i64))) v131 (xs77 ++ [x121]), oA (rList (rInt .i64)) v116 [x79]] w132 := H.front 2 rfl
   have H : Heap w0 [bA b49 [(.int .i64 a0.1), (.int .i64 a0.2.1), v33, v35] 29, oA (rList (rList (rInt .i64))) v131 (xs77 ++ [x121])] w132 := H.sel [0, 1] (by decide)
   exact ⟨m112, Nat.lt_succ_self _, (xs77 ++ [x121]), (W (x79 + (1 : Int))), v131, S.sub ⟨rfl, rfl, rfl, rfl, trivial⟩, H, it_cont hm hc114⟩
  ·have hm := ite_f hc115 hm
   refine wp_exit ?_
   refine then_exit ?_
   refine then_exit ?_
   refine inBlock_exit ?_
   obtain rfl := it_brk hm hc114
   have H : Heap w0 [oA (rList (rList (rInt .i64))) v76 xs77] w := H.sel [1] (by decide)
   exact ⟨xs77, v76, S.sub ⟨rfl, trivial⟩, H, rfl⟩

/-- impl.upTo -/
def impl_upTo_m (fuel : Nat) (a0 : Int) : Option ((List Int)) :=
  (iter (fun (s : (List Int) × (Int)) => (match s with | (xs46, x48) => (if (decide (x48 < a0)) = true then (app xs46 [x48]).bind fun x78 => some (.inl (x78, (W (x48 + (1 : Int))))) else some (.inr (.inl (xs46)))) : Option (((List Int) × (Int)) ⊕ (((List Int)) ⊕ ((List Int)))))) fuel ([], (0 : Int))).bind fun res65 => ctl (β := (List Int)) (ρ := (List Int)) (τ := (List Int)) res65 (fun (xs63) => some (xs63)) (fun q => some (q))
set_option maxRecDepth 20000 in
theorem impl_upTo_ok {w0 : World} {fuel : Nat} {a0 : Int} {r : (List Int)} (hm : impl_upTo_m fuel a0 = some r) :
  Calls Tryz.prog 34 #[.int .i64 a0] w0 fun e w => ∃ (v0 : Value), e = .returned (v0) ∧ Heap w0 [oA (rList (rInt .i64)) v0 r] w := by
 unfold impl_upTo_m at hm
 have H := Heap.start w0
 refine enter (args := [.int .i64 a0]) Tryz.func34 rfl 15 rfl (Nat.le_of_ble_eq_true rfl) (fun a S => ?_)
 refine wp_seq (region_plain ?_)
 refine lq (.slice none 0 0) S (q_assign rfl) fun a S => ?_
 refine lx_nil (thenN ?_)
 refine wp_seq (region_plain ?_)
 refine lq (.slice none 0 0) S (q_assign rfl) fun a S => ?_
 refine lx_nil (thenN ?_)
 refine wp_seq (wp_seq (region_plain ?_))
 refine lq (.int .i64 a0) S (q_move rfl) fun a S => ?_
 refine lq (.int .i64 (0 : Int)) S (q_move rfl) fun a S => ?_
 refine lx_nil (thenN ?_)
 obtain ⟨res65, hit66, hk69⟩ := bind_some hm
 obtain ⟨f67, hf68, hit66⟩ := iter_name hit66
 refine block_loop (fun a w => ∃ (xs63 : List Int) (v62 : Value), Slots a 15 [(3, v62)] ∧ Heap w0 [oA (rList (rInt .i64)) v62 xs63] w ∧ res65 = .inl (xs63)) ?_ ?_
 ·rintro a w ⟨xs63, v62, S, H, rfl⟩
  have hm := ctl_inl hk69
  refine thenN ?_
  refine wp_seq (region_plain ?_)
  refine lq v62 S (q_move rfl) fun a S => ?_
  refine lq v62 S (q_assign rfl) fun a S => ?_
  refine lx_nil (thenN ?_)
  refine wp_ret ?_
  obtain rfl := Option.some.inj hm
  exact leave1 S rfl rfl ⟨v62, rfl, H⟩
 ·skip
  have H : Heap w0 [oA (rList (rInt .i64)) (.slice none 0 0) ([] : List Int)] w0 := H.nilList (rInt .i64)
  refine loop_ghost (fun n a w => ∃ (xs46 : List Int) (x48 : Int) (v45 : Value), Slots a 15 [(3, v45), (5, (.int .i64 a0)), (6, (.int .i64 x48))] ∧ Heap w0 [oA (rList (rInt .i64)) v45 xs46] w ∧ iter f67 n (xs46, x48) = some res65) _ ⟨[], (0 : Int), (.slice none 0 0), S.sub ⟨rfl, rfl, rfl, trivial⟩, H, hit66⟩ ?_
  rintro n a w ⟨xs46, x48, v45, S, H, hit66⟩
  obtain ⟨m71, o72, rfl, hm, hc73⟩ := iter_step hit66
  rw [hf68] at hm
  refine wp_seq (region_plain ?_)
  refine lq (.bool (decide (x48 < a0))) S (q_lss rfl rfl) fun a S => ?_
  refine lx_nil (thenN ?_)
  refine wp_seq ?_
  refine cond_b S rfl (fun hc74 => ?_) (fun hc74 => ?_)
  ·have hm := ite_t hc74 hm
   refine wp_skip (thenN ?_)
   refine wp_seq ?_
   refine wp_block ?_
   refine wp_seq (region_plain ?_)
   refine lq (.int .i64 x48) S (q_move rfl) fun a S => ?_
   refine lq (.int .i64 x48) S (q_assign rfl) fun a S => ?_
   refine lx_nil (thenN ?_)
   refine region_plain ?_
   refine lq v45 S (q_move rfl) fun a S => ?_
   refine lq (.int .i64 x48) S (q_move rfl) fun a S => ?_
   refine lx_buildSlice (r := (rInt .i64)) (xs := [x48]) (ps := [(0, [(.int .i64 x48)])]) (cs := [(.int .i64 x48)]) (parts := [(0, .tmp 10)]) S trivial (by decide) rfl (H.put0 (A := eA) rfl) rfl Tryz.underlying36 Tryz.sizeOf2 Tryz.zeroValue2 (by decide) ⟨rfl, rfl, Nat.le_of_ble_eq_true rfl, trivial⟩ (by intro zs hz; exact fill_dense hz ⟨rfl, trivial⟩ rfl rfl) rfl (by decide) (fun w F hA => by cases (show F = [] from hA); exact ⟨_, _, [(.int .i64 x48)], _, rfl, rfl, ⟨rfl, rfl⟩, ⟨rfl, rfl⟩⟩) (fun v75 w76 H => ⟨trivial, fun a S => ?_⟩)
   obtain ⟨x78, e79, hm⟩ := bind_some hm
   obtain ⟨hle, hap⟩ := app_some e79
   replace hap := hap.symm
   subst hap
   have H : Heap w0 [oA (rList (rInt .i64)) v75 [x48], oA (rList (rInt .i64)) v45 xs46] w76 := H.front 0 rfl
   have H : Heap w0 [oA (rList (rInt .i64)) v45 xs46, oA (rList (rInt .i64)) v75 [x48]] w76 := H.front 1 rfl
   refine lx_appendOwn (r := (rInt .i64)) S trivial (by decide) rfl H rfl rfl Tryz.underlying36 Tryz.ti2 rfl rfl rfl (by decide) (by decide) hle (fun v80 w81 H => ⟨trivial, fun a S => ?_⟩)
   refine lq v80 S (q_assign rfl) fun a S => ?_
   refine lx_nil ?_
   refine inBlock_norm ?_
   refine thenN ?_
   refine region_plain ?_
   refine lq (.int .i64 (W (x48 + (1 : Int)))) S (q_add rfl rfl) fun a S => ?_
   refine lq (.int .i64 (W (x48 + (1 : Int)))) S (q_move rfl) fun a S => ?_
   refine lx_nil ?_
   exact ⟨m71, Nat.lt_succ_self _, (xs46 ++ [x48]), (W (x48 + (1 : Int))), v80, S.sub ⟨rfl, rfl, rfl, trivial⟩, H, it_cont hm hc73⟩
  ·have hm := ite_f hc74 hm
   refine wp_exit ?_
   refine then_exit ?_
   refine then_exit ?_
   refine inBlock_exit ?_
   obtain rfl := it_brk hm hc73
   exact ⟨xs46, v45, S.sub ⟨rfl, trivial⟩, H, rfl⟩

/-- impl.normal -/
def impl_normal_m (fuel : Nat) (a0 : (List Int)) : Option ((List Int)) :=
  (mks (a0.length : Int) (0 : Int)).bind fun x34 => (iter (fun (s : (List (Int × Int)) × (List Int) × (Int)) => (match s with | (m58, xs59, x60) => (if (decide (x60 < (a0.length : Int))) = true then (idx a0 x60).bind fun x89 => join (κ := List (Int × Int) → Int → Option (((List (Int × Int)) × (List Int) × (Int)) ⊕ (((List Int)) ⊕ ((List Int))))) (fun (m94 : List (Int × Int)) (x95 : Int) => (idx xs59 x60).bind fun _ => some (.inl (m94, (xs59.set x60.toNat x95), (W (x60 + (1 : Int)))))) (fun K96 => (if (!(mget m58 x89).isSome) = true then (K96 (mset m58 x89 (m58.length : Int)) (m58.length : Int)) else (K96 m58 ((mget m58 x89).getD (0 : Int))))) else some (.inr (.inl (xs59)))) : Option (((List (Int × Int)) × (List Int) × (Int)) ⊕ (((List Int)) ⊕ ((List Int)))))) fuel (([] : List (Int × Int)), x34, (0 : Int))).bind fun res80 => ctl (β := (List Int)) (ρ := (List Int)) (τ := (List Int)) res80 (fun (xs79) => some (xs79)) (fun q => some (q))
set_option maxRecDepth 20000 in
theorem impl_normal_ok {w0 : World} {fuel : Nat} {p0 : Value} {a0 : (List Int)} {r : (List Int)} (h0 : Rd (rList (rInt .i64)) w0 p0 a0) (hm : impl_normal_m fuel a0 = some r) :
  Calls Tryz.prog 36 #[p0] w0 fun e w => ∃ (v0 : Value), e = .returned (v0) ∧ Heap w0 [oA (rList (rInt .i64)) v0 r] w := by
 unfold impl_normal_m at hm
 have H := Heap.start w0
 refine enter (args := [p0]) Tryz.func36 rfl 39 rfl (Nat.le_of_ble_eq_true rfl) (fun a S => ?_)
 refine wp_seq (region_plain ?_)
 refine lq (.slice none 0 0) S (q_assign rfl) fun a S => ?_
 refine lx_nil (thenN ?_)
 refine wp_seq (region_plain ?_)
 refine lx_makeMap (fun n : Int => Value.int .i64 n) (fun n : Int => Value.int .i64 n) S trivial (by decide) rfl H (fun r31 w32 H => ⟨trivial, fun a S => ?_⟩)
 refine lq (.map (some r31)) S (q_assign rfl) fun a S => ?_
 refine lx_nil (thenN ?_)
 refine wp_seq (region_plain ?_)
 refine lq p0 S (q_move rfl) fun a S => ?_
 refine lq (.int .i64 (a0.length : Int)) S (q_lenSl rfl (h0).isSl rfl Tryz.underlying36) fun a S => ?_
 obtain ⟨x34, e35, hm⟩ := bind_some hm
 obtain ⟨m36, hn, hn2, rfl⟩ := mks_some e35
 refine lx_make (r := (rInt .i64)) (z0 := (0 : Int)) (n := m36) S trivial (by decide) rfl H (by rw [← hn]; rfl) (by rw [← hn]; rfl) Tryz.underlying36 (Tryz.ti2) rfl rfl (by decide) (fun w => ⟨rfl, rfl⟩) hn2 (by decide) (fun v37 w38 H => ⟨trivial, fun a S => ?_⟩)
 refine lq v37 S (q_assign rfl) fun a S => ?_
 refine lx_nil (thenN ?_)
 refine wp_seq (wp_seq (region_plain ?_))
 refine lq p0 S (q_move rfl) fun a S => ?_
 refine lq (.int .i64 (a0.length : Int)) S (q_lenSl rfl (h0).isSl rfl Tryz.underlying36) fun a S => ?_
 refine lq (.int .i64 (0 : Int)) S (q_move rfl) fun a S => ?_
 refine lx_nil (thenN ?_)
 obtain ⟨res80, hit81, hk84⟩ := bind_some hm
 obtain ⟨f82, hf83, hit81⟩ := iter_name hit81
 refine block_loop (fun a w => ∃ (xs79 : List Int), Slots a 39 [(4, v37)] ∧ Heap w0 [oA (rList (rInt .i64)) v37 xs79] w ∧ res80 = .inl (xs79)) ?_ ?_
 ·rintro a w ⟨xs79, S, H, rfl⟩
  have hm := ctl_inl hk84
  refine thenN ?_
  refine wp_seq (region_plain ?_)
  refine lq v37 S (q_move rfl) fun a S => ?_
  refine lq v37 S (q_assign rfl) fun a S => ?_
  refine lx_nil (thenN ?_)
  refine wp_ret ?_
  obtain rfl := Option.some.inj hm
  exact leave1 S rfl rfl ⟨v37, rfl, H⟩
 ·skip
  have H : Heap w0 [mapA (fun n : Int => Value.int .i64 n) (fun n : Int => Value.int .i64 n) r31 ([] : List (Int × Int)), oA (rList (rInt .i64)) v37 (List.replicate m36 (0 : Int))] w38 := H.front 1 rfl
  refine loop_ghost (fun n a w => ∃ (m58 : List (Int × Int)) (xs59 : List Int) (x60 : Int), Slots a 39 [(3, (.map (some r31))), (4, v37), (13, p0), (14, (.int .i64 (a0.length : Int))), (15, (.int .i64 x60))] ∧ Heap w0 [mapA (fun n : Int => Value.int .i64 n) (fun n : Int => Value.int .i64 n) r31 m58, oA (rList (rInt .i64)) v37 xs59] w ∧ iter f82 n (m58, xs59, x60) = some res80) _ ⟨([] : List (Int × Int)), (List.replicate m36 (0 : Int)), (0 : Int), S.sub ⟨rfl, rfl, rfl, rfl, rfl, trivial⟩, H, hit81⟩ ?_
  rintro n a w ⟨m58, xs59, x60, S, H, hit81⟩
  obtain ⟨m85, o86, rfl, hm, hc87⟩ := iter_step hit81
  rw [hf83] at hm
  refine wp_seq (region_plain ?_)
  refine lq (.bool (decide (x60 < (a0.length : Int)))) S (q_lss rfl rfl) fun a S => ?_
  refine lx_nil (thenN ?_)
  refine wp_seq ?_
  refine cond_b S rfl (fun hc88 => ?_) (fun hc88 => ?_)
  ·have hm := ite_t hc88 hm
   refine wp_skip (thenN ?_)
   refine wp_seq ?_
   refine wp_block ?_
   refine wp_seq (region_plain ?_)
   refine lq (.int .i64 x60) S (q_move rfl) fun a S => ?_
   obtain ⟨x89, e90, hm⟩ := bind_some hm
   obtain ⟨c91, h92, hat93⟩ := (h0).elem (idx_some e90).2
   obtain rfl := h92
   have hlt := lt_of_idx (idx_some e90).2
   refine lq (ePtr p0 (x60.toNat * 1)) S (q_indexAddr rfl (h0).isSl rfl (idx_some e90).1 hlt Tryz.underlying36 Tryz.sizeOf2) fun a S => ?_
   refine lx_e (.int .i64 x89) S trivial (by decide) rfl trivial (q_load1 rfl Tryz.isAgg2 (by rintro _ rfl; exact ((hat93 0 _ rfl).ext H.ext))) (fun a S => ?_)
   refine lq (.int .i64 x60) S (q_assign rfl) fun a S => ?_
   refine lq (.int .i64 x89) S (q_assign rfl) fun a S => ?_
   refine lx_nil (thenN ?_)
   refine wp_seq (region_plain ?_)
   refine lq (.map (some r31)) S (q_move rfl) fun a S => ?_
   refine lq (.int .i64 x89) S (q_move rfl) fun a S => ?_
   refine lx_e (.tuple #[(.int .i64 ((mget m58 x89).getD (0 : Int))), (.bool (mget m58 x89).isSome)]) S trivial (by decide) rfl trivial (q_lookup (key := x89) (z0 := (0 : Int)) (keys_int .i64) rfl rfl Tryz.underlying80 Tryz.underlying2 Tryz.zeroValue2 (by rintro _ rfl; exact H.mapAt 0 rfl)) (fun a S => ?_)
   refine lq (.tuple #[(.int .i64 ((mget m58 x89).getD (0 : Int))), (.bool (mget m58 x89).isSome)]) S (q_move rfl) fun a S => ?_
   refine lq (.int .i64 ((mget m58 x89).getD (0 : Int))) S (q_extract rfl rfl) fun a S => ?_
   refine lq (.bool (mget m58 x89).isSome) S (q_extract rfl rfl) fun a S => ?_
   refine lq (.int .i64 ((mget m58 x89).getD (0 : Int))) S (q_assign rfl) fun a S => ?_
   refine lq (.bool (mget m58 x89).isSome) S (q_assign rfl) fun a S => ?_
   refine lx_nil (thenN ?_)
   obtain ⟨K96, hK97, hm⟩ := join_elim hm
   refine seq_cut (fun a w => ∃ (m94 : List (Int × Int)) (x95 : Int), Slots a 39 [(3, (.map (some r31))), (4, v37), (5, (.int .i64 x60)), (7, (.int .i64 x95)), (13, p0), (14, (.int .i64 (a0.length : Int))), (15, (.int .i64 x60))] ∧ Heap w0 [mapA (fun n : Int => Value.int .i64 n) (fun n : Int => Value.int .i64 n) r31 m94, oA (rList (rInt .i64)) v37 xs59] w ∧ K96 m94 x95 = some o86) ?_ ?_
   ·rintro a w ⟨m94, x95, S, H, hm⟩
    subst hK97
    refine region_plain ?_
    refine lq v37 S (q_move rfl) fun a S => ?_
    refine lq (.int .i64 x60) S (q_move rfl) fun a S => ?_
    refine lq (.int .i64 x95) S (q_move rfl) fun a S => ?_
    obtain ⟨x98, e99, hm⟩ := bind_some hm
    have hlt := lt_of_idx (idx_some e99).2
    refine lq (ePtr v37 (x60.toNat * 1)) S (q_indexAddr rfl (H.isSl 1 rfl) rfl (idx_some e99).1 hlt Tryz.underlying36 Tryz.sizeOf2) fun a S => ?_
    have H : Heap w0 [oA (rList (rInt .i64)) v37 xs59, mapA (fun n : Int => Value.int .i64 n) (fun n : Int => Value.int .i64 n) r31 m94] w := H.front 1 rfl
    refine lx_storeElem (r := (rInt .i64)) (us := [(.int .i64 x95)]) (off := 0) (e' := x95) S trivial rfl H.putE (ev_zero rfl) rfl (idx_some e99).2 rfl Tryz.sizeOf2 (Nat.le_of_ble_eq_true rfl) (List.forall_mem_cons.2 ⟨rfl, (fun _ h => nomatch h)⟩) (Upd.full rfl (fun w G hG => by cases (show G = [] from hG); exact ⟨rfl, rfl⟩)) (fun w100 H => ⟨trivial, fun a S => ?_⟩)
    refine lx_nil ?_
    refine inBlock_norm ?_
    refine thenN ?_
    refine region_plain ?_
    refine lq (.int .i64 (W (x60 + (1 : Int)))) S (q_add rfl rfl) fun a S => ?_
    refine lq (.int .i64 (W (x60 + (1 : Int)))) S (q_move rfl) fun a S => ?_
    refine lx_nil ?_
    have H : Heap w0 [mapA (fun n : Int => Value.int .i64 n) (fun n : Int => Value.int .i64 n) r31 m94, oA (rList (rInt .i64)) v37 (xs59.set x60.toNat x95)] w100 := H.front 1 rfl
    exact ⟨m85, Nat.lt_succ_self _, m94, (xs59.set x60.toNat x95), (W (x60 + (1 : Int))), S.sub ⟨rfl, rfl, rfl, rfl, rfl, trivial⟩, H, it_cont hm hc87⟩
   ·skip
    refine wp_seq (region_plain ?_)
    refine lq (.bool (mget m58 x89).isSome) S (q_move rfl) fun a S => ?_
    refine lq (.bool (!(mget m58 x89).isSome)) S (q_not rfl) fun a S => ?_
    refine lx_nil (thenN ?_)
    refine cond_b S rfl (fun hc101 => ?_) (fun hc101 => ?_)
    ·have hm := ite_t hc101 hm
     refine wp_seq (region_plain ?_)
     refine lq (.map (some r31)) S (q_move rfl) fun a S => ?_
     refine lx_e (.int .i64 (m58.length : Int)) S trivial (by decide) rfl trivial (q_lenMap rfl rfl Tryz.underlying80 (by rintro _ rfl; exact H.mapAt 0 rfl)) (fun a S => ?_)
     refine lq (.int .i64 (m58.length : Int)) S (q_assign rfl) fun a S => ?_
     refine lx_nil (thenN ?_)
     refine region_plain ?_
     refine lq (.map (some r31)) S (q_move rfl) fun a S => ?_
     refine lq (.int .i64 x89) S (q_move rfl) fun a S => ?_
     refine lq (.int .i64 (m58.length : Int)) S (q_move rfl) fun a S => ?_
     refine lx_mapUpdate (key := x89) (val := (m58.length : Int)) (keys_int .i64) S trivial rfl H rfl rfl rfl Tryz.underlying80 Tryz.underlying2 (fun w102 H => ⟨trivial, fun a S => ?_⟩)
     refine lx_nil ?_
     exact ⟨(mset m58 x89 (m58.length : Int)), (m58.length : Int), S.sub ⟨rfl, rfl, rfl, rfl, rfl, rfl, rfl, trivial⟩, H, hm⟩
    ·have hm := ite_f hc101 hm
     refine wp_skip ?_
     exact ⟨m58, ((mget m58 x89).getD (0 : Int)), S.sub ⟨rfl, rfl, rfl, rfl, rfl, rfl, rfl, trivial⟩, H, hm⟩
  ·have hm := ite_f hc88 hm
   refine wp_exit ?_
   refine then_exit ?_
   refine then_exit ?_
   refine inBlock_exit ?_
   obtain rfl := it_brk hm hc87
   have H : Heap w0 [oA (rList (rInt .i64)) v37 xs59] w := H.sel [1] (by decide)
   exact ⟨xs59, S.sub ⟨rfl, trivial⟩, H, rfl⟩

/-- impl.CyclePartition -/
def impl_CyclePartition_m (fuel : Nat) (a0 : Timpl_Lts) : Option (((List Int) × Int)) :=
  (impl_ValidLts_m fuel (a0.1, a0.2.1, a0.2.2.1, a0.2.2.2)).bind fun x54 => (if (!x54) = true then some (([], (1 : Int))) else (impl_Lts_internalSets_m fuel (a0.1, a0.2.1, a0.2.2.1, a0.2.2.2)).bind fun x61 => (impl_upTo_m fuel (a0.1, a0.2.1, a0.2.2.1, a0.2.2.2).1).bind fun x91 => (iter (fun (s : (List Int) × (Int)) => (match s with | (xs211, x212) => (if (decide (x212 < (x61.length : Int))) = true then (idx x61 x212).bind fun x345 => (iter (fun (s : (List Int) × (Int)) => (match s with | (xs384, x385) => (if (decide (x385 < (x345.length : Int))) = true then join (κ := List Int → Option (((List Int) × (Int)) ⊕ (((List Int)) ⊕ (((List Int) × Int))))) (fun (xs428 : List Int) => some (.inl (xs428, (W (x385 + (1 : Int)))))) (fun K429 => (idx x345 x385).bind fun x431 => (idx x61 x431).bind fun x436 => (slices_Contains__int64_int64_m fuel x436 x212).bind fun x445 => (if x445 = true then (idx xs384 x212).bind fun x449 => (idx xs384 x212).bind fun _ => (K429 (xs384.set x212.toNat (if x431 < x449 then x431 else x449))) else (K429 xs384))) else some (.inr (.inl (xs384)))) : Option (((List Int) × (Int)) ⊕ (((List Int)) ⊕ (((List Int) × Int)))))) fuel (xs211, (0 : Int))).bind fun res419 => ctl (β := (List Int)) (ρ := ((List Int) × Int)) (τ := (((List Int) × (Int)) ⊕ (((List Int)) ⊕ (((List Int) × Int))))) res419 (fun (xs418) => some (.inl (xs418, (W (x212 + (1 : Int)))))) (fun q => some (.inr (.inr q))) else some (.inr (.inl (xs211)))) : Option (((List Int) × (Int)) ⊕ (((List Int)) ⊕ (((List Int) × Int)))))) fuel (x91, (0 : Int))).bind fun res329 => ctl (β := (List Int)) (ρ := ((List Int) × Int)) (τ := ((List Int) × Int)) res329 (fun (xs328) => (impl_normal_m fuel xs328).bind fun x336 => some ((x336, (0 : Int)))) (fun q => some (q)))
set_option maxRecDepth 20000 in
theorem impl_CyclePartition_ok {w0 : World} {fuel : Nat} {p0 : Value} {a0 : Timpl_Lts} {r : ((List Int) × Int)} (hG : Glob Tryz.prog w0) (h0 : Rd Rimpl_Lts w0 p0 a0) (hm : impl_CyclePartition_m fuel a0 = some r) :
  Calls Tryz.prog 13 #[p0] w0 fun e w => ∃ (v0 : Value), e = .returned (.tuple #[v0, .int .i64 r.2]) ∧ Heap w0 [oA (rList (rInt .i64)) v0 r.1] w := by
 unfold impl_CyclePartition_m at hm
 have H := Heap.start w0
 obtain ⟨c31, rfl, h32⟩ := h0
 obtain ⟨c37, c38, rfl, h39, h40⟩ := h32
 obtain rfl := h39
 obtain ⟨c41, c42, rfl, h43, h44⟩ := h40
 obtain rfl := h43
 obtain ⟨c45, c46, rfl, h47, h48⟩ := h44
 obtain ⟨v33, rfl, h34⟩ := rd_list h47
 obtain ⟨v35, rfl, h36⟩ := rd_list h48
 refine enter (args := [(.agg #[(.int .i64 a0.1), (.int .i64 a0.2.1), v33, v35])]) Tryz.func13 rfl 50 rfl (Nat.le_of_ble_eq_true rfl) (fun a S => ?_)
 refine wp_seq (region_plain ?_)
 refine lx_box S trivial (by decide) rfl H rfl rfl (fun b49 w50 H => ⟨trivial, fun a S => ?_⟩)
 refine lq (.slice none 0 0) S (q_assign rfl) fun a S => ?_
 refine lq (.int .i64 (0 : Int)) S (q_assign rfl) fun a S => ?_
 refine lx_nil (thenN ?_)
 refine wp_seq (wp_seq (region_plain ?_))
 refine lx_e (.agg #[(.int .i64 a0.1), (.int .i64 a0.2.1), v33, v35]) S trivial (by decide) rfl trivial (q_loadA (cs := [(.int .i64 a0.1), (.int .i64 a0.2.1), v33, v35]) rfl (isP_bp _) Tryz.isAgg29 Tryz.sizeOf29 (by rintro _ rfl; exact (fun j u hu => boxAt (i := 0) H rfl hu))) (fun a S => ?_)
 obtain ⟨x54, e55, hm⟩ := bind_some hm
 refine lx_call (xs := [.tmp 10]) S trivial (by decide) rfl rfl Tryz.call23 ((impl_ValidLts_ok (hG.ext H.ext) ⟨[(.int .i64 a0.1), (.int .i64 a0.2.1), v33, v35], rfl, ⟨[(.int .i64 a0.1)], [(.int .i64 a0.2.1), v33, v35], rfl, rfl, ⟨[(.int .i64 a0.2.1)], [v33, v35], rfl, rfl, ⟨[v33], [v35], rfl, ((H.arg h34)).list_rd, ((H.arg h36)).list_rd⟩⟩⟩⟩ e55).mono ?_)
 rintro e w52 ⟨rfl, Hc53⟩
 have H := H.call0 Hc53
 refine ⟨_, rfl, trivial, fun a S => ?_⟩
 refine lq (.bool (!x54)) S (q_not rfl) fun a S => ?_
 refine lx_nil (thenN ?_)
 refine cond_b S rfl (fun hc57 => ?_) (fun hc57 => ?_)
 ·have hm := ite_t hc57 hm
  refine wp_seq (region_plain ?_)
  refine lq (.slice none 0 0) S (q_assign rfl) fun a S => ?_
  refine lq (.int .i64 (1 : Int)) S (q_assign rfl) fun a S => ?_
  refine lx_nil (thenN ?_)
  refine wp_ret (then_ret ?_)
  obtain rfl := Option.some.inj hm
  have H : Heap w0 [oA (rList (rInt .i64)) (.slice none 0 0) ([] : List Int), bA b49 [(.int .i64 a0.1), (.int .i64 a0.2.1), v33, v35] 29] w52 := H.nilList (rInt .i64)
  have H : Heap w0 [oA (rList (rInt .i64)) (.slice none 0 0) ([] : List Int)] w52 := H.sel [0] (by decide)
  exact leave2 S rfl rfl rfl ⟨(.slice none 0 0), rfl, H⟩
 ·have hm := ite_f hc57 hm
  refine wp_skip (thenN ?_)
  refine wp_seq (region_plain ?_)
  refine lx_e (.agg #[(.int .i64 a0.1), (.int .i64 a0.2.1), v33, v35]) S trivial (by decide) rfl trivial (q_loadA (cs := [(.int .i64 a0.1), (.int .i64 a0.2.1), v33, v35]) rfl (isP_bp _) Tryz.isAgg29 Tryz.sizeOf29 (by rintro _ rfl; exact (fun j u hu => boxAt (i := 0) H rfl hu))) (fun a S => ?_)
  obtain ⟨x61, e62, hm⟩ := bind_some hm
  refine lx_call (xs := [.tmp 13]) S trivial (by decide) rfl rfl Tryz.call33 ((impl_Lts_internalSets_ok ⟨[(.int .i64 a0.1), (.int .i64 a0.2.1), v33, v35], rfl, ⟨[(.int .i64 a0.1)], [(.int .i64 a0.2.1), v33, v35], rfl, rfl, ⟨[(.int .i64 a0.2.1)], [v33, v35], rfl, rfl, ⟨[v33], [v35], rfl, ((H.arg h34)).list_rd, ((H.arg h36)).list_rd⟩⟩⟩⟩ e62).mono ?_)
  rintro e w59 ⟨v63, rfl, Hc60⟩
  have H := H.call1 Hc60
  refine ⟨_, rfl, trivial, fun a S => ?_⟩
  refine lq v63 S (q_assign rfl) fun a S => ?_
  refine lx_nil ?_
  have H0 := H
  have hb66 : Rd (rList (rList (rInt .i64))) w59 v63 x61 := H0.rdAt 0 rfl
  have hb67 : Rd (rPtr Rimpl_Lts) w59 (bp b49) (a0.1, a0.2.1, a0.2.2.1, a0.2.2.2) := (rdPtr_box H 1 rfl ⟨[(.int .i64 a0.1)], [(.int .i64 a0.2.1), v33, v35], rfl, rfl, ⟨[(.int .i64 a0.2.1)], [v33, v35], rfl, rfl, ⟨[v33], [v35], rfl, ((H.arg h34)).list_rd, ((H.arg h36)).list_rd⟩⟩⟩)
  obtain ⟨c68, h69, hat70⟩ := hb67.ptr
  obtain ⟨c75, c76, rfl, h77, h78⟩ := h69
  obtain rfl := h77
  obtain ⟨c79, c80, rfl, h81, h82⟩ := h78
  obtain rfl := h81
  obtain ⟨c83, c84, rfl, h85, h86⟩ := h82
  obtain ⟨v71, rfl, h72⟩ := rd_list h85
  obtain ⟨v73, rfl, h74⟩ := rd_list h86
  have h87 := H0.arg h34
  have h88 := H0.arg h36
  have hG := hG.ext H0.ext
  have H := Heap.start w59
  refine thenN ?_
  refine wp_seq (region_plain ?_)
  refine lq (pAdd (bp b49) 0) S (q_fieldAddr' 0 2 rfl ((hat70 0 _ rfl).isP) Tryz.underlying29 rfl Tryz.sizeOf2) fun a S => ?_
  refine lx_e (.int .i64 (a0.1, a0.2.1, a0.2.2.1, a0.2.2.2).1) S trivial (by decide) rfl trivial (q_load1 rfl Tryz.isAgg2 (by rintro _ rfl; exact (At.of_add (m := 0) (j := 0) ((hat70 0 _ rfl).ext H.ext)))) (fun a S => ?_)
  obtain ⟨x91, e92, hm⟩ := bind_some hm
  refine lx_call (xs := [.tmp 16]) S trivial (by decide) rfl rfl Tryz.call34 ((impl_upTo_ok  e92).mono ?_)
  rintro e w89 ⟨v93, rfl, Hc90⟩
  have H := H.call1 Hc90
  refine ⟨_, rfl, trivial, fun a S => ?_⟩
  refine lq v93 S (q_assign rfl) fun a S => ?_
  refine lx_nil (thenN ?_)
  refine wp_seq (wp_seq (region_plain ?_))
  refine lq v63 S (q_move rfl) fun a S => ?_
  refine lq (.int .i64 (x61.length : Int)) S (q_lenSl rfl (hb66).isSl rfl Tryz.underlying54) fun a S => ?_
  refine lq (.int .i64 (0 : Int)) S (q_move rfl) fun a S => ?_
  refine lx_nil (thenN ?_)
  obtain ⟨res329, hit330, hk333⟩ := bind_some hm
  obtain ⟨f331, hf332, hit330⟩ := iter_name hit330
  refine block_loop (fun a w => ∃ (xs328 : List Int), Slots a 50 [(5, v93)] ∧ Heap w59 [oA (rList (rInt .i64)) v93 xs328] w ∧ res329 = .inl (xs328)) ?_ ?_
  ·rintro a w ⟨xs328, S, H, rfl⟩
   have hm := ctl_inl hk333
   refine thenN ?_
   refine wp_seq (region_plain ?_)
   refine lq v93 S (q_move rfl) fun a S => ?_
   obtain ⟨x336, e337, hm⟩ := bind_some hm
   refine lx_call (xs := [.tmp 48]) S trivial (by decide) rfl rfl Tryz.call36 ((impl_normal_ok (H.rdAt 0 rfl) e337).mono ?_)
   rintro e w334 ⟨v338, rfl, Hc335⟩
   have H := H.call1 Hc335
   refine ⟨_, rfl, trivial, fun a S => ?_⟩
   refine lq v338 S (q_assign rfl) fun a S => ?_
   refine lq (.int .i64 (0 : Int)) S (q_assign rfl) fun a S => ?_
   refine lx_nil (thenN ?_)
   refine wp_ret ?_
   obtain rfl := Option.some.inj hm
   have H : Heap w0 [oA (rList (rInt .i64)) v338 x336, oA (rList (rInt .i64)) v93 xs328, oA (rList (rList (rInt .i64))) v63 x61, bA b49 [(.int .i64 a0.1), (.int .i64 a0.2.1), v33, v35] 29] w334 := H0.call H
   have H : Heap w0 [oA (rList (rInt .i64)) v338 x336] w334 := H.sel [0] (by decide)
   exact leave2 S rfl rfl rfl ⟨v338, rfl, H⟩
  ·skip
   refine loop_ghost (fun n a w => ∃ (xs211 : List Int) (x212 : Int), Slots a 50 [(4, v63), (5, v93), (18, v63), (19, (.int .i64 (x61.length : Int))), (20, (.int .i64 x212))] ∧ Heap w59 [oA (rList (rInt .i64)) v93 xs211] w ∧ iter f331 n (xs211, x212) = some res329) _ ⟨x91, (0 : Int), S.sub ⟨rfl, rfl, rfl, rfl, rfl, trivial⟩, H, hit330⟩ ?_
   rintro n a w ⟨xs211, x212, S, H, hit330⟩
   obtain ⟨m341, o342, rfl, hm, hc343⟩ := iter_step hit330
   rw [hf332] at hm
   refine wp_seq (region_plain ?_)
   refine lq (.bool (decide (x212 < (x61.length : Int)))) S (q_lss rfl rfl) fun a S => ?_
   refine lx_nil (thenN ?_)
   refine wp_seq ?_
   refine cond_b S rfl (fun hc344 => ?_) (fun hc344 => ?_)
   ·have hm := ite_t hc344 hm
    refine wp_skip (thenN ?_)
    refine wp_seq ?_
    refine wp_block ?_
    refine wp_seq (region_plain ?_)
    refine lq (.int .i64 x212) S (q_move rfl) fun a S => ?_
    obtain ⟨x345, e346, hm⟩ := bind_some hm
    obtain ⟨c347, h348, hat349⟩ := (hb66).elem (idx_some e346).2
    obtain ⟨v350, rfl, h351⟩ := rd_list h348
    have hlt := lt_of_idx (idx_some e346).2
    refine lq (ePtr v63 (x212.toNat * 1)) S (q_indexAddr rfl (hb66).isSl rfl (idx_some e346).1 hlt Tryz.underlying54 Tryz.sizeOf36) fun a S => ?_
    refine lx_e v350 S trivial (by decide) rfl trivial (q_load1 rfl Tryz.isAgg36 (by rintro _ rfl; exact ((hat349 0 _ rfl).ext H.ext))) (fun a S => ?_)
    refine lq (.int .i64 x212) S (q_assign rfl) fun a S => ?_
    refine lq v350 S (q_assign rfl) fun a S => ?_
    refine lx_nil (thenN ?_)
    refine wp_seq (region_plain ?_)
    refine lq v350 S (q_move rfl) fun a S => ?_
    refine lq (.int .i64 (x345.length : Int)) S (q_lenSl rfl (h351).isSl rfl Tryz.underlying36) fun a S => ?_
    refine lq (.int .i64 (0 : Int)) S (q_move rfl) fun a S => ?_
    refine lx_nil (thenN ?_)
    obtain ⟨res419, hit420, hk423⟩ := bind_some hm
    obtain ⟨f421, hf422, hit420⟩ := iter_name hit420
    refine block_loop (fun a w => ∃ (xs418 : List Int), Slots a 50 [(4, v63), (5, v93), (18, v63), (19, (.int .i64 (x61.length : Int))), (20, (.int .i64 x212))] ∧ Heap w59 [oA (rList (rInt .i64)) v93 xs418] w ∧ res419 = .inl (xs418)) ?_ ?_
    ·rintro a w ⟨xs418, S, H, rfl⟩
     have hm := ctl_inl hk423
     refine inBlock_norm ?_
     refine thenN ?_
     refine region_plain ?_
     refine lq (.int .i64 (W (x212 + (1 : Int)))) S (q_add rfl rfl) fun a S => ?_
     refine lq (.int .i64 (W (x212 + (1 : Int)))) S (q_move rfl) fun a S => ?_
     refine lx_nil ?_
     exact ⟨m341, Nat.lt_succ_self _, xs418, (W (x212 + (1 : Int))), S.sub ⟨rfl, rfl, rfl, rfl, rfl, trivial⟩, H, it_cont hm hc343⟩
    ·skip
     refine loop_ghost (fun n a w => ∃ (xs384 : List Int) (x385 : Int), Slots a 50 [(4, v63), (5, v93), (6, (.int .i64 x212)), (18, v63), (19, (.int .i64 (x61.length : Int))), (20, (.int .i64 x212)), (25, v350), (26, (.int .i64 (x345.length : Int))), (27, (.int .i64 x385))] ∧ Heap w59 [oA (rList (rInt .i64)) v93 xs384] w ∧ iter f421 n (xs384, x385) = some res419) _ ⟨xs211, (0 : Int), S.sub ⟨rfl, rfl, rfl, rfl, rfl, rfl, rfl, rfl, rfl, trivial⟩, H, hit420⟩ ?_
     rintro n a w ⟨xs384, x385, S, H, hit420⟩
     obtain ⟨m424, o425, rfl, hm, hc426⟩ := iter_step hit420
     rw [hf422] at hm
     refine wp_seq (region_plain ?_)
     refine lq (.bool (decide (x385 < (x345.length : Int)))) S (q_lss rfl rfl) fun a S => ?_
     refine lx_nil (thenN ?_)
     refine wp_seq ?_
     refine cond_b S rfl (fun hc427 => ?_) (fun hc427 => ?_)
     ·have hm := ite_t hc427 hm
      refine wp_skip (thenN ?_)
      obtain ⟨K429, hK430, hm⟩ := join_elim hm
      refine seq_cut (fun a w => ∃ (xs428 : List Int), Slots a 50 [(4, v63), (5, v93), (6, (.int .i64 x212)), (18, v63), (19, (.int .i64 (x61.length : Int))), (20, (.int .i64 x212)), (25, v350), (26, (.int .i64 (x345.length : Int))), (27, (.int .i64 x385))] ∧ Heap w59 [oA (rList (rInt .i64)) v93 xs428] w ∧ K429 xs428 = some o425) ?_ ?_
      ·rintro a w ⟨xs428, S, H, hm⟩
       subst hK430
       refine region_plain ?_
       refine lq (.int .i64 (W (x385 + (1 : Int)))) S (q_add rfl rfl) fun a S => ?_
       refine lq (.int .i64 (W (x385 + (1 : Int)))) S (q_move rfl) fun a S => ?_
       refine lx_nil ?_
       exact ⟨m424, Nat.lt_succ_self _, xs428, (W (x385 + (1 : Int))), S.sub ⟨rfl, rfl, rfl, rfl, rfl, rfl, rfl, rfl, rfl, trivial⟩, H, it_cont hm hc426⟩
      ·skip
       refine wp_block ?_
       refine wp_seq (region_plain ?_)
       obtain ⟨x431, e432, hm⟩ := bind_some hm
       obtain ⟨c433, h434, hat435⟩ := (h351).elem (idx_some e432).2
       obtain rfl := h434
       have hlt := lt_of_idx (idx_some e432).2
       refine lq (ePtr v350 (x385.toNat * 1)) S (q_indexAddr rfl (h351).isSl rfl (idx_some e432).1 hlt Tryz.underlying36 Tryz.sizeOf2) fun a S => ?_
       refine lx_e (.int .i64 x431) S trivial (by decide) rfl trivial (q_load1 rfl Tryz.isAgg2 (by rintro _ rfl; exact ((hat435 0 _ rfl).ext H.ext))) (fun a S => ?_)
       refine lq (.int .i64 x431) S (q_assign rfl) fun a S => ?_
       refine lx_nil (thenN ?_)
       refine wp_seq (region_plain ?_)
       refine lq v63 S (q_move rfl) fun a S => ?_
       refine lq (.int .i64 x431) S (q_move rfl) fun a S => ?_
       obtain ⟨x436, e437, hm⟩ := bind_some hm
       obtain ⟨c438, h439, hat440⟩ := (hb66).elem (idx_some e437).2
       obtain ⟨v441, rfl, h442⟩ := rd_list h439
       have hlt := lt_of_idx (idx_some e437).2
       refine lq (ePtr v63 (x431.toNat * 1)) S (q_indexAddr rfl (hb66).isSl rfl (idx_some e437).1 hlt Tryz.underlying54 Tryz.sizeOf36) fun a S => ?_
       refine lx_e v441 S trivial (by decide) rfl trivial (q_load1 rfl Tryz.isAgg36 (by rintro _ rfl; exact ((hat440 0 _ rfl).ext H.ext))) (fun a S => ?_)
       refine lq (.int .i64 x212) S (q_move rfl) fun a S => ?_
       obtain ⟨x445, e446, hm⟩ := bind_some hm
       refine lx_call (xs := [.tmp 34, .tmp 35]) S trivial (by decide) rfl rfl Tryz.call35 ((slices_Contains__int64_int64_ok (H.arg h442)  e446).mono ?_)
       rintro e w443 ⟨rfl, Hc444⟩
       have H := H.call0 Hc444
       refine ⟨_, rfl, trivial, fun a S => ?_⟩
       refine lx_nil (thenN ?_)
       refine cond_b S rfl (fun hc448 => ?_) (fun hc448 => ?_)
       ·have hm := ite_t hc448 hm
        refine region_plain ?_
        refine lq v93 S (q_move rfl) fun a S => ?_
        refine lq (.int .i64 x212) S (q_move rfl) fun a S => ?_
        refine lq v93 S (q_move rfl) fun a S => ?_
        refine lq (.int .i64 x212) S (q_move rfl) fun a S => ?_
        obtain ⟨x449, e450, hm⟩ := bind_some hm
        have hlt := lt_of_idx (idx_some e450).2
        refine lq (ePtr v93 (x212.toNat * 1)) S (q_indexAddr rfl (H.isSl 0 rfl) rfl (idx_some e450).1 hlt Tryz.underlying36 Tryz.sizeOf2) fun a S => ?_
        obtain ⟨c451, h452, hat453⟩ := (H.rdAt 0 rfl).elem (idx_some e450).2
        obtain rfl := h452
        refine lx_e (.int .i64 x449) S trivial (by decide) rfl trivial (q_load1 rfl Tryz.isAgg2 (by rintro _ rfl; exact (hat453 0 _ rfl))) (fun a S => ?_)
        refine lq (.int .i64 x431) S (q_move rfl) fun a S => ?_
        refine lq (.int .i64 (if x431 < x449 then x431 else x449)) S (q_min rfl rfl) fun a S => ?_
        obtain ⟨x454, e455, hm⟩ := bind_some hm
        have hlt := lt_of_idx (idx_some e455).2
        refine lq (ePtr v93 (x212.toNat * 1)) S (q_indexAddr rfl (H.isSl 0 rfl) rfl (idx_some e455).1 hlt Tryz.underlying36 Tryz.sizeOf2) fun a S => ?_
        refine lx_storeElem (r := (rInt .i64)) (us := [(.int .i64 (if x431 < x449 then x431 else x449))]) (off := 0) (e' := (if x431 < x449 then x431 else x449)) S trivial rfl H.putE (ev_zero rfl) rfl (idx_some e455).2 rfl Tryz.sizeOf2 (Nat.le_of_ble_eq_true rfl) (List.forall_mem_cons.2 ⟨rfl, (fun _ h => nomatch h)⟩) (Upd.full rfl (fun w G hG => by cases (show G = [] from hG); exact ⟨rfl, rfl⟩)) (fun w456 H => ⟨trivial, fun a S => ?_⟩)
        refine lx_nil ?_
        refine inBlock_norm ?_
        exact ⟨(xs384.set x212.toNat (if x431 < x449 then x431 else x449)), S.sub ⟨rfl, rfl, rfl, rfl, rfl, rfl, rfl, rfl, rfl, trivial⟩, H, hm⟩
       ·have hm := ite_f hc448 hm
        refine wp_skip ?_
        refine inBlock_norm ?_
        exact ⟨xs384, S.sub ⟨rfl, rfl, rfl, rfl, rfl, rfl, rfl, rfl, rfl, trivial⟩, H, hm⟩
     ·have hm := ite_f hc427 hm
      refine wp_exit ?_
      refine then_exit ?_
      refine then_exit ?_
      refine inBlock_exit ?_
      obtain rfl := it_brk hm hc426
      exact ⟨xs384, S.sub ⟨rfl, rfl, rfl, rfl, rfl, trivial⟩, H, rfl⟩
   ·have hm := ite_f hc344 hm
    refine wp_exit ?_
    refine then_exit ?_
    refine then_exit ?_
    refine inBlock_exit ?_
    obtain rfl := it_brk hm hc343
    exact ⟨xs211, S.sub ⟨rfl, trivial⟩, H, rfl⟩

/-- laws.eqInt64S -/
def laws_eqInt64S_m (fuel : Nat) (a0 : (List Int)) (a1 : (List Int)) : Option (Bool) :=
  (if ((a0.length : Int) != (a1.length : Int)) = true then some (false) else (iter (fun (s : (Int)) => (match s with | (x47) => (if (decide (x47 < (a0.length : Int))) = true then (idx a0 x47).bind fun x74 => (idx a1 x47).bind fun x79 => (if (x74 != x79) = true then some (.inr (.inr false)) else some (.inl ((W (x47 + (1 : Int)))))) else some (.inr (.inl ()))) : Option (((Int)) ⊕ ((Unit) ⊕ (Bool))))) fuel ((0 : Int))).bind fun res63 => ctl (β := Unit) (ρ := Bool) (τ := Bool) res63 (fun _ => some (true)) (fun q => some (q)))
set_option maxRecDepth 20000 in
theorem laws_eqInt64S_ok {w0 : World} {fuel : Nat} {p0 p1 : Value} {a0 : (List Int)} {a1 : (List Int)} {r : Bool} (h0 : Rd (rList (rInt .i64)) w0 p0 a0) (h1 : Rd (rList (rInt .i64)) w0 p1 a1) (hm : laws_eqInt64S_m fuel a0 a1 = some r) :
  Calls Tryz.prog 14 #[p0, p1] w0 fun e w => e = .returned (.bool r) ∧ Heap w0 [] w := by
 unfold laws_eqInt64S_m at hm
 have H := Heap.start w0
 refine enter (args := [p0, p1]) Tryz.func14 rfl 26 rfl (Nat.le_of_ble_eq_true rfl) (fun a S => ?_)
 refine wp_seq (region_plain ?_)
 refine lq (.bool false) S (q_assign rfl) fun a S => ?_
 refine lx_nil (thenN ?_)
 refine wp_seq (wp_seq (region_plain ?_))
 refine lq p0 S (q_move rfl) fun a S => ?_
 refine lq (.int .i64 (a0.length : Int)) S (q_lenSl rfl (h0).isSl rfl Tryz.underlying36) fun a S => ?_
 refine lq p1 S (q_move rfl) fun a S => ?_
 refine lq (.int .i64 (a1.length : Int)) S (q_lenSl rfl (h1).isSl rfl Tryz.underlying36) fun a S => ?_
 refine lq (.bool ((a0.length : Int) != (a1.length : Int))) S (q_neq rfl rfl) fun a S => ?_
 refine lx_nil (thenN ?_)
 refine cond_b S rfl (fun hc31 => ?_) (fun hc31 => ?_)
 ·have hm := ite_t hc31 hm
  refine wp_seq (region_plain ?_)
  refine lq (.bool false) S (q_assign rfl) fun a S => ?_
  refine lx_nil (thenN ?_)
  refine wp_ret (then_ret ?_)
  obtain rfl := Option.some.inj hm
  exact leave1 S rfl rfl ⟨rfl, H⟩
 ·have hm := ite_f hc31 hm
  refine wp_skip (thenN ?_)
  refine wp_seq (wp_seq (region_plain ?_))
  refine lq (.int .i64 (0 : Int)) S (q_assign rfl) fun a S => ?_
  refine lx_nil (thenN ?_)
  obtain ⟨res63, hit64, hk67⟩ := bind_some hm
  obtain ⟨f65, hf66, hit64⟩ := iter_name hit64
  refine block_loop (fun a w => Slots a 26 [] ∧ Heap w0 [] w ∧ res63 = .inl ()) ?_ ?_
  ·rintro a w ⟨S, H, rfl⟩
   have hm := ctl_inl hk67
   refine thenN ?_
   refine wp_seq (region_plain ?_)
   refine lq (.bool true) S (q_assign rfl) fun a S => ?_
   refine lx_nil (thenN ?_)
   refine wp_ret ?_
   obtain rfl := Option.some.inj hm
   exact leave1 S rfl rfl ⟨rfl, H⟩
  ·skip
   refine loop_ghost (fun n a w => ∃ (x47 : Int), Slots a 26 [(0, p0), (1, p1), (5, (.int .i64 x47))] ∧ Heap w0 [] w ∧ iter f65 n (x47) = some res63) _ ⟨(0 : Int), S.sub ⟨rfl, rfl, rfl, trivial⟩, H, hit64⟩ ?_
   rintro n a w ⟨x47, S, H, hit64⟩
   obtain ⟨m68, o69, rfl, hm, hc70⟩ := iter_step hit64
   rw [hf66] at hm
   refine wp_seq (wp_seq (region_plain ?_))
   refine lq (.int .i64 x47) S (q_move rfl) fun a S => ?_
   refine lq p0 S (q_move rfl) fun a S => ?_
   refine lq (.int .i64 (a0.length : Int)) S (q_lenSl rfl (h0).isSl rfl Tryz.underlying36) fun a S => ?_
   refine lq (.bool (decide (x47 < (a0.length : Int)))) S (q_lss rfl rfl) fun a S => ?_
   refine lx_nil (thenN ?_)
   refine cond_b S rfl (fun hc71 => ?_) (fun hc71 => ?_)
   ·have hm := ite_t hc71 hm
    refine wp_skip (thenN ?_)
    refine wp_seq ?_
    refine wp_block ?_
    refine wp_seq ?_
    refine region_drawG (fun w1 => Heap w0 [] w1) (fun i => [].contains i) mixed (by kernel_rfl) (fun w73 he72 => ?_)
    have H := H.later he72
    refine ⟨H.sel [] (by decide), ?_⟩
    refine lq p0 S (q_move rfl) fun a S => ?_
    refine lq (.int .i64 x47) S (q_move rfl) fun a S => ?_
    obtain ⟨x74, e75, hm⟩ := bind_some hm
    obtain ⟨c76, h77, hat78⟩ := (h0).elem (idx_some e75).2
    obtain rfl := h77
    have hlt := lt_of_idx (idx_some e75).2
    refine lq (ePtr p0 (x47.toNat * 1)) S (q_indexAddr rfl (h0).isSl rfl (idx_some e75).1 hlt Tryz.underlying36 Tryz.sizeOf2) fun a S => ?_
    refine lq (.int .i64 x74) S (q_load1 rfl Tryz.isAgg2 (fun w1 hC => ((hat78 0 _ rfl).ext hC.ext))) fun a S => ?_
    refine lq p1 S (q_move rfl) fun a S => ?_
    refine lq (.int .i64 x47) S (q_move rfl) fun a S => ?_
    obtain ⟨x79, e80, hm⟩ := bind_some hm
    obtain ⟨c81, h82, hat83⟩ := (h1).elem (idx_some e80).2
    obtain rfl := h82
    have hlt := lt_of_idx (idx_some e80).2
    refine lq (ePtr p1 (x47.toNat * 1)) S (q_indexAddr rfl (h1).isSl rfl (idx_some e80).1 hlt Tryz.underlying36 Tryz.sizeOf2) fun a S => ?_
    refine lq (.int .i64 x79) S (q_load1 rfl Tryz.isAgg2 (fun w1 hC => ((hat83 0 _ rfl).ext hC.ext))) fun a S => ?_
    refine lq (.bool (x74 != x79)) S (q_neq rfl rfl) fun a S => ?_
    refine lx_nil (thenN ?_)
    refine cond_b S rfl (fun hc84 => ?_) (fun hc84 => ?_)
    ·have hm := ite_t hc84 hm
     refine wp_seq (region_plain ?_)
     refine lq (.bool false) S (q_assign rfl) fun a S => ?_
     refine lx_nil (thenN ?_)
     refine wp_ret (inBlock_ret ?_)
     refine then_ret ?_
     refine then_ret ?_
     refine inBlock_ret ?_
     refine then_ret ?_
     refine then_ret ?_
     obtain rfl := it_brk hm hc70
     have hm := ctl_inr hk67
     obtain rfl := Option.some.inj hm
     exact leave1 S rfl rfl ⟨rfl, H⟩
    ·have hm := ite_f hc84 hm
     refine wp_skip ?_
     refine inBlock_norm ?_
     refine thenN ?_
     refine region_plain ?_
     refine lq (.int .i64 x47) S (q_move rfl) fun a S => ?_
     refine lq (.int .i64 (W (x47 + (1 : Int)))) S (q_add rfl rfl) fun a S => ?_
     refine lq (.int .i64 (W (x47 + (1 : Int)))) S (q_assign rfl) fun a S => ?_
     refine lx_nil ?_
     exact ⟨m68, Nat.lt_succ_self _, (W (x47 + (1 : Int))), S.sub ⟨rfl, rfl, rfl, trivial⟩, H, it_cont hm hc70⟩
   ·have hm := ite_f hc71 hm
    refine wp_exit ?_
    refine then_exit ?_
    refine then_exit ?_
    refine inBlock_exit ?_
    obtain rfl := it_brk hm hc70
    exact ⟨S.sub trivial, H, rfl⟩

/-- laws.markInt64S -/
def laws_markInt64S_m (fuel : Nat) (a0 : (List Int)) (a1 : Int) : Option (Int × (List Int)) :=
  (iter (fun (s : (List Int) × (Int) × (Int)) => (match s with | (xs38, x39, x40) => (if (decide (x40 < (xs38.length : Int))) = true then (idx xs38 x40).bind fun _ => some (.inl ((xs38.set x40.toNat x39), (W (x39 + (1 : Int))), (W (x40 + (1 : Int))))) else some (.inr (.inl (x39, xs38)))) : Option (((List Int) × (Int) × (Int)) ⊕ ((Int × (List Int)) ⊕ (Int × (List Int)))))) fuel (a0, a1, (0 : Int))).bind fun res50 => ctl (β := Int × (List Int)) (ρ := Int × (List Int)) (τ := Int × (List Int)) res50 (fun (x48, xs49) => some ((x48, xs49))) (fun q => some (q))
set_option maxRecDepth 20000 in
theorem laws_markInt64S_ok {w0 : World} {fuel : Nat} {p0 : Value} {a0 : (List Int)} {a1 : Int} {w00 : World} {L : List Asrt} {r : Int × (List Int)} (H : Heap w00 (oA (rList (rInt .i64)) p0 a0 :: L) w0) (hm : laws_markInt64S_m fuel a0 a1 = some r) :
  Calls Tryz.prog 15 #[p0, .int .i64 a1] w0 fun e w => e = .returned (.int .i64 r.1) ∧ Heap w00 (oA (rList (rInt .i64)) p0 r.2 :: L) w := by
 unfold laws_markInt64S_m at hm
 refine enter (args := [p0, .int .i64 a1]) Tryz.func15 rfl 19 rfl (Nat.le_of_ble_eq_true rfl) (fun a S => ?_)
 refine wp_seq (region_plain ?_)
 refine lq (.int .i64 (0 : Int)) S (q_assign rfl) fun a S => ?_
 refine lx_nil (thenN ?_)
 refine wp_seq (wp_seq (region_plain ?_))
 refine lq (.int .i64 (0 : Int)) S (q_assign rfl) fun a S => ?_
 refine lx_nil (thenN ?_)
 obtain ⟨res50, hit51, hk54⟩ := bind_some hm
 obtain ⟨f52, hf53, hit51⟩ := iter_name hit51
 refine block_loop (fun a w => ∃ (x48 : Int) (xs49 : List Int), Slots a 19 [(1, (.int .i64 x48))] ∧ Heap w00 (oA (rList (rInt .i64)) p0 xs49 :: L) w ∧ res50 = .inl (x48, xs49)) ?_ ?_
 ·rintro a w ⟨x48, xs49, S, H, rfl⟩
  have hm := ctl_inl hk54
  refine thenN ?_
  refine wp_seq (region_plain ?_)
  refine lq (.int .i64 x48) S (q_move rfl) fun a S => ?_
  refine lq (.int .i64 x48) S (q_assign rfl) fun a S => ?_
  refine lx_nil (thenN ?_)
  refine wp_ret ?_
  obtain rfl := Option.some.inj hm
  exact leave1 S rfl rfl ⟨rfl, H⟩
 ·skip
  refine loop_ghost (fun n a w => ∃ (xs38 : List Int) (x39 : Int) (x40 : Int), Slots a 19 [(0, p0), (1, (.int .i64 x39)), (5, (.int .i64 x40))] ∧ Heap w00 (oA (rList (rInt .i64)) p0 xs38 :: L) w ∧ iter f52 n (xs38, x39, x40) = some res50) _ ⟨a0, a1, (0 : Int), S.sub ⟨rfl, rfl, rfl, trivial⟩, H, hit51⟩ ?_
  rintro n a w ⟨xs38, x39, x40, S, H, hit51⟩
  obtain ⟨m55, o56, rfl, hm, hc57⟩ := iter_step hit51
  rw [hf53] at hm
  refine wp_seq (wp_seq (region_plain ?_))
  refine lq (.int .i64 x40) S (q_move rfl) fun a S => ?_
  refine lq p0 S (q_move rfl) fun a S => ?_
  refine lq (.int .i64 (xs38.length : Int)) S (q_lenSl rfl (H.isSl 0 rfl) rfl Tryz.underlying36) fun a S => ?_
  refine lq (.bool (decide (x40 < (xs38.length : Int)))) S (q_lss rfl rfl) fun a S => ?_
  refine lx_nil (thenN ?_)
  refine cond_b S rfl (fun hc58 => ?_) (fun hc58 => ?_)
  ·have hm := ite_t hc58 hm
   refine wp_skip (thenN ?_)
   refine wp_seq ?_
   refine wp_block ?_
   refine wp_seq (region_plain ?_)
   refine lq p0 S (q_move rfl) fun a S => ?_
   refine lq (.int .i64 x40) S (q_move rfl) fun a S => ?_
   refine lq (.int .i64 x39) S (q_move rfl) fun a S => ?_
   obtain ⟨x59, e60, hm⟩ := bind_some hm
   have hlt := lt_of_idx (idx_some e60).2
   refine lq (ePtr p0 (x40.toNat * 1)) S (q_indexAddr rfl (H.isSl 0 rfl) rfl (idx_some e60).1 hlt Tryz.underlying36 Tryz.sizeOf2) fun a S => ?_
   refine lx_storeElem (r := (rInt .i64)) (us := [(.int .i64 x39)]) (off := 0) (e' := x39) S trivial rfl H.putE (ev_zero rfl) rfl (idx_some e60).2 rfl Tryz.sizeOf2 (Nat.le_of_ble_eq_true rfl) (List.forall_mem_cons.2 ⟨rfl, (fun _ h => nomatch h)⟩) (Upd.full rfl (fun w G hG => by cases (show G = [] from hG); exact ⟨rfl, rfl⟩)) (fun w61 H => ⟨trivial, fun a S => ?_⟩)
   refine lx_nil (thenN ?_)
   refine region_plain ?_
   refine lq (.int .i64 x39) S (q_move rfl) fun a S => ?_
   refine lq (.int .i64 (W (x39 + (1 : Int)))) S (q_add rfl rfl) fun a S => ?_
   refine lq (.int .i64 (W (x39 + (1 : Int)))) S (q_assign rfl) fun a S => ?_
   refine lx_nil ?_
   refine inBlock_norm ?_
   refine thenN ?_
   refine region_plain ?_
   refine lq (.int .i64 x40) S (q_move rfl) fun a S => ?_
   refine lq (.int .i64 (W (x40 + (1 : Int)))) S (q_add rfl rfl) fun a S => ?_
   refine lq (.int .i64 (W (x40 + (1 : Int)))) S (q_assign rfl) fun a S => ?_
   refine lx_nil ?_
   exact ⟨m55, Nat.lt_succ_self _, (xs38.set x40.toNat x39), (W (x39 + (1 : Int))), (W (x40 + (1 : Int))), S.sub ⟨rfl, rfl, rfl, trivial⟩, H, it_cont hm hc57⟩
  ·have hm := ite_f hc58 hm
   refine wp_exit ?_
   refine then_exit ?_
   refine then_exit ?_
   refine inBlock_exit ?_
   obtain rfl := it_brk hm hc57
   exact ⟨x39, xs38, S.sub ⟨rfl, trivial⟩, H, rfl⟩

/-- laws.heldInt64S -/
def laws_heldInt64S_m (fuel : Nat) (a0 : (List Int)) (a1 : Int) : Option (Int) :=
  (iter (fun (s : (Int) × (Int)) => (match s with | (x40, x41) => (if (decide (x41 < (a0.length : Int))) = true then (idx a0 x41).bind fun x61 => (if (x61 != x40) = true then some (.inr (.inr (-1 : Int))) else some (.inl ((W (x40 + (1 : Int))), (W (x41 + (1 : Int)))))) else some (.inr (.inl (x40)))) : Option (((Int) × (Int)) ⊕ ((Int) ⊕ (Int))))) fuel (a1, (0 : Int))).bind fun res52 => ctl (β := Int) (ρ := Int) (τ := Int) res52 (fun (x51) => some (x51)) (fun q => some (q))
set_option maxRecDepth 20000 in
theorem laws_heldInt64S_ok {w0 : World} {fuel : Nat} {p0 : Value} {a0 : (List Int)} {a1 : Int} {r : Int} (h0 : Rd (rList (rInt .i64)) w0 p0 a0) (hm : laws_heldInt64S_m fuel a0 a1 = some r) :
  Calls Tryz.prog 16 #[p0, .int .i64 a1] w0 fun e w => e = .returned (.int .i64 r) ∧ Heap w0 [] w := by
 unfold laws_heldInt64S_m at hm
 have H := Heap.start w0
 refine enter (args := [p0, .int .i64 a1]) Tryz.func16 rfl 21 rfl (Nat.le_of_ble_eq_true rfl) (fun a S => ?_)
 refine wp_seq (region_plain ?_)
 refine lq (.int .i64 (0 : Int)) S (q_assign rfl) fun a S => ?_
 refine lx_nil (thenN ?_)
 refine wp_seq (wp_seq (region_plain ?_))
 refine lq (.int .i64 (0 : Int)) S (q_assign rfl) fun a S => ?_
 refine lx_nil (thenN ?_)
 obtain ⟨res52, hit53, hk56⟩ := bind_some hm
 obtain ⟨f54, hf55, hit53⟩ := iter_name hit53
 refine block_loop (fun a w => ∃ (x51 : Int), Slots a 21 [(1, (.int .i64 x51))] ∧ Heap w0 [] w ∧ res52 = .inl (x51)) ?_ ?_
 ·rintro a w ⟨x51, S, H, rfl⟩
  have hm := ctl_inl hk56
  refine thenN ?_
  refine wp_seq (region_plain ?_)
  refine lq (.int .i64 x51) S (q_move rfl) fun a S => ?_
  refine lq (.int .i64 x51) S (q_assign rfl) fun a S => ?_
  refine lx_nil (thenN ?_)
  refine wp_ret ?_
  obtain rfl := Option.some.inj hm
  exact leave1 S rfl rfl ⟨rfl, H⟩
 ·skip
  refine loop_ghost (fun n a w => ∃ (x40 : Int) (x41 : Int), Slots a 21 [(0, p0), (1, (.int .i64 x40)), (5, (.int .i64 x41))] ∧ Heap w0 [] w ∧ iter f54 n (x40, x41) = some res52) _ ⟨a1, (0 : Int), S.sub ⟨rfl, rfl, rfl, trivial⟩, H, hit53⟩ ?_
  rintro n a w ⟨x40, x41, S, H, hit53⟩
  obtain ⟨m57, o58, rfl, hm, hc59⟩ := iter_step hit53
  rw [hf55] at hm
  refine wp_seq (wp_seq (region_plain ?_))
  refine lq (.int .i64 x41) S (q_move rfl) fun a S => ?_
  refine lq p0 S (q_move rfl) fun a S => ?_
  refine lq (.int .i64 (a0.length : Int)) S (q_lenSl rfl (h0).isSl rfl Tryz.underlying36) fun a S => ?_
  refine lq (.bool (decide (x41 < (a0.length : Int)))) S (q_lss rfl rfl) fun a S => ?_
  refine lx_nil (thenN ?_)
  refine cond_b S rfl (fun hc60 => ?_) (fun hc60 => ?_)
  ·have hm := ite_t hc60 hm
   refine wp_skip (thenN ?_)
   refine wp_seq ?_
   refine wp_block ?_
   refine wp_seq (wp_seq (region_plain ?_))
   refine lq p0 S (q_move rfl) fun a S => ?_
   refine lq (.int .i64 x41) S (q_move rfl) fun a S => ?_
   obtain ⟨x61, e62, hm⟩ := bind_some hm
   obtain ⟨c63, h64, hat65⟩ := (h0).elem (idx_some e62).2
   obtain rfl := h64
   have hlt := lt_of_idx (idx_some e62).2
   refine lq (ePtr p0 (x41.toNat * 1)) S (q_indexAddr rfl (h0).isSl rfl (idx_some e62).1 hlt Tryz.underlying36 Tryz.sizeOf2) fun a S => ?_
   refine lx_e (.int .i64 x61) S trivial (by decide) rfl trivial (q_load1 rfl Tryz.isAgg2 (by rintro _ rfl; exact ((hat65 0 _ rfl).ext H.ext))) (fun a S => ?_)
   refine lq (.int .i64 x40) S (q_move rfl) fun a S => ?_
   refine lq (.bool (x61 != x40)) S (q_neq rfl rfl) fun a S => ?_
   refine lx_nil (thenN ?_)
   refine cond_b S rfl (fun hc66 => ?_) (fun hc66 => ?_)
   ·have hm := ite_t hc66 hm
    refine wp_seq (region_plain ?_)
    refine lq (.int .i64 (-1 : Int)) S (q_assign rfl) fun a S => ?_
    refine lx_nil (thenN ?_)
    refine wp_ret (then_ret ?_)
    refine inBlock_ret ?_
    refine then_ret ?_
    refine then_ret ?_
    refine inBlock_ret ?_
    refine then_ret ?_
    refine then_ret ?_
    obtain rfl := it_brk hm hc59
    have hm := ctl_inr hk56
    obtain rfl := Option.some.inj hm
    exact leave1 S rfl rfl ⟨rfl, H⟩
   ·have hm := ite_f hc66 hm
    refine wp_skip (thenN ?_)
    refine region_plain ?_
    refine lq (.int .i64 x40) S (q_move rfl) fun a S => ?_
    refine lq (.int .i64 (W (x40 + (1 : Int)))) S (q_add rfl rfl) fun a S => ?_
    refine lq (.int .i64 (W (x40 + (1 : Int)))) S (q_assign rfl) fun a S => ?_
    refine lx_nil ?_
    refine inBlock_norm ?_
    refine thenN ?_
    refine region_plain ?_
    refine lq (.int .i64 x41) S (q_move rfl) fun a S => ?_
    refine lq (.int .i64 (W (x41 + (1 : Int)))) S (q_add rfl rfl) fun a S => ?_
    refine lq (.int .i64 (W (x41 + (1 : Int)))) S (q_assign rfl) fun a S => ?_
    refine lx_nil ?_
    exact ⟨m57, Nat.lt_succ_self _, (W (x40 + (1 : Int))), (W (x41 + (1 : Int))), S.sub ⟨rfl, rfl, rfl, trivial⟩, H, it_cont hm hc59⟩
  ·have hm := ite_f hc60 hm
   refine wp_exit ?_
   refine then_exit ?_
   refine then_exit ?_
   refine inBlock_exit ?_
   obtain rfl := it_brk hm hc59
   exact ⟨x40, S.sub ⟨rfl, trivial⟩, H, rfl⟩

/-- laws.FnExactCyclePartition -/
def laws_FnExactCyclePartition_m (fuel : Nat) (a0 : Tlaws_Lts) : Option (Bool) :=
  (laws_szLts_m fuel (a0.1, a0.2.1, a0.2.2.1, a0.2.2.2) (1048576 : Int)).bind fun x54 => (if (decide (x54 < (0 : Int))) = true then some (true) else (laws_toLts_m fuel (a0.1, a0.2.1, a0.2.2.1, a0.2.2.2)).bind fun x60 => (spec_CyclePartition_m fuel (x60.1, x60.2.1, x60.2.2.1, x60.2.2.2)).bind fun x69 => (laws_toLts_m fuel (a0.1, a0.2.1, a0.2.2.1, a0.2.2.2)).bind fun x76 => (impl_CyclePartition_m fuel (x76.1, x76.2.1, x76.2.2.1, x76.2.2.2)).bind fun x89 => (laws_eqInt64S_m fuel x89.1 x69.1).bind fun x96 => (if (!x96) = true then some true else some (x89.2 != x69.2)).bind fun t99 => (if t99 = true then some (false) else (laws_toLts_m fuel (a0.1, a0.2.1, a0.2.2.1, a0.2.2.2)).bind fun x107 => (laws_eqLts_m fuel (x76.1, x76.2.1, x76.2.2.1, x76.2.2.2) (x107.1, x107.2.1, x107.2.2.1, x107.2.2.2)).bind fun x116 => (if (!x116) = true then some (false) else (laws_markLts_m fuel (x76.1, x76.2.1, x76.2.2.1, x76.2.2.2) (1 : Int)).bind fun x122 => (if (decide (x122.1 < (0 : Int))) = true then some true else (laws_eqInt64S_m fuel x89.1 x69.1).bind fun x129 => some (!x129)).bind fun t124 => (if t124 = true then some true else some (x89.2 != x69.2)).bind fun t132 => (if t132 = true then some (false) else (laws_markInt64S_m fuel x89.1 (1 : Int)).bind fun x138 => (laws_heldInt64S_m fuel x138.2 (1 : Int)).bind fun x142 => (if (decide (x142 < (0 : Int))) = true then some (false) else (if (x142 != x138.1) = true then some (false) else (laws_toLts_m fuel (a0.1, a0.2.1, a0.2.2.1, a0.2.2.2)).bind fun x149 => (impl_CyclePartition_m fuel (x149.1, x149.2.1, x149.2.2.1, x149.2.2.2)).bind fun x158 => (laws_eqInt64S_m fuel x158.1 x69.1).bind fun x165 => (if (!x165) = true then some true else some (x158.2 != x69.2)).bind fun t168 => (if t168 = true then some (false) else (laws_heldInt64S_m fuel x138.2 (1 : Int)).bind fun x174 => (if (decide (x174 < (0 : Int))) = true then some (false) else (if (x174 != x138.1) = true then some (false) else some (true))))))))))
set_option maxRecDepth 20000 in
theorem laws_FnExactCyclePartition_ok {w0 : World} {fuel : Nat} {p0 : Value} {a0 : Tlaws_Lts} {r : Bool} (hG : Glob Tryz.prog w0) (h0 : Rd Rlaws_Lts w0 p0 a0) (hm : laws_FnExactCyclePartition_m fuel a0 = some r) :
  Calls Tryz.prog 4 #[p0] w0 fun e w => e = .returned (.bool r) ∧ Heap w0 [] w := by
 unfold laws_FnExactCyclePartition_m at hm
 have H := Heap.start w0
 obtain ⟨c31, rfl, h32⟩ := h0
 obtain ⟨c37, c38, rfl, h39, h40⟩ := h32
 obtain rfl := h39
 obtain ⟨c41, c42, rfl, h43, h44⟩ := h40
 obtain rfl := h43
 obtain ⟨c45, c46, rfl, h47, h48⟩ := h44
 obtain ⟨v33, rfl, h34⟩ := rd_list h47
 obtain ⟨v35, rfl, h36⟩ := rd_list h48
 refine enter (args := [(.agg #[(.int .i64 a0.1), (.int .i64 a0.2.1), v33, v35])]) Tryz.func4 rfl 96 rfl (Nat.le_of_ble_eq_true rfl) (fun a S => ?_)
 refine wp_seq (region_plain ?_)
 refine lx_box S trivial (by decide) rfl H rfl rfl (fun b49 w50 H => ⟨trivial, fun a S => ?_⟩)
 refine lq (.bool false) S (q_assign rfl) fun a S => ?_
 refine lx_nil (thenN ?_)
 refine wp_seq (region_plain ?_)
 refine lq (.int .i64 (1048576 : Int)) S (q_assign rfl) fun a S => ?_
 refine lx_nil (thenN ?_)
 refine wp_seq (region_plain ?_)
 refine lx_e (.agg #[(.int .i64 a0.1), (.int .i64 a0.2.1), v33, v35]) S trivial (by decide) rfl trivial (q_loadA (cs := [(.int .i64 a0.1), (.int .i64 a0.2.1), v33, v35]) rfl (isP_bp _) Tryz.isAgg25 Tryz.sizeOf25 (by rintro _ rfl; exact (fun j u hu => boxAt (i := 0) H rfl hu))) (fun a S => ?_)
 refine lq (.int .i64 (1048576 : Int)) S (q_move rfl) fun a S => ?_
 obtain ⟨x54, e55, hm⟩ := bind_some hm
 refine lx_call (xs := [.tmp 14, .tmp 15]) S trivial (by decide) rfl rfl Tryz.call5 ((laws_szLts_ok ⟨[(.int .i64 a0.1), (.int .i64 a0.2.1), v33, v35], rfl, ⟨[(.int .i64 a0.1)], [(.int .i64 a0.2.1), v33, v35], rfl, rfl, ⟨[(.int .i64 a0.2.1)], [v33, v35], rfl, rfl, ⟨[v33], [v35], rfl, ((H.arg h34)).list_rd, ((H.arg h36)).list_rd⟩⟩⟩⟩  e55).mono ?_)
 rintro e w52 ⟨rfl, Hc53⟩
 have H := H.call0 Hc53
 refine ⟨_, rfl, trivial, fun a S => ?_⟩
 refine lq (.int .i64 x54) S (q_assign rfl) fun a S => ?_
 refine lx_nil (thenN ?_)
 refine wp_seq (wp_seq (region_plain ?_))
 refine lq (.int .i64 x54) S (q_move rfl) fun a S => ?_
 refine lq (.bool (decide (x54 < (0 : Int)))) S (q_lss rfl rfl) fun a S => ?_
 refine lx_nil (thenN ?_)
 refine cond_b S rfl (fun hc57 => ?_) (fun hc57 => ?_)
 ·have hm := ite_t hc57 hm
  refine wp_seq (region_plain ?_)
  refine lq (.bool true) S (q_assign rfl) fun a S => ?_
  refine lx_nil (thenN ?_)
  refine wp_ret (then_ret ?_)
  obtain rfl := Option.some.inj hm
  have H : Heap w0 [] w52 := H.sel [] (by decide)
  exact leave1 S rfl rfl ⟨rfl, H⟩
 ·have hm := ite_f hc57 hm
  refine wp_skip (thenN ?_)
  refine wp_seq (region_plain ?_)
  refine lx_e (.agg #[(.int .i64 a0.1), (.int .i64 a0.2.1), v33, v35]) S trivial (by decide) rfl trivial (q_loadA (cs := [(.int .i64 a0.1), (.int .i64 a0.2.1), v33, v35]) rfl (isP_bp _) Tryz.isAgg25 Tryz.sizeOf25 (by rintro _ rfl; exact (fun j u hu => boxAt (i := 0) H rfl hu))) (fun a S => ?_)
  obtain ⟨x60, e61, hm⟩ := bind_some hm
  refine lx_call (xs := [.tmp 20]) S trivial (by decide) rfl rfl Tryz.call7 ((laws_toLts_ok ⟨[(.int .i64 a0.1), (.int .i64 a0.2.1), v33, v35], rfl, ⟨[(.int .i64 a0.1)], [(.int .i64 a0.2.1), v33, v35], rfl, rfl, ⟨[(.int .i64 a0.2.1)], [v33, v35], rfl, rfl, ⟨[v33], [v35], rfl, ((H.arg h34)).list_rd, ((H.arg h36)).list_rd⟩⟩⟩⟩ e61).mono ?_)
  rintro e w58 ⟨v62, v63, rfl, Hc59⟩
  have H := H.call2 Hc59
  refine ⟨_, rfl, trivial, fun a S => ?_⟩
  obtain ⟨x69, e70, hm⟩ := bind_some hm
  refine lx_call (xs := [.tmp 21]) S trivial (by decide) rfl rfl Tryz.call12 ((spec_CyclePartition_ok ⟨[(.int .i64 x60.1), (.int .i64 x60.2.1), v62, v63], rfl, ⟨[(.int .i64 x60.1)], [(.int .i64 x60.2.1), v62, v63], rfl, rfl, ⟨[(.int .i64 x60.2.1)], [v62, v63], rfl, rfl, ⟨[v62], [v63], rfl, ((H.rdAt 0 rfl)).list_rd, ((H.rdAt 1 rfl)).list_rd⟩⟩⟩⟩ e70).mono ?_)
  rintro e w67 ⟨v71, rfl, Hc68⟩
  have H := H.call1 Hc68
  refine ⟨_, rfl, trivial, fun a S => ?_⟩
  refine lq (.tuple #[v71, (.int .i64 x69.2)]) S (q_move rfl) fun a S => ?_
  refine lq v71 S (q_extract rfl rfl) fun a S => ?_
  refine lq (.int .i64 x69.2) S (q_extract rfl rfl) fun a S => ?_
  refine lq v71 S (q_assign rfl) fun a S => ?_
  refine lq (.int .i64 x69.2) S (q_assign rfl) fun a S => ?_
  refine lx_nil (thenN ?_)
  refine wp_seq (region_plain ?_)
  refine lx_e (.agg #[(.int .i64 a0.1), (.int .i64 a0.2.1), v33, v35]) S trivial (by decide) rfl trivial (q_loadA (cs := [(.int .i64 a0.1), (.int .i64 a0.2.1), v33, v35]) rfl (isP_bp _) Tryz.isAgg25 Tryz.sizeOf25 (by rintro _ rfl; exact (fun j u hu => boxAt (i := 3) H rfl hu))) (fun a S => ?_)
  obtain ⟨x76, e77, hm⟩ := bind_some hm
  refine lx_call (xs := [.tmp 25]) S trivial (by decide) rfl rfl Tryz.call7 ((laws_toLts_ok ⟨[(.int .i64 a0.1), (.int .i64 a0.2.1), v33, v35], rfl, ⟨[(.int .i64 a0.1)], [(.int .i64 a0.2.1), v33, v35], rfl, rfl, ⟨[(.int .i64 a0.2.1)], [v33, v35], rfl, rfl, ⟨[v33], [v35], rfl, ((H.arg h34)).list_rd, ((H.arg h36)).list_rd⟩⟩⟩⟩ e77).mono ?_)
  rintro e w74 ⟨v78, v79, rfl, Hc75⟩
  have H := H.call2 Hc75
  refine ⟨_, rfl, trivial, fun a S => ?_⟩
  refine lx_alloc S trivial (by decide) rfl H Tryz.zeroValue29 rfl (fun b83 w84 H => ⟨trivial, fun a S => ?_⟩)
  refine lx_storeBox (o := 0) (i := 0) (us := [(.int .i64 x76.1), (.int .i64 x76.2.1), v78, v79]) (cs' := [(.int .i64 x76.1), (.int .i64 x76.2.1), v78, v79]) S trivial rfl H rfl rfl rfl rfl Tryz.sizeOf29 (Nat.le_of_ble_eq_true rfl) (List.forall_mem_cons.2 ⟨rfl, (List.forall_mem_cons.2 ⟨rfl, (List.forall_mem_cons.2 ⟨one_sl (H.isSl 1 rfl), (List.forall_mem_cons.2 ⟨one_sl (H.isSl 2 rfl), (fun _ h => nomatch h)⟩)⟩)⟩)⟩) rfl (fun w86 H => ⟨trivial, fun a S => ?_⟩)
  change Heap w0 [bA b83 [(.int .i64 x76.1), (.int .i64 x76.2.1), v78, v79] 29, oA (rList rStr) v78 x76.2.2.1, oA (rList Rimpl_Edge) v79 x76.2.2.2, oA (rList (rInt .i64)) v71 x69.1, oA (rList rStr) v62 x60.2.2.1, oA (rList Rimpl_Edge) v63 x60.2.2.2, bA b49 [(.int .i64 a0.1), (.int .i64 a0.2.1), v33, v35] 25] w86 at H
  refine lx_nil (thenN ?_)
  refine wp_seq (region_plain ?_)
  refine lx_e (.agg #[(.int .i64 x76.1), (.int .i64 x76.2.1), v78, v79]) S trivial (by decide) rfl trivial (q_loadA (cs := [(.int .i64 x76.1), (.int .i64 x76.2.1), v78, v79]) rfl (isP_bp _) Tryz.isAgg29 Tryz.sizeOf29 (by rintro _ rfl; exact (fun j u hu => boxAt (i := 0) H rfl hu))) (fun a S => ?_)
  obtain ⟨x89, e90, hm⟩ := bind_some hm
  refine lx_call (xs := [.tmp 28]) S trivial (by decide) rfl rfl Tryz.call13 ((impl_CyclePartition_ok (hG.ext H.ext) ⟨[(.int .i64 x76.1), (.int .i64 x76.2.1), v78, v79], rfl, ⟨[(.int .i64 x76.1)], [(.int .i64 x76.2.1), v78, v79], rfl, rfl, ⟨[(.int .i64 x76.2.1)], [v78, v79], rfl, rfl, ⟨[v78], [v79], rfl, ((H.rdAt 1 rfl)).list_rd, ((H.rdAt 2 rfl)).list_rd⟩⟩⟩⟩ e90).mono ?_)
  rintro e w87 ⟨v91, rfl, Hc88⟩
  have H := H.call1 Hc88
  refine ⟨_, rfl, trivial, fun a S => ?_⟩
  refine lq (.tuple #[v91, (.int .i64 x89.2)]) S (q_move rfl) fun a S => ?_
  refine lq v91 S (q_extract rfl rfl) fun a S => ?_
  refine lq (.int .i64 x89.2) S (q_extract rfl rfl) fun a S => ?_
  refine lq v91 S (q_assign rfl) fun a S => ?_
  refine lq (.int .i64 x89.2) S (q_assign rfl) fun a S => ?_
  refine lx_nil (thenN ?_)
  refine wp_seq (wp_seq (region_plain ?_))
  refine lq v91 S (q_move rfl) fun a S => ?_
  refine lq v71 S (q_move rfl) fun a S => ?_
  obtain ⟨x96, e97, hm⟩ := bind_some hm
  refine lx_call (xs := [.tmp 32, .tmp 33]) S trivial (by decide) rfl rfl Tryz.call14 ((laws_eqInt64S_ok (H.rdAt 0 rfl) (H.rdAt 4 rfl) e97).mono ?_)
  rintro e w94 ⟨rfl, Hc95⟩
  have H := H.call0 Hc95
  refine ⟨_, rfl, trivial, fun a S => ?_⟩
  refine lq (.bool (!x96)) S (q_not rfl) fun a S => ?_
  refine lq (.bool (!x96)) S (q_move rfl) fun a S => ?_
  obtain ⟨t99, e100, hm⟩ := bind_some hm
  refine lx_cut 4 (fun a w => Slots a 96 [(1, (bp b49)), (4, v71), (5, (.int .i64 x69.2)), (6, (bp b83)), (7, v91), (8, (.int .i64 x89.2)), (40, (.bool t99))] ∧ Heap w0 [oA (rList (rInt .i64)) v91 x89.1, bA b83 [(.int .i64 x76.1), (.int .i64 x76.2.1), v78, v79] 29, oA (rList rStr) v78 x76.2.2.1, oA (rList Rimpl_Edge) v79 x76.2.2.2, oA (rList (rInt .i64)) v71 x69.1, bA b49 [(.int .i64 a0.1), (.int .i64 a0.2.1), v33, v35] 25] w) ?_ ?_
  ·by_cases hc101 : (!x96) = true
   ·have hm := ite_t hc101 e100
    refine lx_skip S rfl rfl (isB_ne hc101) (by decide) (fun a S => ?_)
    refine lx_skip S rfl rfl (isB_ne hc101) (by decide) (fun a S => ?_)
    refine lx_skip S rfl rfl (isB_ne hc101) (by decide) (fun a S => ?_)
    refine lq (.bool true) S (q_pickT' rfl hc101 rfl) fun a S => ?_
    refine lx_nil ?_
    obtain rfl := Option.some.inj hm
    have H := H.sel [0, 1, 2, 3, 4, 7] (by decide)
    exact ⟨S.sub ⟨rfl, rfl, rfl, rfl, rfl, rfl, rfl, trivial⟩, H⟩
   ·have hm := ite_f (eq_false_of_ne_true hc101) e100
    have hc101 : (!x96) = false := eq_false_of_ne_true hc101
    refine lx_q (.int .i64 x89.2) S (want_b rfl rfl hc101) (by decide) (q_move rfl) (fun a S => ?_)
    refine lx_q (.int .i64 x69.2) S (want_b rfl rfl hc101) (by decide) (q_move rfl) (fun a S => ?_)
    refine lx_q (.bool (x89.2 != x69.2)) S (want_b rfl rfl hc101) (by decide) (q_neq rfl rfl) (fun a S => ?_)
    refine lq (.bool (x89.2 != x69.2)) S (q_pickF' rfl hc101 rfl) fun a S => ?_
    refine lx_nil ?_
    obtain rfl := Option.some.inj hm
    have H := H.sel [0, 1, 2, 3, 4, 7] (by decide)
    exact ⟨S.sub ⟨rfl, rfl, rfl, rfl, rfl, rfl, rfl, trivial⟩, H⟩
  ·rintro a w ⟨S, H⟩
   refine lx_nil (thenN ?_)
   refine cond_b S rfl (fun hc102 => ?_) (fun hc102 => ?_)
   ·have hm := ite_t hc102 hm
    refine wp_seq (region_plain ?_)
    refine lq (.bool false) S (q_assign rfl) fun a S => ?_
    refine lx_nil (thenN ?_)
    refine wp_ret (then_ret ?_)
    obtain rfl := Option.some.inj hm
    have H : Heap w0 [] w := H.sel [] (by decide)
    exact leave1 S rfl rfl ⟨rfl, H⟩
   ·have hm := ite_f hc102 hm
    refine wp_skip (thenN ?_)
    refine wp_seq ?_
    refine wp_seq ?_
    refine region_drawG (fun w1 => Heap w0 [bA b83 [(.int .i64 x76.1), (.int .i64 x76.2.1), v78, v79] 29, bA b49 [(.int .i64 a0.1), (.int .i64 a0.2.1), v33, v35] 25] w1) (fun i => [2, 3].contains i) mixed (by kernel_rfl) (fun w104 he103 => ?_)
    have H := H.later he103
    refine ⟨H.sel [1, 5] (by decide), ?_⟩
    refine lq (.agg #[(.int .i64 x76.1), (.int .i64 x76.2.1), v78, v79]) S (q_loadA (cs := [(.int .i64 x76.1), (.int .i64 x76.2.1), v78, v79]) rfl (isP_bp _) Tryz.isAgg29 Tryz.sizeOf29 (fun w1 hC => (fun j u hu => boxAt (i := 0) hC rfl hu))) fun a S => ?_
    refine lq (.agg #[(.int .i64 a0.1), (.int .i64 a0.2.1), v33, v35]) S (q_loadA (cs := [(.int .i64 a0.1), (.int .i64 a0.2.1), v33, v35]) rfl (isP_bp _) Tryz.isAgg25 Tryz.sizeOf25 (fun w1 hC => (fun j u hu => boxAt (i := 1) hC rfl hu))) fun a S => ?_
    obtain ⟨x107, e108, hm⟩ := bind_some hm
    refine lx_call (xs := [.tmp 42]) S trivial (by decide) rfl rfl Tryz.call7 ((laws_toLts_ok ⟨[(.int .i64 a0.1), (.int .i64 a0.2.1), v33, v35], rfl, ⟨[(.int .i64 a0.1)], [(.int .i64 a0.2.1), v33, v35], rfl, rfl, ⟨[(.int .i64 a0.2.1)], [v33, v35], rfl, rfl, ⟨[v33], [v35], rfl, ((H.arg h34)).list_rd, ((H.arg h36)).list_rd⟩⟩⟩⟩ e108).mono ?_)
    rintro e w105 ⟨v109, v110, rfl, Hc106⟩
    have H := H.call2 Hc106
    refine ⟨_, rfl, H.sel [3, 7] (by decide), fun a S => ?_⟩
    obtain ⟨x116, e117, hm⟩ := bind_some hm
    refine lx_call (xs := [.tmp 41, .tmp 43]) S trivial (by decide) rfl rfl Tryz.call9 ((laws_eqLts_ok ⟨[(.int .i64 x76.1), (.int .i64 x76.2.1), v78, v79], rfl, ⟨[(.int .i64 x76.1)], [(.int .i64 x76.2.1), v78, v79], rfl, rfl, ⟨[(.int .i64 x76.2.1)], [v78, v79], rfl, rfl, ⟨[v78], [v79], rfl, ((H.rdAt 4 rfl)).list_rd, ((H.rdAt 5 rfl)).list_rd⟩⟩⟩⟩ ⟨[(.int .i64 x107.1), (.int .i64 x107.2.1), v109, v110], rfl, ⟨[(.int .i64 x107.1)], [(.int .i64 x107.2.1), v109, v110], rfl, rfl, ⟨[(.int .i64 x107.2.1)], [v109, v110], rfl, rfl, ⟨[v109], [v110], rfl, ((H.rdAt 0 rfl)).list_rd, ((H.rdAt 1 rfl)).list_rd⟩⟩⟩⟩ e117).mono ?_)
    rintro e w114 ⟨rfl, Hc115⟩
    have H := H.call0 Hc115
    refine ⟨_, rfl, H.sel [3, 7] (by decide), fun a S => ?_⟩
    refine lq (.bool (!x116)) S (q_not rfl) fun a S => ?_
    refine lx_nil (thenN ?_)
    refine cond_b S rfl (fun hc119 => ?_) (fun hc119 => ?_)
    ·have hm := ite_t hc119 hm
     refine wp_seq (region_plain ?_)
     refine lq (.bool false) S (q_assign rfl) fun a S => ?_
     refine lx_nil (thenN ?_)
     refine wp_ret (then_ret ?_)
     obtain rfl := Option.some.inj hm
     have H : Heap w0 [] w114 := H.sel [] (by decide)
     exact leave1 S rfl rfl ⟨rfl, H⟩
    ·have hm := ite_f hc119 hm
     refine wp_skip (thenN ?_)
     refine wp_seq (region_plain ?_)
     refine lq (.int .i64 (1 : Int)) S (q_assign rfl) fun a S => ?_
     refine lx_nil (thenN ?_)
     refine wp_seq (region_plain ?_)
     refine lx_e (.agg #[(.int .i64 x76.1), (.int .i64 x76.2.1), v78, v79]) S trivial (by decide) rfl trivial (q_loadA (cs := [(.int .i64 x76.1), (.int .i64 x76.2.1), v78, v79]) rfl (isP_bp _) Tryz.isAgg29 Tryz.sizeOf29 (by rintro _ rfl; exact (fun j u hu => boxAt (i := 3) H rfl hu))) (fun a S => ?_)
     refine lq (.int .i64 (1 : Int)) S (q_move rfl) fun a S => ?_
     obtain ⟨x122, e123, hm⟩ := bind_some hm
     have H : Heap w0 [oA (rList Rimpl_Edge) v79 x76.2.2.2, oA (rList rStr) v109 x107.2.2.1, oA (rList Rimpl_Edge) v110 x107.2.2.2, oA (rList (rInt .i64)) v91 x89.1, bA b83 [(.int .i64 x76.1), (.int .i64 x76.2.1), v78, v79] 29, oA (rList rStr) v78 x76.2.2.1, oA (rList (rInt .i64)) v71 x69.1, bA b49 [(.int .i64 a0.1), (.int .i64 a0.2.1), v33, v35] 25] w114 := H.front 5 rfl
     have H : Heap w0 [oA (rList rStr) v78 x76.2.2.1, oA (rList Rimpl_Edge) v79 x76.2.2.2, oA (rList rStr) v109 x107.2.2.1, oA (rList Rimpl_Edge) v110 x107.2.2.2, oA (rList (rInt .i64)) v91 x89.1, bA b83 [(.int .i64 x76.1), (.int .i64 x76.2.1), v78, v79] 29, oA (rList (rInt .i64)) v71 x69.1, bA b49 [(.int .i64 a0.1), (.int .i64 a0.2.1), v33, v35] 25] w114 := H.front 5 rfl
     refine lx_call (xs := [.tmp 46, .tmp 47]) S trivial (by decide) rfl rfl Tryz.call10 ((laws_markLts_ok H  e123).mono ?_)
     rintro e w120 ⟨rfl, H⟩
     refine ⟨_, rfl, trivial, fun a S => ?_⟩
     refine lq (.int .i64 x122.1) S (q_assign rfl) fun a S => ?_
     refine lx_nil (thenN ?_)
     refine wp_seq (wp_seq (region_plain ?_))
     refine lq (.int .i64 x122.1) S (q_move rfl) fun a S => ?_
     refine lq (.bool (decide (x122.1 < (0 : Int)))) S (q_lss rfl rfl) fun a S => ?_
     refine lq (.bool (decide (x122.1 < (0 : Int)))) S (q_move rfl) fun a S => ?_
     obtain ⟨t124, e125, hm⟩ := bind_some hm
     refine lx_cut 5 (fun a w => Slots a 96 [(1, (bp b49)), (4, v71), (5, (.int .i64 x69.2)), (7, v91), (8, (.int .i64 x89.2)), (56, (.bool t124))] ∧ Heap w0 [oA (rList (rInt .i64)) v91 x89.1, oA (rList (rInt .i64)) v71 x69.1, bA b49 [(.int .i64 a0.1), (.int .i64 a0.2.1), v33, v35] 25] w) ?_ ?_
     ·by_cases hc126 : (decide (x122.1 < (0 : Int))) = true
      ·have hm := ite_t hc126 e125
       refine lx_skip S rfl rfl (isB_ne hc126) (by decide) (fun a S => ?_)
       refine lx_skip S rfl rfl (isB_ne hc126) (by decide) (fun a S => ?_)
       refine lx_skip S rfl rfl (isB_ne hc126) (by decide) (fun a S => ?_)
       refine lx_skip S rfl rfl (isB_ne hc126) (by decide) (fun a S => ?_)
       refine lq (.bool true) S (q_pickT' rfl hc126 rfl) fun a S => ?_
       refine lx_nil ?_
       obtain rfl := Option.some.inj hm
       have H := H.sel [4, 6, 7] (by decide)
       exact ⟨S.sub ⟨rfl, rfl, rfl, rfl, rfl, rfl, trivial⟩, H⟩
      ·have hm := ite_f (eq_false_of_ne_true hc126) e125
       have hc126 : (decide (x122.1 < (0 : Int))) = false := eq_false_of_ne_true hc126
       refine lx_q v91 S (want_b rfl rfl hc126) (by decide) (q_move rfl) (fun a S => ?_)
       refine lx_q v71 S (want_b rfl rfl hc126) (by decide) (q_move rfl) (fun a S => ?_)
       obtain ⟨x129, e130, hm⟩ := bind_some hm
       refine lx_call (xs := [.tmp 52, .tmp 53]) S (want_b rfl rfl hc126) (by decide) rfl rfl Tryz.call14 ((laws_eqInt64S_ok (H.rdAt 4 rfl) (H.rdAt 6 rfl) e130).mono ?_)
       rintro e w127 ⟨rfl, Hc128⟩
       have H := H.call0 Hc128
       refine ⟨_, rfl, trivial, fun a S => ?_⟩
       refine lx_q (.bool (!x129)) S (want_b rfl rfl hc126) (by decide) (q_not rfl) (fun a S => ?_)
       refine lq (.bool (!x129)) S (q_pickF' rfl hc126 rfl) fun a S => ?_
       refine lx_nil ?_
       obtain rfl := Option.some.inj hm
       have H := H.sel [4, 6, 7] (by decide)
       exact ⟨S.sub ⟨rfl, rfl, rfl, rfl, rfl, rfl, trivial⟩, H⟩
     ·rintro a w ⟨S, H⟩
      refine lq (.bool t124) S (q_move rfl) fun a S => ?_
      obtain ⟨t132, e133, hm⟩ := bind_some hm
      refine lx_cut 4 (fun a w => Slots a 96 [(1, (bp b49)), (4, v71), (5, (.int .i64 x69.2)), (7, v91), (61, (.bool t132))] ∧ Heap w0 [oA (rList (rInt .i64)) v91 x89.1, oA (rList (rInt .i64)) v71 x69.1, bA b49 [(.int .i64 a0.1), (.int .i64 a0.2.1), v33, v35] 25] w) ?_ ?_
      ·by_cases hc134 : t124 = true
       ·have hm := ite_t hc134 e133
        refine lx_skip S rfl rfl (isB_ne hc134) (by decide) (fun a S => ?_)
        refine lx_skip S rfl rfl (isB_ne hc134) (by decide) (fun a S => ?_)
        refine lx_skip S rfl rfl (isB_ne hc134) (by decide) (fun a S => ?_)
        refine lq (.bool true) S (q_pickT' rfl hc134 rfl) fun a S => ?_
        refine lx_nil ?_
        obtain rfl := Option.some.inj hm
        exact ⟨S.sub ⟨rfl, rfl, rfl, rfl, rfl, trivial⟩, H⟩
       ·have hm := ite_f (eq_false_of_ne_true hc134) e133
        have hc134 : t124 = false := eq_false_of_ne_true hc134
        refine lx_q (.int .i64 x89.2) S (want_b rfl rfl hc134) (by decide) (q_move rfl) (fun a S => ?_)
        refine lx_q (.int .i64 x69.2) S (want_b rfl rfl hc134) (by decide) (q_move rfl) (fun a S => ?_)
        refine lx_q (.bool (x89.2 != x69.2)) S (want_b rfl rfl hc134) (by decide) (q_neq rfl rfl) (fun a S => ?_)
        refine lq (.bool (x89.2 != x69.2)) S (q_pickF' rfl hc134 rfl) fun a S => ?_
        refine lx_nil ?_
        obtain rfl := Option.some.inj hm
        exact ⟨S.sub ⟨rfl, rfl, rfl, rfl, rfl, trivial⟩, H⟩
      ·rintro a w ⟨S, H⟩
       refine lx_nil (thenN ?_)
       refine cond_b S rfl (fun hc135 => ?_) (fun hc135 => ?_)
       ·have hm := ite_t hc135 hm
        refine wp_seq (region_plain ?_)
        refine lq (.bool false) S (q_assign rfl) fun a S => ?_
        refine lx_nil (thenN ?_)
        refine wp_ret (then_ret ?_)
        obtain rfl := Option.some.inj hm
        have H : Heap w0 [] w := H.sel [] (by decide)
        exact leave1 S rfl rfl ⟨rfl, H⟩
       ·have hm := ite_f hc135 hm
        refine wp_skip (thenN ?_)
        refine wp_seq (region_plain ?_)
        refine lq (.int .i64 (1 : Int)) S (q_assign rfl) fun a S => ?_
        refine lx_nil (thenN ?_)
        refine wp_seq (region_plain ?_)
        refine lq v91 S (q_move rfl) fun a S => ?_
        refine lq (.int .i64 (1 : Int)) S (q_move rfl) fun a S => ?_
        obtain ⟨x138, e139, hm⟩ := bind_some hm
        refine lx_call (xs := [.tmp 62, .tmp 63]) S trivial (by decide) rfl rfl Tryz.call15 ((laws_markInt64S_ok H  e139).mono ?_)
        rintro e w136 ⟨rfl, H⟩
        refine ⟨_, rfl, trivial, fun a S => ?_⟩
        refine lq (.int .i64 x138.1) S (q_assign rfl) fun a S => ?_
        refine lx_nil (thenN ?_)
        refine wp_seq (region_plain ?_)
        refine lq (.int .i64 (1 : Int)) S (q_assign rfl) fun a S => ?_
        refine lx_nil (thenN ?_)
        refine wp_seq (region_plain ?_)
        refine lq v91 S (q_move rfl) fun a S => ?_
        refine lq (.int .i64 (1 : Int)) S (q_move rfl) fun a S => ?_
        obtain ⟨x142, e143, hm⟩ := bind_some hm
        refine lx_call (xs := [.tmp 65, .tmp 66]) S trivial (by decide) rfl rfl Tryz.call16 ((laws_heldInt64S_ok (H.rdAt 0 rfl)  e143).mono ?_)
        rintro e w140 ⟨rfl, Hc141⟩
        have H := H.call0 Hc141
        refine ⟨_, rfl, trivial, fun a S => ?_⟩
        refine lq (.int .i64 x142) S (q_assign rfl) fun a S => ?_
        refine lx_nil (thenN ?_)
        refine wp_seq (wp_seq (region_plain ?_))
        refine lq (.int .i64 x142) S (q_move rfl) fun a S => ?_
        refine lq (.bool (decide (x142 < (0 : Int)))) S (q_lss rfl rfl) fun a S => ?_
        refine lx_nil (thenN ?_)
        refine cond_b S rfl (fun hc145 => ?_) (fun hc145 => ?_)
        ·have hm := ite_t hc145 hm
         refine wp_seq (region_plain ?_)
         refine lq (.bool false) S (q_assign rfl) fun a S => ?_
         refine lx_nil (thenN ?_)
         refine wp_ret (then_ret ?_)
         obtain rfl := Option.some.inj hm
         have H : Heap w0 [] w140 := H.sel [] (by decide)
         exact leave1 S rfl rfl ⟨rfl, H⟩
        ·have hm := ite_f hc145 hm
         refine wp_skip (thenN ?_)
         refine wp_seq (wp_seq (region_plain ?_))
         refine lq (.int .i64 x142) S (q_move rfl) fun a S => ?_
         refine lq (.int .i64 x138.1) S (q_move rfl) fun a S => ?_
         refine lq (.bool (x142 != x138.1)) S (q_neq rfl rfl) fun a S => ?_
         refine lx_nil (thenN ?_)
         refine cond_b S rfl (fun hc146 => ?_) (fun hc146 => ?_)
         ·have hm := ite_t hc146 hm
          refine wp_seq (region_plain ?_)
          refine lq (.bool false) S (q_assign rfl) fun a S => ?_
          refine lx_nil (thenN ?_)
          refine wp_ret (then_ret ?_)
          obtain rfl := Option.some.inj hm
          have H : Heap w0 [] w140 := H.sel [] (by decide)
          exact leave1 S rfl rfl ⟨rfl, H⟩
         ·have hm := ite_f hc146 hm
          refine wp_skip (thenN ?_)
          refine wp_seq (region_plain ?_)
          refine lx_e (.agg #[(.int .i64 a0.1), (.int .i64 a0.2.1), v33, v35]) S trivial (by decide) rfl trivial (q_loadA (cs := [(.int .i64 a0.1), (.int .i64 a0.2.1), v33, v35]) rfl (isP_bp _) Tryz.isAgg25 Tryz.sizeOf25 (by rintro _ rfl; exact (fun j u hu => boxAt (i := 2) H rfl hu))) (fun a S => ?_)
          obtain ⟨x149, e150, hm⟩ := bind_some hm
          refine lx_call (xs := [.tmp 74]) S trivial (by decide) rfl rfl Tryz.call7 ((laws_toLts_ok ⟨[(.int .i64 a0.1), (.int .i64 a0.2.1), v33, v35], rfl, ⟨[(.int .i64 a0.1)], [(.int .i64 a0.2.1), v33, v35], rfl, rfl, ⟨[(.int .i64 a0.2.1)], [v33, v35], rfl, rfl, ⟨[v33], [v35], rfl, ((H.arg h34)).list_rd, ((H.arg h36)).list_rd⟩⟩⟩⟩ e150).mono ?_)
          rintro e w147 ⟨v151, v152, rfl, Hc148⟩
          have H := H.call2 Hc148
          refine ⟨_, rfl, trivial, fun a S => ?_⟩
          obtain ⟨x158, e159, hm⟩ := bind_some hm
          refine lx_call (xs := [.tmp 75]) S trivial (by decide) rfl rfl Tryz.call13 ((impl_CyclePartition_ok (hG.ext H.ext) ⟨[(.int .i64 x149.1), (.int .i64 x149.2.1), v151, v152], rfl, ⟨[(.int .i64 x149.1)], [(.int .i64 x149.2.1), v151, v152], rfl, rfl, ⟨[(.int .i64 x149.2.1)], [v151, v152], rfl, rfl, ⟨[v151], [v152], rfl, ((H.rdAt 0 rfl)).list_rd, ((H.rdAt 1 rfl)).list_rd⟩⟩⟩⟩ e159).mono ?_)
          rintro e w156 ⟨v160, rfl, Hc157⟩
          have H := H.call1 Hc157
          refine ⟨_, rfl, trivial, fun a S => ?_⟩
          refine lq (.tuple #[v160, (.int .i64 x158.2)]) S (q_move rfl) fun a S => ?_
          refine lq v160 S (q_extract rfl rfl) fun a S => ?_
          refine lq (.int .i64 x158.2) S (q_extract rfl rfl) fun a S => ?_
          refine lq v160 S (q_assign rfl) fun a S => ?_
          refine lq (.int .i64 x158.2) S (q_assign rfl) fun a S => ?_
          refine lx_nil (thenN ?_)
          refine wp_seq (wp_seq (region_plain ?_))
          refine lq v160 S (q_move rfl) fun a S => ?_
          refine lq v71 S (q_move rfl) fun a S => ?_
          obtain ⟨x165, e166, hm⟩ := bind_some hm
          refine lx_call (xs := [.tmp 79, .tmp 80]) S trivial (by decide) rfl rfl Tryz.call14 ((laws_eqInt64S_ok (H.rdAt 0 rfl) (H.rdAt 4 rfl) e166).mono ?_)
          rintro e w163 ⟨rfl, Hc164⟩
          have H := H.call0 Hc164
          refine ⟨_, rfl, trivial, fun a S => ?_⟩
          refine lq (.bool (!x165)) S (q_not rfl) fun a S => ?_
          refine lq (.bool (!x165)) S (q_move rfl) fun a S => ?_
          obtain ⟨t168, e169, hm⟩ := bind_some hm
          refine lx_cut 4 (fun a w => Slots a 96 [(7, v91), (10, (.int .i64 x138.1)), (87, (.bool t168))] ∧ Heap w0 [oA (rList (rInt .i64)) v91 x138.2] w) ?_ ?_
          ·by_cases hc170 : (!x165) = true
           ·have hm := ite_t hc170 e169
            refine lx_skip S rfl rfl (isB_ne hc170) (by decide) (fun a S => ?_)
            refine lx_skip S rfl rfl (isB_ne hc170) (by decide) (fun a S => ?_)
            refine lx_skip S rfl rfl (isB_ne hc170) (by decide) (fun a S => ?_)
            refine lq (.bool true) S (q_pickT' rfl hc170 rfl) fun a S => ?_
            refine lx_nil ?_
            obtain rfl := Option.some.inj hm
            have H := H.sel [3] (by decide)
            exact ⟨S.sub ⟨rfl, rfl, rfl, trivial⟩, H⟩
           ·have hm := ite_f (eq_false_of_ne_true hc170) e169
            have hc170 : (!x165) = false := eq_false_of_ne_true hc170
            refine lx_q (.int .i64 x158.2) S (want_b rfl rfl hc170) (by decide) (q_move rfl) (fun a S => ?_)
            refine lx_q (.int .i64 x69.2) S (want_b rfl rfl hc170) (by decide) (q_move rfl) (fun a S => ?_)
            refine lx_q (.bool (x158.2 != x69.2)) S (want_b rfl rfl hc170) (by decide) (q_neq rfl rfl) (fun a S => ?_)
            refine lq (.bool (x158.2 != x69.2)) S (q_pickF' rfl hc170 rfl) fun a S => ?_
            refine lx_nil ?_
            obtain rfl := Option.some.inj hm
            have H := H.sel [3] (by decide)
            exact ⟨S.sub ⟨rfl, rfl, rfl, trivial⟩, H⟩
          ·rintro a w ⟨S, H⟩
           refine lx_nil (thenN ?_)
           refine cond_b S rfl (fun hc171 => ?_) (fun hc171 => ?_)
           ·have hm := ite_t hc171 hm
            refine wp_seq (region_plain ?_)
            refine lq (.bool false) S (q_assign rfl) fun a S => ?_
            refine lx_nil (thenN ?_)
            refine wp_ret (then_ret ?_)
            obtain rfl := Option.some.inj hm
            have H : Heap w0 [] w := H.sel [] (by decide)
            exact leave1 S rfl rfl ⟨rfl, H⟩
           ·have hm := ite_f hc171 hm
            refine wp_skip (thenN ?_)
            refine wp_seq (region_plain ?_)
            refine lq (.int .i64 (1 : Int)) S (q_assign rfl) fun a S => ?_
            refine lx_nil (thenN ?_)
            refine wp_seq (region_plain ?_)
            refine lq v91 S (q_move rfl) fun a S => ?_
            refine lq (.int .i64 (1 : Int)) S (q_move rfl) fun a S => ?_
            obtain ⟨x174, e175, hm⟩ := bind_some hm
            refine lx_call (xs := [.tmp 88, .tmp 89]) S trivial (by decide) rfl rfl Tryz.call16 ((laws_heldInt64S_ok (H.rdAt 0 rfl)  e175).mono ?_)
            rintro e w172 ⟨rfl, Hc173⟩
            have H := H.call0 Hc173
            refine ⟨_, rfl, trivial, fun a S => ?_⟩
            refine lq (.int .i64 x174) S (q_assign rfl) fun a S => ?_
            refine lx_nil (thenN ?_)
            refine wp_seq (wp_seq (region_plain ?_))
            refine lq (.int .i64 x174) S (q_move rfl) fun a S => ?_
            refine lq (.bool (decide (x174 < (0 : Int)))) S (q_lss rfl rfl) fun a S => ?_
            refine lx_nil (thenN ?_)
            refine cond_b S rfl (fun hc177 => ?_) (fun hc177 => ?_)
            ·have hm := ite_t hc177 hm
             refine wp_seq (region_plain ?_)
             refine lq (.bool false) S (q_assign rfl) fun a S => ?_
             refine lx_nil (thenN ?_)
             refine wp_ret (then_ret ?_)
             obtain rfl := Option.some.inj hm
             have H : Heap w0 [] w172 := H.sel [] (by decide)
             exact leave1 S rfl rfl ⟨rfl, H⟩
            ·have hm := ite_f hc177 hm
             refine wp_skip (thenN ?_)
             refine wp_seq (wp_seq (region_plain ?_))
             refine lq (.int .i64 x174) S (q_move rfl) fun a S => ?_
             refine lq (.int .i64 x138.1) S (q_move rfl) fun a S => ?_
             refine lq (.bool (x174 != x138.1)) S (q_neq rfl rfl) fun a S => ?_
             refine lx_nil (thenN ?_)
             refine cond_b S rfl (fun hc178 => ?_) (fun hc178 => ?_)
             ·have hm := ite_t hc178 hm
              refine wp_seq (region_plain ?_)
              refine lq (.bool false) S (q_assign rfl) fun a S => ?_
              refine lx_nil (thenN ?_)
              refine wp_ret (then_ret ?_)
              obtain rfl := Option.some.inj hm
              have H : Heap w0 [] w172 := H.sel [] (by decide)
              exact leave1 S rfl rfl ⟨rfl, H⟩
             ·have hm := ite_f hc178 hm
              refine wp_skip (thenN ?_)
              refine wp_seq (region_plain ?_)
              refine lq (.bool true) S (q_assign rfl) fun a S => ?_
              refine lx_nil (thenN ?_)
              refine wp_ret ?_
              obtain rfl := Option.some.inj hm
              have H : Heap w0 [] w172 := H.sel [] (by decide)
              exact leave1 S rfl rfl ⟨rfl, H⟩
end Go.Proofs.YtelpejcnlekaoaaGreatDoor
