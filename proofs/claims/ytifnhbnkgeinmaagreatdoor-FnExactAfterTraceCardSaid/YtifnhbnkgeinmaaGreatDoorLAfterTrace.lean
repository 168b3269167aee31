/- The model of a statement and its walk (printed by a program of this repo). -/
import Derived.Test.YtifnhbnkgeinmaaGreatDoorF0
import Derived.Test.YtifnhbnkgeinmaaGreatDoorF1
import Derived.Test.YtifnhbnkgeinmaaGreatDoorF2
import Derived.Test.YtifnhbnkgeinmaaGreatDoorF3
import Derived.Test.YtifnhbnkgeinmaaGreatDoorF4
import Derived.Test.YtifnhbnkgeinmaaGreatDoorF5
import Derived.Test.YtifnhbnkgeinmaaGreatDoorFS
import Derived.Test.YtifnhbnkgeinmaaGreatDoorGxT
import Derived.Test.YtifnhbnkgeinmaaGreatDoorGxY
namespace Go.Proofs.YtifnhbnkgeinmaaGreatDoor
open Go.RowKit Go.Gx

/-- spec.l12Visible -/
def spec_l12Visible_m (fuel : Nat) (a0 : (List Str)) : Option (Bool) :=
  (iter (fun (s : (Int)) => (match s with | (x52) => (if (decide (x52 < (a0.length : Int))) = true then (idx a0 x52).bind fun x83 => (spec_l01Label_m fuel x83).bind fun x90 => (if (!x90) = true then some true else (idx a0 x52).bind fun x96 => some (x96 == ([116, 97, 117] : Str))).bind fun t93 => (if t93 = true then some (.inr (.inr false)) else some (.inl ((W (x52 + (1 : Int)))))) else some (.inr (.inl ()))) : Option (((Int)) ⊕ ((Unit) ⊕ (Bool))))) fuel ((0 : Int))).bind fun res74 => ctl (β := Unit) (ρ := Bool) (τ := Bool) res74 (fun _ => some (true)) (fun q => some (q))
set_option maxRecDepth 20000 in
theorem spec_l12Visible_ok {w0 : World} {fuel : Nat} {p0 : Value} {a0 : (List Str)} {r : Bool} (h0 : Rd (rList rStr) w0 p0 a0) (hm : spec_l12Visible_m fuel a0 = some r) :
  Calls Tryz.prog 26 #[p0] w0 fun e w => e = .returned (.bool r) ∧ Heap w0 [] w := by
 unfold spec_l12Visible_m at hm
 have H := Heap.start w0
 refine enter (args := [p0]) Tryz.func26 rfl 23 rfl (Nat.le_of_ble_eq_true rfl) (fun a S => ?_)
 refine wp_seq (region_plain ?_)
 refine lq (.bool false) S (q_assign rfl) fun a S => ?_
 refine lx_nil (thenN ?_)
 refine wp_seq (wp_seq (region_plain ?_))
 refine lq (.int .i64 (0 : Int)) S (q_assign rfl) fun a S => ?_
 refine lx_nil (thenN ?_)
 obtain ⟨res74, hit75, hk78⟩ := bind_some hm
 obtain ⟨f76, hf77, hit75⟩ := iter_name hit75
 refine block_loop (fun a w => Slots a 23 [] ∧ Heap w0 [] w ∧ res74 = .inl ()) ?_ ?_
 ·rintro a w ⟨S, H, rfl⟩
  have hm := ctl_inl hk78
  refine thenN ?_
  refine wp_seq (region_plain ?_)
  refine lq (.bool true) S (q_assign rfl) fun a S => ?_
  refine lx_nil (thenN ?_)
  refine wp_ret ?_
  obtain rfl := Option.some.inj hm
  exact leave1 S rfl rfl ⟨rfl, H⟩
 ·skip
  refine loop_ghost (fun n a w => ∃ (x52 : Int), Slots a 23 [(0, p0), (3, (.int .i64 x52))] ∧ Heap w0 [] w ∧ iter f76 n (x52) = some res74) _ ⟨(0 : Int), S.sub ⟨rfl, rfl, trivial⟩, H, hit75⟩ ?_
  rintro n a w ⟨x52, S, H, hit75⟩
  obtain ⟨m79, o80, rfl, hm, hc81⟩ := iter_step hit75
  rw [hf77] at hm
  refine wp_seq (wp_seq (region_plain ?_))
  refine lq (.int .i64 x52) S (q_move rfl) fun a S => ?_
  refine lq p0 S (q_move rfl) fun a S => ?_
  refine lq (.int .i64 (a0.length : Int)) S (q_lenSl rfl (h0).isSl rfl Tryz.underlying22) fun a S => ?_
  refine lq (.bool (decide (x52 < (a0.length : Int)))) S (q_lss rfl rfl) fun a S => ?_
  refine lx_nil (thenN ?_)
  refine cond_b S rfl (fun hc82 => ?_) (fun hc82 => ?_)
  ·have hm := ite_t hc82 hm
   refine wp_skip (thenN ?_)
   refine wp_seq ?_
   refine wp_block ?_
   refine wp_seq (region_plain ?_)
   refine lq p0 S (q_move rfl) fun a S => ?_
   refine lq (.int .i64 x52) S (q_move rfl) fun a S => ?_
   obtain ⟨x83, e84, hm⟩ := bind_some hm
   obtain ⟨c85, h86, hat87⟩ := (h0).elem (idx_some e84).2
   obtain rfl := h86
   have hlt := lt_of_idx (idx_some e84).2
   refine lq (ePtr p0 (x52.toNat * 1)) S (q_indexAddr rfl (h0).isSl rfl (idx_some e84).1 hlt Tryz.underlying22 Tryz.sizeOf9) fun a S => ?_
   refine lx_e (sv x83) S trivial (by decide) rfl trivial (q_load1 rfl Tryz.isAgg9 (by rintro _ rfl; exact ((hat87 0 _ rfl).ext H.ext))) (fun a S => ?_)
   obtain ⟨x90, e91, hm⟩ := bind_some hm
   refine lx_call (xs := [.tmp 13]) S trivial (by decide) rfl rfl Tryz.call47 ((spec_l01Label_ok  e91).mono ?_)
   rintro e w88 ⟨rfl, Hc89⟩
   have H := H.call0 Hc89
   refine ⟨_, rfl, trivial, fun a S => ?_⟩
   refine lq (.bool (!x90)) S (q_not rfl) fun a S => ?_
   refine lq (.bool (!x90)) S (q_move rfl) fun a S => ?_
   obtain ⟨t93, e94, hm⟩ := bind_some hm
   refine lx_cut 6 (fun a w => Slots a 23 [(0, p0), (3, (.int .i64 x52)), (22, (.bool t93))] ∧ Heap w0 [] w) ?_ ?_
   ·by_cases hc95 : (!x90) = true
    ·have hm := ite_t hc95 e94
     refine lx_skip S rfl rfl (isB_ne hc95) (by decide) (fun a S => ?_)
     refine lx_skip S rfl rfl (isB_ne hc95) (by decide) (fun a S => ?_)
     refine lx_skip S rfl rfl (isB_ne hc95) (by decide) (fun a S => ?_)
     refine lx_skip S rfl rfl (isB_ne hc95) (by decide) (fun a S => ?_)
     refine lx_skip S rfl rfl (isB_ne hc95) (by decide) (fun a S => ?_)
     refine lq (.bool true) S (q_pickT' rfl hc95 rfl) fun a S => ?_
     refine lx_nil ?_
     obtain rfl := Option.some.inj hm
     exact ⟨S.sub ⟨rfl, rfl, rfl, trivial⟩, H⟩
    ·have hm := ite_f (eq_false_of_ne_true hc95) e94
     have hc95 : (!x90) = false := eq_false_of_ne_true hc95
     refine lx_q p0 S (want_b rfl rfl hc95) (by decide) (q_move rfl) (fun a S => ?_)
     refine lx_q (.int .i64 x52) S (want_b rfl rfl hc95) (by decide) (q_move rfl) (fun a S => ?_)
     obtain ⟨x96, e97, hm⟩ := bind_some hm
     obtain ⟨c98, h99, hat100⟩ := (h0).elem (idx_some e97).2
     obtain rfl := h99
     have hlt := lt_of_idx (idx_some e97).2
     refine lx_q (ePtr p0 (x52.toNat * 1)) S (want_b rfl rfl hc95) (by decide) (q_indexAddr rfl (h0).isSl rfl (idx_some e97).1 hlt Tryz.underlying22 Tryz.sizeOf9) (fun a S => ?_)
     refine lx_e (sv x96) S (want_b rfl rfl hc95) (by decide) rfl trivial (q_load1 rfl Tryz.isAgg9 (by rintro _ rfl; exact ((hat100 0 _ rfl).ext H.ext))) (fun a S => ?_)
     refine lx_q (.bool (x96 == ([116, 97, 117] : Str))) S (want_b rfl rfl hc95) (by decide) (q_seql rfl rfl) (fun a S => ?_)
     refine lq (.bool (x96 == ([116, 97, 117] : Str))) S (q_pickF' rfl hc95 rfl) fun a S => ?_
     refine lx_nil ?_
     obtain rfl := Option.some.inj hm
     exact ⟨S.sub ⟨rfl, rfl, rfl, trivial⟩, H⟩
   ·rintro a w ⟨S, H⟩
    refine lx_nil (thenN ?_)
    refine cond_b S rfl (fun hc101 => ?_) (fun hc101 => ?_)
    ·have hm := ite_t hc101 hm
     refine wp_seq (region_plain ?_)
     refine lq (.bool false) S (q_assign rfl) fun a S => ?_
     refine lx_nil (thenN ?_)
     refine wp_ret (inBlock_ret ?_)
     refine then_ret ?_
     refine then_ret ?_
     refine inBlock_ret ?_
     refine then_ret ?_
     refine then_ret ?_
     obtain rfl := it_brk hm hc81
     have hm := ctl_inr hk78
     obtain rfl := Option.some.inj hm
     exact leave1 S rfl rfl ⟨rfl, H⟩
    ·have hm := ite_f hc101 hm
     refine wp_skip ?_
     refine inBlock_norm ?_
     refine thenN ?_
     refine region_plain ?_
     refine lq (.int .i64 x52) S (q_move rfl) fun a S => ?_
     refine lq (.int .i64 (W (x52 + (1 : Int)))) S (q_add rfl rfl) fun a S => ?_
     refine lq (.int .i64 (W (x52 + (1 : Int)))) S (q_assign rfl) fun a S => ?_
     refine lx_nil ?_
     exact ⟨m79, Nat.lt_succ_self _, (W (x52 + (1 : Int))), S.sub ⟨rfl, rfl, trivial⟩, H, it_cont hm hc81⟩
  ·have hm := ite_f hc82 hm
   refine wp_exit ?_
   refine then_exit ?_
   refine then_exit ?_
   refine inBlock_exit ?_
   obtain rfl := it_brk hm hc81
   exact ⟨S.sub trivial, H, rfl⟩

/-- spec.l12Marks -/
def spec_l12Marks_m (fuel : Nat) (a0 : Timpl_Lts) (a1 : (List Int)) : Option ((List Bool)) :=
  (mks a0.1 false).bind fun x50 => (iter (fun (s : (List Bool) × (Int)) => (match s with | (xs67, x68) => (if (decide (x68 < (a1.length : Int))) = true then (idx a1 x68).bind fun x90 => (idx xs67 x90).bind fun _ => some (.inl ((xs67.set x90.toNat true), (W (x68 + (1 : Int))))) else some (.inr (.inl (xs67)))) : Option (((List Bool) × (Int)) ⊕ (((List Bool)) ⊕ ((List Bool)))))) fuel (x50, (0 : Int))).bind fun res81 => ctl (β := (List Bool)) (ρ := (List Bool)) (τ := (List Bool)) res81 (fun (xs80) => some (xs80)) (fun q => some (q))
set_option maxRecDepth 20000 in
theorem spec_l12Marks_ok {w0 : World} {fuel : Nat} {p0 p1 : Value} {a0 : Timpl_Lts} {a1 : (List Int)} {r : (List Bool)} (h0 : Rd (rPtr Rimpl_Lts) w0 p0 a0) (h1 : Rd (rList (rInt .i64)) w0 p1 a1) (hm : spec_l12Marks_m fuel a0 a1 = some r) :
  Calls Tryz.prog 72 #[p0, p1] w0 fun e w => ∃ (v0 : Value), e = .returned (v0) ∧ Heap w0 [oA (rList rBool) v0 r] w := by
 unfold spec_l12Marks_m at hm
 have H := Heap.start w0
 obtain ⟨c31, h32, hat33⟩ := h0.ptr
 obtain ⟨c38, c39, rfl, h40, h41⟩ := h32
 obtain rfl := h40
 obtain ⟨c42, c43, rfl, h44, h45⟩ := h41
 obtain rfl := h44
 obtain ⟨c46, c47, rfl, h48, h49⟩ := h45
 obtain ⟨v34, rfl, h35⟩ := rd_list h48
 obtain ⟨v36, rfl, h37⟩ := rd_list h49
 refine enter (args := [p0, p1]) Tryz.func72 rfl 25 rfl (Nat.le_of_ble_eq_true rfl) (fun a S => ?_)
 refine wp_seq (region_plain ?_)
 refine lq (.slice none 0 0) S (q_assign rfl) fun a S => ?_
 refine lx_nil (thenN ?_)
 refine wp_seq (region_plain ?_)
 refine lq p0 S (q_move rfl) fun a S => ?_
 refine lq p0 S (q_nilCheck rfl ((hat33 0 _ rfl).isP)) fun a S => ?_
 refine lq (pAdd p0 0) S (q_fieldAddr' 0 2 rfl ((hat33 0 _ rfl).isP) Tryz.underlying33 rfl Tryz.sizeOf2) fun a S => ?_
 refine lx_e (.int .i64 a0.1) S trivial (by decide) rfl trivial (q_load1 rfl Tryz.isAgg2 (by rintro _ rfl; exact (At.of_add (m := 0) (j := 0) ((hat33 0 _ rfl).ext H.ext)))) (fun a S => ?_)
 obtain ⟨x50, e51, hm⟩ := bind_some hm
 obtain ⟨m52, hn, hn2, rfl⟩ := mks_some e51
 refine lx_make (r := rBool) (z0 := false) (n := m52) S trivial (by decide) rfl H (by rw [← hn]; rfl) (by rw [← hn]; rfl) Tryz.underlying89 (Tryz.ti4) rfl rfl (by decide) (fun w => ⟨rfl, rfl⟩) hn2 (by decide) (fun v53 w54 H => ⟨trivial, fun a S => ?_⟩)
 refine lq v53 S (q_assign rfl) fun a S => ?_
 refine lx_nil (thenN ?_)
 refine wp_seq (wp_seq (region_plain ?_))
 refine lq (.int .i64 (0 : Int)) S (q_assign rfl) fun a S => ?_
 refine lx_nil (thenN ?_)
 obtain ⟨res81, hit82, hk85⟩ := bind_some hm
 obtain ⟨f83, hf84, hit82⟩ := iter_name hit82
 refine block_loop (fun a w => ∃ (xs80 : List Bool), Slots a 25 [(5, v53)] ∧ Heap w0 [oA (rList rBool) v53 xs80] w ∧ res81 = .inl (xs80)) ?_ ?_
 ·rintro a w ⟨xs80, S, H, rfl⟩
  have hm := ctl_inl hk85
  refine thenN ?_
  refine wp_seq (region_plain ?_)
  refine lq v53 S (q_move rfl) fun a S => ?_
  refine lq v53 S (q_assign rfl) fun a S => ?_
  refine lx_nil (thenN ?_)
  refine wp_ret ?_
  obtain rfl := Option.some.inj hm
  exact leave1 S rfl rfl ⟨v53, rfl, H⟩
 ·skip
  refine loop_ghost (fun n a w => ∃ (xs67 : List Bool) (x68 : Int), Slots a 25 [(1, p1), (5, v53), (6, (.int .i64 x68))] ∧ Heap w0 [oA (rList rBool) v53 xs67] w ∧ iter f83 n (xs67, x68) = some res81) _ ⟨(List.replicate m52 false), (0 : Int), S.sub ⟨rfl, rfl, rfl, trivial⟩, H, hit82⟩ ?_
  rintro n a w ⟨xs67, x68, S, H, hit82⟩
  obtain ⟨m86, o87, rfl, hm, hc88⟩ := iter_step hit82
  rw [hf84] at hm
  refine wp_seq (wp_seq (region_plain ?_))
  refine lq (.int .i64 x68) S (q_move rfl) fun a S => ?_
  refine lq p1 S (q_move rfl) fun a S => ?_
  refine lq (.int .i64 (a1.length : Int)) S (q_lenSl rfl (h1).isSl rfl Tryz.underlying28) fun a S => ?_
  refine lq (.bool (decide (x68 < (a1.length : Int)))) S (q_lss rfl rfl) fun a S => ?_
  refine lx_nil (thenN ?_)
  refine cond_b S rfl (fun hc89 => ?_) (fun hc89 => ?_)
  ·have hm := ite_t hc89 hm
   refine wp_skip (thenN ?_)
   refine wp_seq ?_
   refine wp_block ?_
   refine region_plain ?_
   refine lq v53 S (q_move rfl) fun a S => ?_
   refine lq p1 S (q_move rfl) fun a S => ?_
   refine lq (.int .i64 x68) S (q_move rfl) fun a S => ?_
   obtain ⟨x90, e91, hm⟩ := bind_some hm
   obtain ⟨c92, h93, hat94⟩ := (h1).elem (idx_some e91).2
   obtain rfl := h93
   have hlt := lt_of_idx (idx_some e91).2
   refine lq (ePtr p1 (x68.toNat * 1)) S (q_indexAddr rfl (h1).isSl rfl (idx_some e91).1 hlt Tryz.underlying28 Tryz.sizeOf2) fun a S => ?_
   refine lx_e (.int .i64 x90) S trivial (by decide) rfl trivial (q_load1 rfl Tryz.isAgg2 (by rintro _ rfl; exact ((hat94 0 _ rfl).ext H.ext))) (fun a S => ?_)
   obtain ⟨x95, e96, hm⟩ := bind_some hm
   have hlt := lt_of_idx (idx_some e96).2
   refine lq (ePtr v53 (x90.toNat * 1)) S (q_indexAddr rfl (H.isSl 0 rfl) rfl (idx_some e96).1 hlt Tryz.underlying89 Tryz.sizeOf4) fun a S => ?_
   refine lx_storeElem (r := rBool) (us := [(.bool true)]) (off := 0) (e' := true) S trivial rfl H.putE (ev_zero rfl) rfl (idx_some e96).2 rfl Tryz.sizeOf4 (Nat.le_of_ble_eq_true rfl) (List.forall_mem_cons.2 ⟨rfl, (fun _ h => nomatch h)⟩) (Upd.full rfl (fun w G hG => by cases (show G = [] from hG); exact ⟨rfl, rfl⟩)) (fun w97 H => ⟨trivial, fun a S => ?_⟩)
   refine lx_nil ?_
   refine inBlock_norm ?_
   refine thenN ?_
   refine region_plain ?_
   refine lq (.int .i64 x68) S (q_move rfl) fun a S => ?_
   refine lq (.int .i64 (W (x68 + (1 : Int)))) S (q_add rfl rfl) fun a S => ?_
   refine lq (.int .i64 (W (x68 + (1 : Int)))) S (q_assign rfl) fun a S => ?_
   refine lx_nil ?_
   exact ⟨m86, Nat.lt_succ_self _, (xs67.set x90.toNat true), (W (x68 + (1 : Int))), S.sub ⟨rfl, rfl, rfl, trivial⟩, H, it_cont hm hc88⟩
  ·have hm := ite_f hc89 hm
   refine wp_exit ?_
   refine then_exit ?_
   refine then_exit ?_
   refine inBlock_exit ?_
   obtain rfl := it_brk hm hc88
   exact ⟨xs67, S.sub ⟨rfl, trivial⟩, H, rfl⟩

/-- spec.l12Close -/
def spec_l12Close_m (fuel : Nat) (a0 : Timpl_Lts) (a1 : (List Bool)) : Option ((List Bool)) :=
  (iter (fun (s : (List Bool) × (Bool)) => (match s with | (xs198, x199) => (if x199 = true then (iter (fun (s : (List Bool) × (Bool) × (Int)) => (match s with | (xs403, x404, x405) => (if (decide (x405 < (a0.2.2.2.length : Int))) = true then join (κ := List Bool → Bool → Option (((List Bool) × (Bool) × (Int)) ⊕ (((List Bool) × Bool) ⊕ ((List Bool))))) (fun (xs462 : List Bool) (x463 : Bool) => some (.inl (xs462, x463, (W (x405 + (1 : Int)))))) (fun K464 => (idx a0.2.2.2 x405).bind fun x466 => (if (x466.2.1 == (0 : Int)) = true then (idx xs403 x466.1).bind fun x486 => some x486 else some false).bind fun t483 => (if t483 = true then (idx xs403 x466.2.2).bind fun x494 => some (!x494) else some false).bind fun t491 => (if t491 = true then (idx xs403 x466.2.2).bind fun _ => (K464 (xs403.set x466.2.2.toNat true) true) else (K464 xs403 x404))) else some (.inr (.inl (xs403, x404)))) : Option (((List Bool) × (Bool) × (Int)) ⊕ (((List Bool) × Bool) ⊕ ((List Bool)))))) fuel (xs198, false, (0 : Int))).bind fun res453 => ctl (β := (List Bool) × Bool) (ρ := (List Bool)) (τ := (((List Bool) × (Bool)) ⊕ (((List Bool)) ⊕ ((List Bool))))) res453 (fun (xs451, x452) => some (.inl (xs451, x452))) (fun q => some (.inr (.inr q))) else some (.inr (.inl (xs198)))) : Option (((List Bool) × (Bool)) ⊕ (((List Bool)) ⊕ ((List Bool)))))) fuel (a1, true)).bind fun res349 => ctl (β := (List Bool)) (ρ := (List Bool)) (τ := (List Bool)) res349 (fun (xs348) => some (xs348)) (fun q => some (q))
set_option maxRecDepth 20000 in
theorem spec_l12Close_ok {w0 : World} {fuel : Nat} {p0 p1 : Value} {a0 : Timpl_Lts} {a1 : (List Bool)} {w00 : World} {L : List Asrt} {r : (List Bool)} (H : Heap w00 (oA (rList rBool) p1 a1 :: L) w0) (h0 : Rd (rPtr Rimpl_Lts) w00 p0 a0) (hm : spec_l12Close_m fuel a0 a1 = some r) :
  Calls Tryz.prog 73 #[p0, p1] w0 fun e w => e = .returned (.tuple #[]) ∧ Heap w00 (oA (rList rBool) p1 r :: L) w := by
 unfold spec_l12Close_m at hm
 obtain ⟨c31, h32, hat33⟩ := h0.ptr
 obtain ⟨c38, c39, rfl, h40, h41⟩ := h32
 obtain rfl := h40
 obtain ⟨c42, c43, rfl, h44, h45⟩ := h41
 obtain rfl := h44
 obtain ⟨c46, c47, rfl, h48, h49⟩ := h45
 obtain ⟨v34, rfl, h35⟩ := rd_list h48
 obtain ⟨v36, rfl, h37⟩ := rd_list h49
 refine enter (args := [p0, p1]) Tryz.func73 rfl 46 rfl (Nat.le_of_ble_eq_true rfl) (fun a S => ?_)
 refine wp_seq (region_plain ?_)
 refine lq (.bool true) S (q_assign rfl) fun a S => ?_
 refine lx_nil (thenN ?_)
 obtain ⟨res349, hit350, hk353⟩ := bind_some hm
 obtain ⟨f351, hf352, hit350⟩ := iter_name hit350
 refine block_loop (fun a w => ∃ (xs348 : List Bool), Slots a 46 [] ∧ Heap w00 (oA (rList rBool) p1 xs348 :: L) w ∧ res349 = .inl (xs348)) ?_ ?_
 ·rintro a w ⟨xs348, S, H, rfl⟩
  have hm := ctl_inl hk353
  obtain rfl := Option.some.inj hm
  exact leave0n S rfl ⟨rfl, H⟩
 ·skip
  refine loop_ghost (fun n a w => ∃ (xs198 : List Bool) (x199 : Bool), Slots a 46 [(0, p0), (1, p1), (4, (.bool x199))] ∧ Heap w00 (oA (rList rBool) p1 xs198 :: L) w ∧ iter f351 n (xs198, x199) = some res349) _ ⟨a1, true, S.sub ⟨rfl, rfl, rfl, trivial⟩, H, hit350⟩ ?_
  rintro n a w ⟨xs198, x199, S, H, hit350⟩
  obtain ⟨m354, o355, rfl, hm, hc356⟩ := iter_step hit350
  rw [hf352] at hm
  refine wp_seq (wp_seq (region_plain ?_))
  refine lq (.bool x199) S (q_move rfl) fun a S => ?_
  refine lx_nil (thenN ?_)
  refine cond_b S rfl (fun hc357 => ?_) (fun hc357 => ?_)
  ·have hm := ite_t hc357 hm
   refine wp_skip (thenN ?_)
   refine wp_block ?_
   refine wp_seq (region_plain ?_)
   refine lq (.bool false) S (q_assign rfl) fun a S => ?_
   refine lx_nil (thenN ?_)
   refine wp_seq (region_plain ?_)
   refine lq (.int .i64 (0 : Int)) S (q_assign rfl) fun a S => ?_
   refine lx_nil (thenN ?_)
   obtain ⟨res453, hit454, hk457⟩ := bind_some hm
   obtain ⟨f455, hf456, hit454⟩ := iter_name hit454
   refine block_loop (fun a w => ∃ (xs451 : List Bool) (x452 : Bool), Slots a 46 [(0, p0), (1, p1), (4, (.bool x452))] ∧ Heap w00 (oA (rList rBool) p1 xs451 :: L) w ∧ res453 = .inl (xs451, x452)) ?_ ?_
   ·rintro a w ⟨xs451, x452, S, H, rfl⟩
    have hm := ctl_inl hk457
    refine inBlock_norm ?_
    exact ⟨m354, Nat.lt_succ_self _, xs451, x452, S.sub ⟨rfl, rfl, rfl, trivial⟩, H, it_cont hm hc356⟩
   ·skip
    refine loop_ghost (fun n a w => ∃ (xs403 : List Bool) (x404 : Bool) (x405 : Int), Slots a 46 [(0, p0), (1, p1), (4, (.bool x404)), (5, (.int .i64 x405))] ∧ Heap w00 (oA (rList rBool) p1 xs403 :: L) w ∧ iter f455 n (xs403, x404, x405) = some res453) _ ⟨xs198, false, (0 : Int), S.sub ⟨rfl, rfl, rfl, rfl, trivial⟩, H, hit454⟩ ?_
    rintro n a w ⟨xs403, x404, x405, S, H, hit454⟩
    obtain ⟨m458, o459, rfl, hm, hc460⟩ := iter_step hit454
    rw [hf456] at hm
    refine wp_seq (wp_seq (region_plain ?_))
    refine lq (.int .i64 x405) S (q_move rfl) fun a S => ?_
    refine lq p0 S (q_move rfl) fun a S => ?_
    refine lq p0 S (q_nilCheck rfl ((hat33 0 _ rfl).isP)) fun a S => ?_
    refine lq (pAdd p0 3) S (q_fieldAddr' 3 31 rfl ((hat33 0 _ rfl).isP) Tryz.underlying33 rfl Tryz.sizeOf31) fun a S => ?_
    refine lx_e v36 S trivial (by decide) rfl trivial (q_load1 rfl Tryz.isAgg31 (by rintro _ rfl; exact (At.of_add (m := 3) (j := 0) ((hat33 3 _ rfl).ext H.ext)))) (fun a S => ?_)
    refine lq (.int .i64 (a0.2.2.2.length : Int)) S (q_lenSl rfl (h37).isSl rfl Tryz.underlying31) fun a S => ?_
    refine lq (.bool (decide (x405 < (a0.2.2.2.length : Int)))) S (q_lss rfl rfl) fun a S => ?_
    refine lx_nil (thenN ?_)
    refine cond_b S rfl (fun hc461 => ?_) (fun hc461 => ?_)
    ·have hm := ite_t hc461 hm
     refine wp_skip (thenN ?_)
     obtain ⟨K464, hK465, hm⟩ := join_elim hm
     refine seq_cut (fun a w => ∃ (xs462 : List Bool) (x463 : Bool), Slots a 46 [(0, p0), (1, p1), (4, (.bool x463)), (5, (.int .i64 x405))] ∧ Heap w00 (oA (rList rBool) p1 xs462 :: L) w ∧ K464 xs462 x463 = some o459) ?_ ?_
     ·rintro a w ⟨xs462, x463, S, H, hm⟩
      subst hK465
      refine region_plain ?_
      refine lq (.int .i64 x405) S (q_move rfl) fun a S => ?_
      refine lq (.int .i64 (W (x405 + (1 : Int)))) S (q_add rfl rfl) fun a S => ?_
      refine lq (.int .i64 (W (x405 + (1 : Int)))) S (q_assign rfl) fun a S => ?_
      refine lx_nil ?_
      exact ⟨m458, Nat.lt_succ_self _, xs462, x463, (W (x405 + (1 : Int))), S.sub ⟨rfl, rfl, rfl, rfl, trivial⟩, H, it_cont hm hc460⟩
     ·skip
      refine wp_block ?_
      refine wp_seq (region_plain ?_)
      refine lq p0 S (q_move rfl) fun a S => ?_
      refine lq p0 S (q_nilCheck rfl ((hat33 0 _ rfl).isP)) fun a S => ?_
      refine lq (pAdd p0 3) S (q_fieldAddr' 3 31 rfl ((hat33 0 _ rfl).isP) Tryz.underlying33 rfl Tryz.sizeOf31) fun a S => ?_
      refine lx_e v36 S trivial (by decide) rfl trivial (q_load1 rfl Tryz.isAgg31 (by rintro _ rfl; exact (At.of_add (m := 3) (j := 0) ((hat33 3 _ rfl).ext H.ext)))) (fun a S => ?_)
      refine lq (.int .i64 x405) S (q_move rfl) fun a S => ?_
      obtain ⟨x466, e467, hm⟩ := bind_some hm
      obtain ⟨c468, h469, hat470⟩ := (h37).elem (idx_some e467).2
      obtain ⟨c471, c472, rfl, h473, h474⟩ := h469
      obtain rfl := h473
      obtain ⟨c475, c476, rfl, h477, h478⟩ := h474
      obtain rfl := h477
      obtain rfl := h478
      have hlt := lt_of_idx (idx_some e467).2
      refine lq (ePtr v36 (x405.toNat * 3)) S (q_indexAddr rfl (h37).isSl rfl (idx_some e467).1 hlt Tryz.underlying31 Tryz.sizeOf57) fun a S => ?_
      refine lx_e (.agg #[(.int .i64 x466.1), (.int .i64 x466.2.1), (.int .i64 x466.2.2)]) S trivial (by decide) rfl trivial (q_loadA (cs := [(.int .i64 x466.1), (.int .i64 x466.2.1), (.int .i64 x466.2.2)]) rfl ((hat470 0 _ rfl).isP) Tryz.isAgg57 Tryz.sizeOf57 (by rintro _ rfl; exact (fun j u hu => (hat470 j u hu).ext H.ext))) (fun a S => ?_)
      refine lx_alloc S trivial (by decide) rfl H Tryz.zeroValue57 rfl (fun b479 w480 H => ⟨trivial, fun a S => ?_⟩)
      refine lx_storeBox (o := 0) (i := 0) (us := [(.int .i64 x466.1), (.int .i64 x466.2.1), (.int .i64 x466.2.2)]) (cs' := [(.int .i64 x466.1), (.int .i64 x466.2.1), (.int .i64 x466.2.2)]) S trivial rfl H rfl rfl rfl rfl Tryz.sizeOf57 (Nat.le_of_ble_eq_true rfl) (List.forall_mem_cons.2 ⟨rfl, (List.forall_mem_cons.2 ⟨rfl, (List.forall_mem_cons.2 ⟨rfl, (fun _ h => nomatch h)⟩)⟩)⟩) rfl (fun w482 H => ⟨trivial, fun a S => ?_⟩)
      change Heap w00 (bA b479 [(.int .i64 x466.1), (.int .i64 x466.2.1), (.int .i64 x466.2.2)] 57 :: oA (rList rBool) p1 xs403 :: L) w482 at H
      refine lx_nil (thenN ?_)
      refine wp_seq (region_plain ?_)
      refine lq (pAdd (bp b479) 1) S (q_fieldAddr' 1 2 rfl (isP_bp _) Tryz.underlying57 rfl Tryz.sizeOf2) fun a S => ?_
      refine lx_e (.int .i64 x466.2.1) S trivial (by decide) rfl trivial (q_load1 rfl Tryz.isAgg2 (by rintro _ rfl; exact (At.of_add (m := 1) (j := 0) (boxAt (i := 0) H rfl (j := 1) rfl)))) (fun a S => ?_)
      refine lq (.bool (x466.2.1 == (0 : Int))) S (q_eql rfl rfl) fun a S => ?_
      refine lq (.bool (x466.2.1 == (0 : Int))) S (q_move rfl) fun a S => ?_
      obtain ⟨t483, e484, hm⟩ := bind_some hm
      refine lx_cut 6 (fun a w => Slots a 46 [(0, p0), (1, p1), (4, (.bool x404)), (5, (.int .i64 x405)), (6, (bp b479)), (33, (.bool t483))] ∧ Heap w00 (bA b479 [(.int .i64 x466.1), (.int .i64 x466.2.1), (.int .i64 x466.2.2)] 57 :: oA (rList rBool) p1 xs403 :: L) w) ?_ ?_
      ·by_cases hc485 : (x466.2.1 == (0 : Int)) = true
       ·have hm := ite_t hc485 e484
        refine lx_q p1 S (want_b rfl rfl hc485) (by decide) (q_move rfl) (fun a S => ?_)
        refine lx_q (pAdd (bp b479) 0) S (want_b rfl rfl hc485) (by decide) (q_fieldAddr' 0 2 rfl (isP_bp _) Tryz.underlying57 rfl Tryz.sizeOf2) (fun a S => ?_)
        refine lx_e (.int .i64 x466.1) S (want_b rfl rfl hc485) (by decide) rfl trivial (q_load1 rfl Tryz.isAgg2 (by rintro _ rfl; exact (At.of_add (m := 0) (j := 0) (boxAt (i := 0) H rfl (j := 0) rfl)))) (fun a S => ?_)
        obtain ⟨x486, e487, hm⟩ := bind_some hm
        have hlt := lt_of_idx (idx_some e487).2
        refine lx_q (ePtr p1 (x466.1.toNat * 1)) S (want_b rfl rfl hc485) (by decide) (q_indexAddr rfl (H.isSl 1 rfl) rfl (idx_some e487).1 hlt Tryz.underlying89 Tryz.sizeOf4) (fun a S => ?_)
        obtain ⟨c488, h489, hat490⟩ := (H.rdAt 1 rfl).elem (idx_some e487).2
        obtain rfl := h489
        refine lx_e (.bool x486) S (want_b rfl rfl hc485) (by decide) rfl trivial (q_load1 rfl Tryz.isAgg4 (by rintro _ rfl; exact (hat490 0 _ rfl))) (fun a S => ?_)
        refine lq (.bool x486) S (q_pickT' rfl hc485 rfl) fun a S => ?_
        refine lx_nil ?_
        obtain rfl := Option.some.inj hm
        exact ⟨S.sub ⟨rfl, rfl, rfl, rfl, rfl, rfl, trivial⟩, H⟩
       ·have hm := ite_f (eq_false_of_ne_true hc485) e484
        have hc485 : (x466.2.1 == (0 : Int)) = false := eq_false_of_ne_true hc485
        refine lx_skip S rfl rfl (isB_ne hc485) (by decide) (fun a S => ?_)
        refine lx_skip S rfl rfl (isB_ne hc485) (by decide) (fun a S => ?_)
        refine lx_skip S rfl rfl (isB_ne hc485) (by decide) (fun a S => ?_)
        refine lx_skip S rfl rfl (isB_ne hc485) (by decide) (fun a S => ?_)
        refine lx_skip S rfl rfl (isB_ne hc485) (by decide) (fun a S => ?_)
        refine lq (.bool false) S (q_pickF' rfl hc485 rfl) fun a S => ?_
        refine lx_nil ?_
        obtain rfl := Option.some.inj hm
        exact ⟨S.sub ⟨rfl, rfl, rfl, rfl, rfl, rfl, trivial⟩, H⟩
      ·rintro a w ⟨S, H⟩
       refine lq (.bool t483) S (q_move rfl) fun a S => ?_
       obtain ⟨t491, e492, hm⟩ := bind_some hm
       refine lx_cut 7 (fun a w => Slots a 46 [(0, p0), (1, p1), (4, (.bool x404)), (5, (.int .i64 x405)), (6, (bp b479)), (41, (.bool t491))] ∧ Heap w00 (bA b479 [(.int .i64 x466.1), (.int .i64 x466.2.1), (.int .i64 x466.2.2)] 57 :: oA (rList rBool) p1 xs403 :: L) w) ?_ ?_
       ·by_cases hc493 : t483 = true
        ·have hm := ite_t hc493 e492
         refine lx_q p1 S (want_b rfl rfl hc493) (by decide) (q_move rfl) (fun a S => ?_)
         refine lx_q (pAdd (bp b479) 2) S (want_b rfl rfl hc493) (by decide) (q_fieldAddr' 2 2 rfl (isP_bp _) Tryz.underlying57 rfl Tryz.sizeOf2) (fun a S => ?_)
         refine lx_e (.int .i64 x466.2.2) S (want_b rfl rfl hc493) (by decide) rfl trivial (q_load1 rfl Tryz.isAgg2 (by rintro _ rfl; exact (At.of_add (m := 2) (j := 0) (boxAt (i := 0) H rfl (j := 2) rfl)))) (fun a S => ?_)
         obtain ⟨x494, e495, hm⟩ := bind_some hm
         have hlt := lt_of_idx (idx_some e495).2
         refine lx_q (ePtr p1 (x466.2.2.toNat * 1)) S (want_b rfl rfl hc493) (by decide) (q_indexAddr rfl (H.isSl 1 rfl) rfl (idx_some e495).1 hlt Tryz.underlying89 Tryz.sizeOf4) (fun a S => ?_)
         obtain ⟨c496, h497, hat498⟩ := (H.rdAt 1 rfl).elem (idx_some e495).2
         obtain rfl := h497
         refine lx_e (.bool x494) S (want_b rfl rfl hc493) (by decide) rfl trivial (q_load1 rfl Tryz.isAgg4 (by rintro _ rfl; exact (hat498 0 _ rfl))) (fun a S => ?_)
         refine lx_q (.bool (!x494)) S (want_b rfl rfl hc493) (by decide) (q_not rfl) (fun a S => ?_)
         refine lq (.bool (!x494)) S (q_pickT' rfl hc493 rfl) fun a S => ?_
         refine lx_nil ?_
         obtain rfl := Option.some.inj hm
         exact ⟨S.sub ⟨rfl, rfl, rfl, rfl, rfl, rfl, trivial⟩, H⟩
        ·have hm := ite_f (eq_false_of_ne_true hc493) e492
         have hc493 : t483 = false := eq_false_of_ne_true hc493
         refine lx_skip S rfl rfl (isB_ne hc493) (by decide) (fun a S => ?_)
         refine lx_skip S rfl rfl (isB_ne hc493) (by decide) (fun a S => ?_)
         refine lx_skip S rfl rfl (isB_ne hc493) (by decide) (fun a S => ?_)
         refine lx_skip S rfl rfl (isB_ne hc493) (by decide) (fun a S => ?_)
         refine lx_skip S rfl rfl (isB_ne hc493) (by decide) (fun a S => ?_)
         refine lx_skip S rfl rfl (isB_ne hc493) (by decide) (fun a S => ?_)
         refine lq (.bool false) S (q_pickF' rfl hc493 rfl) fun a S => ?_
         refine lx_nil ?_
         obtain rfl := Option.some.inj hm
         exact ⟨S.sub ⟨rfl, rfl, rfl, rfl, rfl, rfl, trivial⟩, H⟩
       ·rintro a w ⟨S, H⟩
        refine lx_nil (thenN ?_)
        refine cond_b S rfl (fun hc499 => ?_) (fun hc499 => ?_)
        ·have hm := ite_t hc499 hm
         refine wp_seq (region_plain ?_)
         refine lq p1 S (q_move rfl) fun a S => ?_
         refine lq (pAdd (bp b479) 2) S (q_fieldAddr' 2 2 rfl (isP_bp _) Tryz.underlying57 rfl Tryz.sizeOf2) fun a S => ?_
         refine lx_e (.int .i64 x466.2.2) S trivial (by decide) rfl trivial (q_load1 rfl Tryz.isAgg2 (by rintro _ rfl; exact (At.of_add (m := 2) (j := 0) (boxAt (i := 0) H rfl (j := 2) rfl)))) (fun a S => ?_)
         obtain ⟨x500, e501, hm⟩ := bind_some hm
         have hlt := lt_of_idx (idx_some e501).2
         refine lq (ePtr p1 (x466.2.2.toNat * 1)) S (q_indexAddr rfl (H.isSl 1 rfl) rfl (idx_some e501).1 hlt Tryz.underlying89 Tryz.sizeOf4) fun a S => ?_
         have H : Heap w00 (oA (rList rBool) p1 xs403 :: bA b479 [(.int .i64 x466.1), (.int .i64 x466.2.1), (.int .i64 x466.2.2)] 57 :: L) w := H.front 1 rfl
         refine lx_storeElem (r := rBool) (us := [(.bool true)]) (off := 0) (e' := true) S trivial rfl H.putE (ev_zero rfl) rfl (idx_some e501).2 rfl Tryz.sizeOf4 (Nat.le_of_ble_eq_true rfl) (List.forall_mem_cons.2 ⟨rfl, (fun _ h => nomatch h)⟩) (Upd.full rfl (fun w G hG => by cases (show G = [] from hG); exact ⟨rfl, rfl⟩)) (fun w502 H => ⟨trivial, fun a S => ?_⟩)
         refine lx_nil (thenN ?_)
         refine region_plain ?_
         refine lq (.bool true) S (q_assign rfl) fun a S => ?_
         refine lx_nil ?_
         refine inBlock_norm ?_
         have H : Heap w00 (oA (rList rBool) p1 (xs403.set x466.2.2.toNat true) :: L) w502 := H.selT 2 [0] (by decide)
         exact ⟨(xs403.set x466.2.2.toNat true), true, S.sub ⟨rfl, rfl, rfl, rfl, trivial⟩, H, hm⟩
        ·have hm := ite_f hc499 hm
         refine wp_skip ?_
         refine inBlock_norm ?_
         have H : Heap w00 (oA (rList rBool) p1 xs403 :: L) w := H.selT 2 [1] (by decide)
         exact ⟨xs403, x404, S.sub ⟨rfl, rfl, rfl, rfl, trivial⟩, H, hm⟩
    ·have hm := ite_f hc461 hm
     refine wp_exit ?_
     refine then_exit ?_
     refine then_exit ?_
     refine inBlock_exit ?_
     obtain rfl := it_brk hm hc460
     exact ⟨xs403, x404, S.sub ⟨rfl, rfl, rfl, trivial⟩, H, rfl⟩
  ·have hm := ite_f hc357 hm
   refine wp_exit ?_
   refine then_exit ?_
   refine then_exit ?_
   refine inBlock_exit ?_
   obtain rfl := it_brk hm hc356
   exact ⟨xs198, S.sub trivial, H, rfl⟩

/-- spec.l14List -/
def spec_l14List_m (fuel : Nat) (a0 : (List Bool)) : Option ((List Int)) :=
  (iter (fun (s : (List Int) × (Int)) => (match s with | (xs59, x61) => (if (decide (x61 < (a0.length : Int))) = true then join (κ := List Int → Option (((List Int) × (Int)) ⊕ (((List Int)) ⊕ ((List Int))))) (fun (xs99 : List Int) => some (.inl (xs99, (W (x61 + (1 : Int)))))) (fun K101 => (idx a0 x61).bind fun x103 => (if x103 = true then (app xs59 [x61]).bind fun x112 => (K101 x112) else (K101 xs59))) else some (.inr (.inl (xs59)))) : Option (((List Int) × (Int)) ⊕ (((List Int)) ⊕ ((List Int)))))) fuel (([] : List Int), (0 : Int))).bind fun res89 => ctl (β := (List Int)) (ρ := (List Int)) (τ := (List Int)) res89 (fun (xs87) => some (xs87)) (fun q => some (q))
set_option maxRecDepth 20000 in
theorem spec_l14List_ok {w0 : World} {fuel : Nat} {p0 : Value} {a0 : (List Bool)} {r : (List Int)} (h0 : Rd (rList rBool) w0 p0 a0) (hm : spec_l14List_m fuel a0 = some r) :
  Calls Tryz.prog 74 #[p0] w0 fun e w => ∃ (v0 : Value), e = .returned (v0) ∧ Heap w0 [oA (rList (rInt .i64)) v0 r] w := by
 unfold spec_l14List_m at hm
 have H := Heap.start w0
 refine enter (args := [p0]) Tryz.func74 rfl 21 rfl (Nat.le_of_ble_eq_true rfl) (fun a S => ?_)
 refine wp_seq (region_plain ?_)
 refine lq (.slice none 0 0) S (q_assign rfl) fun a S => ?_
 refine lx_nil (thenN ?_)
 refine wp_seq (region_plain ?_)
 refine lx_buildSlice0 (r := (rInt .i64)) S trivial (by decide) rfl H Tryz.underlying28 Tryz.sizeOf2 (fun v31 w32 H => ⟨trivial, fun a S => ?_⟩)
 refine lq v31 S (q_assign rfl) fun a S => ?_
 refine lx_nil (thenN ?_)
 refine wp_seq (wp_seq (region_plain ?_))
 refine lq (.int .i64 (0 : Int)) S (q_assign rfl) fun a S => ?_
 refine lx_nil (thenN ?_)
 obtain ⟨res89, hit90, hk93⟩ := bind_some hm
 obtain ⟨f91, hf92, hit90⟩ := iter_name hit90
 refine block_loop (fun a w => ∃ (xs87 : List Int) (v86 : Value), Slots a 21 [(3, v86)] ∧ Heap w0 [oA (rList (rInt .i64)) v86 xs87] w ∧ res89 = .inl (xs87)) ?_ ?_
 ·rintro a w ⟨xs87, v86, S, H, rfl⟩
  have hm := ctl_inl hk93
  refine thenN ?_
  refine wp_seq (region_plain ?_)
  refine lq v86 S (q_move rfl) fun a S => ?_
  refine lq v86 S (q_assign rfl) fun a S => ?_
  refine lx_nil (thenN ?_)
  refine wp_ret ?_
  obtain rfl := Option.some.inj hm
  exact leave1 S rfl rfl ⟨v86, rfl, H⟩
 ·skip
  refine loop_ghost (fun n a w => ∃ (xs59 : List Int) (x61 : Int) (v58 : Value), Slots a 21 [(0, p0), (3, v58), (4, (.int .i64 x61))] ∧ Heap w0 [oA (rList (rInt .i64)) v58 xs59] w ∧ iter f91 n (xs59, x61) = some res89) _ ⟨([] : List Int), (0 : Int), v31, S.sub ⟨rfl, rfl, rfl, trivial⟩, H, hit90⟩ ?_
  rintro n a w ⟨xs59, x61, v58, S, H, hit90⟩
  obtain ⟨m94, o95, rfl, hm, hc96⟩ := iter_step hit90
  rw [hf92] at hm
  refine wp_seq (wp_seq (region_plain ?_))
  refine lq (.int .i64 x61) S (q_move rfl) fun a S => ?_
  refine lq p0 S (q_move rfl) fun a S => ?_
  refine lq (.int .i64 (a0.length : Int)) S (q_lenSl rfl (h0).isSl rfl Tryz.underlying89) fun a S => ?_
  refine lq (.bool (decide (x61 < (a0.length : Int)))) S (q_lss rfl rfl) fun a S => ?_
  refine lx_nil (thenN ?_)
  refine cond_b S rfl (fun hc97 => ?_) (fun hc97 => ?_)
  ·have hm := ite_t hc97 hm
   refine wp_skip (thenN ?_)
   obtain ⟨K101, hK102, hm⟩ := join_elim hm
   refine seq_cut (fun a w => ∃ (xs99 : List Int) (v98 : Value), Slots a 21 [(0, p0), (3, v98), (4, (.int .i64 x61))] ∧ Heap w0 [oA (rList (rInt .i64)) v98 xs99] w ∧ K101 xs99 = some o95) ?_ ?_
   ·rintro a w ⟨xs99, v98, S, H, hm⟩
    subst hK102
    refine region_plain ?_
    refine lq (.int .i64 x61) S (q_move rfl) fun a S => ?_
    refine lq (.int .i64 (W (x61 + (1 : Int)))) S (q_add rfl rfl) fun a S => ?_
    refine lq (.int .i64 (W (x61 + (1 : Int)))) S (q_assign rfl) fun a S => ?_
    refine lx_nil ?_
    exact ⟨m94, Nat.lt_succ_self _, xs99, (W (x61 + (1 : Int))), v98, S.sub ⟨rfl, rfl, rfl, trivial⟩, H, it_cont hm hc96⟩
   ·skip
    refine wp_block ?_
    refine wp_seq (region_plain ?_)
    refine lq p0 S (q_move rfl) fun a S => ?_
    refine lq (.int .i64 x61) S (q_move rfl) fun a S => ?_
    obtain ⟨x103, e104, hm⟩ := bind_some hm
    obtain ⟨c105, h106, hat107⟩ := (h0).elem (idx_some e104).2
    obtain rfl := h106
    have hlt := lt_of_idx (idx_some e104).2
    refine lq (ePtr p0 (x61.toNat * 1)) S (q_indexAddr rfl (h0).isSl rfl (idx_some e104).1 hlt Tryz.underlying89 Tryz.sizeOf4) fun a S => ?_
    refine lx_e (.bool x103) S trivial (by decide) rfl trivial (q_load1 rfl Tryz.isAgg4 (by rintro _ rfl; exact ((hat107 0 _ rfl).ext H.ext))) (fun a S => ?_)
    refine lx_nil (thenN ?_)
    refine cond_b S rfl (fun hc108 => ?_) (fun hc108 => ?_)
    ·have hm := ite_t hc108 hm
     refine region_plain ?_
     refine lq v58 S (q_move rfl) fun a S => ?_
     refine lq (.int .i64 x61) S (q_move rfl) fun a S => ?_
     refine lx_buildSlice (r := (rInt .i64)) (xs := [x61]) (ps := [(0, [(.int .i64 x61)])]) (cs := [(.int .i64 x61)]) (parts := [(0, .tmp 17)]) S trivial (by decide) rfl (H.put0 (A := eA) rfl) rfl Tryz.underlying28 Tryz.sizeOf2 Tryz.zeroValue2 (by decide) ⟨rfl, rfl, Nat.le_of_ble_eq_true rfl, trivial⟩ (by intro zs hz; exact fill_dense hz ⟨rfl, trivial⟩ rfl rfl) rfl (by decide) (fun w F hA => by cases (show F = [] from hA); exact ⟨_, _, [(.int .i64 x61)], _, rfl, rfl, ⟨rfl, rfl⟩, ⟨rfl, rfl⟩⟩) (fun v109 w110 H => ⟨trivial, fun a S => ?_⟩)
     obtain ⟨x112, e113, hm⟩ := bind_some hm
     obtain ⟨hle, hap⟩ := app_some e113
     replace hap := hap.symm
     subst hap
     have H : Heap w0 [oA (rList (rInt .i64)) v109 [x61], oA (rList (rInt .i64)) v58 xs59] w110 := H.front 0 rfl
     have H : Heap w0 [oA (rList (rInt .i64)) v58 xs59, oA (rList (rInt .i64)) v109 [x61]] w110 := H.front 1 rfl
     refine lx_appendOwn (r := (rInt .i64)) S trivial (by decide) rfl H rfl rfl Tryz.underlying28 Tryz.ti2 rfl rfl rfl (by decide) (by decide) hle (fun v114 w115 H => ⟨trivial, fun a S => ?_⟩)
     refine lq v114 S (q_assign rfl) fun a S => ?_
     refine lx_nil ?_
     refine inBlock_norm ?_
     exact ⟨(xs59 ++ [x61]), v114, S.sub ⟨rfl, rfl, rfl, trivial⟩, H, hm⟩
    ·have hm := ite_f hc108 hm
     refine wp_skip ?_
     refine inBlock_norm ?_
     exact ⟨xs59, v58, S.sub ⟨rfl, rfl, rfl, trivial⟩, H, hm⟩
  ·have hm := ite_f hc97 hm
   refine wp_exit ?_
   refine then_exit ?_
   refine then_exit ?_
   refine inBlock_exit ?_
   obtain rfl := it_brk hm hc96
   exact ⟨xs59, v58, S.sub ⟨rfl, trivial⟩, H, rfl⟩

/-- spec.l12First -/
def spec_l12First_m (fuel : Nat) (a0 : Timpl_Lts) : Option ((List Int)) :=
  (spec_l12Marks_m fuel a0 [a0.2.1]).bind fun x55 => (spec_l12Close_m fuel a0 x55).bind fun x62 => (spec_l14List_m fuel x62).bind fun x66 => some (x66)
set_option maxRecDepth 20000 in
theorem spec_l12First_ok {w0 : World} {fuel : Nat} {p0 : Value} {a0 : Timpl_Lts} {r : (List Int)} (h0 : Rd (rPtr Rimpl_Lts) w0 p0 a0) (hm : spec_l12First_m fuel a0 = some r) :
  Calls Tryz.prog 48 #[p0] w0 fun e w => ∃ (v0 : Value), e = .returned (v0) ∧ Heap w0 [oA (rList (rInt .i64)) v0 r] w := by
 unfold spec_l12First_m at hm
 have H := Heap.start w0
 obtain ⟨c31, h32, hat33⟩ := h0.ptr
 obtain ⟨c38, c39, rfl, h40, h41⟩ := h32
 obtain rfl := h40
 obtain ⟨c42, c43, rfl, h44, h45⟩ := h41
 obtain rfl := h44
 obtain ⟨c46, c47, rfl, h48, h49⟩ := h45
 obtain ⟨v34, rfl, h35⟩ := rd_list h48
 obtain ⟨v36, rfl, h37⟩ := rd_list h49
 refine enter (args := [p0]) Tryz.func48 rfl 16 rfl (Nat.le_of_ble_eq_true rfl) (fun a S => ?_)
 refine wp_seq (region_plain ?_)
 refine lq (.slice none 0 0) S (q_assign rfl) fun a S => ?_
 refine lx_nil (thenN ?_)
 refine wp_seq (region_plain ?_)
 refine lq p0 S (q_move rfl) fun a S => ?_
 refine lq p0 S (q_move rfl) fun a S => ?_
 refine lq p0 S (q_nilCheck rfl ((hat33 0 _ rfl).isP)) fun a S => ?_
 refine lq (pAdd p0 1) S (q_fieldAddr' 1 2 rfl ((hat33 0 _ rfl).isP) Tryz.underlying33 rfl Tryz.sizeOf2) fun a S => ?_
 refine lx_e (.int .i64 a0.2.1) S trivial (by decide) rfl trivial (q_load1 rfl Tryz.isAgg2 (by rintro _ rfl; exact (At.of_add (m := 1) (j := 0) ((hat33 1 _ rfl).ext H.ext)))) (fun a S => ?_)
 refine lx_buildSlice (r := (rInt .i64)) (xs := [a0.2.1]) (ps := [(0, [(.int .i64 a0.2.1)])]) (cs := [(.int .i64 a0.2.1)]) (parts := [(0, .tmp 8)]) S trivial (by decide) rfl (H.put0 (A := eA) rfl) rfl Tryz.underlying28 Tryz.sizeOf2 Tryz.zeroValue2 (by decide) ⟨rfl, rfl, Nat.le_of_ble_eq_true rfl, trivial⟩ (by intro zs hz; exact fill_dense hz ⟨rfl, trivial⟩ rfl rfl) rfl (by decide) (fun w F hA => by cases (show F = [] from hA); exact ⟨_, _, [(.int .i64 a0.2.1)], _, rfl, rfl, ⟨rfl, rfl⟩, ⟨rfl, rfl⟩⟩) (fun v50 w51 H => ⟨trivial, fun a S => ?_⟩)
 obtain ⟨x55, e56, hm⟩ := bind_some hm
 refine lx_call (xs := [.tmp 4, .tmp 9]) S trivial (by decide) rfl rfl Tryz.call72 ((spec_l12Marks_ok (H.arg h0) (H.rdAt 0 rfl) e56).mono ?_)
 rintro e w53 ⟨v57, rfl, Hc54⟩
 have H := H.call1 Hc54
 refine ⟨_, rfl, trivial, fun a S => ?_⟩
 refine lq v57 S (q_assign rfl) fun a S => ?_
 refine lx_nil (thenN ?_)
 refine wp_seq (region_plain ?_)
 refine lq p0 S (q_move rfl) fun a S => ?_
 refine lq v57 S (q_move rfl) fun a S => ?_
 obtain ⟨x62, e63, hm⟩ := bind_some hm
 refine lx_call (xs := [.tmp 11, .tmp 12]) S trivial (by decide) rfl rfl Tryz.call73 ((spec_l12Close_ok H h0 e63).mono ?_)
 rintro e w60 ⟨rfl, H⟩
 refine ⟨_, rfl, trivial, fun a S => ?_⟩
 refine lx_nil (thenN ?_)
 refine wp_seq (region_plain ?_)
 refine lq v57 S (q_move rfl) fun a S => ?_
 obtain ⟨x66, e67, hm⟩ := bind_some hm
 refine lx_call (xs := [.tmp 14]) S trivial (by decide) rfl rfl Tryz.call74 ((spec_l14List_ok (H.rdAt 0 rfl) e67).mono ?_)
 rintro e w64 ⟨v68, rfl, Hc65⟩
 have H := H.call1 Hc65
 refine ⟨_, rfl, trivial, fun a S => ?_⟩
 refine lq v68 S (q_assign rfl) fun a S => ?_
 refine lx_nil (thenN ?_)
 refine wp_ret ?_
 obtain rfl := Option.some.inj hm
 have H : Heap w0 [oA (rList (rInt .i64)) v68 x66] w64 := H.sel [0] (by decide)
 exact leave1 S rfl rfl ⟨v68, rfl, H⟩

/-- spec.l11Find -/
def spec_l11Find_m (fuel : Nat) (a0 : (List Str)) (a1 : Str) : Option (Int) :=
  (iter (fun (s : (Int)) => (match s with | (x39) => (if (decide (x39 < (a0.length : Int))) = true then (idx a0 x39).bind fun x57 => (if (x57 == a1) = true then some (.inr (.inr x39)) else some (.inl ((W (x39 + (1 : Int)))))) else some (.inr (.inl ()))) : Option (((Int)) ⊕ ((Unit) ⊕ (Int))))) fuel ((0 : Int))).bind fun res48 => ctl (β := Unit) (ρ := Int) (τ := Int) res48 (fun _ => some ((-1 : Int))) (fun q => some (q))
set_option maxRecDepth 20000 in
theorem spec_l11Find_ok {w0 : World} {fuel : Nat} {p0 : Value} {a0 : (List Str)} {a1 : Str} {r : Int} (h0 : Rd (rList rStr) w0 p0 a0) (hm : spec_l11Find_m fuel a0 a1 = some r) :
  Calls Tryz.prog 50 #[p0, sv a1] w0 fun e w => e = .returned (.int .i64 r) ∧ Heap w0 [] w := by
 unfold spec_l11Find_m at hm
 have H := Heap.start w0
 refine enter (args := [p0, sv a1]) Tryz.func50 rfl 19 rfl (Nat.le_of_ble_eq_true rfl) (fun a S => ?_)
 refine wp_seq (region_plain ?_)
 refine lq (.int .i64 (0 : Int)) S (q_assign rfl) fun a S => ?_
 refine lx_nil (thenN ?_)
 refine wp_seq (wp_seq (region_plain ?_))
 refine lq (.int .i64 (0 : Int)) S (q_assign rfl) fun a S => ?_
 refine lx_nil (thenN ?_)
 obtain ⟨res48, hit49, hk52⟩ := bind_some hm
 obtain ⟨f50, hf51, hit49⟩ := iter_name hit49
 refine block_loop (fun a w => Slots a 19 [] ∧ Heap w0 [] w ∧ res48 = .inl ()) ?_ ?_
 ·rintro a w ⟨S, H, rfl⟩
  have hm := ctl_inl hk52
  refine thenN ?_
  refine wp_seq (region_plain ?_)
  refine lq (.int .i64 (-1 : Int)) S (q_assign rfl) fun a S => ?_
  refine lx_nil (thenN ?_)
  refine wp_ret ?_
  obtain rfl := Option.some.inj hm
  exact leave1 S rfl rfl ⟨rfl, H⟩
 ·skip
  refine loop_ghost (fun n a w => ∃ (x39 : Int), Slots a 19 [(0, p0), (1, (sv a1)), (5, (.int .i64 x39))] ∧ Heap w0 [] w ∧ iter f50 n (x39) = some res48) _ ⟨(0 : Int), S.sub ⟨rfl, rfl, rfl, trivial⟩, H, hit49⟩ ?_
  rintro n a w ⟨x39, S, H, hit49⟩
  obtain ⟨m53, o54, rfl, hm, hc55⟩ := iter_step hit49
  rw [hf51] at hm
  refine wp_seq (wp_seq (region_plain ?_))
  refine lq (.int .i64 x39) S (q_move rfl) fun a S => ?_
  refine lq p0 S (q_move rfl) fun a S => ?_
  refine lq (.int .i64 (a0.length : Int)) S (q_lenSl rfl (h0).isSl rfl Tryz.underlying22) fun a S => ?_
  refine lq (.bool (decide (x39 < (a0.length : Int)))) S (q_lss rfl rfl) fun a S => ?_
  refine lx_nil (thenN ?_)
  refine cond_b S rfl (fun hc56 => ?_) (fun hc56 => ?_)
  ·have hm := ite_t hc56 hm
   refine wp_skip (thenN ?_)
   refine wp_seq ?_
   refine wp_block ?_
   refine wp_seq (region_plain ?_)
   refine lq p0 S (q_move rfl) fun a S => ?_
   refine lq (.int .i64 x39) S (q_move rfl) fun a S => ?_
   obtain ⟨x57, e58, hm⟩ := bind_some hm
   obtain ⟨c59, h60, hat61⟩ := (h0).elem (idx_some e58).2
   obtain rfl := h60
   have hlt := lt_of_idx (idx_some e58).2
   refine lq (ePtr p0 (x39.toNat * 1)) S (q_indexAddr rfl (h0).isSl rfl (idx_some e58).1 hlt Tryz.underlying22 Tryz.sizeOf9) fun a S => ?_
   refine lx_e (sv x57) S trivial (by decide) rfl trivial (q_load1 rfl Tryz.isAgg9 (by rintro _ rfl; exact ((hat61 0 _ rfl).ext H.ext))) (fun a S => ?_)
   refine lq (sv a1) S (q_move rfl) fun a S => ?_
   refine lq (.bool (x57 == a1)) S (q_seql rfl rfl) fun a S => ?_
   refine lx_nil (thenN ?_)
   refine cond_b S rfl (fun hc62 => ?_) (fun hc62 => ?_)
   ·have hm := ite_t hc62 hm
    refine wp_seq (region_plain ?_)
    refine lq (.int .i64 x39) S (q_move rfl) fun a S => ?_
    refine lq (.int .i64 x39) S (q_assign rfl) fun a S => ?_
    refine lx_nil (thenN ?_)
    refine wp_ret (inBlock_ret ?_)
    refine then_ret ?_
    refine then_ret ?_
    refine inBlock_ret ?_
    refine then_ret ?_
    refine then_ret ?_
    obtain rfl := it_brk hm hc55
    have hm := ctl_inr hk52
    obtain rfl := Option.some.inj hm
    exact leave1 S rfl rfl ⟨rfl, H⟩
   ·have hm := ite_f hc62 hm
    refine wp_skip ?_
    refine inBlock_norm ?_
    refine thenN ?_
    refine region_plain ?_
    refine lq (.int .i64 x39) S (q_move rfl) fun a S => ?_
    refine lq (.int .i64 (W (x39 + (1 : Int)))) S (q_add rfl rfl) fun a S => ?_
    refine lq (.int .i64 (W (x39 + (1 : Int)))) S (q_assign rfl) fun a S => ?_
    refine lx_nil ?_
    exact ⟨m53, Nat.lt_succ_self _, (W (x39 + (1 : Int))), S.sub ⟨rfl, rfl, rfl, trivial⟩, H, it_cont hm hc55⟩
  ·have hm := ite_f hc56 hm
   refine wp_exit ?_
   refine then_exit ?_
   refine then_exit ?_
   refine inBlock_exit ?_
   obtain rfl := it_brk hm hc55
   exact ⟨S.sub trivial, H, rfl⟩

/-- spec.l12Next -/
def spec_l12Next_m (fuel : Nat) (a0 : Timpl_Lts) (a1 : (List Int)) (a2 : Int) : Option ((List Int)) :=
  (mks a0.1 false).bind fun x50 => (iter (fun (s : (List Bool) × (Int)) => (match s with | (xs113, x114) => (if (decide (x114 < (a0.2.2.2.length : Int))) = true then join (κ := List Bool → Option (((List Bool) × (Int)) ⊕ (((List Bool)) ⊕ ((List Int))))) (fun (xs193 : List Bool) => some (.inl (xs193, (W (x114 + (1 : Int)))))) (fun K194 => (idx a0.2.2.2 x114).bind fun x196 => (if (x196.2.1 == a2) = true then (idx a0.2.2.2 x114).bind fun x212 => (spec_l00Has_m fuel a1 x212.1).bind fun x227 => some x227 else some false).bind fun t209 => (if t209 = true then (idx a0.2.2.2 x114).bind fun x231 => (idx xs113 x231.2.2).bind fun _ => (K194 (xs113.set x231.2.2.toNat true)) else (K194 xs113))) else some (.inr (.inl (xs113)))) : Option (((List Bool) × (Int)) ⊕ (((List Bool)) ⊕ ((List Int)))))) fuel (x50, (0 : Int))).bind fun res173 => ctl (β := (List Bool)) (ρ := (List Int)) (τ := (List Int)) res173 (fun (xs172) => (spec_l12Close_m fuel a0 xs172).bind fun x180 => (spec_l14List_m fuel x180).bind fun x184 => some (x184)) (fun q => some (q))
set_option maxRecDepth 20000 in
theorem spec_l12Next_ok {w0 : World} {fuel : Nat} {p0 p1 : Value} {a0 : Timpl_Lts} {a1 : (List Int)} {a2 : Int} {r : (List Int)} (h0 : Rd (rPtr Rimpl_Lts) w0 p0 a0) (h1 : Rd (rList (rInt .i64)) w0 p1 a1) (hm : spec_l12Next_m fuel a0 a1 a2 = some r) :
  Calls Tryz.prog 49 #[p0, p1, .int .i64 a2] w0 fun e w => ∃ (v0 : Value), e = .returned (v0) ∧ Heap w0 [oA (rList (rInt .i64)) v0 r] w := by
 unfold spec_l12Next_m at hm
 have H := Heap.start w0
 obtain ⟨c31, h32, hat33⟩ := h0.ptr
 obtain ⟨c38, c39, rfl, h40, h41⟩ := h32
 obtain rfl := h40
 obtain ⟨c42, c43, rfl, h44, h45⟩ := h41
 obtain rfl := h44
 obtain ⟨c46, c47, rfl, h48, h49⟩ := h45
 obtain ⟨v34, rfl, h35⟩ := rd_list h48
 obtain ⟨v36, rfl, h37⟩ := rd_list h49
 refine enter (args := [p0, p1, .int .i64 a2]) Tryz.func49 rfl 60 rfl (Nat.le_of_ble_eq_true rfl) (fun a S => ?_)
 refine wp_seq (region_plain ?_)
 refine lq (.slice none 0 0) S (q_assign rfl) fun a S => ?_
 refine lx_nil (thenN ?_)
 refine wp_seq (region_plain ?_)
 refine lq p0 S (q_move rfl) fun a S => ?_
 refine lq p0 S (q_nilCheck rfl ((hat33 0 _ rfl).isP)) fun a S => ?_
 refine lq (pAdd p0 0) S (q_fieldAddr' 0 2 rfl ((hat33 0 _ rfl).isP) Tryz.underlying33 rfl Tryz.sizeOf2) fun a S => ?_
 refine lx_e (.int .i64 a0.1) S trivial (by decide) rfl trivial (q_load1 rfl Tryz.isAgg2 (by rintro _ rfl; exact (At.of_add (m := 0) (j := 0) ((hat33 0 _ rfl).ext H.ext)))) (fun a S => ?_)
 obtain ⟨x50, e51, hm⟩ := bind_some hm
 obtain ⟨m52, hn, hn2, rfl⟩ := mks_some e51
 refine lx_make (r := rBool) (z0 := false) (n := m52) S trivial (by decide) rfl H (by rw [← hn]; rfl) (by rw [← hn]; rfl) Tryz.underlying89 (Tryz.ti4) rfl rfl (by decide) (fun w => ⟨rfl, rfl⟩) hn2 (by decide) (fun v53 w54 H => ⟨trivial, fun a S => ?_⟩)
 refine lq v53 S (q_assign rfl) fun a S => ?_
 refine lx_nil (thenN ?_)
 refine wp_seq (wp_seq (region_plain ?_))
 refine lq (.int .i64 (0 : Int)) S (q_assign rfl) fun a S => ?_
 refine lx_nil (thenN ?_)
 obtain ⟨res173, hit174, hk177⟩ := bind_some hm
 obtain ⟨f175, hf176, hit174⟩ := iter_name hit174
 refine block_loop (fun a w => ∃ (xs172 : List Bool), Slots a 60 [(0, p0), (7, v53)] ∧ Heap w0 [oA (rList rBool) v53 xs172] w ∧ res173 = .inl (xs172)) ?_ ?_
 ·rintro a w ⟨xs172, S, H, rfl⟩
  have hm := ctl_inl hk177
  refine thenN ?_
  refine wp_seq (region_plain ?_)
  refine lq p0 S (q_move rfl) fun a S => ?_
  refine lq v53 S (q_move rfl) fun a S => ?_
  obtain ⟨x180, e181, hm⟩ := bind_some hm
  refine lx_call (xs := [.tmp 55, .tmp 56]) S trivial (by decide) rfl rfl Tryz.call73 ((spec_l12Close_ok H h0 e181).mono ?_)
  rintro e w178 ⟨rfl, H⟩
  refine ⟨_, rfl, trivial, fun a S => ?_⟩
  refine lx_nil (thenN ?_)
  refine wp_seq (region_plain ?_)
  refine lq v53 S (q_move rfl) fun a S => ?_
  obtain ⟨x184, e185, hm⟩ := bind_some hm
  refine lx_call (xs := [.tmp 58]) S trivial (by decide) rfl rfl Tryz.call74 ((spec_l14List_ok (H.rdAt 0 rfl) e185).mono ?_)
  rintro e w182 ⟨v186, rfl, Hc183⟩
  have H := H.call1 Hc183
  refine ⟨_, rfl, trivial, fun a S => ?_⟩
  refine lq v186 S (q_assign rfl) fun a S => ?_
  refine lx_nil (thenN ?_)
  refine wp_ret ?_
  obtain rfl := Option.some.inj hm
  have H : Heap w0 [oA (rList (rInt .i64)) v186 x184] w182 := H.sel [0] (by decide)
  exact leave1 S rfl rfl ⟨v186, rfl, H⟩
 ·skip
  refine loop_ghost (fun n a w => ∃ (xs113 : List Bool) (x114 : Int), Slots a 60 [(0, p0), (1, p1), (2, (.int .i64 a2)), (7, v53), (8, (.int .i64 x114))] ∧ Heap w0 [oA (rList rBool) v53 xs113] w ∧ iter f175 n (xs113, x114) = some res173) _ ⟨(List.replicate m52 false), (0 : Int), S.sub ⟨rfl, rfl, rfl, rfl, rfl, trivial⟩, H, hit174⟩ ?_
  rintro n a w ⟨xs113, x114, S, H, hit174⟩
  obtain ⟨m189, o190, rfl, hm, hc191⟩ := iter_step hit174
  rw [hf176] at hm
  refine wp_seq (wp_seq (region_plain ?_))
  refine lq (.int .i64 x114) S (q_move rfl) fun a S => ?_
  refine lq p0 S (q_move rfl) fun a S => ?_
  refine lq p0 S (q_nilCheck rfl ((hat33 0 _ rfl).isP)) fun a S => ?_
  refine lq (pAdd p0 3) S (q_fieldAddr' 3 31 rfl ((hat33 0 _ rfl).isP) Tryz.underlying33 rfl Tryz.sizeOf31) fun a S => ?_
  refine lx_e v36 S trivial (by decide) rfl trivial (q_load1 rfl Tryz.isAgg31 (by rintro _ rfl; exact (At.of_add (m := 3) (j := 0) ((hat33 3 _ rfl).ext H.ext)))) (fun a S => ?_)
  refine lq (.int .i64 (a0.2.2.2.length : Int)) S (q_lenSl rfl (h37).isSl rfl Tryz.underlying31) fun a S => ?_
  refine lq (.bool (decide (x114 < (a0.2.2.2.length : Int)))) S (q_lss rfl rfl) fun a S => ?_
  refine lx_nil (thenN ?_)
  refine cond_b S rfl (fun hc192 => ?_) (fun hc192 => ?_)
  ·have hm := ite_t hc192 hm
   refine wp_skip (thenN ?_)
   obtain ⟨K194, hK195, hm⟩ := join_elim hm
   refine seq_cut (fun a w => ∃ (xs193 : List Bool), Slots a 60 [(0, p0), (1, p1), (2, (.int .i64 a2)), (7, v53), (8, (.int .i64 x114))] ∧ Heap w0 [oA (rList rBool) v53 xs193] w ∧ K194 xs193 = some o190) ?_ ?_
   ·rintro a w ⟨xs193, S, H, hm⟩
    subst hK195
    refine region_plain ?_
    refine lq (.int .i64 x114) S (q_move rfl) fun a S => ?_
    refine lq (.int .i64 (W (x114 + (1 : Int)))) S (q_add rfl rfl) fun a S => ?_
    refine lq (.int .i64 (W (x114 + (1 : Int)))) S (q_assign rfl) fun a S => ?_
    refine lx_nil ?_
    exact ⟨m189, Nat.lt_succ_self _, xs193, (W (x114 + (1 : Int))), S.sub ⟨rfl, rfl, rfl, rfl, rfl, trivial⟩, H, it_cont hm hc191⟩
   ·skip
    refine wp_block ?_
    refine wp_seq (region_plain ?_)
    refine lq p0 S (q_move rfl) fun a S => ?_
    refine lq p0 S (q_nilCheck rfl ((hat33 0 _ rfl).isP)) fun a S => ?_
    refine lq (pAdd p0 3) S (q_fieldAddr' 3 31 rfl ((hat33 0 _ rfl).isP) Tryz.underlying33 rfl Tryz.sizeOf31) fun a S => ?_
    refine lx_e v36 S trivial (by decide) rfl trivial (q_load1 rfl Tryz.isAgg31 (by rintro _ rfl; exact (At.of_add (m := 3) (j := 0) ((hat33 3 _ rfl).ext H.ext)))) (fun a S => ?_)
    refine lq (.int .i64 x114) S (q_move rfl) fun a S => ?_
    obtain ⟨x196, e197, hm⟩ := bind_some hm
    obtain ⟨c198, h199, hat200⟩ := (h37).elem (idx_some e197).2
    obtain ⟨c201, c202, rfl, h203, h204⟩ := h199
    obtain rfl := h203
    obtain ⟨c205, c206, rfl, h207, h208⟩ := h204
    obtain rfl := h207
    obtain rfl := h208
    have hlt := lt_of_idx (idx_some e197).2
    refine lq (ePtr v36 (x114.toNat * 3)) S (q_indexAddr rfl (h37).isSl rfl (idx_some e197).1 hlt Tryz.underlying31 Tryz.sizeOf57) fun a S => ?_
    refine lq (pAdd (ePtr v36 (x114.toNat * 3)) 1) S (q_fieldAddr' 1 2 rfl ((hat200 0 _ rfl).isP) Tryz.underlying57 rfl Tryz.sizeOf2) fun a S => ?_
    refine lx_e (.int .i64 x196.2.1) S trivial (by decide) rfl trivial (q_load1 rfl Tryz.isAgg2 (by rintro _ rfl; exact (At.of_add (m := 1) (j := 0) ((hat200 1 _ rfl).ext H.ext)))) (fun a S => ?_)
    refine lq (.int .i64 a2) S (q_move rfl) fun a S => ?_
    refine lq (.bool (x196.2.1 == a2)) S (q_eql rfl rfl) fun a S => ?_
    refine lq (.bool (x196.2.1 == a2)) S (q_move rfl) fun a S => ?_
    obtain ⟨t209, e210, hm⟩ := bind_some hm
    refine lx_cut 11 (fun a w => Slots a 60 [(0, p0), (1, p1), (2, (.int .i64 a2)), (7, v53), (8, (.int .i64 x114)), (44, (.bool t209))] ∧ Heap w0 [oA (rList rBool) v53 xs113] w) ?_ ?_
    ·by_cases hc211 : (x196.2.1 == a2) = true
     ·have hm := ite_t hc211 e210
      refine lx_q p1 S (want_b rfl rfl hc211) (by decide) (q_move rfl) (fun a S => ?_)
      refine lx_q p0 S (want_b rfl rfl hc211) (by decide) (q_move rfl) (fun a S => ?_)
      refine lx_q p0 S (want_b rfl rfl hc211) (by decide) (q_nilCheck rfl ((hat33 0 _ rfl).isP)) (fun a S => ?_)
      refine lx_q (pAdd p0 3) S (want_b rfl rfl hc211) (by decide) (q_fieldAddr' 3 31 rfl ((hat33 0 _ rfl).isP) Tryz.underlying33 rfl Tryz.sizeOf31) (fun a S => ?_)
      refine lx_e v36 S (want_b rfl rfl hc211) (by decide) rfl trivial (q_load1 rfl Tryz.isAgg31 (by rintro _ rfl; exact (At.of_add (m := 3) (j := 0) ((hat33 3 _ rfl).ext H.ext)))) (fun a S => ?_)
      refine lx_q (.int .i64 x114) S (want_b rfl rfl hc211) (by decide) (q_move rfl) (fun a S => ?_)
      obtain ⟨x212, e213, hm⟩ := bind_some hm
      obtain ⟨c214, h215, hat216⟩ := (h37).elem (idx_some e213).2
      obtain ⟨c217, c218, rfl, h219, h220⟩ := h215
      obtain rfl := h219
      obtain ⟨c221, c222, rfl, h223, h224⟩ := h220
      obtain rfl := h223
      obtain rfl := h224
      have hlt := lt_of_idx (idx_some e213).2
      refine lx_q (ePtr v36 (x114.toNat * 3)) S (want_b rfl rfl hc211) (by decide) (q_indexAddr rfl (h37).isSl rfl (idx_some e213).1 hlt Tryz.underlying31 Tryz.sizeOf57) (fun a S => ?_)
      refine lx_q (pAdd (ePtr v36 (x114.toNat * 3)) 0) S (want_b rfl rfl hc211) (by decide) (q_fieldAddr' 0 2 rfl ((hat216 0 _ rfl).isP) Tryz.underlying57 rfl Tryz.sizeOf2) (fun a S => ?_)
      refine lx_e (.int .i64 x212.1) S (want_b rfl rfl hc211) (by decide) rfl trivial (q_load1 rfl Tryz.isAgg2 (by rintro _ rfl; exact (At.of_add (m := 0) (j := 0) ((hat216 0 _ rfl).ext H.ext)))) (fun a S => ?_)
      obtain ⟨x227, e228, hm⟩ := bind_some hm
      refine lx_call (xs := [.tmp 34, .tmp 42]) S (want_b rfl rfl hc211) (by decide) rfl rfl Tryz.call36 ((spec_l00Has_ok (H.arg h1)  e228).mono ?_)
      rintro e w225 ⟨rfl, Hc226⟩
      have H := H.call0 Hc226
      refine ⟨_, rfl, trivial, fun a S => ?_⟩
      refine lq (.bool x227) S (q_pickT' rfl hc211 rfl) fun a S => ?_
      refine lx_nil ?_
      obtain rfl := Option.some.inj hm
      exact ⟨S.sub ⟨rfl, rfl, rfl, rfl, rfl, rfl, trivial⟩, H⟩
     ·have hm := ite_f (eq_false_of_ne_true hc211) e210
      have hc211 : (x196.2.1 == a2) = false := eq_false_of_ne_true hc211
      refine lx_skip S rfl rfl (isB_ne hc211) (by decide) (fun a S => ?_)
      refine lx_skip S rfl rfl (isB_ne hc211) (by decide) (fun a S => ?_)
      refine lx_skip S rfl rfl (isB_ne hc211) (by decide) (fun a S => ?_)
      refine lx_skip S rfl rfl (isB_ne hc211) (by decide) (fun a S => ?_)
      refine lx_skip S rfl rfl (isB_ne hc211) (by decide) (fun a S => ?_)
      refine lx_skip S rfl rfl (isB_ne hc211) (by decide) (fun a S => ?_)
      refine lx_skip S rfl rfl (isB_ne hc211) (by decide) (fun a S => ?_)
      refine lx_skip S rfl rfl (isB_ne hc211) (by decide) (fun a S => ?_)
      refine lx_skip S rfl rfl (isB_ne hc211) (by decide) (fun a S => ?_)
      refine lx_skip S rfl rfl (isB_ne hc211) (by decide) (fun a S => ?_)
      refine lq (.bool false) S (q_pickF' rfl hc211 rfl) fun a S => ?_
      refine lx_nil ?_
      obtain rfl := Option.some.inj hm
      exact ⟨S.sub ⟨rfl, rfl, rfl, rfl, rfl, rfl, trivial⟩, H⟩
    ·rintro a w ⟨S, H⟩
     refine lx_nil (thenN ?_)
     refine cond_b S rfl (fun hc230 => ?_) (fun hc230 => ?_)
     ·have hm := ite_t hc230 hm
      refine region_plain ?_
      refine lq v53 S (q_move rfl) fun a S => ?_
      refine lq p0 S (q_move rfl) fun a S => ?_
      refine lq p0 S (q_nilCheck rfl ((hat33 0 _ rfl).isP)) fun a S => ?_
      refine lq (pAdd p0 3) S (q_fieldAddr' 3 31 rfl ((hat33 0 _ rfl).isP) Tryz.underlying33 rfl Tryz.sizeOf31) fun a S => ?_
      refine lx_e v36 S trivial (by decide) rfl trivial (q_load1 rfl Tryz.isAgg31 (by rintro _ rfl; exact (At.of_add (m := 3) (j := 0) ((hat33 3 _ rfl).ext H.ext)))) (fun a S => ?_)
      refine lq (.int .i64 x114) S (q_move rfl) fun a S => ?_
      obtain ⟨x231, e232, hm⟩ := bind_some hm
      obtain ⟨c233, h234, hat235⟩ := (h37).elem (idx_some e232).2
      obtain ⟨c236, c237, rfl, h238, h239⟩ := h234
      obtain rfl := h238
      obtain ⟨c240, c241, rfl, h242, h243⟩ := h239
      obtain rfl := h242
      obtain rfl := h243
      have hlt := lt_of_idx (idx_some e232).2
      refine lq (ePtr v36 (x114.toNat * 3)) S (q_indexAddr rfl (h37).isSl rfl (idx_some e232).1 hlt Tryz.underlying31 Tryz.sizeOf57) fun a S => ?_
      refine lq (pAdd (ePtr v36 (x114.toNat * 3)) 2) S (q_fieldAddr' 2 2 rfl ((hat235 0 _ rfl).isP) Tryz.underlying57 rfl Tryz.sizeOf2) fun a S => ?_
      refine lx_e (.int .i64 x231.2.2) S trivial (by decide) rfl trivial (q_load1 rfl Tryz.isAgg2 (by rintro _ rfl; exact (At.of_add (m := 2) (j := 0) ((hat235 2 _ rfl).ext H.ext)))) (fun a S => ?_)
      obtain ⟨x244, e245, hm⟩ := bind_some hm
      have hlt := lt_of_idx (idx_some e245).2
      refine lq (ePtr v53 (x231.2.2.toNat * 1)) S (q_indexAddr rfl (H.isSl 0 rfl) rfl (idx_some e245).1 hlt Tryz.underlying89 Tryz.sizeOf4) fun a S => ?_
      refine lx_storeElem (r := rBool) (us := [(.bool true)]) (off := 0) (e' := true) S trivial rfl H.putE (ev_zero rfl) rfl (idx_some e245).2 rfl Tryz.sizeOf4 (Nat.le_of_ble_eq_true rfl) (List.forall_mem_cons.2 ⟨rfl, (fun _ h => nomatch h)⟩) (Upd.full rfl (fun w G hG => by cases (show G = [] from hG); exact ⟨rfl, rfl⟩)) (fun w246 H => ⟨trivial, fun a S => ?_⟩)
      refine lx_nil ?_
      refine inBlock_norm ?_
      exact ⟨(xs113.set x231.2.2.toNat true), S.sub ⟨rfl, rfl, rfl, rfl, rfl, trivial⟩, H, hm⟩
     ·have hm := ite_f hc230 hm
      refine wp_skip ?_
      refine inBlock_norm ?_
      exact ⟨xs113, S.sub ⟨rfl, rfl, rfl, rfl, rfl, trivial⟩, H, hm⟩
  ·have hm := ite_f hc192 hm
   refine wp_exit ?_
   refine then_exit ?_
   refine then_exit ?_
   refine inBlock_exit ?_
   obtain rfl := it_brk hm hc191
   exact ⟨xs113, S.sub ⟨rfl, rfl, trivial⟩, H, rfl⟩

/-- spec.l12After -/
def spec_l12After_m (fuel : Nat) (a0 : Timpl_Lts) (a1 : (List Str)) : Option ((List Int)) :=
  (spec_l12First_m fuel a0).bind fun x52 => (iter (fun (s : (List Int) × (Int)) => (match s with | (xs85, x87) => (if (decide (x87 < (a1.length : Int))) = true then some (decide ((0 : Int) < (xs85.length : Int))) else some false).bind fun t126 => (if t126 = true then (idx a1 x87).bind fun x132 => (spec_l11Find_m fuel a0.2.2.1 x132).bind fun x139 => (spec_l12Next_m fuel a0 xs85 x139).bind fun x144 => some (.inl (x144, (W (x87 + (1 : Int))))) else some (.inr (.inl (xs85)))) : Option (((List Int) × (Int)) ⊕ (((List Int)) ⊕ ((List Int)))))) fuel (x52, (0 : Int))).bind fun res118 => ctl (β := (List Int)) (ρ := (List Int)) (τ := (List Int)) res118 (fun (xs116) => some (xs116)) (fun q => some (q))
set_option maxRecDepth 20000 in
theorem spec_l12After_ok {w0 : World} {fuel : Nat} {p0 p1 : Value} {a0 : Timpl_Lts} {a1 : (List Str)} {r : (List Int)} (h0 : Rd (rPtr Rimpl_Lts) w0 p0 a0) (h1 : Rd (rList rStr) w0 p1 a1) (hm : spec_l12After_m fuel a0 a1 = some r) :
  Calls Tryz.prog 27 #[p0, p1] w0 fun e w => ∃ (v0 : Value), e = .returned (v0) ∧ Heap w0 [oA (rList (rInt .i64)) v0 r] w := by
 unfold spec_l12After_m at hm
 have H := Heap.start w0
 obtain ⟨c31, h32, hat33⟩ := h0.ptr
 obtain ⟨c38, c39, rfl, h40, h41⟩ := h32
 obtain rfl := h40
 obtain ⟨c42, c43, rfl, h44, h45⟩ := h41
 obtain rfl := h44
 obtain ⟨c46, c47, rfl, h48, h49⟩ := h45
 obtain ⟨v34, rfl, h35⟩ := rd_list h48
 obtain ⟨v36, rfl, h37⟩ := rd_list h49
 refine enter (args := [p0, p1]) Tryz.func27 rfl 33 rfl (Nat.le_of_ble_eq_true rfl) (fun a S => ?_)
 refine wp_seq (region_plain ?_)
 refine lq (.slice none 0 0) S (q_assign rfl) fun a S => ?_
 refine lx_nil (thenN ?_)
 refine wp_seq (region_plain ?_)
 refine lq p0 S (q_move rfl) fun a S => ?_
 obtain ⟨x52, e53, hm⟩ := bind_some hm
 refine lx_call (xs := [.tmp 7]) S trivial (by decide) rfl rfl Tryz.call48 ((spec_l12First_ok (H.arg h0) e53).mono ?_)
 rintro e w50 ⟨v54, rfl, Hc51⟩
 have H := H.call1 Hc51
 refine ⟨_, rfl, trivial, fun a S => ?_⟩
 refine lq v54 S (q_assign rfl) fun a S => ?_
 refine lx_nil (thenN ?_)
 refine wp_seq (wp_seq (region_plain ?_))
 refine lq (.int .i64 (0 : Int)) S (q_assign rfl) fun a S => ?_
 refine lx_nil (thenN ?_)
 obtain ⟨res118, hit119, hk122⟩ := bind_some hm
 obtain ⟨f120, hf121, hit119⟩ := iter_name hit119
 refine block_loop (fun a w => ∃ (xs116 : List Int) (v115 : Value), Slots a 33 [(5, v115)] ∧ Heap w0 [oA (rList (rInt .i64)) v115 xs116] w ∧ res118 = .inl (xs116)) ?_ ?_
 ·rintro a w ⟨xs116, v115, S, H, rfl⟩
  have hm := ctl_inl hk122
  refine thenN ?_
  refine wp_seq (region_plain ?_)
  refine lq v115 S (q_move rfl) fun a S => ?_
  refine lq v115 S (q_assign rfl) fun a S => ?_
  refine lx_nil (thenN ?_)
  refine wp_ret ?_
  obtain rfl := Option.some.inj hm
  exact leave1 S rfl rfl ⟨v115, rfl, H⟩
 ·skip
  refine loop_ghost (fun n a w => ∃ (xs85 : List Int) (x87 : Int) (v84 : Value), Slots a 33 [(0, p0), (1, p1), (5, v84), (6, (.int .i64 x87))] ∧ Heap w0 [oA (rList (rInt .i64)) v84 xs85] w ∧ iter f120 n (xs85, x87) = some res118) _ ⟨x52, (0 : Int), v54, S.sub ⟨rfl, rfl, rfl, rfl, trivial⟩, H, hit119⟩ ?_
  rintro n a w ⟨xs85, x87, v84, S, H, hit119⟩
  obtain ⟨m123, o124, rfl, hm, hc125⟩ := iter_step hit119
  rw [hf121] at hm
  refine wp_seq (wp_seq (region_plain ?_))
  refine lq (.int .i64 x87) S (q_move rfl) fun a S => ?_
  refine lq p1 S (q_move rfl) fun a S => ?_
  refine lq (.int .i64 (a1.length : Int)) S (q_lenSl rfl (h1).isSl rfl Tryz.underlying22) fun a S => ?_
  refine lq (.bool (decide (x87 < (a1.length : Int)))) S (q_lss rfl rfl) fun a S => ?_
  refine lq (.bool (decide (x87 < (a1.length : Int)))) S (q_move rfl) fun a S => ?_
  obtain ⟨t126, e127, hm⟩ := bind_some hm
  refine lx_cut 4 (fun a w => Slots a 33 [(0, p0), (1, p1), (5, v84), (6, (.int .i64 x87)), (17, (.bool t126))] ∧ Heap w0 [oA (rList (rInt .i64)) v84 xs85] w) ?_ ?_
  ·by_cases hc128 : (decide (x87 < (a1.length : Int))) = true
   ·have hm := ite_t hc128 e127
    refine lx_q v84 S (want_b rfl rfl hc128) (by decide) (q_move rfl) (fun a S => ?_)
    refine lx_q (.int .i64 (xs85.length : Int)) S (want_b rfl rfl hc128) (by decide) (q_lenSl rfl (H.isSl 0 rfl) rfl Tryz.underlying28) (fun a S => ?_)
    refine lx_q (.bool (decide ((0 : Int) < (xs85.length : Int)))) S (want_b rfl rfl hc128) (by decide) (q_gtr rfl rfl) (fun a S => ?_)
    refine lq (.bool (decide ((0 : Int) < (xs85.length : Int)))) S (q_pickT' rfl hc128 rfl) fun a S => ?_
    refine lx_nil ?_
    obtain rfl := Option.some.inj hm
    exact ⟨S.sub ⟨rfl, rfl, rfl, rfl, rfl, trivial⟩, H⟩
   ·have hm := ite_f (eq_false_of_ne_true hc128) e127
    have hc128 : (decide (x87 < (a1.length : Int))) = false := eq_false_of_ne_true hc128
    refine lx_skip S rfl rfl (isB_ne hc128) (by decide) (fun a S => ?_)
    refine lx_skip S rfl rfl (isB_ne hc128) (by decide) (fun a S => ?_)
    refine lx_skip S rfl rfl (isB_ne hc128) (by decide) (fun a S => ?_)
    refine lq (.bool false) S (q_pickF' rfl hc128 rfl) fun a S => ?_
    refine lx_nil ?_
    obtain rfl := Option.some.inj hm
    exact ⟨S.sub ⟨rfl, rfl, rfl, rfl, rfl, trivial⟩, H⟩
  ·rintro a w ⟨S, H⟩
   refine lx_nil (thenN ?_)
   refine cond_b S rfl (fun hc129 => ?_) (fun hc129 => ?_)
   ·have hm := ite_t hc129 hm
    refine wp_skip (thenN ?_)
    refine wp_seq ?_
    refine wp_block ?_
    refine region_drawG (fun w1 => Heap w0 [] w1) (fun i => [10, 11].contains i) mixed (by kernel_rfl) (fun w131 he130 => ?_)
    have H := H.later he130
    refine ⟨H.sel [] (by decide), ?_⟩
    refine lq p0 S (q_move rfl) fun a S => ?_
    refine lq v84 S (q_move rfl) fun a S => ?_
    refine lq p0 S (q_move rfl) fun a S => ?_
    refine lq p0 S (q_nilCheck rfl ((hat33 0 _ rfl).isP)) fun a S => ?_
    refine lq (pAdd p0 2) S (q_fieldAddr' 2 22 rfl ((hat33 0 _ rfl).isP) Tryz.underlying33 rfl Tryz.sizeOf22) fun a S => ?_
    refine lq v34 S (q_load1 rfl Tryz.isAgg22 (fun w1 hC => (At.of_add (m := 2) (j := 0) ((hat33 2 _ rfl).ext hC.ext)))) fun a S => ?_
    refine lq p1 S (q_move rfl) fun a S => ?_
    refine lq (.int .i64 x87) S (q_move rfl) fun a S => ?_
    obtain ⟨x132, e133, hm⟩ := bind_some hm
    obtain ⟨c134, h135, hat136⟩ := (h1).elem (idx_some e133).2
    obtain rfl := h135
    have hlt := lt_of_idx (idx_some e133).2
    refine lq (ePtr p1 (x87.toNat * 1)) S (q_indexAddr rfl (h1).isSl rfl (idx_some e133).1 hlt Tryz.underlying22 Tryz.sizeOf9) fun a S => ?_
    refine lq (sv x132) S (q_load1 rfl Tryz.isAgg9 (fun w1 hC => ((hat136 0 _ rfl).ext hC.ext))) fun a S => ?_
    obtain ⟨x139, e140, hm⟩ := bind_some hm
    refine lx_call (xs := [.tmp 25, .tmp 29]) S trivial (by decide) rfl rfl Tryz.call50 ((spec_l11Find_ok (H.arg h35)  e140).mono ?_)
    rintro e w137 ⟨rfl, Hc138⟩
    have H := H.call0 Hc138
    refine ⟨_, rfl, H.sel [] (by decide), fun a S => ?_⟩
    obtain ⟨x144, e145, hm⟩ := bind_some hm
    refine lx_call (xs := [.tmp 20, .tmp 21, .tmp 30]) S trivial (by decide) rfl rfl Tryz.call49 ((spec_l12Next_ok (H.arg h0) (H.rdAt 0 rfl)  e145).mono ?_)
    rintro e w142 ⟨v146, rfl, Hc143⟩
    have H := H.call1 Hc143
    refine ⟨_, rfl, H.sel [] (by decide), fun a S => ?_⟩
    refine lq v146 S (q_assign rfl) fun a S => ?_
    refine lx_nil ?_
    refine inBlock_norm ?_
    refine thenN ?_
    refine region_plain ?_
    refine lq (.int .i64 x87) S (q_move rfl) fun a S => ?_
    refine lq (.int .i64 (W (x87 + (1 : Int)))) S (q_add rfl rfl) fun a S => ?_
    refine lq (.int .i64 (W (x87 + (1 : Int)))) S (q_assign rfl) fun a S => ?_
    refine lx_nil ?_
    have H : Heap w0 [oA (rList (rInt .i64)) v146 x144] w142 := H.sel [0] (by decide)
    exact ⟨m123, Nat.lt_succ_self _, x144, (W (x87 + (1 : Int))), v146, S.sub ⟨rfl, rfl, rfl, rfl, trivial⟩, H, it_cont hm hc125⟩
   ·have hm := ite_f hc129 hm
    refine wp_exit ?_
    refine then_exit ?_
    refine then_exit ?_
    refine inBlock_exit ?_
    obtain rfl := it_brk hm hc125
    exact ⟨xs85, v84, S.sub ⟨rfl, trivial⟩, H, rfl⟩

/-- spec.AfterTrace -/
def spec_AfterTrace_m (fuel : Nat) (a0 : Timpl_Lts) (a1 : (List Str)) : Option (((List Int) × Int)) :=
  (spec_l11Is_m fuel (a0.1, a0.2.1, a0.2.2.1, a0.2.2.2)).bind fun x54 => (if (!x54) = true then some (([], (1 : Int))) else (spec_l12Visible_m fuel a1).bind fun x61 => (if (!x61) = true then some (([], (2 : Int))) else (spec_l12After_m fuel (a0.1, a0.2.1, a0.2.2.1, a0.2.2.2) a1).bind fun x68 => (if ((x68.length : Int) == (0 : Int)) = true then some (([], (3 : Int))) else some ((x68, (0 : Int))))))
set_option maxRecDepth 20000 in
theorem spec_AfterTrace_ok {w0 : World} {fuel : Nat} {p0 p1 : Value} {a0 : Timpl_Lts} {a1 : (List Str)} {r : ((List Int) × Int)} (h0 : Rd Rimpl_Lts w0 p0 a0) (h1 : Rd (rList rStr) w0 p1 a1) (hm : spec_AfterTrace_m fuel a0 a1 = some r) :
  Calls Tryz.prog 8 #[p0, p1] w0 fun e w => ∃ (v0 : Value), e = .returned (.tuple #[v0, .int .i64 r.2]) ∧ Heap w0 [oA (rList (rInt .i64)) v0 r.1] w := by
 unfold spec_AfterTrace_m at hm
 have H := Heap.start w0
 obtain ⟨c31, rfl, h32⟩ := h0
 obtain ⟨c37, c38, rfl, h39, h40⟩ := h32
 obtain rfl := h39
 obtain ⟨c41, c42, rfl, h43, h44⟩ := h40
 obtain rfl := h43
 obtain ⟨c45, c46, rfl, h47, h48⟩ := h44
 obtain ⟨v33, rfl, h34⟩ := rd_list h47
 obtain ⟨v35, rfl, h36⟩ := rd_list h48
 refine enter (args := [(.agg #[(.int .i64 a0.1), (.int .i64 a0.2.1), v33, v35]), p1]) Tryz.func8 rfl 18 rfl (Nat.le_of_ble_eq_true rfl) (fun a S => ?_)
 refine wp_seq (region_plain ?_)
 refine lx_box S trivial (by decide) rfl H rfl rfl (fun b49 w50 H => ⟨trivial, fun a S => ?_⟩)
 refine lq (.slice none 0 0) S (q_assign rfl) fun a S => ?_
 refine lq (.int .i64 (0 : Int)) S (q_assign rfl) fun a S => ?_
 refine lx_nil (thenN ?_)
 refine wp_seq (wp_seq (region_plain ?_))
 obtain ⟨x54, e55, hm⟩ := bind_some hm
 refine lx_call (xs := [.tmp 2]) S trivial (by decide) rfl rfl Tryz.call25 ((spec_l11Is_ok (rdPtr_box H 0 rfl ⟨[(.int .i64 a0.1)], [(.int .i64 a0.2.1), v33, v35], rfl, rfl, ⟨[(.int .i64 a0.2.1)], [v33, v35], rfl, rfl, ⟨[v33], [v35], rfl, ((H.arg h34)).list_rd, ((H.arg h36)).list_rd⟩⟩⟩) e55).mono ?_)
 rintro e w52 ⟨rfl, Hc53⟩
 have H := H.call0 Hc53
 refine ⟨_, rfl, trivial, fun a S => ?_⟩
 refine lq (.bool (!x54)) S (q_not rfl) fun a S => ?_
 refine lx_nil (thenN ?_)
 refine cond_b S rfl (fun hc57 => ?_) (fun hc57 => ?_)
 ·have hm := ite_t hc57 hm
  refine wp_seq (region_plain ?_)
  refine lq (.slice none 0 0) S (q_assign rfl) fun a S => ?_
  refine lq (.int .i64 (1 : Int)) S (q_assign rfl) fun a S => ?_
  refine lx_nil (thenN ?_)
  refine wp_ret (then_ret ?_)
  obtain rfl := Option.some.inj hm
  have H : Heap w0 [oA (rList (rInt .i64)) (.slice none 0 0) ([] : List Int), bA b49 [(.int .i64 a0.1), (.int .i64 a0.2.1), v33, v35] 33] w52 := H.nilList (rInt .i64)
  have H : Heap w0 [oA (rList (rInt .i64)) (.slice none 0 0) ([] : List Int)] w52 := H.sel [0] (by decide)
  exact leave2 S rfl rfl rfl ⟨(.slice none 0 0), rfl, H⟩
 ·have hm := ite_f hc57 hm
  refine wp_skip (thenN ?_)
  refine wp_seq (wp_seq (region_plain ?_))
  refine lq p1 S (q_move rfl) fun a S => ?_
  obtain ⟨x61, e62, hm⟩ := bind_some hm
  refine lx_call (xs := [.tmp 9]) S trivial (by decide) rfl rfl Tryz.call26 ((spec_l12Visible_ok (H.arg h1) e62).mono ?_)
  rintro e w59 ⟨rfl, Hc60⟩
  have H := H.call0 Hc60
  refine ⟨_, rfl, trivial, fun a S => ?_⟩
  refine lq (.bool (!x61)) S (q_not rfl) fun a S => ?_
  refine lx_nil (thenN ?_)
  refine cond_b S rfl (fun hc64 => ?_) (fun hc64 => ?_)
  ·have hm := ite_t hc64 hm
   refine wp_seq (region_plain ?_)
   refine lq (.slice none 0 0) S (q_assign rfl) fun a S => ?_
   refine lq (.int .i64 (2 : Int)) S (q_assign rfl) fun a S => ?_
   refine lx_nil (thenN ?_)
   refine wp_ret (then_ret ?_)
   obtain rfl := Option.some.inj hm
   have H : Heap w0 [oA (rList (rInt .i64)) (.slice none 0 0) ([] : List Int), bA b49 [(.int .i64 a0.1), (.int .i64 a0.2.1), v33, v35] 33] w59 := H.nilList (rInt .i64)
   have H : Heap w0 [oA (rList (rInt .i64)) (.slice none 0 0) ([] : List Int)] w59 := H.sel [0] (by decide)
   exact leave2 S rfl rfl rfl ⟨(.slice none 0 0), rfl, H⟩
  ·have hm := ite_f hc64 hm
   refine wp_skip (thenN ?_)
   refine wp_seq (region_plain ?_)
   refine lq p1 S (q_move rfl) fun a S => ?_
   obtain ⟨x68, e69, hm⟩ := bind_some hm
   refine lx_call (xs := [.tmp 2, .tmp 12]) S trivial (by decide) rfl rfl Tryz.call27 ((spec_l12After_ok (rdPtr_box H 0 rfl ⟨[(.int .i64 a0.1)], [(.int .i64 a0.2.1), v33, v35], rfl, rfl, ⟨[(.int .i64 a0.2.1)], [v33, v35], rfl, rfl, ⟨[v33], [v35], rfl, ((H.arg h34)).list_rd, ((H.arg h36)).list_rd⟩⟩⟩) (H.arg h1) e69).mono ?_)
   rintro e w66 ⟨v70, rfl, Hc67⟩
   have H := H.call1 Hc67
   refine ⟨_, rfl, trivial, fun a S => ?_⟩
   refine lq v70 S (q_assign rfl) fun a S => ?_
   refine lx_nil (thenN ?_)
   refine wp_seq (wp_seq (region_plain ?_))
   refine lq v70 S (q_move rfl) fun a S => ?_
   refine lq (.int .i64 (x68.length : Int)) S (q_lenSl rfl (H.isSl 0 rfl) rfl Tryz.underlying28) fun a S => ?_
   refine lq (.bool ((x68.length : Int) == (0 : Int))) S (q_eql rfl rfl) fun a S => ?_
   refine lx_nil (thenN ?_)
   refine cond_b S rfl (fun hc73 => ?_) (fun hc73 => ?_)
   ·have hm := ite_t hc73 hm
    refine wp_seq (region_plain ?_)
    refine lq (.slice none 0 0) S (q_assign rfl) fun a S => ?_
    refine lq (.int .i64 (3 : Int)) S (q_assign rfl) fun a S => ?_
    refine lx_nil (thenN ?_)
    refine wp_ret (then_ret ?_)
    obtain rfl := Option.some.inj hm
    have H : Heap w0 [oA (rList (rInt .i64)) (.slice none 0 0) ([] : List Int), oA (rList (rInt .i64)) v70 x68, bA b49 [(.int .i64 a0.1), (.int .i64 a0.2.1), v33, v35] 33] w66 := H.nilList (rInt .i64)
    have H : Heap w0 [oA (rList (rInt .i64)) (.slice none 0 0) ([] : List Int)] w66 := H.sel [0] (by decide)
    exact leave2 S rfl rfl rfl ⟨(.slice none 0 0), rfl, H⟩
   ·have hm := ite_f hc73 hm
    refine wp_skip (thenN ?_)
    refine wp_seq (region_plain ?_)
    refine lq v70 S (q_move rfl) fun a S => ?_
    refine lq v70 S (q_assign rfl) fun a S => ?_
    refine lq (.int .i64 (0 : Int)) S (q_assign rfl) fun a S => ?_
    refine lx_nil (thenN ?_)
    refine wp_ret ?_
    obtain rfl := Option.some.inj hm
    have H : Heap w0 [oA (rList (rInt .i64)) v70 x68] w66 := H.sel [0] (by decide)
    exact leave2 S rfl rfl rfl ⟨v70, rfl, H⟩

/-- slices.Index[[]string,string] -/
def slices_Index__string_string_m (fuel : Nat) (a0 : (List Str)) (a1 : Str) : Option (Int) :=
  (iter (fun (s : (Int)) => (match s with | (x39) => (if (decide (x39 < (a0.length : Int))) = true then (idx a0 x39).bind fun x57 => (if (a1 == x57) = true then some (.inr (.inr x39)) else some (.inl ((W (x39 + (1 : Int)))))) else some (.inr (.inl ()))) : Option (((Int)) ⊕ ((Unit) ⊕ (Int))))) fuel ((0 : Int))).bind fun res48 => ctl (β := Unit) (ρ := Int) (τ := Int) res48 (fun _ => some ((-1 : Int))) (fun q => some (q))
set_option maxRecDepth 20000 in
theorem slices_Index__string_string_ok {w0 : World} {fuel : Nat} {p0 : Value} {a0 : (List Str)} {a1 : Str} {r : Int} (h0 : Rd (rList rStr) w0 p0 a0) (hm : slices_Index__string_string_m fuel a0 a1 = some r) :
  Calls Tryz.prog 78 #[p0, sv a1] w0 fun e w => e = .returned (.int .i64 r) ∧ Heap w0 [] w := by
 unfold slices_Index__string_string_m at hm
 have H := Heap.start w0
 refine enter (args := [p0, sv a1]) Tryz.func78 rfl 19 rfl (Nat.le_of_ble_eq_true rfl) (fun a S => ?_)
 refine wp_seq (region_plain ?_)
 refine lq (.int .i64 (0 : Int)) S (q_assign rfl) fun a S => ?_
 refine lx_nil (thenN ?_)
 refine wp_seq (wp_seq (region_plain ?_))
 refine lq p0 S (q_move rfl) fun a S => ?_
 refine lq (.int .i64 (a0.length : Int)) S (q_lenSl rfl (h0).isSl rfl Tryz.underlying22) fun a S => ?_
 refine lq (.int .i64 (0 : Int)) S (q_move rfl) fun a S => ?_
 refine lx_nil (thenN ?_)
 obtain ⟨res48, hit49, hk52⟩ := bind_some hm
 obtain ⟨f50, hf51, hit49⟩ := iter_name hit49
 refine block_loop (fun a w => Slots a 19 [] ∧ Heap w0 [] w ∧ res48 = .inl ()) ?_ ?_
 ·rintro a w ⟨S, H, rfl⟩
  have hm := ctl_inl hk52
  refine thenN ?_
  refine wp_seq (region_plain ?_)
  refine lq (.int .i64 (-1 : Int)) S (q_assign rfl) fun a S => ?_
  refine lx_nil (thenN ?_)
  refine wp_ret ?_
  obtain rfl := Option.some.inj hm
  exact leave1 S rfl rfl ⟨rfl, H⟩
 ·skip
  refine loop_ghost (fun n a w => ∃ (x39 : Int), Slots a 19 [(0, p0), (1, (sv a1)), (7, (.int .i64 (a0.length : Int))), (8, (.int .i64 x39))] ∧ Heap w0 [] w ∧ iter f50 n (x39) = some res48) _ ⟨(0 : Int), S.sub ⟨rfl, rfl, rfl, rfl, trivial⟩, H, hit49⟩ ?_
  rintro n a w ⟨x39, S, H, hit49⟩
  obtain ⟨m53, o54, rfl, hm, hc55⟩ := iter_step hit49
  rw [hf51] at hm
  refine wp_seq (region_plain ?_)
  refine lq (.bool (decide (x39 < (a0.length : Int)))) S (q_lss rfl rfl) fun a S => ?_
  refine lx_nil (thenN ?_)
  refine wp_seq ?_
  refine cond_b S rfl (fun hc56 => ?_) (fun hc56 => ?_)
  ·have hm := ite_t hc56 hm
   refine wp_skip (thenN ?_)
   refine wp_seq ?_
   refine wp_block ?_
   refine wp_seq (region_plain ?_)
   refine lq (.int .i64 x39) S (q_move rfl) fun a S => ?_
   refine lq (.int .i64 x39) S (q_assign rfl) fun a S => ?_
   refine lx_nil (thenN ?_)
   refine wp_seq (region_plain ?_)
   refine lq (sv a1) S (q_move rfl) fun a S => ?_
   refine lq p0 S (q_move rfl) fun a S => ?_
   refine lq (.int .i64 x39) S (q_move rfl) fun a S => ?_
   obtain ⟨x57, e58, hm⟩ := bind_some hm
   obtain ⟨c59, h60, hat61⟩ := (h0).elem (idx_some e58).2
   obtain rfl := h60
   have hlt := lt_of_idx (idx_some e58).2
   refine lq (ePtr p0 (x39.toNat * 1)) S (q_indexAddr rfl (h0).isSl rfl (idx_some e58).1 hlt Tryz.underlying22 Tryz.sizeOf9) fun a S => ?_
   refine lx_e (sv x57) S trivial (by decide) rfl trivial (q_load1 rfl Tryz.isAgg9 (by rintro _ rfl; exact ((hat61 0 _ rfl).ext H.ext))) (fun a S => ?_)
   refine lq (.bool (a1 == x57)) S (q_seql rfl rfl) fun a S => ?_
   refine lx_nil (thenN ?_)
   refine cond_b S rfl (fun hc62 => ?_) (fun hc62 => ?_)
   ·have hm := ite_t hc62 hm
    refine wp_seq (region_plain ?_)
    refine lq (.int .i64 x39) S (q_move rfl) fun a S => ?_
    refine lq (.int .i64 x39) S (q_assign rfl) fun a S => ?_
    refine lx_nil (thenN ?_)
    refine wp_ret (inBlock_ret ?_)
    refine then_ret ?_
    refine then_ret ?_
    refine inBlock_ret ?_
    refine then_ret ?_
    refine then_ret ?_
    obtain rfl := it_brk hm hc55
    have hm := ctl_inr hk52
    obtain rfl := Option.some.inj hm
    exact leave1 S rfl rfl ⟨rfl, H⟩
   ·have hm := ite_f hc62 hm
    refine wp_skip ?_
    refine inBlock_norm ?_
    refine thenN ?_
    refine region_plain ?_
    refine lq (.int .i64 (W (x39 + (1 : Int)))) S (q_add rfl rfl) fun a S => ?_
    refine lq (.int .i64 (W (x39 + (1 : Int)))) S (q_move rfl) fun a S => ?_
    refine lx_nil ?_
    exact ⟨m53, Nat.lt_succ_self _, (W (x39 + (1 : Int))), S.sub ⟨rfl, rfl, rfl, rfl, trivial⟩, H, it_cont hm hc55⟩
  ·have hm := ite_f hc56 hm
   refine wp_exit ?_
   refine then_exit ?_
   refine then_exit ?_
   refine inBlock_exit ?_
   obtain rfl := it_brk hm hc55
   exact ⟨S.sub trivial, H, rfl⟩

/-- slices.Contains[[]string,string] -/
def slices_Contains__string_string_m (fuel : Nat) (a0 : (List Str)) (a1 : Str) : Option (Bool) :=
  (slices_Index__string_string_m fuel a0 a1).bind fun x33 => some ((decide ((0 : Int) ≤ x33)))
set_option maxRecDepth 20000 in
theorem slices_Contains__string_string_ok {w0 : World} {fuel : Nat} {p0 : Value} {a0 : (List Str)} {a1 : Str} {r : Bool} (h0 : Rd (rList rStr) w0 p0 a0) (hm : slices_Contains__string_string_m fuel a0 a1 = some r) :
  Calls Tryz.prog 57 #[p0, sv a1] w0 fun e w => e = .returned (.bool r) ∧ Heap w0 [] w := by
 unfold slices_Contains__string_string_m at hm
 have H := Heap.start w0
 refine enter (args := [p0, sv a1]) Tryz.func57 rfl 9 rfl (Nat.le_of_ble_eq_true rfl) (fun a S => ?_)
 refine wp_seq (region_plain ?_)
 refine lq (.bool false) S (q_assign rfl) fun a S => ?_
 refine lx_nil (thenN ?_)
 refine wp_seq (region_plain ?_)
 refine lq p0 S (q_move rfl) fun a S => ?_
 refine lq (sv a1) S (q_move rfl) fun a S => ?_
 obtain ⟨x33, e34, hm⟩ := bind_some hm
 refine lx_call (xs := [.tmp 5, .tmp 6]) S trivial (by decide) rfl rfl Tryz.call78 ((slices_Index__string_string_ok (H.arg h0)  e34).mono ?_)
 rintro e w31 ⟨rfl, Hc32⟩
 have H := H.call0 Hc32
 refine ⟨_, rfl, trivial, fun a S => ?_⟩
 refine lq (.bool (decide ((0 : Int) ≤ x33))) S (q_geq rfl rfl) fun a S => ?_
 refine lq (.bool (decide ((0 : Int) ≤ x33))) S (q_assign rfl) fun a S => ?_
 refine lx_nil (thenN ?_)
 refine wp_ret ?_
 obtain rfl := Option.some.inj hm
 exact leave1 S rfl rfl ⟨rfl, H⟩

/-- impl.areVisible -/
def impl_areVisible_m (fuel : Nat) (a0 : (List Str)) : Option (Bool) :=
  (impl_areLabels_m fuel a0).bind fun x33 => (if x33 = true then (slices_Contains__string_string_m fuel a0 ([116, 97, 117] : Str)).bind fun x41 => some (!x41) else some false).bind fun t36 => some (t36)
set_option maxRecDepth 20000 in
theorem impl_areVisible_ok {w0 : World} {fuel : Nat} {p0 : Value} {a0 : (List Str)} {r : Bool} (hG : Glob Tryz.prog w0) (h0 : Rd (rList rStr) w0 p0 a0) (hm : impl_areVisible_m fuel a0 = some r) :
  Calls Tryz.prog 30 #[p0] w0 fun e w => e = .returned (.bool r) ∧ Heap w0 [] w := by
 unfold impl_areVisible_m at hm
 have H := Heap.start w0
 refine enter (args := [p0]) Tryz.func30 rfl 10 rfl (Nat.le_of_ble_eq_true rfl) (fun a S => ?_)
 refine wp_seq (region_plain ?_)
 refine lq (.bool false) S (q_assign rfl) fun a S => ?_
 refine lx_nil (thenN ?_)
 refine wp_seq (region_plain ?_)
 refine lq p0 S (q_move rfl) fun a S => ?_
 obtain ⟨x33, e34, hm⟩ := bind_some hm
 refine lx_call (xs := [.tmp 3]) S trivial (by decide) rfl rfl Tryz.call38 ((impl_areLabels_ok (hG.ext H.ext) (H.arg h0) e34).mono ?_)
 rintro e w31 ⟨rfl, Hc32⟩
 have H := H.call0 Hc32
 refine ⟨_, rfl, trivial, fun a S => ?_⟩
 refine lq (.bool x33) S (q_move rfl) fun a S => ?_
 obtain ⟨t36, e37, hm⟩ := bind_some hm
 refine lx_cut 4 (fun a w => Slots a 10 [(9, (.bool t36))] ∧ Heap w0 [] w) ?_ ?_
 ·by_cases hc38 : x33 = true
  ·have hm := ite_t hc38 e37
   refine lx_q p0 S (want_b rfl rfl hc38) (by decide) (q_move rfl) (fun a S => ?_)
   obtain ⟨x41, e42, hm⟩ := bind_some hm
   refine lx_call (xs := [.tmp 6, .const (sv [116, 97, 117])]) S (want_b rfl rfl hc38) (by decide) rfl rfl Tryz.call57 ((slices_Contains__string_string_ok (H.arg h0)  e42).mono ?_)
   rintro e w39 ⟨rfl, Hc40⟩
   have H := H.call0 Hc40
   refine ⟨_, rfl, trivial, fun a S => ?_⟩
   refine lx_q (.bool (!x41)) S (want_b rfl rfl hc38) (by decide) (q_not rfl) (fun a S => ?_)
   refine lq (.bool (!x41)) S (q_pickT' rfl hc38 rfl) fun a S => ?_
   refine lx_nil ?_
   obtain rfl := Option.some.inj hm
   exact ⟨S.sub ⟨rfl, trivial⟩, H⟩
  ·have hm := ite_f (eq_false_of_ne_true hc38) e37
   have hc38 : x33 = false := eq_false_of_ne_true hc38
   refine lx_skip S rfl rfl (isB_ne hc38) (by decide) (fun a S => ?_)
   refine lx_skip S rfl rfl (isB_ne hc38) (by decide) (fun a S => ?_)
   refine lx_skip S rfl rfl (isB_ne hc38) (by decide) (fun a S => ?_)
   refine lq (.bool false) S (q_pickF' rfl hc38 rfl) fun a S => ?_
   refine lx_nil ?_
   obtain rfl := Option.some.inj hm
   exact ⟨S.sub ⟨rfl, trivial⟩, H⟩
 ·rintro a w ⟨S, H⟩
  refine lq (.bool t36) S (q_assign rfl) fun a S => ?_
  refine lx_nil (thenN ?_)
  refine wp_ret ?_
  obtain rfl := Option.some.inj hm
  exact leave1 S rfl rfl ⟨rfl, H⟩

/-- slices.Clone[[]int64,int64] -/
def slices_Clone__int64_int64_m (_ : Nat) (a0 : (List Int)) : Option ((List Int)) :=
  (app ([] : List Int) a0).bind fun x38 => some (x38)
set_option maxRecDepth 20000 in
theorem slices_Clone__int64_int64_ok {w0 : World} {fuel : Nat} {p0 : Value} {a0 : (List Int)} {r : (List Int)} (h0 : Rd (rList (rInt .i64)) w0 p0 a0) (hm : slices_Clone__int64_int64_m fuel a0 = some r) :
  Calls Tryz.prog 79 #[p0] w0 fun e w => ∃ (v0 : Value), e = .returned (v0) ∧ Heap w0 [oA (rList (rInt .i64)) v0 r] w := by
 unfold slices_Clone__int64_int64_m at hm
 have H := Heap.start w0
 refine enter (args := [p0]) Tryz.func79 rfl 8 rfl (Nat.le_of_ble_eq_true rfl) (fun a S => ?_)
 refine wp_seq (region_plain ?_)
 refine lq (.slice none 0 0) S (q_assign rfl) fun a S => ?_
 refine lx_nil (thenN ?_)
 refine wp_seq (wp_seq (region_plain ?_))
 refine lq p0 S (q_move rfl) fun a S => ?_
 obtain ⟨bn31, hqn, hb32⟩ := ((H.arg h0)).isNil (P := Tryz.prog) Tryz.underlying28
 refine lq (.bool bn31) S (hqn rfl rfl) fun a S => ?_
 refine lx_nil (thenN ?_)
 refine cond_b S rfl (fun hc33 => ?_) (fun hc33 => ?_)
 ·obtain rfl := hb32 hc33
  replace hm : some [] = some r := by simpa [app] using hm
  refine wp_seq (region_plain ?_)
  refine lq (.slice none 0 0) S (q_assign rfl) fun a S => ?_
  refine lx_nil (thenN ?_)
  refine wp_ret (then_ret ?_)
  obtain rfl := Option.some.inj hm
  have H : Heap w0 [oA (rList (rInt .i64)) (.slice none 0 0) ([] : List Int)] w0 := H.nilList (rInt .i64)
  exact leave1 S rfl rfl ⟨(.slice none 0 0), rfl, H⟩
 ·skip
  refine wp_skip (thenN ?_)
  refine wp_seq (region_plain ?_)
  refine lx_buildSlice0 (r := (rInt .i64)) S trivial (by decide) rfl H Tryz.underlying28 Tryz.sizeOf2 (fun v35 w36 H => ⟨trivial, fun a S => ?_⟩)
  refine lq p0 S (q_move rfl) fun a S => ?_
  obtain ⟨x38, e39, hm⟩ := bind_some hm
  obtain ⟨hle, hap⟩ := app_some e39
  replace hap := hap.symm
  subst hap
  refine lx_appendRd (r := (rInt .i64)) S trivial (by decide) rfl H (flat_int _) (H.arg h0) rfl rfl Tryz.underlying28 Tryz.ti2 rfl rfl rfl (by decide) (by decide) hle (fun v40 w41 H => ⟨trivial, fun a S => ?_⟩)
  refine lq v40 S (q_assign rfl) fun a S => ?_
  refine lx_nil (thenN ?_)
  refine wp_ret ?_
  obtain rfl := Option.some.inj hm
  exact leave1 S rfl rfl ⟨v40, rfl, H⟩

/-- (impl.Lts).internal -/
def impl_Lts_internal_m (fuel : Nat) (a0 : Timpl_Lts) (a1 : (List Int)) : Option ((List Int)) :=
  (slices_Clone__int64_int64_m fuel a1).bind fun x54 => (iter (fun (s : (List Int) × (Int)) => (match s with | (xs177, x179) => (if (decide (x179 < (xs177.length : Int))) = true then (idx xs177 x179).bind fun x315 => (impl_Lts_follow_m fuel (a0.1, a0.2.1, a0.2.2.1, a0.2.2.2) [x315] ([116, 97, 117] : Str)).bind fun x322 => (iter (fun (s : (List Int) × (Int)) => (match s with | (xs357, x359) => (if (decide (x359 < (x322.length : Int))) = true then join (κ := List Int → Option (((List Int) × (Int)) ⊕ (((List Int)) ⊕ ((List Int))))) (fun (xs402 : List Int) => some (.inl (xs402, (W (x359 + (1 : Int)))))) (fun K404 => (idx x322 x359).bind fun x406 => (slices_Contains__int64_int64_m fuel xs357 x406).bind fun x413 => (if (!x413) = true then (app xs357 [x406]).bind fun x420 => (K404 x420) else (K404 xs357))) else some (.inr (.inl (xs357)))) : Option (((List Int) × (Int)) ⊕ (((List Int)) ⊕ ((List Int)))))) fuel (xs177, (0 : Int))).bind fun res392 => ctl (β := (List Int)) (ρ := (List Int)) (τ := (((List Int) × (Int)) ⊕ (((List Int)) ⊕ ((List Int))))) res392 (fun (xs390) => some (.inl (xs390, (W (x179 + (1 : Int)))))) (fun q => some (.inr (.inr q))) else some (.inr (.inl (xs177)))) : Option (((List Int) × (Int)) ⊕ (((List Int)) ⊕ ((List Int)))))) fuel (x54, (0 : Int))).bind fun res300 => ctl (β := (List Int)) (ρ := (List Int)) (τ := (List Int)) res300 (fun (xs298) => (slices_Sort__int64_int64_m fuel xs298).bind fun x307 => some (x307)) (fun q => some (q))
set_option maxRecDepth 20000 in
theorem impl_Lts_internal_ok {w0 : World} {fuel : Nat} {p0 p1 : Value} {a0 : Timpl_Lts} {a1 : (List Int)} {r : (List Int)} (h0 : Rd Rimpl_Lts w0 p0 a0) (h1 : Rd (rList (rInt .i64)) w0 p1 a1) (hm : impl_Lts_internal_m fuel a0 a1 = some r) :
  Calls Tryz.prog 58 #[p0, p1] w0 fun e w => ∃ (v0 : Value), e = .returned (v0) ∧ Heap w0 [oA (rList (rInt .i64)) v0 r] w := by
 unfold impl_Lts_internal_m at hm
 have H := Heap.start w0
 obtain ⟨c31, rfl, h32⟩ := h0
 obtain ⟨c37, c38, rfl, h39, h40⟩ := h32
 obtain rfl := h39
 obtain ⟨c41, c42, rfl, h43, h44⟩ := h40
 obtain rfl := h43
 obtain ⟨c45, c46, rfl, h47, h48⟩ := h44
 obtain ⟨v33, rfl, h34⟩ := rd_list h47
 obtain ⟨v35, rfl, h36⟩ := rd_list h48
 refine enter (args := [(.agg #[(.int .i64 a0.1), (.int .i64 a0.2.1), v33, v35]), p1]) Tryz.func58 rfl 41 rfl (Nat.le_of_ble_eq_true rfl) (fun a S => ?_)
 refine wp_seq (region_plain ?_)
 refine lx_box S trivial (by decide) rfl H rfl rfl (fun b49 w50 H => ⟨trivial, fun a S => ?_⟩)
 refine lq (.slice none 0 0) S (q_assign rfl) fun a S => ?_
 refine lx_nil (thenN ?_)
 refine wp_seq (region_plain ?_)
 refine lq p1 S (q_move rfl) fun a S => ?_
 obtain ⟨x54, e55, hm⟩ := bind_some hm
 refine lx_call (xs := [.tmp 9]) S trivial (by decide) rfl rfl Tryz.call79 ((slices_Clone__int64_int64_ok (H.arg h1) e55).mono ?_)
 rintro e w52 ⟨v56, rfl, Hc53⟩
 have H := H.call1 Hc53
 refine ⟨_, rfl, trivial, fun a S => ?_⟩
 refine lq v56 S (q_assign rfl) fun a S => ?_
 refine lx_nil (thenN ?_)
 refine wp_seq (wp_seq (region_plain ?_))
 refine lq (.int .i64 (0 : Int)) S (q_assign rfl) fun a S => ?_
 refine lx_nil (thenN ?_)
 obtain ⟨res300, hit301, hk304⟩ := bind_some hm
 obtain ⟨f302, hf303, hit301⟩ := iter_name hit301
 refine block_loop (fun a w => ∃ (xs298 : List Int) (v297 : Value), Slots a 41 [(5, v297)] ∧ Heap w0 [oA (rList (rInt .i64)) v297 xs298] w ∧ res300 = .inl (xs298)) ?_ ?_
 ·rintro a w ⟨xs298, v297, S, H, rfl⟩
  have hm := ctl_inl hk304
  refine thenN ?_
  refine wp_seq (region_plain ?_)
  refine lq v297 S (q_move rfl) fun a S => ?_
  obtain ⟨x307, e308, hm⟩ := bind_some hm
  refine lx_call (xs := [.tmp 38]) S trivial (by decide) rfl rfl Tryz.call64 ((slices_Sort__int64_int64_ok H  e308).mono ?_)
  rintro e w305 ⟨rfl, H⟩
  refine ⟨_, rfl, trivial, fun a S => ?_⟩
  refine lx_nil (thenN ?_)
  refine wp_seq (region_plain ?_)
  refine lq v297 S (q_move rfl) fun a S => ?_
  refine lq v297 S (q_assign rfl) fun a S => ?_
  refine lx_nil (thenN ?_)
  refine wp_ret ?_
  obtain rfl := Option.some.inj hm
  exact leave1 S rfl rfl ⟨v297, rfl, H⟩
 ·skip
  have H : Heap w0 [bA b49 [(.int .i64 a0.1), (.int .i64 a0.2.1), v33, v35] 33, oA (rList (rInt .i64)) v56 x54] w52 := H.front 1 rfl
  refine loop_ghost (fun n a w => ∃ (xs177 : List Int) (x179 : Int) (v176 : Value), Slots a 41 [(2, (bp b49)), (5, v176), (6, (.int .i64 x179))] ∧ Heap w0 [bA b49 [(.int .i64 a0.1), (.int .i64 a0.2.1), v33, v35] 33, oA (rList (rInt .i64)) v176 xs177] w ∧ iter f302 n (xs177, x179) = some res300) _ ⟨x54, (0 : Int), v56, S.sub ⟨rfl, rfl, rfl, trivial⟩, H, hit301⟩ ?_
  rintro n a w ⟨xs177, x179, v176, S, H, hit301⟩
  obtain ⟨m309, o310, rfl, hm, hc311⟩ := iter_step hit301
  rw [hf303] at hm
  refine wp_seq (wp_seq (region_plain ?_))
  refine lq (.int .i64 x179) S (q_move rfl) fun a S => ?_
  refine lq v176 S (q_move rfl) fun a S => ?_
  refine lq (.int .i64 (xs177.length : Int)) S (q_lenSl rfl (H.isSl 1 rfl) rfl Tryz.underlying28) fun a S => ?_
  refine lq (.bool (decide (x179 < (xs177.length : Int)))) S (q_lss rfl rfl) fun a S => ?_
  refine lx_nil (thenN ?_)
  refine cond_b S rfl (fun hc312 => ?_) (fun hc312 => ?_)
  ·have hm := ite_t hc312 hm
   refine wp_skip (thenN ?_)
   refine wp_seq ?_
   refine wp_block ?_
   refine wp_seq ?_
   refine region_drawG (fun w1 => Heap w0 [bA b49 [(.int .i64 a0.1), (.int .i64 a0.2.1), v33, v35] 33, oA (rList (rInt .i64)) v176 xs177] w1) (fun i => [5, 6].contains i) mixed (by kernel_rfl) (fun w314 he313 => ?_)
   have H := H.later he313
   refine ⟨H.sel [0, 1] (by decide), ?_⟩
   refine lq (.agg #[(.int .i64 a0.1), (.int .i64 a0.2.1), v33, v35]) S (q_loadA (cs := [(.int .i64 a0.1), (.int .i64 a0.2.1), v33, v35]) rfl (isP_bp _) Tryz.isAgg33 Tryz.sizeOf33 (fun w1 hC => (fun j u hu => boxAt (i := 0) hC rfl hu))) fun a S => ?_
   refine lq v176 S (q_move rfl) fun a S => ?_
   refine lq (.int .i64 x179) S (q_move rfl) fun a S => ?_
   obtain ⟨x315, e316, hm⟩ := bind_some hm
   have hlt := lt_of_idx (idx_some e316).2
   refine lq (ePtr v176 (x179.toNat * 1)) S (q_indexAddr rfl (H.isSl 1 rfl) rfl (idx_some e316).1 hlt Tryz.underlying28 Tryz.sizeOf2) fun a S => ?_
   refine lq (.int .i64 x315) S (q_load1 rfl Tryz.isAgg2 (fun w1 hC => ((hC.rdAt 1 rfl).elemAt (j := 0) (idx_some e316).2 (by intro B w cs h; obtain rfl := h; rfl)))) fun a S => ?_
   refine lx_buildSlice (r := (rInt .i64)) (xs := [x315]) (ps := [(0, [(.int .i64 x315)])]) (cs := [(.int .i64 x315)]) (parts := [(0, .tmp 21)]) S trivial (by decide) rfl (H.put0 (A := eA) rfl) rfl Tryz.underlying28 Tryz.sizeOf2 Tryz.zeroValue2 (by decide) ⟨rfl, rfl, Nat.le_of_ble_eq_true rfl, trivial⟩ (by intro zs hz; exact fill_dense hz ⟨rfl, trivial⟩ rfl rfl) rfl (by decide) (fun w F hA => by cases (show F = [] from hA); exact ⟨_, _, [(.int .i64 x315)], _, rfl, rfl, ⟨rfl, rfl⟩, ⟨rfl, rfl⟩⟩) (fun v317 w318 H => ⟨H.sel [1, 2] (by decide), fun a S => ?_⟩)
   obtain ⟨x322, e323, hm⟩ := bind_some hm
   refine lx_call (xs := [.tmp 17, .tmp 22, .const (sv [116, 97, 117])]) S trivial (by decide) rfl rfl Tryz.call39 ((impl_Lts_follow_ok ⟨[(.int .i64 a0.1), (.int .i64 a0.2.1), v33, v35], rfl, ⟨[(.int .i64 a0.1)], [(.int .i64 a0.2.1), v33, v35], rfl, rfl, ⟨[(.int .i64 a0.2.1)], [v33, v35], rfl, rfl, ⟨[v33], [v35], rfl, ((H.arg h34)).list_rd, ((H.arg h36)).list_rd⟩⟩⟩⟩ (H.rdAt 0 rfl)  e323).mono ?_)
   rintro e w320 ⟨v324, rfl, Hc321⟩
   have H := H.call1 Hc321
   refine ⟨_, rfl, H.sel [2, 3] (by decide), fun a S => ?_⟩
   refine lq (.int .i64 (x322.length : Int)) S (q_lenSl rfl (H.isSl 0 rfl) rfl Tryz.underlying28) fun a S => ?_
   refine lq (.int .i64 (0 : Int)) S (q_move rfl) fun a S => ?_
   refine lx_nil (thenN ?_)
   obtain ⟨res392, hit393, hk396⟩ := bind_some hm
   obtain ⟨f394, hf395, hit393⟩ := iter_name hit393
   refine block_loop (fun a w => ∃ (xs390 : List Int) (v389 : Value), Slots a 41 [(2, (bp b49)), (5, v389), (6, (.int .i64 x179))] ∧ Heap w0 [bA b49 [(.int .i64 a0.1), (.int .i64 a0.2.1), v33, v35] 33, oA (rList (rInt .i64)) v389 xs390] w ∧ res392 = .inl (xs390)) ?_ ?_
   ·rintro a w ⟨xs390, v389, S, H, rfl⟩
    have hm := ctl_inl hk396
    refine inBlock_norm ?_
    refine thenN ?_
    refine region_plain ?_
    refine lq (.int .i64 x179) S (q_move rfl) fun a S => ?_
    refine lq (.int .i64 (W (x179 + (1 : Int)))) S (q_add rfl rfl) fun a S => ?_
    refine lq (.int .i64 (W (x179 + (1 : Int)))) S (q_assign rfl) fun a S => ?_
    refine lx_nil ?_
    exact ⟨m309, Nat.lt_succ_self _, xs390, (W (x179 + (1 : Int))), v389, S.sub ⟨rfl, rfl, rfl, trivial⟩, H, it_cont hm hc311⟩
   ·skip
    have H : Heap w0 [oA (rList (rInt .i64)) v176 xs177, oA (rList (rInt .i64)) v324 x322, oA (rList (rInt .i64)) v317 [x315], bA b49 [(.int .i64 a0.1), (.int .i64 a0.2.1), v33, v35] 33] w320 := H.front 3 rfl
    have H : Heap w0 [bA b49 [(.int .i64 a0.1), (.int .i64 a0.2.1), v33, v35] 33, oA (rList (rInt .i64)) v176 xs177, oA (rList (rInt .i64)) v324 x322, oA (rList (rInt .i64)) v317 [x315]] w320 := H.front 3 rfl
    have H : Heap w0 [bA b49 [(.int .i64 a0.1), (.int .i64 a0.2.1), v33, v35] 33, oA (rList (rInt .i64)) v176 xs177, oA (rList (rInt .i64)) v324 x322] w320 := H.sel [0, 1, 2] (by decide)
    refine loop_ghost (fun n a w => ∃ (xs357 : List Int) (x359 : Int) (v356 : Value), Slots a 41 [(2, (bp b49)), (5, v356), (6, (.int .i64 x179)), (23, v324), (24, (.int .i64 (x322.length : Int))), (25, (.int .i64 x359))] ∧ Heap w0 [bA b49 [(.int .i64 a0.1), (.int .i64 a0.2.1), v33, v35] 33, oA (rList (rInt .i64)) v356 xs357, oA (rList (rInt .i64)) v324 x322] w ∧ iter f394 n (xs357, x359) = some res392) _ ⟨xs177, (0 : Int), v176, S.sub ⟨rfl, rfl, rfl, rfl, rfl, rfl, trivial⟩, H, hit393⟩ ?_
    rintro n a w ⟨xs357, x359, v356, S, H, hit393⟩
    obtain ⟨m397, o398, rfl, hm, hc399⟩ := iter_step hit393
    rw [hf395] at hm
    refine wp_seq (region_plain ?_)
    refine lq (.bool (decide (x359 < (x322.length : Int)))) S (q_lss rfl rfl) fun a S => ?_
    refine lx_nil (thenN ?_)
    refine wp_seq ?_
    refine cond_b S rfl (fun hc400 => ?_) (fun hc400 => ?_)
    ·have hm := ite_t hc400 hm
     refine wp_skip (thenN ?_)
     obtain ⟨K404, hK405, hm⟩ := join_elim hm
     refine seq_cut (fun a w => ∃ (xs402 : List Int) (v401 : Value), Slots a 41 [(2, (bp b49)), (5, v401), (6, (.int .i64 x179)), (23, v324), (24, (.int .i64 (x322.length : Int))), (25, (.int .i64 x359))] ∧ Heap w0 [bA b49 [(.int .i64 a0.1), (.int .i64 a0.2.1), v33, v35] 33, oA (rList (rInt .i64)) v401 xs402, oA (rList (rInt .i64)) v324 x322] w ∧ K404 xs402 = some o398) ?_ ?_
     ·rintro a w ⟨xs402, v401, S, H, hm⟩
      subst hK405
      refine region_plain ?_
      refine lq (.int .i64 (W (x359 + (1 : Int)))) S (q_add rfl rfl) fun a S => ?_
      refine lq (.int .i64 (W (x359 + (1 : Int)))) S (q_move rfl) fun a S => ?_
      refine lx_nil ?_
      exact ⟨m397, Nat.lt_succ_self _, xs402, (W (x359 + (1 : Int))), v401, S.sub ⟨rfl, rfl, rfl, rfl, rfl, rfl, trivial⟩, H, it_cont hm hc399⟩
     ·skip
      refine wp_block ?_
      refine wp_seq (region_plain ?_)
      obtain ⟨x406, e407, hm⟩ := bind_some hm
      have hlt := lt_of_idx (idx_some e407).2
      refine lq (ePtr v324 (x359.toNat * 1)) S (q_indexAddr rfl (H.isSl 2 rfl) rfl (idx_some e407).1 hlt Tryz.underlying28 Tryz.sizeOf2) fun a S => ?_
      obtain ⟨c408, h409, hat410⟩ := (H.rdAt 2 rfl).elem (idx_some e407).2
      obtain rfl := h409
      refine lx_e (.int .i64 x406) S trivial (by decide) rfl trivial (q_load1 rfl Tryz.isAgg2 (by rintro _ rfl; exact (hat410 0 _ rfl))) (fun a S => ?_)
      refine lq (.int .i64 x406) S (q_assign rfl) fun a S => ?_
      refine lx_nil (thenN ?_)
      refine wp_seq (region_plain ?_)
      refine lq v356 S (q_move rfl) fun a S => ?_
      refine lq (.int .i64 x406) S (q_move rfl) fun a S => ?_
      obtain ⟨x413, e414, hm⟩ := bind_some hm
      refine lx_call (xs := [.tmp 29, .tmp 30]) S trivial (by decide) rfl rfl Tryz.call63 ((slices_Contains__int64_int64_ok (H.rdAt 1 rfl)  e414).mono ?_)
      rintro e w411 ⟨rfl, Hc412⟩
      have H := H.call0 Hc412
      refine ⟨_, rfl, trivial, fun a S => ?_⟩
      refine lq (.bool (!x413)) S (q_not rfl) fun a S => ?_
      refine lx_nil (thenN ?_)
      refine cond_b S rfl (fun hc416 => ?_) (fun hc416 => ?_)
      ·have hm := ite_t hc416 hm
       refine region_plain ?_
       refine lq v356 S (q_move rfl) fun a S => ?_
       refine lq (.int .i64 x406) S (q_move rfl) fun a S => ?_
       refine lx_buildSlice (r := (rInt .i64)) (xs := [x406]) (ps := [(0, [(.int .i64 x406)])]) (cs := [(.int .i64 x406)]) (parts := [(0, .tmp 34)]) S trivial (by decide) rfl (H.put0 (A := eA) rfl) rfl Tryz.underlying28 Tryz.sizeOf2 Tryz.zeroValue2 (by decide) ⟨rfl, rfl, Nat.le_of_ble_eq_true rfl, trivial⟩ (by intro zs hz; exact fill_dense hz ⟨rfl, trivial⟩ rfl rfl) rfl (by decide) (fun w F hA => by cases (show F = [] from hA); exact ⟨_, _, [(.int .i64 x406)], _, rfl, rfl, ⟨rfl, rfl⟩, ⟨rfl, rfl⟩⟩) (fun v417 w418 H => ⟨trivial, fun a S => ?_⟩)
       obtain ⟨x420, e421, hm⟩ := bind_some hm
       obtain ⟨hle, hap⟩ := app_some e421
       replace hap := hap.symm
       subst hap
       have H : Heap w0 [oA (rList (rInt .i64)) v417 [x406], bA b49 [(.int .i64 a0.1), (.int .i64 a0.2.1), v33, v35] 33, oA (rList (rInt .i64)) v356 xs357, oA (rList (rInt .i64)) v324 x322] w418 := H.front 0 rfl
       have H : Heap w0 [oA (rList (rInt .i64)) v356 xs357, oA (rList (rInt .i64)) v417 [x406], bA b49 [(.int .i64 a0.1), (.int .i64 a0.2.1), v33, v35] 33, oA (rList (rInt .i64)) v324 x322] w418 := H.front 2 rfl
       refine lx_appendOwn (r := (rInt .i64)) S trivial (by decide) rfl H rfl rfl Tryz.underlying28 Tryz.ti2 rfl rfl rfl (by decide) (by decide) hle (fun v422 w423 H => ⟨trivial, fun a S => ?_⟩)
       refine lq v422 S (q_assign rfl) fun a S => ?_
       refine lx_nil ?_
       refine inBlock_norm ?_
       have H : Heap w0 [oA (rList (rInt .i64)) v324 x322, oA (rList (rInt .i64)) v422 (xs357 ++ [x406]), bA b49 [(.int .i64 a0.1), (.int .i64 a0.2.1), v33, v35] 33] w423 := H.front 2 rfl
       have H : Heap w0 [oA (rList (rInt .i64)) v422 (xs357 ++ [x406]), oA (rList (rInt .i64)) v324 x322, bA b49 [(.int .i64 a0.1), (.int .i64 a0.2.1), v33, v35] 33] w423 := H.front 1 rfl
       have H : Heap w0 [bA b49 [(.int .i64 a0.1), (.int .i64 a0.2.1), v33, v35] 33, oA (rList (rInt .i64)) v422 (xs357 ++ [x406]), oA (rList (rInt .i64)) v324 x322] w423 := H.front 2 rfl
       exact ⟨(xs357 ++ [x406]), v422, S.sub ⟨rfl, rfl, rfl, rfl, rfl, rfl, trivial⟩, H, hm⟩
      ·have hm := ite_f hc416 hm
       refine wp_skip ?_
       refine inBlock_norm ?_
       exact ⟨xs357, v356, S.sub ⟨rfl, rfl, rfl, rfl, rfl, rfl, trivial⟩, H, hm⟩
    ·have hm := ite_f hc400 hm
     refine wp_exit ?_
     refine then_exit ?_
     refine then_exit ?_
     refine inBlock_exit ?_
     obtain rfl := it_brk hm hc399
     have H : Heap w0 [bA b49 [(.int .i64 a0.1), (.int .i64 a0.2.1), v33, v35] 33, oA (rList (rInt .i64)) v356 xs357] w := H.sel [0, 1] (by decide)
     exact ⟨xs357, v356, S.sub ⟨rfl, rfl, rfl, trivial⟩, H, rfl⟩
  ·have hm := ite_f hc312 hm
   refine wp_exit ?_
   refine then_exit ?_
   refine then_exit ?_
   refine inBlock_exit ?_
   obtain rfl := it_brk hm hc311
   have H : Heap w0 [oA (rList (rInt .i64)) v176 xs177] w := H.sel [1] (by decide)
   exact ⟨xs177, v176, S.sub ⟨rfl, trivial⟩, H, rfl⟩

/-- (impl.Lts).visible -/
def impl_Lts_visible_m (fuel : Nat) (a0 : Timpl_Lts) (a1 : (List Int)) (a2 : Str) : Option ((List Int)) :=
  (impl_Lts_follow_m fuel (a0.1, a0.2.1, a0.2.2.1, a0.2.2.2) a1 a2).bind fun x56 => (impl_Lts_internal_m fuel (a0.1, a0.2.1, a0.2.2.1, a0.2.2.2) x56).bind fun x63 => some (x63)
set_option maxRecDepth 20000 in
theorem impl_Lts_visible_ok {w0 : World} {fuel : Nat} {p0 p1 : Value} {a0 : Timpl_Lts} {a1 : (List Int)} {a2 : Str} {r : (List Int)} (h0 : Rd Rimpl_Lts w0 p0 a0) (h1 : Rd (rList (rInt .i64)) w0 p1 a1) (hm : impl_Lts_visible_m fuel a0 a1 a2 = some r) :
  Calls Tryz.prog 59 #[p0, p1, sv a2] w0 fun e w => ∃ (v0 : Value), e = .returned (v0) ∧ Heap w0 [oA (rList (rInt .i64)) v0 r] w := by
 unfold impl_Lts_visible_m at hm
 have H := Heap.start w0
 obtain ⟨c31, rfl, h32⟩ := h0
 obtain ⟨c37, c38, rfl, h39, h40⟩ := h32
 obtain rfl := h39
 obtain ⟨c41, c42, rfl, h43, h44⟩ := h40
 obtain rfl := h43
 obtain ⟨c45, c46, rfl, h47, h48⟩ := h44
 obtain ⟨v33, rfl, h34⟩ := rd_list h47
 obtain ⟨v35, rfl, h36⟩ := rd_list h48
 refine enter (args := [(.agg #[(.int .i64 a0.1), (.int .i64 a0.2.1), v33, v35]), p1, sv a2]) Tryz.func59 rfl 13 rfl (Nat.le_of_ble_eq_true rfl) (fun a S => ?_)
 refine wp_seq (region_plain ?_)
 refine lx_box S trivial (by decide) rfl H rfl rfl (fun b49 w50 H => ⟨trivial, fun a S => ?_⟩)
 refine lq (.slice none 0 0) S (q_assign rfl) fun a S => ?_
 refine lx_nil (thenN ?_)
 refine wp_seq ?_
 refine region_drawG (fun w1 => Heap w0 [bA b49 [(.int .i64 a0.1), (.int .i64 a0.2.1), v33, v35] 33] w1) (fun i => [4, 5].contains i) mixed (by kernel_rfl) (fun w53 he52 => ?_)
 have H := H.later he52
 refine ⟨H.sel [0] (by decide), ?_⟩
 refine lq (.agg #[(.int .i64 a0.1), (.int .i64 a0.2.1), v33, v35]) S (q_loadA (cs := [(.int .i64 a0.1), (.int .i64 a0.2.1), v33, v35]) rfl (isP_bp _) Tryz.isAgg33 Tryz.sizeOf33 (fun w1 hC => (fun j u hu => boxAt (i := 0) hC rfl hu))) fun a S => ?_
 refine lq (.agg #[(.int .i64 a0.1), (.int .i64 a0.2.1), v33, v35]) S (q_loadA (cs := [(.int .i64 a0.1), (.int .i64 a0.2.1), v33, v35]) rfl (isP_bp _) Tryz.isAgg33 Tryz.sizeOf33 (fun w1 hC => (fun j u hu => boxAt (i := 0) hC rfl hu))) fun a S => ?_
 refine lq p1 S (q_move rfl) fun a S => ?_
 refine lq (sv a2) S (q_move rfl) fun a S => ?_
 obtain ⟨x56, e57, hm⟩ := bind_some hm
 refine lx_call (xs := [.tmp 8, .tmp 9, .tmp 10]) S trivial (by decide) rfl rfl Tryz.call39 ((impl_Lts_follow_ok ⟨[(.int .i64 a0.1), (.int .i64 a0.2.1), v33, v35], rfl, ⟨[(.int .i64 a0.1)], [(.int .i64 a0.2.1), v33, v35], rfl, rfl, ⟨[(.int .i64 a0.2.1)], [v33, v35], rfl, rfl, ⟨[v33], [v35], rfl, ((H.arg h34)).list_rd, ((H.arg h36)).list_rd⟩⟩⟩⟩ (H.arg h1)  e57).mono ?_)
 rintro e w54 ⟨v58, rfl, Hc55⟩
 have H := H.call1 Hc55
 refine ⟨_, rfl, H.sel [1] (by decide), fun a S => ?_⟩
 obtain ⟨x63, e64, hm⟩ := bind_some hm
 refine lx_call (xs := [.tmp 7, .tmp 11]) S trivial (by decide) rfl rfl Tryz.call58 ((impl_Lts_internal_ok ⟨[(.int .i64 a0.1), (.int .i64 a0.2.1), v33, v35], rfl, ⟨[(.int .i64 a0.1)], [(.int .i64 a0.2.1), v33, v35], rfl, rfl, ⟨[(.int .i64 a0.2.1)], [v33, v35], rfl, rfl, ⟨[v33], [v35], rfl, ((H.arg h34)).list_rd, ((H.arg h36)).list_rd⟩⟩⟩⟩ (H.rdAt 0 rfl) e64).mono ?_)
 rintro e w61 ⟨v65, rfl, Hc62⟩
 have H := H.call1 Hc62
 refine ⟨_, rfl, H.sel [2] (by decide), fun a S => ?_⟩
 refine lq v65 S (q_assign rfl) fun a S => ?_
 refine lx_nil (thenN ?_)
 refine wp_ret ?_
 obtain rfl := Option.some.inj hm
 have H : Heap w0 [oA (rList (rInt .i64)) v65 x63] w61 := H.sel [0] (by decide)
 exact leave1 S rfl rfl ⟨v65, rfl, H⟩

/-- (impl.Lts).after -/
def impl_Lts_after_m (fuel : Nat) (a0 : Timpl_Lts) (a1 : (List Str)) : Option ((List Int)) :=
  (impl_Lts_internal_m fuel (a0.1, a0.2.1, a0.2.2.1, a0.2.2.2) [a0.2.1]).bind fun x57 => (iter (fun (s : (List Int) × (Int)) => (match s with | (xs80, x82) => (if (decide (x82 < (a1.length : Int))) = true then (idx a1 x82).bind fun x112 => (impl_Lts_visible_m fuel (a0.1, a0.2.1, a0.2.2.1, a0.2.2.2) xs80 x112).bind fun x119 => some (.inl (x119, (W (x82 + (1 : Int))))) else some (.inr (.inl (xs80)))) : Option (((List Int) × (Int)) ⊕ (((List Int)) ⊕ ((List Int)))))) fuel (x57, (0 : Int))).bind fun res103 => ctl (β := (List Int)) (ρ := (List Int)) (τ := (List Int)) res103 (fun (xs101) => some (xs101)) (fun q => some (q))
set_option maxRecDepth 20000 in
theorem impl_Lts_after_ok {w0 : World} {fuel : Nat} {p0 p1 : Value} {a0 : Timpl_Lts} {a1 : (List Str)} {r : (List Int)} (h0 : Rd Rimpl_Lts w0 p0 a0) (h1 : Rd (rList rStr) w0 p1 a1) (hm : impl_Lts_after_m fuel a0 a1 = some r) :
  Calls Tryz.prog 31 #[p0, p1] w0 fun e w => ∃ (v0 : Value), e = .returned (v0) ∧ Heap w0 [oA (rList (rInt .i64)) v0 r] w := by
 unfold impl_Lts_after_m at hm
 have H := Heap.start w0
 obtain ⟨c31, rfl, h32⟩ := h0
 obtain ⟨c37, c38, rfl, h39, h40⟩ := h32
 obtain rfl := h39
 obtain ⟨c41, c42, rfl, h43, h44⟩ := h40
 obtain rfl := h43
 obtain ⟨c45, c46, rfl, h47, h48⟩ := h44
 obtain ⟨v33, rfl, h34⟩ := rd_list h47
 obtain ⟨v35, rfl, h36⟩ := rd_list h48
 refine enter (args := [(.agg #[(.int .i64 a0.1), (.int .i64 a0.2.1), v33, v35]), p1]) Tryz.func31 rfl 25 rfl (Nat.le_of_ble_eq_true rfl) (fun a S => ?_)
 refine wp_seq (region_plain ?_)
 refine lx_box S trivial (by decide) rfl H rfl rfl (fun b49 w50 H => ⟨trivial, fun a S => ?_⟩)
 refine lq (.slice none 0 0) S (q_assign rfl) fun a S => ?_
 refine lx_nil (thenN ?_)
 refine wp_seq (region_plain ?_)
 refine lx_e (.agg #[(.int .i64 a0.1), (.int .i64 a0.2.1), v33, v35]) S trivial (by decide) rfl trivial (q_loadA (cs := [(.int .i64 a0.1), (.int .i64 a0.2.1), v33, v35]) rfl (isP_bp _) Tryz.isAgg33 Tryz.sizeOf33 (by rintro _ rfl; exact (fun j u hu => boxAt (i := 0) H rfl hu))) (fun a S => ?_)
 refine lq (pAdd (bp b49) 1) S (q_fieldAddr' 1 2 rfl (isP_bp _) Tryz.underlying33 rfl Tryz.sizeOf2) fun a S => ?_
 refine lx_e (.int .i64 a0.2.1) S trivial (by decide) rfl trivial (q_load1 rfl Tryz.isAgg2 (by rintro _ rfl; exact (At.of_add (m := 1) (j := 0) (boxAt (i := 0) H rfl (j := 1) rfl)))) (fun a S => ?_)
 refine lx_buildSlice (r := (rInt .i64)) (xs := [a0.2.1]) (ps := [(0, [(.int .i64 a0.2.1)])]) (cs := [(.int .i64 a0.2.1)]) (parts := [(0, .tmp 10)]) S trivial (by decide) rfl (H.put0 (A := eA) rfl) rfl Tryz.underlying28 Tryz.sizeOf2 Tryz.zeroValue2 (by decide) ⟨rfl, rfl, Nat.le_of_ble_eq_true rfl, trivial⟩ (by intro zs hz; exact fill_dense hz ⟨rfl, trivial⟩ rfl rfl) rfl (by decide) (fun w F hA => by cases (show F = [] from hA); exact ⟨_, _, [(.int .i64 a0.2.1)], _, rfl, rfl, ⟨rfl, rfl⟩, ⟨rfl, rfl⟩⟩) (fun v52 w53 H => ⟨trivial, fun a S => ?_⟩)
 obtain ⟨x57, e58, hm⟩ := bind_some hm
 refine lx_call (xs := [.tmp 8, .tmp 11]) S trivial (by decide) rfl rfl Tryz.call58 ((impl_Lts_internal_ok ⟨[(.int .i64 a0.1), (.int .i64 a0.2.1), v33, v35], rfl, ⟨[(.int .i64 a0.1)], [(.int .i64 a0.2.1), v33, v35], rfl, rfl, ⟨[(.int .i64 a0.2.1)], [v33, v35], rfl, rfl, ⟨[v33], [v35], rfl, ((H.arg h34)).list_rd, ((H.arg h36)).list_rd⟩⟩⟩⟩ (H.rdAt 0 rfl) e58).mono ?_)
 rintro e w55 ⟨v59, rfl, Hc56⟩
 have H := H.call1 Hc56
 refine ⟨_, rfl, trivial, fun a S => ?_⟩
 refine lq v59 S (q_assign rfl) fun a S => ?_
 refine lx_nil (thenN ?_)
 refine wp_seq (wp_seq (region_plain ?_))
 refine lq p1 S (q_move rfl) fun a S => ?_
 refine lq (.int .i64 (a1.length : Int)) S (q_lenSl rfl (h1).isSl rfl Tryz.underlying22) fun a S => ?_
 refine lq (.int .i64 (0 : Int)) S (q_move rfl) fun a S => ?_
 refine lx_nil (thenN ?_)
 obtain ⟨res103, hit104, hk107⟩ := bind_some hm
 obtain ⟨f105, hf106, hit104⟩ := iter_name hit104
 refine block_loop (fun a w => ∃ (xs101 : List Int) (v100 : Value), Slots a 25 [(5, v100)] ∧ Heap w0 [oA (rList (rInt .i64)) v100 xs101] w ∧ res103 = .inl (xs101)) ?_ ?_
 ·rintro a w ⟨xs101, v100, S, H, rfl⟩
  have hm := ctl_inl hk107
  refine thenN ?_
  refine wp_seq (region_plain ?_)
  refine lq v100 S (q_move rfl) fun a S => ?_
  refine lq v100 S (q_assign rfl) fun a S => ?_
  refine lx_nil (thenN ?_)
  refine wp_ret ?_
  obtain rfl := Option.some.inj hm
  exact leave1 S rfl rfl ⟨v100, rfl, H⟩
 ·skip
  have H : Heap w0 [bA b49 [(.int .i64 a0.1), (.int .i64 a0.2.1), v33, v35] 33, oA (rList (rInt .i64)) v59 x57, oA (rList (rInt .i64)) v52 [a0.2.1]] w55 := H.front 2 rfl
  have H : Heap w0 [bA b49 [(.int .i64 a0.1), (.int .i64 a0.2.1), v33, v35] 33, oA (rList (rInt .i64)) v59 x57] w55 := H.sel [0, 1] (by decide)
  refine loop_ghost (fun n a w => ∃ (xs80 : List Int) (x82 : Int) (v79 : Value), Slots a 25 [(2, (bp b49)), (5, v79), (13, p1), (14, (.int .i64 (a1.length : Int))), (15, (.int .i64 x82))] ∧ Heap w0 [bA b49 [(.int .i64 a0.1), (.int .i64 a0.2.1), v33, v35] 33, oA (rList (rInt .i64)) v79 xs80] w ∧ iter f105 n (xs80, x82) = some res103) _ ⟨x57, (0 : Int), v59, S.sub ⟨rfl, rfl, rfl, rfl, rfl, trivial⟩, H, hit104⟩ ?_
  rintro n a w ⟨xs80, x82, v79, S, H, hit104⟩
  obtain ⟨m108, o109, rfl, hm, hc110⟩ := iter_step hit104
  rw [hf106] at hm
  refine wp_seq (region_plain ?_)
  refine lq (.bool (decide (x82 < (a1.length : Int)))) S (q_lss rfl rfl) fun a S => ?_
  refine lx_nil (thenN ?_)
  refine wp_seq ?_
  refine cond_b S rfl (fun hc111 => ?_) (fun hc111 => ?_)
  ·have hm := ite_t hc111 hm
   refine wp_skip (thenN ?_)
   refine wp_seq ?_
   refine wp_block ?_
   refine wp_seq (region_plain ?_)
   obtain ⟨x112, e113, hm⟩ := bind_some hm
   obtain ⟨c114, h115, hat116⟩ := (h1).elem (idx_some e113).2
   obtain rfl := h115
   have hlt := lt_of_idx (idx_some e113).2
   refine lq (ePtr p1 (x82.toNat * 1)) S (q_indexAddr rfl (h1).isSl rfl (idx_some e113).1 hlt Tryz.underlying22 Tryz.sizeOf9) fun a S => ?_
   refine lx_e (sv x112) S trivial (by decide) rfl trivial (q_load1 rfl Tryz.isAgg9 (by rintro _ rfl; exact ((hat116 0 _ rfl).ext H.ext))) (fun a S => ?_)
   refine lq (sv x112) S (q_assign rfl) fun a S => ?_
   refine lx_nil (thenN ?_)
   refine region_plain ?_
   refine lx_e (.agg #[(.int .i64 a0.1), (.int .i64 a0.2.1), v33, v35]) S trivial (by decide) rfl trivial (q_loadA (cs := [(.int .i64 a0.1), (.int .i64 a0.2.1), v33, v35]) rfl (isP_bp _) Tryz.isAgg33 Tryz.sizeOf33 (by rintro _ rfl; exact (fun j u hu => boxAt (i := 0) H rfl hu))) (fun a S => ?_)
   refine lq v79 S (q_move rfl) fun a S => ?_
   refine lq (sv x112) S (q_move rfl) fun a S => ?_
   obtain ⟨x119, e120, hm⟩ := bind_some hm
   refine lx_call (xs := [.tmp 19, .tmp 20, .tmp 21]) S trivial (by decide) rfl rfl Tryz.call59 ((impl_Lts_visible_ok ⟨[(.int .i64 a0.1), (.int .i64 a0.2.1), v33, v35], rfl, ⟨[(.int .i64 a0.1)], [(.int .i64 a0.2.1), v33, v35], rfl, rfl, ⟨[(.int .i64 a0.2.1)], [v33, v35], rfl, rfl, ⟨[v33], [v35], rfl, ((H.arg h34)).list_rd, ((H.arg h36)).list_rd⟩⟩⟩⟩ (H.rdAt 1 rfl)  e120).mono ?_)
   rintro e w117 ⟨v121, rfl, Hc118⟩
   have H := H.call1 Hc118
   refine ⟨_, rfl, trivial, fun a S => ?_⟩
   refine lq v121 S (q_assign rfl) fun a S => ?_
   refine lx_nil ?_
   refine inBlock_norm ?_
   refine thenN ?_
   refine region_plain ?_
   refine lq (.int .i64 (W (x82 + (1 : Int)))) S (q_add rfl rfl) fun a S => ?_
   refine lq (.int .i64 (W (x82 + (1 : Int)))) S (q_move rfl) fun a S => ?_
   refine lx_nil ?_
   have H : Heap w0 [bA b49 [(.int .i64 a0.1), (.int .i64 a0.2.1), v33, v35] 33, oA (rList (rInt .i64)) v121 x119, oA (rList (rInt .i64)) v79 xs80] w117 := H.front 1 rfl
   have H : Heap w0 [bA b49 [(.int .i64 a0.1), (.int .i64 a0.2.1), v33, v35] 33, oA (rList (rInt .i64)) v121 x119] w117 := H.sel [0, 1] (by decide)
   exact ⟨m108, Nat.lt_succ_self _, x119, (W (x82 + (1 : Int))), v121, S.sub ⟨rfl, rfl, rfl, rfl, rfl, trivial⟩, H, it_cont hm hc110⟩
  ·have hm := ite_f hc111 hm
   refine wp_exit ?_
   refine then_exit ?_
   refine then_exit ?_
   refine inBlock_exit ?_
   obtain rfl := it_brk hm hc110
   have H : Heap w0 [oA (rList (rInt .i64)) v79 xs80] w := H.sel [1] (by decide)
   exact ⟨xs80, v79, S.sub ⟨rfl, trivial⟩, H, rfl⟩

/-- impl.AfterTrace -/
def impl_AfterTrace_m (fuel : Nat) (a0 : Timpl_Lts) (a1 : (List Str)) : Option (((List Int) × Int)) :=
  (impl_ValidLts_m fuel (a0.1, a0.2.1, a0.2.2.1, a0.2.2.2)).bind fun x54 => (if (!x54) = true then some (([], (1 : Int))) else (impl_areVisible_m fuel a1).bind fun x61 => (if (!x61) = true then some (([], (2 : Int))) else (impl_Lts_after_m fuel (a0.1, a0.2.1, a0.2.2.1, a0.2.2.2) a1).bind fun x68 => (if ((x68.length : Int) == (0 : Int)) = true then some (([], (3 : Int))) else some ((x68, (0 : Int))))))
set_option maxRecDepth 20000 in
theorem impl_AfterTrace_ok {w0 : World} {fuel : Nat} {p0 p1 : Value} {a0 : Timpl_Lts} {a1 : (List Str)} {r : ((List Int) × Int)} (hG : Glob Tryz.prog w0) (h0 : Rd Rimpl_Lts w0 p0 a0) (h1 : Rd (rList rStr) w0 p1 a1) (hm : impl_AfterTrace_m fuel a0 a1 = some r) :
  Calls Tryz.prog 11 #[p0, p1] w0 fun e w => ∃ (v0 : Value), e = .returned (.tuple #[v0, .int .i64 r.2]) ∧ Heap w0 [oA (rList (rInt .i64)) v0 r.1] w := by
 unfold impl_AfterTrace_m at hm
 have H := Heap.start w0
 obtain ⟨c31, rfl, h32⟩ := h0
 obtain ⟨c37, c38, rfl, h39, h40⟩ := h32
 obtain rfl := h39
 obtain ⟨c41, c42, rfl, h43, h44⟩ := h40
 obtain rfl := h43
 obtain ⟨c45, c46, rfl, h47, h48⟩ := h44
 obtain ⟨v33, rfl, h34⟩ := rd_list h47
 obtain ⟨v35, rfl, h36⟩ := rd_list h48
 refine enter (args := [(.agg #[(.int .i64 a0.1), (.int .i64 a0.2.1), v33, v35]), p1]) Tryz.func11 rfl 22 rfl (Nat.le_of_ble_eq_true rfl) (fun a S => ?_)
 refine wp_seq (region_plain ?_)
 refine lx_box S trivial (by decide) rfl H rfl rfl (fun b49 w50 H => ⟨trivial, fun a S => ?_⟩)
 refine lq (.slice none 0 0) S (q_assign rfl) fun a S => ?_
 refine lq (.int .i64 (0 : Int)) S (q_assign rfl) fun a S => ?_
 refine lx_nil (thenN ?_)
 refine wp_seq ?_
 refine wp_block ?_
 refine wp_seq (region_plain ?_)
 refine lx_e (.agg #[(.int .i64 a0.1), (.int .i64 a0.2.1), v33, v35]) S trivial (by decide) rfl trivial (q_loadA (cs := [(.int .i64 a0.1), (.int .i64 a0.2.1), v33, v35]) rfl (isP_bp _) Tryz.isAgg33 Tryz.sizeOf33 (by rintro _ rfl; exact (fun j u hu => boxAt (i := 0) H rfl hu))) (fun a S => ?_)
 obtain ⟨x54, e55, hm⟩ := bind_some hm
 refine lx_call (xs := [.tmp 8]) S trivial (by decide) rfl rfl Tryz.call29 ((impl_ValidLts_ok (hG.ext H.ext) ⟨[(.int .i64 a0.1), (.int .i64 a0.2.1), v33, v35], rfl, ⟨[(.int .i64 a0.1)], [(.int .i64 a0.2.1), v33, v35], rfl, rfl, ⟨[(.int .i64 a0.2.1)], [v33, v35], rfl, rfl, ⟨[v33], [v35], rfl, ((H.arg h34)).list_rd, ((H.arg h36)).list_rd⟩⟩⟩⟩ e55).mono ?_)
 rintro e w52 ⟨rfl, Hc53⟩
 have H := H.call0 Hc53
 refine ⟨_, rfl, trivial, fun a S => ?_⟩
 refine lq (.bool (!x54)) S (q_not rfl) fun a S => ?_
 refine lq (.bool (!x54)) S (q_assign rfl) fun a S => ?_
 refine lx_nil (thenN ?_)
 refine cond_b S rfl (fun hc57 => ?_) (fun hc57 => ?_)
 ·have hm := ite_t hc57 hm
  refine wp_seq (region_plain ?_)
  refine lq (.slice none 0 0) S (q_assign rfl) fun a S => ?_
  refine lq (.int .i64 (1 : Int)) S (q_assign rfl) fun a S => ?_
  refine lx_nil (thenN ?_)
  refine wp_ret (inBlock_ret ?_)
  refine then_ret ?_
  obtain rfl := Option.some.inj hm
  have H : Heap w0 [oA (rList (rInt .i64)) (.slice none 0 0) ([] : List Int), bA b49 [(.int .i64 a0.1), (.int .i64 a0.2.1), v33, v35] 33] w52 := H.nilList (rInt .i64)
  have H : Heap w0 [oA (rList (rInt .i64)) (.slice none 0 0) ([] : List Int)] w52 := H.sel [0] (by decide)
  exact leave2 S rfl rfl rfl ⟨(.slice none 0 0), rfl, H⟩
 ·have hm := ite_f hc57 hm
  refine wp_seq (region_plain ?_)
  refine lq p1 S (q_move rfl) fun a S => ?_
  obtain ⟨x61, e62, hm⟩ := bind_some hm
  refine lx_call (xs := [.tmp 12]) S trivial (by decide) rfl rfl Tryz.call30 ((impl_areVisible_ok (hG.ext H.ext) (H.arg h1) e62).mono ?_)
  rintro e w59 ⟨rfl, Hc60⟩
  have H := H.call0 Hc60
  refine ⟨_, rfl, trivial, fun a S => ?_⟩
  refine lq (.bool (!x61)) S (q_not rfl) fun a S => ?_
  refine lq (.bool (!x61)) S (q_assign rfl) fun a S => ?_
  refine lx_nil (thenN ?_)
  refine cond_b S rfl (fun hc64 => ?_) (fun hc64 => ?_)
  ·have hm := ite_t hc64 hm
   refine wp_seq (region_plain ?_)
   refine lq (.slice none 0 0) S (q_assign rfl) fun a S => ?_
   refine lq (.int .i64 (2 : Int)) S (q_assign rfl) fun a S => ?_
   refine lx_nil (thenN ?_)
   refine wp_ret (inBlock_ret ?_)
   refine then_ret ?_
   obtain rfl := Option.some.inj hm
   have H : Heap w0 [oA (rList (rInt .i64)) (.slice none 0 0) ([] : List Int), bA b49 [(.int .i64 a0.1), (.int .i64 a0.2.1), v33, v35] 33] w59 := H.nilList (rInt .i64)
   have H : Heap w0 [oA (rList (rInt .i64)) (.slice none 0 0) ([] : List Int)] w59 := H.sel [0] (by decide)
   exact leave2 S rfl rfl rfl ⟨(.slice none 0 0), rfl, H⟩
  ·have hm := ite_f hc64 hm
   refine wp_skip ?_
   refine inBlock_norm ?_
   refine thenN ?_
   refine wp_seq (region_plain ?_)
   refine lx_e (.agg #[(.int .i64 a0.1), (.int .i64 a0.2.1), v33, v35]) S trivial (by decide) rfl trivial (q_loadA (cs := [(.int .i64 a0.1), (.int .i64 a0.2.1), v33, v35]) rfl (isP_bp _) Tryz.isAgg33 Tryz.sizeOf33 (by rintro _ rfl; exact (fun j u hu => boxAt (i := 0) H rfl hu))) (fun a S => ?_)
   refine lq p1 S (q_move rfl) fun a S => ?_
   obtain ⟨x68, e69, hm⟩ := bind_some hm
   refine lx_call (xs := [.tmp 15, .tmp 16]) S trivial (by decide) rfl rfl Tryz.call31 ((impl_Lts_after_ok ⟨[(.int .i64 a0.1), (.int .i64 a0.2.1), v33, v35], rfl, ⟨[(.int .i64 a0.1)], [(.int .i64 a0.2.1), v33, v35], rfl, rfl, ⟨[(.int .i64 a0.2.1)], [v33, v35], rfl, rfl, ⟨[v33], [v35], rfl, ((H.arg h34)).list_rd, ((H.arg h36)).list_rd⟩⟩⟩⟩ (H.arg h1) e69).mono ?_)
   rintro e w66 ⟨v70, rfl, Hc67⟩
   have H := H.call1 Hc67
   refine ⟨_, rfl, trivial, fun a S => ?_⟩
   refine lq v70 S (q_assign rfl) fun a S => ?_
   refine lx_nil (thenN ?_)
   refine wp_seq (wp_seq (region_plain ?_))
   refine lq v70 S (q_move rfl) fun a S => ?_
   refine lq (.int .i64 (x68.length : Int)) S (q_lenSl rfl (H.isSl 0 rfl) rfl Tryz.underlying28) fun a S => ?_
   refine lq (.bool ((x68.length : Int) == (0 : Int))) S (q_eql rfl rfl) fun a S => ?_
   refine lx_nil (thenN ?_)
   refine cond_b S rfl (fun hc73 => ?_) (fun hc73 => ?_)
   ·have hm := ite_t hc73 hm
    refine wp_seq (region_plain ?_)
    refine lq (.slice none 0 0) S (q_assign rfl) fun a S => ?_
    refine lq (.int .i64 (3 : Int)) S (q_assign rfl) fun a S => ?_
    refine lx_nil (thenN ?_)
    refine wp_ret (then_ret ?_)
    obtain rfl := Option.some.inj hm
    have H : Heap w0 [oA (rList (rInt .i64)) (.slice none 0 0) ([] : List Int), oA (rList (rInt .i64)) v70 x68, bA b49 [(.int .i64 a0.1), (.int .i64 a0.2.1), v33, v35] 33] w66 := H.nilList (rInt .i64)
    have H : Heap w0 [oA (rList (rInt .i64)) (.slice none 0 0) ([] : List Int)] w66 := H.sel [0] (by decide)
    exact leave2 S rfl rfl rfl ⟨(.slice none 0 0), rfl, H⟩
   ·have hm := ite_f hc73 hm
    refine wp_skip (thenN ?_)
    refine wp_seq (region_plain ?_)
    refine lq v70 S (q_move rfl) fun a S => ?_
    refine lq v70 S (q_assign rfl) fun a S => ?_
    refine lq (.int .i64 (0 : Int)) S (q_assign rfl) fun a S => ?_
    refine lx_nil (thenN ?_)
    refine wp_ret ?_
    obtain rfl := Option.some.inj hm
    have H : Heap w0 [oA (rList (rInt .i64)) v70 x68] w66 := H.sel [0] (by decide)
    exact leave2 S rfl rfl rfl ⟨v70, rfl, H⟩

/-- laws.FnExactAfterTrace -/
def laws_FnExactAfterTrace_m (fuel : Nat) (a0 : Tlaws_Lts) (a1 : (List Str)) : Option (Bool) :=
  (laws_szLts_m fuel (a0.1, a0.2.1, a0.2.2.1, a0.2.2.2) (1048576 : Int)).bind fun x54 => (if (decide (x54 < (0 : Int))) = true then some (true) else (laws_szStringS_m fuel a1 x54).bind fun x60 => (if (decide (x60 < (0 : Int))) = true then some (true) else (laws_toLts_m fuel (a0.1, a0.2.1, a0.2.2.1, a0.2.2.2)).bind fun x66 => (laws_toStringS_m fuel a1).bind fun x75 => (spec_AfterTrace_m fuel (x66.1, x66.2.1, x66.2.2.1, x66.2.2.2) x75).bind fun x82 => (laws_toLts_m fuel (a0.1, a0.2.1, a0.2.2.1, a0.2.2.2)).bind fun x89 => (laws_toStringS_m fuel a1).bind fun x102 => (impl_AfterTrace_m fuel (x89.1, x89.2.1, x89.2.2.1, x89.2.2.2) x102).bind fun x109 => (laws_eqInt64S_m fuel x109.1 x82.1).bind fun x116 => (if (!x116) = true then some true else some (x109.2 != x82.2)).bind fun t119 => (if t119 = true then some (false) else (laws_toLts_m fuel (a0.1, a0.2.1, a0.2.2.1, a0.2.2.2)).bind fun x127 => (laws_eqLts_m fuel (x89.1, x89.2.1, x89.2.2.1, x89.2.2.2) (x127.1, x127.2.1, x127.2.2.1, x127.2.2.2)).bind fun x136 => (if (!x136) = true then some (false) else (laws_toStringS_m fuel a1).bind fun x142 => (laws_eqStringS_m fuel x102 x142).bind fun x149 => (if (!x149) = true then some (false) else (laws_markLts_m fuel (x89.1, x89.2.1, x89.2.2.1, x89.2.2.2) (1 : Int)).bind fun x155 => (laws_markStringS_m fuel x102 x155.1).bind fun x159 => (if (decide (x159.1 < (0 : Int))) = true then some true else (laws_eqInt64S_m fuel x109.1 x82.1).bind fun x166 => some (!x166)).bind fun t161 => (if t161 = true then some true else some (x109.2 != x82.2)).bind fun t169 => (if t169 = true then some (false) else (laws_markInt64S_m fuel x109.1 (1 : Int)).bind fun x175 => (laws_heldInt64S_m fuel x175.2 (1 : Int)).bind fun x179 => (if (decide (x179 < (0 : Int))) = true then some (false) else (if (x179 != x175.1) = true then some (false) else (laws_toLts_m fuel (a0.1, a0.2.1, a0.2.2.1, a0.2.2.2)).bind fun x186 => (laws_toStringS_m fuel a1).bind fun x195 => (impl_AfterTrace_m fuel (x186.1, x186.2.1, x186.2.2.1, x186.2.2.2) x195).bind fun x202 => (laws_eqInt64S_m fuel x202.1 x82.1).bind fun x209 => (if (!x209) = true then some true else some (x202.2 != x82.2)).bind fun t212 => (if t212 = true then some (false) else (laws_heldInt64S_m fuel x175.2 (1 : Int)).bind fun x218 => (if (decide (x218 < (0 : Int))) = true then some (false) else (if (x218 != x175.1) = true then some (false) else some (true))))))))))))
set_option maxRecDepth 20000 in
theorem laws_FnExactAfterTrace_ok {w0 : World} {fuel : Nat} {p0 p1 : Value} {a0 : Tlaws_Lts} {a1 : (List Str)} {r : Bool} (hG : Glob Tryz.prog w0) (h0 : Rd Rlaws_Lts w0 p0 a0) (h1 : Rd (rList rStr) w0 p1 a1) (hm : laws_FnExactAfterTrace_m fuel a0 a1 = some r) :
  Calls Tryz.prog 3 #[p0, p1] w0 fun e w => e = .returned (.bool r) ∧ Heap w0 [] w := by
 unfold laws_FnExactAfterTrace_m at hm
 have H := Heap.start w0
 obtain ⟨c31, rfl, h32⟩ := h0
 obtain ⟨c37, c38, rfl, h39, h40⟩ := h32
 obtain rfl := h39
 obtain ⟨c41, c42, rfl, h43, h44⟩ := h40
 obtain rfl := h43
 obtain ⟨c45, c46, rfl, h47, h48⟩ := h44
 obtain ⟨v33, rfl, h34⟩ := rd_list h47
 obtain ⟨v35, rfl, h36⟩ := rd_list h48
 refine enter (args := [(.agg #[(.int .i64 a0.1), (.int .i64 a0.2.1), v33, v35]), p1]) Tryz.func3 rfl 119 rfl (Nat.le_of_ble_eq_true rfl) (fun a S => ?_)
 refine wp_seq (region_plain ?_)
 refine lx_box S trivial (by decide) rfl H rfl rfl (fun b49 w50 H => ⟨trivial, fun a S => ?_⟩)
 refine lq (.bool false) S (q_assign rfl) fun a S => ?_
 refine lx_nil (thenN ?_)
 refine wp_seq (region_plain ?_)
 refine lq (.int .i64 (1048576 : Int)) S (q_assign rfl) fun a S => ?_
 refine lx_nil (thenN ?_)
 refine wp_seq (region_plain ?_)
 refine lx_e (.agg #[(.int .i64 a0.1), (.int .i64 a0.2.1), v33, v35]) S trivial (by decide) rfl trivial (q_loadA (cs := [(.int .i64 a0.1), (.int .i64 a0.2.1), v33, v35]) rfl (isP_bp _) Tryz.isAgg25 Tryz.sizeOf25 (by rintro _ rfl; exact (fun j u hu => boxAt (i := 0) H rfl hu))) (fun a S => ?_)
 refine lq (.int .i64 (1048576 : Int)) S (q_move rfl) fun a S => ?_
 obtain ⟨x54, e55, hm⟩ := bind_some hm
 refine lx_call (xs := [.tmp 17, .tmp 18]) S trivial (by decide) rfl rfl Tryz.call6 ((laws_szLts_ok ⟨[(.int .i64 a0.1), (.int .i64 a0.2.1), v33, v35], rfl, ⟨[(.int .i64 a0.1)], [(.int .i64 a0.2.1), v33, v35], rfl, rfl, ⟨[(.int .i64 a0.2.1)], [v33, v35], rfl, rfl, ⟨[v33], [v35], rfl, ((H.arg h34)).list_rd, ((H.arg h36)).list_rd⟩⟩⟩⟩  e55).mono ?_)
 rintro e w52 ⟨rfl, Hc53⟩
 have H := H.call0 Hc53
 refine ⟨_, rfl, trivial, fun a S => ?_⟩
 refine lq (.int .i64 x54) S (q_assign rfl) fun a S => ?_
 refine lx_nil (thenN ?_)
 refine wp_seq (wp_seq (region_plain ?_))
 refine lq (.int .i64 x54) S (q_move rfl) fun a S => ?_
 refine lq (.bool (decide (x54 < (0 : Int)))) S (q_lss rfl rfl) fun a S => ?_
 refine lx_nil (thenN ?_)
 refine cond_b S rfl (fun hc57 => ?_) (fun hc57 => ?_)
 ·have hm := ite_t hc57 hm
  refine wp_seq (region_plain ?_)
  refine lq (.bool true) S (q_assign rfl) fun a S => ?_
  refine lx_nil (thenN ?_)
  refine wp_ret (then_ret ?_)
  obtain rfl := Option.some.inj hm
  have H : Heap w0 [] w52 := H.sel [] (by decide)
  exact leave1 S rfl rfl ⟨rfl, H⟩
 ·have hm := ite_f hc57 hm
  refine wp_skip (thenN ?_)
  refine wp_seq (region_plain ?_)
  refine lq p1 S (q_move rfl) fun a S => ?_
  refine lq (.int .i64 x54) S (q_move rfl) fun a S => ?_
  obtain ⟨x60, e61, hm⟩ := bind_some hm
  refine lx_call (xs := [.tmp 22, .tmp 23]) S trivial (by decide) rfl rfl Tryz.call7 ((laws_szStringS_ok (H.arg h1)  e61).mono ?_)
  rintro e w58 ⟨rfl, Hc59⟩
  have H := H.call0 Hc59
  refine ⟨_, rfl, trivial, fun a S => ?_⟩
  refine lq (.int .i64 x60) S (q_assign rfl) fun a S => ?_
  refine lx_nil (thenN ?_)
  refine wp_seq (wp_seq (region_plain ?_))
  refine lq (.int .i64 x60) S (q_move rfl) fun a S => ?_
  refine lq (.bool (decide (x60 < (0 : Int)))) S (q_lss rfl rfl) fun a S => ?_
  refine lx_nil (thenN ?_)
  refine cond_b S rfl (fun hc63 => ?_) (fun hc63 => ?_)
  ·have hm := ite_t hc63 hm
   refine wp_seq (region_plain ?_)
   refine lq (.bool true) S (q_assign rfl) fun a S => ?_
   refine lx_nil (thenN ?_)
   refine wp_ret (then_ret ?_)
   obtain rfl := Option.some.inj hm
   have H : Heap w0 [] w58 := H.sel [] (by decide)
   exact leave1 S rfl rfl ⟨rfl, H⟩
  ·have hm := ite_f hc63 hm
   refine wp_skip (thenN ?_)
   refine wp_seq (region_plain ?_)
   refine lx_e (.agg #[(.int .i64 a0.1), (.int .i64 a0.2.1), v33, v35]) S trivial (by decide) rfl trivial (q_loadA (cs := [(.int .i64 a0.1), (.int .i64 a0.2.1), v33, v35]) rfl (isP_bp _) Tryz.isAgg25 Tryz.sizeOf25 (by rintro _ rfl; exact (fun j u hu => boxAt (i := 0) H rfl hu))) (fun a S => ?_)
   obtain ⟨x66, e67, hm⟩ := bind_some hm
   refine lx_call (xs := [.tmp 28]) S trivial (by decide) rfl rfl Tryz.call9 ((laws_toLts_ok ⟨[(.int .i64 a0.1), (.int .i64 a0.2.1), v33, v35], rfl, ⟨[(.int .i64 a0.1)], [(.int .i64 a0.2.1), v33, v35], rfl, rfl, ⟨[(.int .i64 a0.2.1)], [v33, v35], rfl, rfl, ⟨[v33], [v35], rfl, ((H.arg h34)).list_rd, ((H.arg h36)).list_rd⟩⟩⟩⟩ e67).mono ?_)
   rintro e w64 ⟨v68, v69, rfl, Hc65⟩
   have H := H.call2 Hc65
   refine ⟨_, rfl, trivial, fun a S => ?_⟩
   refine lq p1 S (q_move rfl) fun a S => ?_
   obtain ⟨x75, e76, hm⟩ := bind_some hm
   refine lx_call (xs := [.tmp 30]) S trivial (by decide) rfl rfl Tryz.call10 ((laws_toStringS_ok (H.arg h1) e76).mono ?_)
   rintro e w73 ⟨v77, rfl, Hc74⟩
   have H := H.call1 Hc74
   refine ⟨_, rfl, trivial, fun a S => ?_⟩
   obtain ⟨x82, e83, hm⟩ := bind_some hm
   refine lx_call (xs := [.tmp 29, .tmp 31]) S trivial (by decide) rfl rfl Tryz.call8 ((spec_AfterTrace_ok ⟨[(.int .i64 x66.1), (.int .i64 x66.2.1), v68, v69], rfl, ⟨[(.int .i64 x66.1)], [(.int .i64 x66.2.1), v68, v69], rfl, rfl, ⟨[(.int .i64 x66.2.1)], [v68, v69], rfl, rfl, ⟨[v68], [v69], rfl, ((H.rdAt 1 rfl)).list_rd, ((H.rdAt 2 rfl)).list_rd⟩⟩⟩⟩ (H.rdAt 0 rfl) e83).mono ?_)
   rintro e w80 ⟨v84, rfl, Hc81⟩
   have H := H.call1 Hc81
   refine ⟨_, rfl, trivial, fun a S => ?_⟩
   refine lq (.tuple #[v84, (.int .i64 x82.2)]) S (q_move rfl) fun a S => ?_
   refine lq v84 S (q_extract rfl rfl) fun a S => ?_
   refine lq (.int .i64 x82.2) S (q_extract rfl rfl) fun a S => ?_
   refine lq v84 S (q_assign rfl) fun a S => ?_
   refine lq (.int .i64 x82.2) S (q_assign rfl) fun a S => ?_
   refine lx_nil (thenN ?_)
   refine wp_seq (region_plain ?_)
   refine lx_e (.agg #[(.int .i64 a0.1), (.int .i64 a0.2.1), v33, v35]) S trivial (by decide) rfl trivial (q_loadA (cs := [(.int .i64 a0.1), (.int .i64 a0.2.1), v33, v35]) rfl (isP_bp _) Tryz.isAgg25 Tryz.sizeOf25 (by rintro _ rfl; exact (fun j u hu => boxAt (i := 4) H rfl hu))) (fun a S => ?_)
   obtain ⟨x89, e90, hm⟩ := bind_some hm
   refine lx_call (xs := [.tmp 35]) S trivial (by decide) rfl rfl Tryz.call9 ((laws_toLts_ok ⟨[(.int .i64 a0.1), (.int .i64 a0.2.1), v33, v35], rfl, ⟨[(.int .i64 a0.1)], [(.int .i64 a0.2.1), v33, v35], rfl, rfl, ⟨[(.int .i64 a0.2.1)], [v33, v35], rfl, rfl, ⟨[v33], [v35], rfl, ((H.arg h34)).list_rd, ((H.arg h36)).list_rd⟩⟩⟩⟩ e90).mono ?_)
   rintro e w87 ⟨v91, v92, rfl, Hc88⟩
   have H := H.call2 Hc88
   refine ⟨_, rfl, trivial, fun a S => ?_⟩
   refine lx_alloc S trivial (by decide) rfl H Tryz.zeroValue33 rfl (fun b96 w97 H => ⟨trivial, fun a S => ?_⟩)
   refine lx_storeBox (o := 0) (i := 0) (us := [(.int .i64 x89.1), (.int .i64 x89.2.1), v91, v92]) (cs' := [(.int .i64 x89.1), (.int .i64 x89.2.1), v91, v92]) S trivial rfl H rfl rfl rfl rfl Tryz.sizeOf33 (Nat.le_of_ble_eq_true rfl) (List.forall_mem_cons.2 ⟨rfl, (List.forall_mem_cons.2 ⟨rfl, (List.forall_mem_cons.2 ⟨one_sl (H.isSl 1 rfl), (List.forall_mem_cons.2 ⟨one_sl (H.isSl 2 rfl), (fun _ h => nomatch h)⟩)⟩)⟩)⟩) rfl (fun w99 H => ⟨trivial, fun a S => ?_⟩)
   change Heap w0 [bA b96 [(.int .i64 x89.1), (.int .i64 x89.2.1), v91, v92] 33, oA (rList rStr) v91 x89.2.2.1, oA (rList Rimpl_Edge) v92 x89.2.2.2, oA (rList (rInt .i64)) v84 x82.1, oA (rList rStr) v77 x75, oA (rList rStr) v68 x66.2.2.1, oA (rList Rimpl_Edge) v69 x66.2.2.2, bA b49 [(.int .i64 a0.1), (.int .i64 a0.2.1), v33, v35] 25] w99 at H
   refine lx_nil (thenN ?_)
   refine wp_seq (region_plain ?_)
   refine lq p1 S (q_move rfl) fun a S => ?_
   obtain ⟨x102, e103, hm⟩ := bind_some hm
   refine lx_call (xs := [.tmp 37]) S trivial (by decide) rfl rfl Tryz.call10 ((laws_toStringS_ok (H.arg h1) e103).mono ?_)
   rintro e w100 ⟨v104, rfl, Hc101⟩
   have H := H.call1 Hc101
   refine ⟨_, rfl, trivial, fun a S => ?_⟩
   refine lq v104 S (q_assign rfl) fun a S => ?_
   refine lx_nil (thenN ?_)
   refine wp_seq (region_plain ?_)
   refine lx_e (.agg #[(.int .i64 x89.1), (.int .i64 x89.2.1), v91, v92]) S trivial (by decide) rfl trivial (q_loadA (cs := [(.int .i64 x89.1), (.int .i64 x89.2.1), v91, v92]) rfl (isP_bp _) Tryz.isAgg33 Tryz.sizeOf33 (by rintro _ rfl; exact (fun j u hu => boxAt (i := 1) H rfl hu))) (fun a S => ?_)
   refine lq v104 S (q_move rfl) fun a S => ?_
   obtain ⟨x109, e110, hm⟩ := bind_some hm
   refine lx_call (xs := [.tmp 40, .tmp 41]) S trivial (by decide) rfl rfl Tryz.call11 ((impl_AfterTrace_ok (hG.ext H.ext) ⟨[(.int .i64 x89.1), (.int .i64 x89.2.1), v91, v92], rfl, ⟨[(.int .i64 x89.1)], [(.int .i64 x89.2.1), v91, v92], rfl, rfl, ⟨[(.int .i64 x89.2.1)], [v91, v92], rfl, rfl, ⟨[v91], [v92], rfl, ((H.rdAt 2 rfl)).list_rd, ((H.rdAt 3 rfl)).list_rd⟩⟩⟩⟩ (H.rdAt 0 rfl) e110).mono ?_)
   rintro e w107 ⟨v111, rfl, Hc108⟩
   have H := H.call1 Hc108
   refine ⟨_, rfl, trivial, fun a S => ?_⟩
   refine lq (.tuple #[v111, (.int .i64 x109.2)]) S (q_move rfl) fun a S => ?_
   refine lq v111 S (q_extract rfl rfl) fun a S => ?_
   refine lq (.int .i64 x109.2) S (q_extract rfl rfl) fun a S => ?_
   refine lq v111 S (q_assign rfl) fun a S => ?_
   refine lq (.int .i64 x109.2) S (q_assign rfl) fun a S => ?_
   refine lx_nil (thenN ?_)
   refine wp_seq (wp_seq (region_plain ?_))
   refine lq v111 S (q_move rfl) fun a S => ?_
   refine lq v84 S (q_move rfl) fun a S => ?_
   obtain ⟨x116, e117, hm⟩ := bind_some hm
   refine lx_call (xs := [.tmp 45, .tmp 46]) S trivial (by decide) rfl rfl Tryz.call12 ((laws_eqInt64S_ok (H.rdAt 0 rfl) (H.rdAt 5 rfl) e117).mono ?_)
   rintro e w114 ⟨rfl, Hc115⟩
   have H := H.call0 Hc115
   refine ⟨_, rfl, trivial, fun a S => ?_⟩
   refine lq (.bool (!x116)) S (q_not rfl) fun a S => ?_
   refine lq (.bool (!x116)) S (q_move rfl) fun a S => ?_
   obtain ⟨t119, e120, hm⟩ := bind_some hm
   refine lx_cut 4 (fun a w => Slots a 119 [(1, p1), (2, (bp b49)), (6, v84), (7, (.int .i64 x82.2)), (8, (bp b96)), (9, v104), (10, v111), (11, (.int .i64 x109.2)), (53, (.bool t119))] ∧ Heap w0 [oA (rList (rInt .i64)) v111 x109.1, oA (rList rStr) v104 x102, bA b96 [(.int .i64 x89.1), (.int .i64 x89.2.1), v91, v92] 33, oA (rList rStr) v91 x89.2.2.1, oA (rList Rimpl_Edge) v92 x89.2.2.2, oA (rList (rInt .i64)) v84 x82.1, bA b49 [(.int .i64 a0.1), (.int .i64 a0.2.1), v33, v35] 25] w) ?_ ?_
   ·by_cases hc121 : (!x116) = true
    ·have hm := ite_t hc121 e120
     refine lx_skip S rfl rfl (isB_ne hc121) (by decide) (fun a S => ?_)
     refine lx_skip S rfl rfl (isB_ne hc121) (by decide) (fun a S => ?_)
     refine lx_skip S rfl rfl (isB_ne hc121) (by decide) (fun a S => ?_)
     refine lq (.bool true) S (q_pickT' rfl hc121 rfl) fun a S => ?_
     refine lx_nil ?_
     obtain rfl := Option.some.inj hm
     have H := H.sel [0, 1, 2, 3, 4, 5, 9] (by decide)
     exact ⟨S.sub ⟨rfl, rfl, rfl, rfl, rfl, rfl, rfl, rfl, rfl, trivial⟩, H⟩
    ·have hm := ite_f (eq_false_of_ne_true hc121) e120
     have hc121 : (!x116) = false := eq_false_of_ne_true hc121
     refine lx_q (.int .i64 x109.2) S (want_b rfl rfl hc121) (by decide) (q_move rfl) (fun a S => ?_)
     refine lx_q (.int .i64 x82.2) S (want_b rfl rfl hc121) (by decide) (q_move rfl) (fun a S => ?_)
     refine lx_q (.bool (x109.2 != x82.2)) S (want_b rfl rfl hc121) (by decide) (q_neq rfl rfl) (fun a S => ?_)
     refine lq (.bool (x109.2 != x82.2)) S (q_pickF' rfl hc121 rfl) fun a S => ?_
     refine lx_nil ?_
     obtain rfl := Option.some.inj hm
     have H := H.sel [0, 1, 2, 3, 4, 5, 9] (by decide)
     exact ⟨S.sub ⟨rfl, rfl, rfl, rfl, rfl, rfl, rfl, rfl, rfl, trivial⟩, H⟩
   ·rintro a w ⟨S, H⟩
    refine lx_nil (thenN ?_)
    refine cond_b S rfl (fun hc122 => ?_) (fun hc122 => ?_)
    ·have hm := ite_t hc122 hm
     refine wp_seq (region_plain ?_)
     refine lq (.bool false) S (q_assign rfl) fun a S => ?_
     refine lx_nil (thenN ?_)
     refine wp_ret (then_ret ?_)
     obtain rfl := Option.some.inj hm
     have H : Heap w0 [] w := H.sel [] (by decide)
     exact leave1 S rfl rfl ⟨rfl, H⟩
    ·have hm := ite_f hc122 hm
     refine wp_skip (thenN ?_)
     refine wp_seq ?_
     refine wp_seq ?_
     refine region_drawG (fun w1 => Heap w0 [bA b96 [(.int .i64 x89.1), (.int .i64 x89.2.1), v91, v92] 33, bA b49 [(.int .i64 a0.1), (.int .i64 a0.2.1), v33, v35] 25] w1) (fun i => [2, 3].contains i) mixed (by kernel_rfl) (fun w124 he123 => ?_)
     have H := H.later he123
     refine ⟨H.sel [2, 6] (by decide), ?_⟩
     refine lq (.agg #[(.int .i64 x89.1), (.int .i64 x89.2.1), v91, v92]) S (q_loadA (cs := [(.int .i64 x89.1), (.int .i64 x89.2.1), v91, v92]) rfl (isP_bp _) Tryz.isAgg33 Tryz.sizeOf33 (fun w1 hC => (fun j u hu => boxAt (i := 0) hC rfl hu))) fun a S => ?_
     refine lq (.agg #[(.int .i64 a0.1), (.int .i64 a0.2.1), v33, v35]) S (q_loadA (cs := [(.int .i64 a0.1), (.int .i64 a0.2.1), v33, v35]) rfl (isP_bp _) Tryz.isAgg25 Tryz.sizeOf25 (fun w1 hC => (fun j u hu => boxAt (i := 1) hC rfl hu))) fun a S => ?_
     obtain ⟨x127, e128, hm⟩ := bind_some hm
     refine lx_call (xs := [.tmp 55]) S trivial (by decide) rfl rfl Tryz.call9 ((laws_toLts_ok ⟨[(.int .i64 a0.1), (.int .i64 a0.2.1), v33, v35], rfl, ⟨[(.int .i64 a0.1)], [(.int .i64 a0.2.1), v33, v35], rfl, rfl, ⟨[(.int .i64 a0.2.1)], [v33, v35], rfl, rfl, ⟨[v33], [v35], rfl, ((H.arg h34)).list_rd, ((H.arg h36)).list_rd⟩⟩⟩⟩ e128).mono ?_)
     rintro e w125 ⟨v129, v130, rfl, Hc126⟩
     have H := H.call2 Hc126
     refine ⟨_, rfl, H.sel [4, 8] (by decide), fun a S => ?_⟩
     obtain ⟨x136, e137, hm⟩ := bind_some hm
     refine lx_call (xs := [.tmp 54, .tmp 56]) S trivial (by decide) rfl rfl Tryz.call13 ((laws_eqLts_ok ⟨[(.int .i64 x89.1), (.int .i64 x89.2.1), v91, v92], rfl, ⟨[(.int .i64 x89.1)], [(.int .i64 x89.2.1), v91, v92], rfl, rfl, ⟨[(.int .i64 x89.2.1)], [v91, v92], rfl, rfl, ⟨[v91], [v92], rfl, ((H.rdAt 5 rfl)).list_rd, ((H.rdAt 6 rfl)).list_rd⟩⟩⟩⟩ ⟨[(.int .i64 x127.1), (.int .i64 x127.2.1), v129, v130], rfl, ⟨[(.int .i64 x127.1)], [(.int .i64 x127.2.1), v129, v130], rfl, rfl, ⟨[(.int .i64 x127.2.1)], [v129, v130], rfl, rfl, ⟨[v129], [v130], rfl, ((H.rdAt 0 rfl)).list_rd, ((H.rdAt 1 rfl)).list_rd⟩⟩⟩⟩ e137).mono ?_)
     rintro e w134 ⟨rfl, Hc135⟩
     have H := H.call0 Hc135
     refine ⟨_, rfl, H.sel [4, 8] (by decide), fun a S => ?_⟩
     refine lq (.bool (!x136)) S (q_not rfl) fun a S => ?_
     refine lx_nil (thenN ?_)
     refine cond_b S rfl (fun hc139 => ?_) (fun hc139 => ?_)
     ·have hm := ite_t hc139 hm
      refine wp_seq (region_plain ?_)
      refine lq (.bool false) S (q_assign rfl) fun a S => ?_
      refine lx_nil (thenN ?_)
      refine wp_ret (then_ret ?_)
      obtain rfl := Option.some.inj hm
      have H : Heap w0 [] w134 := H.sel [] (by decide)
      exact leave1 S rfl rfl ⟨rfl, H⟩
     ·have hm := ite_f hc139 hm
      refine wp_skip (thenN ?_)
      refine wp_seq (wp_seq (region_plain ?_))
      refine lq v104 S (q_move rfl) fun a S => ?_
      refine lq p1 S (q_move rfl) fun a S => ?_
      obtain ⟨x142, e143, hm⟩ := bind_some hm
      refine lx_call (xs := [.tmp 60]) S trivial (by decide) rfl rfl Tryz.call10 ((laws_toStringS_ok (H.arg h1) e143).mono ?_)
      rintro e w140 ⟨v144, rfl, Hc141⟩
      have H := H.call1 Hc141
      refine ⟨_, rfl, trivial, fun a S => ?_⟩
      obtain ⟨x149, e150, hm⟩ := bind_some hm
      refine lx_call (xs := [.tmp 59, .tmp 61]) S trivial (by decide) rfl rfl Tryz.call14 ((laws_eqStringS_ok (H.rdAt 4 rfl) (H.rdAt 0 rfl) e150).mono ?_)
      rintro e w147 ⟨rfl, Hc148⟩
      have H := H.call0 Hc148
      refine ⟨_, rfl, trivial, fun a S => ?_⟩
      refine lq (.bool (!x149)) S (q_not rfl) fun a S => ?_
      refine lx_nil (thenN ?_)
      refine cond_b S rfl (fun hc152 => ?_) (fun hc152 => ?_)
      ·have hm := ite_t hc152 hm
       refine wp_seq (region_plain ?_)
       refine lq (.bool false) S (q_assign rfl) fun a S => ?_
       refine lx_nil (thenN ?_)
       refine wp_ret (then_ret ?_)
       obtain rfl := Option.some.inj hm
       have H : Heap w0 [] w147 := H.sel [] (by decide)
       exact leave1 S rfl rfl ⟨rfl, H⟩
      ·have hm := ite_f hc152 hm
       refine wp_skip (thenN ?_)
       refine wp_seq (region_plain ?_)
       refine lq (.int .i64 (1 : Int)) S (q_assign rfl) fun a S => ?_
       refine lx_nil (thenN ?_)
       refine wp_seq (region_plain ?_)
       refine lx_e (.agg #[(.int .i64 x89.1), (.int .i64 x89.2.1), v91, v92]) S trivial (by decide) rfl trivial (q_loadA (cs := [(.int .i64 x89.1), (.int .i64 x89.2.1), v91, v92]) rfl (isP_bp _) Tryz.isAgg33 Tryz.sizeOf33 (by rintro _ rfl; exact (fun j u hu => boxAt (i := 5) H rfl hu))) (fun a S => ?_)
       refine lq (.int .i64 (1 : Int)) S (q_move rfl) fun a S => ?_
       obtain ⟨x155, e156, hm⟩ := bind_some hm
       have H : Heap w0 [oA (rList Rimpl_Edge) v92 x89.2.2.2, oA (rList rStr) v144 x142, oA (rList rStr) v129 x127.2.2.1, oA (rList Rimpl_Edge) v130 x127.2.2.2, oA (rList (rInt .i64)) v111 x109.1, oA (rList rStr) v104 x102, bA b96 [(.int .i64 x89.1), (.int .i64 x89.2.1), v91, v92] 33, oA (rList rStr) v91 x89.2.2.1, oA (rList (rInt .i64)) v84 x82.1, bA b49 [(.int .i64 a0.1), (.int .i64 a0.2.1), v33, v35] 25] w147 := H.front 7 rfl
       have H : Heap w0 [oA (rList rStr) v91 x89.2.2.1, oA (rList Rimpl_Edge) v92 x89.2.2.2, oA (rList rStr) v144 x142, oA (rList rStr) v129 x127.2.2.1, oA (rList Rimpl_Edge) v130 x127.2.2.2, oA (rList (rInt .i64)) v111 x109.1, oA (rList rStr) v104 x102, bA b96 [(.int .i64 x89.1), (.int .i64 x89.2.1), v91, v92] 33, oA (rList (rInt .i64)) v84 x82.1, bA b49 [(.int .i64 a0.1), (.int .i64 a0.2.1), v33, v35] 25] w147 := H.front 7 rfl
       refine lx_call (xs := [.tmp 64, .tmp 65]) S trivial (by decide) rfl rfl Tryz.call15 ((laws_markLts_ok H  e156).mono ?_)
       rintro e w153 ⟨rfl, H⟩
       refine ⟨_, rfl, trivial, fun a S => ?_⟩
       refine lq (.int .i64 x155.1) S (q_assign rfl) fun a S => ?_
       refine lx_nil (thenN ?_)
       refine wp_seq (region_plain ?_)
       refine lq v104 S (q_move rfl) fun a S => ?_
       refine lq (.int .i64 x155.1) S (q_move rfl) fun a S => ?_
       obtain ⟨x159, e160, hm⟩ := bind_some hm
       have H : Heap w0 [oA (rList rStr) v104 x102, oA (rList rStr) v91 x155.2.1, oA (rList Rimpl_Edge) v92 x155.2.2, oA (rList rStr) v144 x142, oA (rList rStr) v129 x127.2.2.1, oA (rList Rimpl_Edge) v130 x127.2.2.2, oA (rList (rInt .i64)) v111 x109.1, bA b96 [(.int .i64 x89.1), (.int .i64 x89.2.1), v91, v92] 33, oA (rList (rInt .i64)) v84 x82.1, bA b49 [(.int .i64 a0.1), (.int .i64 a0.2.1), v33, v35] 25] w153 := H.front 6 rfl
       refine lx_call (xs := [.tmp 67, .tmp 68]) S trivial (by decide) rfl rfl Tryz.call16 ((laws_markStringS_ok H  e160).mono ?_)
       rintro e w157 ⟨rfl, H⟩
       refine ⟨_, rfl, trivial, fun a S => ?_⟩
       refine lq (.int .i64 x159.1) S (q_assign rfl) fun a S => ?_
       refine lx_nil (thenN ?_)
       refine wp_seq (wp_seq (region_plain ?_))
       refine lq (.int .i64 x159.1) S (q_move rfl) fun a S => ?_
       refine lq (.bool (decide (x159.1 < (0 : Int)))) S (q_lss rfl rfl) fun a S => ?_
       refine lq (.bool (decide (x159.1 < (0 : Int)))) S (q_move rfl) fun a S => ?_
       obtain ⟨t161, e162, hm⟩ := bind_some hm
       refine lx_cut 5 (fun a w => Slots a 119 [(1, p1), (2, (bp b49)), (6, v84), (7, (.int .i64 x82.2)), (10, v111), (11, (.int .i64 x109.2)), (77, (.bool t161))] ∧ Heap w0 [oA (rList (rInt .i64)) v111 x109.1, oA (rList (rInt .i64)) v84 x82.1, bA b49 [(.int .i64 a0.1), (.int .i64 a0.2.1), v33, v35] 25] w) ?_ ?_
       ·by_cases hc163 : (decide (x159.1 < (0 : Int))) = true
        ·have hm := ite_t hc163 e162
         refine lx_skip S rfl rfl (isB_ne hc163) (by decide) (fun a S => ?_)
         refine lx_skip S rfl rfl (isB_ne hc163) (by decide) (fun a S => ?_)
         refine lx_skip S rfl rfl (isB_ne hc163) (by decide) (fun a S => ?_)
         refine lx_skip S rfl rfl (isB_ne hc163) (by decide) (fun a S => ?_)
         refine lq (.bool true) S (q_pickT' rfl hc163 rfl) fun a S => ?_
         refine lx_nil ?_
         obtain rfl := Option.some.inj hm
         have H := H.sel [6, 8, 9] (by decide)
         exact ⟨S.sub ⟨rfl, rfl, rfl, rfl, rfl, rfl, rfl, trivial⟩, H⟩
        ·have hm := ite_f (eq_false_of_ne_true hc163) e162
         have hc163 : (decide (x159.1 < (0 : Int))) = false := eq_false_of_ne_true hc163
         refine lx_q v111 S (want_b rfl rfl hc163) (by decide) (q_move rfl) (fun a S => ?_)
         refine lx_q v84 S (want_b rfl rfl hc163) (by decide) (q_move rfl) (fun a S => ?_)
         obtain ⟨x166, e167, hm⟩ := bind_some hm
         refine lx_call (xs := [.tmp 73, .tmp 74]) S (want_b rfl rfl hc163) (by decide) rfl rfl Tryz.call12 ((laws_eqInt64S_ok (H.rdAt 6 rfl) (H.rdAt 8 rfl) e167).mono ?_)
         rintro e w164 ⟨rfl, Hc165⟩
         have H := H.call0 Hc165
         refine ⟨_, rfl, trivial, fun a S => ?_⟩
         refine lx_q (.bool (!x166)) S (want_b rfl rfl hc163) (by decide) (q_not rfl) (fun a S => ?_)
         refine lq (.bool (!x166)) S (q_pickF' rfl hc163 rfl) fun a S => ?_
         refine lx_nil ?_
         obtain rfl := Option.some.inj hm
         have H := H.sel [6, 8, 9] (by decide)
         exact ⟨S.sub ⟨rfl, rfl, rfl, rfl, rfl, rfl, rfl, trivial⟩, H⟩
       ·rintro a w ⟨S, H⟩
        refine lq (.bool t161) S (q_move rfl) fun a S => ?_
        obtain ⟨t169, e170, hm⟩ := bind_some hm
        refine lx_cut 4 (fun a w => Slots a 119 [(1, p1), (2, (bp b49)), (6, v84), (7, (.int .i64 x82.2)), (10, v111), (82, (.bool t169))] ∧ Heap w0 [oA (rList (rInt .i64)) v111 x109.1, oA (rList (rInt .i64)) v84 x82.1, bA b49 [(.int .i64 a0.1), (.int .i64 a0.2.1), v33, v35] 25] w) ?_ ?_
        ·by_cases hc171 : t161 = true
         ·have hm := ite_t hc171 e170
          refine lx_skip S rfl rfl (isB_ne hc171) (by decide) (fun a S => ?_)
          refine lx_skip S rfl rfl (isB_ne hc171) (by decide) (fun a S => ?_)
          refine lx_skip S rfl rfl (isB_ne hc171) (by decide) (fun a S => ?_)
          refine lq (.bool true) S (q_pickT' rfl hc171 rfl) fun a S => ?_
          refine lx_nil ?_
          obtain rfl := Option.some.inj hm
          exact ⟨S.sub ⟨rfl, rfl, rfl, rfl, rfl, rfl, trivial⟩, H⟩
         ·have hm := ite_f (eq_false_of_ne_true hc171) e170
          have hc171 : t161 = false := eq_false_of_ne_true hc171
          refine lx_q (.int .i64 x109.2) S (want_b rfl rfl hc171) (by decide) (q_move rfl) (fun a S => ?_)
          refine lx_q (.int .i64 x82.2) S (want_b rfl rfl hc171) (by decide) (q_move rfl) (fun a S => ?_)
          refine lx_q (.bool (x109.2 != x82.2)) S (want_b rfl rfl hc171) (by decide) (q_neq rfl rfl) (fun a S => ?_)
          refine lq (.bool (x109.2 != x82.2)) S (q_pickF' rfl hc171 rfl) fun a S => ?_
          refine lx_nil ?_
          obtain rfl := Option.some.inj hm
          exact ⟨S.sub ⟨rfl, rfl, rfl, rfl, rfl, rfl, trivial⟩, H⟩
        ·rintro a w ⟨S, H⟩
         refine lx_nil (thenN ?_)
         refine cond_b S rfl (fun hc172 => ?_) (fun hc172 => ?_)
         ·have hm := ite_t hc172 hm
          refine wp_seq (region_plain ?_)
          refine lq (.bool false) S (q_assign rfl) fun a S => ?_
          refine lx_nil (thenN ?_)
          refine wp_ret (then_ret ?_)
          obtain rfl := Option.some.inj hm
          have H : Heap w0 [] w := H.sel [] (by decide)
          exact leave1 S rfl rfl ⟨rfl, H⟩
         ·have hm := ite_f hc172 hm
          refine wp_skip (thenN ?_)
          refine wp_seq (region_plain ?_)
          refine lq (.int .i64 (1 : Int)) S (q_assign rfl) fun a S => ?_
          refine lx_nil (thenN ?_)
          refine wp_seq (region_plain ?_)
          refine lq v111 S (q_move rfl) fun a S => ?_
          refine lq (.int .i64 (1 : Int)) S (q_move rfl) fun a S => ?_
          obtain ⟨x175, e176, hm⟩ := bind_some hm
          refine lx_call (xs := [.tmp 83, .tmp 84]) S trivial (by decide) rfl rfl Tryz.call17 ((laws_markInt64S_ok H  e176).mono ?_)
          rintro e w173 ⟨rfl, H⟩
          refine ⟨_, rfl, trivial, fun a S => ?_⟩
          refine lq (.int .i64 x175.1) S (q_assign rfl) fun a S => ?_
          refine lx_nil (thenN ?_)
          refine wp_seq (region_plain ?_)
          refine lq (.int .i64 (1 : Int)) S (q_assign rfl) fun a S => ?_
          refine lx_nil (thenN ?_)
          refine wp_seq (region_plain ?_)
          refine lq v111 S (q_move rfl) fun a S => ?_
          refine lq (.int .i64 (1 : Int)) S (q_move rfl) fun a S => ?_
          obtain ⟨x179, e180, hm⟩ := bind_some hm
          refine lx_call (xs := [.tmp 86, .tmp 87]) S trivial (by decide) rfl rfl Tryz.call18 ((laws_heldInt64S_ok (H.rdAt 0 rfl)  e180).mono ?_)
          rintro e w177 ⟨rfl, Hc178⟩
          have H := H.call0 Hc178
          refine ⟨_, rfl, trivial, fun a S => ?_⟩
          refine lq (.int .i64 x179) S (q_assign rfl) fun a S => ?_
          refine lx_nil (thenN ?_)
          refine wp_seq (wp_seq (region_plain ?_))
          refine lq (.int .i64 x179) S (q_move rfl) fun a S => ?_
          refine lq (.bool (decide (x179 < (0 : Int)))) S (q_lss rfl rfl) fun a S => ?_
          refine lx_nil (thenN ?_)
          refine cond_b S rfl (fun hc182 => ?_) (fun hc182 => ?_)
          ·have hm := ite_t hc182 hm
           refine wp_seq (region_plain ?_)
           refine lq (.bool false) S (q_assign rfl) fun a S => ?_
           refine lx_nil (thenN ?_)
           refine wp_ret (then_ret ?_)
           obtain rfl := Option.some.inj hm
           have H : Heap w0 [] w177 := H.sel [] (by decide)
           exact leave1 S rfl rfl ⟨rfl, H⟩
          ·have hm := ite_f hc182 hm
           refine wp_skip (thenN ?_)
           refine wp_seq (wp_seq (region_plain ?_))
           refine lq (.int .i64 x179) S (q_move rfl) fun a S => ?_
           refine lq (.int .i64 x175.1) S (q_move rfl) fun a S => ?_
           refine lq (.bool (x179 != x175.1)) S (q_neq rfl rfl) fun a S => ?_
           refine lx_nil (thenN ?_)
           refine cond_b S rfl (fun hc183 => ?_) (fun hc183 => ?_)
           ·have hm := ite_t hc183 hm
            refine wp_seq (region_plain ?_)
            refine lq (.bool false) S (q_assign rfl) fun a S => ?_
            refine lx_nil (thenN ?_)
            refine wp_ret (then_ret ?_)
            obtain rfl := Option.some.inj hm
            have H : Heap w0 [] w177 := H.sel [] (by decide)
            exact leave1 S rfl rfl ⟨rfl, H⟩
           ·have hm := ite_f hc183 hm
            refine wp_skip (thenN ?_)
            refine wp_seq (region_plain ?_)
            refine lx_e (.agg #[(.int .i64 a0.1), (.int .i64 a0.2.1), v33, v35]) S trivial (by decide) rfl trivial (q_loadA (cs := [(.int .i64 a0.1), (.int .i64 a0.2.1), v33, v35]) rfl (isP_bp _) Tryz.isAgg25 Tryz.sizeOf25 (by rintro _ rfl; exact (fun j u hu => boxAt (i := 2) H rfl hu))) (fun a S => ?_)
            obtain ⟨x186, e187, hm⟩ := bind_some hm
            refine lx_call (xs := [.tmp 95]) S trivial (by decide) rfl rfl Tryz.call9 ((laws_toLts_ok ⟨[(.int .i64 a0.1), (.int .i64 a0.2.1), v33, v35], rfl, ⟨[(.int .i64 a0.1)], [(.int .i64 a0.2.1), v33, v35], rfl, rfl, ⟨[(.int .i64 a0.2.1)], [v33, v35], rfl, rfl, ⟨[v33], [v35], rfl, ((H.arg h34)).list_rd, ((H.arg h36)).list_rd⟩⟩⟩⟩ e187).mono ?_)
            rintro e w184 ⟨v188, v189, rfl, Hc185⟩
            have H := H.call2 Hc185
            refine ⟨_, rfl, trivial, fun a S => ?_⟩
            refine lq p1 S (q_move rfl) fun a S => ?_
            obtain ⟨x195, e196, hm⟩ := bind_some hm
            refine lx_call (xs := [.tmp 97]) S trivial (by decide) rfl rfl Tryz.call10 ((laws_toStringS_ok (H.arg h1) e196).mono ?_)
            rintro e w193 ⟨v197, rfl, Hc194⟩
            have H := H.call1 Hc194
            refine ⟨_, rfl, trivial, fun a S => ?_⟩
            obtain ⟨x202, e203, hm⟩ := bind_some hm
            refine lx_call (xs := [.tmp 96, .tmp 98]) S trivial (by decide) rfl rfl Tryz.call11 ((impl_AfterTrace_ok (hG.ext H.ext) ⟨[(.int .i64 x186.1), (.int .i64 x186.2.1), v188, v189], rfl, ⟨[(.int .i64 x186.1)], [(.int .i64 x186.2.1), v188, v189], rfl, rfl, ⟨[(.int .i64 x186.2.1)], [v188, v189], rfl, rfl, ⟨[v188], [v189], rfl, ((H.rdAt 1 rfl)).list_rd, ((H.rdAt 2 rfl)).list_rd⟩⟩⟩⟩ (H.rdAt 0 rfl) e203).mono ?_)
            rintro e w200 ⟨v204, rfl, Hc201⟩
            have H := H.call1 Hc201
            refine ⟨_, rfl, trivial, fun a S => ?_⟩
            refine lq (.tuple #[v204, (.int .i64 x202.2)]) S (q_move rfl) fun a S => ?_
            refine lq v204 S (q_extract rfl rfl) fun a S => ?_
            refine lq (.int .i64 x202.2) S (q_extract rfl rfl) fun a S => ?_
            refine lq v204 S (q_assign rfl) fun a S => ?_
            refine lq (.int .i64 x202.2) S (q_assign rfl) fun a S => ?_
            refine lx_nil (thenN ?_)
            refine wp_seq (wp_seq (region_plain ?_))
            refine lq v204 S (q_move rfl) fun a S => ?_
            refine lq v84 S (q_move rfl) fun a S => ?_
            obtain ⟨x209, e210, hm⟩ := bind_some hm
            refine lx_call (xs := [.tmp 102, .tmp 103]) S trivial (by decide) rfl rfl Tryz.call12 ((laws_eqInt64S_ok (H.rdAt 0 rfl) (H.rdAt 5 rfl) e210).mono ?_)
            rintro e w207 ⟨rfl, Hc208⟩
            have H := H.call0 Hc208
            refine ⟨_, rfl, trivial, fun a S => ?_⟩
            refine lq (.bool (!x209)) S (q_not rfl) fun a S => ?_
            refine lq (.bool (!x209)) S (q_move rfl) fun a S => ?_
            obtain ⟨t212, e213, hm⟩ := bind_some hm
            refine lx_cut 4 (fun a w => Slots a 119 [(10, v111), (13, (.int .i64 x175.1)), (110, (.bool t212))] ∧ Heap w0 [oA (rList (rInt .i64)) v111 x175.2] w) ?_ ?_
            ·by_cases hc214 : (!x209) = true
             ·have hm := ite_t hc214 e213
              refine lx_skip S rfl rfl (isB_ne hc214) (by decide) (fun a S => ?_)
              refine lx_skip S rfl rfl (isB_ne hc214) (by decide) (fun a S => ?_)
              refine lx_skip S rfl rfl (isB_ne hc214) (by decide) (fun a S => ?_)
              refine lq (.bool true) S (q_pickT' rfl hc214 rfl) fun a S => ?_
              refine lx_nil ?_
              obtain rfl := Option.some.inj hm
              have H := H.sel [4] (by decide)
              exact ⟨S.sub ⟨rfl, rfl, rfl, trivial⟩, H⟩
             ·have hm := ite_f (eq_false_of_ne_true hc214) e213
              have hc214 : (!x209) = false := eq_false_of_ne_true hc214
              refine lx_q (.int .i64 x202.2) S (want_b rfl rfl hc214) (by decide) (q_move rfl) (fun a S => ?_)
              refine lx_q (.int .i64 x82.2) S (want_b rfl rfl hc214) (by decide) (q_move rfl) (fun a S => ?_)
              refine lx_q (.bool (x202.2 != x82.2)) S (want_b rfl rfl hc214) (by decide) (q_neq rfl rfl) (fun a S => ?_)
              refine lq (.bool (x202.2 != x82.2)) S (q_pickF' rfl hc214 rfl) fun a S => ?_
              refine lx_nil ?_
              obtain rfl := Option.some.inj hm
              have H := H.sel [4] (by decide)
              exact ⟨S.sub ⟨rfl, rfl, rfl, trivial⟩, H⟩
            ·rintro a w ⟨S, H⟩
             refine lx_nil (thenN ?_)
             refine cond_b S rfl (fun hc215 => ?_) (fun hc215 => ?_)
             ·have hm := ite_t hc215 hm
              refine wp_seq (region_plain ?_)
              refine lq (.bool false) S (q_assign rfl) fun a S => ?_
              refine lx_nil (thenN ?_)
              refine wp_ret (then_ret ?_)
              obtain rfl := Option.some.inj hm
              have H : Heap w0 [] w := H.sel [] (by decide)
              exact leave1 S rfl rfl ⟨rfl, H⟩
             ·have hm := ite_f hc215 hm
              refine wp_skip (thenN ?_)
              refine wp_seq (region_plain ?_)
              refine lq (.int .i64 (1 : Int)) S (q_assign rfl) fun a S => ?_
              refine lx_nil (thenN ?_)
              refine wp_seq (region_plain ?_)
              refine lq v111 S (q_move rfl) fun a S => ?_
              refine lq (.int .i64 (1 : Int)) S (q_move rfl) fun a S => ?_
              obtain ⟨x218, e219, hm⟩ := bind_some hm
              refine lx_call (xs := [.tmp 111, .tmp 112]) S trivial (by decide) rfl rfl Tryz.call18 ((laws_heldInt64S_ok (H.rdAt 0 rfl)  e219).mono ?_)
              rintro e w216 ⟨rfl, Hc217⟩
              have H := H.call0 Hc217
              refine ⟨_, rfl, trivial, fun a S => ?_⟩
              refine lq (.int .i64 x218) S (q_assign rfl) fun a S => ?_
              refine lx_nil (thenN ?_)
              refine wp_seq (wp_seq (region_plain ?_))
              refine lq (.int .i64 x218) S (q_move rfl) fun a S => ?_
              refine lq (.bool (decide (x218 < (0 : Int)))) S (q_lss rfl rfl) fun a S => ?_
              refine lx_nil (thenN ?_)
              refine cond_b S rfl (fun hc221 => ?_) (fun hc221 => ?_)
              ·have hm := ite_t hc221 hm
               refine wp_seq (region_plain ?_)
               refine lq (.bool false) S (q_assign rfl) fun a S => ?_
               refine lx_nil (thenN ?_)
               refine wp_ret (then_ret ?_)
               obtain rfl := Option.some.inj hm
               have H : Heap w0 [] w216 := H.sel [] (by decide)
               exact leave1 S rfl rfl ⟨rfl, H⟩
              ·have hm := ite_f hc221 hm
               refine wp_skip (thenN ?_)
               refine wp_seq (wp_seq (region_plain ?_))
               refine lq (.int .i64 x218) S (q_move rfl) fun a S => ?_
               refine lq (.int .i64 x175.1) S (q_move rfl) fun a S => ?_
               refine lq (.bool (x218 != x175.1)) S (q_neq rfl rfl) fun a S => ?_
               refine lx_nil (thenN ?_)
               refine cond_b S rfl (fun hc222 => ?_) (fun hc222 => ?_)
               ·have hm := ite_t hc222 hm
                refine wp_seq (region_plain ?_)
                refine lq (.bool false) S (q_assign rfl) fun a S => ?_
                refine lx_nil (thenN ?_)
                refine wp_ret (then_ret ?_)
                obtain rfl := Option.some.inj hm
                have H : Heap w0 [] w216 := H.sel [] (by decide)
                exact leave1 S rfl rfl ⟨rfl, H⟩
               ·have hm := ite_f hc222 hm
                refine wp_skip (thenN ?_)
                refine wp_seq (region_plain ?_)
                refine lq (.bool true) S (q_assign rfl) fun a S => ?_
                refine lx_nil (thenN ?_)
                refine wp_ret ?_
                obtain rfl := Option.some.inj hm
                have H : Heap w0 [] w216 := H.sel [] (by decide)
                exact leave1 S rfl rfl ⟨rfl, H⟩
end Go.Proofs.YtifnhbnkgeinmaaGreatDoor
