/- The models of some functions and their walks (printed by a program of this repo). -/
import Derived.Test.YtkgkfbmcnchdbaaGreatDoorF0
import Derived.Test.YtkgkfbmcnchdbaaGreatDoorF5
import Derived.Test.YtkgkfbmcnchdbaaGreatDoorF9
import Derived.Test.YtkgkfbmcnchdbaaGreatDoorFS
import Derived.Test.YtkgkfbmcnchdbaaGreatDoorGxT
import Derived.Test.YtkgkfbmcnchdbaaGreatDoorGxY
namespace Go.Proofs.YtkgkfbmcnchdbaaGreatDoor
open Go.RowKit Go.Gx

/-- spec.l11Find -/
def spec_l11Find_m (fuel : Nat) (a0 : (List Str)) (a1 : Str) : Option (Int) :=
  (iter (fun (s : (Int)) => (match s with | (x39) => (if (decide (x39 < (a0.length : Int))) = true then (idx a0 x39).bind fun x57 => (if (x57 == a1) = true then some (.inr (.inr x39)) else some (.inl ((W (x39 + (1 : Int)))))) else some (.inr (.inl ()))) : Option (((Int)) ⊕ ((Unit) ⊕ (Int))))) fuel ((0 : Int))).bind fun res48 => ctl (β := Unit) (ρ := Int) (τ := Int) res48 (fun _ => some ((-1 : Int))) (fun q => some (q))
set_option maxRecDepth 20000 in
theorem spec_l11Find_ok {w0 : World} {fuel : Nat} {p0 : Value} {a0 : (List Str)} {a1 : Str} {r : Int} (h0 : Rd (rList rStr) w0 p0 a0) (hm : spec_l11Find_m fuel a0 a1 = some r) :
  Calls Tryz.prog 106 #[p0, sv a1] w0 fun e w => e = .returned (.int .i64 r) ∧ Heap w0 [] w := by
 unfold spec_l11Find_m at hm
 have H := Heap.start w0
 refine enter (args := [p0, sv a1]) Tryz.func106 rfl 19 rfl (Nat.le_of_ble_eq_true rfl) (fun a S => ?_)
 refine wp_seq (region_plain ?_)
 refine lq (.int .i64 (0 : Int)) S (q_assign rfl) fun a S => ?_
 refine lx_nil (thenN ?_)
 refine wp_seq (wp_seq (region_plain ?_))
 refine lq (.int .i64 (0 : Int)) S (q_assign rfl) fun a S => ?_
 refine lx_nil (thenN ?_)
 obtain ⟨res48, hit49, hk52⟩ := bind_some hm
 obtain ⟨f50, hf51, hit49⟩ := iter_name hit49
 refine block_loop (fun a w => Slots a 19 [] ∧ Heap w0 [] w ∧ res48 = .inl ()) ?_ ?_
 ·rintro a w ⟨S, H, rfl⟩
  have hm := ctl_inl hk52
  refine thenN ?_
  refine wp_seq (region_plain ?_)
  refine lq (.int .i64 (-1 : Int)) S (q_assign rfl) fun a S => ?_
  refine lx_nil (thenN ?_)
  refine wp_ret ?_
  obtain rfl := Option.some.inj hm
  exact leave1 S rfl rfl ⟨rfl, H⟩
 ·skip
  refine loop_ghost (fun n a w => ∃ (x39 : Int), Slots a 19 [(0, p0), (1, (sv a1)), (5, (.int .i64 x39))] ∧ Heap w0 [] w ∧ iter f50 n (x39) = some res48) _ ⟨(0 : Int), S.sub ⟨rfl, rfl, rfl, trivial⟩, H, hit49⟩ ?_
  rintro n a w ⟨x39, S, H, hit49⟩
  obtain ⟨m53, o54, rfl, hm, hc55⟩ := iter_step hit49
  rw [hf51] at hm
  refine wp_seq (wp_seq (region_plain ?_))
  refine lq (.int .i64 x39) S (q_move rfl) fun a S => ?_
  refine lq p0 S (q_move rfl) fun a S => ?_
  refine lq (.int .i64 (a0.length : Int)) S (q_lenSl rfl (h0).isSl rfl Tryz.underlying22) fun a S => ?_
  refine lq (.bool (decide (x39 < (a0.length : Int)))) S (q_lss rfl rfl) fun a S => ?_
  refine lx_nil (thenN ?_)
  refine cond_b S rfl (fun hc56 => ?_) (fun hc56 => ?_)
  ·have hm := ite_t hc56 hm
   refine wp_skip (thenN ?_)
   refine wp_seq ?_
   refine wp_block ?_
   refine wp_seq (region_plain ?_)
   refine lq p0 S (q_move rfl) fun a S => ?_
   refine lq (.int .i64 x39) S (q_move rfl) fun a S => ?_
   obtain ⟨x57, e58, hm⟩ := bind_some hm
   obtain ⟨c59, h60, hat61⟩ := (h0).elem (idx_some e58).2
   obtain rfl := h60
   have hlt := lt_of_idx (idx_some e58).2
   refine lq (ePtr p0 (x39.toNat * 1)) S (q_indexAddr rfl (h0).isSl rfl (idx_some e58).1 hlt Tryz.underlying22 Tryz.sizeOf9) fun a S => ?_
   refine lx_e (sv x57) S trivial (by decide) rfl trivial (q_load1 rfl Tryz.isAgg9 (by rintro _ rfl; exact ((hat61 0 _ rfl).ext H.ext))) (fun a S => ?_)
   refine lq (sv a1) S (q_move rfl) fun a S => ?_
   refine lq (.bool (x57 == a1)) S (q_seql rfl rfl) fun a S => ?_
   refine lx_nil (thenN ?_)
   refine cond_b S rfl (fun hc62 => ?_) (fun hc62 => ?_)
   ·have hm := ite_t hc62 hm
    refine wp_seq (region_plain ?_)
    refine lq (.int .i64 x39) S (q_move rfl) fun a S => ?_
    refine lq (.int .i64 x39) S (q_assign rfl) fun a S => ?_
    refine lx_nil (thenN ?_)
    refine wp_ret (inBlock_ret ?_)
    refine then_ret ?_
    refine then_ret ?_
    refine inBlock_ret ?_
    refine then_ret ?_
    refine then_ret ?_
    obtain rfl := it_brk hm hc55
    have hm := ctl_inr hk52
    obtain rfl := Option.some.inj hm
    exact leave1 S rfl rfl ⟨rfl, H⟩
   ·have hm := ite_f hc62 hm
    refine wp_skip ?_
    refine inBlock_norm ?_
    refine thenN ?_
    refine region_plain ?_
    refine lq (.int .i64 x39) S (q_move rfl) fun a S => ?_
    refine lq (.int .i64 (W (x39 + (1 : Int)))) S (q_add rfl rfl) fun a S => ?_
    refine lq (.int .i64 (W (x39 + (1 : Int)))) S (q_assign rfl) fun a S => ?_
    refine lx_nil ?_
    exact ⟨m53, Nat.lt_succ_self _, (W (x39 + (1 : Int))), S.sub ⟨rfl, rfl, rfl, trivial⟩, H, it_cont hm hc55⟩
  ·have hm := ite_f hc56 hm
   refine wp_exit ?_
   refine then_exit ?_
   refine then_exit ?_
   refine inBlock_exit ?_
   obtain rfl := it_brk hm hc55
   exact ⟨S.sub trivial, H, rfl⟩

/-- spec.l12Marks -/
def spec_l12Marks_m (fuel : Nat) (a0 : Timpl_Lts) (a1 : (List Int)) : Option ((List Bool)) :=
  (mks a0.1 false).bind fun x50 => (iter (fun (s : (List Bool) × (Int)) => (match s with | (xs67, x68) => (if (decide (x68 < (a1.length : Int))) = true then (idx a1 x68).bind fun x90 => (idx xs67 x90).bind fun _ => some (.inl ((xs67.set x90.toNat true), (W (x68 + (1 : Int))))) else some (.inr (.inl (xs67)))) : Option (((List Bool) × (Int)) ⊕ (((List Bool)) ⊕ ((List Bool)))))) fuel (x50, (0 : Int))).bind fun res81 => ctl (β := (List Bool)) (ρ := (List Bool)) (τ := (List Bool)) res81 (fun (xs80) => some (xs80)) (fun q => some (q))
set_option maxRecDepth 20000 in
theorem spec_l12Marks_ok {w0 : World} {fuel : Nat} {p0 p1 : Value} {a0 : Timpl_Lts} {a1 : (List Int)} {r : (List Bool)} (h0 : Rd (rPtr Rimpl_Lts) w0 p0 a0) (h1 : Rd (rList (rInt .i64)) w0 p1 a1) (hm : spec_l12Marks_m fuel a0 a1 = some r) :
  Calls Tryz.prog 118 #[p0, p1] w0 fun e w => ∃ (v0 : Value), e = .returned (v0) ∧ Heap w0 [oA (rList rBool) v0 r] w := by
 unfold spec_l12Marks_m at hm
 have H := Heap.start w0
 obtain ⟨c31, h32, hat33⟩ := h0.ptr
 obtain ⟨c38, c39, rfl, h40, h41⟩ := h32
 obtain rfl := h40
 obtain ⟨c42, c43, rfl, h44, h45⟩ := h41
 obtain rfl := h44
 obtain ⟨c46, c47, rfl, h48, h49⟩ := h45
 obtain ⟨v34, rfl, h35⟩ := rd_list h48
 obtain ⟨v36, rfl, h37⟩ := rd_list h49
 refine enter (args := [p0, p1]) Tryz.func118 rfl 25 rfl (Nat.le_of_ble_eq_true rfl) (fun a S => ?_)
 refine wp_seq (region_plain ?_)
 refine lq (.slice none 0 0) S (q_assign rfl) fun a S => ?_
 refine lx_nil (thenN ?_)
 refine wp_seq (region_plain ?_)
 refine lq p0 S (q_move rfl) fun a S => ?_
 refine lq p0 S (q_nilCheck rfl ((hat33 0 _ rfl).isP)) fun a S => ?_
 refine lq (pAdd p0 0) S (q_fieldAddr' 0 2 rfl ((hat33 0 _ rfl).isP) Tryz.underlying30 rfl Tryz.sizeOf2) fun a S => ?_
 refine lx_e (.int .i64 a0.1) S trivial (by decide) rfl trivial (q_load1 rfl Tryz.isAgg2 (by rintro _ rfl; exact (At.of_add (m := 0) (j := 0) ((hat33 0 _ rfl).ext H.ext)))) (fun a S => ?_)
 obtain ⟨x50, e51, hm⟩ := bind_some hm
 obtain ⟨m52, hn, hn2, rfl⟩ := mks_some e51
 refine lx_make (r := rBool) (z0 := false) (n := m52) S trivial (by decide) rfl H (by rw [← hn]; rfl) (by rw [← hn]; rfl) Tryz.underlying93 (Tryz.ti4) rfl rfl (by decide) (fun w => ⟨rfl, rfl⟩) hn2 (by decide) (fun v53 w54 H => ⟨trivial, fun a S => ?_⟩)
 refine lq v53 S (q_assign rfl) fun a S => ?_
 refine lx_nil (thenN ?_)
 refine wp_seq (wp_seq (region_plain ?_))
 refine lq (.int .i64 (0 : Int)) S (q_assign rfl) fun a S => ?_
 refine lx_nil (thenN ?_)
 obtain ⟨res81, hit82, hk85⟩ := bind_some hm
 obtain ⟨f83, hf84, hit82⟩ := iter_name hit82
 refine block_loop (fun a w => ∃ (xs80 : List Bool), Slots a 25 [(5, v53)] ∧ Heap w0 [oA (rList rBool) v53 xs80] w ∧ res81 = .inl (xs80)) ?_ ?_
 ·rintro a w ⟨xs80, S, H, rfl⟩
  have hm := ctl_inl hk85
  refine thenN ?_
  refine wp_seq (region_plain ?_)
  refine lq v53 S (q_move rfl) fun a S => ?_
  refine lq v53 S (q_assign rfl) fun a S => ?_
  refine lx_nil (thenN ?_)
  refine wp_ret ?_
  obtain rfl := Option.some.inj hm
  exact leave1 S rfl rfl ⟨v53, rfl, H⟩
 ·skip
  refine loop_ghost (fun n a w => ∃ (xs67 : List Bool) (x68 : Int), Slots a 25 [(1, p1), (5, v53), (6, (.int .i64 x68))] ∧ Heap w0 [oA (rList rBool) v53 xs67] w ∧ iter f83 n (xs67, x68) = some res81) _ ⟨(List.replicate m52 false), (0 : Int), S.sub ⟨rfl, rfl, rfl, trivial⟩, H, hit82⟩ ?_
  rintro n a w ⟨xs67, x68, S, H, hit82⟩
  obtain ⟨m86, o87, rfl, hm, hc88⟩ := iter_step hit82
  rw [hf84] at hm
  refine wp_seq (wp_seq (region_plain ?_))
  refine lq (.int .i64 x68) S (q_move rfl) fun a S => ?_
  refine lq p1 S (q_move rfl) fun a S => ?_
  refine lq (.int .i64 (a1.length : Int)) S (q_lenSl rfl (h1).isSl rfl Tryz.underlying34) fun a S => ?_
  refine lq (.bool (decide (x68 < (a1.length : Int)))) S (q_lss rfl rfl) fun a S => ?_
  refine lx_nil (thenN ?_)
  refine cond_b S rfl (fun hc89 => ?_) (fun hc89 => ?_)
  ·have hm := ite_t hc89 hm
   refine wp_skip (thenN ?_)
   refine wp_seq ?_
   refine wp_block ?_
   refine region_plain ?_
   refine lq v53 S (q_move rfl) fun a S => ?_
   refine lq p1 S (q_move rfl) fun a S => ?_
   refine lq (.int .i64 x68) S (q_move rfl) fun a S => ?_
   obtain ⟨x90, e91, hm⟩ := bind_some hm
   obtain ⟨c92, h93, hat94⟩ := (h1).elem (idx_some e91).2
   obtain rfl := h93
   have hlt := lt_of_idx (idx_some e91).2
   refine lq (ePtr p1 (x68.toNat * 1)) S (q_indexAddr rfl (h1).isSl rfl (idx_some e91).1 hlt Tryz.underlying34 Tryz.sizeOf2) fun a S => ?_
   refine lx_e (.int .i64 x90) S trivial (by decide) rfl trivial (q_load1 rfl Tryz.isAgg2 (by rintro _ rfl; exact ((hat94 0 _ rfl).ext H.ext))) (fun a S => ?_)
   obtain ⟨x95, e96, hm⟩ := bind_some hm
   have hlt := lt_of_idx (idx_some e96).2
   refine lq (ePtr v53 (x90.toNat * 1)) S (q_indexAddr rfl (H.isSl 0 rfl) rfl (idx_some e96).1 hlt Tryz.underlying93 Tryz.sizeOf4) fun a S => ?_
   refine lx_storeElem (r := rBool) (us := [(.bool true)]) (off := 0) (e' := true) S trivial rfl H.putE (ev_zero rfl) rfl (idx_some e96).2 rfl Tryz.sizeOf4 (Nat.le_of_ble_eq_true rfl) (List.forall_mem_cons.2 ⟨rfl, (fun _ h => nomatch h)⟩) (Upd.full rfl (fun w G hG => by cases (show G = [] from hG); exact ⟨rfl, rfl⟩)) (fun w97 H => ⟨trivial, fun a S => ?_⟩)
   refine lx_nil ?_
   refine inBlock_norm ?_
   refine thenN ?_
   refine region_plain ?_
   refine lq (.int .i64 x68) S (q_move rfl) fun a S => ?_
   refine lq (.int .i64 (W (x68 + (1 : Int)))) S (q_add rfl rfl) fun a S => ?_
   refine lq (.int .i64 (W (x68 + (1 : Int)))) S (q_assign rfl) fun a S => ?_
   refine lx_nil ?_
   exact ⟨m86, Nat.lt_succ_self _, (xs67.set x90.toNat true), (W (x68 + (1 : Int))), S.sub ⟨rfl, rfl, rfl, trivial⟩, H, it_cont hm hc88⟩
  ·have hm := ite_f hc89 hm
   refine wp_exit ?_
   refine then_exit ?_
   refine then_exit ?_
   refine inBlock_exit ?_
   obtain rfl := it_brk hm hc88
   exact ⟨xs67, S.sub ⟨rfl, trivial⟩, H, rfl⟩

/-- spec.l12Close -/
def spec_l12Close_m (fuel : Nat) (a0 : Timpl_Lts) (a1 : (List Bool)) : Option ((List Bool)) :=
  (iter (fun (s : (List Bool) × (Bool)) => (match s with | (xs198, x199) => (if x199 = true then (iter (fun (s : (List Bool) × (Bool) × (Int)) => (match s with | (xs403, x404, x405) => (if (decide (x405 < (a0.2.2.2.length : Int))) = true then join (κ := List Bool → Bool → Option (((List Bool) × (Bool) × (Int)) ⊕ (((List Bool) × Bool) ⊕ ((List Bool))))) (fun (xs462 : List Bool) (x463 : Bool) => some (.inl (xs462, x463, (W (x405 + (1 : Int)))))) (fun K464 => (idx a0.2.2.2 x405).bind fun x466 => (if (x466.2.1 == (0 : Int)) = true then (idx xs403 x466.1).bind fun x486 => some x486 else some false).bind fun t483 => (if t483 = true then (idx xs403 x466.2.2).bind fun x494 => some (!x494) else some false).bind fun t491 => (if t491 = true then (idx xs403 x466.2.2).bind fun _ => (K464 (xs403.set x466.2.2.toNat true) true) else (K464 xs403 x404))) else some (.inr (.inl (xs403, x404)))) : Option (((List Bool) × (Bool) × (Int)) ⊕ (((List Bool) × Bool) ⊕ ((List Bool)))))) fuel (xs198, false, (0 : Int))).bind fun res453 => ctl (β := (List Bool) × Bool) (ρ := (List Bool)) (τ := (((List Bool) × (Bool)) ⊕ (((List Bool)) ⊕ ((List Bool))))) res453 (fun (xs451, x452) => some (.inl (xs451, x452))) (fun q => some (.inr (.inr q))) else some (.inr (.inl (xs198)))) : Option (((List Bool) × (Bool)) ⊕ (((List Bool)) ⊕ ((List Bool)))))) fuel (a1, true)).bind fun res349 => ctl (β := (List Bool)) (ρ := (List Bool)) (τ := (List Bool)) res349 (fun (xs348) => some (xs348)) (fun q => some (q))
set_option maxRecDepth 20000 in
theorem spec_l12Close_ok {w0 : World} {fuel : Nat} {p0 p1 : Value} {a0 : Timpl_Lts} {a1 : (List Bool)} {w00 : World} {L : List Asrt} {r : (List Bool)} (H : Heap w00 (oA (rList rBool) p1 a1 :: L) w0) (h0 : Rd (rPtr Rimpl_Lts) w00 p0 a0) (hm : spec_l12Close_m fuel a0 a1 = some r) :
  Calls Tryz.prog 119 #[p0, p1] w0 fun e w => e = .returned (.tuple #[]) ∧ Heap w00 (oA (rList rBool) p1 r :: L) w := by
 unfold spec_l12Close_m at hm
 obtain ⟨c31, h32, hat33⟩ := h0.ptr
 obtain ⟨c38, c39, rfl, h40, h41⟩ := h32
 obtain rfl := h40
 obtain ⟨c42, c43, rfl, h44, h45⟩ := h41
 obtain rfl := h44
 obtain ⟨c46, c47, rfl, h48, h49⟩ := h45
 obtain ⟨v34, rfl, h35⟩ := rd_list h48
 obtain ⟨v36, rfl, h37⟩ := rd_list h49
 refine enter (args := [p0, p1]) Tryz.func119 rfl 46 rfl (Nat.le_of_ble_eq_true rfl) (fun a S => ?_)
 refine wp_seq (region_plain ?_)
 refine lq (.bool true) S (q_assign rfl) fun a S => ?_
 refine lx_nil (thenN ?_)
 obtain ⟨res349, hit350, hk353⟩ := bind_some hm
 obtain ⟨f351, hf352, hit350⟩ := iter_name hit350
 refine block_loop (fun a w => ∃ (xs348 : List Bool), Slots a 46 [] ∧ Heap w00 (oA (rList rBool) p1 xs348 :: L) w ∧ res349 = .inl (xs348)) ?_ ?_
 ·rintro a w ⟨xs348, S, H, rfl⟩
  have hm := ctl_inl hk353
  obtain rfl := Option.some.inj hm
  exact leave0n S rfl ⟨rfl, H⟩
 ·skip
  refine loop_ghost (fun n a w => ∃ (xs198 : List Bool) (x199 : Bool), Slots a 46 [(0, p0), (1, p1), (4, (.bool x199))] ∧ Heap w00 (oA (rList rBool) p1 xs198 :: L) w ∧ iter f351 n (xs198, x199) = some res349) _ ⟨a1, true, S.sub ⟨rfl, rfl, rfl, trivial⟩, H, hit350⟩ ?_
  rintro n a w ⟨xs198, x199, S, H, hit350⟩
  obtain ⟨m354, o355, rfl, hm, hc356⟩ := iter_step hit350
  rw [hf352] at hm
  refine wp_seq (wp_seq (region_plain ?_))
  refine lq (.bool x199) S (q_move rfl) fun a S => ?_
  refine lx_nil (thenN ?_)
  refine cond_b S rfl (fun hc357 => ?_) (fun hc357 => ?_)
  ·have hm := ite_t hc357 hm
   refine wp_skip (thenN ?_)
   refine wp_block ?_
   refine wp_seq (region_plain ?_)
   refine lq (.bool false) S (q_assign rfl) fun a S => ?_
   refine lx_nil (thenN ?_)
   refine wp_seq (region_plain ?_)
   refine lq (.int .i64 (0 : Int)) S (q_assign rfl) fun a S => ?_
   refine lx_nil (thenN ?_)
   obtain ⟨res453, hit454, hk457⟩ := bind_some hm
   obtain ⟨f455, hf456, hit454⟩ := iter_name hit454
   refine block_loop (fun a w => ∃ (xs451 : List Bool) (x452 : Bool), Slots a 46 [(0, p0), (1, p1), (4, (.bool x452))] ∧ Heap w00 (oA (rList rBool) p1 xs451 :: L) w ∧ res453 = .inl (xs451, x452)) ?_ ?_
   ·rintro a w ⟨xs451, x452, S, H, rfl⟩
    have hm := ctl_inl hk457
    refine inBlock_norm ?_
    exact ⟨m354, Nat.lt_succ_self _, xs451, x452, S.sub ⟨rfl, rfl, rfl, trivial⟩, H, it_cont hm hc356⟩
   ·skip
    refine loop_ghost (fun n a w => ∃ (xs403 : List Bool) (x404 : Bool) (x405 : Int), Slots a 46 [(0, p0), (1, p1), (4, (.bool x404)), (5, (.int .i64 x405))] ∧ Heap w00 (oA (rList rBool) p1 xs403 :: L) w ∧ iter f455 n (xs403, x404, x405) = some res453) _ ⟨xs198, false, (0 : Int), S.sub ⟨rfl, rfl, rfl, rfl, trivial⟩, H, hit454⟩ ?_
    rintro n a w ⟨xs403, x404, x405, S, H, hit454⟩
    obtain ⟨m458, o459, rfl, hm, hc460⟩ := iter_step hit454
    rw [hf456] at hm
    refine wp_seq (wp_seq (region_plain ?_))
    refine lq (.int .i64 x405) S (q_move rfl) fun a S => ?_
    refine lq p0 S (q_move rfl) fun a S => ?_
    refine lq p0 S (q_nilCheck rfl ((hat33 0 _ rfl).isP)) fun a S => ?_
    refine lq (pAdd p0 3) S (q_fieldAddr' 3 28 rfl ((hat33 0 _ rfl).isP) Tryz.underlying30 rfl Tryz.sizeOf28) fun a S => ?_
    refine lx_e v36 S trivial (by decide) rfl trivial (q_load1 rfl Tryz.isAgg28 (by rintro _ rfl; exact (At.of_add (m := 3) (j := 0) ((hat33 3 _ rfl).ext H.ext)))) (fun a S => ?_)
    refine lq (.int .i64 (a0.2.2.2.length : Int)) S (q_lenSl rfl (h37).isSl rfl Tryz.underlying28) fun a S => ?_
    refine lq (.bool (decide (x405 < (a0.2.2.2.length : Int)))) S (q_lss rfl rfl) fun a S => ?_
    refine lx_nil (thenN ?_)
    refine cond_b S rfl (fun hc461 => ?_) (fun hc461 => ?_)
    ·have hm := ite_t hc461 hm
     refine wp_skip (thenN ?_)
     obtain ⟨K464, hK465, hm⟩ := join_elim hm
     refine seq_cut (fun a w => ∃ (xs462 : List Bool) (x463 : Bool), Slots a 46 [(0, p0), (1, p1), (4, (.bool x463)), (5, (.int .i64 x405))] ∧ Heap w00 (oA (rList rBool) p1 xs462 :: L) w ∧ K464 xs462 x463 = some o459) ?_ ?_
     ·rintro a w ⟨xs462, x463, S, H, hm⟩
      subst hK465
      refine region_plain ?_
      refine lq (.int .i64 x405) S (q_move rfl) fun a S => ?_
      refine lq (.int .i64 (W (x405 + (1 : Int)))) S (q_add rfl rfl) fun a S => ?_
      refine lq (.int .i64 (W (x405 + (1 : Int)))) S (q_assign rfl) fun a S => ?_
      refine lx_nil ?_
      exact ⟨m458, Nat.lt_succ_self _, xs462, x463, (W (x405 + (1 : Int))), S.sub ⟨rfl, rfl, rfl, rfl, trivial⟩, H, it_cont hm hc460⟩
     ·skip
      refine wp_block ?_
      refine wp_seq (region_plain ?_)
      refine lq p0 S (q_move rfl) fun a S => ?_
      refine lq p0 S (q_nilCheck rfl ((hat33 0 _ rfl).isP)) fun a S => ?_
      refine lq (pAdd p0 3) S (q_fieldAddr' 3 28 rfl ((hat33 0 _ rfl).isP) Tryz.underlying30 rfl Tryz.sizeOf28) fun a S => ?_
      refine lx_e v36 S trivial (by decide) rfl trivial (q_load1 rfl Tryz.isAgg28 (by rintro _ rfl; exact (At.of_add (m := 3) (j := 0) ((hat33 3 _ rfl).ext H.ext)))) (fun a S => ?_)
      refine lq (.int .i64 x405) S (q_move rfl) fun a S => ?_
      obtain ⟨x466, e467, hm⟩ := bind_some hm
      obtain ⟨c468, h469, hat470⟩ := (h37).elem (idx_some e467).2
      obtain ⟨c471, c472, rfl, h473, h474⟩ := h469
      obtain rfl := h473
      obtain ⟨c475, c476, rfl, h477, h478⟩ := h474
      obtain rfl := h477
      obtain rfl := h478
      have hlt := lt_of_idx (idx_some e467).2
      refine lq (ePtr v36 (x405.toNat * 3)) S (q_indexAddr rfl (h37).isSl rfl (idx_some e467).1 hlt Tryz.underlying28 Tryz.sizeOf72) fun a S => ?_
      refine lx_e (.agg #[(.int .i64 x466.1), (.int .i64 x466.2.1), (.int .i64 x466.2.2)]) S trivial (by decide) rfl trivial (q_loadA (cs := [(.int .i64 x466.1), (.int .i64 x466.2.1), (.int .i64 x466.2.2)]) rfl ((hat470 0 _ rfl).isP) Tryz.isAgg72 Tryz.sizeOf72 (by rintro _ rfl; exact (fun j u hu => (hat470 j u hu).ext H.ext))) (fun a S => ?_)
      refine lx_alloc S trivial (by decide) rfl H Tryz.zeroValue72 rfl (fun b479 w480 H => ⟨trivial, fun a S => ?_⟩)
      refine lx_storeBox (o := 0) (i := 0) (us := [(.int .i64 x466.1), (.int .i64 x466.2.1), (.int .i64 x466.2.2)]) (cs' := [(.int .i64 x466.1), (.int .i64 x466.2.1), (.int .i64 x466.2.2)]) S trivial rfl H rfl rfl rfl rfl Tryz.sizeOf72 (Nat.le_of_ble_eq_true rfl) (List.forall_mem_cons.2 ⟨rfl, (List.forall_mem_cons.2 ⟨rfl, (List.forall_mem_cons.2 ⟨rfl, (fun _ h => nomatch h)⟩)⟩)⟩) rfl (fun w482 H => ⟨trivial, fun a S => ?_⟩)
      change Heap w00 (bA b479 [(.int .i64 x466.1), (.int .i64 x466.2.1), (.int .i64 x466.2.2)] 72 :: oA (rList rBool) p1 xs403 :: L) w482 at H
      refine lx_nil (thenN ?_)
      refine wp_seq (region_plain ?_)
      refine lq (pAdd (bp b479) 1) S (q_fieldAddr' 1 2 rfl (isP_bp _) Tryz.underlying72 rfl Tryz.sizeOf2) fun a S => ?_
      refine lx_e (.int .i64 x466.2.1) S trivial (by decide) rfl trivial (q_load1 rfl Tryz.isAgg2 (by rintro _ rfl; exact (At.of_add (m := 1) (j := 0) (boxAt (i := 0) H rfl (j := 1) rfl)))) (fun a S => ?_)
      refine lq (.bool (x466.2.1 == (0 : Int))) S (q_eql rfl rfl) fun a S => ?_
      refine lq (.bool (x466.2.1 == (0 : Int))) S (q_move rfl) fun a S => ?_
      obtain ⟨t483, e484, hm⟩ := bind_some hm
      refine lx_cut 6 (fun a w => Slots a 46 [(0, p0), (1, p1), (4, (.bool x404)), (5, (.int .i64 x405)), (6, (bp b479)), (33, (.bool t483))] ∧ Heap w00 (bA b479 [(.int .i64 x466.1), (.int .i64 x466.2.1), (.int .i64 x466.2.2)] 72 :: oA (rList rBool) p1 xs403 :: L) w) ?_ ?_
      ·by_cases hc485 : (x466.2.1 == (0 : Int)) = true
       ·have hm := ite_t hc485 e484
        refine lx_q p1 S (want_b rfl rfl hc485) (by decide) (q_move rfl) (fun a S => ?_)
        refine lx_q (pAdd (bp b479) 0) S (want_b rfl rfl hc485) (by decide) (q_fieldAddr' 0 2 rfl (isP_bp _) Tryz.underlying72 rfl Tryz.sizeOf2) (fun a S => ?_)
        refine lx_e (.int .i64 x466.1) S (want_b rfl rfl hc485) (by decide) rfl trivial (q_load1 rfl Tryz.isAgg2 (by rintro _ rfl; exact (At.of_add (m := 0) (j := 0) (boxAt (i := 0) H rfl (j := 0) rfl)))) (fun a S => ?_)
        obtain ⟨x486, e487, hm⟩ := bind_some hm
        have hlt := lt_of_idx (idx_some e487).2
        refine lx_q (ePtr p1 (x466.1.toNat * 1)) S (want_b rfl rfl hc485) (by decide) (q_indexAddr rfl (H.isSl 1 rfl) rfl (idx_some e487).1 hlt Tryz.underlying93 Tryz.sizeOf4) (fun a S => ?_)
        obtain ⟨c488, h489, hat490⟩ := (H.rdAt 1 rfl).elem (idx_some e487).2
        obtain rfl := h489
        refine lx_e (.bool x486) S (want_b rfl rfl hc485) (by decide) rfl trivial (q_load1 rfl Tryz.isAgg4 (by rintro _ rfl; exact (hat490 0 _ rfl))) (fun a S => ?_)
        refine lq (.bool x486) S (q_pickT' rfl hc485 rfl) fun a S => ?_
        refine lx_nil ?_
        obtain rfl := Option.some.inj hm
        exact ⟨S.sub ⟨rfl, rfl, rfl, rfl, rfl, rfl, trivial⟩, H⟩
       ·have hm := ite_f (eq_false_of_ne_true hc485) e484
        have hc485 : (x466.2.1 == (0 : Int)) = false := eq_false_of_ne_true hc485
        refine lx_skip S rfl rfl (isB_ne hc485) (by decide) (fun a S => ?_)
        refine lx_skip S rfl rfl (isB_ne hc485) (by decide) (fun a S => ?_)
        refine lx_skip S rfl rfl (isB_ne hc485) (by decide) (fun a S => ?_)
        refine lx_skip S rfl rfl (isB_ne hc485) (by decide) (fun a S => ?_)
        refine lx_skip S rfl rfl (isB_ne hc485) (by decide) (fun a S => ?_)
        refine lq (.bool false) S (q_pickF' rfl hc485 rfl) fun a S => ?_
        refine lx_nil ?_
        obtain rfl := Option.some.inj hm
        exact ⟨S.sub ⟨rfl, rfl, rfl, rfl, rfl, rfl, trivial⟩, H⟩
      ·rintro a w ⟨S, H⟩
       refine lq (.bool t483) S (q_move rfl) fun a S => ?_
       obtain ⟨t491, e492, hm⟩ := bind_some hm
       refine lx_cut 7 (fun a w => Slots a 46 [(0, p0), (1, p1), (4, (.bool x404)), (5, (.int .i64 x405)), (6, (bp b479)), (41, (.bool t491))] ∧ Heap w00 (bA b479 [(.int .i64 x466.1), (.int .i64 x466.2.1), (.int .i64 x466.2.2)] 72 :: oA (rList rBool) p1 xs403 :: L) w) ?_ ?_
       ·by_cases hc493 : t483 = true
        ·have hm := ite_t hc493 e492
         refine lx_q p1 S (want_b rfl rfl hc493) (by decide) (q_move rfl) (fun a S => ?_)
         refine lx_q (pAdd (bp b479) 2) S (want_b rfl rfl hc493) (by decide) (q_fieldAddr' 2 2 rfl (isP_bp _) Tryz.underlying72 rfl Tryz.sizeOf2) (fun a S => ?_)
         refine lx_e (.int .i64 x466.2.2) S (want_b rfl rfl hc493) (by decide) rfl trivial (q_load1 rfl Tryz.isAgg2 (by rintro _ rfl; exact (At.of_add (m := 2) (j := 0) (boxAt (i := 0) H rfl (j := 2) rfl)))) (fun a S => ?_)
         obtain ⟨x494, e495, hm⟩ := bind_some hm
         have hlt := lt_of_idx (idx_some e495).2
         refine lx_q (ePtr p1 (x466.2.2.toNat * 1)) S (want_b rfl rfl hc493) (by decide) (q_indexAddr rfl (H.isSl 1 rfl) rfl (idx_some e495).1 hlt Tryz.underlying93 Tryz.sizeOf4) (fun a S => ?_)
         obtain ⟨c496, h497, hat498⟩ := (H.rdAt 1 rfl).elem (idx_some e495).2
         obtain rfl := h497
         refine lx_e (.bool x494) S (want_b rfl rfl hc493) (by decide) rfl trivial (q_load1 rfl Tryz.isAgg4 (by rintro _ rfl; exact (hat498 0 _ rfl))) (fun a S => ?_)
         refine lx_q (.bool (!x494)) S (want_b rfl rfl hc493) (by decide) (q_not rfl) (fun a S => ?_)
         refine lq (.bool (!x494)) S (q_pickT' rfl hc493 rfl) fun a S => ?_
         refine lx_nil ?_
         obtain rfl := Option.some.inj hm
         exact ⟨S.sub ⟨rfl, rfl, rfl, rfl, rfl, rfl, trivial⟩, H⟩
        ·have hm := ite_f (eq_false_of_ne_true hc493) e492
         have hc493 : t483 = false := eq_false_of_ne_true hc493
         refine lx_skip S rfl rfl (isB_ne hc493) (by decide) (fun a S => ?_)
         refine lx_skip S rfl rfl (isB_ne hc493) (by decide) (fun a S => ?_)
         refine lx_skip S rfl rfl (isB_ne hc493) (by decide) (fun a S => ?_)
         refine lx_skip S rfl rfl (isB_ne hc493) (by decide) (fun a S => ?_)
         refine lx_skip S rfl rfl (isB_ne hc493) (by decide) (fun a S => ?_)
         refine lx_skip S rfl rfl (isB_ne hc493) (by decide) (fun a S => ?_)
         refine lq (.bool false) S (q_pickF' rfl hc493 rfl) fun a S => ?_
         refine lx_nil ?_
         obtain rfl := Option.some.inj hm
         exact ⟨S.sub ⟨rfl, rfl, rfl, rfl, rfl, rfl, trivial⟩, H⟩
       ·rintro a w ⟨S, H⟩
        refine lx_nil (thenN ?_)
        refine cond_b S rfl (fun hc499 => ?_) (fun hc499 => ?_)
        ·have hm := ite_t hc499 hm
         refine wp_seq (region_plain ?_)
         refine lq p1 S (q_move rfl) fun a S => ?_
         refine lq (pAdd (bp b479) 2) S (q_fieldAddr' 2 2 rfl (isP_bp _) Tryz.underlying72 rfl Tryz.sizeOf2) fun a S => ?_
         refine lx_e (.int .i64 x466.2.2) S trivial (by decide) rfl trivial (q_load1 rfl Tryz.isAgg2 (by rintro _ rfl; exact (At.of_add (m := 2) (j := 0) (boxAt (i := 0) H rfl (j := 2) rfl)))) (fun a S => ?_)
         obtain ⟨x500, e501, hm⟩ := bind_some hm
         have hlt := lt_of_idx (idx_some e501).2
         refine lq (ePtr p1 (x466.2.2.toNat * 1)) S (q_indexAddr rfl (H.isSl 1 rfl) rfl (idx_some e501).1 hlt Tryz.underlying93 Tryz.sizeOf4) fun a S => ?_
         have H : Heap w00 (oA (rList rBool) p1 xs403 :: bA b479 [(.int .i64 x466.1), (.int .i64 x466.2.1), (.int .i64 x466.2.2)] 72 :: L) w := H.front 1 rfl
         refine lx_storeElem (r := rBool) (us := [(.bool true)]) (off := 0) (e' := true) S trivial rfl H.putE (ev_zero rfl) rfl (idx_some e501).2 rfl Tryz.sizeOf4 (Nat.le_of_ble_eq_true rfl) (List.forall_mem_cons.2 ⟨rfl, (fun _ h => nomatch h)⟩) (Upd.full rfl (fun w G hG => by cases (show G = [] from hG); exact ⟨rfl, rfl⟩)) (fun w502 H => ⟨trivial, fun a S => ?_⟩)
         refine lx_nil (thenN ?_)
         refine region_plain ?_
         refine lq (.bool true) S (q_assign rfl) fun a S => ?_
         refine lx_nil ?_
         refine inBlock_norm ?_
         have H : Heap w00 (oA (rList rBool) p1 (xs403.set x466.2.2.toNat true) :: L) w502 := H.selT 2 [0] (by decide)
         exact ⟨(xs403.set x466.2.2.toNat true), true, S.sub ⟨rfl, rfl, rfl, rfl, trivial⟩, H, hm⟩
        ·have hm := ite_f hc499 hm
         refine wp_skip ?_
         refine inBlock_norm ?_
         have H : Heap w00 (oA (rList rBool) p1 xs403 :: L) w := H.selT 2 [1] (by decide)
         exact ⟨xs403, x404, S.sub ⟨rfl, rfl, rfl, rfl, trivial⟩, H, hm⟩
    ·have hm := ite_f hc461 hm
     refine wp_exit ?_
     refine then_exit ?_
     refine then_exit ?_
     refine inBlock_exit ?_
     obtain rfl := it_brk hm hc460
     exact ⟨xs403, x404, S.sub ⟨rfl, rfl, rfl, trivial⟩, H, rfl⟩
  ·have hm := ite_f hc357 hm
   refine wp_exit ?_
   refine then_exit ?_
   refine then_exit ?_
   refine inBlock_exit ?_
   obtain rfl := it_brk hm hc356
   exact ⟨xs198, S.sub trivial, H, rfl⟩

/-- spec.l14List -/
def spec_l14List_m (fuel : Nat) (a0 : (List Bool)) : Option ((List Int)) :=
  (iter (fun (s : (List Int) × (Int)) => (match s with | (xs59, x61) => (if (decide (x61 < (a0.length : Int))) = true then join (κ := List Int → Option (((List Int) × (Int)) ⊕ (((List Int)) ⊕ ((List Int))))) (fun (xs99 : List Int) => some (.inl (xs99, (W (x61 + (1 : Int)))))) (fun K101 => (idx a0 x61).bind fun x103 => (if x103 = true then (app xs59 [x61]).bind fun x112 => (K101 x112) else (K101 xs59))) else some (.inr (.inl (xs59)))) : Option (((List Int) × (Int)) ⊕ (((List Int)) ⊕ ((List Int)))))) fuel (([] : List Int), (0 : Int))).bind fun res89 => ctl (β := (List Int)) (ρ := (List Int)) (τ := (List Int)) res89 (fun (xs87) => some (xs87)) (fun q => some (q))
set_option maxRecDepth 20000 in
theorem spec_l14List_ok {w0 : World} {fuel : Nat} {p0 : Value} {a0 : (List Bool)} {r : (List Int)} (h0 : Rd (rList rBool) w0 p0 a0) (hm : spec_l14List_m fuel a0 = some r) :
  Calls Tryz.prog 120 #[p0] w0 fun e w => ∃ (v0 : Value), e = .returned (v0) ∧ Heap w0 [oA (rList (rInt .i64)) v0 r] w := by
 unfold spec_l14List_m at hm
 have H := Heap.start w0
 refine enter (args := [p0]) Tryz.func120 rfl 21 rfl (Nat.le_of_ble_eq_true rfl) (fun a S => ?_)
 refine wp_seq (region_plain ?_)
 refine lq (.slice none 0 0) S (q_assign rfl) fun a S => ?_
 refine lx_nil (thenN ?_)
 refine wp_seq (region_plain ?_)
 refine lx_buildSlice0 (r := (rInt .i64)) S trivial (by decide) rfl H Tryz.underlying34 Tryz.sizeOf2 (fun v31 w32 H => ⟨trivial, fun a S => ?_⟩)
 refine lq v31 S (q_assign rfl) fun a S => ?_
 refine lx_nil (thenN ?_)
 refine wp_seq (wp_seq (region_plain ?_))
 refine lq (.int .i64 (0 : Int)) S (q_assign rfl) fun a S => ?_
 refine lx_nil (thenN ?_)
 obtain ⟨res89, hit90, hk93⟩ := bind_some hm
 obtain ⟨f91, hf92, hit90⟩ := iter_name hit90
 refine block_loop (fun a w => ∃ (xs87 : List Int) (v86 : Value), Slots a 21 [(3, v86)] ∧ Heap w0 [oA (rList (rInt .i64)) v86 xs87] w ∧ res89 = .inl (xs87)) ?_ ?_
 ·rintro a w ⟨xs87, v86, S, H, rfl⟩
  have hm := ctl_inl hk93
  refine thenN ?_
  refine wp_seq (region_plain ?_)
  refine lq v86 S (q_move rfl) fun a S => ?_
  refine lq v86 S (q_assign rfl) fun a S => ?_
  refine lx_nil (thenN ?_)
  refine wp_ret ?_
  obtain rfl := Option.some.inj hm
  exact leave1 S rfl rfl ⟨v86, rfl, H⟩
 ·skip
  refine loop_ghost (fun n a w => ∃ (xs59 : List Int) (x61 : Int) (v58 : Value), Slots a 21 [(0, p0), (3, v58), (4, (.int .i64 x61))] ∧ Heap w0 [oA (rList (rInt .i64)) v58 xs59] w ∧ iter f91 n (xs59, x61) = some res89) _ ⟨([] : List Int), (0 : Int), v31, S.sub ⟨rfl, rfl, rfl, trivial⟩, H, hit90⟩ ?_
  rintro n a w ⟨xs59, x61, v58, S, H, hit90⟩
  obtain ⟨m94, o95, rfl, hm, hc96⟩ := iter_step hit90
  rw [hf92] at hm
  refine wp_seq (wp_seq (region_plain ?_))
  refine lq (.int .i64 x61) S (q_move rfl) fun a S => ?_
  refine lq p0 S (q_move rfl) fun a S => ?_
  refine lq (.int .i64 (a0.length : Int)) S (q_lenSl rfl (h0).isSl rfl Tryz.underlying93) fun a S => ?_
  refine lq (.bool (decide (x61 < (a0.length : Int)))) S (q_lss rfl rfl) fun a S => ?_
  refine lx_nil (thenN ?_)
  refine cond_b S rfl (fun hc97 => ?_) (fun hc97 => ?_)
  ·have hm := ite_t hc97 hm
   refine wp_skip (thenN ?_)
   obtain ⟨K101, hK102, hm⟩ := join_elim hm
   refine seq_cut (fun a w => ∃ (xs99 : List Int) (v98 : Value), Slots a 21 [(0, p0), (3, v98), (4, (.int .i64 x61))] ∧ Heap w0 [oA (rList (rInt .i64)) v98 xs99] w ∧ K101 xs99 = some o95) ?_ ?_
   ·rintro a w ⟨xs99, v98, S, H, hm⟩
    subst hK102
    refine region_plain ?_
    refine lq (.int .i64 x61) S (q_move rfl) fun a S => ?_
    refine lq (.int .i64 (W (x61 + (1 : Int)))) S (q_add rfl rfl) fun a S => ?_
    refine lq (.int .i64 (W (x61 + (1 : Int)))) S (q_assign rfl) fun a S => ?_
    refine lx_nil ?_
    exact ⟨m94, Nat.lt_succ_self _, xs99, (W (x61 + (1 : Int))), v98, S.sub ⟨rfl, rfl, rfl, trivial⟩, H, it_cont hm hc96⟩
   ·skip
    refine wp_block ?_
    refine wp_seq (region_plain ?_)
    refine lq p0 S (q_move rfl) fun a S => ?_
    refine lq (.int .i64 x61) S (q_move rfl) fun a S => ?_
    obtain ⟨x103, e104, hm⟩ := bind_some hm
    obtain ⟨c105, h106, hat107⟩ := (h0).elem (idx_some e104).2
    obtain rfl := h106
    have hlt := lt_of_idx (idx_some e104).2
    refine lq (ePtr p0 (x61.toNat * 1)) S (q_indexAddr rfl (h0).isSl rfl (idx_some e104).1 hlt Tryz.underlying93 Tryz.sizeOf4) fun a S => ?_
    refine lx_e (.bool x103) S trivial (by decide) rfl trivial (q_load1 rfl Tryz.isAgg4 (by rintro _ rfl; exact ((hat107 0 _ rfl).ext H.ext))) (fun a S => ?_)
    refine lx_nil (thenN ?_)
    refine cond_b S rfl (fun hc108 => ?_) (fun hc108 => ?_)
    ·have hm := ite_t hc108 hm
     refine region_plain ?_
     refine lq v58 S (q_move rfl) fun a S => ?_
     refine lq (.int .i64 x61) S (q_move rfl) fun a S => ?_
     refine lx_buildSlice (r := (rInt .i64)) (xs := [x61]) (ps := [(0, [(.int .i64 x61)])]) (cs := [(.int .i64 x61)]) (parts := [(0, .tmp 17)]) S trivial (by decide) rfl (H.put0 (A := eA) rfl) rfl Tryz.underlying34 Tryz.sizeOf2 Tryz.zeroValue2 (by decide) ⟨rfl, rfl, Nat.le_of_ble_eq_true rfl, trivial⟩ (by intro zs hz; exact fill_dense hz ⟨rfl, trivial⟩ rfl rfl) rfl (by decide) (fun w F hA => by cases (show F = [] from hA); exact ⟨_, _, [(.int .i64 x61)], _, rfl, rfl, ⟨rfl, rfl⟩, ⟨rfl, rfl⟩⟩) (fun v109 w110 H => ⟨trivial, fun a S => ?_⟩)
     obtain ⟨x112, e113, hm⟩ := bind_some hm
     obtain ⟨hle, hap⟩ := app_some e113
     replace hap := hap.symm
     subst hap
     have H : Heap w0 [oA (rList (rInt .i64)) v109 [x61], oA (rList (rInt .i64)) v58 xs59] w110 := H.front 0 rfl
     have H : Heap w0 [oA (rList (rInt .i64)) v58 xs59, oA (rList (rInt .i64)) v109 [x61]] w110 := H.front 1 rfl
     refine lx_appendOwn (r := (rInt .i64)) S trivial (by decide) rfl H rfl rfl Tryz.underlying34 Tryz.ti2 rfl rfl rfl (by decide) (by decide) hle (fun v114 w115 H => ⟨trivial, fun a S => ?_⟩)
     refine lq v114 S (q_assign rfl) fun a S => ?_
     refine lx_nil ?_
     refine inBlock_norm ?_
     exact ⟨(xs59 ++ [x61]), v114, S.sub ⟨rfl, rfl, rfl, trivial⟩, H, hm⟩
    ·have hm := ite_f hc108 hm
     refine wp_skip ?_
     refine inBlock_norm ?_
     exact ⟨xs59, v58, S.sub ⟨rfl, rfl, rfl, trivial⟩, H, hm⟩
  ·have hm := ite_f hc97 hm
   refine wp_exit ?_
   refine then_exit ?_
   refine then_exit ?_
   refine inBlock_exit ?_
   obtain rfl := it_brk hm hc96
   exact ⟨xs59, v58, S.sub ⟨rfl, trivial⟩, H, rfl⟩

/-- (impl.Lts).internal -/
def impl_Lts_internal_m (fuel : Nat) (a0 : Timpl_Lts) (a1 : (List Int)) : Option ((List Int)) :=
  (slices_Clone__int64_int64_m fuel a1).bind fun x54 => (iter (fun (s : (List Int) × (Int)) => (match s with | (xs177, x179) => (if (decide (x179 < (xs177.length : Int))) = true then (idx xs177 x179).bind fun x315 => (impl_Lts_follow_m fuel (a0.1, a0.2.1, a0.2.2.1, a0.2.2.2) [x315] ([116, 97, 117] : Str)).bind fun x322 => (iter (fun (s : (List Int) × (Int)) => (match s with | (xs357, x359) => (if (decide (x359 < (x322.length : Int))) = true then join (κ := List Int → Option (((List Int) × (Int)) ⊕ (((List Int)) ⊕ ((List Int))))) (fun (xs402 : List Int) => some (.inl (xs402, (W (x359 + (1 : Int)))))) (fun K404 => (idx x322 x359).bind fun x406 => (slices_Contains__int64_int64_m fuel xs357 x406).bind fun x413 => (if (!x413) = true then (app xs357 [x406]).bind fun x420 => (K404 x420) else (K404 xs357))) else some (.inr (.inl (xs357)))) : Option (((List Int) × (Int)) ⊕ (((List Int)) ⊕ ((List Int)))))) fuel (xs177, (0 : Int))).bind fun res392 => ctl (β := (List Int)) (ρ := (List Int)) (τ := (((List Int) × (Int)) ⊕ (((List Int)) ⊕ ((List Int))))) res392 (fun (xs390) => some (.inl (xs390, (W (x179 + (1 : Int)))))) (fun q => some (.inr (.inr q))) else some (.inr (.inl (xs177)))) : Option (((List Int) × (Int)) ⊕ (((List Int)) ⊕ ((List Int)))))) fuel (x54, (0 : Int))).bind fun res300 => ctl (β := (List Int)) (ρ := (List Int)) (τ := (List Int)) res300 (fun (xs298) => (slices_Sort__int64_int64_m fuel xs298).bind fun x307 => some (x307)) (fun q => some (q))
set_option maxRecDepth 20000 in
theorem impl_Lts_internal_ok {w0 : World} {fuel : Nat} {p0 p1 : Value} {a0 : Timpl_Lts} {a1 : (List Int)} {r : (List Int)} (h0 : Rd Rimpl_Lts w0 p0 a0) (h1 : Rd (rList (rInt .i64)) w0 p1 a1) (hm : impl_Lts_internal_m fuel a0 a1 = some r) :
  Calls Tryz.prog 121 #[p0, p1] w0 fun e w => ∃ (v0 : Value), e = .returned (v0) ∧ Heap w0 [oA (rList (rInt .i64)) v0 r] w := by
 unfold impl_Lts_internal_m at hm
 have H := Heap.start w0
 obtain ⟨c31, rfl, h32⟩ := h0
 obtain ⟨c37, c38, rfl, h39, h40⟩ := h32
 obtain rfl := h39
 obtain ⟨c41, c42, rfl, h43, h44⟩ := h40
 obtain rfl := h43
 obtain ⟨c45, c46, rfl, h47, h48⟩ := h44
 obtain ⟨v33, rfl, h34⟩ := rd_list h47
 obtain ⟨v35, rfl, h36⟩ := rd_list h48
 refine enter (args := [(.agg #[(.int .i64 a0.1), (.int .i64 a0.2.1), v33, v35]), p1]) Tryz.func121 rfl 41 rfl (Nat.le_of_ble_eq_true rfl) (fun a S => ?_)
 refine wp_seq (region_plain ?_)
 refine lx_box S trivial (by decide) rfl H rfl rfl (fun b49 w50 H => ⟨trivial, fun a S => ?_⟩)
 refine lq (.slice none 0 0) S (q_assign rfl) fun a S => ?_
 refine lx_nil (thenN ?_)
 refine wp_seq (region_plain ?_)
 refine lq p1 S (q_move rfl) fun a S => ?_
 obtain ⟨x54, e55, hm⟩ := bind_some hm
 refine lx_call (xs := [.tmp 9]) S trivial (by decide) rfl rfl Tryz.call133 ((slices_Clone__int64_int64_ok (H.arg h1) e55).mono ?_)
 rintro e w52 ⟨v56, rfl, Hc53⟩
 have H := H.call1 Hc53
 refine ⟨_, rfl, trivial, fun a S => ?_⟩
 refine lq v56 S (q_assign rfl) fun a S => ?_
 refine lx_nil (thenN ?_)
 refine wp_seq (wp_seq (region_plain ?_))
 refine lq (.int .i64 (0 : Int)) S (q_assign rfl) fun a S => ?_
 refine lx_nil (thenN ?_)
 obtain ⟨res300, hit301, hk304⟩ := bind_some hm
 obtain ⟨f302, hf303, hit301⟩ := iter_name hit301
 refine block_loop (fun a w => ∃ (xs298 : List Int) (v297 : Value), Slots a 41 [(5, v297)] ∧ Heap w0 [oA (rList (rInt .i64)) v297 xs298] w ∧ res300 = .inl (xs298)) ?_ ?_
 ·rintro a w ⟨xs298, v297, S, H, rfl⟩
  have hm := ctl_inl hk304
  refine thenN ?_
  refine wp_seq (region_plain ?_)
  refine lq v297 S (q_move rfl) fun a S => ?_
  obtain ⟨x307, e308, hm⟩ := bind_some hm
  refine lx_call (xs := [.tmp 38]) S trivial (by decide) rfl rfl Tryz.call146 ((slices_Sort__int64_int64_ok H  e308).mono ?_)
  rintro e w305 ⟨rfl, H⟩
  refine ⟨_, rfl, trivial, fun a S => ?_⟩
  refine lx_nil (thenN ?_)
  refine wp_seq (region_plain ?_)
  refine lq v297 S (q_move rfl) fun a S => ?_
  refine lq v297 S (q_assign rfl) fun a S => ?_
  refine lx_nil (thenN ?_)
  refine wp_ret ?_
  obtain rfl := Option.some.inj hm
  exact leave1 S rfl rfl ⟨v297, rfl, H⟩
 ·skip
  have H : Heap w0 [bA b49 [(.int .i64 a0.1), (.int .i64 a0.2.1), v33, v35] 30, oA (rList (rInt .i64)) v56 x54] w52 := H.front 1 rfl
  refine loop_ghost (fun n a w => ∃ (xs177 : List Int) (x179 : Int) (v176 : Value), Slots a 41 [(2, (bp b49)), (5, v176), (6, (.int .i64 x179))] ∧ Heap w0 [bA b49 [(.int .i64 a0.1), (.int .i64 a0.2.1), v33, v35] 30, oA (rList (rInt .i64)) v176 xs177] w ∧ iter f302 n (xs177, x179) = some res300) _ ⟨x54, (0 : Int), v56, S.sub ⟨rfl, rfl, rfl, trivial⟩, H, hit301⟩ ?_
  rintro n a w ⟨xs177, x179, v176, S, H, hit301⟩
  obtain ⟨m309, o310, rfl, hm, hc311⟩ := iter_step hit301
  rw [hf303] at hm
  refine wp_seq (wp_seq (region_plain ?_))
  refine lq (.int .i64 x179) S (q_move rfl) fun a S => ?_
  refine lq v176 S (q_move rfl) fun a S => ?_
  refine lq (.int .i64 (xs177.length : Int)) S (q_lenSl rfl (H.isSl 1 rfl) rfl Tryz.underlying34) fun a S => ?_
  refine lq (.bool (decide (x179 < (xs177.length : Int)))) S (q_lss rfl rfl) fun a S => ?_
  refine lx_nil (thenN ?_)
  refine cond_b S rfl (fun hc312 => ?_) (fun hc312 => ?_)
  ·have hm := ite_t hc312 hm
   refine wp_skip (thenN ?_)
   refine wp_seq ?_
   refine wp_block ?_
   refine wp_seq ?_
   refine region_drawG (fun w1 => Heap w0 [bA b49 [(.int .i64 a0.1), (.int .i64 a0.2.1), v33, v35] 30, oA (rList (rInt .i64)) v176 xs177] w1) (fun i => [5, 6].contains i) mixed (by kernel_rfl) (fun w314 he313 => ?_)
   have H := H.later he313
   refine ⟨H.sel [0, 1] (by decide), ?_⟩
   refine lq (.agg #[(.int .i64 a0.1), (.int .i64 a0.2.1), v33, v35]) S (q_loadA (cs := [(.int .i64 a0.1), (.int .i64 a0.2.1), v33, v35]) rfl (isP_bp _) Tryz.isAgg30 Tryz.sizeOf30 (fun w1 hC => (fun j u hu => boxAt (i := 0) hC rfl hu))) fun a S => ?_
   refine lq v176 S (q_move rfl) fun a S => ?_
   refine lq (.int .i64 x179) S (q_move rfl) fun a S => ?_
   obtain ⟨x315, e316, hm⟩ := bind_some hm
   have hlt := lt_of_idx (idx_some e316).2
   refine lq (ePtr v176 (x179.toNat * 1)) S (q_indexAddr rfl (H.isSl 1 rfl) rfl (idx_some e316).1 hlt Tryz.underlying34 Tryz.sizeOf2) fun a S => ?_
   refine lq (.int .i64 x315) S (q_load1 rfl Tryz.isAgg2 (fun w1 hC => ((hC.rdAt 1 rfl).elemAt (j := 0) (idx_some e316).2 (by intro B w cs h; obtain rfl := h; rfl)))) fun a S => ?_
   refine lx_buildSlice (r := (rInt .i64)) (xs := [x315]) (ps := [(0, [(.int .i64 x315)])]) (cs := [(.int .i64 x315)]) (parts := [(0, .tmp 21)]) S trivial (by decide) rfl (H.put0 (A := eA) rfl) rfl Tryz.underlying34 Tryz.sizeOf2 Tryz.zeroValue2 (by decide) ⟨rfl, rfl, Nat.le_of_ble_eq_true rfl, trivial⟩ (by intro zs hz; exact fill_dense hz ⟨rfl, trivial⟩ rfl rfl) rfl (by decide) (fun w F hA => by cases (show F = [] from hA); exact ⟨_, _, [(.int .i64 x315)], _, rfl, rfl, ⟨rfl, rfl⟩, ⟨rfl, rfl⟩⟩) (fun v317 w318 H => ⟨H.sel [1, 2] (by decide), fun a S => ?_⟩)
   obtain ⟨x322, e323, hm⟩ := bind_some hm
   refine lx_call (xs := [.tmp 17, .tmp 22, .const (sv [116, 97, 117])]) S trivial (by decide) rfl rfl Tryz.call109 ((impl_Lts_follow_ok ⟨[(.int .i64 a0.1), (.int .i64 a0.2.1), v33, v35], rfl, ⟨[(.int .i64 a0.1)], [(.int .i64 a0.2.1), v33, v35], rfl, rfl, ⟨[(.int .i64 a0.2.1)], [v33, v35], rfl, rfl, ⟨[v33], [v35], rfl, ((H.arg h34)).list_rd, ((H.arg h36)).list_rd⟩⟩⟩⟩ (H.rdAt 0 rfl)  e323).mono ?_)
   rintro e w320 ⟨v324, rfl, Hc321⟩
   have H := H.call1 Hc321
   refine ⟨_, rfl, H.sel [2, 3] (by decide), fun a S => ?_⟩
   refine lq (.int .i64 (x322.length : Int)) S (q_lenSl rfl (H.isSl 0 rfl) rfl Tryz.underlying34) fun a S => ?_
   refine lq (.int .i64 (0 : Int)) S (q_move rfl) fun a S => ?_
   refine lx_nil (thenN ?_)
   obtain ⟨res392, hit393, hk396⟩ := bind_some hm
   obtain ⟨f394, hf395, hit393⟩ := iter_name hit393
   refine block_loop (fun a w => ∃ (xs390 : List Int) (v389 : Value), Slots a 41 [(2, (bp b49)), (5, v389), (6, (.int .i64 x179))] ∧ Heap w0 [bA b49 [(.int .i64 a0.1), (.int .i64 a0.2.1), v33, v35] 30, oA (rList (rInt .i64)) v389 xs390] w ∧ res392 = .inl (xs390)) ?_ ?_
   ·rintro a w ⟨xs390, v389, S, H, rfl⟩
    have hm := ctl_inl hk396
    refine inBlock_norm ?_
    refine thenN ?_
    refine region_plain ?_
    refine lq (.int .i64 x179) S (q_move rfl) fun a S => ?_
    refine lq (.int .i64 (W (x179 + (1 : Int)))) S (q_add rfl rfl) fun a S => ?_
    refine lq (.int .i64 (W (x179 + (1 : Int)))) S (q_assign rfl) fun a S => ?_
    refine lx_nil ?_
    exact ⟨m309, Nat.lt_succ_self _, xs390, (W (x179 + (1 : Int))), v389, S.sub ⟨rfl, rfl, rfl, trivial⟩, H, it_cont hm hc311⟩
   ·skip
    have H : Heap w0 [oA (rList (rInt .i64)) v176 xs177, oA (rList (rInt .i64)) v324 x322, oA (rList (rInt .i64)) v317 [x315], bA b49 [(.int .i64 a0.1), (.int .i64 a0.2.1), v33, v35] 30] w320 := H.front 3 rfl
    have H : Heap w0 [bA b49 [(.int .i64 a0.1), (.int .i64 a0.2.1), v33, v35] 30, oA (rList (rInt .i64)) v176 xs177, oA (rList (rInt .i64)) v324 x322, oA (rList (rInt .i64)) v317 [x315]] w320 := H.front 3 rfl
    have H : Heap w0 [bA b49 [(.int .i64 a0.1), (.int .i64 a0.2.1), v33, v35] 30, oA (rList (rInt .i64)) v176 xs177, oA (rList (rInt .i64)) v324 x322] w320 := H.sel [0, 1, 2] (by decide)
    refine loop_ghost (fun n a w => ∃ (xs357 : List Int) (x359 : Int) (v356 : Value), Slots a 41 [(2, (bp b49)), (5, v356), (6, (.int .i64 x179)), (23, v324), (24, (.int .i64 (x322.length : Int))), (25, (.int .i64 x359))] ∧ Heap w0 [bA b49 [(.int .i64 a0.1), (.int .i64 a0.2.1), v33, v35] 30, oA (rList (rInt .i64)) v356 xs357, oA (rList (rInt .i64)) v324 x322] w ∧ iter f394 n (xs357, x359) = some res392) _ ⟨xs177, (0 : Int), v176, S.sub ⟨rfl, rfl, rfl, rfl, rfl, rfl, trivial⟩, H, hit393⟩ ?_
    rintro n a w ⟨xs357, x359, v356, S, H, hit393⟩
    obtain ⟨m397, o398, rfl, hm, hc399⟩ := iter_step hit393
    rw [hf395] at hm
    refine wp_seq (region_plain ?_)
    refine lq (.bool (decide (x359 < (x322.length : Int)))) S (q_lss rfl rfl) fun a S => ?_
    refine lx_nil (thenN ?_)
    refine wp_seq ?_
    refine cond_b S rfl (fun hc400 => ?_) (fun hc400 => ?_)
    ·have hm := ite_t hc400 hm
     refine wp_skip (thenN ?_)
     obtain ⟨K404, hK405, hm⟩ := join_elim hm
     refine seq_cut (fun a w => ∃ (xs402 : List Int) (v401 : Value), Slots a 41 [(2, (bp b49)), (5, v401), (6, (.int .i64 x179)), (23, v324), (24, (.int .i64 (x322.length : Int))), (25, (.int .i64 x359))] ∧ Heap w0 [bA b49 [(.int .i64 a0.1), (.int .i64 a0.2.1), v33, v35] 30, oA (rList (rInt .i64)) v401 xs402, oA (rList (rInt .i64)) v324 x322] w ∧ K404 xs402 = some o398) ?_ ?_
     ·rintro a w ⟨xs402, v401, S, H, hm⟩
      subst hK405
      refine region_plain ?_
      refine lq (.int .i64 (W (x359 + (1 : Int)))) S (q_add rfl rfl) fun a S => ?_
      refine lq (.int .i64 (W (x359 + (1 : Int)))) S (q_move rfl) fun a S => ?_
      refine lx_nil ?_
      exact ⟨m397, Nat.lt_succ_self _, xs402, (W (x359 + (1 : Int))), v401, S.sub ⟨rfl, rfl, rfl, rfl, rfl, rfl, trivial⟩, H, it_cont hm hc399⟩
     ·skip
      refine wp_block ?_
      refine wp_seq (region_plain ?_)
      obtain ⟨x406, e407, hm⟩ := bind_some hm
      have hlt := lt_of_idx (idx_some e407).2
      refine lq (ePtr v324 (x359.toNat * 1)) S (q_indexAddr rfl (H.isSl 2 rfl) rfl (idx_some e407).1 hlt Tryz.underlying34 Tryz.sizeOf2) fun a S => ?_
      obtain ⟨c408, h409, hat410⟩ := (H.rdAt 2 rfl).elem (idx_some e407).2
      obtain rfl := h409
      refine lx_e (.int .i64 x406) S trivial (by decide) rfl trivial (q_load1 rfl Tryz.isAgg2 (by rintro _ rfl; exact (hat410 0 _ rfl))) (fun a S => ?_)
      refine lq (.int .i64 x406) S (q_assign rfl) fun a S => ?_
      refine lx_nil (thenN ?_)
      refine wp_seq (region_plain ?_)
      refine lq v356 S (q_move rfl) fun a S => ?_
      refine lq (.int .i64 x406) S (q_move rfl) fun a S => ?_
      obtain ⟨x413, e414, hm⟩ := bind_some hm
      refine lx_call (xs := [.tmp 29, .tmp 30]) S trivial (by decide) rfl rfl Tryz.call145 ((slices_Contains__int64_int64_ok (H.rdAt 1 rfl)  e414).mono ?_)
      rintro e w411 ⟨rfl, Hc412⟩
      have H := H.call0 Hc412
      refine ⟨_, rfl, trivial, fun a S => ?_⟩
      refine lq (.bool (!x413)) S (q_not rfl) fun a S => ?_
      refine lx_nil (thenN ?_)
      refine cond_b S rfl (fun hc416 => ?_) (fun hc416 => ?_)
      ·have hm := ite_t hc416 hm
       refine region_plain ?_
       refine lq v356 S (q_move rfl) fun a S => ?_
       refine lq (.int .i64 x406) S (q_move rfl) fun a S => ?_
       refine lx_buildSlice (r := (rInt .i64)) (xs := [x406]) (ps := [(0, [(.int .i64 x406)])]) (cs := [(.int .i64 x406)]) (parts := [(0, .tmp 34)]) S trivial (by decide) rfl (H.put0 (A := eA) rfl) rfl Tryz.underlying34 Tryz.sizeOf2 Tryz.zeroValue2 (by decide) ⟨rfl, rfl, Nat.le_of_ble_eq_true rfl, trivial⟩ (by intro zs hz; exact fill_dense hz ⟨rfl, trivial⟩ rfl rfl) rfl (by decide) (fun w F hA => by cases (show F = [] from hA); exact ⟨_, _, [(.int .i64 x406)], _, rfl, rfl, ⟨rfl, rfl⟩, ⟨rfl, rfl⟩⟩) (fun v417 w418 H => ⟨trivial, fun a S => ?_⟩)
       obtain ⟨x420, e421, hm⟩ := bind_some hm
       obtain ⟨hle, hap⟩ := app_some e421
       replace hap := hap.symm
       subst hap
       have H : Heap w0 [oA (rList (rInt .i64)) v417 [x406], bA b49 [(.int .i64 a0.1), (.int .i64 a0.2.1), v33, v35] 30, oA (rList (rInt .i64)) v356 xs357, oA (rList (rInt .i64)) v324 x322] w418 := H.front 0 rfl
       have H : Heap w0 [oA (rList (rInt .i64)) v356 xs357, oA (rList (rInt .i64)) v417 [x406], bA b49 [(.int .i64 a0.1), (.int .i64 a0.2.1), v33, v35] 30, oA (rList (rInt .i64)) v324 x322] w418 := H.front 2 rfl
       refine lx_appendOwn (r := (rInt .i64)) S trivial (by decide) rfl H rfl rfl Tryz.underlying34 Tryz.ti2 rfl rfl rfl (by decide) (by decide) hle (fun v422 w423 H => ⟨trivial, fun a S => ?_⟩)
       refine lq v422 S (q_assign rfl) fun a S => ?_
       refine lx_nil ?_
       refine inBlock_norm ?_
       have H : Heap w0 [oA (rList (rInt .i64)) v324 x322, oA (rList (rInt .i64)) v422 (xs357 ++ [x406]), bA b49 [(.int .i64 a0.1), (.int .i64 a0.2.1), v33, v35] 30] w423 := H.front 2 rfl
       have H : Heap w0 [oA (rList (rInt .i64)) v422 (xs357 ++ [x406]), oA (rList (rInt .i64)) v324 x322, bA b49 [(.int .i64 a0.1), (.int .i64 a0.2.1), v33, v35] 30] w423 := H.front 1 rfl
       have H : Heap w0 [bA b49 [(.int .i64 a0.1), (.int .i64 a0.2.1), v33, v35] 30, oA (rList (rInt .i64)) v422 (xs357 ++ [x406]), oA (rList (rInt .i64)) v324 x322] w423 := H.front 2 rfl
       exact ⟨(xs357 ++ [x406]), v422, S.sub ⟨rfl, rfl, rfl, rfl, rfl, rfl, trivial⟩, H, hm⟩
      ·have hm := ite_f hc416 hm
       refine wp_skip ?_
       refine inBlock_norm ?_
       exact ⟨xs357, v356, S.sub ⟨rfl, rfl, rfl, rfl, rfl, rfl, trivial⟩, H, hm⟩
    ·have hm := ite_f hc400 hm
     refine wp_exit ?_
     refine then_exit ?_
     refine then_exit ?_
     refine inBlock_exit ?_
     obtain rfl := it_brk hm hc399
     have H : Heap w0 [bA b49 [(.int .i64 a0.1), (.int .i64 a0.2.1), v33, v35] 30, oA (rList (rInt .i64)) v356 xs357] w := H.sel [0, 1] (by decide)
     exact ⟨xs357, v356, S.sub ⟨rfl, rfl, rfl, trivial⟩, H, rfl⟩
  ·have hm := ite_f hc312 hm
   refine wp_exit ?_
   refine then_exit ?_
   refine then_exit ?_
   refine inBlock_exit ?_
   obtain rfl := it_brk hm hc311
   have H : Heap w0 [oA (rList (rInt .i64)) v176 xs177] w := H.sel [1] (by decide)
   exact ⟨xs177, v176, S.sub ⟨rfl, trivial⟩, H, rfl⟩
end Go.Proofs.YtkgkfbmcnchdbaaGreatDoor
