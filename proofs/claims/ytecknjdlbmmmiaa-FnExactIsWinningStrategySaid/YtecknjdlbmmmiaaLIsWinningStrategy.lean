/- The model of a statement and its walk (printed by a program of this repo). -/
import Derived.Test.YtecknjdlbmmmiaaF0
import Derived.Test.YtecknjdlbmmmiaaF1
import Derived.Test.YtecknjdlbmmmiaaF2
import Derived.Test.YtecknjdlbmmmiaaF3
import Derived.Test.YtecknjdlbmmmiaaF5
import Derived.Test.YtecknjdlbmmmiaaF6
import Derived.Test.YtecknjdlbmmmiaaF7
import Derived.Test.YtecknjdlbmmmiaaGxMx
import Derived.Test.YtecknjdlbmmmiaaGxT
import Derived.Test.YtecknjdlbmmmiaaGxY
namespace Go.Proofs.Ytecknjdlbmmmiaa
open Go.RowKit Go.Gx

/-- spec.l23Set -/
def spec_l23Set_m (fuel : Nat) (a0 : Int) (a1 : (List Int)) : Option ((List Bool)) :=
  (mks a0 false).bind fun x31 => (iter (fun (s : (List Bool) × (Int)) => (match s with | (xs48, x49) => (if (decide (x49 < (a1.length : Int))) = true then (idx a1 x49).bind fun x71 => (idx xs48 x71).bind fun _ => some (.inl ((xs48.set x71.toNat true), (W (x49 + (1 : Int))))) else some (.inr (.inl (xs48)))) : Option (((List Bool) × (Int)) ⊕ (((List Bool)) ⊕ ((List Bool)))))) fuel (x31, (0 : Int))).bind fun res62 => ctl (β := (List Bool)) (ρ := (List Bool)) (τ := (List Bool)) res62 (fun (xs61) => some (xs61)) (fun q => some (q))
set_option maxRecDepth 20000 in
theorem spec_l23Set_ok {w0 : World} {fuel : Nat} {p1 : Value} {a0 : Int} {a1 : (List Int)} {r : (List Bool)} (h1 : Rd (rList (rInt .i64)) w0 p1 a1) (hm : spec_l23Set_m fuel a0 a1 = some r) :
  Calls Try.prog 110 #[.int .i64 a0, p1] w0 fun e w => ∃ (v0 : Value), e = .returned (v0) ∧ Heap w0 [oA (rList rBool) v0 r] w := by
 unfold spec_l23Set_m at hm
 have H := Heap.start w0
 refine enter (args := [.int .i64 a0, p1]) Try.func110 rfl 22 rfl (Nat.le_of_ble_eq_true rfl) (fun a S => ?_)
 refine wp_seq (region_plain ?_)
 refine lq (.slice none 0 0) S (q_assign rfl) fun a S => ?_
 refine lx_nil (thenN ?_)
 refine wp_seq (region_plain ?_)
 refine lq (.int .i64 a0) S (q_move rfl) fun a S => ?_
 obtain ⟨x31, e32, hm⟩ := bind_some hm
 obtain ⟨m33, hn, hn2, rfl⟩ := mks_some e32
 refine lx_make (r := rBool) (z0 := false) (n := m33) S trivial (by decide) rfl H (by rw [← hn]; rfl) (by rw [← hn]; rfl) Try.underlying113 (Try.ti4) rfl rfl (Nat.le_of_ble_eq_true rfl) (fun w => ⟨rfl, rfl⟩) hn2 (by decide) (fun v34 w35 H => ⟨trivial, fun a S => ?_⟩)
 refine lq v34 S (q_assign rfl) fun a S => ?_
 refine lx_nil (thenN ?_)
 refine wp_seq (wp_seq (region_plain ?_))
 refine lq (.int .i64 (0 : Int)) S (q_assign rfl) fun a S => ?_
 refine lx_nil (thenN ?_)
 obtain ⟨res62, hit63, hk66⟩ := bind_some hm
 obtain ⟨f64, hf65, hit63⟩ := iter_name hit63
 refine block_loop (fun a w => ∃ (xs61 : List Bool), Slots a 22 [(5, v34)] ∧ Heap w0 [oA (rList rBool) v34 xs61] w ∧ res62 = .inl (xs61)) ?_ ?_
 ·rintro a w ⟨xs61, S, H, rfl⟩
  have hm := ctl_inl hk66
  refine thenN ?_
  refine wp_seq (region_plain ?_)
  refine lq v34 S (q_move rfl) fun a S => ?_
  refine lq v34 S (q_assign rfl) fun a S => ?_
  refine lx_nil (thenN ?_)
  refine wp_ret ?_
  obtain rfl := Option.some.inj hm
  exact leave1 S rfl rfl ⟨v34, rfl, H⟩
 ·skip
  refine loop_ghost (fun n a w => ∃ (xs48 : List Bool) (x49 : Int), Slots a 22 [(1, p1), (5, v34), (6, (.int .i64 x49))] ∧ Heap w0 [oA (rList rBool) v34 xs48] w ∧ iter f64 n (xs48, x49) = some res62) _ ⟨(List.replicate m33 false), (0 : Int), S.sub ⟨rfl, rfl, rfl, trivial⟩, H, hit63⟩ ?_
  rintro n a w ⟨xs48, x49, S, H, hit63⟩
  obtain ⟨m67, o68, rfl, hm, hc69⟩ := iter_step hit63
  rw [hf65] at hm
  refine wp_seq (wp_seq (region_plain ?_))
  refine lq (.int .i64 x49) S (q_move rfl) fun a S => ?_
  refine lq p1 S (q_move rfl) fun a S => ?_
  refine lq (.int .i64 (a1.length : Int)) S (q_lenSl rfl (h1).isSl rfl Try.underlying23) fun a S => ?_
  refine lq (.bool (decide (x49 < (a1.length : Int)))) S (q_lss rfl rfl) fun a S => ?_
  refine lx_nil (thenN ?_)
  refine cond_b S rfl (fun hc70 => ?_) (fun hc70 => ?_)
  ·have hm := ite_t hc70 hm
   refine wp_skip (thenN ?_)
   refine wp_seq ?_
   refine wp_block ?_
   refine region_plain ?_
   refine lq v34 S (q_move rfl) fun a S => ?_
   refine lq p1 S (q_move rfl) fun a S => ?_
   refine lq (.int .i64 x49) S (q_move rfl) fun a S => ?_
   obtain ⟨x71, e72, hm⟩ := bind_some hm
   obtain ⟨c73, h74, hat75⟩ := (h1).elem (idx_some e72).2
   obtain rfl := h74
   have hlt := lt_of_idx (idx_some e72).2
   refine lq (ePtr p1 (x49.toNat * 1)) S (q_indexAddr rfl (h1).isSl rfl (idx_some e72).1 hlt Try.underlying23 Try.sizeOf2) fun a S => ?_
   refine lx_e (.int .i64 x71) S trivial (by decide) rfl trivial (q_load1 rfl Try.isAgg2 (by rintro _ rfl; exact ((hat75 0 _ rfl).ext H.ext))) (fun a S => ?_)
   obtain ⟨x76, e77, hm⟩ := bind_some hm
   have hlt := lt_of_idx (idx_some e77).2
   refine lq (ePtr v34 (x71.toNat * 1)) S (q_indexAddr rfl (H.isSl 0 rfl) rfl (idx_some e77).1 hlt Try.underlying113 Try.sizeOf4) fun a S => ?_
   refine lx_storeElem (r := rBool) (us := [(.bool true)]) (off := 0) (e' := true) S trivial rfl H.putE (ev_zero rfl) rfl (idx_some e77).2 rfl Try.sizeOf4 (Nat.le_of_ble_eq_true rfl) (List.forall_mem_cons.2 ⟨rfl, (fun _ h => nomatch h)⟩) (Upd.full rfl (fun w G hG => by cases (show G = [] from hG); exact ⟨rfl, rfl⟩)) (fun w78 H => ⟨trivial, fun a S => ?_⟩)
   refine lx_nil ?_
   refine inBlock_norm ?_
   refine thenN ?_
   refine region_plain ?_
   refine lq (.int .i64 x49) S (q_move rfl) fun a S => ?_
   refine lq (.int .i64 (W (x49 + (1 : Int)))) S (q_add rfl rfl) fun a S => ?_
   refine lq (.int .i64 (W (x49 + (1 : Int)))) S (q_assign rfl) fun a S => ?_
   refine lx_nil ?_
   exact ⟨m67, Nat.lt_succ_self _, (xs48.set x71.toNat true), (W (x49 + (1 : Int))), S.sub ⟨rfl, rfl, rfl, trivial⟩, H, it_cont hm hc69⟩
  ·have hm := ite_f hc70 hm
   refine wp_exit ?_
   refine then_exit ?_
   refine then_exit ?_
   refine inBlock_exit ?_
   obtain rfl := it_brk hm hc69
   exact ⟨xs48, S.sub ⟨rfl, trivial⟩, H, rfl⟩

/-- spec.l00Has -/
def spec_l00Has_m (fuel : Nat) (a0 : (List Int)) (a1 : Int) : Option (Bool) :=
  (iter (fun (s : (Int)) => (match s with | (x39) => (if (decide (x39 < (a0.length : Int))) = true then (idx a0 x39).bind fun x57 => (if (x57 == a1) = true then some (.inr (.inr true)) else some (.inl ((W (x39 + (1 : Int)))))) else some (.inr (.inl ()))) : Option (((Int)) ⊕ ((Unit) ⊕ (Bool))))) fuel ((0 : Int))).bind fun res48 => ctl (β := Unit) (ρ := Bool) (τ := Bool) res48 (fun _ => some (false)) (fun q => some (q))
set_option maxRecDepth 20000 in
theorem spec_l00Has_ok {w0 : World} {fuel : Nat} {p0 : Value} {a0 : (List Int)} {a1 : Int} {r : Bool} (h0 : Rd (rList (rInt .i64)) w0 p0 a0) (hm : spec_l00Has_m fuel a0 a1 = some r) :
  Calls Try.prog 111 #[p0, .int .i64 a1] w0 fun e w => e = .returned (.bool r) ∧ Heap w0 [] w := by
 unfold spec_l00Has_m at hm
 have H := Heap.start w0
 refine enter (args := [p0, .int .i64 a1]) Try.func111 rfl 18 rfl (Nat.le_of_ble_eq_true rfl) (fun a S => ?_)
 refine wp_seq (region_plain ?_)
 refine lq (.bool false) S (q_assign rfl) fun a S => ?_
 refine lx_nil (thenN ?_)
 refine wp_seq (wp_seq (region_plain ?_))
 refine lq (.int .i64 (0 : Int)) S (q_assign rfl) fun a S => ?_
 refine lx_nil (thenN ?_)
 obtain ⟨res48, hit49, hk52⟩ := bind_some hm
 obtain ⟨f50, hf51, hit49⟩ := iter_name hit49
 refine block_loop (fun a w => Slots a 18 [] ∧ Heap w0 [] w ∧ res48 = .inl ()) ?_ ?_
 ·rintro a w ⟨S, H, rfl⟩
  have hm := ctl_inl hk52
  refine thenN ?_
  refine wp_seq (region_plain ?_)
  refine lq (.bool false) S (q_assign rfl) fun a S => ?_
  refine lx_nil (thenN ?_)
  refine wp_ret ?_
  obtain rfl := Option.some.inj hm
  exact leave1 S rfl rfl ⟨rfl, H⟩
 ·skip
  refine loop_ghost (fun n a w => ∃ (x39 : Int), Slots a 18 [(0, p0), (1, (.int .i64 a1)), (5, (.int .i64 x39))] ∧ Heap w0 [] w ∧ iter f50 n (x39) = some res48) _ ⟨(0 : Int), S.sub ⟨rfl, rfl, rfl, trivial⟩, H, hit49⟩ ?_
  rintro n a w ⟨x39, S, H, hit49⟩
  obtain ⟨m53, o54, rfl, hm, hc55⟩ := iter_step hit49
  rw [hf51] at hm
  refine wp_seq (wp_seq (region_plain ?_))
  refine lq (.int .i64 x39) S (q_move rfl) fun a S => ?_
  refine lq p0 S (q_move rfl) fun a S => ?_
  refine lq (.int .i64 (a0.length : Int)) S (q_lenSl rfl (h0).isSl rfl Try.underlying23) fun a S => ?_
  refine lq (.bool (decide (x39 < (a0.length : Int)))) S (q_lss rfl rfl) fun a S => ?_
  refine lx_nil (thenN ?_)
  refine cond_b S rfl (fun hc56 => ?_) (fun hc56 => ?_)
  ·have hm := ite_t hc56 hm
   refine wp_skip (thenN ?_)
   refine wp_seq ?_
   refine wp_block ?_
   refine wp_seq (region_plain ?_)
   refine lq p0 S (q_move rfl) fun a S => ?_
   refine lq (.int .i64 x39) S (q_move rfl) fun a S => ?_
   obtain ⟨x57, e58, hm⟩ := bind_some hm
   obtain ⟨c59, h60, hat61⟩ := (h0).elem (idx_some e58).2
   obtain rfl := h60
   have hlt := lt_of_idx (idx_some e58).2
   refine lq (ePtr p0 (x39.toNat * 1)) S (q_indexAddr rfl (h0).isSl rfl (idx_some e58).1 hlt Try.underlying23 Try.sizeOf2) fun a S => ?_
   refine lx_e (.int .i64 x57) S trivial (by decide) rfl trivial (q_load1 rfl Try.isAgg2 (by rintro _ rfl; exact ((hat61 0 _ rfl).ext H.ext))) (fun a S => ?_)
   refine lq (.int .i64 a1) S (q_move rfl) fun a S => ?_
   refine lq (.bool (x57 == a1)) S (q_eql rfl rfl) fun a S => ?_
   refine lx_nil (thenN ?_)
   refine cond_b S rfl (fun hc62 => ?_) (fun hc62 => ?_)
   ·have hm := ite_t hc62 hm
    refine wp_seq (region_plain ?_)
    refine lq (.bool true) S (q_assign rfl) fun a S => ?_
    refine lx_nil (thenN ?_)
    refine wp_ret (inBlock_ret ?_)
    refine then_ret ?_
    refine then_ret ?_
    refine inBlock_ret ?_
    refine then_ret ?_
    refine then_ret ?_
    obtain rfl := it_brk hm hc55
    have hm := ctl_inr hk52
    obtain rfl := Option.some.inj hm
    exact leave1 S rfl rfl ⟨rfl, H⟩
   ·have hm := ite_f hc62 hm
    refine wp_skip ?_
    refine inBlock_norm ?_
    refine thenN ?_
    refine region_plain ?_
    refine lq (.int .i64 x39) S (q_move rfl) fun a S => ?_
    refine lq (.int .i64 (W (x39 + (1 : Int)))) S (q_add rfl rfl) fun a S => ?_
    refine lq (.int .i64 (W (x39 + (1 : Int)))) S (q_assign rfl) fun a S => ?_
    refine lx_nil ?_
    exact ⟨m53, Nat.lt_succ_self _, (W (x39 + (1 : Int))), S.sub ⟨rfl, rfl, rfl, trivial⟩, H, it_cont hm hc55⟩
  ·have hm := ite_f hc56 hm
   refine wp_exit ?_
   refine then_exit ?_
   refine then_exit ?_
   refine inBlock_exit ?_
   obtain rfl := it_brk hm hc55
   exact ⟨S.sub trivial, H, rfl⟩

/-- spec.l23Kept -/
def spec_l23Kept_m (fuel : Nat) (a0 : (List Timpl_Vertex)) (a1 : Int) (a2 : (List Int)) (a3 : (List Int)) : Option (((List Timpl_Vertex) × Bool)) :=
  (spec_l23Set_m fuel (a0.length : Int) a2).bind fun x33 => (spec_l23Own_m fuel a0).bind fun x40 => (iter (fun (s : (List Timpl_Vertex) × (Int)) => (match s with | (xs265, x266) => (if (decide (x266 < (a0.length : Int))) = true then join (κ := List Timpl_Vertex → Option (((List Timpl_Vertex) × (Int)) ⊕ (((List Timpl_Vertex)) ⊕ (((List Timpl_Vertex) × Bool))))) (fun (xs497 : List Timpl_Vertex) => some (.inl (xs497, (W (x266 + (1 : Int)))))) (fun K498 => (idx x33 x266).bind fun x500 => (if (!x500) = true then (idx xs265 x266).bind fun x509 => (K498 (xs265.set x266.toNat (x509.1, x509.2.1, ([] : List Int)))) else (idx a0 x266).bind fun x512 => (if (x512.1 == a1) = true then (idx a0 x266).bind fun x530 => (idx a3 x266).bind fun x545 => (spec_l00Has_m fuel x530.2.2 x545).bind fun x552 => (if (!x552) = true then some true else (idx a3 x266).bind fun x558 => (idx x33 x558).bind fun x563 => some (!x563)).bind fun t555 => (if t555 = true then some (.inr (.inr ([], false))) else (idx a3 x266).bind fun x567 => (idx xs265 x266).bind fun x575 => (K498 (xs265.set x266.toNat (x575.1, x575.2.1, [x567])))) else (iter (fun (s : (Int)) => (match s with | (x621) => (idx a0 x266).bind fun x673 => (if (decide (x621 < (x673.2.2.length : Int))) = true then (idx a0 x266).bind fun x689 => (idx x689.2.2 x621).bind fun x704 => (idx x33 x704).bind fun x709 => (if (!x709) = true then some (.inr (.inr ([], false))) else some (.inl ((W (x621 + (1 : Int)))))) else some (.inr (.inl ()))) : Option (((Int)) ⊕ ((Unit) ⊕ (((List Timpl_Vertex) × Bool)))))) fuel ((0 : Int))).bind fun res665 => ctl (β := Unit) (ρ := ((List Timpl_Vertex) × Bool)) (τ := (((List Timpl_Vertex) × (Int)) ⊕ (((List Timpl_Vertex)) ⊕ (((List Timpl_Vertex) × Bool))))) res665 (fun _ => (K498 xs265)) (fun q => some (.inr (.inr q)))))) else some (.inr (.inl (xs265)))) : Option (((List Timpl_Vertex) × (Int)) ⊕ (((List Timpl_Vertex)) ⊕ (((List Timpl_Vertex) × Bool)))))) fuel (x40, (0 : Int))).bind fun res488 => ctl (β := (List Timpl_Vertex)) (ρ := ((List Timpl_Vertex) × Bool)) (τ := ((List Timpl_Vertex) × Bool)) res488 (fun (xs487) => some ((xs487, true))) (fun q => some (q))
set_option maxRecDepth 20000 in
theorem spec_l23Kept_ok {w0 : World} {fuel : Nat} {p0 p2 p3 : Value} {a0 : (List Timpl_Vertex)} {a1 : Int} {a2 : (List Int)} {a3 : (List Int)} {r : ((List Timpl_Vertex) × Bool)} (h0 : Rd (rList Rimpl_Vertex) w0 p0 a0) (h2 : Rd (rList (rInt .i64)) w0 p2 a2) (h3 : Rd (rList (rInt .i64)) w0 p3 a3) (hm : spec_l23Kept_m fuel a0 a1 a2 a3 = some r) :
  Calls Try.prog 56 #[p0, .int .i64 a1, p2, p3] w0 fun e w => ∃ (v0 : Value), e = .returned (.tuple #[v0, .bool r.2]) ∧ Heap w0 [oA (rList Rimpl_Vertex) v0 r.1] w := by
 unfold spec_l23Kept_m at hm
 have H := Heap.start w0
 refine enter (args := [p0, .int .i64 a1, p2, p3]) Try.func56 rfl 96 rfl (Nat.le_of_ble_eq_true rfl) (fun a S => ?_)
 refine wp_seq (region_plain ?_)
 refine lq (.slice none 0 0) S (q_assign rfl) fun a S => ?_
 refine lq (.bool false) S (q_assign rfl) fun a S => ?_
 refine lx_nil (thenN ?_)
 refine wp_seq (region_plain ?_)
 refine lq p0 S (q_move rfl) fun a S => ?_
 refine lq (.int .i64 (a0.length : Int)) S (q_lenSl rfl (h0).isSl rfl Try.underlying26) fun a S => ?_
 refine lq p2 S (q_move rfl) fun a S => ?_
 obtain ⟨x33, e34, hm⟩ := bind_some hm
 refine lx_call (xs := [.tmp 15, .tmp 16]) S trivial (by decide) rfl rfl Try.call110 ((spec_l23Set_ok  (H.arg h2) e34).mono ?_)
 rintro e w31 ⟨v35, rfl, Hc32⟩
 have H := H.call1 Hc32
 refine ⟨_, rfl, trivial, fun a S => ?_⟩
 refine lq v35 S (q_assign rfl) fun a S => ?_
 refine lx_nil (thenN ?_)
 refine wp_seq (region_plain ?_)
 refine lq p0 S (q_move rfl) fun a S => ?_
 obtain ⟨x40, e41, hm⟩ := bind_some hm
 refine lx_call (xs := [.tmp 18]) S trivial (by decide) rfl rfl Try.call100 ((spec_l23Own_ok (H.arg h0) e41).mono ?_)
 rintro e w38 ⟨v42, rfl, Hc39⟩
 have H := H.call1 Hc39
 refine ⟨_, rfl, trivial, fun a S => ?_⟩
 refine lq v42 S (q_assign rfl) fun a S => ?_
 refine lx_nil (thenN ?_)
 refine wp_seq (wp_seq (region_plain ?_))
 refine lq (.int .i64 (0 : Int)) S (q_assign rfl) fun a S => ?_
 refine lx_nil (thenN ?_)
 obtain ⟨res488, hit489, hk492⟩ := bind_some hm
 obtain ⟨f490, hf491, hit489⟩ := iter_name hit489
 refine block_loop (fun a w => ∃ (xs487 : List Timpl_Vertex), Slots a 96 [(11, v42)] ∧ Heap w0 [oA (rList Rimpl_Vertex) v42 xs487] w ∧ res488 = .inl (xs487)) ?_ ?_
 ·rintro a w ⟨xs487, S, H, rfl⟩
  have hm := ctl_inl hk492
  refine thenN ?_
  refine wp_seq (region_plain ?_)
  refine lq v42 S (q_move rfl) fun a S => ?_
  refine lq v42 S (q_assign rfl) fun a S => ?_
  refine lq (.bool true) S (q_assign rfl) fun a S => ?_
  refine lx_nil (thenN ?_)
  refine wp_ret ?_
  obtain rfl := Option.some.inj hm
  exact leave2 S rfl rfl rfl ⟨v42, rfl, H⟩
 ·skip
  have H : Heap w0 [oA (rList rBool) v35 x33, oA (rList Rimpl_Vertex) v42 x40] w38 := H.front 1 rfl
  refine loop_ghost (fun n a w => ∃ (xs265 : List Timpl_Vertex) (x266 : Int), Slots a 96 [(0, p0), (1, (.int .i64 a1)), (3, p3), (10, v35), (11, v42), (12, (.int .i64 x266))] ∧ Heap w0 [oA (rList rBool) v35 x33, oA (rList Rimpl_Vertex) v42 xs265] w ∧ iter f490 n (xs265, x266) = some res488) _ ⟨x40, (0 : Int), S.sub ⟨rfl, rfl, rfl, rfl, rfl, rfl, trivial⟩, H, hit489⟩ ?_
  rintro n a w ⟨xs265, x266, S, H, hit489⟩
  obtain ⟨m493, o494, rfl, hm, hc495⟩ := iter_step hit489
  rw [hf491] at hm
  refine wp_seq (wp_seq (region_plain ?_))
  refine lq (.int .i64 x266) S (q_move rfl) fun a S => ?_
  refine lq p0 S (q_move rfl) fun a S => ?_
  refine lq (.int .i64 (a0.length : Int)) S (q_lenSl rfl (h0).isSl rfl Try.underlying26) fun a S => ?_
  refine lq (.bool (decide (x266 < (a0.length : Int)))) S (q_lss rfl rfl) fun a S => ?_
  refine lx_nil (thenN ?_)
  refine cond_b S rfl (fun hc496 => ?_) (fun hc496 => ?_)
  ·have hm := ite_t hc496 hm
   refine wp_skip (thenN ?_)
   obtain ⟨K498, hK499, hm⟩ := join_elim hm
   refine seq_cut (fun a w => ∃ (xs497 : List Timpl_Vertex), Slots a 96 [(0, p0), (1, (.int .i64 a1)), (3, p3), (10, v35), (11, v42), (12, (.int .i64 x266))] ∧ Heap w0 [oA (rList rBool) v35 x33, oA (rList Rimpl_Vertex) v42 xs497] w ∧ K498 xs497 = some o494) ?_ ?_
   ·rintro a w ⟨xs497, S, H, hm⟩
    subst hK499
    refine region_plain ?_
    refine lq (.int .i64 x266) S (q_move rfl) fun a S => ?_
    refine lq (.int .i64 (W (x266 + (1 : Int)))) S (q_add rfl rfl) fun a S => ?_
    refine lq (.int .i64 (W (x266 + (1 : Int)))) S (q_assign rfl) fun a S => ?_
    refine lx_nil ?_
    exact ⟨m493, Nat.lt_succ_self _, xs497, (W (x266 + (1 : Int))), S.sub ⟨rfl, rfl, rfl, rfl, rfl, rfl, trivial⟩, H, it_cont hm hc495⟩
   ·skip
    refine wp_block ?_
    refine wp_seq (wp_seq (region_plain ?_))
    refine lq v35 S (q_move rfl) fun a S => ?_
    refine lq (.int .i64 x266) S (q_move rfl) fun a S => ?_
    obtain ⟨x500, e501, hm⟩ := bind_some hm
    have hlt := lt_of_idx (idx_some e501).2
    refine lq (ePtr v35 (x266.toNat * 1)) S (q_indexAddr rfl (H.isSl 0 rfl) rfl (idx_some e501).1 hlt Try.underlying113 Try.sizeOf4) fun a S => ?_
    obtain ⟨c502, h503, hat504⟩ := (H.rdAt 0 rfl).elem (idx_some e501).2
    obtain rfl := h503
    refine lx_e (.bool x500) S trivial (by decide) rfl trivial (q_load1 rfl Try.isAgg4 (by rintro _ rfl; exact (hat504 0 _ rfl))) (fun a S => ?_)
    refine lq (.bool (!x500)) S (q_not rfl) fun a S => ?_
    refine lx_nil (thenN ?_)
    refine cond_b S rfl (fun hc505 => ?_) (fun hc505 => ?_)
    ·have hm := ite_t hc505 hm
     refine wp_seq (region_plain ?_)
     refine lq v42 S (q_move rfl) fun a S => ?_
     refine lq (.int .i64 x266) S (q_move rfl) fun a S => ?_
     refine lx_buildSlice0 (r := (rInt .i64)) S trivial (by decide) rfl H Try.underlying23 Try.sizeOf2 (fun v506 w507 H => ⟨trivial, fun a S => ?_⟩)
     obtain ⟨x509, e510, hm⟩ := bind_some hm
     have hlt := lt_of_idx (idx_some e510).2
     refine lq (ePtr v42 (x266.toNat * 3)) S (q_indexAddr rfl (H.isSl 2 rfl) rfl (idx_some e510).1 hlt Try.underlying26 Try.sizeOf71) fun a S => ?_
     refine lq (pAdd (ePtr v42 (x266.toNat * 3)) 2) S (q_fieldAddr' 2 23 rfl (((H.isSl 2 rfl)).ptr (lt_of_idx (idx_some e510).2) _) Try.underlying71 rfl Try.sizeOf23) fun a S => ?_
     have hcl : Value.cells v506 = List.toArray [v506] := (cells_sl (H.isSl 0 rfl))
     have hon : ∀ c ∈ ([v506] : List Value), c.oneCell' = true := (List.forall_mem_cons.2 ⟨one_sl (H.isSl 0 rfl), (fun _ h => nomatch h)⟩)
     have H : Heap w0 [oA (rList Rimpl_Vertex) v42 xs265, oA (rList (rInt .i64)) v506 ([] : List Int), oA (rList rBool) v35 x33] w507 := H.front 2 rfl
     refine lx_storeElem (r := Rimpl_Vertex) (us := [v506]) (off := 2) (e' := (x509.1, x509.2.1, ([] : List Int))) S trivial rfl H rfl rfl (idx_some e510).2 hcl Try.sizeOf23 (Nat.le_of_ble_eq_true rfl) hon (Upd.snd (off := 1) (Upd.snd (off := 0) (Upd.full rfl (fun w G hG => oA_list.1 hG)))) (fun w511 H => ⟨trivial, fun a S => ?_⟩)
     refine lx_nil (thenN ?_)
     refine wp_exit ?_
     refine then_exit ?_
     refine inBlock_exit ?_
     have H : Heap w0 [oA (rList rBool) v35 x33, oA (rList Rimpl_Vertex) v42 (xs265.set x266.toNat (x509.1, x509.2.1, ([] : List Int)))] w511 := H.front 1 rfl
     exact ⟨(xs265.set x266.toNat (x509.1, x509.2.1, ([] : List Int))), S.sub ⟨rfl, rfl, rfl, rfl, rfl, rfl, trivial⟩, H, hm⟩
    ·have hm := ite_f hc505 hm
     refine wp_skip (thenN ?_)
     refine wp_seq (wp_seq (region_plain ?_))
     refine lq p0 S (q_move rfl) fun a S => ?_
     refine lq (.int .i64 x266) S (q_move rfl) fun a S => ?_
     obtain ⟨x512, e513, hm⟩ := bind_some hm
     obtain ⟨c514, h515, hat516⟩ := (h0).elem (idx_some e513).2
     obtain ⟨c519, c520, rfl, h521, h522⟩ := h515
     obtain rfl := h521
     obtain ⟨c523, c524, rfl, h525, h526⟩ := h522
     obtain rfl := h525
     obtain ⟨v517, rfl, h518⟩ := rd_list h526
     have hlt := lt_of_idx (idx_some e513).2
     refine lq (ePtr p0 (x266.toNat * 3)) S (q_indexAddr rfl (h0).isSl rfl (idx_some e513).1 hlt Try.underlying26 Try.sizeOf71) fun a S => ?_
     refine lq (pAdd (ePtr p0 (x266.toNat * 3)) 0) S (q_fieldAddr' 0 2 rfl ((hat516 0 _ rfl).isP) Try.underlying71 rfl Try.sizeOf2) fun a S => ?_
     refine lx_e (.int .i64 x512.1) S trivial (by decide) rfl trivial (q_load1 rfl Try.isAgg2 (by rintro _ rfl; exact (At.of_add (m := 0) (j := 0) ((hat516 0 _ rfl).ext H.ext)))) (fun a S => ?_)
     refine lq (.int .i64 a1) S (q_move rfl) fun a S => ?_
     refine lq (.bool (x512.1 == a1)) S (q_eql rfl rfl) fun a S => ?_
     refine lx_nil (thenN ?_)
     refine cond_b S rfl (fun hc527 => ?_) (fun hc527 => ?_)
     ·have hm := ite_t hc527 hm
      refine wp_seq ?_
      refine wp_seq ?_
      refine region_drawG (fun w1 => Heap w0 [oA (rList rBool) v35 x33] w1) (fun i => [9].contains i) mixed (by kernel_rfl) (fun w529 he528 => ?_)
      have H := H.later he528
      refine ⟨H.sel [0] (by decide), ?_⟩
      refine lq p0 S (q_move rfl) fun a S => ?_
      refine lq (.int .i64 x266) S (q_move rfl) fun a S => ?_
      obtain ⟨x530, e531, hm⟩ := bind_some hm
      obtain ⟨c532, h533, hat534⟩ := (h0).elem (idx_some e531).2
      obtain ⟨c537, c538, rfl, h539, h540⟩ := h533
      obtain rfl := h539
      obtain ⟨c541, c542, rfl, h543, h544⟩ := h540
      obtain rfl := h543
      obtain ⟨v535, rfl, h536⟩ := rd_list h544
      have hlt := lt_of_idx (idx_some e531).2
      refine lq (ePtr p0 (x266.toNat * 3)) S (q_indexAddr rfl (h0).isSl rfl (idx_some e531).1 hlt Try.underlying26 Try.sizeOf71) fun a S => ?_
      refine lq (pAdd (ePtr p0 (x266.toNat * 3)) 2) S (q_fieldAddr' 2 23 rfl ((hat534 0 _ rfl).isP) Try.underlying71 rfl Try.sizeOf23) fun a S => ?_
      refine lq v535 S (q_load1 rfl Try.isAgg23 (fun w1 hC => (At.of_add (m := 2) (j := 0) ((hat534 2 _ rfl).ext hC.ext)))) fun a S => ?_
      refine lq p3 S (q_move rfl) fun a S => ?_
      refine lq (.int .i64 x266) S (q_move rfl) fun a S => ?_
      obtain ⟨x545, e546, hm⟩ := bind_some hm
      obtain ⟨c547, h548, hat549⟩ := (h3).elem (idx_some e546).2
      obtain rfl := h548
      have hlt := lt_of_idx (idx_some e546).2
      refine lq (ePtr p3 (x266.toNat * 1)) S (q_indexAddr rfl (h3).isSl rfl (idx_some e546).1 hlt Try.underlying23 Try.sizeOf2) fun a S => ?_
      refine lq (.int .i64 x545) S (q_load1 rfl Try.isAgg2 (fun w1 hC => ((hat549 0 _ rfl).ext hC.ext))) fun a S => ?_
      obtain ⟨x552, e553, hm⟩ := bind_some hm
      refine lx_call (xs := [.tmp 47, .tmp 51]) S trivial (by decide) rfl rfl Try.call111 ((spec_l00Has_ok (H.arg h536)  e553).mono ?_)
      rintro e w550 ⟨rfl, Hc551⟩
      have H := H.call0 Hc551
      refine ⟨_, rfl, H.sel [0] (by decide), fun a S => ?_⟩
      refine lq (.bool (!x552)) S (q_not rfl) fun a S => ?_
      refine lq (.bool (!x552)) S (q_move rfl) fun a S => ?_
      obtain ⟨t555, e556, hm⟩ := bind_some hm
      refine lx_cut 9 (fun a w => Slots a 96 [(0, p0), (1, (.int .i64 a1)), (3, p3), (10, v35), (11, v42), (12, (.int .i64 x266)), (63, (.bool t555))] ∧ Heap w0 [oA (rList rBool) v35 x33, oA (rList Rimpl_Vertex) v42 xs265] w) ?_ ?_
      ·by_cases hc557 : (!x552) = true
       ·have hm := ite_t hc557 e556
        refine lx_skip S rfl rfl (isB_ne hc557) (by decide) (fun a S => ?_)
        refine lx_skip S rfl rfl (isB_ne hc557) (by decide) (fun a S => ?_)
        refine lx_skip S rfl rfl (isB_ne hc557) (by decide) (fun a S => ?_)
        refine lx_skip S rfl rfl (isB_ne hc557) (by decide) (fun a S => ?_)
        refine lx_skip S rfl rfl (isB_ne hc557) (by decide) (fun a S => ?_)
        refine lx_skip S rfl rfl (isB_ne hc557) (by decide) (fun a S => ?_)
        refine lx_skip S rfl rfl (isB_ne hc557) (by decide) (fun a S => ?_)
        refine lx_skip S rfl rfl (isB_ne hc557) (by decide) (fun a S => ?_)
        refine lq (.bool true) S (q_pickT' rfl hc557 rfl) fun a S => ?_
        refine lx_nil ?_
        obtain rfl := Option.some.inj hm
        exact ⟨S.sub ⟨rfl, rfl, rfl, rfl, rfl, rfl, rfl, trivial⟩, H⟩
       ·have hm := ite_f (eq_false_of_ne_true hc557) e556
        have hc557 : (!x552) = false := eq_false_of_ne_true hc557
        refine lx_q v35 S (want_b rfl rfl hc557) (by decide) (q_move rfl) (fun a S => ?_)
        refine lx_q p3 S (want_b rfl rfl hc557) (by decide) (q_move rfl) (fun a S => ?_)
        refine lx_q (.int .i64 x266) S (want_b rfl rfl hc557) (by decide) (q_move rfl) (fun a S => ?_)
        obtain ⟨x558, e559, hm⟩ := bind_some hm
        obtain ⟨c560, h561, hat562⟩ := (h3).elem (idx_some e559).2
        obtain rfl := h561
        have hlt := lt_of_idx (idx_some e559).2
        refine lx_q (ePtr p3 (x266.toNat * 1)) S (want_b rfl rfl hc557) (by decide) (q_indexAddr rfl (h3).isSl rfl (idx_some e559).1 hlt Try.underlying23 Try.sizeOf2) (fun a S => ?_)
        refine lx_q (.int .i64 x558) S (want_b rfl rfl hc557) (by decide) (q_load1 rfl Try.isAgg2 (fun w1 hC => ((hat562 0 _ rfl).ext hC.ext))) (fun a S => ?_)
        obtain ⟨x563, e564, hm⟩ := bind_some hm
        have hlt := lt_of_idx (idx_some e564).2
        refine lx_q (ePtr v35 (x558.toNat * 1)) S (want_b rfl rfl hc557) (by decide) (q_indexAddr rfl (H.isSl 0 rfl) rfl (idx_some e564).1 hlt Try.underlying113 Try.sizeOf4) (fun a S => ?_)
        refine lx_q (.bool x563) S (want_b rfl rfl hc557) (by decide) (q_load1 rfl Try.isAgg4 (fun w1 hC => ((hC.rdAt 0 rfl).elemAt (j := 0) (idx_some e564).2 (by intro B w cs h; obtain rfl := h; rfl)))) (fun a S => ?_)
        refine lx_q (.bool (!x563)) S (want_b rfl rfl hc557) (by decide) (q_not rfl) (fun a S => ?_)
        refine lq (.bool (!x563)) S (q_pickF' rfl hc557 rfl) fun a S => ?_
        refine lx_nil ?_
        obtain rfl := Option.some.inj hm
        exact ⟨S.sub ⟨rfl, rfl, rfl, rfl, rfl, rfl, rfl, trivial⟩, H⟩
      ·rintro a w ⟨S, H⟩
       refine lx_nil (thenN ?_)
       refine cond_b S rfl (fun hc565 => ?_) (fun hc565 => ?_)
       ·have hm := ite_t hc565 hm
        refine wp_seq (region_plain ?_)
        refine lq (.slice none 0 0) S (q_assign rfl) fun a S => ?_
        refine lq (.bool false) S (q_assign rfl) fun a S => ?_
        refine lx_nil (thenN ?_)
        refine wp_ret (then_ret ?_)
        refine then_ret ?_
        refine inBlock_ret ?_
        refine then_ret ?_
        refine then_ret ?_
        refine inBlock_ret ?_
        refine then_ret ?_
        refine then_ret ?_
        obtain rfl := it_brk hm hc495
        have hm := ctl_inr hk492
        obtain rfl := Option.some.inj hm
        have H : Heap w0 [oA (rList Rimpl_Vertex) (.slice none 0 0) ([] : List Timpl_Vertex), oA (rList rBool) v35 x33, oA (rList Rimpl_Vertex) v42 xs265] w := H.nilList Rimpl_Vertex
        have H : Heap w0 [oA (rList Rimpl_Vertex) (.slice none 0 0) ([] : List Timpl_Vertex)] w := H.sel [0] (by decide)
        exact leave2 S rfl rfl rfl ⟨(.slice none 0 0), rfl, H⟩
       ·have hm := ite_f hc565 hm
        refine wp_skip (thenN ?_)
        refine wp_seq (region_plain ?_)
        refine lq v42 S (q_move rfl) fun a S => ?_
        refine lq (.int .i64 x266) S (q_move rfl) fun a S => ?_
        refine lq p3 S (q_move rfl) fun a S => ?_
        refine lq (.int .i64 x266) S (q_move rfl) fun a S => ?_
        obtain ⟨x567, e568, hm⟩ := bind_some hm
        obtain ⟨c569, h570, hat571⟩ := (h3).elem (idx_some e568).2
        obtain rfl := h570
        have hlt := lt_of_idx (idx_some e568).2
        refine lq (ePtr p3 (x266.toNat * 1)) S (q_indexAddr rfl (h3).isSl rfl (idx_some e568).1 hlt Try.underlying23 Try.sizeOf2) fun a S => ?_
        refine lx_e (.int .i64 x567) S trivial (by decide) rfl trivial (q_load1 rfl Try.isAgg2 (by rintro _ rfl; exact ((hat571 0 _ rfl).ext H.ext))) (fun a S => ?_)
        refine lx_buildSlice (r := (rInt .i64)) (xs := [x567]) (ps := [(0, [(.int .i64 x567)])]) (cs := [(.int .i64 x567)]) (parts := [(0, .tmp 69)]) S trivial (by decide) rfl (H.put0 (A := eA) rfl) rfl Try.underlying23 Try.sizeOf2 Try.zeroValue2 (by decide) ⟨rfl, rfl, Nat.le_of_ble_eq_true rfl, trivial⟩ (by intro zs hz; exact fill_dense hz ⟨rfl, trivial⟩ rfl rfl) rfl (by decide) (fun w F hA => by cases (show F = [] from hA); exact ⟨_, _, [(.int .i64 x567)], _, rfl, rfl, ⟨rfl, rfl⟩, ⟨rfl, rfl⟩⟩) (fun v572 w573 H => ⟨trivial, fun a S => ?_⟩)
        obtain ⟨x575, e576, hm⟩ := bind_some hm
        have hlt := lt_of_idx (idx_some e576).2
        refine lq (ePtr v42 (x266.toNat * 3)) S (q_indexAddr rfl (H.isSl 2 rfl) rfl (idx_some e576).1 hlt Try.underlying26 Try.sizeOf71) fun a S => ?_
        refine lq (pAdd (ePtr v42 (x266.toNat * 3)) 2) S (q_fieldAddr' 2 23 rfl (((H.isSl 2 rfl)).ptr (lt_of_idx (idx_some e576).2) _) Try.underlying71 rfl Try.sizeOf23) fun a S => ?_
        have hcl : Value.cells v572 = List.toArray [v572] := (cells_sl (H.isSl 0 rfl))
        have hon : ∀ c ∈ ([v572] : List Value), c.oneCell' = true := (List.forall_mem_cons.2 ⟨one_sl (H.isSl 0 rfl), (fun _ h => nomatch h)⟩)
        have H : Heap w0 [oA (rList Rimpl_Vertex) v42 xs265, oA (rList (rInt .i64)) v572 [x567], oA (rList rBool) v35 x33] w573 := H.front 2 rfl
        refine lx_storeElem (r := Rimpl_Vertex) (us := [v572]) (off := 2) (e' := (x575.1, x575.2.1, [x567])) S trivial rfl H rfl rfl (idx_some e576).2 hcl Try.sizeOf23 (Nat.le_of_ble_eq_true rfl) hon (Upd.snd (off := 1) (Upd.snd (off := 0) (Upd.full rfl (fun w G hG => oA_list.1 hG)))) (fun w577 H => ⟨trivial, fun a S => ?_⟩)
        refine lx_nil (thenN ?_)
        refine wp_exit ?_
        refine then_exit ?_
        refine inBlock_exit ?_
        have H : Heap w0 [oA (rList rBool) v35 x33, oA (rList Rimpl_Vertex) v42 (xs265.set x266.toNat (x575.1, x575.2.1, [x567]))] w577 := H.front 1 rfl
        exact ⟨(xs265.set x266.toNat (x575.1, x575.2.1, [x567])), S.sub ⟨rfl, rfl, rfl, rfl, rfl, rfl, trivial⟩, H, hm⟩
     ·have hm := ite_f hc527 hm
      refine wp_skip (thenN ?_)
      refine wp_seq (region_plain ?_)
      refine lq (.int .i64 (0 : Int)) S (q_assign rfl) fun a S => ?_
      refine lx_nil (thenN ?_)
      obtain ⟨res665, hit666, hk669⟩ := bind_some hm
      obtain ⟨f667, hf668, hit666⟩ := iter_name hit666
      refine block_loop (fun a w => Slots a 96 [(0, p0), (1, (.int .i64 a1)), (3, p3), (10, v35), (11, v42), (12, (.int .i64 x266))] ∧ Heap w0 [oA (rList rBool) v35 x33, oA (rList Rimpl_Vertex) v42 xs265] w ∧ res665 = .inl ()) ?_ ?_
      ·rintro a w ⟨S, H, rfl⟩
       have hm := ctl_inl hk669
       refine inBlock_norm ?_
       exact ⟨xs265, S.sub ⟨rfl, rfl, rfl, rfl, rfl, rfl, trivial⟩, H, hm⟩
      ·skip
       refine loop_ghost (fun n a w => ∃ (x621 : Int), Slots a 96 [(0, p0), (1, (.int .i64 a1)), (3, p3), (10, v35), (11, v42), (12, (.int .i64 x266)), (13, (.int .i64 x621))] ∧ Heap w0 [oA (rList rBool) v35 x33, oA (rList Rimpl_Vertex) v42 xs265] w ∧ iter f667 n (x621) = some res665) _ ⟨(0 : Int), S.sub ⟨rfl, rfl, rfl, rfl, rfl, rfl, rfl, trivial⟩, H, hit666⟩ ?_
       rintro n a w ⟨x621, S, H, hit666⟩
       obtain ⟨m670, o671, rfl, hm, hc672⟩ := iter_step hit666
       rw [hf668] at hm
       refine wp_seq (wp_seq (region_plain ?_))
       refine lq (.int .i64 x621) S (q_move rfl) fun a S => ?_
       refine lq p0 S (q_move rfl) fun a S => ?_
       refine lq (.int .i64 x266) S (q_move rfl) fun a S => ?_
       obtain ⟨x673, e674, hm⟩ := bind_some hm
       obtain ⟨c675, h676, hat677⟩ := (h0).elem (idx_some e674).2
       obtain ⟨c680, c681, rfl, h682, h683⟩ := h676
       obtain rfl := h682
       obtain ⟨c684, c685, rfl, h686, h687⟩ := h683
       obtain rfl := h686
       obtain ⟨v678, rfl, h679⟩ := rd_list h687
       have hlt := lt_of_idx (idx_some e674).2
       refine lq (ePtr p0 (x266.toNat * 3)) S (q_indexAddr rfl (h0).isSl rfl (idx_some e674).1 hlt Try.underlying26 Try.sizeOf71) fun a S => ?_
       refine lq (pAdd (ePtr p0 (x266.toNat * 3)) 2) S (q_fieldAddr' 2 23 rfl ((hat677 0 _ rfl).isP) Try.underlying71 rfl Try.sizeOf23) fun a S => ?_
       refine lx_e v678 S trivial (by decide) rfl trivial (q_load1 rfl Try.isAgg23 (by rintro _ rfl; exact (At.of_add (m := 2) (j := 0) ((hat677 2 _ rfl).ext H.ext)))) (fun a S => ?_)
       refine lq (.int .i64 (x673.2.2.length : Int)) S (q_lenSl rfl (h679).isSl rfl Try.underlying23) fun a S => ?_
       refine lq (.bool (decide (x621 < (x673.2.2.length : Int)))) S (q_lss rfl rfl) fun a S => ?_
       refine lx_nil (thenN ?_)
       refine cond_b S rfl (fun hc688 => ?_) (fun hc688 => ?_)
       ·have hm := ite_t hc688 hm
        refine wp_skip (thenN ?_)
        refine wp_seq ?_
        refine wp_block ?_
        refine wp_seq (region_plain ?_)
        refine lq v35 S (q_move rfl) fun a S => ?_
        refine lq p0 S (q_move rfl) fun a S => ?_
        refine lq (.int .i64 x266) S (q_move rfl) fun a S => ?_
        obtain ⟨x689, e690, hm⟩ := bind_some hm
        obtain ⟨c691, h692, hat693⟩ := (h0).elem (idx_some e690).2
        obtain ⟨c696, c697, rfl, h698, h699⟩ := h692
        obtain rfl := h698
        obtain ⟨c700, c701, rfl, h702, h703⟩ := h699
        obtain rfl := h702
        obtain ⟨v694, rfl, h695⟩ := rd_list h703
        have hlt := lt_of_idx (idx_some e690).2
        refine lq (ePtr p0 (x266.toNat * 3)) S (q_indexAddr rfl (h0).isSl rfl (idx_some e690).1 hlt Try.underlying26 Try.sizeOf71) fun a S => ?_
        refine lq (pAdd (ePtr p0 (x266.toNat * 3)) 2) S (q_fieldAddr' 2 23 rfl ((hat693 0 _ rfl).isP) Try.underlying71 rfl Try.sizeOf23) fun a S => ?_
        refine lx_e v694 S trivial (by decide) rfl trivial (q_load1 rfl Try.isAgg23 (by rintro _ rfl; exact (At.of_add (m := 2) (j := 0) ((hat693 2 _ rfl).ext H.ext)))) (fun a S => ?_)
        refine lq (.int .i64 x621) S (q_move rfl) fun a S => ?_
        obtain ⟨x704, e705, hm⟩ := bind_some hm
        obtain ⟨c706, h707, hat708⟩ := (h695).elem (idx_some e705).2
        obtain rfl := h707
        have hlt := lt_of_idx (idx_some e705).2
        refine lq (ePtr v694 (x621.toNat * 1)) S (q_indexAddr rfl (h695).isSl rfl (idx_some e705).1 hlt Try.underlying23 Try.sizeOf2) fun a S => ?_
        refine lx_e (.int .i64 x704) S trivial (by decide) rfl trivial (q_load1 rfl Try.isAgg2 (by rintro _ rfl; exact ((hat708 0 _ rfl).ext H.ext))) (fun a S => ?_)
        obtain ⟨x709, e710, hm⟩ := bind_some hm
        have hlt := lt_of_idx (idx_some e710).2
        refine lq (ePtr v35 (x704.toNat * 1)) S (q_indexAddr rfl (H.isSl 0 rfl) rfl (idx_some e710).1 hlt Try.underlying113 Try.sizeOf4) fun a S => ?_
        obtain ⟨c711, h712, hat713⟩ := (H.rdAt 0 rfl).elem (idx_some e710).2
        obtain rfl := h712
        refine lx_e (.bool x709) S trivial (by decide) rfl trivial (q_load1 rfl Try.isAgg4 (by rintro _ rfl; exact (hat713 0 _ rfl))) (fun a S => ?_)
        refine lq (.bool (!x709)) S (q_not rfl) fun a S => ?_
        refine lx_nil (thenN ?_)
        refine cond_b S rfl (fun hc714 => ?_) (fun hc714 => ?_)
        ·have hm := ite_t hc714 hm
         refine wp_seq (region_plain ?_)
         refine lq (.slice none 0 0) S (q_assign rfl) fun a S => ?_
         refine lq (.bool false) S (q_assign rfl) fun a S => ?_
         refine lx_nil (thenN ?_)
         refine wp_ret (inBlock_ret ?_)
         refine then_ret ?_
         refine then_ret ?_
         refine inBlock_ret ?_
         refine then_ret ?_
         refine inBlock_ret ?_
         refine then_ret ?_
         refine then_ret ?_
         refine inBlock_ret ?_
         refine then_ret ?_
         refine then_ret ?_
         obtain rfl := it_brk hm hc672
         have hm := ctl_inr hk669
         obtain rfl := it_brk hm hc495
         have hm := ctl_inr hk492
         obtain rfl := Option.some.inj hm
         have H : Heap w0 [oA (rList Rimpl_Vertex) (.slice none 0 0) ([] : List Timpl_Vertex), oA (rList rBool) v35 x33, oA (rList Rimpl_Vertex) v42 xs265] w := H.nilList Rimpl_Vertex
         have H : Heap w0 [oA (rList Rimpl_Vertex) (.slice none 0 0) ([] : List Timpl_Vertex)] w := H.sel [0] (by decide)
         exact leave2 S rfl rfl rfl ⟨(.slice none 0 0), rfl, H⟩
        ·have hm := ite_f hc714 hm
         refine wp_skip ?_
         refine inBlock_norm ?_
         refine thenN ?_
         refine region_plain ?_
         refine lq (.int .i64 x621) S (q_move rfl) fun a S => ?_
         refine lq (.int .i64 (W (x621 + (1 : Int)))) S (q_add rfl rfl) fun a S => ?_
         refine lq (.int .i64 (W (x621 + (1 : Int)))) S (q_assign rfl) fun a S => ?_
         refine lx_nil ?_
         exact ⟨m670, Nat.lt_succ_self _, (W (x621 + (1 : Int))), S.sub ⟨rfl, rfl, rfl, rfl, rfl, rfl, rfl, trivial⟩, H, it_cont hm hc672⟩
       ·have hm := ite_f hc688 hm
        refine wp_exit ?_
        refine then_exit ?_
        refine then_exit ?_
        refine inBlock_exit ?_
        obtain rfl := it_brk hm hc672
        exact ⟨S.sub ⟨rfl, rfl, rfl, rfl, rfl, rfl, trivial⟩, H, rfl⟩
  ·have hm := ite_f hc496 hm
   refine wp_exit ?_
   refine then_exit ?_
   refine then_exit ?_
   refine inBlock_exit ?_
   obtain rfl := it_brk hm hc495
   have H : Heap w0 [oA (rList Rimpl_Vertex) v42 xs265] w := H.sel [1] (by decide)
   exact ⟨xs265, S.sub ⟨rfl, trivial⟩, H, rfl⟩

/-- spec.l23Cycle -/
def spec_l23Cycle_m (fuel : Nat) (a0 : (List Timpl_Vertex)) (a1 : Int) : Option (Bool) :=
  (mks (a0.length : Int) false).bind fun x31 => (iter (fun (s : (List Bool) × (List Int) × (Int)) => (match s with | (xs279, xs281, x283) => (if (decide (x283 < (xs281.length : Int))) = true then (idx xs281 x283).bind fun x532 => (idx a0 x532).bind fun x537 => (iter (fun (s : (List Bool) × (List Int) × (Int)) => (match s with | (xs619, xs621, x623) => (if (decide (x623 < (x537.2.2.length : Int))) = true then join (κ := List Bool → List Int → Option (((List Bool) × (List Int) × (Int)) ⊕ (((List Bool) × (List Int)) ⊕ (Bool)))) (fun (xs704 : List Bool) (xs706 : List Int) => some (.inl (xs704, xs706, (W (x623 + (1 : Int)))))) (fun K708 => (idx x537.2.2 x623).bind fun x710 => (if (x710 == a1) = true then some (.inr (.inr true)) else (idx xs619 x710).bind fun x718 => (if (!x718) = true then (idx a0 x710).bind fun x723 => (idx a0 a1).bind fun x738 => some (decide (x738.2.1 ≤ x723.2.1)) else some false).bind fun t720 => (if t720 = true then (idx xs619 x710).bind fun _ => (app xs621 [x710]).bind fun x760 => (K708 (xs619.set x710.toNat true) x760) else (K708 xs619 xs621)))) else some (.inr (.inl (xs619, xs621)))) : Option (((List Bool) × (List Int) × (Int)) ⊕ (((List Bool) × (List Int)) ⊕ (Bool))))) fuel (xs279, xs281, (0 : Int))).bind fun res695 => ctl (β := (List Bool) × (List Int)) (ρ := Bool) (τ := (((List Bool) × (List Int) × (Int)) ⊕ ((Unit) ⊕ (Bool)))) res695 (fun (xs691, xs693) => some (.inl (xs691, xs693, (W (x283 + (1 : Int)))))) (fun q => some (.inr (.inr q))) else some (.inr (.inl ()))) : Option (((List Bool) × (List Int) × (Int)) ⊕ ((Unit) ⊕ (Bool))))) fuel (x31, [a1], (0 : Int))).bind fun res523 => ctl (β := Unit) (ρ := Bool) (τ := Bool) res523 (fun _ => some (false)) (fun q => some (q))
set_option maxRecDepth 20000 in
theorem spec_l23Cycle_ok {w0 : World} {fuel : Nat} {p0 : Value} {a0 : (List Timpl_Vertex)} {a1 : Int} {r : Bool} (h0 : Rd (rList Rimpl_Vertex) w0 p0 a0) (hm : spec_l23Cycle_m fuel a0 a1 = some r) :
  Calls Try.prog 57 #[p0, .int .i64 a1] w0 fun e w => e = .returned (.bool r) ∧ Heap w0 [] w := by
 unfold spec_l23Cycle_m at hm
 have H := Heap.start w0
 refine enter (args := [p0, .int .i64 a1]) Try.func57 rfl 68 rfl (Nat.le_of_ble_eq_true rfl) (fun a S => ?_)
 refine wp_seq (region_plain ?_)
 refine lq (.bool false) S (q_assign rfl) fun a S => ?_
 refine lx_nil (thenN ?_)
 refine wp_seq (region_plain ?_)
 refine lq p0 S (q_move rfl) fun a S => ?_
 refine lq (.int .i64 (a0.length : Int)) S (q_lenSl rfl (h0).isSl rfl Try.underlying26) fun a S => ?_
 obtain ⟨x31, e32, hm⟩ := bind_some hm
 obtain ⟨m33, hn, hn2, rfl⟩ := mks_some e32
 refine lx_make (r := rBool) (z0 := false) (n := m33) S trivial (by decide) rfl H (by rw [← hn]; rfl) (by rw [← hn]; rfl) Try.underlying113 (Try.ti4) rfl rfl (Nat.le_of_ble_eq_true rfl) (fun w => ⟨rfl, rfl⟩) hn2 (by decide) (fun v34 w35 H => ⟨trivial, fun a S => ?_⟩)
 refine lq v34 S (q_assign rfl) fun a S => ?_
 refine lx_nil (thenN ?_)
 refine wp_seq (region_plain ?_)
 refine lq (.int .i64 a1) S (q_move rfl) fun a S => ?_
 refine lx_buildSlice (r := (rInt .i64)) (xs := [a1]) (ps := [(0, [(.int .i64 a1)])]) (cs := [(.int .i64 a1)]) (parts := [(0, .tmp 14)]) S trivial (by decide) rfl (H.put0 (A := eA) rfl) rfl Try.underlying23 Try.sizeOf2 Try.zeroValue2 (by decide) ⟨rfl, rfl, Nat.le_of_ble_eq_true rfl, trivial⟩ (by intro zs hz; exact fill_dense hz ⟨rfl, trivial⟩ rfl rfl) rfl (by decide) (fun w F hA => by cases (show F = [] from hA); exact ⟨_, _, [(.int .i64 a1)], _, rfl, rfl, ⟨rfl, rfl⟩, ⟨rfl, rfl⟩⟩) (fun v37 w38 H => ⟨trivial, fun a S => ?_⟩)
 refine lq v37 S (q_assign rfl) fun a S => ?_
 refine lx_nil (thenN ?_)
 refine wp_seq (wp_seq (region_plain ?_))
 refine lq (.int .i64 (0 : Int)) S (q_assign rfl) fun a S => ?_
 refine lx_nil (thenN ?_)
 obtain ⟨res523, hit524, hk527⟩ := bind_some hm
 obtain ⟨f525, hf526, hit524⟩ := iter_name hit524
 refine block_loop (fun a w => Slots a 68 [] ∧ Heap w0 [] w ∧ res523 = .inl ()) ?_ ?_
 ·rintro a w ⟨S, H, rfl⟩
  have hm := ctl_inl hk527
  refine thenN ?_
  refine wp_seq (region_plain ?_)
  refine lq (.bool false) S (q_assign rfl) fun a S => ?_
  refine lx_nil (thenN ?_)
  refine wp_ret ?_
  obtain rfl := Option.some.inj hm
  exact leave1 S rfl rfl ⟨rfl, H⟩
 ·skip
  have H : Heap w0 [oA (rList rBool) v34 (List.replicate m33 false), oA (rList (rInt .i64)) v37 [a1]] w38 := H.front 1 rfl
  refine loop_ghost (fun n a w => ∃ (xs279 : List Bool) (xs281 : List Int) (x283 : Int) (v280 : Value), Slots a 68 [(0, p0), (1, (.int .i64 a1)), (5, v34), (6, v280), (7, (.int .i64 x283))] ∧ Heap w0 [oA (rList rBool) v34 xs279, oA (rList (rInt .i64)) v280 xs281] w ∧ iter f525 n (xs279, xs281, x283) = some res523) _ ⟨(List.replicate m33 false), [a1], (0 : Int), v37, S.sub ⟨rfl, rfl, rfl, rfl, rfl, trivial⟩, H, hit524⟩ ?_
  rintro n a w ⟨xs279, xs281, x283, v280, S, H, hit524⟩
  obtain ⟨m528, o529, rfl, hm, hc530⟩ := iter_step hit524
  rw [hf526] at hm
  refine wp_seq (wp_seq (region_plain ?_))
  refine lq (.int .i64 x283) S (q_move rfl) fun a S => ?_
  refine lq v280 S (q_move rfl) fun a S => ?_
  refine lq (.int .i64 (xs281.length : Int)) S (q_lenSl rfl (H.isSl 1 rfl) rfl Try.underlying23) fun a S => ?_
  refine lq (.bool (decide (x283 < (xs281.length : Int)))) S (q_lss rfl rfl) fun a S => ?_
  refine lx_nil (thenN ?_)
  refine cond_b S rfl (fun hc531 => ?_) (fun hc531 => ?_)
  ·have hm := ite_t hc531 hm
   refine wp_skip (thenN ?_)
   refine wp_seq ?_
   refine wp_block ?_
   refine wp_seq (region_plain ?_)
   refine lq p0 S (q_move rfl) fun a S => ?_
   refine lq v280 S (q_move rfl) fun a S => ?_
   refine lq (.int .i64 x283) S (q_move rfl) fun a S => ?_
   obtain ⟨x532, e533, hm⟩ := bind_some hm
   have hlt := lt_of_idx (idx_some e533).2
   refine lq (ePtr v280 (x283.toNat * 1)) S (q_indexAddr rfl (H.isSl 1 rfl) rfl (idx_some e533).1 hlt Try.underlying23 Try.sizeOf2) fun a S => ?_
   obtain ⟨c534, h535, hat536⟩ := (H.rdAt 1 rfl).elem (idx_some e533).2
   obtain rfl := h535
   refine lx_e (.int .i64 x532) S trivial (by decide) rfl trivial (q_load1 rfl Try.isAgg2 (by rintro _ rfl; exact (hat536 0 _ rfl))) (fun a S => ?_)
   obtain ⟨x537, e538, hm⟩ := bind_some hm
   obtain ⟨c539, h540, hat541⟩ := (h0).elem (idx_some e538).2
   obtain ⟨c544, c545, rfl, h546, h547⟩ := h540
   obtain rfl := h546
   obtain ⟨c548, c549, rfl, h550, h551⟩ := h547
   obtain rfl := h550
   obtain ⟨v542, rfl, h543⟩ := rd_list h551
   have hlt := lt_of_idx (idx_some e538).2
   refine lq (ePtr p0 (x532.toNat * 3)) S (q_indexAddr rfl (h0).isSl rfl (idx_some e538).1 hlt Try.underlying26 Try.sizeOf71) fun a S => ?_
   refine lq (pAdd (ePtr p0 (x532.toNat * 3)) 2) S (q_fieldAddr' 2 23 rfl ((hat541 0 _ rfl).isP) Try.underlying71 rfl Try.sizeOf23) fun a S => ?_
   refine lx_e v542 S trivial (by decide) rfl trivial (q_load1 rfl Try.isAgg23 (by rintro _ rfl; exact (At.of_add (m := 2) (j := 0) ((hat541 2 _ rfl).ext H.ext)))) (fun a S => ?_)
   refine lq v542 S (q_assign rfl) fun a S => ?_
   refine lx_nil (thenN ?_)
   refine wp_seq (region_plain ?_)
   refine lq (.int .i64 (0 : Int)) S (q_assign rfl) fun a S => ?_
   refine lx_nil (thenN ?_)
   obtain ⟨res695, hit696, hk699⟩ := bind_some hm
   obtain ⟨f697, hf698, hit696⟩ := iter_name hit696
   refine block_loop (fun a w => ∃ (xs691 : List Bool) (xs693 : List Int) (v692 : Value), Slots a 68 [(0, p0), (1, (.int .i64 a1)), (5, v34), (6, v692), (7, (.int .i64 x283))] ∧ Heap w0 [oA (rList rBool) v34 xs691, oA (rList (rInt .i64)) v692 xs693] w ∧ res695 = .inl (xs691, xs693)) ?_ ?_
   ·rintro a w ⟨xs691, xs693, v692, S, H, rfl⟩
    have hm := ctl_inl hk699
    refine inBlock_norm ?_
    refine thenN ?_
    refine region_plain ?_
    refine lq (.int .i64 x283) S (q_move rfl) fun a S => ?_
    refine lq (.int .i64 (W (x283 + (1 : Int)))) S (q_add rfl rfl) fun a S => ?_
    refine lq (.int .i64 (W (x283 + (1 : Int)))) S (q_assign rfl) fun a S => ?_
    refine lx_nil ?_
    exact ⟨m528, Nat.lt_succ_self _, xs691, xs693, (W (x283 + (1 : Int))), v692, S.sub ⟨rfl, rfl, rfl, rfl, rfl, trivial⟩, H, it_cont hm hc530⟩
   ·skip
    refine loop_ghost (fun n a w => ∃ (xs619 : List Bool) (xs621 : List Int) (x623 : Int) (v620 : Value), Slots a 68 [(0, p0), (1, (.int .i64 a1)), (5, v34), (6, v620), (7, (.int .i64 x283)), (8, v542), (9, (.int .i64 x623))] ∧ Heap w0 [oA (rList rBool) v34 xs619, oA (rList (rInt .i64)) v620 xs621] w ∧ iter f697 n (xs619, xs621, x623) = some res695) _ ⟨xs279, xs281, (0 : Int), v280, S.sub ⟨rfl, rfl, rfl, rfl, rfl, rfl, rfl, trivial⟩, H, hit696⟩ ?_
    rintro n a w ⟨xs619, xs621, x623, v620, S, H, hit696⟩
    obtain ⟨m700, o701, rfl, hm, hc702⟩ := iter_step hit696
    rw [hf698] at hm
    refine wp_seq (wp_seq (region_plain ?_))
    refine lq (.int .i64 x623) S (q_move rfl) fun a S => ?_
    refine lq v542 S (q_move rfl) fun a S => ?_
    refine lq (.int .i64 (x537.2.2.length : Int)) S (q_lenSl rfl (h543).isSl rfl Try.underlying23) fun a S => ?_
    refine lq (.bool (decide (x623 < (x537.2.2.length : Int)))) S (q_lss rfl rfl) fun a S => ?_
    refine lx_nil (thenN ?_)
    refine cond_b S rfl (fun hc703 => ?_) (fun hc703 => ?_)
    ·have hm := ite_t hc703 hm
     refine wp_skip (thenN ?_)
     obtain ⟨K708, hK709, hm⟩ := join_elim hm
     refine seq_cut (fun a w => ∃ (xs704 : List Bool) (xs706 : List Int) (v705 : Value), Slots a 68 [(0, p0), (1, (.int .i64 a1)), (5, v34), (6, v705), (7, (.int .i64 x283)), (8, v542), (9, (.int .i64 x623))] ∧ Heap w0 [oA (rList rBool) v34 xs704, oA (rList (rInt .i64)) v705 xs706] w ∧ K708 xs704 xs706 = some o701) ?_ ?_
     ·rintro a w ⟨xs704, xs706, v705, S, H, hm⟩
      subst hK709
      refine region_plain ?_
      refine lq (.int .i64 x623) S (q_move rfl) fun a S => ?_
      refine lq (.int .i64 (W (x623 + (1 : Int)))) S (q_add rfl rfl) fun a S => ?_
      refine lq (.int .i64 (W (x623 + (1 : Int)))) S (q_assign rfl) fun a S => ?_
      refine lx_nil ?_
      exact ⟨m700, Nat.lt_succ_self _, xs704, xs706, (W (x623 + (1 : Int))), v705, S.sub ⟨rfl, rfl, rfl, rfl, rfl, rfl, rfl, trivial⟩, H, it_cont hm hc702⟩
     ·skip
      refine wp_block ?_
      refine wp_seq (region_plain ?_)
      refine lq v542 S (q_move rfl) fun a S => ?_
      refine lq (.int .i64 x623) S (q_move rfl) fun a S => ?_
      obtain ⟨x710, e711, hm⟩ := bind_some hm
      obtain ⟨c712, h713, hat714⟩ := (h543).elem (idx_some e711).2
      obtain rfl := h713
      have hlt := lt_of_idx (idx_some e711).2
      refine lq (ePtr v542 (x623.toNat * 1)) S (q_indexAddr rfl (h543).isSl rfl (idx_some e711).1 hlt Try.underlying23 Try.sizeOf2) fun a S => ?_
      refine lx_e (.int .i64 x710) S trivial (by decide) rfl trivial (q_load1 rfl Try.isAgg2 (by rintro _ rfl; exact ((hat714 0 _ rfl).ext H.ext))) (fun a S => ?_)
      refine lq (.int .i64 x710) S (q_assign rfl) fun a S => ?_
      refine lx_nil (thenN ?_)
      refine wp_seq (wp_seq (region_plain ?_))
      refine lq (.int .i64 x710) S (q_move rfl) fun a S => ?_
      refine lq (.int .i64 a1) S (q_move rfl) fun a S => ?_
      refine lq (.bool (x710 == a1)) S (q_eql rfl rfl) fun a S => ?_
      refine lx_nil (thenN ?_)
      refine cond_b S rfl (fun hc715 => ?_) (fun hc715 => ?_)
      ·have hm := ite_t hc715 hm
       refine wp_seq (region_plain ?_)
       refine lq (.bool true) S (q_assign rfl) fun a S => ?_
       refine lx_nil (thenN ?_)
       refine wp_ret (then_ret ?_)
       refine inBlock_ret ?_
       refine then_ret ?_
       refine then_ret ?_
       refine inBlock_ret ?_
       refine then_ret ?_
       refine inBlock_ret ?_
       refine then_ret ?_
       refine then_ret ?_
       refine inBlock_ret ?_
       refine then_ret ?_
       refine then_ret ?_
       obtain rfl := it_brk hm hc702
       have hm := ctl_inr hk699
       obtain rfl := it_brk hm hc530
       have hm := ctl_inr hk527
       obtain rfl := Option.some.inj hm
       have H : Heap w0 [] w := H.sel [] (by decide)
       exact leave1 S rfl rfl ⟨rfl, H⟩
      ·have hm := ite_f hc715 hm
       refine wp_skip (thenN ?_)
       refine wp_seq ?_
       refine region_drawG (fun w1 => Heap w0 [oA (rList rBool) v34 xs619] w1) (fun i => [].contains i) mixed (by kernel_rfl) (fun w717 he716 => ?_)
       have H := H.later he716
       refine ⟨H.sel [0] (by decide), ?_⟩
       refine lq v34 S (q_move rfl) fun a S => ?_
       refine lq (.int .i64 x710) S (q_move rfl) fun a S => ?_
       obtain ⟨x718, e719, hm⟩ := bind_some hm
       have hlt := lt_of_idx (idx_some e719).2
       refine lq (ePtr v34 (x710.toNat * 1)) S (q_indexAddr rfl (H.isSl 0 rfl) rfl (idx_some e719).1 hlt Try.underlying113 Try.sizeOf4) fun a S => ?_
       refine lq (.bool x718) S (q_load1 rfl Try.isAgg4 (fun w1 hC => ((hC.rdAt 0 rfl).elemAt (j := 0) (idx_some e719).2 (by intro B w cs h; obtain rfl := h; rfl)))) fun a S => ?_
       refine lq (.bool (!x718)) S (q_not rfl) fun a S => ?_
       refine lq (.bool (!x718)) S (q_move rfl) fun a S => ?_
       obtain ⟨t720, e721, hm⟩ := bind_some hm
       refine lx_cut 12 (fun a w => Slots a 68 [(0, p0), (1, (.int .i64 a1)), (5, v34), (6, v620), (7, (.int .i64 x283)), (8, v542), (9, (.int .i64 x623)), (10, (.int .i64 x710)), (60, (.bool t720))] ∧ Heap w0 [oA (rList rBool) v34 xs619, oA (rList (rInt .i64)) v620 xs621] w) ?_ ?_
       ·by_cases hc722 : (!x718) = true
        ·have hm := ite_t hc722 e721
         refine lx_q p0 S (want_b rfl rfl hc722) (by decide) (q_move rfl) (fun a S => ?_)
         refine lx_q (.int .i64 x710) S (want_b rfl rfl hc722) (by decide) (q_move rfl) (fun a S => ?_)
         obtain ⟨x723, e724, hm⟩ := bind_some hm
         obtain ⟨c725, h726, hat727⟩ := (h0).elem (idx_some e724).2
         obtain ⟨c730, c731, rfl, h732, h733⟩ := h726
         obtain rfl := h732
         obtain ⟨c734, c735, rfl, h736, h737⟩ := h733
         obtain rfl := h736
         obtain ⟨v728, rfl, h729⟩ := rd_list h737
         have hlt := lt_of_idx (idx_some e724).2
         refine lx_q (ePtr p0 (x710.toNat * 3)) S (want_b rfl rfl hc722) (by decide) (q_indexAddr rfl (h0).isSl rfl (idx_some e724).1 hlt Try.underlying26 Try.sizeOf71) (fun a S => ?_)
         refine lx_q (pAdd (ePtr p0 (x710.toNat * 3)) 1) S (want_b rfl rfl hc722) (by decide) (q_fieldAddr' 1 2 rfl ((hat727 0 _ rfl).isP) Try.underlying71 rfl Try.sizeOf2) (fun a S => ?_)
         refine lx_q (.int .i64 x723.2.1) S (want_b rfl rfl hc722) (by decide) (q_load1 rfl Try.isAgg2 (fun w1 hC => (At.of_add (m := 1) (j := 0) ((hat727 1 _ rfl).ext hC.ext)))) (fun a S => ?_)
         refine lx_q p0 S (want_b rfl rfl hc722) (by decide) (q_move rfl) (fun a S => ?_)
         refine lx_q (.int .i64 a1) S (want_b rfl rfl hc722) (by decide) (q_move rfl) (fun a S => ?_)
         obtain ⟨x738, e739, hm⟩ := bind_some hm
         obtain ⟨c740, h741, hat742⟩ := (h0).elem (idx_some e739).2
         obtain ⟨c745, c746, rfl, h747, h748⟩ := h741
         obtain rfl := h747
         obtain ⟨c749, c750, rfl, h751, h752⟩ := h748
         obtain rfl := h751
         obtain ⟨v743, rfl, h744⟩ := rd_list h752
         have hlt := lt_of_idx (idx_some e739).2
         refine lx_q (ePtr p0 (a1.toNat * 3)) S (want_b rfl rfl hc722) (by decide) (q_indexAddr rfl (h0).isSl rfl (idx_some e739).1 hlt Try.underlying26 Try.sizeOf71) (fun a S => ?_)
         refine lx_q (pAdd (ePtr p0 (a1.toNat * 3)) 1) S (want_b rfl rfl hc722) (by decide) (q_fieldAddr' 1 2 rfl ((hat742 0 _ rfl).isP) Try.underlying71 rfl Try.sizeOf2) (fun a S => ?_)
         refine lx_q (.int .i64 x738.2.1) S (want_b rfl rfl hc722) (by decide) (q_load1 rfl Try.isAgg2 (fun w1 hC => (At.of_add (m := 1) (j := 0) ((hat742 1 _ rfl).ext hC.ext)))) (fun a S => ?_)
         refine lx_q (.bool (decide (x738.2.1 ≤ x723.2.1))) S (want_b rfl rfl hc722) (by decide) (q_geq rfl rfl) (fun a S => ?_)
         refine lq (.bool (decide (x738.2.1 ≤ x723.2.1))) S (q_pickT' rfl hc722 rfl) fun a S => ?_
         refine lx_nil ?_
         obtain rfl := Option.some.inj hm
         exact ⟨S.sub ⟨rfl, rfl, rfl, rfl, rfl, rfl, rfl, rfl, rfl, trivial⟩, H⟩
        ·have hm := ite_f (eq_false_of_ne_true hc722) e721
         have hc722 : (!x718) = false := eq_false_of_ne_true hc722
         refine lx_skip S rfl rfl (isB_ne hc722) (by decide) (fun a S => ?_)
         refine lx_skip S rfl rfl (isB_ne hc722) (by decide) (fun a S => ?_)
         refine lx_skip S rfl rfl (isB_ne hc722) (by decide) (fun a S => ?_)
         refine lx_skip S rfl rfl (isB_ne hc722) (by decide) (fun a S => ?_)
         refine lx_skip S rfl rfl (isB_ne hc722) (by decide) (fun a S => ?_)
         refine lx_skip S rfl rfl (isB_ne hc722) (by decide) (fun a S => ?_)
         refine lx_skip S rfl rfl (isB_ne hc722) (by decide) (fun a S => ?_)
         refine lx_skip S rfl rfl (isB_ne hc722) (by decide) (fun a S => ?_)
         refine lx_skip S rfl rfl (isB_ne hc722) (by decide) (fun a S => ?_)
         refine lx_skip S rfl rfl (isB_ne hc722) (by decide) (fun a S => ?_)
         refine lx_skip S rfl rfl (isB_ne hc722) (by decide) (fun a S => ?_)
         refine lq (.bool false) S (q_pickF' rfl hc722 rfl) fun a S => ?_
         refine lx_nil ?_
         obtain rfl := Option.some.inj hm
         exact ⟨S.sub ⟨rfl, rfl, rfl, rfl, rfl, rfl, rfl, rfl, rfl, trivial⟩, H⟩
       ·rintro a w ⟨S, H⟩
        refine lx_nil (thenN ?_)
        refine cond_b S rfl (fun hc753 => ?_) (fun hc753 => ?_)
        ·have hm := ite_t hc753 hm
         refine wp_seq (region_plain ?_)
         refine lq v34 S (q_move rfl) fun a S => ?_
         refine lq (.int .i64 x710) S (q_move rfl) fun a S => ?_
         obtain ⟨x754, e755, hm⟩ := bind_some hm
         have hlt := lt_of_idx (idx_some e755).2
         refine lq (ePtr v34 (x710.toNat * 1)) S (q_indexAddr rfl (H.isSl 0 rfl) rfl (idx_some e755).1 hlt Try.underlying113 Try.sizeOf4) fun a S => ?_
         refine lx_storeElem (r := rBool) (us := [(.bool true)]) (off := 0) (e' := true) S trivial rfl H.putE (ev_zero rfl) rfl (idx_some e755).2 rfl Try.sizeOf4 (Nat.le_of_ble_eq_true rfl) (List.forall_mem_cons.2 ⟨rfl, (fun _ h => nomatch h)⟩) (Upd.full rfl (fun w G hG => by cases (show G = [] from hG); exact ⟨rfl, rfl⟩)) (fun w756 H => ⟨trivial, fun a S => ?_⟩)
         refine lx_nil (thenN ?_)
         refine region_plain ?_
         refine lq v620 S (q_move rfl) fun a S => ?_
         refine lq (.int .i64 x710) S (q_move rfl) fun a S => ?_
         refine lx_buildSlice (r := (rInt .i64)) (xs := [x710]) (ps := [(0, [(.int .i64 x710)])]) (cs := [(.int .i64 x710)]) (parts := [(0, .tmp 65)]) S trivial (by decide) rfl (H.put0 (A := eA) rfl) rfl Try.underlying23 Try.sizeOf2 Try.zeroValue2 (by decide) ⟨rfl, rfl, Nat.le_of_ble_eq_true rfl, trivial⟩ (by intro zs hz; exact fill_dense hz ⟨rfl, trivial⟩ rfl rfl) rfl (by decide) (fun w F hA => by cases (show F = [] from hA); exact ⟨_, _, [(.int .i64 x710)], _, rfl, rfl, ⟨rfl, rfl⟩, ⟨rfl, rfl⟩⟩) (fun v757 w758 H => ⟨trivial, fun a S => ?_⟩)
         obtain ⟨x760, e761, hm⟩ := bind_some hm
         obtain ⟨hle, hap⟩ := app_some e761
         replace hap := hap.symm
         subst hap
         have H : Heap w0 [oA (rList (rInt .i64)) v757 [x710], oA (rList rBool) v34 (xs619.set x710.toNat true), oA (rList (rInt .i64)) v620 xs621] w758 := H.front 0 rfl
         have H : Heap w0 [oA (rList (rInt .i64)) v620 xs621, oA (rList (rInt .i64)) v757 [x710], oA (rList rBool) v34 (xs619.set x710.toNat true)] w758 := H.front 2 rfl
         refine lx_appendOwn (r := (rInt .i64)) S trivial (by decide) rfl H rfl rfl Try.underlying23 Try.ti2 rfl rfl rfl (Nat.le_of_ble_eq_true rfl) (by decide) hle (fun v762 w763 H => ⟨trivial, fun a S => ?_⟩)
         refine lq v762 S (q_assign rfl) fun a S => ?_
         refine lx_nil ?_
         refine inBlock_norm ?_
         have H : Heap w0 [oA (rList rBool) v34 (xs619.set x710.toNat true), oA (rList (rInt .i64)) v762 (xs621 ++ [x710])] w763 := H.front 1 rfl
         exact ⟨(xs619.set x710.toNat true), (xs621 ++ [x710]), v762, S.sub ⟨rfl, rfl, rfl, rfl, rfl, rfl, rfl, trivial⟩, H, hm⟩
        ·have hm := ite_f hc753 hm
         refine wp_skip ?_
         refine inBlock_norm ?_
         exact ⟨xs619, xs621, v620, S.sub ⟨rfl, rfl, rfl, rfl, rfl, rfl, rfl, trivial⟩, H, hm⟩
    ·have hm := ite_f hc703 hm
     refine wp_exit ?_
     refine then_exit ?_
     refine then_exit ?_
     refine inBlock_exit ?_
     obtain rfl := it_brk hm hc702
     exact ⟨xs619, xs621, v620, S.sub ⟨rfl, rfl, rfl, rfl, rfl, trivial⟩, H, rfl⟩
  ·have hm := ite_f hc531 hm
   refine wp_exit ?_
   refine then_exit ?_
   refine then_exit ?_
   refine inBlock_exit ?_
   obtain rfl := it_brk hm hc530
   have H : Heap w0 [] w := H.sel [] (by decide)
   exact ⟨S.sub trivial, H, rfl⟩

/-- spec.IsWinningStrategy -/
def spec_IsWinningStrategy_m (fuel : Nat) (a0 : (List Timpl_Vertex)) (a1 : Int) (a2 : (List Int)) (a3 : (List Int)) : Option (Bool) :=
  (spec_l23Is_m fuel a0).bind fun x33 => (if (!x33) = true then some true else (spec_l00In_m fuel a1 (0 : Int) (1 : Int)).bind fun x41 => some (!x41)).bind fun t36 => (if t36 = true then some true else (spec_l00Rises_m fuel a2 (0 : Int) (W ((a0.length : Int) - (1 : Int)))).bind fun x49 => some (!x49)).bind fun t44 => (if t44 = true then some true else some ((a3.length : Int) != (a0.length : Int))).bind fun t52 => (if t52 = true then some (false) else (spec_l23Kept_m fuel a0 a1 a2 a3).bind fun x58 => (if (!x58.2) = true then some (false) else (iter (fun (s : (Int)) => (match s with | (x95) => (if (decide (x95 < (a2.length : Int))) = true then (idx a2 x95).bind fun x136 => (idx a0 x136).bind fun x141 => (if ((x141.2.1.tmod (2 : Int)) != a1) = true then (spec_l23Cycle_m fuel x58.1 x136).bind fun x161 => some x161 else some false).bind fun t156 => (if t156 = true then some (.inr (.inr false)) else some (.inl ((W (x95 + (1 : Int)))))) else some (.inr (.inl ()))) : Option (((Int)) ⊕ ((Unit) ⊕ (Bool))))) fuel ((0 : Int))).bind fun res127 => ctl (β := Unit) (ρ := Bool) (τ := Bool) res127 (fun _ => some (true)) (fun q => some (q))))
set_option maxRecDepth 20000 in
theorem spec_IsWinningStrategy_ok {w0 : World} {fuel : Nat} {p0 p2 p3 : Value} {a0 : (List Timpl_Vertex)} {a1 : Int} {a2 : (List Int)} {a3 : (List Int)} {r : Bool} (h0 : Rd (rList Rimpl_Vertex) w0 p0 a0) (h2 : Rd (rList (rInt .i64)) w0 p2 a2) (h3 : Rd (rList (rInt .i64)) w0 p3 a3) (hm : spec_IsWinningStrategy_m fuel a0 a1 a2 a3 = some r) :
  Calls Try.prog 14 #[p0, .int .i64 a1, p2, p3] w0 fun e w => e = .returned (.bool r) ∧ Heap w0 [] w := by
 unfold spec_IsWinningStrategy_m at hm
 have H := Heap.start w0
 refine enter (args := [p0, .int .i64 a1, p2, p3]) Try.func14 rfl 69 rfl (Nat.le_of_ble_eq_true rfl) (fun a S => ?_)
 refine wp_seq (region_plain ?_)
 refine lq (.bool false) S (q_assign rfl) fun a S => ?_
 refine lx_nil (thenN ?_)
 refine wp_seq (wp_seq (region_plain ?_))
 refine lq p0 S (q_move rfl) fun a S => ?_
 obtain ⟨x33, e34, hm⟩ := bind_some hm
 refine lx_call (xs := [.tmp 13]) S trivial (by decide) rfl rfl Try.call53 ((spec_l23Is_ok (H.arg h0) e34).mono ?_)
 rintro e w31 ⟨rfl, Hc32⟩
 have H := H.call0 Hc32
 refine ⟨_, rfl, trivial, fun a S => ?_⟩
 refine lq (.bool (!x33)) S (q_not rfl) fun a S => ?_
 refine lq (.bool (!x33)) S (q_move rfl) fun a S => ?_
 obtain ⟨t36, e37, hm⟩ := bind_some hm
 refine lx_cut 4 (fun a w => Slots a 69 [(0, p0), (1, (.int .i64 a1)), (2, p2), (3, p3), (20, (.bool t36))] ∧ Heap w0 [] w) ?_ ?_
 ·by_cases hc38 : (!x33) = true
  ·have hm := ite_t hc38 e37
   refine lx_skip S rfl rfl (isB_ne hc38) (by decide) (fun a S => ?_)
   refine lx_skip S rfl rfl (isB_ne hc38) (by decide) (fun a S => ?_)
   refine lx_skip S rfl rfl (isB_ne hc38) (by decide) (fun a S => ?_)
   refine lq (.bool true) S (q_pickT' rfl hc38 rfl) fun a S => ?_
   refine lx_nil ?_
   obtain rfl := Option.some.inj hm
   exact ⟨S.sub ⟨rfl, rfl, rfl, rfl, rfl, trivial⟩, H⟩
  ·have hm := ite_f (eq_false_of_ne_true hc38) e37
   have hc38 : (!x33) = false := eq_false_of_ne_true hc38
   refine lx_q (.int .i64 a1) S (want_b rfl rfl hc38) (by decide) (q_move rfl) (fun a S => ?_)
   obtain ⟨x41, e42, hm⟩ := bind_some hm
   refine lx_call (xs := [.tmp 17, .const (.int .i64 (0)), .const (.int .i64 (1))]) S (want_b rfl rfl hc38) (by decide) rfl rfl Try.call54 ((spec_l00In_ok    e42).mono ?_)
   rintro e w39 ⟨rfl, Hc40⟩
   have H := H.call0 Hc40
   refine ⟨_, rfl, trivial, fun a S => ?_⟩
   refine lx_q (.bool (!x41)) S (want_b rfl rfl hc38) (by decide) (q_not rfl) (fun a S => ?_)
   refine lq (.bool (!x41)) S (q_pickF' rfl hc38 rfl) fun a S => ?_
   refine lx_nil ?_
   obtain rfl := Option.some.inj hm
   exact ⟨S.sub ⟨rfl, rfl, rfl, rfl, rfl, trivial⟩, H⟩
 ·rintro a w ⟨S, H⟩
  refine lq (.bool t36) S (q_move rfl) fun a S => ?_
  obtain ⟨t44, e45, hm⟩ := bind_some hm
  refine lx_cut 7 (fun a w => Slots a 69 [(0, p0), (1, (.int .i64 a1)), (2, p2), (3, p3), (28, (.bool t44))] ∧ Heap w0 [] w) ?_ ?_
  ·by_cases hc46 : t36 = true
   ·have hm := ite_t hc46 e45
    refine lx_skip S rfl rfl (isB_ne hc46) (by decide) (fun a S => ?_)
    refine lx_skip S rfl rfl (isB_ne hc46) (by decide) (fun a S => ?_)
    refine lx_skip S rfl rfl (isB_ne hc46) (by decide) (fun a S => ?_)
    refine lx_skip S rfl rfl (isB_ne hc46) (by decide) (fun a S => ?_)
    refine lx_skip S rfl rfl (isB_ne hc46) (by decide) (fun a S => ?_)
    refine lx_skip S rfl rfl (isB_ne hc46) (by decide) (fun a S => ?_)
    refine lq (.bool true) S (q_pickT' rfl hc46 rfl) fun a S => ?_
    refine lx_nil ?_
    obtain rfl := Option.some.inj hm
    exact ⟨S.sub ⟨rfl, rfl, rfl, rfl, rfl, trivial⟩, H⟩
   ·have hm := ite_f (eq_false_of_ne_true hc46) e45
    have hc46 : t36 = false := eq_false_of_ne_true hc46
    refine lx_q p2 S (want_b rfl rfl hc46) (by decide) (q_move rfl) (fun a S => ?_)
    refine lx_q p0 S (want_b rfl rfl hc46) (by decide) (q_move rfl) (fun a S => ?_)
    refine lx_q (.int .i64 (a0.length : Int)) S (want_b rfl rfl hc46) (by decide) (q_lenSl rfl (h0).isSl rfl Try.underlying26) (fun a S => ?_)
    refine lx_q (.int .i64 (W ((a0.length : Int) - (1 : Int)))) S (want_b rfl rfl hc46) (by decide) (q_sub rfl rfl) (fun a S => ?_)
    obtain ⟨x49, e50, hm⟩ := bind_some hm
    refine lx_call (xs := [.tmp 22, .const (.int .i64 (0)), .tmp 25]) S (want_b rfl rfl hc46) (by decide) rfl rfl Try.call55 ((spec_l00Rises_ok (H.arg h2)   e50).mono ?_)
    rintro e w47 ⟨rfl, Hc48⟩
    have H := H.call0 Hc48
    refine ⟨_, rfl, trivial, fun a S => ?_⟩
    refine lx_q (.bool (!x49)) S (want_b rfl rfl hc46) (by decide) (q_not rfl) (fun a S => ?_)
    refine lq (.bool (!x49)) S (q_pickF' rfl hc46 rfl) fun a S => ?_
    refine lx_nil ?_
    obtain rfl := Option.some.inj hm
    exact ⟨S.sub ⟨rfl, rfl, rfl, rfl, rfl, trivial⟩, H⟩
  ·rintro a w ⟨S, H⟩
   refine lq (.bool t44) S (q_move rfl) fun a S => ?_
   obtain ⟨t52, e53, hm⟩ := bind_some hm
   refine lx_cut 6 (fun a w => Slots a 69 [(0, p0), (1, (.int .i64 a1)), (2, p2), (3, p3), (35, (.bool t52))] ∧ Heap w0 [] w) ?_ ?_
   ·by_cases hc54 : t44 = true
    ·have hm := ite_t hc54 e53
     refine lx_skip S rfl rfl (isB_ne hc54) (by decide) (fun a S => ?_)
     refine lx_skip S rfl rfl (isB_ne hc54) (by decide) (fun a S => ?_)
     refine lx_skip S rfl rfl (isB_ne hc54) (by decide) (fun a S => ?_)
     refine lx_skip S rfl rfl (isB_ne hc54) (by decide) (fun a S => ?_)
     refine lx_skip S rfl rfl (isB_ne hc54) (by decide) (fun a S => ?_)
     refine lq (.bool true) S (q_pickT' rfl hc54 rfl) fun a S => ?_
     refine lx_nil ?_
     obtain rfl := Option.some.inj hm
     exact ⟨S.sub ⟨rfl, rfl, rfl, rfl, rfl, trivial⟩, H⟩
    ·have hm := ite_f (eq_false_of_ne_true hc54) e53
     have hc54 : t44 = false := eq_false_of_ne_true hc54
     refine lx_q p3 S (want_b rfl rfl hc54) (by decide) (q_move rfl) (fun a S => ?_)
     refine lx_q (.int .i64 (a3.length : Int)) S (want_b rfl rfl hc54) (by decide) (q_lenSl rfl (h3).isSl rfl Try.underlying23) (fun a S => ?_)
     refine lx_q p0 S (want_b rfl rfl hc54) (by decide) (q_move rfl) (fun a S => ?_)
     refine lx_q (.int .i64 (a0.length : Int)) S (want_b rfl rfl hc54) (by decide) (q_lenSl rfl (h0).isSl rfl Try.underlying26) (fun a S => ?_)
     refine lx_q (.bool ((a3.length : Int) != (a0.length : Int))) S (want_b rfl rfl hc54) (by decide) (q_neq rfl rfl) (fun a S => ?_)
     refine lq (.bool ((a3.length : Int) != (a0.length : Int))) S (q_pickF' rfl hc54 rfl) fun a S => ?_
     refine lx_nil ?_
     obtain rfl := Option.some.inj hm
     exact ⟨S.sub ⟨rfl, rfl, rfl, rfl, rfl, trivial⟩, H⟩
   ·rintro a w ⟨S, H⟩
    refine lx_nil (thenN ?_)
    refine cond_b S rfl (fun hc55 => ?_) (fun hc55 => ?_)
    ·have hm := ite_t hc55 hm
     refine wp_seq (region_plain ?_)
     refine lq (.bool false) S (q_assign rfl) fun a S => ?_
     refine lx_nil (thenN ?_)
     refine wp_ret (then_ret ?_)
     obtain rfl := Option.some.inj hm
     exact leave1 S rfl rfl ⟨rfl, H⟩
    ·have hm := ite_f hc55 hm
     refine wp_skip (thenN ?_)
     refine wp_seq (region_plain ?_)
     refine lq p0 S (q_move rfl) fun a S => ?_
     refine lq (.int .i64 a1) S (q_move rfl) fun a S => ?_
     refine lq p2 S (q_move rfl) fun a S => ?_
     refine lq p3 S (q_move rfl) fun a S => ?_
     obtain ⟨x58, e59, hm⟩ := bind_some hm
     refine lx_call (xs := [.tmp 37, .tmp 38, .tmp 39, .tmp 40]) S trivial (by decide) rfl rfl Try.call56 ((spec_l23Kept_ok (H.arg h0)  (H.arg h2) (H.arg h3) e59).mono ?_)
     rintro e w56 ⟨v60, rfl, Hc57⟩
     have H := H.call1 Hc57
     refine ⟨_, rfl, trivial, fun a S => ?_⟩
     refine lq (.tuple #[v60, (.bool x58.2)]) S (q_move rfl) fun a S => ?_
     refine lq v60 S (q_extract rfl rfl) fun a S => ?_
     refine lq (.bool x58.2) S (q_extract rfl rfl) fun a S => ?_
     refine lq v60 S (q_assign rfl) fun a S => ?_
     refine lq (.bool x58.2) S (q_assign rfl) fun a S => ?_
     refine lx_nil (thenN ?_)
     refine wp_seq (wp_seq (region_plain ?_))
     refine lq (.bool x58.2) S (q_move rfl) fun a S => ?_
     refine lq (.bool (!x58.2)) S (q_not rfl) fun a S => ?_
     refine lx_nil (thenN ?_)
     refine cond_b S rfl (fun hc63 => ?_) (fun hc63 => ?_)
     ·have hm := ite_t hc63 hm
      refine wp_seq (region_plain ?_)
      refine lq (.bool false) S (q_assign rfl) fun a S => ?_
      refine lx_nil (thenN ?_)
      refine wp_ret (then_ret ?_)
      obtain rfl := Option.some.inj hm
      have H : Heap w0 [] w56 := H.sel [] (by decide)
      exact leave1 S rfl rfl ⟨rfl, H⟩
     ·have hm := ite_f hc63 hm
      refine wp_skip (thenN ?_)
      refine wp_seq (wp_seq (region_plain ?_))
      refine lq (.int .i64 (0 : Int)) S (q_assign rfl) fun a S => ?_
      refine lx_nil (thenN ?_)
      obtain ⟨res127, hit128, hk131⟩ := bind_some hm
      obtain ⟨f129, hf130, hit128⟩ := iter_name hit128
      refine block_loop (fun a w => Slots a 69 [] ∧ Heap w0 [] w ∧ res127 = .inl ()) ?_ ?_
      ·rintro a w ⟨S, H, rfl⟩
       have hm := ctl_inl hk131
       refine thenN ?_
       refine wp_seq (region_plain ?_)
       refine lq (.bool true) S (q_assign rfl) fun a S => ?_
       refine lx_nil (thenN ?_)
       refine wp_ret ?_
       obtain rfl := Option.some.inj hm
       exact leave1 S rfl rfl ⟨rfl, H⟩
      ·skip
       refine loop_ghost (fun n a w => ∃ (x95 : Int), Slots a 69 [(0, p0), (1, (.int .i64 a1)), (2, p2), (9, v60), (11, (.int .i64 x95))] ∧ Heap w0 [oA (rList Rimpl_Vertex) v60 x58.1] w ∧ iter f129 n (x95) = some res127) _ ⟨(0 : Int), S.sub ⟨rfl, rfl, rfl, rfl, rfl, trivial⟩, H, hit128⟩ ?_
       rintro n a w ⟨x95, S, H, hit128⟩
       obtain ⟨m132, o133, rfl, hm, hc134⟩ := iter_step hit128
       rw [hf130] at hm
       refine wp_seq (wp_seq (region_plain ?_))
       refine lq (.int .i64 x95) S (q_move rfl) fun a S => ?_
       refine lq p2 S (q_move rfl) fun a S => ?_
       refine lq (.int .i64 (a2.length : Int)) S (q_lenSl rfl (h2).isSl rfl Try.underlying23) fun a S => ?_
       refine lq (.bool (decide (x95 < (a2.length : Int)))) S (q_lss rfl rfl) fun a S => ?_
       refine lx_nil (thenN ?_)
       refine cond_b S rfl (fun hc135 => ?_) (fun hc135 => ?_)
       ·have hm := ite_t hc135 hm
        refine wp_skip (thenN ?_)
        refine wp_seq ?_
        refine wp_block ?_
        refine wp_seq (region_plain ?_)
        refine lq p2 S (q_move rfl) fun a S => ?_
        refine lq (.int .i64 x95) S (q_move rfl) fun a S => ?_
        obtain ⟨x136, e137, hm⟩ := bind_some hm
        obtain ⟨c138, h139, hat140⟩ := (h2).elem (idx_some e137).2
        obtain rfl := h139
        have hlt := lt_of_idx (idx_some e137).2
        refine lq (ePtr p2 (x95.toNat * 1)) S (q_indexAddr rfl (h2).isSl rfl (idx_some e137).1 hlt Try.underlying23 Try.sizeOf2) fun a S => ?_
        refine lx_e (.int .i64 x136) S trivial (by decide) rfl trivial (q_load1 rfl Try.isAgg2 (by rintro _ rfl; exact ((hat140 0 _ rfl).ext H.ext))) (fun a S => ?_)
        refine lq (.int .i64 x136) S (q_assign rfl) fun a S => ?_
        refine lx_nil (thenN ?_)
        refine wp_seq (region_plain ?_)
        refine lq p0 S (q_move rfl) fun a S => ?_
        refine lq (.int .i64 x136) S (q_move rfl) fun a S => ?_
        obtain ⟨x141, e142, hm⟩ := bind_some hm
        obtain ⟨c143, h144, hat145⟩ := (h0).elem (idx_some e142).2
        obtain ⟨c148, c149, rfl, h150, h151⟩ := h144
        obtain rfl := h150
        obtain ⟨c152, c153, rfl, h154, h155⟩ := h151
        obtain rfl := h154
        obtain ⟨v146, rfl, h147⟩ := rd_list h155
        have hlt := lt_of_idx (idx_some e142).2
        refine lq (ePtr p0 (x136.toNat * 3)) S (q_indexAddr rfl (h0).isSl rfl (idx_some e142).1 hlt Try.underlying26 Try.sizeOf71) fun a S => ?_
        refine lq (pAdd (ePtr p0 (x136.toNat * 3)) 1) S (q_fieldAddr' 1 2 rfl ((hat145 0 _ rfl).isP) Try.underlying71 rfl Try.sizeOf2) fun a S => ?_
        refine lx_e (.int .i64 x141.2.1) S trivial (by decide) rfl trivial (q_load1 rfl Try.isAgg2 (by rintro _ rfl; exact (At.of_add (m := 1) (j := 0) ((hat145 1 _ rfl).ext H.ext)))) (fun a S => ?_)
        refine lq (.int .i64 (x141.2.1.tmod (2 : Int))) S (q_rem rfl rfl (show (2 : Int) ≠ 0 from by decide)) fun a S => ?_
        refine lq (.int .i64 a1) S (q_move rfl) fun a S => ?_
        refine lq (.bool ((x141.2.1.tmod (2 : Int)) != a1)) S (q_neq rfl rfl) fun a S => ?_
        refine lq (.bool ((x141.2.1.tmod (2 : Int)) != a1)) S (q_move rfl) fun a S => ?_
        obtain ⟨t156, e157, hm⟩ := bind_some hm
        refine lx_cut 4 (fun a w => Slots a 69 [(0, p0), (1, (.int .i64 a1)), (2, p2), (9, v60), (11, (.int .i64 x95)), (68, (.bool t156))] ∧ Heap w0 [oA (rList Rimpl_Vertex) v60 x58.1] w) ?_ ?_
        ·by_cases hc158 : ((x141.2.1.tmod (2 : Int)) != a1) = true
         ·have hm := ite_t hc158 e157
          refine lx_q v60 S (want_b rfl rfl hc158) (by decide) (q_move rfl) (fun a S => ?_)
          refine lx_q (.int .i64 x136) S (want_b rfl rfl hc158) (by decide) (q_move rfl) (fun a S => ?_)
          obtain ⟨x161, e162, hm⟩ := bind_some hm
          refine lx_call (xs := [.tmp 65, .tmp 66]) S (want_b rfl rfl hc158) (by decide) rfl rfl Try.call57 ((spec_l23Cycle_ok (H.rdAt 0 rfl)  e162).mono ?_)
          rintro e w159 ⟨rfl, Hc160⟩
          have H := H.call0 Hc160
          refine ⟨_, rfl, trivial, fun a S => ?_⟩
          refine lq (.bool x161) S (q_pickT' rfl hc158 rfl) fun a S => ?_
          refine lx_nil ?_
          obtain rfl := Option.some.inj hm
          exact ⟨S.sub ⟨rfl, rfl, rfl, rfl, rfl, rfl, trivial⟩, H⟩
         ·have hm := ite_f (eq_false_of_ne_true hc158) e157
          have hc158 : ((x141.2.1.tmod (2 : Int)) != a1) = false := eq_false_of_ne_true hc158
          refine lx_skip S rfl rfl (isB_ne hc158) (by decide) (fun a S => ?_)
          refine lx_skip S rfl rfl (isB_ne hc158) (by decide) (fun a S => ?_)
          refine lx_skip S rfl rfl (isB_ne hc158) (by decide) (fun a S => ?_)
          refine lq (.bool false) S (q_pickF' rfl hc158 rfl) fun a S => ?_
          refine lx_nil ?_
          obtain rfl := Option.some.inj hm
          exact ⟨S.sub ⟨rfl, rfl, rfl, rfl, rfl, rfl, trivial⟩, H⟩
        ·rintro a w ⟨S, H⟩
         refine lx_nil (thenN ?_)
         refine cond_b S rfl (fun hc164 => ?_) (fun hc164 => ?_)
         ·have hm := ite_t hc164 hm
          refine wp_seq (region_plain ?_)
          refine lq (.bool false) S (q_assign rfl) fun a S => ?_
          refine lx_nil (thenN ?_)
          refine wp_ret (inBlock_ret ?_)
          refine then_ret ?_
          refine then_ret ?_
          refine inBlock_ret ?_
          refine then_ret ?_
          refine then_ret ?_
          obtain rfl := it_brk hm hc134
          have hm := ctl_inr hk131
          obtain rfl := Option.some.inj hm
          have H : Heap w0 [] w := H.sel [] (by decide)
          exact leave1 S rfl rfl ⟨rfl, H⟩
         ·have hm := ite_f hc164 hm
          refine wp_skip ?_
          refine inBlock_norm ?_
          refine thenN ?_
          refine region_plain ?_
          refine lq (.int .i64 x95) S (q_move rfl) fun a S => ?_
          refine lq (.int .i64 (W (x95 + (1 : Int)))) S (q_add rfl rfl) fun a S => ?_
          refine lq (.int .i64 (W (x95 + (1 : Int)))) S (q_assign rfl) fun a S => ?_
          refine lx_nil ?_
          exact ⟨m132, Nat.lt_succ_self _, (W (x95 + (1 : Int))), S.sub ⟨rfl, rfl, rfl, rfl, rfl, trivial⟩, H, it_cont hm hc134⟩
       ·have hm := ite_f hc135 hm
        refine wp_exit ?_
        refine then_exit ?_
        refine then_exit ?_
        refine inBlock_exit ?_
        obtain rfl := it_brk hm hc134
        have H : Heap w0 [] w := H.sel [] (by decide)
        exact ⟨S.sub trivial, H, rfl⟩

/-- impl.IsWinningStrategy$1 -/
def impl_IsWinningStrategy_1_m (fuel : Nat) (a0 : Int) (a1 : (List Int)) : Option (Bool) :=
  (slices_Contains__int64_int64_m fuel a1 a0).bind fun x38 => some ((!x38))
set_option maxRecDepth 20000 in
theorem impl_IsWinningStrategy_1_ok {w0 : World} {fuel : Nat} {p1 : Value} {a0 : Int} {a1 : (List Int)} {r : Bool} (h1 : Rd (rPtr (rList (rInt .i64))) w0 p1 a1) (hm : impl_IsWinningStrategy_1_m fuel a0 a1 = some r) :
  Calls Try.prog 64 #[.int .i64 a0, p1] w0 fun e w => e = .returned (.bool r) ∧ Heap w0 [] w := by
 unfold impl_IsWinningStrategy_1_m at hm
 have H := Heap.start w0
 obtain ⟨c31, h32, hat33⟩ := h1.ptr
 obtain ⟨v34, rfl, h35⟩ := rd_list h32
 refine enter (args := [.int .i64 a0, p1]) Try.func64 rfl 8 rfl (Nat.le_of_ble_eq_true rfl) (fun a S => ?_)
 refine wp_seq (region_plain ?_)
 refine lq (.bool false) S (q_assign rfl) fun a S => ?_
 refine lx_nil (thenN ?_)
 refine wp_seq (region_plain ?_)
 refine lx_e v34 S trivial (by decide) rfl trivial (q_load1 rfl Try.isAgg23 (by rintro _ rfl; exact ((hat33 0 _ rfl).ext H.ext))) (fun a S => ?_)
 refine lq (.int .i64 a0) S (q_move rfl) fun a S => ?_
 obtain ⟨x38, e39, hm⟩ := bind_some hm
 refine lx_call (xs := [.tmp 4, .tmp 5]) S trivial (by decide) rfl rfl Try.call62 ((slices_Contains__int64_int64_ok (H.arg h35)  e39).mono ?_)
 rintro e w36 ⟨rfl, Hc37⟩
 have H := H.call0 Hc37
 refine ⟨_, rfl, trivial, fun a S => ?_⟩
 refine lq (.bool (!x38)) S (q_not rfl) fun a S => ?_
 refine lq (.bool (!x38)) S (q_assign rfl) fun a S => ?_
 refine lx_nil (thenN ?_)
 refine wp_ret ?_
 obtain rfl := Option.some.inj hm
 exact leave1 S rfl rfl ⟨rfl, H⟩

/-- impl.badCycle -/
def impl_badCycle_m (fuel : Nat) (a0 : (List (List Int))) (a1 : (List Int)) (a2 : Int) : Option (Bool) :=
  (iter (fun (s : (Int)) => (match s with | (x536) => (if (decide (x536 < (a1.length : Int))) = true then join (κ := Option (((Int)) ⊕ ((Unit) ⊕ (Bool)))) (some (.inl ((W (x536 + (1 : Int)))))) (fun K1051 => (idx a1 x536).bind fun x1053 => (if ((x1053.tmod (2 : Int)) == a2) = true then K1051 else (mks (a0.length : Int) false).bind fun x1059 => (iter (fun (s : (List Bool) × (List Int)) => (match s with | (xs1225, xs1227) => (if (decide ((0 : Int) < (xs1227.length : Int))) = true then (idx xs1227 (0 : Int)).bind fun x1402 => (sub xs1227 (1 : Int) (xs1227.length : Int)).bind fun xs1407 => (idx a0 x1402).bind fun x1409 => (iter (fun (s : (List Bool) × (List Int) × (Int)) => (match s with | (xs1458, xs1460, x1462) => (if (decide (x1462 < (x1409.length : Int))) = true then join (κ := List Bool → List Int → Option (((List Bool) × (List Int) × (Int)) ⊕ (((List Bool) × (List Int)) ⊕ (Bool)))) (fun (xs1518 : List Bool) (xs1520 : List Int) => some (.inl (xs1518, xs1520, (W (x1462 + (1 : Int)))))) (fun K1522 => (idx x1409 x1462).bind fun x1524 => (idx a1 x1524).bind fun x1529 => (if (decide (x1529 < x1053)) = true then some true else (idx xs1458 x1524).bind fun x1537 => some x1537).bind fun t1534 => (if t1534 = true then (K1522 xs1458 xs1460) else (idx xs1458 x1524).bind fun _ => (app xs1460 [x1524]).bind fun x1549 => (K1522 (xs1458.set x1524.toNat true) x1549))) else some (.inr (.inl (xs1458, xs1460)))) : Option (((List Bool) × (List Int) × (Int)) ⊕ (((List Bool) × (List Int)) ⊕ (Bool))))) fuel (xs1225, xs1407, (0 : Int))).bind fun res1509 => ctl (β := (List Bool) × (List Int)) (ρ := Bool) (τ := (((List Bool) × (List Int)) ⊕ (((List Bool)) ⊕ (Bool)))) res1509 (fun (xs1505, xs1507) => some (.inl (xs1505, xs1507))) (fun q => some (.inr (.inr q))) else some (.inr (.inl (xs1225)))) : Option (((List Bool) × (List Int)) ⊕ (((List Bool)) ⊕ (Bool))))) fuel (x1059, [x536])).bind fun res1387 => ctl (β := (List Bool)) (ρ := Bool) (τ := (((Int)) ⊕ ((Unit) ⊕ (Bool)))) res1387 (fun (xs1386) => (idx xs1386 x536).bind fun x1392 => (if x1392 = true then some (.inr (.inr true)) else K1051)) (fun q => some (.inr (.inr q))))) else some (.inr (.inl ()))) : Option (((Int)) ⊕ ((Unit) ⊕ (Bool))))) fuel ((0 : Int))).bind fun res1042 => ctl (β := Unit) (ρ := Bool) (τ := Bool) res1042 (fun _ => some (false)) (fun q => some (q))
set_option maxRecDepth 20000 in
theorem impl_badCycle_ok {w0 : World} {fuel : Nat} {p0 p1 : Value} {a0 : (List (List Int))} {a1 : (List Int)} {a2 : Int} {r : Bool} (h0 : Rd (rList (rList (rInt .i64))) w0 p0 a0) (h1 : Rd (rList (rInt .i64)) w0 p1 a1) (hm : impl_badCycle_m fuel a0 a1 a2 = some r) :
  Calls Try.prog 65 #[p0, p1, .int .i64 a2] w0 fun e w => e = .returned (.bool r) ∧ Heap w0 [] w := by
 unfold impl_badCycle_m at hm
 have H := Heap.start w0
 refine enter (args := [p0, p1, .int .i64 a2]) Try.func65 rfl 72 rfl (Nat.le_of_ble_eq_true rfl) (fun a S => ?_)
 refine wp_seq (region_plain ?_)
 refine lq (.bool false) S (q_assign rfl) fun a S => ?_
 refine lx_nil (thenN ?_)
 refine wp_seq (wp_seq (region_plain ?_))
 refine lq p1 S (q_move rfl) fun a S => ?_
 refine lq (.int .i64 (a1.length : Int)) S (q_lenSl rfl (h1).isSl rfl Try.underlying23) fun a S => ?_
 refine lq (.int .i64 (0 : Int)) S (q_move rfl) fun a S => ?_
 refine lx_nil (thenN ?_)
 obtain ⟨res1042, hit1043, hk1046⟩ := bind_some hm
 obtain ⟨f1044, hf1045, hit1043⟩ := iter_name hit1043
 refine block_loop (fun a w => Slots a 72 [] ∧ Heap w0 [] w ∧ res1042 = .inl ()) ?_ ?_
 ·rintro a w ⟨S, H, rfl⟩
  have hm := ctl_inl hk1046
  refine thenN ?_
  refine wp_seq (region_plain ?_)
  refine lq (.bool false) S (q_assign rfl) fun a S => ?_
  refine lx_nil (thenN ?_)
  refine wp_ret ?_
  obtain rfl := Option.some.inj hm
  exact leave1 S rfl rfl ⟨rfl, H⟩
 ·skip
  refine loop_ghost (fun n a w => ∃ (x536 : Int), Slots a 72 [(0, p0), (1, p1), (2, (.int .i64 a2)), (14, p1), (15, (.int .i64 (a1.length : Int))), (16, (.int .i64 x536))] ∧ Heap w0 [] w ∧ iter f1044 n (x536) = some res1042) _ ⟨(0 : Int), S.sub ⟨rfl, rfl, rfl, rfl, rfl, rfl, trivial⟩, H, hit1043⟩ ?_
  rintro n a w ⟨x536, S, H, hit1043⟩
  obtain ⟨m1047, o1048, rfl, hm, hc1049⟩ := iter_step hit1043
  rw [hf1045] at hm
  refine wp_seq (region_plain ?_)
  refine lq (.bool (decide (x536 < (a1.length : Int)))) S (q_lss rfl rfl) fun a S => ?_
  refine lx_nil (thenN ?_)
  refine wp_seq ?_
  refine cond_b S rfl (fun hc1050 => ?_) (fun hc1050 => ?_)
  ·have hm := ite_t hc1050 hm
   refine wp_skip (thenN ?_)
   obtain ⟨K1051, hK1052, hm⟩ := join_elim hm
   refine seq_cut (fun a w => Slots a 72 [(0, p0), (1, p1), (2, (.int .i64 a2)), (14, p1), (15, (.int .i64 (a1.length : Int))), (16, (.int .i64 x536))] ∧ Heap w0 [] w ∧ K1051 = some o1048) ?_ ?_
   ·rintro a w ⟨S, H, hm⟩
    subst hK1052
    refine region_plain ?_
    refine lq (.int .i64 (W (x536 + (1 : Int)))) S (q_add rfl rfl) fun a S => ?_
    refine lq (.int .i64 (W (x536 + (1 : Int)))) S (q_move rfl) fun a S => ?_
    refine lx_nil ?_
    exact ⟨m1047, Nat.lt_succ_self _, (W (x536 + (1 : Int))), S.sub ⟨rfl, rfl, rfl, rfl, rfl, rfl, trivial⟩, H, it_cont hm hc1049⟩
   ·skip
    refine wp_block ?_
    refine wp_seq (region_plain ?_)
    refine lq (.int .i64 x536) S (q_move rfl) fun a S => ?_
    obtain ⟨x1053, e1054, hm⟩ := bind_some hm
    obtain ⟨c1055, h1056, hat1057⟩ := (h1).elem (idx_some e1054).2
    obtain rfl := h1056
    have hlt := lt_of_idx (idx_some e1054).2
    refine lq (ePtr p1 (x536.toNat * 1)) S (q_indexAddr rfl (h1).isSl rfl (idx_some e1054).1 hlt Try.underlying23 Try.sizeOf2) fun a S => ?_
    refine lx_e (.int .i64 x1053) S trivial (by decide) rfl trivial (q_load1 rfl Try.isAgg2 (by rintro _ rfl; exact ((hat1057 0 _ rfl).ext H.ext))) (fun a S => ?_)
    refine lq (.int .i64 x536) S (q_assign rfl) fun a S => ?_
    refine lq (.int .i64 x1053) S (q_assign rfl) fun a S => ?_
    refine lx_nil (thenN ?_)
    refine wp_seq (wp_seq (region_plain ?_))
    refine lq (.int .i64 x1053) S (q_move rfl) fun a S => ?_
    refine lq (.int .i64 (x1053.tmod (2 : Int))) S (q_rem rfl rfl (show (2 : Int) ≠ 0 from by decide)) fun a S => ?_
    refine lq (.int .i64 a2) S (q_move rfl) fun a S => ?_
    refine lq (.bool ((x1053.tmod (2 : Int)) == a2)) S (q_eql rfl rfl) fun a S => ?_
    refine lx_nil (thenN ?_)
    refine cond_b S rfl (fun hc1058 => ?_) (fun hc1058 => ?_)
    ·have hm := ite_t hc1058 hm
     refine wp_exit ?_
     refine then_exit ?_
     refine inBlock_exit ?_
     exact ⟨S.sub ⟨rfl, rfl, rfl, rfl, rfl, rfl, trivial⟩, H, hm⟩
    ·have hm := ite_f hc1058 hm
     refine wp_skip (thenN ?_)
     refine wp_seq (region_plain ?_)
     refine lq p0 S (q_move rfl) fun a S => ?_
     refine lq (.int .i64 (a0.length : Int)) S (q_lenSl rfl (h0).isSl rfl Try.underlying45) fun a S => ?_
     obtain ⟨x1059, e1060, hm⟩ := bind_some hm
     obtain ⟨m1061, hn, hn2, rfl⟩ := mks_some e1060
     refine lx_make (r := rBool) (z0 := false) (n := m1061) S trivial (by decide) rfl H (by rw [← hn]; rfl) (by rw [← hn]; rfl) Try.underlying113 (Try.ti4) rfl rfl (Nat.le_of_ble_eq_true rfl) (fun w => ⟨rfl, rfl⟩) hn2 (by decide) (fun v1062 w1063 H => ⟨trivial, fun a S => ?_⟩)
     refine lq v1062 S (q_assign rfl) fun a S => ?_
     refine lx_nil (thenN ?_)
     refine wp_seq (region_plain ?_)
     refine lq (.int .i64 x536) S (q_move rfl) fun a S => ?_
     refine lx_buildSlice (r := (rInt .i64)) (xs := [x536]) (ps := [(0, [(.int .i64 x536)])]) (cs := [(.int .i64 x536)]) (parts := [(0, .tmp 28)]) S trivial (by decide) rfl (H.put0 (A := eA) rfl) rfl Try.underlying23 Try.sizeOf2 Try.zeroValue2 (by decide) ⟨rfl, rfl, Nat.le_of_ble_eq_true rfl, trivial⟩ (by intro zs hz; exact fill_dense hz ⟨rfl, trivial⟩ rfl rfl) rfl (by decide) (fun w F hA => by cases (show F = [] from hA); exact ⟨_, _, [(.int .i64 x536)], _, rfl, rfl, ⟨rfl, rfl⟩, ⟨rfl, rfl⟩⟩) (fun v1065 w1066 H => ⟨trivial, fun a S => ?_⟩)
     refine lq v1065 S (q_assign rfl) fun a S => ?_
     refine lx_nil (thenN ?_)
     refine wp_seq ?_
     obtain ⟨res1387, hit1388, hk1391⟩ := bind_some hm
     obtain ⟨f1389, hf1390, hit1388⟩ := iter_name hit1388
     refine block_loop (fun a w => ∃ (xs1386 : List Bool), Slots a 72 [(0, p0), (1, p1), (2, (.int .i64 a2)), (7, (.int .i64 x536)), (9, v1062), (14, p1), (15, (.int .i64 (a1.length : Int))), (16, (.int .i64 x536))] ∧ Heap w0 [oA (rList rBool) v1062 xs1386] w ∧ res1387 = .inl (xs1386)) ?_ ?_
     ·rintro a w ⟨xs1386, S, H, rfl⟩
      have hm := ctl_inl hk1391
      refine thenN ?_
      refine wp_seq (region_plain ?_)
      refine lq v1062 S (q_move rfl) fun a S => ?_
      refine lq (.int .i64 x536) S (q_move rfl) fun a S => ?_
      obtain ⟨x1392, e1393, hm⟩ := bind_some hm
      have hlt := lt_of_idx (idx_some e1393).2
      refine lq (ePtr v1062 (x536.toNat * 1)) S (q_indexAddr rfl (H.isSl 0 rfl) rfl (idx_some e1393).1 hlt Try.underlying113 Try.sizeOf4) fun a S => ?_
      obtain ⟨c1394, h1395, hat1396⟩ := (H.rdAt 0 rfl).elem (idx_some e1393).2
      obtain rfl := h1395
      refine lx_e (.bool x1392) S trivial (by decide) rfl trivial (q_load1 rfl Try.isAgg4 (by rintro _ rfl; exact (hat1396 0 _ rfl))) (fun a S => ?_)
      refine lx_nil (thenN ?_)
      refine cond_b S rfl (fun hc1397 => ?_) (fun hc1397 => ?_)
      ·have hm := ite_t hc1397 hm
       refine wp_seq (region_plain ?_)
       refine lq (.bool true) S (q_assign rfl) fun a S => ?_
       refine lx_nil (thenN ?_)
       refine wp_ret (inBlock_ret ?_)
       refine then_ret ?_
       refine then_ret ?_
       refine inBlock_ret ?_
       refine then_ret ?_
       refine then_ret ?_
       obtain rfl := it_brk hm hc1049
       have hm := ctl_inr hk1046
       obtain rfl := Option.some.inj hm
       have H : Heap w0 [] w := H.sel [] (by decide)
       exact leave1 S rfl rfl ⟨rfl, H⟩
      ·have hm := ite_f hc1397 hm
       refine wp_skip ?_
       refine inBlock_norm ?_
       have H : Heap w0 [] w := H.sel [] (by decide)
       exact ⟨S.sub ⟨rfl, rfl, rfl, rfl, rfl, rfl, trivial⟩, H, hm⟩
     ·skip
      have H : Heap w0 [oA (rList rBool) v1062 (List.replicate m1061 false), oA (rList (rInt .i64)) v1065 [x536]] w1066 := H.front 1 rfl
      refine loop_ghost (fun n a w => ∃ (xs1225 : List Bool) (xs1227 : List Int) (v1226 : Value), Slots a 72 [(0, p0), (1, p1), (2, (.int .i64 a2)), (7, (.int .i64 x536)), (8, (.int .i64 x1053)), (9, v1062), (10, v1226), (14, p1), (15, (.int .i64 (a1.length : Int))), (16, (.int .i64 x536))] ∧ Heap w0 [oA (rList rBool) v1062 xs1225, oA (rList (rInt .i64)) v1226 xs1227] w ∧ iter f1389 n (xs1225, xs1227) = some res1387) _ ⟨(List.replicate m1061 false), [x536], v1065, S.sub ⟨rfl, rfl, rfl, rfl, rfl, rfl, rfl, rfl, rfl, rfl, trivial⟩, H, hit1388⟩ ?_
      rintro n a w ⟨xs1225, xs1227, v1226, S, H, hit1388⟩
      obtain ⟨m1398, o1399, rfl, hm, hc1400⟩ := iter_step hit1388
      rw [hf1390] at hm
      refine wp_seq (wp_seq (region_plain ?_))
      refine lq v1226 S (q_move rfl) fun a S => ?_
      refine lq (.int .i64 (xs1227.length : Int)) S (q_lenSl rfl (H.isSl 1 rfl) rfl Try.underlying23) fun a S => ?_
      refine lq (.bool (decide ((0 : Int) < (xs1227.length : Int)))) S (q_gtr rfl rfl) fun a S => ?_
      refine lx_nil (thenN ?_)
      refine cond_b S rfl (fun hc1401 => ?_) (fun hc1401 => ?_)
      ·have hm := ite_t hc1401 hm
       refine wp_skip (thenN ?_)
       refine wp_block ?_
       refine wp_seq (region_plain ?_)
       refine lq v1226 S (q_move rfl) fun a S => ?_
       obtain ⟨x1402, e1403, hm⟩ := bind_some hm
       have hlt := lt_of_idx (idx_some e1403).2
       refine lq (ePtr v1226 ((0 : Int).toNat * 1)) S (q_indexAddr rfl (H.isSl 1 rfl) rfl (idx_some e1403).1 hlt Try.underlying23 Try.sizeOf2) fun a S => ?_
       obtain ⟨c1404, h1405, hat1406⟩ := (H.rdAt 1 rfl).elem (idx_some e1403).2
       obtain rfl := h1405
       refine lx_e (.int .i64 x1402) S trivial (by decide) rfl trivial (q_load1 rfl Try.isAgg2 (by rintro _ rfl; exact (hat1406 0 _ rfl))) (fun a S => ?_)
       refine lq (.int .i64 x1402) S (q_assign rfl) fun a S => ?_
       refine lx_nil (thenN ?_)
       refine wp_seq (region_plain ?_)
       refine lq v1226 S (q_move rfl) fun a S => ?_
       obtain ⟨xs1407, e1408, hm⟩ := bind_some hm
       have hsb := (sub_some e1408).1
       refine lq (subV v1226 ((1 : Int)).toNat ((xs1227.length : Int)).toNat 1) S (q_slice (lo := (some (.const (.int .i64 (1))))) (hi := none) (l := (1 : Int)) (h := (xs1227.length : Int)) (size := 1) rfl (H.isSl 1 rfl) Try.underlying23 Try.sizeOf2 rfl rfl hsb.1 hsb.2.1 hsb.2.2) fun a S => ?_
       have H : Heap w0 [oA (rList (rInt .i64)) v1226 xs1227, oA (rList rBool) v1062 xs1225] w := H.front 1 rfl
       have H : Heap w0 [oA (rList (rInt .i64)) (subV v1226 ((1 : Int)).toNat ((xs1227.length : Int)).toNat 1) xs1407, oA (rList rBool) v1062 xs1225] w := H.cut e1408
       refine lq (subV v1226 ((1 : Int)).toNat ((xs1227.length : Int)).toNat 1) S (q_assign rfl) fun a S => ?_
       refine lx_nil (thenN ?_)
       refine wp_seq (region_plain ?_)
       refine lq p0 S (q_move rfl) fun a S => ?_
       refine lq (.int .i64 x1402) S (q_move rfl) fun a S => ?_
       obtain ⟨x1409, e1410, hm⟩ := bind_some hm
       obtain ⟨c1411, h1412, hat1413⟩ := (h0).elem (idx_some e1410).2
       obtain ⟨v1414, rfl, h1415⟩ := rd_list h1412
       have hlt := lt_of_idx (idx_some e1410).2
       refine lq (ePtr p0 (x1402.toNat * 1)) S (q_indexAddr rfl (h0).isSl rfl (idx_some e1410).1 hlt Try.underlying45 Try.sizeOf23) fun a S => ?_
       refine lx_e v1414 S trivial (by decide) rfl trivial (q_load1 rfl Try.isAgg23 (by rintro _ rfl; exact ((hat1413 0 _ rfl).ext H.ext))) (fun a S => ?_)
       refine lq (.int .i64 (x1409.length : Int)) S (q_lenSl rfl (h1415).isSl rfl Try.underlying23) fun a S => ?_
       refine lq (.int .i64 (0 : Int)) S (q_move rfl) fun a S => ?_
       refine lx_nil (thenN ?_)
       obtain ⟨res1509, hit1510, hk1513⟩ := bind_some hm
       obtain ⟨f1511, hf1512, hit1510⟩ := iter_name hit1510
       refine block_loop (fun a w => ∃ (xs1505 : List Bool) (xs1507 : List Int) (v1506 : Value), Slots a 72 [(0, p0), (1, p1), (2, (.int .i64 a2)), (7, (.int .i64 x536)), (8, (.int .i64 x1053)), (9, v1062), (10, v1506), (14, p1), (15, (.int .i64 (a1.length : Int))), (16, (.int .i64 x536))] ∧ Heap w0 [oA (rList rBool) v1062 xs1505, oA (rList (rInt .i64)) v1506 xs1507] w ∧ res1509 = .inl (xs1505, xs1507)) ?_ ?_
       ·rintro a w ⟨xs1505, xs1507, v1506, S, H, rfl⟩
        have hm := ctl_inl hk1513
        refine inBlock_norm ?_
        exact ⟨m1398, Nat.lt_succ_self _, xs1505, xs1507, v1506, S.sub ⟨rfl, rfl, rfl, rfl, rfl, rfl, rfl, rfl, rfl, rfl, trivial⟩, H, it_cont hm hc1400⟩
       ·skip
        have H : Heap w0 [oA (rList rBool) v1062 xs1225, oA (rList (rInt .i64)) (subV v1226 ((1 : Int)).toNat ((xs1227.length : Int)).toNat 1) xs1407] w := H.front 1 rfl
        refine loop_ghost (fun n a w => ∃ (xs1458 : List Bool) (xs1460 : List Int) (x1462 : Int) (v1459 : Value), Slots a 72 [(0, p0), (1, p1), (2, (.int .i64 a2)), (7, (.int .i64 x536)), (8, (.int .i64 x1053)), (9, v1062), (10, v1459), (14, p1), (15, (.int .i64 (a1.length : Int))), (16, (.int .i64 x536)), (41, v1414), (42, (.int .i64 (x1409.length : Int))), (43, (.int .i64 x1462))] ∧ Heap w0 [oA (rList rBool) v1062 xs1458, oA (rList (rInt .i64)) v1459 xs1460] w ∧ iter f1511 n (xs1458, xs1460, x1462) = some res1509) _ ⟨xs1225, xs1407, (0 : Int), (subV v1226 ((1 : Int)).toNat ((xs1227.length : Int)).toNat 1), S.sub ⟨rfl, rfl, rfl, rfl, rfl, rfl, rfl, rfl, rfl, rfl, rfl, rfl, rfl, trivial⟩, H, hit1510⟩ ?_
        rintro n a w ⟨xs1458, xs1460, x1462, v1459, S, H, hit1510⟩
        obtain ⟨m1514, o1515, rfl, hm, hc1516⟩ := iter_step hit1510
        rw [hf1512] at hm
        refine wp_seq (region_plain ?_)
        refine lq (.bool (decide (x1462 < (x1409.length : Int)))) S (q_lss rfl rfl) fun a S => ?_
        refine lx_nil (thenN ?_)
        refine wp_seq ?_
        refine cond_b S rfl (fun hc1517 => ?_) (fun hc1517 => ?_)
        ·have hm := ite_t hc1517 hm
         refine wp_skip (thenN ?_)
         obtain ⟨K1522, hK1523, hm⟩ := join_elim hm
         refine seq_cut (fun a w => ∃ (xs1518 : List Bool) (xs1520 : List Int) (v1519 : Value), Slots a 72 [(0, p0), (1, p1), (2, (.int .i64 a2)), (7, (.int .i64 x536)), (8, (.int .i64 x1053)), (9, v1062), (10, v1519), (14, p1), (15, (.int .i64 (a1.length : Int))), (16, (.int .i64 x536)), (41, v1414), (42, (.int .i64 (x1409.length : Int))), (43, (.int .i64 x1462))] ∧ Heap w0 [oA (rList rBool) v1062 xs1518, oA (rList (rInt .i64)) v1519 xs1520] w ∧ K1522 xs1518 xs1520 = some o1515) ?_ ?_
         ·rintro a w ⟨xs1518, xs1520, v1519, S, H, hm⟩
          subst hK1523
          refine region_plain ?_
          refine lq (.int .i64 (W (x1462 + (1 : Int)))) S (q_add rfl rfl) fun a S => ?_
          refine lq (.int .i64 (W (x1462 + (1 : Int)))) S (q_move rfl) fun a S => ?_
          refine lx_nil ?_
          exact ⟨m1514, Nat.lt_succ_self _, xs1518, xs1520, (W (x1462 + (1 : Int))), v1519, S.sub ⟨rfl, rfl, rfl, rfl, rfl, rfl, rfl, rfl, rfl, rfl, rfl, rfl, rfl, trivial⟩, H, it_cont hm hc1516⟩
         ·skip
          refine wp_block ?_
          refine wp_seq (region_plain ?_)
          obtain ⟨x1524, e1525, hm⟩ := bind_some hm
          obtain ⟨c1526, h1527, hat1528⟩ := (h1415).elem (idx_some e1525).2
          obtain rfl := h1527
          have hlt := lt_of_idx (idx_some e1525).2
          refine lq (ePtr v1414 (x1462.toNat * 1)) S (q_indexAddr rfl (h1415).isSl rfl (idx_some e1525).1 hlt Try.underlying23 Try.sizeOf2) fun a S => ?_
          refine lx_e (.int .i64 x1524) S trivial (by decide) rfl trivial (q_load1 rfl Try.isAgg2 (by rintro _ rfl; exact ((hat1528 0 _ rfl).ext H.ext))) (fun a S => ?_)
          refine lq (.int .i64 x1524) S (q_assign rfl) fun a S => ?_
          refine lx_nil (thenN ?_)
          refine wp_seq (wp_seq (region_plain ?_))
          refine lq p1 S (q_move rfl) fun a S => ?_
          refine lq (.int .i64 x1524) S (q_move rfl) fun a S => ?_
          obtain ⟨x1529, e1530, hm⟩ := bind_some hm
          obtain ⟨c1531, h1532, hat1533⟩ := (h1).elem (idx_some e1530).2
          obtain rfl := h1532
          have hlt := lt_of_idx (idx_some e1530).2
          refine lq (ePtr p1 (x1524.toNat * 1)) S (q_indexAddr rfl (h1).isSl rfl (idx_some e1530).1 hlt Try.underlying23 Try.sizeOf2) fun a S => ?_
          refine lx_e (.int .i64 x1529) S trivial (by decide) rfl trivial (q_load1 rfl Try.isAgg2 (by rintro _ rfl; exact ((hat1533 0 _ rfl).ext H.ext))) (fun a S => ?_)
          refine lq (.int .i64 x1053) S (q_move rfl) fun a S => ?_
          refine lq (.bool (decide (x1529 < x1053))) S (q_lss rfl rfl) fun a S => ?_
          refine lq (.bool (decide (x1529 < x1053))) S (q_move rfl) fun a S => ?_
          obtain ⟨t1534, e1535, hm⟩ := bind_some hm
          refine lx_cut 5 (fun a w => Slots a 72 [(0, p0), (1, p1), (2, (.int .i64 a2)), (7, (.int .i64 x536)), (8, (.int .i64 x1053)), (9, v1062), (10, v1459), (13, (.int .i64 x1524)), (14, p1), (15, (.int .i64 (a1.length : Int))), (16, (.int .i64 x536)), (41, v1414), (42, (.int .i64 (x1409.length : Int))), (43, (.int .i64 x1462)), (58, (.bool t1534))] ∧ Heap w0 [oA (rList rBool) v1062 xs1458, oA (rList (rInt .i64)) v1459 xs1460] w) ?_ ?_
          ·by_cases hc1536 : (decide (x1529 < x1053)) = true
           ·have hm := ite_t hc1536 e1535
            refine lx_skip S rfl rfl (isB_ne hc1536) (by decide) (fun a S => ?_)
            refine lx_skip S rfl rfl (isB_ne hc1536) (by decide) (fun a S => ?_)
            refine lx_skip S rfl rfl (isB_ne hc1536) (by decide) (fun a S => ?_)
            refine lx_skip S rfl rfl (isB_ne hc1536) (by decide) (fun a S => ?_)
            refine lq (.bool true) S (q_pickT' rfl hc1536 rfl) fun a S => ?_
            refine lx_nil ?_
            obtain rfl := Option.some.inj hm
            exact ⟨S.sub ⟨rfl, rfl, rfl, rfl, rfl, rfl, rfl, rfl, rfl, rfl, rfl, rfl, rfl, rfl, rfl, trivial⟩, H⟩
           ·have hm := ite_f (eq_false_of_ne_true hc1536) e1535
            have hc1536 : (decide (x1529 < x1053)) = false := eq_false_of_ne_true hc1536
            refine lx_q v1062 S (want_b rfl rfl hc1536) (by decide) (q_move rfl) (fun a S => ?_)
            refine lx_q (.int .i64 x1524) S (want_b rfl rfl hc1536) (by decide) (q_move rfl) (fun a S => ?_)
            obtain ⟨x1537, e1538, hm⟩ := bind_some hm
            have hlt := lt_of_idx (idx_some e1538).2
            refine lx_q (ePtr v1062 (x1524.toNat * 1)) S (want_b rfl rfl hc1536) (by decide) (q_indexAddr rfl (H.isSl 0 rfl) rfl (idx_some e1538).1 hlt Try.underlying113 Try.sizeOf4) (fun a S => ?_)
            obtain ⟨c1539, h1540, hat1541⟩ := (H.rdAt 0 rfl).elem (idx_some e1538).2
            obtain rfl := h1540
            refine lx_e (.bool x1537) S (want_b rfl rfl hc1536) (by decide) rfl trivial (q_load1 rfl Try.isAgg4 (by rintro _ rfl; exact (hat1541 0 _ rfl))) (fun a S => ?_)
            refine lq (.bool x1537) S (q_pickF' rfl hc1536 rfl) fun a S => ?_
            refine lx_nil ?_
            obtain rfl := Option.some.inj hm
            exact ⟨S.sub ⟨rfl, rfl, rfl, rfl, rfl, rfl, rfl, rfl, rfl, rfl, rfl, rfl, rfl, rfl, rfl, trivial⟩, H⟩
          ·rintro a w ⟨S, H⟩
           refine lx_nil (thenN ?_)
           refine cond_b S rfl (fun hc1542 => ?_) (fun hc1542 => ?_)
           ·have hm := ite_t hc1542 hm
            refine wp_exit ?_
            refine then_exit ?_
            refine inBlock_exit ?_
            exact ⟨xs1458, xs1460, v1459, S.sub ⟨rfl, rfl, rfl, rfl, rfl, rfl, rfl, rfl, rfl, rfl, rfl, rfl, rfl, trivial⟩, H, hm⟩
           ·have hm := ite_f hc1542 hm
            refine wp_skip (thenN ?_)
            refine wp_seq (region_plain ?_)
            refine lq v1062 S (q_move rfl) fun a S => ?_
            refine lq (.int .i64 x1524) S (q_move rfl) fun a S => ?_
            obtain ⟨x1543, e1544, hm⟩ := bind_some hm
            have hlt := lt_of_idx (idx_some e1544).2
            refine lq (ePtr v1062 (x1524.toNat * 1)) S (q_indexAddr rfl (H.isSl 0 rfl) rfl (idx_some e1544).1 hlt Try.underlying113 Try.sizeOf4) fun a S => ?_
            refine lx_storeElem (r := rBool) (us := [(.bool true)]) (off := 0) (e' := true) S trivial rfl H.putE (ev_zero rfl) rfl (idx_some e1544).2 rfl Try.sizeOf4 (Nat.le_of_ble_eq_true rfl) (List.forall_mem_cons.2 ⟨rfl, (fun _ h => nomatch h)⟩) (Upd.full rfl (fun w G hG => by cases (show G = [] from hG); exact ⟨rfl, rfl⟩)) (fun w1545 H => ⟨trivial, fun a S => ?_⟩)
            refine lx_nil (thenN ?_)
            refine region_plain ?_
            refine lq v1459 S (q_move rfl) fun a S => ?_
            refine lq (.int .i64 x1524) S (q_move rfl) fun a S => ?_
            refine lx_buildSlice (r := (rInt .i64)) (xs := [x1524]) (ps := [(0, [(.int .i64 x1524)])]) (cs := [(.int .i64 x1524)]) (parts := [(0, .tmp 63)]) S trivial (by decide) rfl (H.put0 (A := eA) rfl) rfl Try.underlying23 Try.sizeOf2 Try.zeroValue2 (by decide) ⟨rfl, rfl, Nat.le_of_ble_eq_true rfl, trivial⟩ (by intro zs hz; exact fill_dense hz ⟨rfl, trivial⟩ rfl rfl) rfl (by decide) (fun w F hA => by cases (show F = [] from hA); exact ⟨_, _, [(.int .i64 x1524)], _, rfl, rfl, ⟨rfl, rfl⟩, ⟨rfl, rfl⟩⟩) (fun v1546 w1547 H => ⟨trivial, fun a S => ?_⟩)
            obtain ⟨x1549, e1550, hm⟩ := bind_some hm
            obtain ⟨hle, hap⟩ := app_some e1550
            replace hap := hap.symm
            subst hap
            have H : Heap w0 [oA (rList (rInt .i64)) v1546 [x1524], oA (rList rBool) v1062 (xs1458.set x1524.toNat true), oA (rList (rInt .i64)) v1459 xs1460] w1547 := H.front 0 rfl
            have H : Heap w0 [oA (rList (rInt .i64)) v1459 xs1460, oA (rList (rInt .i64)) v1546 [x1524], oA (rList rBool) v1062 (xs1458.set x1524.toNat true)] w1547 := H.front 2 rfl
            refine lx_appendOwn (r := (rInt .i64)) S trivial (by decide) rfl H rfl rfl Try.underlying23 Try.ti2 rfl rfl rfl (Nat.le_of_ble_eq_true rfl) (by decide) hle (fun v1551 w1552 H => ⟨trivial, fun a S => ?_⟩)
            refine lq v1551 S (q_assign rfl) fun a S => ?_
            refine lx_nil ?_
            refine inBlock_norm ?_
            have H : Heap w0 [oA (rList rBool) v1062 (xs1458.set x1524.toNat true), oA (rList (rInt .i64)) v1551 (xs1460 ++ [x1524])] w1552 := H.front 1 rfl
            exact ⟨(xs1458.set x1524.toNat true), (xs1460 ++ [x1524]), v1551, S.sub ⟨rfl, rfl, rfl, rfl, rfl, rfl, rfl, rfl, rfl, rfl, rfl, rfl, rfl, trivial⟩, H, hm⟩
        ·have hm := ite_f hc1517 hm
         refine wp_exit ?_
         refine then_exit ?_
         refine then_exit ?_
         refine inBlock_exit ?_
         obtain rfl := it_brk hm hc1516
         exact ⟨xs1458, xs1460, v1459, S.sub ⟨rfl, rfl, rfl, rfl, rfl, rfl, rfl, rfl, rfl, rfl, trivial⟩, H, rfl⟩
      ·have hm := ite_f hc1401 hm
       refine wp_exit ?_
       refine then_exit ?_
       refine then_exit ?_
       refine inBlock_exit ?_
       obtain rfl := it_brk hm hc1400
       have H : Heap w0 [oA (rList rBool) v1062 xs1225] w := H.sel [0] (by decide)
       exact ⟨xs1225, S.sub ⟨rfl, rfl, rfl, rfl, rfl, rfl, rfl, rfl, trivial⟩, H, rfl⟩
  ·have hm := ite_f hc1050 hm
   refine wp_exit ?_
   refine then_exit ?_
   refine then_exit ?_
   refine inBlock_exit ?_
   obtain rfl := it_brk hm hc1049
   exact ⟨S.sub trivial, H, rfl⟩

/-- impl.IsWinningStrategy -/
def impl_IsWinningStrategy_m (fuel : Nat) (a0 : (List Timpl_Vertex)) (a1 : Int) (a2 : (List Int)) (a3 : (List Int)) : Option (Bool) :=
  (impl_ValidGame_m fuel a0).bind fun x36 => (if (!x36) = true then some true else (impl_playerOk_m fuel a1).bind fun x44 => some (!x44)).bind fun t39 => (if t39 = true then some true else (impl_increasing_m fuel a2 (a0.length : Int)).bind fun x52 => some (!x52)).bind fun t47 => (if t47 = true then some true else some ((a3.length : Int) != (a0.length : Int))).bind fun t55 => (if t55 = true then some (false) else (mks (a0.length : Int) (Mx.own ([] : (List Int)))).bind fun x59 => (iter (fun (s : (List (Mx (List Int))) × (Int)) => (match s with | (xs165, x166) => (if (decide (x166 < (a2.length : Int))) = true then (idx a2 x166).bind fun x393 => (idx a0 x393).bind fun x398 => (idx xs165 x393).bind fun _ => join (κ := List (Mx (List Int)) → Option (((List (Mx (List Int))) × (Int)) ⊕ (((List (Mx (List Int)))) ⊕ (Bool)))) (fun (xs416 : List (Mx (List Int))) => (idx xs416 x393).bind fun x419 => (Mx.val x419).bind fun x426 => (slices_ContainsFunc__int64_int64_m fuel x426 (fun (z0 : Int) => impl_IsWinningStrategy_1_m fuel z0 a2)).bind fun x430 => (if x430 = true then some (.inr (.inr false)) else some (.inl (xs416, (W (x166 + (1 : Int))))))) (fun K417 => (idx a0 x393).bind fun x435 => (if (x435.1 == a1) = true then (idx a0 x393).bind fun x453 => (idx a3 x393).bind fun x468 => (slices_Contains__int64_int64_m fuel x453.2.2 x468).bind fun x475 => (if (!x475) = true then some (.inr (.inr false)) else (idx a3 x393).bind fun x479 => (idx (xs165.set x393.toNat (Mx.rd x398.2.2)) x393).bind fun _ => (K417 ((xs165.set x393.toNat (Mx.rd x398.2.2)).set x393.toNat (Mx.own [x479])))) else (K417 (xs165.set x393.toNat (Mx.rd x398.2.2))))) else some (.inr (.inl (xs165)))) : Option (((List (Mx (List Int))) × (Int)) ⊕ (((List (Mx (List Int)))) ⊕ (Bool))))) fuel (x59, (0 : Int))).bind fun res268 => ctl (β := (List (Mx (List Int)))) (ρ := Bool) (τ := Bool) res268 (fun (xs267) => (iter (fun (s : (List Int) × (Int)) => (match s with | (xs307, x309) => (if (decide (x309 < (a0.length : Int))) = true then (idx a0 x309).bind fun x362 => (app xs307 [x362.2.1]).bind fun x384 => some (.inl (x384, (W (x309 + (1 : Int))))) else some (.inr (.inl (xs307)))) : Option (((List Int) × (Int)) ⊕ (((List Int)) ⊕ (Bool))))) fuel ([], (0 : Int))).bind fun res345 => ctl (β := (List Int)) (ρ := Bool) (τ := Bool) res345 (fun (xs343) => (allO Mx.val xs267).bind fun ys352 => (impl_badCycle_m fuel ys352 xs343 a1).bind fun x354 => some ((!x354))) (fun q => some (q))) (fun q => some (q)))
set_option maxRecDepth 20000 in
theorem impl_IsWinningStrategy_ok {w0 : World} {fuel : Nat} {p0 p2 p3 : Value} {a0 : (List Timpl_Vertex)} {a1 : Int} {a2 : (List Int)} {a3 : (List Int)} {r : Bool} (h0 : Rd (rList Rimpl_Vertex) w0 p0 a0) (h2 : Rd (rList (rInt .i64)) w0 p2 a2) (h3 : Rd (rList (rInt .i64)) w0 p3 a3) (hm : impl_IsWinningStrategy_m fuel a0 a1 a2 a3 = some r) :
  Calls Try.prog 17 #[p0, .int .i64 a1, p2, p3] w0 fun e w => e = .returned (.bool r) ∧ Heap w0 [] w := by
 unfold impl_IsWinningStrategy_m at hm
 have H := Heap.start w0
 refine enter (args := [p0, .int .i64 a1, p2, p3]) Try.func17 rfl 104 rfl (Nat.le_of_ble_eq_true rfl) (fun a S => ?_)
 refine wp_seq (region_plain ?_)
 refine lx_box S trivial (by decide) rfl H rfl (cells_sl (h2).isSl) (fun b31 w32 H => ⟨trivial, fun a S => ?_⟩)
 refine lq (.bool false) S (q_assign rfl) fun a S => ?_
 refine lx_nil (thenN ?_)
 refine wp_seq (wp_seq (region_plain ?_))
 refine lq p0 S (q_move rfl) fun a S => ?_
 obtain ⟨x36, e37, hm⟩ := bind_some hm
 refine lx_call (xs := [.tmp 15]) S trivial (by decide) rfl rfl Try.call59 ((impl_ValidGame_ok (H.arg h0) e37).mono ?_)
 rintro e w34 ⟨rfl, Hc35⟩
 have H := H.call0 Hc35
 refine ⟨_, rfl, trivial, fun a S => ?_⟩
 refine lq (.bool (!x36)) S (q_not rfl) fun a S => ?_
 refine lq (.bool (!x36)) S (q_move rfl) fun a S => ?_
 obtain ⟨t39, e40, hm⟩ := bind_some hm
 refine lx_cut 4 (fun a w => Slots a 104 [(0, p0), (1, (.int .i64 a1)), (3, p3), (6, (bp b31)), (22, (.bool t39))] ∧ Heap w0 [bA b31 [p2] 23] w) ?_ ?_
 ·by_cases hc41 : (!x36) = true
  ·have hm := ite_t hc41 e40
   refine lx_skip S rfl rfl (isB_ne hc41) (by decide) (fun a S => ?_)
   refine lx_skip S rfl rfl (isB_ne hc41) (by decide) (fun a S => ?_)
   refine lx_skip S rfl rfl (isB_ne hc41) (by decide) (fun a S => ?_)
   refine lq (.bool true) S (q_pickT' rfl hc41 rfl) fun a S => ?_
   refine lx_nil ?_
   obtain rfl := Option.some.inj hm
   exact ⟨S.sub ⟨rfl, rfl, rfl, rfl, rfl, trivial⟩, H⟩
  ·have hm := ite_f (eq_false_of_ne_true hc41) e40
   have hc41 : (!x36) = false := eq_false_of_ne_true hc41
   refine lx_q (.int .i64 a1) S (want_b rfl rfl hc41) (by decide) (q_move rfl) (fun a S => ?_)
   obtain ⟨x44, e45, hm⟩ := bind_some hm
   refine lx_call (xs := [.tmp 19]) S (want_b rfl rfl hc41) (by decide) rfl rfl Try.call60 ((impl_playerOk_ok  e45).mono ?_)
   rintro e w42 ⟨rfl, Hc43⟩
   have H := H.call0 Hc43
   refine ⟨_, rfl, trivial, fun a S => ?_⟩
   refine lx_q (.bool (!x44)) S (want_b rfl rfl hc41) (by decide) (q_not rfl) (fun a S => ?_)
   refine lq (.bool (!x44)) S (q_pickF' rfl hc41 rfl) fun a S => ?_
   refine lx_nil ?_
   obtain rfl := Option.some.inj hm
   exact ⟨S.sub ⟨rfl, rfl, rfl, rfl, rfl, trivial⟩, H⟩
 ·rintro a w ⟨S, H⟩
  refine lq (.bool t39) S (q_move rfl) fun a S => ?_
  obtain ⟨t47, e48, hm⟩ := bind_some hm
  refine lx_cut 6 (fun a w => Slots a 104 [(0, p0), (1, (.int .i64 a1)), (3, p3), (6, (bp b31)), (29, (.bool t47))] ∧ Heap w0 [bA b31 [p2] 23] w) ?_ ?_
  ·by_cases hc49 : t39 = true
   ·have hm := ite_t hc49 e48
    refine lx_skip S rfl rfl (isB_ne hc49) (by decide) (fun a S => ?_)
    refine lx_skip S rfl rfl (isB_ne hc49) (by decide) (fun a S => ?_)
    refine lx_skip S rfl rfl (isB_ne hc49) (by decide) (fun a S => ?_)
    refine lx_skip S rfl rfl (isB_ne hc49) (by decide) (fun a S => ?_)
    refine lx_skip S rfl rfl (isB_ne hc49) (by decide) (fun a S => ?_)
    refine lq (.bool true) S (q_pickT' rfl hc49 rfl) fun a S => ?_
    refine lx_nil ?_
    obtain rfl := Option.some.inj hm
    exact ⟨S.sub ⟨rfl, rfl, rfl, rfl, rfl, trivial⟩, H⟩
   ·have hm := ite_f (eq_false_of_ne_true hc49) e48
    have hc49 : t39 = false := eq_false_of_ne_true hc49
    refine lx_e p2 S (want_b rfl rfl hc49) (by decide) rfl trivial (q_load1 rfl Try.isAgg23 (by rintro _ rfl; exact (boxAt (i := 0) H rfl (j := 0) rfl))) (fun a S => ?_)
    refine lx_q p0 S (want_b rfl rfl hc49) (by decide) (q_move rfl) (fun a S => ?_)
    refine lx_q (.int .i64 (a0.length : Int)) S (want_b rfl rfl hc49) (by decide) (q_lenSl rfl (h0).isSl rfl Try.underlying26) (fun a S => ?_)
    obtain ⟨x52, e53, hm⟩ := bind_some hm
    refine lx_call (xs := [.tmp 24, .tmp 26]) S (want_b rfl rfl hc49) (by decide) rfl rfl Try.call61 ((impl_increasing_ok (H.arg h2)  e53).mono ?_)
    rintro e w50 ⟨rfl, Hc51⟩
    have H := H.call0 Hc51
    refine ⟨_, rfl, trivial, fun a S => ?_⟩
    refine lx_q (.bool (!x52)) S (want_b rfl rfl hc49) (by decide) (q_not rfl) (fun a S => ?_)
    refine lq (.bool (!x52)) S (q_pickF' rfl hc49 rfl) fun a S => ?_
    refine lx_nil ?_
    obtain rfl := Option.some.inj hm
    exact ⟨S.sub ⟨rfl, rfl, rfl, rfl, rfl, trivial⟩, H⟩
  ·rintro a w ⟨S, H⟩
   refine lq (.bool t47) S (q_move rfl) fun a S => ?_
   obtain ⟨t55, e56, hm⟩ := bind_some hm
   refine lx_cut 6 (fun a w => Slots a 104 [(0, p0), (1, (.int .i64 a1)), (3, p3), (6, (bp b31)), (36, (.bool t55))] ∧ Heap w0 [bA b31 [p2] 23] w) ?_ ?_
   ·by_cases hc57 : t47 = true
    ·have hm := ite_t hc57 e56
     refine lx_skip S rfl rfl (isB_ne hc57) (by decide) (fun a S => ?_)
     refine lx_skip S rfl rfl (isB_ne hc57) (by decide) (fun a S => ?_)
     refine lx_skip S rfl rfl (isB_ne hc57) (by decide) (fun a S => ?_)
     refine lx_skip S rfl rfl (isB_ne hc57) (by decide) (fun a S => ?_)
     refine lx_skip S rfl rfl (isB_ne hc57) (by decide) (fun a S => ?_)
     refine lq (.bool true) S (q_pickT' rfl hc57 rfl) fun a S => ?_
     refine lx_nil ?_
     obtain rfl := Option.some.inj hm
     exact ⟨S.sub ⟨rfl, rfl, rfl, rfl, rfl, trivial⟩, H⟩
    ·have hm := ite_f (eq_false_of_ne_true hc57) e56
     have hc57 : t47 = false := eq_false_of_ne_true hc57
     refine lx_q p3 S (want_b rfl rfl hc57) (by decide) (q_move rfl) (fun a S => ?_)
     refine lx_q (.int .i64 (a3.length : Int)) S (want_b rfl rfl hc57) (by decide) (q_lenSl rfl (h3).isSl rfl Try.underlying23) (fun a S => ?_)
     refine lx_q p0 S (want_b rfl rfl hc57) (by decide) (q_move rfl) (fun a S => ?_)
     refine lx_q (.int .i64 (a0.length : Int)) S (want_b rfl rfl hc57) (by decide) (q_lenSl rfl (h0).isSl rfl Try.underlying26) (fun a S => ?_)
     refine lx_q (.bool ((a3.length : Int) != (a0.length : Int))) S (want_b rfl rfl hc57) (by decide) (q_neq rfl rfl) (fun a S => ?_)
     refine lq (.bool ((a3.length : Int) != (a0.length : Int))) S (q_pickF' rfl hc57 rfl) fun a S => ?_
     refine lx_nil ?_
     obtain rfl := Option.some.inj hm
     exact ⟨S.sub ⟨rfl, rfl, rfl, rfl, rfl, trivial⟩, H⟩
   ·rintro a w ⟨S, H⟩
    refine lx_nil (thenN ?_)
    refine cond_b S rfl (fun hc58 => ?_) (fun hc58 => ?_)
    ·have hm := ite_t hc58 hm
     refine wp_seq (region_plain ?_)
     refine lq (.bool false) S (q_assign rfl) fun a S => ?_
     refine lx_nil (thenN ?_)
     refine wp_ret (then_ret ?_)
     obtain rfl := Option.some.inj hm
     have H : Heap w0 [] w := H.sel [] (by decide)
     exact leave1 S rfl rfl ⟨rfl, H⟩
    ·have hm := ite_f hc58 hm
     refine wp_skip (thenN ?_)
     refine wp_seq (region_plain ?_)
     refine lq p0 S (q_move rfl) fun a S => ?_
     refine lq (.int .i64 (a0.length : Int)) S (q_lenSl rfl (h0).isSl rfl Try.underlying26) fun a S => ?_
     obtain ⟨x59, e60, hm⟩ := bind_some hm
     obtain ⟨m61, hn, hn2, rfl⟩ := mks_some e60
     refine lx_make (r := (rMx w0 (rList (rInt .i64)))) (z0 := (Mx.own ([] : (List Int)))) (n := m61) S trivial (by decide) rfl H (by rw [← hn]; rfl) (by rw [← hn]; rfl) Try.underlying45 (Try.ti23) rfl rfl (Nat.le_of_ble_eq_true rfl) (fun w => (oA_list.1 drop_nil_own)) hn2 (by decide) (fun v62 w63 H => ⟨trivial, fun a S => ?_⟩)
     refine lq v62 S (q_assign rfl) fun a S => ?_
     refine lx_nil (thenN ?_)
     refine wp_seq (wp_seq (region_plain ?_))
     refine lx_e p2 S trivial (by decide) rfl trivial (q_load1 rfl Try.isAgg23 (by rintro _ rfl; exact (boxAt (i := 1) H rfl (j := 0) rfl))) (fun a S => ?_)
     refine lq (.int .i64 (a2.length : Int)) S (q_lenSl rfl (h2).isSl rfl Try.underlying23) fun a S => ?_
     refine lq (.int .i64 (0 : Int)) S (q_move rfl) fun a S => ?_
     refine lx_nil (thenN ?_)
     obtain ⟨res268, hit269, hk272⟩ := bind_some hm
     obtain ⟨f270, hf271, hit269⟩ := iter_name hit269
     refine block_loop (fun a w => ∃ (xs267 : List (Mx (List Int))), Slots a 104 [(0, p0), (1, (.int .i64 a1)), (9, v62)] ∧ Heap w0 [oA (rList (rMx w0 (rList (rInt .i64)))) v62 xs267] w ∧ res268 = .inl (xs267)) ?_ ?_
     ·rintro a w ⟨xs267, S, H, rfl⟩
      have hm := ctl_inl hk272
      refine thenN ?_
      refine wp_seq (region_plain ?_)
      refine lq (.slice none 0 0) S (q_assign rfl) fun a S => ?_
      refine lx_nil (thenN ?_)
      refine wp_seq (wp_seq (region_plain ?_))
      refine lq p0 S (q_move rfl) fun a S => ?_
      refine lq (.int .i64 (a0.length : Int)) S (q_lenSl rfl (h0).isSl rfl Try.underlying26) fun a S => ?_
      refine lq (.int .i64 (0 : Int)) S (q_move rfl) fun a S => ?_
      refine lx_nil (thenN ?_)
      obtain ⟨res345, hit346, hk349⟩ := bind_some hm
      obtain ⟨f347, hf348, hit346⟩ := iter_name hit346
      refine block_loop (fun a w => ∃ (xs343 : List Int) (v342 : Value), Slots a 104 [(1, (.int .i64 a1)), (9, v62), (12, v342)] ∧ Heap w0 [oA (rList (rMx w0 (rList (rInt .i64)))) v62 xs267, oA (rList (rInt .i64)) v342 xs343] w ∧ res345 = .inl (xs343)) ?_ ?_
      ·rintro a w ⟨xs343, v342, S, H, rfl⟩
       have hm := ctl_inl hk349
       refine thenN ?_
       refine wp_seq (region_plain ?_)
       refine lq v62 S (q_move rfl) fun a S => ?_
       refine lq v342 S (q_move rfl) fun a S => ?_
       refine lq (.int .i64 a1) S (q_move rfl) fun a S => ?_
       obtain ⟨ys352, ey353, hm⟩ := bind_some hm
       obtain ⟨x354, e355, hm⟩ := bind_some hm
       refine lx_call (xs := [.tmp 99, .tmp 100, .tmp 101]) S trivial (by decide) rfl rfl Try.call65 ((impl_badCycle_ok (((H.rdAt 0 rfl)).cv (CvR.list CvR.mx) H.ext ey353) (H.rdAt 1 rfl)  e355).mono ?_)
       rintro e w350 ⟨rfl, Hc351⟩
       have H := H.call0 Hc351
       refine ⟨_, rfl, trivial, fun a S => ?_⟩
       refine lq (.bool (!x354)) S (q_not rfl) fun a S => ?_
       refine lq (.bool (!x354)) S (q_assign rfl) fun a S => ?_
       refine lx_nil (thenN ?_)
       refine wp_ret ?_
       obtain rfl := Option.some.inj hm
       have H : Heap w0 [] w350 := H.sel [] (by decide)
       exact leave1 S rfl rfl ⟨rfl, H⟩
      ·skip
       have H : Heap w0 [oA (rList (rInt .i64)) (.slice none 0 0) ([] : List Int), oA (rList (rMx w0 (rList (rInt .i64)))) v62 xs267] w := H.nilList (rInt .i64)
       have H : Heap w0 [oA (rList (rMx w0 (rList (rInt .i64)))) v62 xs267, oA (rList (rInt .i64)) (.slice none 0 0) ([] : List Int)] w := H.front 1 rfl
       refine loop_ghost (fun n a w => ∃ (xs307 : List Int) (x309 : Int) (v306 : Value), Slots a 104 [(1, (.int .i64 a1)), (9, v62), (12, v306), (87, p0), (88, (.int .i64 (a0.length : Int))), (89, (.int .i64 x309))] ∧ Heap w0 [oA (rList (rMx w0 (rList (rInt .i64)))) v62 xs267, oA (rList (rInt .i64)) v306 xs307] w ∧ iter f347 n (xs307, x309) = some res345) _ ⟨[], (0 : Int), (.slice none 0 0), S.sub ⟨rfl, rfl, rfl, rfl, rfl, rfl, trivial⟩, H, hit346⟩ ?_
       rintro n a w ⟨xs307, x309, v306, S, H, hit346⟩
       obtain ⟨m358, o359, rfl, hm, hc360⟩ := iter_step hit346
       rw [hf348] at hm
       refine wp_seq (region_plain ?_)
       refine lq (.bool (decide (x309 < (a0.length : Int)))) S (q_lss rfl rfl) fun a S => ?_
       refine lx_nil (thenN ?_)
       refine wp_seq ?_
       refine cond_b S rfl (fun hc361 => ?_) (fun hc361 => ?_)
       ·have hm := ite_t hc361 hm
        refine wp_skip (thenN ?_)
        refine wp_seq ?_
        refine wp_block ?_
        refine wp_seq (region_plain ?_)
        obtain ⟨x362, e363, hm⟩ := bind_some hm
        obtain ⟨c364, h365, hat366⟩ := (h0).elem (idx_some e363).2
        obtain ⟨c369, c370, rfl, h371, h372⟩ := h365
        obtain rfl := h371
        obtain ⟨c373, c374, rfl, h375, h376⟩ := h372
        obtain rfl := h375
        obtain ⟨v367, rfl, h368⟩ := rd_list h376
        have hlt := lt_of_idx (idx_some e363).2
        refine lq (ePtr p0 (x309.toNat * 3)) S (q_indexAddr rfl (h0).isSl rfl (idx_some e363).1 hlt Try.underlying26 Try.sizeOf71) fun a S => ?_
        refine lx_e (.agg #[(.int .i64 x362.1), (.int .i64 x362.2.1), v367]) S trivial (by decide) rfl trivial (q_loadA (cs := [(.int .i64 x362.1), (.int .i64 x362.2.1), v367]) rfl ((hat366 0 _ rfl).isP) Try.isAgg71 Try.sizeOf71 (by rintro _ rfl; exact (fun j u hu => (hat366 j u hu).ext H.ext))) (fun a S => ?_)
        refine lx_alloc S trivial (by decide) rfl H Try.zeroValue71 rfl (fun b377 w378 H => ⟨trivial, fun a S => ?_⟩)
        refine lx_storeBox (o := 0) (i := 0) (us := [(.int .i64 x362.1), (.int .i64 x362.2.1), v367]) (cs' := [(.int .i64 x362.1), (.int .i64 x362.2.1), v367]) S trivial rfl H rfl rfl rfl rfl Try.sizeOf71 (Nat.le_of_ble_eq_true rfl) (List.forall_mem_cons.2 ⟨rfl, (List.forall_mem_cons.2 ⟨rfl, (List.forall_mem_cons.2 ⟨one_sl (h368).isSl, (fun _ h => nomatch h)⟩)⟩)⟩) rfl (fun w380 H => ⟨trivial, fun a S => ?_⟩)
        change Heap w0 [bA b377 [(.int .i64 x362.1), (.int .i64 x362.2.1), v367] 71, oA (rList (rMx w0 (rList (rInt .i64)))) v62 xs267, oA (rList (rInt .i64)) v306 xs307] w380 at H
        refine lx_nil (thenN ?_)
        refine region_plain ?_
        refine lq v306 S (q_move rfl) fun a S => ?_
        refine lq (pAdd (bp b377) 1) S (q_fieldAddr' 1 2 rfl (isP_bp _) Try.underlying71 rfl Try.sizeOf2) fun a S => ?_
        refine lx_e (.int .i64 x362.2.1) S trivial (by decide) rfl trivial (q_load1 rfl Try.isAgg2 (by rintro _ rfl; exact (At.of_add (m := 1) (j := 0) (boxAt (i := 0) H rfl (j := 1) rfl)))) (fun a S => ?_)
        refine lx_buildSlice (r := (rInt .i64)) (xs := [x362.2.1]) (ps := [(0, [(.int .i64 x362.2.1)])]) (cs := [(.int .i64 x362.2.1)]) (parts := [(0, .tmp 95)]) S trivial (by decide) rfl (H.put0 (A := eA) rfl) rfl Try.underlying23 Try.sizeOf2 Try.zeroValue2 (by decide) ⟨rfl, rfl, Nat.le_of_ble_eq_true rfl, trivial⟩ (by intro zs hz; exact fill_dense hz ⟨rfl, trivial⟩ rfl rfl) rfl (by decide) (fun w F hA => by cases (show F = [] from hA); exact ⟨_, _, [(.int .i64 x362.2.1)], _, rfl, rfl, ⟨rfl, rfl⟩, ⟨rfl, rfl⟩⟩) (fun v381 w382 H => ⟨trivial, fun a S => ?_⟩)
        obtain ⟨x384, e385, hm⟩ := bind_some hm
        obtain ⟨hle, hap⟩ := app_some e385
        replace hap := hap.symm
        subst hap
        have H : Heap w0 [oA (rList (rInt .i64)) v381 [x362.2.1], bA b377 [(.int .i64 x362.1), (.int .i64 x362.2.1), v367] 71, oA (rList (rMx w0 (rList (rInt .i64)))) v62 xs267, oA (rList (rInt .i64)) v306 xs307] w382 := H.front 0 rfl
        have H : Heap w0 [oA (rList (rInt .i64)) v306 xs307, oA (rList (rInt .i64)) v381 [x362.2.1], bA b377 [(.int .i64 x362.1), (.int .i64 x362.2.1), v367] 71, oA (rList (rMx w0 (rList (rInt .i64)))) v62 xs267] w382 := H.front 3 rfl
        refine lx_appendOwn (r := (rInt .i64)) S trivial (by decide) rfl H rfl rfl Try.underlying23 Try.ti2 rfl rfl rfl (Nat.le_of_ble_eq_true rfl) (by decide) hle (fun v386 w387 H => ⟨trivial, fun a S => ?_⟩)
        refine lq v386 S (q_assign rfl) fun a S => ?_
        refine lx_nil ?_
        refine inBlock_norm ?_
        refine thenN ?_
        refine region_plain ?_
        refine lq (.int .i64 (W (x309 + (1 : Int)))) S (q_add rfl rfl) fun a S => ?_
        refine lq (.int .i64 (W (x309 + (1 : Int)))) S (q_move rfl) fun a S => ?_
        refine lx_nil ?_
        have H : Heap w0 [oA (rList (rMx w0 (rList (rInt .i64)))) v62 xs267, oA (rList (rInt .i64)) v386 (xs307 ++ [x362.2.1]), bA b377 [(.int .i64 x362.1), (.int .i64 x362.2.1), v367] 71] w387 := H.front 2 rfl
        have H : Heap w0 [oA (rList (rMx w0 (rList (rInt .i64)))) v62 xs267, oA (rList (rInt .i64)) v386 (xs307 ++ [x362.2.1])] w387 := H.sel [0, 1] (by decide)
        exact ⟨m358, Nat.lt_succ_self _, (xs307 ++ [x362.2.1]), (W (x309 + (1 : Int))), v386, S.sub ⟨rfl, rfl, rfl, rfl, rfl, rfl, trivial⟩, H, it_cont hm hc360⟩
       ·have hm := ite_f hc361 hm
        refine wp_exit ?_
        refine then_exit ?_
        refine then_exit ?_
        refine inBlock_exit ?_
        obtain rfl := it_brk hm hc360
        exact ⟨xs307, v306, S.sub ⟨rfl, rfl, rfl, trivial⟩, H, rfl⟩
     ·skip
      have H : Heap w0 [bA b31 [p2] 23, oA (rList (rMx w0 (rList (rInt .i64)))) v62 (List.replicate m61 (Mx.own ([] : (List Int))))] w63 := H.front 1 rfl
      refine loop_ghost (fun n a w => ∃ (xs165 : List (Mx (List Int))) (x166 : Int), Slots a 104 [(0, p0), (1, (.int .i64 a1)), (3, p3), (6, (bp b31)), (9, v62), (40, p2), (41, (.int .i64 (a2.length : Int))), (42, (.int .i64 x166))] ∧ Heap w0 [bA b31 [p2] 23, oA (rList (rMx w0 (rList (rInt .i64)))) v62 xs165] w ∧ iter f270 n (xs165, x166) = some res268) _ ⟨(List.replicate m61 (Mx.own ([] : (List Int)))), (0 : Int), S.sub ⟨rfl, rfl, rfl, rfl, rfl, rfl, rfl, rfl, trivial⟩, H, hit269⟩ ?_
      rintro n a w ⟨xs165, x166, S, H, hit269⟩
      obtain ⟨m389, o390, rfl, hm, hc391⟩ := iter_step hit269
      rw [hf271] at hm
      refine wp_seq (region_plain ?_)
      refine lq (.bool (decide (x166 < (a2.length : Int)))) S (q_lss rfl rfl) fun a S => ?_
      refine lx_nil (thenN ?_)
      refine wp_seq ?_
      refine cond_b S rfl (fun hc392 => ?_) (fun hc392 => ?_)
      ·have hm := ite_t hc392 hm
       refine wp_skip (thenN ?_)
       refine wp_seq ?_
       refine wp_block ?_
       refine wp_seq (region_plain ?_)
       obtain ⟨x393, e394, hm⟩ := bind_some hm
       obtain ⟨c395, h396, hat397⟩ := (h2).elem (idx_some e394).2
       obtain rfl := h396
       have hlt := lt_of_idx (idx_some e394).2
       refine lq (ePtr p2 (x166.toNat * 1)) S (q_indexAddr rfl (h2).isSl rfl (idx_some e394).1 hlt Try.underlying23 Try.sizeOf2) fun a S => ?_
       refine lx_e (.int .i64 x393) S trivial (by decide) rfl trivial (q_load1 rfl Try.isAgg2 (by rintro _ rfl; exact ((hat397 0 _ rfl).ext H.ext))) (fun a S => ?_)
       refine lq (.int .i64 x393) S (q_assign rfl) fun a S => ?_
       refine lx_nil (thenN ?_)
       refine wp_seq (region_plain ?_)
       refine lq v62 S (q_move rfl) fun a S => ?_
       refine lq (.int .i64 x393) S (q_move rfl) fun a S => ?_
       refine lq p0 S (q_move rfl) fun a S => ?_
       refine lq (.int .i64 x393) S (q_move rfl) fun a S => ?_
       obtain ⟨x398, e399, hm⟩ := bind_some hm
       obtain ⟨c400, h401, hat402⟩ := (h0).elem (idx_some e399).2
       obtain ⟨c405, c406, rfl, h407, h408⟩ := h401
       obtain rfl := h407
       obtain ⟨c409, c410, rfl, h411, h412⟩ := h408
       obtain rfl := h411
       obtain ⟨v403, rfl, h404⟩ := rd_list h412
       have hlt := lt_of_idx (idx_some e399).2
       refine lq (ePtr p0 (x393.toNat * 3)) S (q_indexAddr rfl (h0).isSl rfl (idx_some e399).1 hlt Try.underlying26 Try.sizeOf71) fun a S => ?_
       refine lq (pAdd (ePtr p0 (x393.toNat * 3)) 2) S (q_fieldAddr' 2 23 rfl ((hat402 0 _ rfl).isP) Try.underlying71 rfl Try.sizeOf23) fun a S => ?_
       refine lx_e v403 S trivial (by decide) rfl trivial (q_load1 rfl Try.isAgg23 (by rintro _ rfl; exact (At.of_add (m := 2) (j := 0) ((hat402 2 _ rfl).ext H.ext)))) (fun a S => ?_)
       obtain ⟨x413, e414, hm⟩ := bind_some hm
       have hlt := lt_of_idx (idx_some e414).2
       refine lq (ePtr v62 (x393.toNat * 1)) S (q_indexAddr rfl (H.isSl 1 rfl) rfl (idx_some e414).1 hlt Try.underlying45 Try.sizeOf23) fun a S => ?_
       have H : Heap w0 [oA (rList (rMx w0 (rList (rInt .i64)))) v62 xs165, bA b31 [p2] 23] w := H.front 1 rfl
       refine lx_storeElem (r := (rMx w0 (rList (rInt .i64)))) (us := [v403]) (off := 0) (e' := (Mx.rd x398.2.2)) S trivial rfl H.putE (ev_zero rfl) rfl (idx_some e414).2 (cells_sl (h404).isSl) Try.sizeOf23 (Nat.le_of_ble_eq_true rfl) (List.forall_mem_cons.2 ⟨one_sl (h404).isSl, (fun _ h => nomatch h)⟩) (Upd.full rfl (fun w G hG => by cases (show G = [] from hG); exact ⟨rfl, (h404).list_rd⟩)) (fun w415 H => ⟨trivial, fun a S => ?_⟩)
       refine lx_nil (thenN ?_)
       obtain ⟨K417, hK418, hm⟩ := join_elim hm
       refine seq_cut (fun a w => ∃ (xs416 : List (Mx (List Int))), Slots a 104 [(0, p0), (1, (.int .i64 a1)), (3, p3), (6, (bp b31)), (9, v62), (11, (.int .i64 x393)), (40, p2), (41, (.int .i64 (a2.length : Int))), (42, (.int .i64 x166))] ∧ Heap w0 [bA b31 [p2] 23, oA (rList (rMx w0 (rList (rInt .i64)))) v62 xs416] w ∧ K417 xs416 = some o390) ?_ ?_
       ·rintro a w ⟨xs416, S, H, hm⟩
        subst hK418
        refine wp_seq (region_plain ?_)
        refine lq v62 S (q_move rfl) fun a S => ?_
        refine lq (.int .i64 x393) S (q_move rfl) fun a S => ?_
        obtain ⟨x419, e420, hm⟩ := bind_some hm
        have hlt := lt_of_idx (idx_some e420).2
        refine lq (ePtr v62 (x393.toNat * 1)) S (q_indexAddr rfl (H.isSl 1 rfl) rfl (idx_some e420).1 hlt Try.underlying45 Try.sizeOf23) fun a S => ?_
        obtain ⟨c421, h422, hat423⟩ := (H.rdAt 1 rfl).elem (idx_some e420).2
        obtain ⟨x426, e427, hm⟩ := bind_some hm
        obtain ⟨v424, rfl, h425⟩ := rd_list (mx_val h422 H.ext (Nat.le_refl _) e427)
        refine lx_e v424 S trivial (by decide) rfl trivial (q_load1 rfl Try.isAgg23 (by rintro _ rfl; exact (hat423 0 _ rfl))) (fun a S => ?_)
        refine lq (.func (.func 64) #[] #[(bp b31)]) S (q_makeFunc (xs := []) (ys := [.tmp 6]) rfl rfl) fun a S => ?_
        obtain ⟨x430, e431, hm⟩ := bind_some hm
        have hcap432 : Rd (rPtr (rList (rInt .i64))) w (bp b31) a2 := (rdPtr_box H 0 rfl ((H.arg h2)).list_rd)
        refine lx_call (xs := [.tmp 83, .tmp 84]) S trivial (by decide) rfl rfl Try.call63 ((slices_ContainsFunc__int64_int64_ok (f1 := 64) (fs1 := ([] : List Value)) (cp1 := ([(bp b31)] : List Value)) (a1 := (fun (z0 : Int) => impl_IsWinningStrategy_1_m fuel z0 a2)) (h425.ext (Ext.refl _)) Try.call64 (fun he  hm => impl_IsWinningStrategy_1_ok   (hcap432.ext he) hm) e431).mono ?_)
        rintro e w428 ⟨rfl, Hc429⟩
        have H := H.call0 Hc429
        refine ⟨_, rfl, trivial, fun a S => ?_⟩
        refine lx_nil (thenN ?_)
        refine cond_b S rfl (fun hc434 => ?_) (fun hc434 => ?_)
        ·have hm := ite_t hc434 hm
         refine wp_seq (region_plain ?_)
         refine lq (.bool false) S (q_assign rfl) fun a S => ?_
         refine lx_nil (thenN ?_)
         refine wp_ret (inBlock_ret ?_)
         refine then_ret ?_
         refine then_ret ?_
         refine inBlock_ret ?_
         refine then_ret ?_
         refine then_ret ?_
         obtain rfl := it_brk hm hc391
         have hm := ctl_inr hk272
         obtain rfl := Option.some.inj hm
         have H : Heap w0 [] w428 := H.sel [] (by decide)
         exact leave1 S rfl rfl ⟨rfl, H⟩
        ·have hm := ite_f hc434 hm
         refine wp_skip ?_
         refine inBlock_norm ?_
         refine thenN ?_
         refine region_plain ?_
         refine lq (.int .i64 (W (x166 + (1 : Int)))) S (q_add rfl rfl) fun a S => ?_
         refine lq (.int .i64 (W (x166 + (1 : Int)))) S (q_move rfl) fun a S => ?_
         refine lx_nil ?_
         exact ⟨m389, Nat.lt_succ_self _, xs416, (W (x166 + (1 : Int))), S.sub ⟨rfl, rfl, rfl, rfl, rfl, rfl, rfl, rfl, trivial⟩, H, it_cont hm hc391⟩
       ·skip
        refine wp_seq (region_plain ?_)
        refine lq p0 S (q_move rfl) fun a S => ?_
        refine lq (.int .i64 x393) S (q_move rfl) fun a S => ?_
        obtain ⟨x435, e436, hm⟩ := bind_some hm
        obtain ⟨c437, h438, hat439⟩ := (h0).elem (idx_some e436).2
        obtain ⟨c442, c443, rfl, h444, h445⟩ := h438
        obtain rfl := h444
        obtain ⟨c446, c447, rfl, h448, h449⟩ := h445
        obtain rfl := h448
        obtain ⟨v440, rfl, h441⟩ := rd_list h449
        have hlt := lt_of_idx (idx_some e436).2
        refine lq (ePtr p0 (x393.toNat * 3)) S (q_indexAddr rfl (h0).isSl rfl (idx_some e436).1 hlt Try.underlying26 Try.sizeOf71) fun a S => ?_
        refine lq (pAdd (ePtr p0 (x393.toNat * 3)) 0) S (q_fieldAddr' 0 2 rfl ((hat439 0 _ rfl).isP) Try.underlying71 rfl Try.sizeOf2) fun a S => ?_
        refine lx_e (.int .i64 x435.1) S trivial (by decide) rfl trivial (q_load1 rfl Try.isAgg2 (by rintro _ rfl; exact (At.of_add (m := 0) (j := 0) ((hat439 0 _ rfl).ext H.ext)))) (fun a S => ?_)
        refine lq (.int .i64 a1) S (q_move rfl) fun a S => ?_
        refine lq (.bool (x435.1 == a1)) S (q_eql rfl rfl) fun a S => ?_
        refine lx_nil (thenN ?_)
        refine cond_b S rfl (fun hc450 => ?_) (fun hc450 => ?_)
        ·have hm := ite_t hc450 hm
         refine wp_seq ?_
         refine wp_seq ?_
         refine region_drawG (fun w1 => Heap w0 [] w1) (fun i => [9].contains i) mixed (by kernel_rfl) (fun w452 he451 => ?_)
         have H := H.later he451
         refine ⟨H.sel [] (by decide), ?_⟩
         refine lq p0 S (q_move rfl) fun a S => ?_
         refine lq (.int .i64 x393) S (q_move rfl) fun a S => ?_
         obtain ⟨x453, e454, hm⟩ := bind_some hm
         obtain ⟨c455, h456, hat457⟩ := (h0).elem (idx_some e454).2
         obtain ⟨c460, c461, rfl, h462, h463⟩ := h456
         obtain rfl := h462
         obtain ⟨c464, c465, rfl, h466, h467⟩ := h463
         obtain rfl := h466
         obtain ⟨v458, rfl, h459⟩ := rd_list h467
         have hlt := lt_of_idx (idx_some e454).2
         refine lq (ePtr p0 (x393.toNat * 3)) S (q_indexAddr rfl (h0).isSl rfl (idx_some e454).1 hlt Try.underlying26 Try.sizeOf71) fun a S => ?_
         refine lq (pAdd (ePtr p0 (x393.toNat * 3)) 2) S (q_fieldAddr' 2 23 rfl ((hat457 0 _ rfl).isP) Try.underlying71 rfl Try.sizeOf23) fun a S => ?_
         refine lq v458 S (q_load1 rfl Try.isAgg23 (fun w1 hC => (At.of_add (m := 2) (j := 0) ((hat457 2 _ rfl).ext hC.ext)))) fun a S => ?_
         refine lq p3 S (q_move rfl) fun a S => ?_
         refine lq (.int .i64 x393) S (q_move rfl) fun a S => ?_
         obtain ⟨x468, e469, hm⟩ := bind_some hm
         obtain ⟨c470, h471, hat472⟩ := (h3).elem (idx_some e469).2
         obtain rfl := h471
         have hlt := lt_of_idx (idx_some e469).2
         refine lq (ePtr p3 (x393.toNat * 1)) S (q_indexAddr rfl (h3).isSl rfl (idx_some e469).1 hlt Try.underlying23 Try.sizeOf2) fun a S => ?_
         refine lq (.int .i64 x468) S (q_load1 rfl Try.isAgg2 (fun w1 hC => ((hat472 0 _ rfl).ext hC.ext))) fun a S => ?_
         obtain ⟨x475, e476, hm⟩ := bind_some hm
         refine lx_call (xs := [.tmp 65, .tmp 69]) S trivial (by decide) rfl rfl Try.call62 ((slices_Contains__int64_int64_ok (H.arg h459)  e476).mono ?_)
         rintro e w473 ⟨rfl, Hc474⟩
         have H := H.call0 Hc474
         refine ⟨_, rfl, H.sel [] (by decide), fun a S => ?_⟩
         refine lq (.bool (!x475)) S (q_not rfl) fun a S => ?_
         refine lx_nil (thenN ?_)
         refine cond_b S rfl (fun hc478 => ?_) (fun hc478 => ?_)
         ·have hm := ite_t hc478 hm
          refine wp_seq (region_plain ?_)
          refine lq (.bool false) S (q_assign rfl) fun a S => ?_
          refine lx_nil (thenN ?_)
          refine wp_ret (then_ret ?_)
          refine then_ret ?_
          refine inBlock_ret ?_
          refine then_ret ?_
          refine then_ret ?_
          refine inBlock_ret ?_
          refine then_ret ?_
          refine then_ret ?_
          obtain rfl := it_brk hm hc391
          have hm := ctl_inr hk272
          obtain rfl := Option.some.inj hm
          have H : Heap w0 [] w473 := H.sel [] (by decide)
          exact leave1 S rfl rfl ⟨rfl, H⟩
         ·have hm := ite_f hc478 hm
          refine wp_skip (thenN ?_)
          refine region_plain ?_
          refine lq v62 S (q_move rfl) fun a S => ?_
          refine lq (.int .i64 x393) S (q_move rfl) fun a S => ?_
          refine lq p3 S (q_move rfl) fun a S => ?_
          refine lq (.int .i64 x393) S (q_move rfl) fun a S => ?_
          obtain ⟨x479, e480, hm⟩ := bind_some hm
          obtain ⟨c481, h482, hat483⟩ := (h3).elem (idx_some e480).2
          obtain rfl := h482
          have hlt := lt_of_idx (idx_some e480).2
          refine lq (ePtr p3 (x393.toNat * 1)) S (q_indexAddr rfl (h3).isSl rfl (idx_some e480).1 hlt Try.underlying23 Try.sizeOf2) fun a S => ?_
          refine lx_e (.int .i64 x479) S trivial (by decide) rfl trivial (q_load1 rfl Try.isAgg2 (by rintro _ rfl; exact ((hat483 0 _ rfl).ext H.ext))) (fun a S => ?_)
          refine lx_buildSlice (r := (rInt .i64)) (xs := [x479]) (ps := [(0, [(.int .i64 x479)])]) (cs := [(.int .i64 x479)]) (parts := [(0, .tmp 77)]) S trivial (by decide) rfl (H.put0 (A := eA) rfl) rfl Try.underlying23 Try.sizeOf2 Try.zeroValue2 (by decide) ⟨rfl, rfl, Nat.le_of_ble_eq_true rfl, trivial⟩ (by intro zs hz; exact fill_dense hz ⟨rfl, trivial⟩ rfl rfl) rfl (by decide) (fun w F hA => by cases (show F = [] from hA); exact ⟨_, _, [(.int .i64 x479)], _, rfl, rfl, ⟨rfl, rfl⟩, ⟨rfl, rfl⟩⟩) (fun v484 w485 H => ⟨trivial, fun a S => ?_⟩)
          obtain ⟨x487, e488, hm⟩ := bind_some hm
          have hlt := lt_of_idx (idx_some e488).2
          refine lq (ePtr v62 (x393.toNat * 1)) S (q_indexAddr rfl (H.isSl 1 rfl) rfl (idx_some e488).1 hlt Try.underlying45 Try.sizeOf23) fun a S => ?_
          have hcl : Value.cells v484 = List.toArray [v484] := (cells_sl (H.isSl 0 rfl))
          have hon : ∀ c ∈ ([v484] : List Value), c.oneCell' = true := (List.forall_mem_cons.2 ⟨one_sl (H.isSl 0 rfl), (fun _ h => nomatch h)⟩)
          have H : Heap w0 [oA (rList (rMx w0 (rList (rInt .i64)))) v62 (xs165.set x393.toNat (Mx.rd x398.2.2)), oA (rList (rInt .i64)) v484 [x479], bA b31 [p2] 23] w485 := H.front 1 rfl
          refine lx_storeElem (r := (rMx w0 (rList (rInt .i64)))) (us := [v484]) (off := 0) (e' := (Mx.own [x479])) S trivial rfl H (ev_zero rfl) rfl (idx_some e488).2 hcl Try.sizeOf23 (Nat.le_of_ble_eq_true rfl) hon (Upd.full rfl (fun w G hG => oA_list.1 hG)) (fun w489 H => ⟨trivial, fun a S => ?_⟩)
          refine lx_nil ?_
          have H : Heap w0 [bA b31 [p2] 23, oA (rList (rMx w0 (rList (rInt .i64)))) v62 ((xs165.set x393.toNat (Mx.rd x398.2.2)).set x393.toNat (Mx.own [x479]))] w489 := H.front 1 rfl
          exact ⟨((xs165.set x393.toNat (Mx.rd x398.2.2)).set x393.toNat (Mx.own [x479])), S.sub ⟨rfl, rfl, rfl, rfl, rfl, rfl, rfl, rfl, rfl, trivial⟩, H, hm⟩
        ·have hm := ite_f hc450 hm
         refine wp_skip ?_
         have H : Heap w0 [bA b31 [p2] 23, oA (rList (rMx w0 (rList (rInt .i64)))) v62 (xs165.set x393.toNat (Mx.rd x398.2.2))] w415 := H.front 1 rfl
         exact ⟨(xs165.set x393.toNat (Mx.rd x398.2.2)), S.sub ⟨rfl, rfl, rfl, rfl, rfl, rfl, rfl, rfl, rfl, trivial⟩, H, hm⟩
      ·have hm := ite_f hc392 hm
       refine wp_exit ?_
       refine then_exit ?_
       refine then_exit ?_
       refine inBlock_exit ?_
       obtain rfl := it_brk hm hc391
       have H : Heap w0 [oA (rList (rMx w0 (rList (rInt .i64)))) v62 xs165] w := H.sel [1] (by decide)
       exact ⟨xs165, S.sub ⟨rfl, rfl, rfl, trivial⟩, H, rfl⟩

/-- laws.FnExactIsWinningStrategy -/
def laws_FnExactIsWinningStrategy_m (fuel : Nat) (a0 : (List Tlaws_Vertex)) (a1 : Int) (a2 : (List Int)) (a3 : (List Int)) : Option (Bool) :=
  (if (decide ((1048576 : Int) < (a2.length : Int))) = true then some (true) else (if (decide ((1048576 : Int) < (a3.length : Int))) = true then some (true) else (laws_szVertexS_m fuel a0 (1048576 : Int)).bind fun x35 => (if (decide (x35 < (0 : Int))) = true then some (true) else (laws_toVertexS_m fuel a0).bind fun x41 => (laws_toInt64S_m fuel a2).bind fun x48 => (laws_toInt64S_m fuel a3).bind fun x55 => (spec_IsWinningStrategy_m fuel x41 a1 x48 x55).bind fun x62 => (laws_toVertexS_m fuel a0).bind fun x67 => (laws_toInt64S_m fuel a2).bind fun x74 => (laws_toInt64S_m fuel a3).bind fun x81 => (impl_IsWinningStrategy_m fuel x67 a1 x74 x81).bind fun x88 => (if (x88 != x62) = true then some (false) else (laws_toVertexS_m fuel a0).bind fun x94 => (laws_eqVertexS_m fuel x67 x94).bind fun x101 => (if (!x101) = true then some (false) else (laws_toInt64S_m fuel a2).bind fun x107 => (laws_eqInt64S_m fuel x74 x107).bind fun x114 => (if (!x114) = true then some (false) else (laws_toInt64S_m fuel a3).bind fun x120 => (laws_eqInt64S_m fuel x81 x120).bind fun x127 => (if (!x127) = true then some (false) else some (true))))))))
set_option maxRecDepth 20000 in
theorem laws_FnExactIsWinningStrategy_ok {w0 : World} {fuel : Nat} {p0 p2 p3 : Value} {a0 : (List Tlaws_Vertex)} {a1 : Int} {a2 : (List Int)} {a3 : (List Int)} {r : Bool} (h0 : Rd (rList Rlaws_Vertex) w0 p0 a0) (h2 : Rd (rList (rInt .i64)) w0 p2 a2) (h3 : Rd (rList (rInt .i64)) w0 p3 a3) (hm : laws_FnExactIsWinningStrategy_m fuel a0 a1 a2 a3 = some r) :
  Calls Try.prog 3 #[p0, .int .i64 a1, p2, p3] w0 fun e w => e = .returned (.bool r) ∧ Heap w0 [] w := by
 unfold laws_FnExactIsWinningStrategy_m at hm
 have H := Heap.start w0
 refine enter (args := [p0, .int .i64 a1, p2, p3]) Try.func3 rfl 63 rfl (Nat.le_of_ble_eq_true rfl) (fun a S => ?_)
 refine wp_seq (region_plain ?_)
 refine lq (.bool false) S (q_assign rfl) fun a S => ?_
 refine lx_nil (thenN ?_)
 refine wp_seq (wp_seq (region_plain ?_))
 refine lq p2 S (q_move rfl) fun a S => ?_
 refine lq (.int .i64 (a2.length : Int)) S (q_lenSl rfl (h2).isSl rfl Try.underlying23) fun a S => ?_
 refine lq (.bool (decide ((1048576 : Int) < (a2.length : Int)))) S (q_gtr rfl rfl) fun a S => ?_
 refine lx_nil (thenN ?_)
 refine cond_b S rfl (fun hc31 => ?_) (fun hc31 => ?_)
 ·have hm := ite_t hc31 hm
  refine wp_seq (region_plain ?_)
  refine lq (.bool true) S (q_assign rfl) fun a S => ?_
  refine lx_nil (thenN ?_)
  refine wp_ret (then_ret ?_)
  obtain rfl := Option.some.inj hm
  exact leave1 S rfl rfl ⟨rfl, H⟩
 ·have hm := ite_f hc31 hm
  refine wp_skip (thenN ?_)
  refine wp_seq (wp_seq (region_plain ?_))
  refine lq p3 S (q_move rfl) fun a S => ?_
  refine lq (.int .i64 (a3.length : Int)) S (q_lenSl rfl (h3).isSl rfl Try.underlying23) fun a S => ?_
  refine lq (.bool (decide ((1048576 : Int) < (a3.length : Int)))) S (q_gtr rfl rfl) fun a S => ?_
  refine lx_nil (thenN ?_)
  refine cond_b S rfl (fun hc32 => ?_) (fun hc32 => ?_)
  ·have hm := ite_t hc32 hm
   refine wp_seq (region_plain ?_)
   refine lq (.bool true) S (q_assign rfl) fun a S => ?_
   refine lx_nil (thenN ?_)
   refine wp_ret (then_ret ?_)
   obtain rfl := Option.some.inj hm
   exact leave1 S rfl rfl ⟨rfl, H⟩
  ·have hm := ite_f hc32 hm
   refine wp_skip (thenN ?_)
   refine wp_seq (region_plain ?_)
   refine lq (.int .i64 (1048576 : Int)) S (q_assign rfl) fun a S => ?_
   refine lx_nil (thenN ?_)
   refine wp_seq (region_plain ?_)
   refine lq p0 S (q_move rfl) fun a S => ?_
   refine lq (.int .i64 (1048576 : Int)) S (q_move rfl) fun a S => ?_
   obtain ⟨x35, e36, hm⟩ := bind_some hm
   refine lx_call (xs := [.tmp 21, .tmp 22]) S trivial (by decide) rfl rfl Try.call13 ((laws_szVertexS_ok (H.arg h0)  e36).mono ?_)
   rintro e w33 ⟨rfl, Hc34⟩
   have H := H.call0 Hc34
   refine ⟨_, rfl, trivial, fun a S => ?_⟩
   refine lq (.int .i64 x35) S (q_assign rfl) fun a S => ?_
   refine lx_nil (thenN ?_)
   refine wp_seq (wp_seq (region_plain ?_))
   refine lq (.int .i64 x35) S (q_move rfl) fun a S => ?_
   refine lq (.bool (decide (x35 < (0 : Int)))) S (q_lss rfl rfl) fun a S => ?_
   refine lx_nil (thenN ?_)
   refine cond_b S rfl (fun hc38 => ?_) (fun hc38 => ?_)
   ·have hm := ite_t hc38 hm
    refine wp_seq (region_plain ?_)
    refine lq (.bool true) S (q_assign rfl) fun a S => ?_
    refine lx_nil (thenN ?_)
    refine wp_ret (then_ret ?_)
    obtain rfl := Option.some.inj hm
    exact leave1 S rfl rfl ⟨rfl, H⟩
   ·have hm := ite_f hc38 hm
    refine wp_skip (thenN ?_)
    refine wp_seq (region_plain ?_)
    refine lq p0 S (q_move rfl) fun a S => ?_
    obtain ⟨x41, e42, hm⟩ := bind_some hm
    refine lx_call (xs := [.tmp 26]) S trivial (by decide) rfl rfl Try.call15 ((laws_toVertexS_ok (H.arg h0) e42).mono ?_)
    rintro e w39 ⟨v43, rfl, Hc40⟩
    have H := H.call1 Hc40
    refine ⟨_, rfl, trivial, fun a S => ?_⟩
    refine lq (.int .i64 a1) S (q_move rfl) fun a S => ?_
    refine lq p2 S (q_move rfl) fun a S => ?_
    obtain ⟨x48, e49, hm⟩ := bind_some hm
    refine lx_call (xs := [.tmp 29]) S trivial (by decide) rfl rfl Try.call16 ((laws_toInt64S_ok (H.arg h2) e49).mono ?_)
    rintro e w46 ⟨v50, rfl, Hc47⟩
    have H := H.call1 Hc47
    refine ⟨_, rfl, trivial, fun a S => ?_⟩
    refine lq p3 S (q_move rfl) fun a S => ?_
    obtain ⟨x55, e56, hm⟩ := bind_some hm
    refine lx_call (xs := [.tmp 31]) S trivial (by decide) rfl rfl Try.call16 ((laws_toInt64S_ok (H.arg h3) e56).mono ?_)
    rintro e w53 ⟨v57, rfl, Hc54⟩
    have H := H.call1 Hc54
    refine ⟨_, rfl, trivial, fun a S => ?_⟩
    obtain ⟨x62, e63, hm⟩ := bind_some hm
    refine lx_call (xs := [.tmp 27, .tmp 28, .tmp 30, .tmp 32]) S trivial (by decide) rfl rfl Try.call14 ((spec_IsWinningStrategy_ok (H.rdAt 2 rfl)  (H.rdAt 1 rfl) (H.rdAt 0 rfl) e63).mono ?_)
    rintro e w60 ⟨rfl, Hc61⟩
    have H := H.call0 Hc61
    refine ⟨_, rfl, trivial, fun a S => ?_⟩
    refine lq (.bool x62) S (q_assign rfl) fun a S => ?_
    refine lx_nil (thenN ?_)
    refine wp_seq (region_plain ?_)
    refine lq p0 S (q_move rfl) fun a S => ?_
    obtain ⟨x67, e68, hm⟩ := bind_some hm
    refine lx_call (xs := [.tmp 34]) S trivial (by decide) rfl rfl Try.call15 ((laws_toVertexS_ok (H.arg h0) e68).mono ?_)
    rintro e w65 ⟨v69, rfl, Hc66⟩
    have H := H.call1 Hc66
    refine ⟨_, rfl, trivial, fun a S => ?_⟩
    refine lq v69 S (q_assign rfl) fun a S => ?_
    refine lx_nil (thenN ?_)
    refine wp_seq (region_plain ?_)
    refine lq p2 S (q_move rfl) fun a S => ?_
    obtain ⟨x74, e75, hm⟩ := bind_some hm
    refine lx_call (xs := [.tmp 36]) S trivial (by decide) rfl rfl Try.call16 ((laws_toInt64S_ok (H.arg h2) e75).mono ?_)
    rintro e w72 ⟨v76, rfl, Hc73⟩
    have H := H.call1 Hc73
    refine ⟨_, rfl, trivial, fun a S => ?_⟩
    refine lq v76 S (q_assign rfl) fun a S => ?_
    refine lx_nil (thenN ?_)
    refine wp_seq (region_plain ?_)
    refine lq p3 S (q_move rfl) fun a S => ?_
    obtain ⟨x81, e82, hm⟩ := bind_some hm
    refine lx_call (xs := [.tmp 38]) S trivial (by decide) rfl rfl Try.call16 ((laws_toInt64S_ok (H.arg h3) e82).mono ?_)
    rintro e w79 ⟨v83, rfl, Hc80⟩
    have H := H.call1 Hc80
    refine ⟨_, rfl, trivial, fun a S => ?_⟩
    refine lq v83 S (q_assign rfl) fun a S => ?_
    refine lx_nil (thenN ?_)
    refine wp_seq (region_plain ?_)
    refine lq v69 S (q_move rfl) fun a S => ?_
    refine lq (.int .i64 a1) S (q_move rfl) fun a S => ?_
    refine lq v76 S (q_move rfl) fun a S => ?_
    refine lq v83 S (q_move rfl) fun a S => ?_
    obtain ⟨x88, e89, hm⟩ := bind_some hm
    refine lx_call (xs := [.tmp 40, .tmp 41, .tmp 42, .tmp 43]) S trivial (by decide) rfl rfl Try.call17 ((impl_IsWinningStrategy_ok (H.rdAt 2 rfl)  (H.rdAt 1 rfl) (H.rdAt 0 rfl) e89).mono ?_)
    rintro e w86 ⟨rfl, Hc87⟩
    have H := H.call0 Hc87
    refine ⟨_, rfl, trivial, fun a S => ?_⟩
    refine lq (.bool x88) S (q_assign rfl) fun a S => ?_
    refine lx_nil (thenN ?_)
    refine wp_seq (wp_seq (region_plain ?_))
    refine lq (.bool x88) S (q_move rfl) fun a S => ?_
    refine lq (.bool x62) S (q_move rfl) fun a S => ?_
    refine lq (.bool (x88 != x62)) S (q_bneq rfl rfl Try.underlying4) fun a S => ?_
    refine lx_nil (thenN ?_)
    refine cond_b S rfl (fun hc91 => ?_) (fun hc91 => ?_)
    ·have hm := ite_t hc91 hm
     refine wp_seq (region_plain ?_)
     refine lq (.bool false) S (q_assign rfl) fun a S => ?_
     refine lx_nil (thenN ?_)
     refine wp_ret (then_ret ?_)
     obtain rfl := Option.some.inj hm
     have H : Heap w0 [] w86 := H.sel [] (by decide)
     exact leave1 S rfl rfl ⟨rfl, H⟩
    ·have hm := ite_f hc91 hm
     refine wp_skip (thenN ?_)
     refine wp_seq (wp_seq (region_plain ?_))
     refine lq v69 S (q_move rfl) fun a S => ?_
     refine lq p0 S (q_move rfl) fun a S => ?_
     obtain ⟨x94, e95, hm⟩ := bind_some hm
     refine lx_call (xs := [.tmp 49]) S trivial (by decide) rfl rfl Try.call15 ((laws_toVertexS_ok (H.arg h0) e95).mono ?_)
     rintro e w92 ⟨v96, rfl, Hc93⟩
     have H := H.call1 Hc93
     refine ⟨_, rfl, trivial, fun a S => ?_⟩
     obtain ⟨x101, e102, hm⟩ := bind_some hm
     refine lx_call (xs := [.tmp 48, .tmp 50]) S trivial (by decide) rfl rfl Try.call18 ((laws_eqVertexS_ok (H.rdAt 3 rfl) (H.rdAt 0 rfl) e102).mono ?_)
     rintro e w99 ⟨rfl, Hc100⟩
     have H := H.call0 Hc100
     refine ⟨_, rfl, trivial, fun a S => ?_⟩
     refine lq (.bool (!x101)) S (q_not rfl) fun a S => ?_
     refine lx_nil (thenN ?_)
     refine cond_b S rfl (fun hc104 => ?_) (fun hc104 => ?_)
     ·have hm := ite_t hc104 hm
      refine wp_seq (region_plain ?_)
      refine lq (.bool false) S (q_assign rfl) fun a S => ?_
      refine lx_nil (thenN ?_)
      refine wp_ret (then_ret ?_)
      obtain rfl := Option.some.inj hm
      have H : Heap w0 [] w99 := H.sel [] (by decide)
      exact leave1 S rfl rfl ⟨rfl, H⟩
     ·have hm := ite_f hc104 hm
      refine wp_skip (thenN ?_)
      refine wp_seq (wp_seq (region_plain ?_))
      refine lq v76 S (q_move rfl) fun a S => ?_
      refine lq p2 S (q_move rfl) fun a S => ?_
      obtain ⟨x107, e108, hm⟩ := bind_some hm
      refine lx_call (xs := [.tmp 54]) S trivial (by decide) rfl rfl Try.call16 ((laws_toInt64S_ok (H.arg h2) e108).mono ?_)
      rintro e w105 ⟨v109, rfl, Hc106⟩
      have H := H.call1 Hc106
      refine ⟨_, rfl, trivial, fun a S => ?_⟩
      obtain ⟨x114, e115, hm⟩ := bind_some hm
      refine lx_call (xs := [.tmp 53, .tmp 55]) S trivial (by decide) rfl rfl Try.call19 ((laws_eqInt64S_ok (H.rdAt 3 rfl) (H.rdAt 0 rfl) e115).mono ?_)
      rintro e w112 ⟨rfl, Hc113⟩
      have H := H.call0 Hc113
      refine ⟨_, rfl, trivial, fun a S => ?_⟩
      refine lq (.bool (!x114)) S (q_not rfl) fun a S => ?_
      refine lx_nil (thenN ?_)
      refine cond_b S rfl (fun hc117 => ?_) (fun hc117 => ?_)
      ·have hm := ite_t hc117 hm
       refine wp_seq (region_plain ?_)
       refine lq (.bool false) S (q_assign rfl) fun a S => ?_
       refine lx_nil (thenN ?_)
       refine wp_ret (then_ret ?_)
       obtain rfl := Option.some.inj hm
       have H : Heap w0 [] w112 := H.sel [] (by decide)
       exact leave1 S rfl rfl ⟨rfl, H⟩
      ·have hm := ite_f hc117 hm
       refine wp_skip (thenN ?_)
       refine wp_seq (wp_seq (region_plain ?_))
       refine lq v83 S (q_move rfl) fun a S => ?_
       refine lq p3 S (q_move rfl) fun a S => ?_
       obtain ⟨x120, e121, hm⟩ := bind_some hm
       refine lx_call (xs := [.tmp 59]) S trivial (by decide) rfl rfl Try.call16 ((laws_toInt64S_ok (H.arg h3) e121).mono ?_)
       rintro e w118 ⟨v122, rfl, Hc119⟩
       have H := H.call1 Hc119
       refine ⟨_, rfl, trivial, fun a S => ?_⟩
       obtain ⟨x127, e128, hm⟩ := bind_some hm
       refine lx_call (xs := [.tmp 58, .tmp 60]) S trivial (by decide) rfl rfl Try.call19 ((laws_eqInt64S_ok (H.rdAt 3 rfl) (H.rdAt 0 rfl) e128).mono ?_)
       rintro e w125 ⟨rfl, Hc126⟩
       have H := H.call0 Hc126
       refine ⟨_, rfl, trivial, fun a S => ?_⟩
       refine lq (.bool (!x127)) S (q_not rfl) fun a S => ?_
       refine lx_nil (thenN ?_)
       refine cond_b S rfl (fun hc130 => ?_) (fun hc130 => ?_)
       ·have hm := ite_t hc130 hm
        refine wp_seq (region_plain ?_)
        refine lq (.bool false) S (q_assign rfl) fun a S => ?_
        refine lx_nil (thenN ?_)
        refine wp_ret (then_ret ?_)
        obtain rfl := Option.some.inj hm
        have H : Heap w0 [] w125 := H.sel [] (by decide)
        exact leave1 S rfl rfl ⟨rfl, H⟩
       ·have hm := ite_f hc130 hm
        refine wp_skip (thenN ?_)
        refine wp_seq (region_plain ?_)
        refine lq (.bool true) S (q_assign rfl) fun a S => ?_
        refine lx_nil (thenN ?_)
        refine wp_ret ?_
        obtain rfl := Option.some.inj hm
        have H : Heap w0 [] w125 := H.sel [] (by decide)
        exact leave1 S rfl rfl ⟨rfl, H⟩
end Go.Proofs.Ytecknjdlbmmmiaa
