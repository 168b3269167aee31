/- The model of a statement and its walk (printed by a program of this repo). -/
import Derived.Test.YtkgkfbmcnchdbaaGreatDoorF0
import Derived.Test.YtkgkfbmcnchdbaaGreatDoorF1
import Derived.Test.YtkgkfbmcnchdbaaGreatDoorF14
import Derived.Test.YtkgkfbmcnchdbaaGreatDoorF2
import Derived.Test.YtkgkfbmcnchdbaaGreatDoorF3
import Derived.Test.YtkgkfbmcnchdbaaGreatDoorF4
import Derived.Test.YtkgkfbmcnchdbaaGreatDoorF6
import Derived.Test.YtkgkfbmcnchdbaaGreatDoorF7
import Derived.Test.YtkgkfbmcnchdbaaGreatDoorF8
import Derived.Test.YtkgkfbmcnchdbaaGreatDoorF9
import Derived.Test.YtkgkfbmcnchdbaaGreatDoorGxT
import Derived.Test.YtkgkfbmcnchdbaaGreatDoorGxY
namespace Go.Proofs.YtkgkfbmcnchdbaaGreatDoor
open Go.RowKit Go.Gx

/-- spec.l12Visible -/
def spec_l12Visible_m (fuel : Nat) (a0 : (List Str)) : Option (Bool) :=
  (iter (fun (s : (Int)) => (match s with | (x52) => (if (decide (x52 < (a0.length : Int))) = true then (idx a0 x52).bind fun x83 => (spec_l01Label_m fuel x83).bind fun x90 => (if (!x90) = true then some true else (idx a0 x52).bind fun x96 => some (x96 == ([116, 97, 117] : Str))).bind fun t93 => (if t93 = true then some (.inr (.inr false)) else some (.inl ((W (x52 + (1 : Int)))))) else some (.inr (.inl ()))) : Option (((Int)) ⊕ ((Unit) ⊕ (Bool))))) fuel ((0 : Int))).bind fun res74 => ctl (β := Unit) (ρ := Bool) (τ := Bool) res74 (fun _ => some (true)) (fun q => some (q))
set_option maxRecDepth 20000 in
theorem spec_l12Visible_ok {w0 : World} {fuel : Nat} {p0 : Value} {a0 : (List Str)} {r : Bool} (h0 : Rd (rList rStr) w0 p0 a0) (hm : spec_l12Visible_m fuel a0 = some r) :
  Calls Tryz.prog 154 #[p0] w0 fun e w => e = .returned (.bool r) ∧ Heap w0 [] w := by
 unfold spec_l12Visible_m at hm
 have H := Heap.start w0
 refine enter (args := [p0]) Tryz.func154 rfl 23 rfl (Nat.le_of_ble_eq_true rfl) (fun a S => ?_)
 refine wp_seq (region_plain ?_)
 refine lq (.bool false) S (q_assign rfl) fun a S => ?_
 refine lx_nil (thenN ?_)
 refine wp_seq (wp_seq (region_plain ?_))
 refine lq (.int .i64 (0 : Int)) S (q_assign rfl) fun a S => ?_
 refine lx_nil (thenN ?_)
 obtain ⟨res74, hit75, hk78⟩ := bind_some hm
 obtain ⟨f76, hf77, hit75⟩ := iter_name hit75
 refine block_loop (fun a w => Slots a 23 [] ∧ Heap w0 [] w ∧ res74 = .inl ()) ?_ ?_
 ·rintro a w ⟨S, H, rfl⟩
  have hm := ctl_inl hk78
  refine thenN ?_
  refine wp_seq (region_plain ?_)
  refine lq (.bool true) S (q_assign rfl) fun a S => ?_
  refine lx_nil (thenN ?_)
  refine wp_ret ?_
  obtain rfl := Option.some.inj hm
  exact leave1 S rfl rfl ⟨rfl, H⟩
 ·skip
  refine loop_ghost (fun n a w => ∃ (x52 : Int), Slots a 23 [(0, p0), (3, (.int .i64 x52))] ∧ Heap w0 [] w ∧ iter f76 n (x52) = some res74) _ ⟨(0 : Int), S.sub ⟨rfl, rfl, trivial⟩, H, hit75⟩ ?_
  rintro n a w ⟨x52, S, H, hit75⟩
  obtain ⟨m79, o80, rfl, hm, hc81⟩ := iter_step hit75
  rw [hf77] at hm
  refine wp_seq (wp_seq (region_plain ?_))
  refine lq (.int .i64 x52) S (q_move rfl) fun a S => ?_
  refine lq p0 S (q_move rfl) fun a S => ?_
  refine lq (.int .i64 (a0.length : Int)) S (q_lenSl rfl (h0).isSl rfl Tryz.underlying22) fun a S => ?_
  refine lq (.bool (decide (x52 < (a0.length : Int)))) S (q_lss rfl rfl) fun a S => ?_
  refine lx_nil (thenN ?_)
  refine cond_b S rfl (fun hc82 => ?_) (fun hc82 => ?_)
  ·have hm := ite_t hc82 hm
   refine wp_skip (thenN ?_)
   refine wp_seq ?_
   refine wp_block ?_
   refine wp_seq (region_plain ?_)
   refine lq p0 S (q_move rfl) fun a S => ?_
   refine lq (.int .i64 x52) S (q_move rfl) fun a S => ?_
   obtain ⟨x83, e84, hm⟩ := bind_some hm
   obtain ⟨c85, h86, hat87⟩ := (h0).elem (idx_some e84).2
   obtain rfl := h86
   have hlt := lt_of_idx (idx_some e84).2
   refine lq (ePtr p0 (x52.toNat * 1)) S (q_indexAddr rfl (h0).isSl rfl (idx_some e84).1 hlt Tryz.underlying22 Tryz.sizeOf9) fun a S => ?_
   refine lx_e (sv x83) S trivial (by decide) rfl trivial (q_load1 rfl Tryz.isAgg9 (by rintro _ rfl; exact ((hat87 0 _ rfl).ext H.ext))) (fun a S => ?_)
   obtain ⟨x90, e91, hm⟩ := bind_some hm
   refine lx_call (xs := [.tmp 13]) S trivial (by decide) rfl rfl Tryz.call158 ((spec_l01Label_ok  e91).mono ?_)
   rintro e w88 ⟨rfl, Hc89⟩
   have H := H.call0 Hc89
   refine ⟨_, rfl, trivial, fun a S => ?_⟩
   refine lq (.bool (!x90)) S (q_not rfl) fun a S => ?_
   refine lq (.bool (!x90)) S (q_move rfl) fun a S => ?_
   obtain ⟨t93, e94, hm⟩ := bind_some hm
   refine lx_cut 6 (fun a w => Slots a 23 [(0, p0), (3, (.int .i64 x52)), (22, (.bool t93))] ∧ Heap w0 [] w) ?_ ?_
   ·by_cases hc95 : (!x90) = true
    ·have hm := ite_t hc95 e94
     refine lx_skip S rfl rfl (isB_ne hc95) (by decide) (fun a S => ?_)
     refine lx_skip S rfl rfl (isB_ne hc95) (by decide) (fun a S => ?_)
     refine lx_skip S rfl rfl (isB_ne hc95) (by decide) (fun a S => ?_)
     refine lx_skip S rfl rfl (isB_ne hc95) (by decide) (fun a S => ?_)
     refine lx_skip S rfl rfl (isB_ne hc95) (by decide) (fun a S => ?_)
     refine lq (.bool true) S (q_pickT' rfl hc95 rfl) fun a S => ?_
     refine lx_nil ?_
     obtain rfl := Option.some.inj hm
     exact ⟨S.sub ⟨rfl, rfl, rfl, trivial⟩, H⟩
    ·have hm := ite_f (eq_false_of_ne_true hc95) e94
     have hc95 : (!x90) = false := eq_false_of_ne_true hc95
     refine lx_q p0 S (want_b rfl rfl hc95) (by decide) (q_move rfl) (fun a S => ?_)
     refine lx_q (.int .i64 x52) S (want_b rfl rfl hc95) (by decide) (q_move rfl) (fun a S => ?_)
     obtain ⟨x96, e97, hm⟩ := bind_some hm
     obtain ⟨c98, h99, hat100⟩ := (h0).elem (idx_some e97).2
     obtain rfl := h99
     have hlt := lt_of_idx (idx_some e97).2
     refine lx_q (ePtr p0 (x52.toNat * 1)) S (want_b rfl rfl hc95) (by decide) (q_indexAddr rfl (h0).isSl rfl (idx_some e97).1 hlt Tryz.underlying22 Tryz.sizeOf9) (fun a S => ?_)
     refine lx_e (sv x96) S (want_b rfl rfl hc95) (by decide) rfl trivial (q_load1 rfl Tryz.isAgg9 (by rintro _ rfl; exact ((hat100 0 _ rfl).ext H.ext))) (fun a S => ?_)
     refine lx_q (.bool (x96 == ([116, 97, 117] : Str))) S (want_b rfl rfl hc95) (by decide) (q_seql rfl rfl) (fun a S => ?_)
     refine lq (.bool (x96 == ([116, 97, 117] : Str))) S (q_pickF' rfl hc95 rfl) fun a S => ?_
     refine lx_nil ?_
     obtain rfl := Option.some.inj hm
     exact ⟨S.sub ⟨rfl, rfl, rfl, trivial⟩, H⟩
   ·rintro a w ⟨S, H⟩
    refine lx_nil (thenN ?_)
    refine cond_b S rfl (fun hc101 => ?_) (fun hc101 => ?_)
    ·have hm := ite_t hc101 hm
     refine wp_seq (region_plain ?_)
     refine lq (.bool false) S (q_assign rfl) fun a S => ?_
     refine lx_nil (thenN ?_)
     refine wp_ret (inBlock_ret ?_)
     refine then_ret ?_
     refine then_ret ?_
     refine inBlock_ret ?_
     refine then_ret ?_
     refine then_ret ?_
     obtain rfl := it_brk hm hc81
     have hm := ctl_inr hk78
     obtain rfl := Option.some.inj hm
     exact leave1 S rfl rfl ⟨rfl, H⟩
    ·have hm := ite_f hc101 hm
     refine wp_skip ?_
     refine inBlock_norm ?_
     refine thenN ?_
     refine region_plain ?_
     refine lq (.int .i64 x52) S (q_move rfl) fun a S => ?_
     refine lq (.int .i64 (W (x52 + (1 : Int)))) S (q_add rfl rfl) fun a S => ?_
     refine lq (.int .i64 (W (x52 + (1 : Int)))) S (q_assign rfl) fun a S => ?_
     refine lx_nil ?_
     exact ⟨m79, Nat.lt_succ_self _, (W (x52 + (1 : Int))), S.sub ⟨rfl, rfl, trivial⟩, H, it_cont hm hc81⟩
  ·have hm := ite_f hc82 hm
   refine wp_exit ?_
   refine then_exit ?_
   refine then_exit ?_
   refine inBlock_exit ?_
   obtain rfl := it_brk hm hc81
   exact ⟨S.sub trivial, H, rfl⟩

/-- spec.l12First -/
def spec_l12First_m (fuel : Nat) (a0 : Timpl_Lts) : Option ((List Int)) :=
  (spec_l12Marks_m fuel a0 [a0.2.1]).bind fun x55 => (spec_l12Close_m fuel a0 x55).bind fun x62 => (spec_l14List_m fuel x62).bind fun x66 => some (x66)
set_option maxRecDepth 20000 in
theorem spec_l12First_ok {w0 : World} {fuel : Nat} {p0 : Value} {a0 : Timpl_Lts} {r : (List Int)} (h0 : Rd (rPtr Rimpl_Lts) w0 p0 a0) (hm : spec_l12First_m fuel a0 = some r) :
  Calls Tryz.prog 172 #[p0] w0 fun e w => ∃ (v0 : Value), e = .returned (v0) ∧ Heap w0 [oA (rList (rInt .i64)) v0 r] w := by
 unfold spec_l12First_m at hm
 have H := Heap.start w0
 obtain ⟨c31, h32, hat33⟩ := h0.ptr
 obtain ⟨c38, c39, rfl, h40, h41⟩ := h32
 obtain rfl := h40
 obtain ⟨c42, c43, rfl, h44, h45⟩ := h41
 obtain rfl := h44
 obtain ⟨c46, c47, rfl, h48, h49⟩ := h45
 obtain ⟨v34, rfl, h35⟩ := rd_list h48
 obtain ⟨v36, rfl, h37⟩ := rd_list h49
 refine enter (args := [p0]) Tryz.func172 rfl 16 rfl (Nat.le_of_ble_eq_true rfl) (fun a S => ?_)
 refine wp_seq (region_plain ?_)
 refine lq (.slice none 0 0) S (q_assign rfl) fun a S => ?_
 refine lx_nil (thenN ?_)
 refine wp_seq (region_plain ?_)
 refine lq p0 S (q_move rfl) fun a S => ?_
 refine lq p0 S (q_move rfl) fun a S => ?_
 refine lq p0 S (q_nilCheck rfl ((hat33 0 _ rfl).isP)) fun a S => ?_
 refine lq (pAdd p0 1) S (q_fieldAddr' 1 2 rfl ((hat33 0 _ rfl).isP) Tryz.underlying30 rfl Tryz.sizeOf2) fun a S => ?_
 refine lx_e (.int .i64 a0.2.1) S trivial (by decide) rfl trivial (q_load1 rfl Tryz.isAgg2 (by rintro _ rfl; exact (At.of_add (m := 1) (j := 0) ((hat33 1 _ rfl).ext H.ext)))) (fun a S => ?_)
 refine lx_buildSlice (r := (rInt .i64)) (xs := [a0.2.1]) (ps := [(0, [(.int .i64 a0.2.1)])]) (cs := [(.int .i64 a0.2.1)]) (parts := [(0, .tmp 8)]) S trivial (by decide) rfl (H.put0 (A := eA) rfl) rfl Tryz.underlying34 Tryz.sizeOf2 Tryz.zeroValue2 (by decide) ⟨rfl, rfl, Nat.le_of_ble_eq_true rfl, trivial⟩ (by intro zs hz; exact fill_dense hz ⟨rfl, trivial⟩ rfl rfl) rfl (by decide) (fun w F hA => by cases (show F = [] from hA); exact ⟨_, _, [(.int .i64 a0.2.1)], _, rfl, rfl, ⟨rfl, rfl⟩, ⟨rfl, rfl⟩⟩) (fun v50 w51 H => ⟨trivial, fun a S => ?_⟩)
 obtain ⟨x55, e56, hm⟩ := bind_some hm
 refine lx_call (xs := [.tmp 4, .tmp 9]) S trivial (by decide) rfl rfl Tryz.call118 ((spec_l12Marks_ok (H.arg h0) (H.rdAt 0 rfl) e56).mono ?_)
 rintro e w53 ⟨v57, rfl, Hc54⟩
 have H := H.call1 Hc54
 refine ⟨_, rfl, trivial, fun a S => ?_⟩
 refine lq v57 S (q_assign rfl) fun a S => ?_
 refine lx_nil (thenN ?_)
 refine wp_seq (region_plain ?_)
 refine lq p0 S (q_move rfl) fun a S => ?_
 refine lq v57 S (q_move rfl) fun a S => ?_
 obtain ⟨x62, e63, hm⟩ := bind_some hm
 refine lx_call (xs := [.tmp 11, .tmp 12]) S trivial (by decide) rfl rfl Tryz.call119 ((spec_l12Close_ok H h0 e63).mono ?_)
 rintro e w60 ⟨rfl, H⟩
 refine ⟨_, rfl, trivial, fun a S => ?_⟩
 refine lx_nil (thenN ?_)
 refine wp_seq (region_plain ?_)
 refine lq v57 S (q_move rfl) fun a S => ?_
 obtain ⟨x66, e67, hm⟩ := bind_some hm
 refine lx_call (xs := [.tmp 14]) S trivial (by decide) rfl rfl Tryz.call120 ((spec_l14List_ok (H.rdAt 0 rfl) e67).mono ?_)
 rintro e w64 ⟨v68, rfl, Hc65⟩
 have H := H.call1 Hc65
 refine ⟨_, rfl, trivial, fun a S => ?_⟩
 refine lq v68 S (q_assign rfl) fun a S => ?_
 refine lx_nil (thenN ?_)
 refine wp_ret ?_
 obtain rfl := Option.some.inj hm
 have H : Heap w0 [oA (rList (rInt .i64)) v68 x66] w64 := H.sel [0] (by decide)
 exact leave1 S rfl rfl ⟨v68, rfl, H⟩

/-- spec.l00Has -/
def spec_l00Has_m (fuel : Nat) (a0 : (List Int)) (a1 : Int) : Option (Bool) :=
  (iter (fun (s : (Int)) => (match s with | (x39) => (if (decide (x39 < (a0.length : Int))) = true then (idx a0 x39).bind fun x57 => (if (x57 == a1) = true then some (.inr (.inr true)) else some (.inl ((W (x39 + (1 : Int)))))) else some (.inr (.inl ()))) : Option (((Int)) ⊕ ((Unit) ⊕ (Bool))))) fuel ((0 : Int))).bind fun res48 => ctl (β := Unit) (ρ := Bool) (τ := Bool) res48 (fun _ => some (false)) (fun q => some (q))
set_option maxRecDepth 20000 in
theorem spec_l00Has_ok {w0 : World} {fuel : Nat} {p0 : Value} {a0 : (List Int)} {a1 : Int} {r : Bool} (h0 : Rd (rList (rInt .i64)) w0 p0 a0) (hm : spec_l00Has_m fuel a0 a1 = some r) :
  Calls Tryz.prog 203 #[p0, .int .i64 a1] w0 fun e w => e = .returned (.bool r) ∧ Heap w0 [] w := by
 unfold spec_l00Has_m at hm
 have H := Heap.start w0
 refine enter (args := [p0, .int .i64 a1]) Tryz.func203 rfl 18 rfl (Nat.le_of_ble_eq_true rfl) (fun a S => ?_)
 refine wp_seq (region_plain ?_)
 refine lq (.bool false) S (q_assign rfl) fun a S => ?_
 refine lx_nil (thenN ?_)
 refine wp_seq (wp_seq (region_plain ?_))
 refine lq (.int .i64 (0 : Int)) S (q_assign rfl) fun a S => ?_
 refine lx_nil (thenN ?_)
 obtain ⟨res48, hit49, hk52⟩ := bind_some hm
 obtain ⟨f50, hf51, hit49⟩ := iter_name hit49
 refine block_loop (fun a w => Slots a 18 [] ∧ Heap w0 [] w ∧ res48 = .inl ()) ?_ ?_
 ·rintro a w ⟨S, H, rfl⟩
  have hm := ctl_inl hk52
  refine thenN ?_
  refine wp_seq (region_plain ?_)
  refine lq (.bool false) S (q_assign rfl) fun a S => ?_
  refine lx_nil (thenN ?_)
  refine wp_ret ?_
  obtain rfl := Option.some.inj hm
  exact leave1 S rfl rfl ⟨rfl, H⟩
 ·skip
  refine loop_ghost (fun n a w => ∃ (x39 : Int), Slots a 18 [(0, p0), (1, (.int .i64 a1)), (5, (.int .i64 x39))] ∧ Heap w0 [] w ∧ iter f50 n (x39) = some res48) _ ⟨(0 : Int), S.sub ⟨rfl, rfl, rfl, trivial⟩, H, hit49⟩ ?_
  rintro n a w ⟨x39, S, H, hit49⟩
  obtain ⟨m53, o54, rfl, hm, hc55⟩ := iter_step hit49
  rw [hf51] at hm
  refine wp_seq (wp_seq (region_plain ?_))
  refine lq (.int .i64 x39) S (q_move rfl) fun a S => ?_
  refine lq p0 S (q_move rfl) fun a S => ?_
  refine lq (.int .i64 (a0.length : Int)) S (q_lenSl rfl (h0).isSl rfl Tryz.underlying34) fun a S => ?_
  refine lq (.bool (decide (x39 < (a0.length : Int)))) S (q_lss rfl rfl) fun a S => ?_
  refine lx_nil (thenN ?_)
  refine cond_b S rfl (fun hc56 => ?_) (fun hc56 => ?_)
  ·have hm := ite_t hc56 hm
   refine wp_skip (thenN ?_)
   refine wp_seq ?_
   refine wp_block ?_
   refine wp_seq (region_plain ?_)
   refine lq p0 S (q_move rfl) fun a S => ?_
   refine lq (.int .i64 x39) S (q_move rfl) fun a S => ?_
   obtain ⟨x57, e58, hm⟩ := bind_some hm
   obtain ⟨c59, h60, hat61⟩ := (h0).elem (idx_some e58).2
   obtain rfl := h60
   have hlt := lt_of_idx (idx_some e58).2
   refine lq (ePtr p0 (x39.toNat * 1)) S (q_indexAddr rfl (h0).isSl rfl (idx_some e58).1 hlt Tryz.underlying34 Tryz.sizeOf2) fun a S => ?_
   refine lx_e (.int .i64 x57) S trivial (by decide) rfl trivial (q_load1 rfl Tryz.isAgg2 (by rintro _ rfl; exact ((hat61 0 _ rfl).ext H.ext))) (fun a S => ?_)
   refine lq (.int .i64 a1) S (q_move rfl) fun a S => ?_
   refine lq (.bool (x57 == a1)) S (q_eql rfl rfl) fun a S => ?_
   refine lx_nil (thenN ?_)
   refine cond_b S rfl (fun hc62 => ?_) (fun hc62 => ?_)
   ·have hm := ite_t hc62 hm
    refine wp_seq (region_plain ?_)
    refine lq (.bool true) S (q_assign rfl) fun a S => ?_
    refine lx_nil (thenN ?_)
    refine wp_ret (inBlock_ret ?_)
    refine then_ret ?_
    refine then_ret ?_
    refine inBlock_ret ?_
    refine then_ret ?_
    refine then_ret ?_
    obtain rfl := it_brk hm hc55
    have hm := ctl_inr hk52
    obtain rfl := Option.some.inj hm
    exact leave1 S rfl rfl ⟨rfl, H⟩
   ·have hm := ite_f hc62 hm
    refine wp_skip ?_
    refine inBlock_norm ?_
    refine thenN ?_
    refine region_plain ?_
    refine lq (.int .i64 x39) S (q_move rfl) fun a S => ?_
    refine lq (.int .i64 (W (x39 + (1 : Int)))) S (q_add rfl rfl) fun a S => ?_
    refine lq (.int .i64 (W (x39 + (1 : Int)))) S (q_assign rfl) fun a S => ?_
    refine lx_nil ?_
    exact ⟨m53, Nat.lt_succ_self _, (W (x39 + (1 : Int))), S.sub ⟨rfl, rfl, rfl, trivial⟩, H, it_cont hm hc55⟩
  ·have hm := ite_f hc56 hm
   refine wp_exit ?_
   refine then_exit ?_
   refine then_exit ?_
   refine inBlock_exit ?_
   obtain rfl := it_brk hm hc55
   exact ⟨S.sub trivial, H, rfl⟩

/-- spec.l12Next -/
def spec_l12Next_m (fuel : Nat) (a0 : Timpl_Lts) (a1 : (List Int)) (a2 : Int) : Option ((List Int)) :=
  (mks a0.1 false).bind fun x50 => (iter (fun (s : (List Bool) × (Int)) => (match s with | (xs113, x114) => (if (decide (x114 < (a0.2.2.2.length : Int))) = true then join (κ := List Bool → Option (((List Bool) × (Int)) ⊕ (((List Bool)) ⊕ ((List Int))))) (fun (xs193 : List Bool) => some (.inl (xs193, (W (x114 + (1 : Int)))))) (fun K194 => (idx a0.2.2.2 x114).bind fun x196 => (if (x196.2.1 == a2) = true then (idx a0.2.2.2 x114).bind fun x212 => (spec_l00Has_m fuel a1 x212.1).bind fun x227 => some x227 else some false).bind fun t209 => (if t209 = true then (idx a0.2.2.2 x114).bind fun x231 => (idx xs113 x231.2.2).bind fun _ => (K194 (xs113.set x231.2.2.toNat true)) else (K194 xs113))) else some (.inr (.inl (xs113)))) : Option (((List Bool) × (Int)) ⊕ (((List Bool)) ⊕ ((List Int)))))) fuel (x50, (0 : Int))).bind fun res173 => ctl (β := (List Bool)) (ρ := (List Int)) (τ := (List Int)) res173 (fun (xs172) => (spec_l12Close_m fuel a0 xs172).bind fun x180 => (spec_l14List_m fuel x180).bind fun x184 => some (x184)) (fun q => some (q))
set_option maxRecDepth 20000 in
theorem spec_l12Next_ok {w0 : World} {fuel : Nat} {p0 p1 : Value} {a0 : Timpl_Lts} {a1 : (List Int)} {a2 : Int} {r : (List Int)} (h0 : Rd (rPtr Rimpl_Lts) w0 p0 a0) (h1 : Rd (rList (rInt .i64)) w0 p1 a1) (hm : spec_l12Next_m fuel a0 a1 a2 = some r) :
  Calls Tryz.prog 173 #[p0, p1, .int .i64 a2] w0 fun e w => ∃ (v0 : Value), e = .returned (v0) ∧ Heap w0 [oA (rList (rInt .i64)) v0 r] w := by
 unfold spec_l12Next_m at hm
 have H := Heap.start w0
 obtain ⟨c31, h32, hat33⟩ := h0.ptr
 obtain ⟨c38, c39, rfl, h40, h41⟩ := h32
 obtain rfl := h40
 obtain ⟨c42, c43, rfl, h44, h45⟩ := h41
 obtain rfl := h44
 obtain ⟨c46, c47, rfl, h48, h49⟩ := h45
 obtain ⟨v34, rfl, h35⟩ := rd_list h48
 obtain ⟨v36, rfl, h37⟩ := rd_list h49
 refine enter (args := [p0, p1, .int .i64 a2]) Tryz.func173 rfl 60 rfl (Nat.le_of_ble_eq_true rfl) (fun a S => ?_)
 refine wp_seq (region_plain ?_)
 refine lq (.slice none 0 0) S (q_assign rfl) fun a S => ?_
 refine lx_nil (thenN ?_)
 refine wp_seq (region_plain ?_)
 refine lq p0 S (q_move rfl) fun a S => ?_
 refine lq p0 S (q_nilCheck rfl ((hat33 0 _ rfl).isP)) fun a S => ?_
 refine lq (pAdd p0 0) S (q_fieldAddr' 0 2 rfl ((hat33 0 _ rfl).isP) Tryz.underlying30 rfl Tryz.sizeOf2) fun a S => ?_
 refine lx_e (.int .i64 a0.1) S trivial (by decide) rfl trivial (q_load1 rfl Tryz.isAgg2 (by rintro _ rfl; exact (At.of_add (m := 0) (j := 0) ((hat33 0 _ rfl).ext H.ext)))) (fun a S => ?_)
 obtain ⟨x50, e51, hm⟩ := bind_some hm
 obtain ⟨m52, hn, hn2, rfl⟩ := mks_some e51
 refine lx_make (r := rBool) (z0 := false) (n := m52) S trivial (by decide) rfl H (by rw [← hn]; rfl) (by rw [← hn]; rfl) Tryz.underlying93 (Tryz.ti4) rfl rfl (by decide) (fun w => ⟨rfl, rfl⟩) hn2 (by decide) (fun v53 w54 H => ⟨trivial, fun a S => ?_⟩)
 refine lq v53 S (q_assign rfl) fun a S => ?_
 refine lx_nil (thenN ?_)
 refine wp_seq (wp_seq (region_plain ?_))
 refine lq (.int .i64 (0 : Int)) S (q_assign rfl) fun a S => ?_
 refine lx_nil (thenN ?_)
 obtain ⟨res173, hit174, hk177⟩ := bind_some hm
 obtain ⟨f175, hf176, hit174⟩ := iter_name hit174
 refine block_loop (fun a w => ∃ (xs172 : List Bool), Slots a 60 [(0, p0), (7, v53)] ∧ Heap w0 [oA (rList rBool) v53 xs172] w ∧ res173 = .inl (xs172)) ?_ ?_
 ·rintro a w ⟨xs172, S, H, rfl⟩
  have hm := ctl_inl hk177
  refine thenN ?_
  refine wp_seq (region_plain ?_)
  refine lq p0 S (q_move rfl) fun a S => ?_
  refine lq v53 S (q_move rfl) fun a S => ?_
  obtain ⟨x180, e181, hm⟩ := bind_some hm
  refine lx_call (xs := [.tmp 55, .tmp 56]) S trivial (by decide) rfl rfl Tryz.call119 ((spec_l12Close_ok H h0 e181).mono ?_)
  rintro e w178 ⟨rfl, H⟩
  refine ⟨_, rfl, trivial, fun a S => ?_⟩
  refine lx_nil (thenN ?_)
  refine wp_seq (region_plain ?_)
  refine lq v53 S (q_move rfl) fun a S => ?_
  obtain ⟨x184, e185, hm⟩ := bind_some hm
  refine lx_call (xs := [.tmp 58]) S trivial (by decide) rfl rfl Tryz.call120 ((spec_l14List_ok (H.rdAt 0 rfl) e185).mono ?_)
  rintro e w182 ⟨v186, rfl, Hc183⟩
  have H := H.call1 Hc183
  refine ⟨_, rfl, trivial, fun a S => ?_⟩
  refine lq v186 S (q_assign rfl) fun a S => ?_
  refine lx_nil (thenN ?_)
  refine wp_ret ?_
  obtain rfl := Option.some.inj hm
  have H : Heap w0 [oA (rList (rInt .i64)) v186 x184] w182 := H.sel [0] (by decide)
  exact leave1 S rfl rfl ⟨v186, rfl, H⟩
 ·skip
  refine loop_ghost (fun n a w => ∃ (xs113 : List Bool) (x114 : Int), Slots a 60 [(0, p0), (1, p1), (2, (.int .i64 a2)), (7, v53), (8, (.int .i64 x114))] ∧ Heap w0 [oA (rList rBool) v53 xs113] w ∧ iter f175 n (xs113, x114) = some res173) _ ⟨(List.replicate m52 false), (0 : Int), S.sub ⟨rfl, rfl, rfl, rfl, rfl, trivial⟩, H, hit174⟩ ?_
  rintro n a w ⟨xs113, x114, S, H, hit174⟩
  obtain ⟨m189, o190, rfl, hm, hc191⟩ := iter_step hit174
  rw [hf176] at hm
  refine wp_seq (wp_seq (region_plain ?_))
  refine lq (.int .i64 x114) S (q_move rfl) fun a S => ?_
  refine lq p0 S (q_move rfl) fun a S => ?_
  refine lq p0 S (q_nilCheck rfl ((hat33 0 _ rfl).isP)) fun a S => ?_
  refine lq (pAdd p0 3) S (q_fieldAddr' 3 28 rfl ((hat33 0 _ rfl).isP) Tryz.underlying30 rfl Tryz.sizeOf28) fun a S => ?_
  refine lx_e v36 S trivial (by decide) rfl trivial (q_load1 rfl Tryz.isAgg28 (by rintro _ rfl; exact (At.of_add (m := 3) (j := 0) ((hat33 3 _ rfl).ext H.ext)))) (fun a S => ?_)
  refine lq (.int .i64 (a0.2.2.2.length : Int)) S (q_lenSl rfl (h37).isSl rfl Tryz.underlying28) fun a S => ?_
  refine lq (.bool (decide (x114 < (a0.2.2.2.length : Int)))) S (q_lss rfl rfl) fun a S => ?_
  refine lx_nil (thenN ?_)
  refine cond_b S rfl (fun hc192 => ?_) (fun hc192 => ?_)
  ·have hm := ite_t hc192 hm
   refine wp_skip (thenN ?_)
   obtain ⟨K194, hK195, hm⟩ := join_elim hm
   refine seq_cut (fun a w => ∃ (xs193 : List Bool), Slots a 60 [(0, p0), (1, p1), (2, (.int .i64 a2)), (7, v53), (8, (.int .i64 x114))] ∧ Heap w0 [oA (rList rBool) v53 xs193] w ∧ K194 xs193 = some o190) ?_ ?_
   ·rintro a w ⟨xs193, S, H, hm⟩
    subst hK195
    refine region_plain ?_
    refine lq (.int .i64 x114) S (q_move rfl) fun a S => ?_
    refine lq (.int .i64 (W (x114 + (1 : Int)))) S (q_add rfl rfl) fun a S => ?_
    refine lq (.int .i64 (W (x114 + (1 : Int)))) S (q_assign rfl) fun a S => ?_
    refine lx_nil ?_
    exact ⟨m189, Nat.lt_succ_self _, xs193, (W (x114 + (1 : Int))), S.sub ⟨rfl, rfl, rfl, rfl, rfl, trivial⟩, H, it_cont hm hc191⟩
   ·skip
    refine wp_block ?_
    refine wp_seq (region_plain ?_)
    refine lq p0 S (q_move rfl) fun a S => ?_
    refine lq p0 S (q_nilCheck rfl ((hat33 0 _ rfl).isP)) fun a S => ?_
    refine lq (pAdd p0 3) S (q_fieldAddr' 3 28 rfl ((hat33 0 _ rfl).isP) Tryz.underlying30 rfl Tryz.sizeOf28) fun a S => ?_
    refine lx_e v36 S trivial (by decide) rfl trivial (q_load1 rfl Tryz.isAgg28 (by rintro _ rfl; exact (At.of_add (m := 3) (j := 0) ((hat33 3 _ rfl).ext H.ext)))) (fun a S => ?_)
    refine lq (.int .i64 x114) S (q_move rfl) fun a S => ?_
    obtain ⟨x196, e197, hm⟩ := bind_some hm
    obtain ⟨c198, h199, hat200⟩ := (h37).elem (idx_some e197).2
    obtain ⟨c201, c202, rfl, h203, h204⟩ := h199
    obtain rfl := h203
    obtain ⟨c205, c206, rfl, h207, h208⟩ := h204
    obtain rfl := h207
    obtain rfl := h208
    have hlt := lt_of_idx (idx_some e197).2
    refine lq (ePtr v36 (x114.toNat * 3)) S (q_indexAddr rfl (h37).isSl rfl (idx_some e197).1 hlt Tryz.underlying28 Tryz.sizeOf72) fun a S => ?_
    refine lq (pAdd (ePtr v36 (x114.toNat * 3)) 1) S (q_fieldAddr' 1 2 rfl ((hat200 0 _ rfl).isP) Tryz.underlying72 rfl Tryz.sizeOf2) fun a S => ?_
    refine lx_e (.int .i64 x196.2.1) S trivial (by decide) rfl trivial (q_load1 rfl Tryz.isAgg2 (by rintro _ rfl; exact (At.of_add (m := 1) (j := 0) ((hat200 1 _ rfl).ext H.ext)))) (fun a S => ?_)
    refine lq (.int .i64 a2) S (q_move rfl) fun a S => ?_
    refine lq (.bool (x196.2.1 == a2)) S (q_eql rfl rfl) fun a S => ?_
    refine lq (.bool (x196.2.1 == a2)) S (q_move rfl) fun a S => ?_
    obtain ⟨t209, e210, hm⟩ := bind_some hm
    refine lx_cut 11 (fun a w => Slots a 60 [(0, p0), (1, p1), (2, (.int .i64 a2)), (7, v53), (8, (.int .i64 x114)), (44, (.bool t209))] ∧ Heap w0 [oA (rList rBool) v53 xs113] w) ?_ ?_
    ·by_cases hc211 : (x196.2.1 == a2) = true
     ·have hm := ite_t hc211 e210
      refine lx_q p1 S (want_b rfl rfl hc211) (by decide) (q_move rfl) (fun a S => ?_)
      refine lx_q p0 S (want_b rfl rfl hc211) (by decide) (q_move rfl) (fun a S => ?_)
      refine lx_q p0 S (want_b rfl rfl hc211) (by decide) (q_nilCheck rfl ((hat33 0 _ rfl).isP)) (fun a S => ?_)
      refine lx_q (pAdd p0 3) S (want_b rfl rfl hc211) (by decide) (q_fieldAddr' 3 28 rfl ((hat33 0 _ rfl).isP) Tryz.underlying30 rfl Tryz.sizeOf28) (fun a S => ?_)
      refine lx_e v36 S (want_b rfl rfl hc211) (by decide) rfl trivial (q_load1 rfl Tryz.isAgg28 (by rintro _ rfl; exact (At.of_add (m := 3) (j := 0) ((hat33 3 _ rfl).ext H.ext)))) (fun a S => ?_)
      refine lx_q (.int .i64 x114) S (want_b rfl rfl hc211) (by decide) (q_move rfl) (fun a S => ?_)
      obtain ⟨x212, e213, hm⟩ := bind_some hm
      obtain ⟨c214, h215, hat216⟩ := (h37).elem (idx_some e213).2
      obtain ⟨c217, c218, rfl, h219, h220⟩ := h215
      obtain rfl := h219
      obtain ⟨c221, c222, rfl, h223, h224⟩ := h220
      obtain rfl := h223
      obtain rfl := h224
      have hlt := lt_of_idx (idx_some e213).2
      refine lx_q (ePtr v36 (x114.toNat * 3)) S (want_b rfl rfl hc211) (by decide) (q_indexAddr rfl (h37).isSl rfl (idx_some e213).1 hlt Tryz.underlying28 Tryz.sizeOf72) (fun a S => ?_)
      refine lx_q (pAdd (ePtr v36 (x114.toNat * 3)) 0) S (want_b rfl rfl hc211) (by decide) (q_fieldAddr' 0 2 rfl ((hat216 0 _ rfl).isP) Tryz.underlying72 rfl Tryz.sizeOf2) (fun a S => ?_)
      refine lx_e (.int .i64 x212.1) S (want_b rfl rfl hc211) (by decide) rfl trivial (q_load1 rfl Tryz.isAgg2 (by rintro _ rfl; exact (At.of_add (m := 0) (j := 0) ((hat216 0 _ rfl).ext H.ext)))) (fun a S => ?_)
      obtain ⟨x227, e228, hm⟩ := bind_some hm
      refine lx_call (xs := [.tmp 34, .tmp 42]) S (want_b rfl rfl hc211) (by decide) rfl rfl Tryz.call203 ((spec_l00Has_ok (H.arg h1)  e228).mono ?_)
      rintro e w225 ⟨rfl, Hc226⟩
      have H := H.call0 Hc226
      refine ⟨_, rfl, trivial, fun a S => ?_⟩
      refine lq (.bool x227) S (q_pickT' rfl hc211 rfl) fun a S => ?_
      refine lx_nil ?_
      obtain rfl := Option.some.inj hm
      exact ⟨S.sub ⟨rfl, rfl, rfl, rfl, rfl, rfl, trivial⟩, H⟩
     ·have hm := ite_f (eq_false_of_ne_true hc211) e210
      have hc211 : (x196.2.1 == a2) = false := eq_false_of_ne_true hc211
      refine lx_skip S rfl rfl (isB_ne hc211) (by decide) (fun a S => ?_)
      refine lx_skip S rfl rfl (isB_ne hc211) (by decide) (fun a S => ?_)
      refine lx_skip S rfl rfl (isB_ne hc211) (by decide) (fun a S => ?_)
      refine lx_skip S rfl rfl (isB_ne hc211) (by decide) (fun a S => ?_)
      refine lx_skip S rfl rfl (isB_ne hc211) (by decide) (fun a S => ?_)
      refine lx_skip S rfl rfl (isB_ne hc211) (by decide) (fun a S => ?_)
      refine lx_skip S rfl rfl (isB_ne hc211) (by decide) (fun a S => ?_)
      refine lx_skip S rfl rfl (isB_ne hc211) (by decide) (fun a S => ?_)
      refine lx_skip S rfl rfl (isB_ne hc211) (by decide) (fun a S => ?_)
      refine lx_skip S rfl rfl (isB_ne hc211) (by decide) (fun a S => ?_)
      refine lq (.bool false) S (q_pickF' rfl hc211 rfl) fun a S => ?_
      refine lx_nil ?_
      obtain rfl := Option.some.inj hm
      exact ⟨S.sub ⟨rfl, rfl, rfl, rfl, rfl, rfl, trivial⟩, H⟩
    ·rintro a w ⟨S, H⟩
     refine lx_nil (thenN ?_)
     refine cond_b S rfl (fun hc230 => ?_) (fun hc230 => ?_)
     ·have hm := ite_t hc230 hm
      refine region_plain ?_
      refine lq v53 S (q_move rfl) fun a S => ?_
      refine lq p0 S (q_move rfl) fun a S => ?_
      refine lq p0 S (q_nilCheck rfl ((hat33 0 _ rfl).isP)) fun a S => ?_
      refine lq (pAdd p0 3) S (q_fieldAddr' 3 28 rfl ((hat33 0 _ rfl).isP) Tryz.underlying30 rfl Tryz.sizeOf28) fun a S => ?_
      refine lx_e v36 S trivial (by decide) rfl trivial (q_load1 rfl Tryz.isAgg28 (by rintro _ rfl; exact (At.of_add (m := 3) (j := 0) ((hat33 3 _ rfl).ext H.ext)))) (fun a S => ?_)
      refine lq (.int .i64 x114) S (q_move rfl) fun a S => ?_
      obtain ⟨x231, e232, hm⟩ := bind_some hm
      obtain ⟨c233, h234, hat235⟩ := (h37).elem (idx_some e232).2
      obtain ⟨c236, c237, rfl, h238, h239⟩ := h234
      obtain rfl := h238
      obtain ⟨c240, c241, rfl, h242, h243⟩ := h239
      obtain rfl := h242
      obtain rfl := h243
      have hlt := lt_of_idx (idx_some e232).2
      refine lq (ePtr v36 (x114.toNat * 3)) S (q_indexAddr rfl (h37).isSl rfl (idx_some e232).1 hlt Tryz.underlying28 Tryz.sizeOf72) fun a S => ?_
      refine lq (pAdd (ePtr v36 (x114.toNat * 3)) 2) S (q_fieldAddr' 2 2 rfl ((hat235 0 _ rfl).isP) Tryz.underlying72 rfl Tryz.sizeOf2) fun a S => ?_
      refine lx_e (.int .i64 x231.2.2) S trivial (by decide) rfl trivial (q_load1 rfl Tryz.isAgg2 (by rintro _ rfl; exact (At.of_add (m := 2) (j := 0) ((hat235 2 _ rfl).ext H.ext)))) (fun a S => ?_)
      obtain ⟨x244, e245, hm⟩ := bind_some hm
      have hlt := lt_of_idx (idx_some e245).2
      refine lq (ePtr v53 (x231.2.2.toNat * 1)) S (q_indexAddr rfl (H.isSl 0 rfl) rfl (idx_some e245).1 hlt Tryz.underlying93 Tryz.sizeOf4) fun a S => ?_
      refine lx_storeElem (r := rBool) (us := [(.bool true)]) (off := 0) (e' := true) S trivial rfl H.putE (ev_zero rfl) rfl (idx_some e245).2 rfl Tryz.sizeOf4 (Nat.le_of_ble_eq_true rfl) (List.forall_mem_cons.2 ⟨rfl, (fun _ h => nomatch h)⟩) (Upd.full rfl (fun w G hG => by cases (show G = [] from hG); exact ⟨rfl, rfl⟩)) (fun w246 H => ⟨trivial, fun a S => ?_⟩)
      refine lx_nil ?_
      refine inBlock_norm ?_
      exact ⟨(xs113.set x231.2.2.toNat true), S.sub ⟨rfl, rfl, rfl, rfl, rfl, trivial⟩, H, hm⟩
     ·have hm := ite_f hc230 hm
      refine wp_skip ?_
      refine inBlock_norm ?_
      exact ⟨xs113, S.sub ⟨rfl, rfl, rfl, rfl, rfl, trivial⟩, H, hm⟩
  ·have hm := ite_f hc192 hm
   refine wp_exit ?_
   refine then_exit ?_
   refine then_exit ?_
   refine inBlock_exit ?_
   obtain rfl := it_brk hm hc191
   exact ⟨xs113, S.sub ⟨rfl, rfl, trivial⟩, H, rfl⟩

/-- spec.l12After -/
def spec_l12After_m (fuel : Nat) (a0 : Timpl_Lts) (a1 : (List Str)) : Option ((List Int)) :=
  (spec_l12First_m fuel a0).bind fun x52 => (iter (fun (s : (List Int) × (Int)) => (match s with | (xs85, x87) => (if (decide (x87 < (a1.length : Int))) = true then some (decide ((0 : Int) < (xs85.length : Int))) else some false).bind fun t126 => (if t126 = true then (idx a1 x87).bind fun x132 => (spec_l11Find_m fuel a0.2.2.1 x132).bind fun x139 => (spec_l12Next_m fuel a0 xs85 x139).bind fun x144 => some (.inl (x144, (W (x87 + (1 : Int))))) else some (.inr (.inl (xs85)))) : Option (((List Int) × (Int)) ⊕ (((List Int)) ⊕ ((List Int)))))) fuel (x52, (0 : Int))).bind fun res118 => ctl (β := (List Int)) (ρ := (List Int)) (τ := (List Int)) res118 (fun (xs116) => some (xs116)) (fun q => some (q))
set_option maxRecDepth 20000 in
theorem spec_l12After_ok {w0 : World} {fuel : Nat} {p0 p1 : Value} {a0 : Timpl_Lts} {a1 : (List Str)} {r : (List Int)} (h0 : Rd (rPtr Rimpl_Lts) w0 p0 a0) (h1 : Rd (rList rStr) w0 p1 a1) (hm : spec_l12After_m fuel a0 a1 = some r) :
  Calls Tryz.prog 155 #[p0, p1] w0 fun e w => ∃ (v0 : Value), e = .returned (v0) ∧ Heap w0 [oA (rList (rInt .i64)) v0 r] w := by
 unfold spec_l12After_m at hm
 have H := Heap.start w0
 obtain ⟨c31, h32, hat33⟩ := h0.ptr
 obtain ⟨c38, c39, rfl, h40, h41⟩ := h32
 obtain rfl := h40
 obtain ⟨c42, c43, rfl, h44, h45⟩ := h41
 obtain rfl := h44
 obtain ⟨c46, c47, rfl, h48, h49⟩ := h45
 obtain ⟨v34, rfl, h35⟩ := rd_list h48
 obtain ⟨v36, rfl, h37⟩ := rd_list h49
 refine enter (args := [p0, p1]) Tryz.func155 rfl 33 rfl (Nat.le_of_ble_eq_true rfl) (fun a S => ?_)
 refine wp_seq (region_plain ?_)
 refine lq (.slice none 0 0) S (q_assign rfl) fun a S => ?_
 refine lx_nil (thenN ?_)
 refine wp_seq (region_plain ?_)
 refine lq p0 S (q_move rfl) fun a S => ?_
 obtain ⟨x52, e53, hm⟩ := bind_some hm
 refine lx_call (xs := [.tmp 7]) S trivial (by decide) rfl rfl Tryz.call172 ((spec_l12First_ok (H.arg h0) e53).mono ?_)
 rintro e w50 ⟨v54, rfl, Hc51⟩
 have H := H.call1 Hc51
 refine ⟨_, rfl, trivial, fun a S => ?_⟩
 refine lq v54 S (q_assign rfl) fun a S => ?_
 refine lx_nil (thenN ?_)
 refine wp_seq (wp_seq (region_plain ?_))
 refine lq (.int .i64 (0 : Int)) S (q_assign rfl) fun a S => ?_
 refine lx_nil (thenN ?_)
 obtain ⟨res118, hit119, hk122⟩ := bind_some hm
 obtain ⟨f120, hf121, hit119⟩ := iter_name hit119
 refine block_loop (fun a w => ∃ (xs116 : List Int) (v115 : Value), Slots a 33 [(5, v115)] ∧ Heap w0 [oA (rList (rInt .i64)) v115 xs116] w ∧ res118 = .inl (xs116)) ?_ ?_
 ·rintro a w ⟨xs116, v115, S, H, rfl⟩
  have hm := ctl_inl hk122
  refine thenN ?_
  refine wp_seq (region_plain ?_)
  refine lq v115 S (q_move rfl) fun a S => ?_
  refine lq v115 S (q_assign rfl) fun a S => ?_
  refine lx_nil (thenN ?_)
  refine wp_ret ?_
  obtain rfl := Option.some.inj hm
  exact leave1 S rfl rfl ⟨v115, rfl, H⟩
 ·skip
  refine loop_ghost (fun n a w => ∃ (xs85 : List Int) (x87 : Int) (v84 : Value), Slots a 33 [(0, p0), (1, p1), (5, v84), (6, (.int .i64 x87))] ∧ Heap w0 [oA (rList (rInt .i64)) v84 xs85] w ∧ iter f120 n (xs85, x87) = some res118) _ ⟨x52, (0 : Int), v54, S.sub ⟨rfl, rfl, rfl, rfl, trivial⟩, H, hit119⟩ ?_
  rintro n a w ⟨xs85, x87, v84, S, H, hit119⟩
  obtain ⟨m123, o124, rfl, hm, hc125⟩ := iter_step hit119
  rw [hf121] at hm
  refine wp_seq (wp_seq (region_plain ?_))
  refine lq (.int .i64 x87) S (q_move rfl) fun a S => ?_
  refine lq p1 S (q_move rfl) fun a S => ?_
  refine lq (.int .i64 (a1.length : Int)) S (q_lenSl rfl (h1).isSl rfl Tryz.underlying22) fun a S => ?_
  refine lq (.bool (decide (x87 < (a1.length : Int)))) S (q_lss rfl rfl) fun a S => ?_
  refine lq (.bool (decide (x87 < (a1.length : Int)))) S (q_move rfl) fun a S => ?_
  obtain ⟨t126, e127, hm⟩ := bind_some hm
  refine lx_cut 4 (fun a w => Slots a 33 [(0, p0), (1, p1), (5, v84), (6, (.int .i64 x87)), (17, (.bool t126))] ∧ Heap w0 [oA (rList (rInt .i64)) v84 xs85] w) ?_ ?_
  ·by_cases hc128 : (decide (x87 < (a1.length : Int))) = true
   ·have hm := ite_t hc128 e127
    refine lx_q v84 S (want_b rfl rfl hc128) (by decide) (q_move rfl) (fun a S => ?_)
    refine lx_q (.int .i64 (xs85.length : Int)) S (want_b rfl rfl hc128) (by decide) (q_lenSl rfl (H.isSl 0 rfl) rfl Tryz.underlying34) (fun a S => ?_)
    refine lx_q (.bool (decide ((0 : Int) < (xs85.length : Int)))) S (want_b rfl rfl hc128) (by decide) (q_gtr rfl rfl) (fun a S => ?_)
    refine lq (.bool (decide ((0 : Int) < (xs85.length : Int)))) S (q_pickT' rfl hc128 rfl) fun a S => ?_
    refine lx_nil ?_
    obtain rfl := Option.some.inj hm
    exact ⟨S.sub ⟨rfl, rfl, rfl, rfl, rfl, trivial⟩, H⟩
   ·have hm := ite_f (eq_false_of_ne_true hc128) e127
    have hc128 : (decide (x87 < (a1.length : Int))) = false := eq_false_of_ne_true hc128
    refine lx_skip S rfl rfl (isB_ne hc128) (by decide) (fun a S => ?_)
    refine lx_skip S rfl rfl (isB_ne hc128) (by decide) (fun a S => ?_)
    refine lx_skip S rfl rfl (isB_ne hc128) (by decide) (fun a S => ?_)
    refine lq (.bool false) S (q_pickF' rfl hc128 rfl) fun a S => ?_
    refine lx_nil ?_
    obtain rfl := Option.some.inj hm
    exact ⟨S.sub ⟨rfl, rfl, rfl, rfl, rfl, trivial⟩, H⟩
  ·rintro a w ⟨S, H⟩
   refine lx_nil (thenN ?_)
   refine cond_b S rfl (fun hc129 => ?_) (fun hc129 => ?_)
   ·have hm := ite_t hc129 hm
    refine wp_skip (thenN ?_)
    refine wp_seq ?_
    refine wp_block ?_
    refine region_drawG (fun w1 => Heap w0 [] w1) (fun i => [10, 11].contains i) mixed (by kernel_rfl) (fun w131 he130 => ?_)
    have H := H.later he130
    refine ⟨H.sel [] (by decide), ?_⟩
    refine lq p0 S (q_move rfl) fun a S => ?_
    refine lq v84 S (q_move rfl) fun a S => ?_
    refine lq p0 S (q_move rfl) fun a S => ?_
    refine lq p0 S (q_nilCheck rfl ((hat33 0 _ rfl).isP)) fun a S => ?_
    refine lq (pAdd p0 2) S (q_fieldAddr' 2 22 rfl ((hat33 0 _ rfl).isP) Tryz.underlying30 rfl Tryz.sizeOf22) fun a S => ?_
    refine lq v34 S (q_load1 rfl Tryz.isAgg22 (fun w1 hC => (At.of_add (m := 2) (j := 0) ((hat33 2 _ rfl).ext hC.ext)))) fun a S => ?_
    refine lq p1 S (q_move rfl) fun a S => ?_
    refine lq (.int .i64 x87) S (q_move rfl) fun a S => ?_
    obtain ⟨x132, e133, hm⟩ := bind_some hm
    obtain ⟨c134, h135, hat136⟩ := (h1).elem (idx_some e133).2
    obtain rfl := h135
    have hlt := lt_of_idx (idx_some e133).2
    refine lq (ePtr p1 (x87.toNat * 1)) S (q_indexAddr rfl (h1).isSl rfl (idx_some e133).1 hlt Tryz.underlying22 Tryz.sizeOf9) fun a S => ?_
    refine lq (sv x132) S (q_load1 rfl Tryz.isAgg9 (fun w1 hC => ((hat136 0 _ rfl).ext hC.ext))) fun a S => ?_
    obtain ⟨x139, e140, hm⟩ := bind_some hm
    refine lx_call (xs := [.tmp 25, .tmp 29]) S trivial (by decide) rfl rfl Tryz.call106 ((spec_l11Find_ok (H.arg h35)  e140).mono ?_)
    rintro e w137 ⟨rfl, Hc138⟩
    have H := H.call0 Hc138
    refine ⟨_, rfl, H.sel [] (by decide), fun a S => ?_⟩
    obtain ⟨x144, e145, hm⟩ := bind_some hm
    refine lx_call (xs := [.tmp 20, .tmp 21, .tmp 30]) S trivial (by decide) rfl rfl Tryz.call173 ((spec_l12Next_ok (H.arg h0) (H.rdAt 0 rfl)  e145).mono ?_)
    rintro e w142 ⟨v146, rfl, Hc143⟩
    have H := H.call1 Hc143
    refine ⟨_, rfl, H.sel [] (by decide), fun a S => ?_⟩
    refine lq v146 S (q_assign rfl) fun a S => ?_
    refine lx_nil ?_
    refine inBlock_norm ?_
    refine thenN ?_
    refine region_plain ?_
    refine lq (.int .i64 x87) S (q_move rfl) fun a S => ?_
    refine lq (.int .i64 (W (x87 + (1 : Int)))) S (q_add rfl rfl) fun a S => ?_
    refine lq (.int .i64 (W (x87 + (1 : Int)))) S (q_assign rfl) fun a S => ?_
    refine lx_nil ?_
    have H : Heap w0 [oA (rList (rInt .i64)) v146 x144] w142 := H.sel [0] (by decide)
    exact ⟨m123, Nat.lt_succ_self _, x144, (W (x87 + (1 : Int))), v146, S.sub ⟨rfl, rfl, rfl, rfl, trivial⟩, H, it_cont hm hc125⟩
   ·have hm := ite_f hc129 hm
    refine wp_exit ?_
    refine then_exit ?_
    refine then_exit ?_
    refine inBlock_exit ?_
    obtain rfl := it_brk hm hc125
    exact ⟨xs85, v84, S.sub ⟨rfl, trivial⟩, H, rfl⟩

/-- spec.AfterTrace -/
def spec_AfterTrace_m (fuel : Nat) (a0 : Timpl_Lts) (a1 : (List Str)) : Option (((List Int) × Int)) :=
  (spec_l11Is_m fuel (a0.1, a0.2.1, a0.2.2.1, a0.2.2.2)).bind fun x54 => (if (!x54) = true then some (([], (1 : Int))) else (spec_l12Visible_m fuel a1).bind fun x61 => (if (!x61) = true then some (([], (2 : Int))) else (spec_l12After_m fuel (a0.1, a0.2.1, a0.2.2.1, a0.2.2.2) a1).bind fun x68 => (if ((x68.length : Int) == (0 : Int)) = true then some (([], (3 : Int))) else some ((x68, (0 : Int))))))
set_option maxRecDepth 20000 in
theorem spec_AfterTrace_ok {w0 : World} {fuel : Nat} {p0 p1 : Value} {a0 : Timpl_Lts} {a1 : (List Str)} {r : ((List Int) × Int)} (h0 : Rd Rimpl_Lts w0 p0 a0) (h1 : Rd (rList rStr) w0 p1 a1) (hm : spec_AfterTrace_m fuel a0 a1 = some r) :
  Calls Tryz.prog 122 #[p0, p1] w0 fun e w => ∃ (v0 : Value), e = .returned (.tuple #[v0, .int .i64 r.2]) ∧ Heap w0 [oA (rList (rInt .i64)) v0 r.1] w := by
 unfold spec_AfterTrace_m at hm
 have H := Heap.start w0
 obtain ⟨c31, rfl, h32⟩ := h0
 obtain ⟨c37, c38, rfl, h39, h40⟩ := h32
 obtain rfl := h39
 obtain ⟨c41, c42, rfl, h43, h44⟩ := h40
 obtain rfl := h43
 obtain ⟨c45, c46, rfl, h47, h48⟩ := h44
 obtain ⟨v33, rfl, h34⟩ := rd_list h47
 obtain ⟨v35, rfl, h36⟩ := rd_list h48
 refine enter (args := [(.agg #[(.int .i64 a0.1), (.int .i64 a0.2.1), v33, v35]), p1]) Tryz.func122 rfl 18 rfl (Nat.le_of_ble_eq_true rfl) (fun a S => ?_)
 refine wp_seq (region_plain ?_)
 refine lx_box S trivial (by decide) rfl H rfl rfl (fun b49 w50 H => ⟨trivial, fun a S => ?_⟩)
 refine lq (.slice none 0 0) S (q_assign rfl) fun a S => ?_
 refine lq (.int .i64 (0 : Int)) S (q_assign rfl) fun a S => ?_
 refine lx_nil (thenN ?_)
 refine wp_seq (wp_seq (region_plain ?_))
 obtain ⟨x54, e55, hm⟩ := bind_some hm
 refine lx_call (xs := [.tmp 2]) S trivial (by decide) rfl rfl Tryz.call70 ((spec_l11Is_ok (rdPtr_box H 0 rfl ⟨[(.int .i64 a0.1)], [(.int .i64 a0.2.1), v33, v35], rfl, rfl, ⟨[(.int .i64 a0.2.1)], [v33, v35], rfl, rfl, ⟨[v33], [v35], rfl, ((H.arg h34)).list_rd, ((H.arg h36)).list_rd⟩⟩⟩) e55).mono ?_)
 rintro e w52 ⟨rfl, Hc53⟩
 have H := H.call0 Hc53
 refine ⟨_, rfl, trivial, fun a S => ?_⟩
 refine lq (.bool (!x54)) S (q_not rfl) fun a S => ?_
 refine lx_nil (thenN ?_)
 refine cond_b S rfl (fun hc57 => ?_) (fun hc57 => ?_)
 ·have hm := ite_t hc57 hm
  refine wp_seq (region_plain ?_)
  refine lq (.slice none 0 0) S (q_assign rfl) fun a S => ?_
  refine lq (.int .i64 (1 : Int)) S (q_assign rfl) fun a S => ?_
  refine lx_nil (thenN ?_)
  refine wp_ret (then_ret ?_)
  obtain rfl := Option.some.inj hm
  have H : Heap w0 [oA (rList (rInt .i64)) (.slice none 0 0) ([] : List Int), bA b49 [(.int .i64 a0.1), (.int .i64 a0.2.1), v33, v35] 30] w52 := H.nilList (rInt .i64)
  have H : Heap w0 [oA (rList (rInt .i64)) (.slice none 0 0) ([] : List Int)] w52 := H.sel [0] (by decide)
  exact leave2 S rfl rfl rfl ⟨(.slice none 0 0), rfl, H⟩
 ·have hm := ite_f hc57 hm
  refine wp_skip (thenN ?_)
  refine wp_seq (wp_seq (region_plain ?_))
  refine lq p1 S (q_move rfl) fun a S => ?_
  obtain ⟨x61, e62, hm⟩ := bind_some hm
  refine lx_call (xs := [.tmp 9]) S trivial (by decide) rfl rfl Tryz.call154 ((spec_l12Visible_ok (H.arg h1) e62).mono ?_)
  rintro e w59 ⟨rfl, Hc60⟩
  have H := H.call0 Hc60
  refine ⟨_, rfl, trivial, fun a S => ?_⟩
  refine lq (.bool (!x61)) S (q_not rfl) fun a S => ?_
  refine lx_nil (thenN ?_)
  refine cond_b S rfl (fun hc64 => ?_) (fun hc64 => ?_)
  ·have hm := ite_t hc64 hm
   refine wp_seq (region_plain ?_)
   refine lq (.slice none 0 0) S (q_assign rfl) fun a S => ?_
   refine lq (.int .i64 (2 : Int)) S (q_assign rfl) fun a S => ?_
   refine lx_nil (thenN ?_)
   refine wp_ret (then_ret ?_)
   obtain rfl := Option.some.inj hm
   have H : Heap w0 [oA (rList (rInt .i64)) (.slice none 0 0) ([] : List Int), bA b49 [(.int .i64 a0.1), (.int .i64 a0.2.1), v33, v35] 30] w59 := H.nilList (rInt .i64)
   have H : Heap w0 [oA (rList (rInt .i64)) (.slice none 0 0) ([] : List Int)] w59 := H.sel [0] (by decide)
   exact leave2 S rfl rfl rfl ⟨(.slice none 0 0), rfl, H⟩
  ·have hm := ite_f hc64 hm
   refine wp_skip (thenN ?_)
   refine wp_seq (region_plain ?_)
   refine lq p1 S (q_move rfl) fun a S => ?_
   obtain ⟨x68, e69, hm⟩ := bind_some hm
   refine lx_call (xs := [.tmp 2, .tmp 12]) S trivial (by decide) rfl rfl Tryz.call155 ((spec_l12After_ok (rdPtr_box H 0 rfl ⟨[(.int .i64 a0.1)], [(.int .i64 a0.2.1), v33, v35], rfl, rfl, ⟨[(.int .i64 a0.2.1)], [v33, v35], rfl, rfl, ⟨[v33], [v35], rfl, ((H.arg h34)).list_rd, ((H.arg h36)).list_rd⟩⟩⟩) (H.arg h1) e69).mono ?_)
   rintro e w66 ⟨v70, rfl, Hc67⟩
   have H := H.call1 Hc67
   refine ⟨_, rfl, trivial, fun a S => ?_⟩
   refine lq v70 S (q_assign rfl) fun a S => ?_
   refine lx_nil (thenN ?_)
   refine wp_seq (wp_seq (region_plain ?_))
   refine lq v70 S (q_move rfl) fun a S => ?_
   refine lq (.int .i64 (x68.length : Int)) S (q_lenSl rfl (H.isSl 0 rfl) rfl Tryz.underlying34) fun a S => ?_
   refine lq (.bool ((x68.length : Int) == (0 : Int))) S (q_eql rfl rfl) fun a S => ?_
   refine lx_nil (thenN ?_)
   refine cond_b S rfl (fun hc73 => ?_) (fun hc73 => ?_)
   ·have hm := ite_t hc73 hm
    refine wp_seq (region_plain ?_)
    refine lq (.slice none 0 0) S (q_assign rfl) fun a S => ?_
    refine lq (.int .i64 (3 : Int)) S (q_assign rfl) fun a S => ?_
    refine lx_nil (thenN ?_)
    refine wp_ret (then_ret ?_)
    obtain rfl := Option.some.inj hm
    have H : Heap w0 [oA (rList (rInt .i64)) (.slice none 0 0) ([] : List Int), oA (rList (rInt .i64)) v70 x68, bA b49 [(.int .i64 a0.1), (.int .i64 a0.2.1), v33, v35] 30] w66 := H.nilList (rInt .i64)
    have H : Heap w0 [oA (rList (rInt .i64)) (.slice none 0 0) ([] : List Int)] w66 := H.sel [0] (by decide)
    exact leave2 S rfl rfl rfl ⟨(.slice none 0 0), rfl, H⟩
   ·have hm := ite_f hc73 hm
    refine wp_skip (thenN ?_)
    refine wp_seq (region_plain ?_)
    refine lq v70 S (q_move rfl) fun a S => ?_
    refine lq v70 S (q_assign rfl) fun a S => ?_
    refine lq (.int .i64 (0 : Int)) S (q_assign rfl) fun a S => ?_
    refine lx_nil (thenN ?_)
    refine wp_ret ?_
    obtain rfl := Option.some.inj hm
    have H : Heap w0 [oA (rList (rInt .i64)) v70 x68] w66 := H.sel [0] (by decide)
    exact leave2 S rfl rfl rfl ⟨v70, rfl, H⟩

/-- spec.IsCompletedTrace -/
def spec_IsCompletedTrace_m (fuel : Nat) (a0 : Timpl_Lts) (a1 : (List Str)) : Option ((Bool × Int)) :=
  (spec_AfterTrace_m fuel (a0.1, a0.2.1, a0.2.2.1, a0.2.2.2) a1).bind fun x54 => (if (x54.2 != (0 : Int)) = true then some ((false, x54.2)) else (iter (fun (s : (Int)) => (match s with | (x75) => (if (decide (x75 < (x54.1.length : Int))) = true then (idx x54.1 x75).bind fun x100 => (spec_l11Out_m fuel (a0.1, a0.2.1, a0.2.2.1, a0.2.2.2) x100).bind fun x107 => (if ((x107.length : Int) == (0 : Int)) = true then some (.inr (.inr (true, (0 : Int)))) else some (.inl ((W (x75 + (1 : Int)))))) else some (.inr (.inl ()))) : Option (((Int)) ⊕ ((Unit) ⊕ ((Bool × Int)))))) fuel ((0 : Int))).bind fun res91 => ctl (β := Unit) (ρ := (Bool × Int)) (τ := (Bool × Int)) res91 (fun _ => some ((false, (0 : Int)))) (fun q => some (q)))
set_option maxRecDepth 20000 in
theorem spec_IsCompletedTrace_ok {w0 : World} {fuel : Nat} {p0 p1 : Value} {a0 : Timpl_Lts} {a1 : (List Str)} {r : (Bool × Int)} (h0 : Rd Rimpl_Lts w0 p0 a0) (h1 : Rd (rList rStr) w0 p1 a1) (hm : spec_IsCompletedTrace_m fuel a0 a1 = some r) :
  Calls Tryz.prog 67 #[p0, p1] w0 fun e w => e = .returned (.tuple #[.bool r.1, .int .i64 r.2]) ∧ Heap w0 [] w := by
 unfold spec_IsCompletedTrace_m at hm
 have H := Heap.start w0
 obtain ⟨c31, rfl, h32⟩ := h0
 obtain ⟨c37, c38, rfl, h39, h40⟩ := h32
 obtain rfl := h39
 obtain ⟨c41, c42, rfl, h43, h44⟩ := h40
 obtain rfl := h43
 obtain ⟨c45, c46, rfl, h47, h48⟩ := h44
 obtain ⟨v33, rfl, h34⟩ := rd_list h47
 obtain ⟨v35, rfl, h36⟩ := rd_list h48
 refine enter (args := [(.agg #[(.int .i64 a0.1), (.int .i64 a0.2.1), v33, v35]), p1]) Tryz.func67 rfl 31 rfl (Nat.le_of_ble_eq_true rfl) (fun a S => ?_)
 refine wp_seq (region_plain ?_)
 refine lx_box S trivial (by decide) rfl H rfl rfl (fun b49 w50 H => ⟨trivial, fun a S => ?_⟩)
 refine lq (.bool false) S (q_assign rfl) fun a S => ?_
 refine lq (.int .i64 (0 : Int)) S (q_assign rfl) fun a S => ?_
 refine lx_nil (thenN ?_)
 refine wp_seq (region_plain ?_)
 refine lx_e (.agg #[(.int .i64 a0.1), (.int .i64 a0.2.1), v33, v35]) S trivial (by decide) rfl trivial (q_loadA (cs := [(.int .i64 a0.1), (.int .i64 a0.2.1), v33, v35]) rfl (isP_bp _) Tryz.isAgg30 Tryz.sizeOf30 (by rintro _ rfl; exact (fun j u hu => boxAt (i := 0) H rfl hu))) (fun a S => ?_)
 refine lq p1 S (q_move rfl) fun a S => ?_
 obtain ⟨x54, e55, hm⟩ := bind_some hm
 refine lx_call (xs := [.tmp 10, .tmp 11]) S trivial (by decide) rfl rfl Tryz.call122 ((spec_AfterTrace_ok ⟨[(.int .i64 a0.1), (.int .i64 a0.2.1), v33, v35], rfl, ⟨[(.int .i64 a0.1)], [(.int .i64 a0.2.1), v33, v35], rfl, rfl, ⟨[(.int .i64 a0.2.1)], [v33, v35], rfl, rfl, ⟨[v33], [v35], rfl, ((H.arg h34)).list_rd, ((H.arg h36)).list_rd⟩⟩⟩⟩ (H.arg h1) e55).mono ?_)
 rintro e w52 ⟨v56, rfl, Hc53⟩
 have H := H.call1 Hc53
 refine ⟨_, rfl, trivial, fun a S => ?_⟩
 refine lq (.tuple #[v56, (.int .i64 x54.2)]) S (q_move rfl) fun a S => ?_
 refine lq v56 S (q_extract rfl rfl) fun a S => ?_
 refine lq (.int .i64 x54.2) S (q_extract rfl rfl) fun a S => ?_
 refine lq v56 S (q_assign rfl) fun a S => ?_
 refine lq (.int .i64 x54.2) S (q_assign rfl) fun a S => ?_
 refine lx_nil (thenN ?_)
 refine wp_seq (wp_seq (region_plain ?_))
 refine lq (.int .i64 x54.2) S (q_move rfl) fun a S => ?_
 refine lq (.bool (x54.2 != (0 : Int))) S (q_neq rfl rfl) fun a S => ?_
 refine lx_nil (thenN ?_)
 refine cond_b S rfl (fun hc59 => ?_) (fun hc59 => ?_)
 ·have hm := ite_t hc59 hm
  refine wp_seq (region_plain ?_)
  refine lq (.int .i64 x54.2) S (q_move rfl) fun a S => ?_
  refine lq (.bool false) S (q_assign rfl) fun a S => ?_
  refine lq (.int .i64 x54.2) S (q_assign rfl) fun a S => ?_
  refine lx_nil (thenN ?_)
  refine wp_ret (then_ret ?_)
  obtain rfl := Option.some.inj hm
  have H : Heap w0 [] w52 := H.sel [] (by decide)
  exact leave2 S rfl rfl rfl ⟨rfl, H⟩
 ·have hm := ite_f hc59 hm
  refine wp_skip (thenN ?_)
  refine wp_seq (wp_seq (region_plain ?_))
  refine lq (.int .i64 (0 : Int)) S (q_assign rfl) fun a S => ?_
  refine lx_nil (thenN ?_)
  obtain ⟨res91, hit92, hk95⟩ := bind_some hm
  obtain ⟨f93, hf94, hit92⟩ := iter_name hit92
  refine block_loop (fun a w => Slots a 31 [] ∧ Heap w0 [] w ∧ res91 = .inl ()) ?_ ?_
  ·rintro a w ⟨S, H, rfl⟩
   have hm := ctl_inl hk95
   refine thenN ?_
   refine wp_seq (region_plain ?_)
   refine lq (.bool false) S (q_assign rfl) fun a S => ?_
   refine lq (.int .i64 (0 : Int)) S (q_assign rfl) fun a S => ?_
   refine lx_nil (thenN ?_)
   refine wp_ret ?_
   obtain rfl := Option.some.inj hm
   exact leave2 S rfl rfl rfl ⟨rfl, H⟩
  ·skip
   have H : Heap w0 [bA b49 [(.int .i64 a0.1), (.int .i64 a0.2.1), v33, v35] 30, oA (rList (rInt .i64)) v56 x54.1] w52 := H.front 1 rfl
   refine loop_ghost (fun n a w => ∃ (x75 : Int), Slots a 31 [(2, (bp b49)), (6, v56), (8, (.int .i64 x75))] ∧ Heap w0 [bA b49 [(.int .i64 a0.1), (.int .i64 a0.2.1), v33, v35] 30, oA (rList (rInt .i64)) v56 x54.1] w ∧ iter f93 n (x75) = some res91) _ ⟨(0 : Int), S.sub ⟨rfl, rfl, rfl, trivial⟩, H, hit92⟩ ?_
   rintro n a w ⟨x75, S, H, hit92⟩
   obtain ⟨m96, o97, rfl, hm, hc98⟩ := iter_step hit92
   rw [hf94] at hm
   refine wp_seq (wp_seq (region_plain ?_))
   refine lq (.int .i64 x75) S (q_move rfl) fun a S => ?_
   refine lq v56 S (q_move rfl) fun a S => ?_
   refine lq (.int .i64 (x54.1.length : Int)) S (q_lenSl rfl (H.isSl 1 rfl) rfl Tryz.underlying34) fun a S => ?_
   refine lq (.bool (decide (x75 < (x54.1.length : Int)))) S (q_lss rfl rfl) fun a S => ?_
   refine lx_nil (thenN ?_)
   refine cond_b S rfl (fun hc99 => ?_) (fun hc99 => ?_)
   ·have hm := ite_t hc99 hm
    refine wp_skip (thenN ?_)
    refine wp_seq ?_
    refine wp_block ?_
    refine wp_seq (region_plain ?_)
    refine lq v56 S (q_move rfl) fun a S => ?_
    refine lq (.int .i64 x75) S (q_move rfl) fun a S => ?_
    obtain ⟨x100, e101, hm⟩ := bind_some hm
    have hlt := lt_of_idx (idx_some e101).2
    refine lq (ePtr v56 (x75.toNat * 1)) S (q_indexAddr rfl (H.isSl 1 rfl) rfl (idx_some e101).1 hlt Tryz.underlying34 Tryz.sizeOf2) fun a S => ?_
    obtain ⟨c102, h103, hat104⟩ := (H.rdAt 1 rfl).elem (idx_some e101).2
    obtain rfl := h103
    refine lx_e (.int .i64 x100) S trivial (by decide) rfl trivial (q_load1 rfl Tryz.isAgg2 (by rintro _ rfl; exact (hat104 0 _ rfl))) (fun a S => ?_)
    obtain ⟨x107, e108, hm⟩ := bind_some hm
    refine lx_call (xs := [.tmp 2, .tmp 27]) S trivial (by decide) rfl rfl Tryz.call81 ((spec_l11Out_ok (rdPtr_box H 0 rfl ⟨[(.int .i64 a0.1)], [(.int .i64 a0.2.1), v33, v35], rfl, rfl, ⟨[(.int .i64 a0.2.1)], [v33, v35], rfl, rfl, ⟨[v33], [v35], rfl, ((H.arg h34)).list_rd, ((H.arg h36)).list_rd⟩⟩⟩)  e108).mono ?_)
    rintro e w105 ⟨v109, rfl, Hc106⟩
    have H := H.call1 Hc106
    refine ⟨_, rfl, trivial, fun a S => ?_⟩
    refine lq (.int .i64 (x107.length : Int)) S (q_lenSl rfl (H.isSl 0 rfl) rfl Tryz.underlying28) fun a S => ?_
    refine lq (.bool ((x107.length : Int) == (0 : Int))) S (q_eql rfl rfl) fun a S => ?_
    refine lx_nil (thenN ?_)
    refine cond_b S rfl (fun hc112 => ?_) (fun hc112 => ?_)
    ·have hm := ite_t hc112 hm
     refine wp_seq (region_plain ?_)
     refine lq (.bool true) S (q_assign rfl) fun a S => ?_
     refine lq (.int .i64 (0 : Int)) S (q_assign rfl) fun a S => ?_
     refine lx_nil (thenN ?_)
     refine wp_ret (inBlock_ret ?_)
     refine then_ret ?_
     refine then_ret ?_
     refine inBlock_ret ?_
     refine then_ret ?_
     refine then_ret ?_
     obtain rfl := it_brk hm hc98
     have hm := ctl_inr hk95
     obtain rfl := Option.some.inj hm
     have H : Heap w0 [] w105 := H.sel [] (by decide)
     exact leave2 S rfl rfl rfl ⟨rfl, H⟩
    ·have hm := ite_f hc112 hm
     refine wp_skip ?_
     refine inBlock_norm ?_
     refine thenN ?_
     refine region_plain ?_
     refine lq (.int .i64 x75) S (q_move rfl) fun a S => ?_
     refine lq (.int .i64 (W (x75 + (1 : Int)))) S (q_add rfl rfl) fun a S => ?_
     refine lq (.int .i64 (W (x75 + (1 : Int)))) S (q_assign rfl) fun a S => ?_
     refine lx_nil ?_
     have H : Heap w0 [bA b49 [(.int .i64 a0.1), (.int .i64 a0.2.1), v33, v35] 30, oA (rList (rInt .i64)) v56 x54.1] w105 := H.sel [1, 2] (by decide)
     exact ⟨m96, Nat.lt_succ_self _, (W (x75 + (1 : Int))), S.sub ⟨rfl, rfl, rfl, trivial⟩, H, it_cont hm hc98⟩
   ·have hm := ite_f hc99 hm
    refine wp_exit ?_
    refine then_exit ?_
    refine then_exit ?_
    refine inBlock_exit ?_
    obtain rfl := it_brk hm hc98
    have H : Heap w0 [] w := H.sel [] (by decide)
    exact ⟨S.sub trivial, H, rfl⟩

/-- slices.IndexFunc[[]string,string] -/
def slices_IndexFunc__string_string_m (fuel : Nat) (a0 : (List Str)) (a1 : (Str → Option Bool)) : Option (Int) :=
  (iter (fun (s : (Int)) => (match s with | (x46) => (if (decide (x46 < (a0.length : Int))) = true then (idx a0 x46).bind fun x71 => (a1 x71).bind fun x80 => (if x80 = true then some (.inr (.inr x46)) else some (.inl ((W (x46 + (1 : Int)))))) else some (.inr (.inl ()))) : Option (((Int)) ⊕ ((Unit) ⊕ (Int))))) fuel ((0 : Int))).bind fun res62 => ctl (β := Unit) (ρ := Int) (τ := Int) res62 (fun _ => some ((-1 : Int))) (fun q => some (q))
set_option maxRecDepth 20000 in
theorem slices_IndexFunc__string_string_ok {w0 : World} {fuel : Nat} {p0 : Value} {a0 : (List Str)} {a1 : (Str → Option Bool)} {f1 : Nat} {fs1 cp1 : List Value} {r : Int} (h0 : Rd (rList rStr) w0 p0 a0) (hcf1 : ∀ args w, (callFunc f1 args).run Tryz.prog w = .ok (.enter f1 args) w) (hf1 : ∀ {w : World} {x0_ : Str} {y : Bool}, Ext w0 w → a1 x0_ = some y → Calls Tryz.prog f1 (fs1 ++ ([sv x0_] : List Value) ++ cp1).toArray w fun e w' => e = .returned (.bool y) ∧ Heap w [] w') (hm : slices_IndexFunc__string_string_m fuel a0 a1 = some r) :
  Calls Tryz.prog 230 #[p0, .func (.func f1) fs1.toArray cp1.toArray] w0 fun e w => e = .returned (.int .i64 r) ∧ Heap w0 [] w := by
 unfold slices_IndexFunc__string_string_m at hm
 have H := Heap.start w0
 refine enter (args := [p0, .func (.func f1) fs1.toArray cp1.toArray]) Tryz.func230 rfl 19 rfl (Nat.le_of_ble_eq_true rfl) (fun a S => ?_)
 refine wp_seq (region_plain ?_)
 refine lq (.int .i64 (0 : Int)) S (q_assign rfl) fun a S => ?_
 refine lx_nil (thenN ?_)
 refine wp_seq (wp_seq (region_plain ?_))
 refine lq p0 S (q_move rfl) fun a S => ?_
 refine lq (.int .i64 (a0.length : Int)) S (q_lenSl rfl (h0).isSl rfl Tryz.underlying22) fun a S => ?_
 refine lq (.int .i64 (0 : Int)) S (q_move rfl) fun a S => ?_
 refine lx_nil (thenN ?_)
 obtain ⟨res62, hit63, hk66⟩ := bind_some hm
 obtain ⟨f64, hf65, hit63⟩ := iter_name hit63
 refine block_loop (fun a w => Slots a 19 [] ∧ Heap w0 [] w ∧ res62 = .inl ()) ?_ ?_
 ·rintro a w ⟨S, H, rfl⟩
  have hm := ctl_inl hk66
  refine thenN ?_
  refine wp_seq (region_plain ?_)
  refine lq (.int .i64 (-1 : Int)) S (q_assign rfl) fun a S => ?_
  refine lx_nil (thenN ?_)
  refine wp_ret ?_
  obtain rfl := Option.some.inj hm
  exact leave1 S rfl rfl ⟨rfl, H⟩
 ·skip
  refine loop_ghost (fun n a w => ∃ (x46 : Int), Slots a 19 [(0, p0), (1, (.func (.func f1) fs1.toArray cp1.toArray)), (7, (.int .i64 (a0.length : Int))), (8, (.int .i64 x46))] ∧ Heap w0 [] w ∧ iter f64 n (x46) = some res62) _ ⟨(0 : Int), S.sub ⟨rfl, rfl, rfl, rfl, trivial⟩, H, hit63⟩ ?_
  rintro n a w ⟨x46, S, H, hit63⟩
  obtain ⟨m67, o68, rfl, hm, hc69⟩ := iter_step hit63
  rw [hf65] at hm
  refine wp_seq (region_plain ?_)
  refine lq (.bool (decide (x46 < (a0.length : Int)))) S (q_lss rfl rfl) fun a S => ?_
  refine lx_nil (thenN ?_)
  refine wp_seq ?_
  refine cond_b S rfl (fun hc70 => ?_) (fun hc70 => ?_)
  ·have hm := ite_t hc70 hm
   refine wp_skip (thenN ?_)
   refine wp_seq ?_
   refine wp_block ?_
   refine wp_seq (region_plain ?_)
   refine lq (.int .i64 x46) S (q_move rfl) fun a S => ?_
   refine lq (.int .i64 x46) S (q_assign rfl) fun a S => ?_
   refine lx_nil (thenN ?_)
   refine wp_seq (region_plain ?_)
   refine lq (.func (.func f1) fs1.toArray cp1.toArray) S (q_move rfl) fun a S => ?_
   refine lq p0 S (q_move rfl) fun a S => ?_
   refine lq (.int .i64 x46) S (q_move rfl) fun a S => ?_
   obtain ⟨x71, e72, hm⟩ := bind_some hm
   obtain ⟨c73, h74, hat75⟩ := (h0).elem (idx_some e72).2
   obtain rfl := h74
   have hlt := lt_of_idx (idx_some e72).2
   refine lq (ePtr p0 (x46.toNat * 1)) S (q_indexAddr rfl (h0).isSl rfl (idx_some e72).1 hlt Tryz.underlying22 Tryz.sizeOf9) fun a S => ?_
   refine lx_e (sv x71) S trivial (by decide) rfl trivial (q_load1 rfl Tryz.isAgg9 (by rintro _ rfl; exact ((hat75 0 _ rfl).ext H.ext))) (fun a S => ?_)
   obtain ⟨x80, e81, hm⟩ := bind_some hm
   refine lx_callV (f := f1) (first := fs1) (cap := cp1) (xs := [.tmp 15]) S trivial (by decide) rfl rfl rfl hcf1 ((hf1 H.ext  e81).mono ?_)
   rintro e w78 ⟨rfl, Hc79⟩
   have H := H.call0 Hc79
   refine ⟨_, rfl, trivial, fun a S => ?_⟩
   refine lx_nil (thenN ?_)
   refine cond_b S rfl (fun hc83 => ?_) (fun hc83 => ?_)
   ·have hm := ite_t hc83 hm
    refine wp_seq (region_plain ?_)
    refine lq (.int .i64 x46) S (q_move rfl) fun a S => ?_
    refine lq (.int .i64 x46) S (q_assign rfl) fun a S => ?_
    refine lx_nil (thenN ?_)
    refine wp_ret (inBlock_ret ?_)
    refine then_ret ?_
    refine then_ret ?_
    refine inBlock_ret ?_
    refine then_ret ?_
    refine then_ret ?_
    obtain rfl := it_brk hm hc69
    have hm := ctl_inr hk66
    obtain rfl := Option.some.inj hm
    exact leave1 S rfl rfl ⟨rfl, H⟩
   ·have hm := ite_f hc83 hm
    refine wp_skip ?_
    refine inBlock_norm ?_
    refine thenN ?_
    refine region_plain ?_
    refine lq (.int .i64 (W (x46 + (1 : Int)))) S (q_add rfl rfl) fun a S => ?_
    refine lq (.int .i64 (W (x46 + (1 : Int)))) S (q_move rfl) fun a S => ?_
    refine lx_nil ?_
    exact ⟨m67, Nat.lt_succ_self _, (W (x46 + (1 : Int))), S.sub ⟨rfl, rfl, rfl, rfl, trivial⟩, H, it_cont hm hc69⟩
  ·have hm := ite_f hc70 hm
   refine wp_exit ?_
   refine then_exit ?_
   refine then_exit ?_
   refine inBlock_exit ?_
   obtain rfl := it_brk hm hc69
   exact ⟨S.sub trivial, H, rfl⟩

/-- slices.ContainsFunc[[]string,string] -/
def slices_ContainsFunc__string_string_m (fuel : Nat) (a0 : (List Str)) (a1 : (Str → Option Bool)) : Option (Bool) :=
  (slices_IndexFunc__string_string_m fuel a0 a1).bind fun x33 => some ((decide ((0 : Int) ≤ x33)))
set_option maxRecDepth 20000 in
theorem slices_ContainsFunc__string_string_ok {w0 : World} {fuel : Nat} {p0 : Value} {a0 : (List Str)} {a1 : (Str → Option Bool)} {f1 : Nat} {fs1 cp1 : List Value} {r : Bool} (h0 : Rd (rList rStr) w0 p0 a0) (hcf1 : ∀ args w, (callFunc f1 args).run Tryz.prog w = .ok (.enter f1 args) w) (hf1 : ∀ {w : World} {x0_ : Str} {y : Bool}, Ext w0 w → a1 x0_ = some y → Calls Tryz.prog f1 (fs1 ++ ([sv x0_] : List Value) ++ cp1).toArray w fun e w' => e = .returned (.bool y) ∧ Heap w [] w') (hm : slices_ContainsFunc__string_string_m fuel a0 a1 = some r) :
  Calls Tryz.prog 204 #[p0, .func (.func f1) fs1.toArray cp1.toArray] w0 fun e w => e = .returned (.bool r) ∧ Heap w0 [] w := by
 unfold slices_ContainsFunc__string_string_m at hm
 have H := Heap.start w0
 refine enter (args := [p0, .func (.func f1) fs1.toArray cp1.toArray]) Tryz.func204 rfl 9 rfl (Nat.le_of_ble_eq_true rfl) (fun a S => ?_)
 refine wp_seq (region_plain ?_)
 refine lq (.bool false) S (q_assign rfl) fun a S => ?_
 refine lx_nil (thenN ?_)
 refine wp_seq (region_plain ?_)
 refine lq p0 S (q_move rfl) fun a S => ?_
 refine lq (.func (.func f1) fs1.toArray cp1.toArray) S (q_move rfl) fun a S => ?_
 obtain ⟨x33, e34, hm⟩ := bind_some hm
 refine lx_call (xs := [.tmp 5, .tmp 6]) S trivial (by decide) rfl rfl Tryz.call230 ((slices_IndexFunc__string_string_ok (f1 := f1) (fs1 := fs1) (cp1 := cp1) (a1 := a1) (H.arg h0) hcf1 (fun he  hm => hf1 (H.ext.trans he)  hm) e34).mono ?_)
 rintro e w31 ⟨rfl, Hc32⟩
 have H := H.call0 Hc32
 refine ⟨_, rfl, trivial, fun a S => ?_⟩
 refine lq (.bool (decide ((0 : Int) ≤ x33))) S (q_geq rfl rfl) fun a S => ?_
 refine lq (.bool (decide ((0 : Int) ≤ x33))) S (q_assign rfl) fun a S => ?_
 refine lx_nil (thenN ?_)
 refine wp_ret ?_
 obtain rfl := Option.some.inj hm
 exact leave1 S rfl rfl ⟨rfl, H⟩

/-- impl.areLabels$1 -/
def impl_areLabels_1_m (fuel : Nat) (a0 : Str) : Option (Bool) :=
  (impl_IsLabel_m fuel a0).bind fun x33 => some ((!x33))
set_option maxRecDepth 20000 in
theorem impl_areLabels_1_ok {w0 : World} {fuel : Nat} {a0 : Str} {r : Bool} (hG : Glob Tryz.prog w0) (hm : impl_areLabels_1_m fuel a0 = some r) :
  Calls Tryz.prog 205 #[sv a0] w0 fun e w => e = .returned (.bool r) ∧ Heap w0 [] w := by
 unfold impl_areLabels_1_m at hm
 have H := Heap.start w0
 refine enter (args := [sv a0]) Tryz.func205 rfl 6 rfl (Nat.le_of_ble_eq_true rfl) (fun a S => ?_)
 refine wp_seq (region_plain ?_)
 refine lq (.bool false) S (q_assign rfl) fun a S => ?_
 refine lx_nil (thenN ?_)
 refine wp_seq (region_plain ?_)
 refine lq (sv a0) S (q_move rfl) fun a S => ?_
 obtain ⟨x33, e34, hm⟩ := bind_some hm
 refine lx_call (xs := [.tmp 3]) S trivial (by decide) rfl rfl Tryz.call73 ((impl_IsLabel_ok (hG.ext H.ext)  e34).mono ?_)
 rintro e w31 ⟨rfl, Hc32⟩
 have H := H.call0 Hc32
 refine ⟨_, rfl, trivial, fun a S => ?_⟩
 refine lq (.bool (!x33)) S (q_not rfl) fun a S => ?_
 refine lq (.bool (!x33)) S (q_assign rfl) fun a S => ?_
 refine lx_nil (thenN ?_)
 refine wp_ret ?_
 obtain rfl := Option.some.inj hm
 exact leave1 S rfl rfl ⟨rfl, H⟩

/-- impl.areLabels -/
def impl_areLabels_m (fuel : Nat) (a0 : (List Str)) : Option (Bool) :=
  (slices_ContainsFunc__string_string_m fuel a0 (fun (z0 : Str) => impl_areLabels_1_m fuel z0)).bind fun x33 => some ((!x33))
set_option maxRecDepth 20000 in
theorem impl_areLabels_ok {w0 : World} {fuel : Nat} {p0 : Value} {a0 : (List Str)} {r : Bool} (hG : Glob Tryz.prog w0) (h0 : Rd (rList rStr) w0 p0 a0) (hm : impl_areLabels_m fuel a0 = some r) :
  Calls Tryz.prog 174 #[p0] w0 fun e w => e = .returned (.bool r) ∧ Heap w0 [] w := by
 unfold impl_areLabels_m at hm
 have H := Heap.start w0
 refine enter (args := [p0]) Tryz.func174 rfl 6 rfl (Nat.le_of_ble_eq_true rfl) (fun a S => ?_)
 refine wp_seq (region_plain ?_)
 refine lq (.bool false) S (q_assign rfl) fun a S => ?_
 refine lx_nil (thenN ?_)
 refine wp_seq (region_plain ?_)
 refine lq p0 S (q_move rfl) fun a S => ?_
 obtain ⟨x33, e34, hm⟩ := bind_some hm
 refine lx_call (xs := [.tmp 3, .func 205]) S trivial (by decide) rfl rfl Tryz.call204 ((slices_ContainsFunc__string_string_ok (f1 := 205) (fs1 := ([] : List Value)) (cp1 := ([] : List Value)) (a1 := (fun (z0 : Str) => impl_areLabels_1_m fuel z0)) (H.arg h0) Tryz.call205 (fun he  hm => impl_areLabels_1_ok (hG.ext (H.ext.trans he))   hm) e34).mono ?_)
 rintro e w31 ⟨rfl, Hc32⟩
 have H := H.call0 Hc32
 refine ⟨_, rfl, trivial, fun a S => ?_⟩
 refine lq (.bool (!x33)) S (q_not rfl) fun a S => ?_
 refine lq (.bool (!x33)) S (q_assign rfl) fun a S => ?_
 refine lx_nil (thenN ?_)
 refine wp_ret ?_
 obtain rfl := Option.some.inj hm
 exact leave1 S rfl rfl ⟨rfl, H⟩

/-- impl.areVisible -/
def impl_areVisible_m (fuel : Nat) (a0 : (List Str)) : Option (Bool) :=
  (impl_areLabels_m fuel a0).bind fun x33 => (if x33 = true then (slices_Contains__string_string_m fuel a0 ([116, 97, 117] : Str)).bind fun x41 => some (!x41) else some false).bind fun t36 => some (t36)
set_option maxRecDepth 20000 in
theorem impl_areVisible_ok {w0 : World} {fuel : Nat} {p0 : Value} {a0 : (List Str)} {r : Bool} (hG : Glob Tryz.prog w0) (h0 : Rd (rList rStr) w0 p0 a0) (hm : impl_areVisible_m fuel a0 = some r) :
  Calls Tryz.prog 156 #[p0] w0 fun e w => e = .returned (.bool r) ∧ Heap w0 [] w := by
 unfold impl_areVisible_m at hm
 have H := Heap.start w0
 refine enter (args := [p0]) Tryz.func156 rfl 10 rfl (Nat.le_of_ble_eq_true rfl) (fun a S => ?_)
 refine wp_seq (region_plain ?_)
 refine lq (.bool false) S (q_assign rfl) fun a S => ?_
 refine lx_nil (thenN ?_)
 refine wp_seq (region_plain ?_)
 refine lq p0 S (q_move rfl) fun a S => ?_
 obtain ⟨x33, e34, hm⟩ := bind_some hm
 refine lx_call (xs := [.tmp 3]) S trivial (by decide) rfl rfl Tryz.call174 ((impl_areLabels_ok (hG.ext H.ext) (H.arg h0) e34).mono ?_)
 rintro e w31 ⟨rfl, Hc32⟩
 have H := H.call0 Hc32
 refine ⟨_, rfl, trivial, fun a S => ?_⟩
 refine lq (.bool x33) S (q_move rfl) fun a S => ?_
 obtain ⟨t36, e37, hm⟩ := bind_some hm
 refine lx_cut 4 (fun a w => Slots a 10 [(9, (.bool t36))] ∧ Heap w0 [] w) ?_ ?_
 ·by_cases hc38 : x33 = true
  ·have hm := ite_t hc38 e37
   refine lx_q p0 S (want_b rfl rfl hc38) (by decide) (q_move rfl) (fun a S => ?_)
   obtain ⟨x41, e42, hm⟩ := bind_some hm
   refine lx_call (xs := [.tmp 6, .const (sv [116, 97, 117])]) S (want_b rfl rfl hc38) (by decide) rfl rfl Tryz.call108 ((slices_Contains__string_string_ok (H.arg h0)  e42).mono ?_)
   rintro e w39 ⟨rfl, Hc40⟩
   have H := H.call0 Hc40
   refine ⟨_, rfl, trivial, fun a S => ?_⟩
   refine lx_q (.bool (!x41)) S (want_b rfl rfl hc38) (by decide) (q_not rfl) (fun a S => ?_)
   refine lq (.bool (!x41)) S (q_pickT' rfl hc38 rfl) fun a S => ?_
   refine lx_nil ?_
   obtain rfl := Option.some.inj hm
   exact ⟨S.sub ⟨rfl, trivial⟩, H⟩
  ·have hm := ite_f (eq_false_of_ne_true hc38) e37
   have hc38 : x33 = false := eq_false_of_ne_true hc38
   refine lx_skip S rfl rfl (isB_ne hc38) (by decide) (fun a S => ?_)
   refine lx_skip S rfl rfl (isB_ne hc38) (by decide) (fun a S => ?_)
   refine lx_skip S rfl rfl (isB_ne hc38) (by decide) (fun a S => ?_)
   refine lq (.bool false) S (q_pickF' rfl hc38 rfl) fun a S => ?_
   refine lx_nil ?_
   obtain rfl := Option.some.inj hm
   exact ⟨S.sub ⟨rfl, trivial⟩, H⟩
 ·rintro a w ⟨S, H⟩
  refine lq (.bool t36) S (q_assign rfl) fun a S => ?_
  refine lx_nil (thenN ?_)
  refine wp_ret ?_
  obtain rfl := Option.some.inj hm
  exact leave1 S rfl rfl ⟨rfl, H⟩

/-- (impl.Lts).visible -/
def impl_Lts_visible_m (fuel : Nat) (a0 : Timpl_Lts) (a1 : (List Int)) (a2 : Str) : Option ((List Int)) :=
  (impl_Lts_follow_m fuel (a0.1, a0.2.1, a0.2.2.1, a0.2.2.2) a1 a2).bind fun x56 => (impl_Lts_internal_m fuel (a0.1, a0.2.1, a0.2.2.1, a0.2.2.2) x56).bind fun x63 => some (x63)
set_option maxRecDepth 20000 in
theorem impl_Lts_visible_ok {w0 : World} {fuel : Nat} {p0 p1 : Value} {a0 : Timpl_Lts} {a1 : (List Int)} {a2 : Str} {r : (List Int)} (h0 : Rd Rimpl_Lts w0 p0 a0) (h1 : Rd (rList (rInt .i64)) w0 p1 a1) (hm : impl_Lts_visible_m fuel a0 a1 a2 = some r) :
  Calls Tryz.prog 175 #[p0, p1, sv a2] w0 fun e w => ∃ (v0 : Value), e = .returned (v0) ∧ Heap w0 [oA (rList (rInt .i64)) v0 r] w := by
 unfold impl_Lts_visible_m at hm
 have H := Heap.start w0
 obtain ⟨c31, rfl, h32⟩ := h0
 obtain ⟨c37, c38, rfl, h39, h40⟩ := h32
 obtain rfl := h39
 obtain ⟨c41, c42, rfl, h43, h44⟩ := h40
 obtain rfl := h43
 obtain ⟨c45, c46, rfl, h47, h48⟩ := h44
 obtain ⟨v33, rfl, h34⟩ := rd_list h47
 obtain ⟨v35, rfl, h36⟩ := rd_list h48
 refine enter (args := [(.agg #[(.int .i64 a0.1), (.int .i64 a0.2.1), v33, v35]), p1, sv a2]) Tryz.func175 rfl 13 rfl (Nat.le_of_ble_eq_true rfl) (fun a S => ?_)
 refine wp_seq (region_plain ?_)
 refine lx_box S trivial (by decide) rfl H rfl rfl (fun b49 w50 H => ⟨trivial, fun a S => ?_⟩)
 refine lq (.slice none 0 0) S (q_assign rfl) fun a S => ?_
 refine lx_nil (thenN ?_)
 refine wp_seq ?_
 refine region_drawG (fun w1 => Heap w0 [bA b49 [(.int .i64 a0.1), (.int .i64 a0.2.1), v33, v35] 30] w1) (fun i => [4, 5].contains i) mixed (by kernel_rfl) (fun w53 he52 => ?_)
 have H := H.later he52
 refine ⟨H.sel [0] (by decide), ?_⟩
 refine lq (.agg #[(.int .i64 a0.1), (.int .i64 a0.2.1), v33, v35]) S (q_loadA (cs := [(.int .i64 a0.1), (.int .i64 a0.2.1), v33, v35]) rfl (isP_bp _) Tryz.isAgg30 Tryz.sizeOf30 (fun w1 hC => (fun j u hu => boxAt (i := 0) hC rfl hu))) fun a S => ?_
 refine lq (.agg #[(.int .i64 a0.1), (.int .i64 a0.2.1), v33, v35]) S (q_loadA (cs := [(.int .i64 a0.1), (.int .i64 a0.2.1), v33, v35]) rfl (isP_bp _) Tryz.isAgg30 Tryz.sizeOf30 (fun w1 hC => (fun j u hu => boxAt (i := 0) hC rfl hu))) fun a S => ?_
 refine lq p1 S (q_move rfl) fun a S => ?_
 refine lq (sv a2) S (q_move rfl) fun a S => ?_
 obtain ⟨x56, e57, hm⟩ := bind_some hm
 refine lx_call (xs := [.tmp 8, .tmp 9, .tmp 10]) S trivial (by decide) rfl rfl Tryz.call109 ((impl_Lts_follow_ok ⟨[(.int .i64 a0.1), (.int .i64 a0.2.1), v33, v35], rfl, ⟨[(.int .i64 a0.1)], [(.int .i64 a0.2.1), v33, v35], rfl, rfl, ⟨[(.int .i64 a0.2.1)], [v33, v35], rfl, rfl, ⟨[v33], [v35], rfl, ((H.arg h34)).list_rd, ((H.arg h36)).list_rd⟩⟩⟩⟩ (H.arg h1)  e57).mono ?_)
 rintro e w54 ⟨v58, rfl, Hc55⟩
 have H := H.call1 Hc55
 refine ⟨_, rfl, H.sel [1] (by decide), fun a S => ?_⟩
 obtain ⟨x63, e64, hm⟩ := bind_some hm
 refine lx_call (xs := [.tmp 7, .tmp 11]) S trivial (by decide) rfl rfl Tryz.call121 ((impl_Lts_internal_ok ⟨[(.int .i64 a0.1), (.int .i64 a0.2.1), v33, v35], rfl, ⟨[(.int .i64 a0.1)], [(.int .i64 a0.2.1), v33, v35], rfl, rfl, ⟨[(.int .i64 a0.2.1)], [v33, v35], rfl, rfl, ⟨[v33], [v35], rfl, ((H.arg h34)).list_rd, ((H.arg h36)).list_rd⟩⟩⟩⟩ (H.rdAt 0 rfl) e64).mono ?_)
 rintro e w61 ⟨v65, rfl, Hc62⟩
 have H := H.call1 Hc62
 refine ⟨_, rfl, H.sel [2] (by decide), fun a S => ?_⟩
 refine lq v65 S (q_assign rfl) fun a S => ?_
 refine lx_nil (thenN ?_)
 refine wp_ret ?_
 obtain rfl := Option.some.inj hm
 have H : Heap w0 [oA (rList (rInt .i64)) v65 x63] w61 := H.sel [0] (by decide)
 exact leave1 S rfl rfl ⟨v65, rfl, H⟩

/-- (impl.Lts).after -/
def impl_Lts_after_m (fuel : Nat) (a0 : Timpl_Lts) (a1 : (List Str)) : Option ((List Int)) :=
  (impl_Lts_internal_m fuel (a0.1, a0.2.1, a0.2.2.1, a0.2.2.2) [a0.2.1]).bind fun x57 => (iter (fun (s : (List Int) × (Int)) => (match s with | (xs80, x82) => (if (decide (x82 < (a1.length : Int))) = true then (idx a1 x82).bind fun x112 => (impl_Lts_visible_m fuel (a0.1, a0.2.1, a0.2.2.1, a0.2.2.2) xs80 x112).bind fun x119 => some (.inl (x119, (W (x82 + (1 : Int))))) else some (.inr (.inl (xs80)))) : Option (((List Int) × (Int)) ⊕ (((List Int)) ⊕ ((List Int)))))) fuel (x57, (0 : Int))).bind fun res103 => ctl (β := (List Int)) (ρ := (List Int)) (τ := (List Int)) res103 (fun (xs101) => some (xs101)) (fun q => some (q))
set_option maxRecDepth 20000 in
theorem impl_Lts_after_ok {w0 : World} {fuel : Nat} {p0 p1 : Value} {a0 : Timpl_Lts} {a1 : (List Str)} {r : (List Int)} (h0 : Rd Rimpl_Lts w0 p0 a0) (h1 : Rd (rList rStr) w0 p1 a1) (hm : impl_Lts_after_m fuel a0 a1 = some r) :
  Calls Tryz.prog 157 #[p0, p1] w0 fun e w => ∃ (v0 : Value), e = .returned (v0) ∧ Heap w0 [oA (rList (rInt .i64)) v0 r] w := by
 unfold impl_Lts_after_m at hm
 have H := Heap.start w0
 obtain ⟨c31, rfl, h32⟩ := h0
 obtain ⟨c37, c38, rfl, h39, h40⟩ := h32
 obtain rfl := h39
 obtain ⟨c41, c42, rfl, h43, h44⟩ := h40
 obtain rfl := h43
 obtain ⟨c45, c46, rfl, h47, h48⟩ := h44
 obtain ⟨v33, rfl, h34⟩ := rd_list h47
 obtain ⟨v35, rfl, h36⟩ := rd_list h48
 refine enter (args := [(.agg #[(.int .i64 a0.1), (.int .i64 a0.2.1), v33, v35]), p1]) Tryz.func157 rfl 25 rfl (Nat.le_of_ble_eq_true rfl) (fun a S => ?_)
 refine wp_seq (region_plain ?_)
 refine lx_box S trivial (by decide) rfl H rfl rfl (fun b49 w50 H => ⟨trivial, fun a S => ?_⟩)
 refine lq (.slice none 0 0) S (q_assign rfl) fun a S => ?_
 refine lx_nil (thenN ?_)
 refine wp_seq (region_plain ?_)
 refine lx_e (.agg #[(.int .i64 a0.1), (.int .i64 a0.2.1), v33, v35]) S trivial (by decide) rfl trivial (q_loadA (cs := [(.int .i64 a0.1), (.int .i64 a0.2.1), v33, v35]) rfl (isP_bp _) Tryz.isAgg30 Tryz.sizeOf30 (by rintro _ rfl; exact (fun j u hu => boxAt (i := 0) H rfl hu))) (fun a S => ?_)
 refine lq (pAdd (bp b49) 1) S (q_fieldAddr' 1 2 rfl (isP_bp _) Tryz.underlying30 rfl Tryz.sizeOf2) fun a S => ?_
 refine lx_e (.int .i64 a0.2.1) S trivial (by decide) rfl trivial (q_load1 rfl Tryz.isAgg2 (by rintro _ rfl; exact (At.of_add (m := 1) (j := 0) (boxAt (i := 0) H rfl (j := 1) rfl)))) (fun a S => ?_)
 refine lx_buildSlice (r := (rInt .i64)) (xs := [a0.2.1]) (ps := [(0, [(.int .i64 a0.2.1)])]) (cs := [(.int .i64 a0.2.1)]) (parts := [(0, .tmp 10)]) S trivial (by decide) rfl (H.put0 (A := eA) rfl) rfl Tryz.underlying34 Tryz.sizeOf2 Tryz.zeroValue2 (by decide) ⟨rfl, rfl, Nat.le_of_ble_eq_true rfl, trivial⟩ (by intro zs hz; exact fill_dense hz ⟨rfl, trivial⟩ rfl rfl) rfl (by decide) (fun w F hA => by cases (show F = [] from hA); exact ⟨_, _, [(.int .i64 a0.2.1)], _, rfl, rfl, ⟨rfl, rfl⟩, ⟨rfl, rfl⟩⟩) (fun v52 w53 H => ⟨trivial, fun a S => ?_⟩)
 obtain ⟨x57, e58, hm⟩ := bind_some hm
 refine lx_call (xs := [.tmp 8, .tmp 11]) S trivial (by decide) rfl rfl Tryz.call121 ((impl_Lts_internal_ok ⟨[(.int .i64 a0.1), (.int .i64 a0.2.1), v33, v35], rfl, ⟨[(.int .i64 a0.1)], [(.int .i64 a0.2.1), v33, v35], rfl, rfl, ⟨[(.int .i64 a0.2.1)], [v33, v35], rfl, rfl, ⟨[v33], [v35], rfl, ((H.arg h34)).list_rd, ((H.arg h36)).list_rd⟩⟩⟩⟩ (H.rdAt 0 rfl) e58).mono ?_)
 rintro e w55 ⟨v59, rfl, Hc56⟩
 have H := H.call1 Hc56
 refine ⟨_, rfl, trivial, fun a S => ?_⟩
 refine lq v59 S (q_assign rfl) fun a S => ?_
 refine lx_nil (thenN ?_)
 refine wp_seq (wp_seq (region_plain ?_))
 refine lq p1 S (q_move rfl) fun a S => ?_
 refine lq (.int .i64 (a1.length : Int)) S (q_lenSl rfl (h1).isSl rfl Tryz.underlying22) fun a S => ?_
 refine lq (.int .i64 (0 : Int)) S (q_move rfl) fun a S => ?_
 refine lx_nil (thenN ?_)
 obtain ⟨res103, hit104, hk107⟩ := bind_some hm
 obtain ⟨f105, hf106, hit104⟩ := iter_name hit104
 refine block_loop (fun a w => ∃ (xs101 : List Int) (v100 : Value), Slots a 25 [(5, v100)] ∧ Heap w0 [oA (rList (rInt .i64)) v100 xs101] w ∧ res103 = .inl (xs101)) ?_ ?_
 ·rintro a w ⟨xs101, v100, S, H, rfl⟩
  have hm := ctl_inl hk107
  refine thenN ?_
  refine wp_seq (region_plain ?_)
  refine lq v100 S (q_move rfl) fun a S => ?_
  refine lq v100 S (q_assign rfl) fun a S => ?_
  refine lx_nil (thenN ?_)
  refine wp_ret ?_
  obtain rfl := Option.some.inj hm
  exact leave1 S rfl rfl ⟨v100, rfl, H⟩
 ·skip
  have H : Heap w0 [bA b49 [(.int .i64 a0.1), (.int .i64 a0.2.1), v33, v35] 30, oA (rList (rInt .i64)) v59 x57, oA (rList (rInt .i64)) v52 [a0.2.1]] w55 := H.front 2 rfl
  have H : Heap w0 [bA b49 [(.int .i64 a0.1), (.int .i64 a0.2.1), v33, v35] 30, oA (rList (rInt .i64)) v59 x57] w55 := H.sel [0, 1] (by decide)
  refine loop_ghost (fun n a w => ∃ (xs80 : List Int) (x82 : Int) (v79 : Value), Slots a 25 [(2, (bp b49)), (5, v79), (13, p1), (14, (.int .i64 (a1.length : Int))), (15, (.int .i64 x82))] ∧ Heap w0 [bA b49 [(.int .i64 a0.1), (.int .i64 a0.2.1), v33, v35] 30, oA (rList (rInt .i64)) v79 xs80] w ∧ iter f105 n (xs80, x82) = some res103) _ ⟨x57, (0 : Int), v59, S.sub ⟨rfl, rfl, rfl, rfl, rfl, trivial⟩, H, hit104⟩ ?_
  rintro n a w ⟨xs80, x82, v79, S, H, hit104⟩
  obtain ⟨m108, o109, rfl, hm, hc110⟩ := iter_step hit104
  rw [hf106] at hm
  refine wp_seq (region_plain ?_)
  refine lq (.bool (decide (x82 < (a1.length : Int)))) S (q_lss rfl rfl) fun a S => ?_
  refine lx_nil (thenN ?_)
  refine wp_seq ?_
  refine cond_b S rfl (fun hc111 => ?_) (fun hc111 => ?_)
  ·have hm := ite_t hc111 hm
   refine wp_skip (thenN ?_)
   refine wp_seq ?_
   refine wp_block ?_
   refine wp_seq (region_plain ?_)
   obtain ⟨x112, e113, hm⟩ := bind_some hm
   obtain ⟨c114, h115, hat116⟩ := (h1).elem (idx_some e113).2
   obtain rfl := h115
   have hlt := lt_of_idx (idx_some e113).2
   refine lq (ePtr p1 (x82.toNat * 1)) S (q_indexAddr rfl (h1).isSl rfl (idx_some e113).1 hlt Tryz.underlying22 Tryz.sizeOf9) fun a S => ?_
   refine lx_e (sv x112) S trivial (by decide) rfl trivial (q_load1 rfl Tryz.isAgg9 (by rintro _ rfl; exact ((hat116 0 _ rfl).ext H.ext))) (fun a S => ?_)
   refine lq (sv x112) S (q_assign rfl) fun a S => ?_
   refine lx_nil (thenN ?_)
   refine region_plain ?_
   refine lx_e (.agg #[(.int .i64 a0.1), (.int .i64 a0.2.1), v33, v35]) S trivial (by decide) rfl trivial (q_loadA (cs := [(.int .i64 a0.1), (.int .i64 a0.2.1), v33, v35]) rfl (isP_bp _) Tryz.isAgg30 Tryz.sizeOf30 (by rintro _ rfl; exact (fun j u hu => boxAt (i := 0) H rfl hu))) (fun a S => ?_)
   refine lq v79 S (q_move rfl) fun a S => ?_
   refine lq (sv x112) S (q_move rfl) fun a S => ?_
   obtain ⟨x119, e120, hm⟩ := bind_some hm
   refine lx_call (xs := [.tmp 19, .tmp 20, .tmp 21]) S trivial (by decide) rfl rfl Tryz.call175 ((impl_Lts_visible_ok ⟨[(.int .i64 a0.1), (.int .i64 a0.2.1), v33, v35], rfl, ⟨[(.int .i64 a0.1)], [(.int .i64 a0.2.1), v33, v35], rfl, rfl, ⟨[(.int .i64 a0.2.1)], [v33, v35], rfl, rfl, ⟨[v33], [v35], rfl, ((H.arg h34)).list_rd, ((H.arg h36)).list_rd⟩⟩⟩⟩ (H.rdAt 1 rfl)  e120).mono ?_)
   rintro e w117 ⟨v121, rfl, Hc118⟩
   have H := H.call1 Hc118
   refine ⟨_, rfl, trivial, fun a S => ?_⟩
   refine lq v121 S (q_assign rfl) fun a S => ?_
   refine lx_nil ?_
   refine inBlock_norm ?_
   refine thenN ?_
   refine region_plain ?_
   refine lq (.int .i64 (W (x82 + (1 : Int)))) S (q_add rfl rfl) fun a S => ?_
   refine lq (.int .i64 (W (x82 + (1 : Int)))) S (q_move rfl) fun a S => ?_
   refine lx_nil ?_
   have H : Heap w0 [bA b49 [(.int .i64 a0.1), (.int .i64 a0.2.1), v33, v35] 30, oA (rList (rInt .i64)) v121 x119, oA (rList (rInt .i64)) v79 xs80] w117 := H.front 1 rfl
   have H : Heap w0 [bA b49 [(.int .i64 a0.1), (.int .i64 a0.2.1), v33, v35] 30, oA (rList (rInt .i64)) v121 x119] w117 := H.sel [0, 1] (by decide)
   exact ⟨m108, Nat.lt_succ_self _, x119, (W (x82 + (1 : Int))), v121, S.sub ⟨rfl, rfl, rfl, rfl, rfl, trivial⟩, H, it_cont hm hc110⟩
  ·have hm := ite_f hc111 hm
   refine wp_exit ?_
   refine then_exit ?_
   refine then_exit ?_
   refine inBlock_exit ?_
   obtain rfl := it_brk hm hc110
   have H : Heap w0 [oA (rList (rInt .i64)) v79 xs80] w := H.sel [1] (by decide)
   exact ⟨xs80, v79, S.sub ⟨rfl, trivial⟩, H, rfl⟩

/-- impl.AfterTrace -/
def impl_AfterTrace_m (fuel : Nat) (a0 : Timpl_Lts) (a1 : (List Str)) : Option (((List Int) × Int)) :=
  (impl_ValidLts_m fuel (a0.1, a0.2.1, a0.2.2.1, a0.2.2.2)).bind fun x54 => (if (!x54) = true then some (([], (1 : Int))) else (impl_areVisible_m fuel a1).bind fun x61 => (if (!x61) = true then some (([], (2 : Int))) else (impl_Lts_after_m fuel (a0.1, a0.2.1, a0.2.2.1, a0.2.2.2) a1).bind fun x68 => (if ((x68.length : Int) == (0 : Int)) = true then some (([], (3 : Int))) else some ((x68, (0 : Int))))))
set_option maxRecDepth 20000 in
theorem impl_AfterTrace_ok {w0 : World} {fuel : Nat} {p0 p1 : Value} {a0 : Timpl_Lts} {a1 : (List Str)} {r : ((List Int) × Int)} (hG : Glob Tryz.prog w0) (h0 : Rd Rimpl_Lts w0 p0 a0) (h1 : Rd (rList rStr) w0 p1 a1) (hm : impl_AfterTrace_m fuel a0 a1 = some r) :
  Calls Tryz.prog 123 #[p0, p1] w0 fun e w => ∃ (v0 : Value), e = .returned (.tuple #[v0, .int .i64 r.2]) ∧ Heap w0 [oA (rList (rInt .i64)) v0 r.1] w := by
 unfold impl_AfterTrace_m at hm
 have H := Heap.start w0
 obtain ⟨c31, rfl, h32⟩ := h0
 obtain ⟨c37, c38, rfl, h39, h40⟩ := h32
 obtain rfl := h39
 obtain ⟨c41, c42, rfl, h43, h44⟩ := h40
 obtain rfl := h43
 obtain ⟨c45, c46, rfl, h47, h48⟩ := h44
 obtain ⟨v33, rfl, h34⟩ := rd_list h47
 obtain ⟨v35, rfl, h36⟩ := rd_list h48
 refine enter (args := [(.agg #[(.int .i64 a0.1), (.int .i64 a0.2.1), v33, v35]), p1]) Tryz.func123 rfl 22 rfl (Nat.le_of_ble_eq_true rfl) (fun a S => ?_)
 refine wp_seq (region_plain ?_)
 refine lx_box S trivial (by decide) rfl H rfl rfl (fun b49 w50 H => ⟨trivial, fun a S => ?_⟩)
 refine lq (.slice none 0 0) S (q_assign rfl) fun a S => ?_
 refine lq (.int .i64 (0 : Int)) S (q_assign rfl) fun a S => ?_
 refine lx_nil (thenN ?_)
 refine wp_seq ?_
 refine wp_block ?_
 refine wp_seq (region_plain ?_)
 refine lx_e (.agg #[(.int .i64 a0.1), (.int .i64 a0.2.1), v33, v35]) S trivial (by decide) rfl trivial (q_loadA (cs := [(.int .i64 a0.1), (.int .i64 a0.2.1), v33, v35]) rfl (isP_bp _) Tryz.isAgg30 Tryz.sizeOf30 (by rintro _ rfl; exact (fun j u hu => boxAt (i := 0) H rfl hu))) (fun a S => ?_)
 obtain ⟨x54, e55, hm⟩ := bind_some hm
 refine lx_call (xs := [.tmp 8]) S trivial (by decide) rfl rfl Tryz.call22 ((impl_ValidLts_ok (hG.ext H.ext) ⟨[(.int .i64 a0.1), (.int .i64 a0.2.1), v33, v35], rfl, ⟨[(.int .i64 a0.1)], [(.int .i64 a0.2.1), v33, v35], rfl, rfl, ⟨[(.int .i64 a0.2.1)], [v33, v35], rfl, rfl, ⟨[v33], [v35], rfl, ((H.arg h34)).list_rd, ((H.arg h36)).list_rd⟩⟩⟩⟩ e55).mono ?_)
 rintro e w52 ⟨rfl, Hc53⟩
 have H := H.call0 Hc53
 refine ⟨_, rfl, trivial, fun a S => ?_⟩
 refine lq (.bool (!x54)) S (q_not rfl) fun a S => ?_
 refine lq (.bool (!x54)) S (q_assign rfl) fun a S => ?_
 refine lx_nil (thenN ?_)
 refine cond_b S rfl (fun hc57 => ?_) (fun hc57 => ?_)
 ·have hm := ite_t hc57 hm
  refine wp_seq (region_plain ?_)
  refine lq (.slice none 0 0) S (q_assign rfl) fun a S => ?_
  refine lq (.int .i64 (1 : Int)) S (q_assign rfl) fun a S => ?_
  refine lx_nil (thenN ?_)
  refine wp_ret (inBlock_ret ?_)
  refine then_ret ?_
  obtain rfl := Option.some.inj hm
  have H : Heap w0 [oA (rList (rInt .i64)) (.slice none 0 0) ([] : List Int), bA b49 [(.int .i64 a0.1), (.int .i64 a0.2.1), v33, v35] 30] w52 := H.nilList (rInt .i64)
  have H : Heap w0 [oA (rList (rInt .i64)) (.slice none 0 0) ([] : List Int)] w52 := H.sel [0] (by decide)
  exact leave2 S rfl rfl rfl ⟨(.slice none 0 0), rfl, H⟩
 ·have hm := ite_f hc57 hm
  refine wp_seq (region_plain ?_)
  refine lq p1 S (q_move rfl) fun a S => ?_
  obtain ⟨x61, e62, hm⟩ := bind_some hm
  refine lx_call (xs := [.tmp 12]) S trivial (by decide) rfl rfl Tryz.call156 ((impl_areVisible_ok (hG.ext H.ext) (H.arg h1) e62).mono ?_)
  rintro e w59 ⟨rfl, Hc60⟩
  have H := H.call0 Hc60
  refine ⟨_, rfl, trivial, fun a S => ?_⟩
  refine lq (.bool (!x61)) S (q_not rfl) fun a S => ?_
  refine lq (.bool (!x61)) S (q_assign rfl) fun a S => ?_
  refine lx_nil (thenN ?_)
  refine cond_b S rfl (fun hc64 => ?_) (fun hc64 => ?_)
  ·have hm := ite_t hc64 hm
   refine wp_seq (region_plain ?_)
   refine lq (.slice none 0 0) S (q_assign rfl) fun a S => ?_
   refine lq (.int .i64 (2 : Int)) S (q_assign rfl) fun a S => ?_
   refine lx_nil (thenN ?_)
   refine wp_ret (inBlock_ret ?_)
   refine then_ret ?_
   obtain rfl := Option.some.inj hm
   have H : Heap w0 [oA (rList (rInt .i64)) (.slice none 0 0) ([] : List Int), bA b49 [(.int .i64 a0.1), (.int .i64 a0.2.1), v33, v35] 30] w59 := H.nilList (rInt .i64)
   have H : Heap w0 [oA (rList (rInt .i64)) (.slice none 0 0) ([] : List Int)] w59 := H.sel [0] (by decide)
   exact leave2 S rfl rfl rfl ⟨(.slice none 0 0), rfl, H⟩
  ·have hm := ite_f hc64 hm
   refine wp_skip ?_
   refine inBlock_norm ?_
   refine thenN ?_
   refine wp_seq (region_plain ?_)
   refine lx_e (.agg #[(.int .i64 a0.1), (.int .i64 a0.2.1), v33, v35]) S trivial (by decide) rfl trivial (q_loadA (cs := [(.int .i64 a0.1), (.int .i64 a0.2.1), v33, v35]) rfl (isP_bp _) Tryz.isAgg30 Tryz.sizeOf30 (by rintro _ rfl; exact (fun j u hu => boxAt (i := 0) H rfl hu))) (fun a S => ?_)
   refine lq p1 S (q_move rfl) fun a S => ?_
   obtain ⟨x68, e69, hm⟩ := bind_some hm
   refine lx_call (xs := [.tmp 15, .tmp 16]) S trivial (by decide) rfl rfl Tryz.call157 ((impl_Lts_after_ok ⟨[(.int .i64 a0.1), (.int .i64 a0.2.1), v33, v35], rfl, ⟨[(.int .i64 a0.1)], [(.int .i64 a0.2.1), v33, v35], rfl, rfl, ⟨[(.int .i64 a0.2.1)], [v33, v35], rfl, rfl, ⟨[v33], [v35], rfl, ((H.arg h34)).list_rd, ((H.arg h36)).list_rd⟩⟩⟩⟩ (H.arg h1) e69).mono ?_)
   rintro e w66 ⟨v70, rfl, Hc67⟩
   have H := H.call1 Hc67
   refine ⟨_, rfl, trivial, fun a S => ?_⟩
   refine lq v70 S (q_assign rfl) fun a S => ?_
   refine lx_nil (thenN ?_)
   refine wp_seq (wp_seq (region_plain ?_))
   refine lq v70 S (q_move rfl) fun a S => ?_
   refine lq (.int .i64 (x68.length : Int)) S (q_lenSl rfl (H.isSl 0 rfl) rfl Tryz.underlying34) fun a S => ?_
   refine lq (.bool ((x68.length : Int) == (0 : Int))) S (q_eql rfl rfl) fun a S => ?_
   refine lx_nil (thenN ?_)
   refine cond_b S rfl (fun hc73 => ?_) (fun hc73 => ?_)
   ·have hm := ite_t hc73 hm
    refine wp_seq (region_plain ?_)
    refine lq (.slice none 0 0) S (q_assign rfl) fun a S => ?_
    refine lq (.int .i64 (3 : Int)) S (q_assign rfl) fun a S => ?_
    refine lx_nil (thenN ?_)
    refine wp_ret (then_ret ?_)
    obtain rfl := Option.some.inj hm
    have H : Heap w0 [oA (rList (rInt .i64)) (.slice none 0 0) ([] : List Int), oA (rList (rInt .i64)) v70 x68, bA b49 [(.int .i64 a0.1), (.int .i64 a0.2.1), v33, v35] 30] w66 := H.nilList (rInt .i64)
    have H : Heap w0 [oA (rList (rInt .i64)) (.slice none 0 0) ([] : List Int)] w66 := H.sel [0] (by decide)
    exact leave2 S rfl rfl rfl ⟨(.slice none 0 0), rfl, H⟩
   ·have hm := ite_f hc73 hm
    refine wp_skip (thenN ?_)
    refine wp_seq (region_plain ?_)
    refine lq v70 S (q_move rfl) fun a S => ?_
    refine lq v70 S (q_assign rfl) fun a S => ?_
    refine lq (.int .i64 (0 : Int)) S (q_assign rfl) fun a S => ?_
    refine lx_nil (thenN ?_)
    refine wp_ret ?_
    obtain rfl := Option.some.inj hm
    have H : Heap w0 [oA (rList (rInt .i64)) v70 x68] w66 := H.sel [0] (by decide)
    exact leave2 S rfl rfl rfl ⟨v70, rfl, H⟩

/-- impl.IsCompletedTrace$1 -/
def impl_IsCompletedTrace_1_m (fuel : Nat) (a0 : Int) (a1 : Timpl_Lts) : Option (Bool) :=
  (impl_Lts_out_m fuel (a1.1, a1.2.1, a1.2.2.1, a1.2.2.2) a0).bind fun x52 => some (((x52.length : Int) == (0 : Int)))
set_option maxRecDepth 20000 in
theorem impl_IsCompletedTrace_1_ok {w0 : World} {fuel : Nat} {p1 : Value} {a0 : Int} {a1 : Timpl_Lts} {r : Bool} (h1 : Rd (rPtr Rimpl_Lts) w0 p1 a1) (hm : impl_IsCompletedTrace_1_m fuel a0 a1 = some r) :
  Calls Tryz.prog 124 #[.int .i64 a0, p1] w0 fun e w => e = .returned (.bool r) ∧ Heap w0 [] w := by
 unfold impl_IsCompletedTrace_1_m at hm
 have H := Heap.start w0
 obtain ⟨c31, h32, hat33⟩ := h1.ptr
 obtain ⟨c38, c39, rfl, h40, h41⟩ := h32
 obtain rfl := h40
 obtain ⟨c42, c43, rfl, h44, h45⟩ := h41
 obtain rfl := h44
 obtain ⟨c46, c47, rfl, h48, h49⟩ := h45
 obtain ⟨v34, rfl, h35⟩ := rd_list h48
 obtain ⟨v36, rfl, h37⟩ := rd_list h49
 refine enter (args := [.int .i64 a0, p1]) Tryz.func124 rfl 9 rfl (Nat.le_of_ble_eq_true rfl) (fun a S => ?_)
 refine wp_seq (region_plain ?_)
 refine lq (.bool false) S (q_assign rfl) fun a S => ?_
 refine lx_nil (thenN ?_)
 refine wp_seq (region_plain ?_)
 refine lx_e (.agg #[(.int .i64 a1.1), (.int .i64 a1.2.1), v34, v36]) S trivial (by decide) rfl trivial (q_loadA (cs := [(.int .i64 a1.1), (.int .i64 a1.2.1), v34, v36]) rfl ((hat33 0 _ rfl).isP) Tryz.isAgg30 Tryz.sizeOf30 (by rintro _ rfl; exact (fun j u hu => (hat33 j u hu).ext H.ext))) (fun a S => ?_)
 refine lq (.int .i64 a0) S (q_move rfl) fun a S => ?_
 obtain ⟨x52, e53, hm⟩ := bind_some hm
 refine lx_call (xs := [.tmp 4, .tmp 5]) S trivial (by decide) rfl rfl Tryz.call83 ((impl_Lts_out_ok ⟨[(.int .i64 a1.1), (.int .i64 a1.2.1), v34, v36], rfl, ⟨[(.int .i64 a1.1)], [(.int .i64 a1.2.1), v34, v36], rfl, rfl, ⟨[(.int .i64 a1.2.1)], [v34, v36], rfl, rfl, ⟨[v34], [v36], rfl, ((H.arg h35)).list_rd, ((H.arg h37)).list_rd⟩⟩⟩⟩  e53).mono ?_)
 rintro e w50 ⟨v54, rfl, Hc51⟩
 have H := H.call1 Hc51
 refine ⟨_, rfl, trivial, fun a S => ?_⟩
 refine lq (.int .i64 (x52.length : Int)) S (q_lenSl rfl (H.isSl 0 rfl) rfl Tryz.underlying28) fun a S => ?_
 refine lq (.bool ((x52.length : Int) == (0 : Int))) S (q_eql rfl rfl) fun a S => ?_
 refine lq (.bool ((x52.length : Int) == (0 : Int))) S (q_assign rfl) fun a S => ?_
 refine lx_nil (thenN ?_)
 refine wp_ret ?_
 obtain rfl := Option.some.inj hm
 have H : Heap w0 [] w50 := H.sel [] (by decide)
 exact leave1 S rfl rfl ⟨rfl, H⟩

/-- impl.IsCompletedTrace -/
def impl_IsCompletedTrace_m (fuel : Nat) (a0 : Timpl_Lts) (a1 : (List Str)) : Option ((Bool × Int)) :=
  (impl_AfterTrace_m fuel (a0.1, a0.2.1, a0.2.2.1, a0.2.2.2) a1).bind fun x54 => (if (x54.2 != (0 : Int)) = true then some ((false, x54.2)) else (slices_ContainsFunc__int64_int64_m fuel x54.1 (fun (z0 : Int) => impl_IsCompletedTrace_1_m fuel z0 (a0.1, a0.2.1, a0.2.2.1, a0.2.2.2))).bind fun x62 => some ((x62, (0 : Int))))
set_option maxRecDepth 20000 in
theorem impl_IsCompletedTrace_ok {w0 : World} {fuel : Nat} {p0 p1 : Value} {a0 : Timpl_Lts} {a1 : (List Str)} {r : (Bool × Int)} (hG : Glob Tryz.prog w0) (h0 : Rd Rimpl_Lts w0 p0 a0) (h1 : Rd (rList rStr) w0 p1 a1) (hm : impl_IsCompletedTrace_m fuel a0 a1 = some r) :
  Calls Tryz.prog 69 #[p0, p1] w0 fun e w => e = .returned (.tuple #[.bool r.1, .int .i64 r.2]) ∧ Heap w0 [] w := by
 unfold impl_IsCompletedTrace_m at hm
 have H := Heap.start w0
 obtain ⟨c31, rfl, h32⟩ := h0
 obtain ⟨c37, c38, rfl, h39, h40⟩ := h32
 obtain rfl := h39
 obtain ⟨c41, c42, rfl, h43, h44⟩ := h40
 obtain rfl := h43
 obtain ⟨c45, c46, rfl, h47, h48⟩ := h44
 obtain ⟨v33, rfl, h34⟩ := rd_list h47
 obtain ⟨v35, rfl, h36⟩ := rd_list h48
 refine enter (args := [(.agg #[(.int .i64 a0.1), (.int .i64 a0.2.1), v33, v35]), p1]) Tryz.func69 rfl 20 rfl (Nat.le_of_ble_eq_true rfl) (fun a S => ?_)
 refine wp_seq (region_plain ?_)
 refine lx_box S trivial (by decide) rfl H rfl rfl (fun b49 w50 H => ⟨trivial, fun a S => ?_⟩)
 refine lq (.bool false) S (q_assign rfl) fun a S => ?_
 refine lq (.int .i64 (0 : Int)) S (q_assign rfl) fun a S => ?_
 refine lx_nil (thenN ?_)
 refine wp_seq (region_plain ?_)
 refine lx_e (.agg #[(.int .i64 a0.1), (.int .i64 a0.2.1), v33, v35]) S trivial (by decide) rfl trivial (q_loadA (cs := [(.int .i64 a0.1), (.int .i64 a0.2.1), v33, v35]) rfl (isP_bp _) Tryz.isAgg30 Tryz.sizeOf30 (by rintro _ rfl; exact (fun j u hu => boxAt (i := 0) H rfl hu))) (fun a S => ?_)
 refine lq p1 S (q_move rfl) fun a S => ?_
 obtain ⟨x54, e55, hm⟩ := bind_some hm
 refine lx_call (xs := [.tmp 9, .tmp 10]) S trivial (by decide) rfl rfl Tryz.call123 ((impl_AfterTrace_ok (hG.ext H.ext) ⟨[(.int .i64 a0.1), (.int .i64 a0.2.1), v33, v35], rfl, ⟨[(.int .i64 a0.1)], [(.int .i64 a0.2.1), v33, v35], rfl, rfl, ⟨[(.int .i64 a0.2.1)], [v33, v35], rfl, rfl, ⟨[v33], [v35], rfl, ((H.arg h34)).list_rd, ((H.arg h36)).list_rd⟩⟩⟩⟩ (H.arg h1) e55).mono ?_)
 rintro e w52 ⟨v56, rfl, Hc53⟩
 have H := H.call1 Hc53
 refine ⟨_, rfl, trivial, fun a S => ?_⟩
 refine lq (.tuple #[v56, (.int .i64 x54.2)]) S (q_move rfl) fun a S => ?_
 refine lq v56 S (q_extract rfl rfl) fun a S => ?_
 refine lq (.int .i64 x54.2) S (q_extract rfl rfl) fun a S => ?_
 refine lq v56 S (q_assign rfl) fun a S => ?_
 refine lq (.int .i64 x54.2) S (q_assign rfl) fun a S => ?_
 refine lx_nil (thenN ?_)
 refine wp_seq (wp_seq (region_plain ?_))
 refine lq (.int .i64 x54.2) S (q_move rfl) fun a S => ?_
 refine lq (.bool (x54.2 != (0 : Int))) S (q_neq rfl rfl) fun a S => ?_
 refine lx_nil (thenN ?_)
 refine cond_b S rfl (fun hc59 => ?_) (fun hc59 => ?_)
 ·have hm := ite_t hc59 hm
  refine wp_seq (region_plain ?_)
  refine lq (.int .i64 x54.2) S (q_move rfl) fun a S => ?_
  refine lq (.bool false) S (q_assign rfl) fun a S => ?_
  refine lq (.int .i64 x54.2) S (q_assign rfl) fun a S => ?_
  refine lx_nil (thenN ?_)
  refine wp_ret (then_ret ?_)
  obtain rfl := Option.some.inj hm
  have H : Heap w0 [] w52 := H.sel [] (by decide)
  exact leave2 S rfl rfl rfl ⟨rfl, H⟩
 ·have hm := ite_f hc59 hm
  refine wp_skip (thenN ?_)
  refine wp_seq (region_plain ?_)
  refine lq v56 S (q_move rfl) fun a S => ?_
  refine lq (.func (.func 124) #[] #[(bp b49)]) S (q_makeFunc (xs := []) (ys := [.tmp 2]) rfl rfl) fun a S => ?_
  obtain ⟨x62, e63, hm⟩ := bind_some hm
  have hcap64 : Rd (rPtr Rimpl_Lts) w52 (bp b49) (a0.1, a0.2.1, a0.2.2.1, a0.2.2.2) := (rdPtr_box H 1 rfl ⟨[(.int .i64 a0.1)], [(.int .i64 a0.2.1), v33, v35], rfl, rfl, ⟨[(.int .i64 a0.2.1)], [v33, v35], rfl, rfl, ⟨[v33], [v35], rfl, ((H.arg h34)).list_rd, ((H.arg h36)).list_rd⟩⟩⟩)
  refine lx_call (xs := [.tmp 17, .tmp 18]) S trivial (by decide) rfl rfl Tryz.call78 ((slices_ContainsFunc__int64_int64_ok (f1 := 124) (fs1 := ([] : List Value)) (cp1 := ([(bp b49)] : List Value)) (a1 := (fun (z0 : Int) => impl_IsCompletedTrace_1_m fuel z0 (a0.1, a0.2.1, a0.2.2.1, a0.2.2.2))) (H.rdAt 0 rfl) Tryz.call124 (fun he  hm => impl_IsCompletedTrace_1_ok  (hcap64.ext he) hm) e63).mono ?_)
  rintro e w60 ⟨rfl, Hc61⟩
  have H := H.call0 Hc61
  refine ⟨_, rfl, trivial, fun a S => ?_⟩
  refine lq (.bool x62) S (q_assign rfl) fun a S => ?_
  refine lq (.int .i64 (0 : Int)) S (q_assign rfl) fun a S => ?_
  refine lx_nil (thenN ?_)
  refine wp_ret ?_
  obtain rfl := Option.some.inj hm
  have H : Heap w0 [] w60 := H.sel [] (by decide)
  exact leave2 S rfl rfl rfl ⟨rfl, H⟩

/-- laws.FnExactIsCompletedTrace -/
def laws_FnExactIsCompletedTrace_m (fuel : Nat) (a0 : Tlaws_Lts) (a1 : (List Str)) : Option (Bool) :=
  (laws_szLts_m fuel (a0.1, a0.2.1, a0.2.2.1, a0.2.2.2) (1048576 : Int)).bind fun x54 => (if (decide (x54 < (0 : Int))) = true then some (true) else (laws_szStringS_m fuel a1 x54).bind fun x60 => (if (decide (x60 < (0 : Int))) = true then some (true) else (laws_toLts_m fuel (a0.1, a0.2.1, a0.2.2.1, a0.2.2.2)).bind fun x66 => (laws_toStringS_m fuel a1).bind fun x75 => (spec_IsCompletedTrace_m fuel (x66.1, x66.2.1, x66.2.2.1, x66.2.2.2) x75).bind fun x82 => (laws_toLts_m fuel (a0.1, a0.2.1, a0.2.2.1, a0.2.2.2)).bind fun x87 => (laws_toStringS_m fuel a1).bind fun x100 => (impl_IsCompletedTrace_m fuel (x87.1, x87.2.1, x87.2.2.1, x87.2.2.2) x100).bind fun x107 => (if (x107.1 != x82.1) = true then some true else some (x107.2 != x82.2)).bind fun t110 => (if t110 = true then some (false) else (laws_toLts_m fuel (a0.1, a0.2.1, a0.2.2.1, a0.2.2.2)).bind fun x118 => (laws_eqLts_m fuel (x87.1, x87.2.1, x87.2.2.1, x87.2.2.2) (x118.1, x118.2.1, x118.2.2.1, x118.2.2.2)).bind fun x127 => (if (!x127) = true then some (false) else (laws_toStringS_m fuel a1).bind fun x133 => (laws_eqStringS_m fuel x100 x133).bind fun x140 => (if (!x140) = true then some (false) else some (true))))))
set_option maxRecDepth 20000 in
theorem laws_FnExactIsCompletedTrace_ok {w0 : World} {fuel : Nat} {p0 p1 : Value} {a0 : Tlaws_Lts} {a1 : (List Str)} {r : Bool} (hG : Glob Tryz.prog w0) (h0 : Rd Rlaws_Lts w0 p0 a0) (h1 : Rd (rList rStr) w0 p1 a1) (hm : laws_FnExactIsCompletedTrace_m fuel a0 a1 = some r) :
  Calls Tryz.prog 18 #[p0, p1] w0 fun e w => e = .returned (.bool r) ∧ Heap w0 [] w := by
 unfold laws_FnExactIsCompletedTrace_m at hm
 have H := Heap.start w0
 obtain ⟨c31, rfl, h32⟩ := h0
 obtain ⟨c37, c38, rfl, h39, h40⟩ := h32
 obtain rfl := h39
 obtain ⟨c41, c42, rfl, h43, h44⟩ := h40
 obtain rfl := h43
 obtain ⟨c45, c46, rfl, h47, h48⟩ := h44
 obtain ⟨v33, rfl, h34⟩ := rd_list h47
 obtain ⟨v35, rfl, h36⟩ := rd_list h48
 refine enter (args := [(.agg #[(.int .i64 a0.1), (.int .i64 a0.2.1), v33, v35]), p1]) Tryz.func18 rfl 58 rfl (Nat.le_of_ble_eq_true rfl) (fun a S => ?_)
 refine wp_seq (region_plain ?_)
 refine lx_box S trivial (by decide) rfl H rfl rfl (fun b49 w50 H => ⟨trivial, fun a S => ?_⟩)
 refine lq (.bool false) S (q_assign rfl) fun a S => ?_
 refine lx_nil (thenN ?_)
 refine wp_seq (region_plain ?_)
 refine lq (.int .i64 (1048576 : Int)) S (q_assign rfl) fun a S => ?_
 refine lx_nil (thenN ?_)
 refine wp_seq (region_plain ?_)
 refine lx_e (.agg #[(.int .i64 a0.1), (.int .i64 a0.2.1), v33, v35]) S trivial (by decide) rfl trivial (q_loadA (cs := [(.int .i64 a0.1), (.int .i64 a0.2.1), v33, v35]) rfl (isP_bp _) Tryz.isAgg25 Tryz.sizeOf25 (by rintro _ rfl; exact (fun j u hu => boxAt (i := 0) H rfl hu))) (fun a S => ?_)
 refine lq (.int .i64 (1048576 : Int)) S (q_move rfl) fun a S => ?_
 obtain ⟨x54, e55, hm⟩ := bind_some hm
 refine lx_call (xs := [.tmp 12, .tmp 13]) S trivial (by decide) rfl rfl Tryz.call19 ((laws_szLts_ok ⟨[(.int .i64 a0.1), (.int .i64 a0.2.1), v33, v35], rfl, ⟨[(.int .i64 a0.1)], [(.int .i64 a0.2.1), v33, v35], rfl, rfl, ⟨[(.int .i64 a0.2.1)], [v33, v35], rfl, rfl, ⟨[v33], [v35], rfl, ((H.arg h34)).list_rd, ((H.arg h36)).list_rd⟩⟩⟩⟩  e55).mono ?_)
 rintro e w52 ⟨rfl, Hc53⟩
 have H := H.call0 Hc53
 refine ⟨_, rfl, trivial, fun a S => ?_⟩
 refine lq (.int .i64 x54) S (q_assign rfl) fun a S => ?_
 refine lx_nil (thenN ?_)
 refine wp_seq (wp_seq (region_plain ?_))
 refine lq (.int .i64 x54) S (q_move rfl) fun a S => ?_
 refine lq (.bool (decide (x54 < (0 : Int)))) S (q_lss rfl rfl) fun a S => ?_
 refine lx_nil (thenN ?_)
 refine cond_b S rfl (fun hc57 => ?_) (fun hc57 => ?_)
 ·have hm := ite_t hc57 hm
  refine wp_seq (region_plain ?_)
  refine lq (.bool true) S (q_assign rfl) fun a S => ?_
  refine lx_nil (thenN ?_)
  refine wp_ret (then_ret ?_)
  obtain rfl := Option.some.inj hm
  have H : Heap w0 [] w52 := H.sel [] (by decide)
  exact leave1 S rfl rfl ⟨rfl, H⟩
 ·have hm := ite_f hc57 hm
  refine wp_skip (thenN ?_)
  refine wp_seq (region_plain ?_)
  refine lq p1 S (q_move rfl) fun a S => ?_
  refine lq (.int .i64 x54) S (q_move rfl) fun a S => ?_
  obtain ⟨x60, e61, hm⟩ := bind_some hm
  refine lx_call (xs := [.tmp 17, .tmp 18]) S trivial (by decide) rfl rfl Tryz.call66 ((laws_szStringS_ok (H.arg h1)  e61).mono ?_)
  rintro e w58 ⟨rfl, Hc59⟩
  have H := H.call0 Hc59
  refine ⟨_, rfl, trivial, fun a S => ?_⟩
  refine lq (.int .i64 x60) S (q_assign rfl) fun a S => ?_
  refine lx_nil (thenN ?_)
  refine wp_seq (wp_seq (region_plain ?_))
  refine lq (.int .i64 x60) S (q_move rfl) fun a S => ?_
  refine lq (.bool (decide (x60 < (0 : Int)))) S (q_lss rfl rfl) fun a S => ?_
  refine lx_nil (thenN ?_)
  refine cond_b S rfl (fun hc63 => ?_) (fun hc63 => ?_)
  ·have hm := ite_t hc63 hm
   refine wp_seq (region_plain ?_)
   refine lq (.bool true) S (q_assign rfl) fun a S => ?_
   refine lx_nil (thenN ?_)
   refine wp_ret (then_ret ?_)
   obtain rfl := Option.some.inj hm
   have H : Heap w0 [] w58 := H.sel [] (by decide)
   exact leave1 S rfl rfl ⟨rfl, H⟩
  ·have hm := ite_f hc63 hm
   refine wp_skip (thenN ?_)
   refine wp_seq (region_plain ?_)
   refine lx_e (.agg #[(.int .i64 a0.1), (.int .i64 a0.2.1), v33, v35]) S trivial (by decide) rfl trivial (q_loadA (cs := [(.int .i64 a0.1), (.int .i64 a0.2.1), v33, v35]) rfl (isP_bp _) Tryz.isAgg25 Tryz.sizeOf25 (by rintro _ rfl; exact (fun j u hu => boxAt (i := 0) H rfl hu))) (fun a S => ?_)
   obtain ⟨x66, e67, hm⟩ := bind_some hm
   refine lx_call (xs := [.tmp 23]) S trivial (by decide) rfl rfl Tryz.call21 ((laws_toLts_ok ⟨[(.int .i64 a0.1), (.int .i64 a0.2.1), v33, v35], rfl, ⟨[(.int .i64 a0.1)], [(.int .i64 a0.2.1), v33, v35], rfl, rfl, ⟨[(.int .i64 a0.2.1)], [v33, v35], rfl, rfl, ⟨[v33], [v35], rfl, ((H.arg h34)).list_rd, ((H.arg h36)).list_rd⟩⟩⟩⟩ e67).mono ?_)
   rintro e w64 ⟨v68, v69, rfl, Hc65⟩
   have H := H.call2 Hc65
   refine ⟨_, rfl, trivial, fun a S => ?_⟩
   refine lq p1 S (q_move rfl) fun a S => ?_
   obtain ⟨x75, e76, hm⟩ := bind_some hm
   refine lx_call (xs := [.tmp 25]) S trivial (by decide) rfl rfl Tryz.call68 ((laws_toStringS_ok (H.arg h1) e76).mono ?_)
   rintro e w73 ⟨v77, rfl, Hc74⟩
   have H := H.call1 Hc74
   refine ⟨_, rfl, trivial, fun a S => ?_⟩
   obtain ⟨x82, e83, hm⟩ := bind_some hm
   refine lx_call (xs := [.tmp 24, .tmp 26]) S trivial (by decide) rfl rfl Tryz.call67 ((spec_IsCompletedTrace_ok ⟨[(.int .i64 x66.1), (.int .i64 x66.2.1), v68, v69], rfl, ⟨[(.int .i64 x66.1)], [(.int .i64 x66.2.1), v68, v69], rfl, rfl, ⟨[(.int .i64 x66.2.1)], [v68, v69], rfl, rfl, ⟨[v68], [v69], rfl, ((H.rdAt 1 rfl)).list_rd, ((H.rdAt 2 rfl)).list_rd⟩⟩⟩⟩ (H.rdAt 0 rfl) e83).mono ?_)
   rintro e w80 ⟨rfl, Hc81⟩
   have H := H.call0 Hc81
   refine ⟨_, rfl, trivial, fun a S => ?_⟩
   refine lq (.tuple #[(.bool x82.1), (.int .i64 x82.2)]) S (q_move rfl) fun a S => ?_
   refine lq (.bool x82.1) S (q_extract rfl rfl) fun a S => ?_
   refine lq (.int .i64 x82.2) S (q_extract rfl rfl) fun a S => ?_
   refine lq (.bool x82.1) S (q_assign rfl) fun a S => ?_
   refine lq (.int .i64 x82.2) S (q_assign rfl) fun a S => ?_
   refine lx_nil (thenN ?_)
   refine wp_seq (region_plain ?_)
   refine lx_e (.agg #[(.int .i64 a0.1), (.int .i64 a0.2.1), v33, v35]) S trivial (by decide) rfl trivial (q_loadA (cs := [(.int .i64 a0.1), (.int .i64 a0.2.1), v33, v35]) rfl (isP_bp _) Tryz.isAgg25 Tryz.sizeOf25 (by rintro _ rfl; exact (fun j u hu => boxAt (i := 3) H rfl hu))) (fun a S => ?_)
   obtain ⟨x87, e88, hm⟩ := bind_some hm
   refine lx_call (xs := [.tmp 30]) S trivial (by decide) rfl rfl Tryz.call21 ((laws_toLts_ok ⟨[(.int .i64 a0.1), (.int .i64 a0.2.1), v33, v35], rfl, ⟨[(.int .i64 a0.1)], [(.int .i64 a0.2.1), v33, v35], rfl, rfl, ⟨[(.int .i64 a0.2.1)], [v33, v35], rfl, rfl, ⟨[v33], [v35], rfl, ((H.arg h34)).list_rd, ((H.arg h36)).list_rd⟩⟩⟩⟩ e88).mono ?_)
   rintro e w85 ⟨v89, v90, rfl, Hc86⟩
   have H := H.call2 Hc86
   refine ⟨_, rfl, trivial, fun a S => ?_⟩
   refine lx_alloc S trivial (by decide) rfl H Tryz.zeroValue30 rfl (fun b94 w95 H => ⟨trivial, fun a S => ?_⟩)
   refine lx_storeBox (o := 0) (i := 0) (us := [(.int .i64 x87.1), (.int .i64 x87.2.1), v89, v90]) (cs' := [(.int .i64 x87.1), (.int .i64 x87.2.1), v89, v90]) S trivial rfl H rfl rfl rfl rfl Tryz.sizeOf30 (Nat.le_of_ble_eq_true rfl) (List.forall_mem_cons.2 ⟨rfl, (List.forall_mem_cons.2 ⟨rfl, (List.forall_mem_cons.2 ⟨one_sl (H.isSl 1 rfl), (List.forall_mem_cons.2 ⟨one_sl (H.isSl 2 rfl), (fun _ h => nomatch h)⟩)⟩)⟩)⟩) rfl (fun w97 H => ⟨trivial, fun a S => ?_⟩)
   change Heap w0 [bA b94 [(.int .i64 x87.1), (.int .i64 x87.2.1), v89, v90] 30, oA (rList rStr) v89 x87.2.2.1, oA (rList Rimpl_Edge) v90 x87.2.2.2, oA (rList rStr) v77 x75, oA (rList rStr) v68 x66.2.2.1, oA (rList Rimpl_Edge) v69 x66.2.2.2, bA b49 [(.int .i64 a0.1), (.int .i64 a0.2.1), v33, v35] 25] w97 at H
   refine lx_nil (thenN ?_)
   refine wp_seq (region_plain ?_)
   refine lq p1 S (q_move rfl) fun a S => ?_
   obtain ⟨x100, e101, hm⟩ := bind_some hm
   refine lx_call (xs := [.tmp 32]) S trivial (by decide) rfl rfl Tryz.call68 ((laws_toStringS_ok (H.arg h1) e101).mono ?_)
   rintro e w98 ⟨v102, rfl, Hc99⟩
   have H := H.call1 Hc99
   refine ⟨_, rfl, trivial, fun a S => ?_⟩
   refine lq v102 S (q_assign rfl) fun a S => ?_
   refine lx_nil (thenN ?_)
   refine wp_seq (region_plain ?_)
   refine lx_e (.agg #[(.int .i64 x87.1), (.int .i64 x87.2.1), v89, v90]) S trivial (by decide) rfl trivial (q_loadA (cs := [(.int .i64 x87.1), (.int .i64 x87.2.1), v89, v90]) rfl (isP_bp _) Tryz.isAgg30 Tryz.sizeOf30 (by rintro _ rfl; exact (fun j u hu => boxAt (i := 1) H rfl hu))) (fun a S => ?_)
   refine lq v102 S (q_move rfl) fun a S => ?_
   obtain ⟨x107, e108, hm⟩ := bind_some hm
   refine lx_call (xs := [.tmp 35, .tmp 36]) S trivial (by decide) rfl rfl Tryz.call69 ((impl_IsCompletedTrace_ok (hG.ext H.ext) ⟨[(.int .i64 x87.1), (.int .i64 x87.2.1), v89, v90], rfl, ⟨[(.int .i64 x87.1)], [(.int .i64 x87.2.1), v89, v90], rfl, rfl, ⟨[(.int .i64 x87.2.1)], [v89, v90], rfl, rfl, ⟨[v89], [v90], rfl, ((H.rdAt 2 rfl)).list_rd, ((H.rdAt 3 rfl)).list_rd⟩⟩⟩⟩ (H.rdAt 0 rfl) e108).mono ?_)
   rintro e w105 ⟨rfl, Hc106⟩
   have H := H.call0 Hc106
   refine ⟨_, rfl, trivial, fun a S => ?_⟩
   refine lq (.tuple #[(.bool x107.1), (.int .i64 x107.2)]) S (q_move rfl) fun a S => ?_
   refine lq (.bool x107.1) S (q_extract rfl rfl) fun a S => ?_
   refine lq (.int .i64 x107.2) S (q_extract rfl rfl) fun a S => ?_
   refine lq (.bool x107.1) S (q_assign rfl) fun a S => ?_
   refine lq (.int .i64 x107.2) S (q_assign rfl) fun a S => ?_
   refine lx_nil (thenN ?_)
   refine wp_seq (wp_seq (region_plain ?_))
   refine lq (.bool x107.1) S (q_move rfl) fun a S => ?_
   refine lq (.bool x82.1) S (q_move rfl) fun a S => ?_
   refine lq (.bool (x107.1 != x82.1)) S (q_bneq rfl rfl Tryz.underlying4) fun a S => ?_
   refine lq (.bool (x107.1 != x82.1)) S (q_move rfl) fun a S => ?_
   obtain ⟨t110, e111, hm⟩ := bind_some hm
   refine lx_cut 4 (fun a w => Slots a 58 [(1, p1), (2, (bp b49)), (8, (bp b94)), (9, v102), (47, (.bool t110))] ∧ Heap w0 [oA (rList rStr) v102 x100, bA b94 [(.int .i64 x87.1), (.int .i64 x87.2.1), v89, v90] 30, oA (rList rStr) v89 x87.2.2.1, oA (rList Rimpl_Edge) v90 x87.2.2.2, bA b49 [(.int .i64 a0.1), (.int .i64 a0.2.1), v33, v35] 25] w) ?_ ?_
   ·by_cases hc112 : (x107.1 != x82.1) = true
    ·have hm := ite_t hc112 e111
     refine lx_skip S rfl rfl (isB_ne hc112) (by decide) (fun a S => ?_)
     refine lx_skip S rfl rfl (isB_ne hc112) (by decide) (fun a S => ?_)
     refine lx_skip S rfl rfl (isB_ne hc112) (by decide) (fun a S => ?_)
     refine lq (.bool true) S (q_pickT' rfl hc112 rfl) fun a S => ?_
     refine lx_nil ?_
     obtain rfl := Option.some.inj hm
     have H := H.sel [0, 1, 2, 3, 7] (by decide)
     exact ⟨S.sub ⟨rfl, rfl, rfl, rfl, rfl, trivial⟩, H⟩
    ·have hm := ite_f (eq_false_of_ne_true hc112) e111
     have hc112 : (x107.1 != x82.1) = false := eq_false_of_ne_true hc112
     refine lx_q (.int .i64 x107.2) S (want_b rfl rfl hc112) (by decide) (q_move rfl) (fun a S => ?_)
     refine lx_q (.int .i64 x82.2) S (want_b rfl rfl hc112) (by decide) (q_move rfl) (fun a S => ?_)
     refine lx_q (.bool (x107.2 != x82.2)) S (want_b rfl rfl hc112) (by decide) (q_neq rfl rfl) (fun a S => ?_)
     refine lq (.bool (x107.2 != x82.2)) S (q_pickF' rfl hc112 rfl) fun a S => ?_
     refine lx_nil ?_
     obtain rfl := Option.some.inj hm
     have H := H.sel [0, 1, 2, 3, 7] (by decide)
     exact ⟨S.sub ⟨rfl, rfl, rfl, rfl, rfl, trivial⟩, H⟩
   ·rintro a w ⟨S, H⟩
    refine lx_nil (thenN ?_)
    refine cond_b S rfl (fun hc113 => ?_) (fun hc113 => ?_)
    ·have hm := ite_t hc113 hm
     refine wp_seq (region_plain ?_)
     refine lq (.bool false) S (q_assign rfl) fun a S => ?_
     refine lx_nil (thenN ?_)
     refine wp_ret (then_ret ?_)
     obtain rfl := Option.some.inj hm
     have H : Heap w0 [] w := H.sel [] (by decide)
     exact leave1 S rfl rfl ⟨rfl, H⟩
    ·have hm := ite_f hc113 hm
     refine wp_skip (thenN ?_)
     refine wp_seq ?_
     refine wp_seq ?_
     refine region_drawG (fun w1 => Heap w0 [bA b94 [(.int .i64 x87.1), (.int .i64 x87.2.1), v89, v90] 30, bA b49 [(.int .i64 a0.1), (.int .i64 a0.2.1), v33, v35] 25] w1) (fun i => [2, 3].contains i) mixed (by kernel_rfl) (fun w115 he114 => ?_)
     have H := H.later he114
     refine ⟨H.sel [1, 4] (by decide), ?_⟩
     refine lq (.agg #[(.int .i64 x87.1), (.int .i64 x87.2.1), v89, v90]) S (q_loadA (cs := [(.int .i64 x87.1), (.int .i64 x87.2.1), v89, v90]) rfl (isP_bp _) Tryz.isAgg30 Tryz.sizeOf30 (fun w1 hC => (fun j u hu => boxAt (i := 0) hC rfl hu))) fun a S => ?_
     refine lq (.agg #[(.int .i64 a0.1), (.int .i64 a0.2.1), v33, v35]) S (q_loadA (cs := [(.int .i64 a0.1), (.int .i64 a0.2.1), v33, v35]) rfl (isP_bp _) Tryz.isAgg25 Tryz.sizeOf25 (fun w1 hC => (fun j u hu => boxAt (i := 1) hC rfl hu))) fun a S => ?_
     obtain ⟨x118, e119, hm⟩ := bind_some hm
     refine lx_call (xs := [.tmp 49]) S trivial (by decide) rfl rfl Tryz.call21 ((laws_toLts_ok ⟨[(.int .i64 a0.1), (.int .i64 a0.2.1), v33, v35], rfl, ⟨[(.int .i64 a0.1)], [(.int .i64 a0.2.1), v33, v35], rfl, rfl, ⟨[(.int .i64 a0.2.1)], [v33, v35], rfl, rfl, ⟨[v33], [v35], rfl, ((H.arg h34)).list_rd, ((H.arg h36)).list_rd⟩⟩⟩⟩ e119).mono ?_)
     rintro e w116 ⟨v120, v121, rfl, Hc117⟩
     have H := H.call2 Hc117
     refine ⟨_, rfl, H.sel [3, 6] (by decide), fun a S => ?_⟩
     obtain ⟨x127, e128, hm⟩ := bind_some hm
     refine lx_call (xs := [.tmp 48, .tmp 50]) S trivial (by decide) rfl rfl Tryz.call23 ((laws_eqLts_ok ⟨[(.int .i64 x87.1), (.int .i64 x87.2.1), v89, v90], rfl, ⟨[(.int .i64 x87.1)], [(.int .i64 x87.2.1), v89, v90], rfl, rfl, ⟨[(.int .i64 x87.2.1)], [v89, v90], rfl, rfl, ⟨[v89], [v90], rfl, ((H.rdAt 4 rfl)).list_rd, ((H.rdAt 5 rfl)).list_rd⟩⟩⟩⟩ ⟨[(.int .i64 x118.1), (.int .i64 x118.2.1), v120, v121], rfl, ⟨[(.int .i64 x118.1)], [(.int .i64 x118.2.1), v120, v121], rfl, rfl, ⟨[(.int .i64 x118.2.1)], [v120, v121], rfl, rfl, ⟨[v120], [v121], rfl, ((H.rdAt 0 rfl)).list_rd, ((H.rdAt 1 rfl)).list_rd⟩⟩⟩⟩ e128).mono ?_)
     rintro e w125 ⟨rfl, Hc126⟩
     have H := H.call0 Hc126
     refine ⟨_, rfl, H.sel [3, 6] (by decide), fun a S => ?_⟩
     refine lq (.bool (!x127)) S (q_not rfl) fun a S => ?_
     refine lx_nil (thenN ?_)
     refine cond_b S rfl (fun hc130 => ?_) (fun hc130 => ?_)
     ·have hm := ite_t hc130 hm
      refine wp_seq (region_plain ?_)
      refine lq (.bool false) S (q_assign rfl) fun a S => ?_
      refine lx_nil (thenN ?_)
      refine wp_ret (then_ret ?_)
      obtain rfl := Option.some.inj hm
      have H : Heap w0 [] w125 := H.sel [] (by decide)
      exact leave1 S rfl rfl ⟨rfl, H⟩
     ·have hm := ite_f hc130 hm
      refine wp_skip (thenN ?_)
      refine wp_seq (wp_seq (region_plain ?_))
      refine lq v102 S (q_move rfl) fun a S => ?_
      refine lq p1 S (q_move rfl) fun a S => ?_
      obtain ⟨x133, e134, hm⟩ := bind_some hm
      refine lx_call (xs := [.tmp 54]) S trivial (by decide) rfl rfl Tryz.call68 ((laws_toStringS_ok (H.arg h1) e134).mono ?_)
      rintro e w131 ⟨v135, rfl, Hc132⟩
      have H := H.call1 Hc132
      refine ⟨_, rfl, trivial, fun a S => ?_⟩
      obtain ⟨x140, e141, hm⟩ := bind_some hm
      refine lx_call (xs := [.tmp 53, .tmp 55]) S trivial (by decide) rfl rfl Tryz.call38 ((laws_eqStringS_ok (H.rdAt 3 rfl) (H.rdAt 0 rfl) e141).mono ?_)
      rintro e w138 ⟨rfl, Hc139⟩
      have H := H.call0 Hc139
      refine ⟨_, rfl, trivial, fun a S => ?_⟩
      refine lq (.bool (!x140)) S (q_not rfl) fun a S => ?_
      refine lx_nil (thenN ?_)
      refine cond_b S rfl (fun hc143 => ?_) (fun hc143 => ?_)
      ·have hm := ite_t hc143 hm
       refine wp_seq (region_plain ?_)
       refine lq (.bool false) S (q_assign rfl) fun a S => ?_
       refine lx_nil (thenN ?_)
       refine wp_ret (then_ret ?_)
       obtain rfl := Option.some.inj hm
       have H : Heap w0 [] w138 := H.sel [] (by decide)
       exact leave1 S rfl rfl ⟨rfl, H⟩
      ·have hm := ite_f hc143 hm
       refine wp_skip (thenN ?_)
       refine wp_seq (region_plain ?_)
       refine lq (.bool true) S (q_assign rfl) fun a S => ?_
       refine lx_nil (thenN ?_)
       refine wp_ret ?_
       obtain rfl := Option.some.inj hm
       have H : Heap w0 [] w138 := H.sel [] (by decide)
       exact leave1 S rfl rfl ⟨rfl, H⟩
end Go.Proofs.YtkgkfbmcnchdbaaGreatDoor
