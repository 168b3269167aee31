/- The model of a statement and its walk (printed by a program of this repo). -/
import Derived.Test.YtciiinpphaaddaaGreatDoorF0
import Derived.Test.YtciiinpphaaddaaGreatDoorF1
import Derived.Test.YtciiinpphaaddaaGreatDoorF2
import Derived.Test.YtciiinpphaaddaaGreatDoorF3
import Derived.Test.YtciiinpphaaddaaGreatDoorF4
import Derived.Test.YtciiinpphaaddaaGreatDoorF5
import Derived.Test.YtciiinpphaaddaaGreatDoorF7
import Derived.Test.YtciiinpphaaddaaGreatDoorGxT
import Derived.Test.YtciiinpphaaddaaGreatDoorGxY
namespace Go.Proofs.YtciiinpphaaddaaGreatDoor
open Go.RowKit Go.Gx

/-- laws.toInt64S -/
def laws_toInt64S_m (fuel : Nat) (a0 : (List Int)) : Option ((List Int)) :=
  (mks (a0.length : Int) (0 : Int)).bind fun x31 => (iter (fun (s : (List Int) × (Int)) => (match s with | (xs48, x49) => (if (decide (x49 < (a0.length : Int))) = true then (idx a0 x49).bind fun x71 => (idx xs48 x49).bind fun _ => some (.inl ((xs48.set x49.toNat x71), (W (x49 + (1 : Int))))) else some (.inr (.inl (xs48)))) : Option (((List Int) × (Int)) ⊕ (((List Int)) ⊕ ((List Int)))))) fuel (x31, (0 : Int))).bind fun res62 => ctl (β := (List Int)) (ρ := (List Int)) (τ := (List Int)) res62 (fun (xs61) => some (xs61)) (fun q => some (q))
set_option maxRecDepth 20000 in
theorem laws_toInt64S_ok {w0 : World} {fuel : Nat} {p0 : Value} {a0 : (List Int)} {r : (List Int)} (h0 : Rd (rList (rInt .i64)) w0 p0 a0) (hm : laws_toInt64S_m fuel a0 = some r) :
  Calls Tryz.prog 22 #[p0] w0 fun e w => ∃ (v0 : Value), e = .returned (v0) ∧ Heap w0 [oA (rList (rInt .i64)) v0 r] w := by
 unfold laws_toInt64S_m at hm
 have H := Heap.start w0
 refine enter (args := [p0]) Tryz.func22 rfl 22 rfl (Nat.le_of_ble_eq_true rfl) (fun a S => ?_)
 refine wp_seq (region_plain ?_)
 refine lq (.slice none 0 0) S (q_assign rfl) fun a S => ?_
 refine lx_nil (thenN ?_)
 refine wp_seq (region_plain ?_)
 refine lq p0 S (q_move rfl) fun a S => ?_
 refine lq (.int .i64 (a0.length : Int)) S (q_lenSl rfl (h0).isSl rfl Tryz.underlying27) fun a S => ?_
 obtain ⟨x31, e32, hm⟩ := bind_some hm
 obtain ⟨m33, hn, hn2, rfl⟩ := mks_some e32
 refine lx_make (r := (rInt .i64)) (z0 := (0 : Int)) (n := m33) S trivial (by decide) rfl H (by rw [← hn]; rfl) (by rw [← hn]; rfl) Tryz.underlying27 (Tryz.ti2) rfl rfl (Nat.le_of_ble_eq_true rfl) (fun w => ⟨rfl, rfl⟩) hn2 (by decide) (fun v34 w35 H => ⟨trivial, fun a S => ?_⟩)
 refine lq v34 S (q_assign rfl) fun a S => ?_
 refine lx_nil (thenN ?_)
 refine wp_seq (wp_seq (region_plain ?_))
 refine lq (.int .i64 (0 : Int)) S (q_assign rfl) fun a S => ?_
 refine lx_nil (thenN ?_)
 obtain ⟨res62, hit63, hk66⟩ := bind_some hm
 obtain ⟨f64, hf65, hit63⟩ := iter_name hit63
 refine block_loop (fun a w => ∃ (xs61 : List Int), Slots a 22 [(3, v34)] ∧ Heap w0 [oA (rList (rInt .i64)) v34 xs61] w ∧ res62 = .inl (xs61)) ?_ ?_
 ·rintro a w ⟨xs61, S, H, rfl⟩
  have hm := ctl_inl hk66
  refine thenN ?_
  refine wp_seq (region_plain ?_)
  refine lq v34 S (q_move rfl) fun a S => ?_
  refine lq v34 S (q_assign rfl) fun a S => ?_
  refine lx_nil (thenN ?_)
  refine wp_ret ?_
  obtain rfl := Option.some.inj hm
  exact leave1 S rfl rfl ⟨v34, rfl, H⟩
 ·skip
  refine loop_ghost (fun n a w => ∃ (xs48 : List Int) (x49 : Int), Slots a 22 [(0, p0), (3, v34), (4, (.int .i64 x49))] ∧ Heap w0 [oA (rList (rInt .i64)) v34 xs48] w ∧ iter f64 n (xs48, x49) = some res62) _ ⟨(List.replicate m33 (0 : Int)), (0 : Int), S.sub ⟨rfl, rfl, rfl, trivial⟩, H, hit63⟩ ?_
  rintro n a w ⟨xs48, x49, S, H, hit63⟩
  obtain ⟨m67, o68, rfl, hm, hc69⟩ := iter_step hit63
  rw [hf65] at hm
  refine wp_seq (wp_seq (region_plain ?_))
  refine lq (.int .i64 x49) S (q_move rfl) fun a S => ?_
  refine lq p0 S (q_move rfl) fun a S => ?_
  refine lq (.int .i64 (a0.length : Int)) S (q_lenSl rfl (h0).isSl rfl Tryz.underlying27) fun a S => ?_
  refine lq (.bool (decide (x49 < (a0.length : Int)))) S (q_lss rfl rfl) fun a S => ?_
  refine lx_nil (thenN ?_)
  refine cond_b S rfl (fun hc70 => ?_) (fun hc70 => ?_)
  ·have hm := ite_t hc70 hm
   refine wp_skip (thenN ?_)
   refine wp_seq ?_
   refine wp_block ?_
   refine region_plain ?_
   refine lq v34 S (q_move rfl) fun a S => ?_
   refine lq (.int .i64 x49) S (q_move rfl) fun a S => ?_
   refine lq p0 S (q_move rfl) fun a S => ?_
   refine lq (.int .i64 x49) S (q_move rfl) fun a S => ?_
   obtain ⟨x71, e72, hm⟩ := bind_some hm
   obtain ⟨c73, h74, hat75⟩ := (h0).elem (idx_some e72).2
   obtain rfl := h74
   have hlt := lt_of_idx (idx_some e72).2
   refine lq (ePtr p0 (x49.toNat * 1)) S (q_indexAddr rfl (h0).isSl rfl (idx_some e72).1 hlt Tryz.underlying27 Tryz.sizeOf2) fun a S => ?_
   refine lx_e (.int .i64 x71) S trivial (by decide) rfl trivial (q_load1 rfl Tryz.isAgg2 (by rintro _ rfl; exact ((hat75 0 _ rfl).ext H.ext))) (fun a S => ?_)
   obtain ⟨x76, e77, hm⟩ := bind_some hm
   have hlt := lt_of_idx (idx_some e77).2
   refine lq (ePtr v34 (x49.toNat * 1)) S (q_indexAddr rfl (H.isSl 0 rfl) rfl (idx_some e77).1 hlt Tryz.underlying27 Tryz.sizeOf2) fun a S => ?_
   refine lx_storeElem (r := (rInt .i64)) (us := [(.int .i64 x71)]) (off := 0) (e' := x71) S trivial rfl H.putE (ev_zero rfl) rfl (idx_some e77).2 rfl Tryz.sizeOf2 (Nat.le_of_ble_eq_true rfl) (List.forall_mem_cons.2 ⟨rfl, (fun _ h => nomatch h)⟩) (Upd.full rfl (fun w G hG => by cases (show G = [] from hG); exact ⟨rfl, rfl⟩)) (fun w78 H => ⟨trivial, fun a S => ?_⟩)
   refine lx_nil ?_
   refine inBlock_norm ?_
   refine thenN ?_
   refine region_plain ?_
   refine lq (.int .i64 x49) S (q_move rfl) fun a S => ?_
   refine lq (.int .i64 (W (x49 + (1 : Int)))) S (q_add rfl rfl) fun a S => ?_
   refine lq (.int .i64 (W (x49 + (1 : Int)))) S (q_assign rfl) fun a S => ?_
   refine lx_nil ?_
   exact ⟨m67, Nat.lt_succ_self _, (xs48.set x49.toNat x71), (W (x49 + (1 : Int))), S.sub ⟨rfl, rfl, rfl, trivial⟩, H, it_cont hm hc69⟩
  ·have hm := ite_f hc70 hm
   refine wp_exit ?_
   refine then_exit ?_
   refine then_exit ?_
   refine inBlock_exit ?_
   obtain rfl := it_brk hm hc69
   exact ⟨xs48, S.sub ⟨rfl, trivial⟩, H, rfl⟩

/-- spec.l13Is -/
def spec_l13Is_m (fuel : Nat) (a0 : Timpl_Lts) (a1 : (List Int)) : Option (Bool) :=
  (if ((a1.length : Int) != a0.1) = true then some (false) else (iter (fun (s : (Int) × (Int)) => (match s with | (x74, x75) => (if (decide (x75 < (a1.length : Int))) = true then join (κ := Int → Option (((Int) × (Int)) ⊕ ((Unit) ⊕ (Bool)))) (fun (x108 : Int) => some (.inl (x108, (W (x75 + (1 : Int)))))) (fun K109 => (idx a1 x75).bind fun x111 => (spec_l00In_m fuel x111 (0 : Int) x74).bind fun x118 => (if (!x118) = true then some (.inr (.inr false)) else (idx a1 x75).bind fun x122 => (if (x122 == x74) = true then (K109 (W (x74 + (1 : Int)))) else (K109 x74)))) else some (.inr (.inl ()))) : Option (((Int) × (Int)) ⊕ ((Unit) ⊕ (Bool))))) fuel ((0 : Int), (0 : Int))).bind fun res99 => ctl (β := Unit) (ρ := Bool) (τ := Bool) res99 (fun _ => some (true)) (fun q => some (q)))
set_option maxRecDepth 20000 in
theorem spec_l13Is_ok {w0 : World} {fuel : Nat} {p0 p1 : Value} {a0 : Timpl_Lts} {a1 : (List Int)} {r : Bool} (h0 : Rd (rPtr Rimpl_Lts) w0 p0 a0) (h1 : Rd (rList (rInt .i64)) w0 p1 a1) (hm : spec_l13Is_m fuel a0 a1 = some r) :
  Calls Tryz.prog 48 #[p0, p1] w0 fun e w => e = .returned (.bool r) ∧ Heap w0 [] w := by
 unfold spec_l13Is_m at hm
 have H := Heap.start w0
 obtain ⟨c31, h32, hat33⟩ := h0.ptr
 obtain ⟨c38, c39, rfl, h40, h41⟩ := h32
 obtain rfl := h40
 obtain ⟨c42, c43, rfl, h44, h45⟩ := h41
 obtain rfl := h44
 obtain ⟨c46, c47, rfl, h48, h49⟩ := h45
 obtain ⟨v34, rfl, h35⟩ := rd_list h48
 obtain ⟨v36, rfl, h37⟩ := rd_list h49
 refine enter (args := [p0, p1]) Tryz.func48 rfl 35 rfl (Nat.le_of_ble_eq_true rfl) (fun a S => ?_)
 refine wp_seq (region_plain ?_)
 refine lq (.bool false) S (q_assign rfl) fun a S => ?_
 refine lx_nil (thenN ?_)
 refine wp_seq (wp_seq (region_plain ?_))
 refine lq p1 S (q_move rfl) fun a S => ?_
 refine lq (.int .i64 (a1.length : Int)) S (q_lenSl rfl (h1).isSl rfl Tryz.underlying27) fun a S => ?_
 refine lq p0 S (q_move rfl) fun a S => ?_
 refine lq p0 S (q_nilCheck rfl ((hat33 0 _ rfl).isP)) fun a S => ?_
 refine lq (pAdd p0 0) S (q_fieldAddr' 0 2 rfl ((hat33 0 _ rfl).isP) Tryz.underlying32 rfl Tryz.sizeOf2) fun a S => ?_
 refine lx_e (.int .i64 a0.1) S trivial (by decide) rfl trivial (q_load1 rfl Tryz.isAgg2 (by rintro _ rfl; exact (At.of_add (m := 0) (j := 0) ((hat33 0 _ rfl).ext H.ext)))) (fun a S => ?_)
 refine lq (.bool ((a1.length : Int) != a0.1)) S (q_neq rfl rfl) fun a S => ?_
 refine lx_nil (thenN ?_)
 refine cond_b S rfl (fun hc50 => ?_) (fun hc50 => ?_)
 ·have hm := ite_t hc50 hm
  refine wp_seq (region_plain ?_)
  refine lq (.bool false) S (q_assign rfl) fun a S => ?_
  refine lx_nil (thenN ?_)
  refine wp_ret (then_ret ?_)
  obtain rfl := Option.some.inj hm
  exact leave1 S rfl rfl ⟨rfl, H⟩
 ·have hm := ite_f hc50 hm
  refine wp_skip (thenN ?_)
  refine wp_seq (region_plain ?_)
  refine lq (.int .i64 (0 : Int)) S (q_assign rfl) fun a S => ?_
  refine lx_nil (thenN ?_)
  refine wp_seq (wp_seq (region_plain ?_))
  refine lq (.int .i64 (0 : Int)) S (q_assign rfl) fun a S => ?_
  refine lx_nil (thenN ?_)
  obtain ⟨res99, hit100, hk103⟩ := bind_some hm
  obtain ⟨f101, hf102, hit100⟩ := iter_name hit100
  refine block_loop (fun a w => Slots a 35 [] ∧ Heap w0 [] w ∧ res99 = .inl ()) ?_ ?_
  ·rintro a w ⟨S, H, rfl⟩
   have hm := ctl_inl hk103
   refine thenN ?_
   refine wp_seq (region_plain ?_)
   refine lq (.bool true) S (q_assign rfl) fun a S => ?_
   refine lx_nil (thenN ?_)
   refine wp_ret ?_
   obtain rfl := Option.some.inj hm
   exact leave1 S rfl rfl ⟨rfl, H⟩
  ·skip
   refine loop_ghost (fun n a w => ∃ (x74 : Int) (x75 : Int), Slots a 35 [(1, p1), (5, (.int .i64 x74)), (6, (.int .i64 x75))] ∧ Heap w0 [] w ∧ iter f101 n (x74, x75) = some res99) _ ⟨(0 : Int), (0 : Int), S.sub ⟨rfl, rfl, rfl, trivial⟩, H, hit100⟩ ?_
   rintro n a w ⟨x74, x75, S, H, hit100⟩
   obtain ⟨m104, o105, rfl, hm, hc106⟩ := iter_step hit100
   rw [hf102] at hm
   refine wp_seq (wp_seq (region_plain ?_))
   refine lq (.int .i64 x75) S (q_move rfl) fun a S => ?_
   refine lq p1 S (q_move rfl) fun a S => ?_
   refine lq (.int .i64 (a1.length : Int)) S (q_lenSl rfl (h1).isSl rfl Tryz.underlying27) fun a S => ?_
   refine lq (.bool (decide (x75 < (a1.length : Int)))) S (q_lss rfl rfl) fun a S => ?_
   refine lx_nil (thenN ?_)
   refine cond_b S rfl (fun hc107 => ?_) (fun hc107 => ?_)
   ·have hm := ite_t hc107 hm
    refine wp_skip (thenN ?_)
    obtain ⟨K109, hK110, hm⟩ := join_elim hm
    refine seq_cut (fun a w => ∃ (x108 : Int), Slots a 35 [(1, p1), (5, (.int .i64 x108)), (6, (.int .i64 x75))] ∧ Heap w0 [] w ∧ K109 x108 = some o105) ?_ ?_
    ·rintro a w ⟨x108, S, H, hm⟩
     subst hK110
     refine region_plain ?_
     refine lq (.int .i64 x75) S (q_move rfl) fun a S => ?_
     refine lq (.int .i64 (W (x75 + (1 : Int)))) S (q_add rfl rfl) fun a S => ?_
     refine lq (.int .i64 (W (x75 + (1 : Int)))) S (q_assign rfl) fun a S => ?_
     refine lx_nil ?_
     exact ⟨m104, Nat.lt_succ_self _, x108, (W (x75 + (1 : Int))), S.sub ⟨rfl, rfl, rfl, trivial⟩, H, it_cont hm hc106⟩
    ·skip
     refine wp_block ?_
     refine wp_seq (wp_seq (region_plain ?_))
     refine lq p1 S (q_move rfl) fun a S => ?_
     refine lq (.int .i64 x75) S (q_move rfl) fun a S => ?_
     obtain ⟨x111, e112, hm⟩ := bind_some hm
     obtain ⟨c113, h114, hat115⟩ := (h1).elem (idx_some e112).2
     obtain rfl := h114
     have hlt := lt_of_idx (idx_some e112).2
     refine lq (ePtr p1 (x75.toNat * 1)) S (q_indexAddr rfl (h1).isSl rfl (idx_some e112).1 hlt Tryz.underlying27 Tryz.sizeOf2) fun a S => ?_
     refine lx_e (.int .i64 x111) S trivial (by decide) rfl trivial (q_load1 rfl Tryz.isAgg2 (by rintro _ rfl; exact ((hat115 0 _ rfl).ext H.ext))) (fun a S => ?_)
     refine lq (.int .i64 x74) S (q_move rfl) fun a S => ?_
     obtain ⟨x118, e119, hm⟩ := bind_some hm
     refine lx_call (xs := [.tmp 23, .const (.int .i64 (0)), .tmp 24]) S trivial (by decide) rfl rfl Tryz.call71 ((spec_l00In_ok    e119).mono ?_)
     rintro e w116 ⟨rfl, Hc117⟩
     have H := H.call0 Hc117
     refine ⟨_, rfl, trivial, fun a S => ?_⟩
     refine lq (.bool (!x118)) S (q_not rfl) fun a S => ?_
     refine lx_nil (thenN ?_)
     refine cond_b S rfl (fun hc121 => ?_) (fun hc121 => ?_)
     ·have hm := ite_t hc121 hm
      refine wp_seq (region_plain ?_)
      refine lq (.bool false) S (q_assign rfl) fun a S => ?_
      refine lx_nil (thenN ?_)
      refine wp_ret (then_ret ?_)
      refine inBlock_ret ?_
      refine then_ret ?_
      refine then_ret ?_
      refine inBlock_ret ?_
      refine then_ret ?_
      refine then_ret ?_
      obtain rfl := it_brk hm hc106
      have hm := ctl_inr hk103
      obtain rfl := Option.some.inj hm
      exact leave1 S rfl rfl ⟨rfl, H⟩
     ·have hm := ite_f hc121 hm
      refine wp_skip (thenN ?_)
      refine wp_seq (region_plain ?_)
      refine lq p1 S (q_move rfl) fun a S => ?_
      refine lq (.int .i64 x75) S (q_move rfl) fun a S => ?_
      obtain ⟨x122, e123, hm⟩ := bind_some hm
      obtain ⟨c124, h125, hat126⟩ := (h1).elem (idx_some e123).2
      obtain rfl := h125
      have hlt := lt_of_idx (idx_some e123).2
      refine lq (ePtr p1 (x75.toNat * 1)) S (q_indexAddr rfl (h1).isSl rfl (idx_some e123).1 hlt Tryz.underlying27 Tryz.sizeOf2) fun a S => ?_
      refine lx_e (.int .i64 x122) S trivial (by decide) rfl trivial (q_load1 rfl Tryz.isAgg2 (by rintro _ rfl; exact ((hat126 0 _ rfl).ext H.ext))) (fun a S => ?_)
      refine lq (.int .i64 x74) S (q_move rfl) fun a S => ?_
      refine lq (.bool (x122 == x74)) S (q_eql rfl rfl) fun a S => ?_
      refine lx_nil (thenN ?_)
      refine cond_b S rfl (fun hc127 => ?_) (fun hc127 => ?_)
      ·have hm := ite_t hc127 hm
       refine region_plain ?_
       refine lq (.int .i64 x74) S (q_move rfl) fun a S => ?_
       refine lq (.int .i64 (W (x74 + (1 : Int)))) S (q_add rfl rfl) fun a S => ?_
       refine lq (.int .i64 (W (x74 + (1 : Int)))) S (q_assign rfl) fun a S => ?_
       refine lx_nil ?_
       refine inBlock_norm ?_
       exact ⟨(W (x74 + (1 : Int))), S.sub ⟨rfl, rfl, rfl, trivial⟩, H, hm⟩
      ·have hm := ite_f hc127 hm
       refine wp_skip ?_
       refine inBlock_norm ?_
       exact ⟨x74, S.sub ⟨rfl, rfl, rfl, trivial⟩, H, hm⟩
   ·have hm := ite_f hc107 hm
    refine wp_exit ?_
    refine then_exit ?_
    refine then_exit ?_
    refine inBlock_exit ?_
    obtain rfl := it_brk hm hc106
    exact ⟨S.sub trivial, H, rfl⟩

/-- spec.l13Stable -/
def spec_l13Stable_m (fuel : Nat) (a0 : Timpl_Lts) (a1 : (List Int)) : Option (Bool) :=
  (spec_l13Refine_m fuel a0 a1).bind fun x52 => (spec_l00Same_m fuel x52 a1).bind fun x59 => some (x59)
set_option maxRecDepth 20000 in
theorem spec_l13Stable_ok {w0 : World} {fuel : Nat} {p0 p1 : Value} {a0 : Timpl_Lts} {a1 : (List Int)} {r : Bool} (h0 : Rd (rPtr Rimpl_Lts) w0 p0 a0) (h1 : Rd (rList (rInt .i64)) w0 p1 a1) (hm : spec_l13Stable_m fuel a0 a1 = some r) :
  Calls Tryz.prog 49 #[p0, p1] w0 fun e w => e = .returned (.bool r) ∧ Heap w0 [] w := by
 unfold spec_l13Stable_m at hm
 have H := Heap.start w0
 obtain ⟨c31, h32, hat33⟩ := h0.ptr
 obtain ⟨c38, c39, rfl, h40, h41⟩ := h32
 obtain rfl := h40
 obtain ⟨c42, c43, rfl, h44, h45⟩ := h41
 obtain rfl := h44
 obtain ⟨c46, c47, rfl, h48, h49⟩ := h45
 obtain ⟨v34, rfl, h35⟩ := rd_list h48
 obtain ⟨v36, rfl, h37⟩ := rd_list h49
 refine enter (args := [p0, p1]) Tryz.func49 rfl 10 rfl (Nat.le_of_ble_eq_true rfl) (fun a S => ?_)
 refine wp_seq (region_plain ?_)
 refine lq (.bool false) S (q_assign rfl) fun a S => ?_
 refine lx_nil (thenN ?_)
 refine wp_seq (region_plain ?_)
 refine lq p0 S (q_move rfl) fun a S => ?_
 refine lq p1 S (q_move rfl) fun a S => ?_
 obtain ⟨x52, e53, hm⟩ := bind_some hm
 refine lx_call (xs := [.tmp 5, .tmp 6]) S trivial (by decide) rfl rfl Tryz.call83 ((spec_l13Refine_ok (H.arg h0) (H.arg h1) e53).mono ?_)
 rintro e w50 ⟨v54, rfl, Hc51⟩
 have H := H.call1 Hc51
 refine ⟨_, rfl, trivial, fun a S => ?_⟩
 refine lq p1 S (q_move rfl) fun a S => ?_
 obtain ⟨x59, e60, hm⟩ := bind_some hm
 refine lx_call (xs := [.tmp 7, .tmp 8]) S trivial (by decide) rfl rfl Tryz.call84 ((spec_l00Same_ok (H.rdAt 0 rfl) (H.arg h1) e60).mono ?_)
 rintro e w57 ⟨rfl, Hc58⟩
 have H := H.call0 Hc58
 refine ⟨_, rfl, trivial, fun a S => ?_⟩
 refine lq (.bool x59) S (q_assign rfl) fun a S => ?_
 refine lx_nil (thenN ?_)
 refine wp_ret ?_
 obtain rfl := Option.some.inj hm
 have H : Heap w0 [] w57 := H.sel [] (by decide)
 exact leave1 S rfl rfl ⟨rfl, H⟩

/-- spec.IsStablePartition -/
def spec_IsStablePartition_m (fuel : Nat) (a0 : Timpl_Lts) (a1 : (List Int)) : Option (Bool) :=
  (spec_l11Is_m fuel (a0.1, a0.2.1, a0.2.2.1, a0.2.2.2)).bind fun x54 => (if x54 = true then (spec_l13Is_m fuel (a0.1, a0.2.1, a0.2.2.1, a0.2.2.2) a1).bind fun x62 => some x62 else some false).bind fun t57 => (if t57 = true then (spec_l13Stable_m fuel (a0.1, a0.2.1, a0.2.2.1, a0.2.2.2) a1).bind fun x70 => some x70 else some false).bind fun t65 => some (t65)
set_option maxRecDepth 20000 in
theorem spec_IsStablePartition_ok {w0 : World} {fuel : Nat} {p0 p1 : Value} {a0 : Timpl_Lts} {a1 : (List Int)} {r : Bool} (h0 : Rd Rimpl_Lts w0 p0 a0) (h1 : Rd (rList (rInt .i64)) w0 p1 a1) (hm : spec_IsStablePartition_m fuel a0 a1 = some r) :
  Calls Tryz.prog 21 #[p0, p1] w0 fun e w => e = .returned (.bool r) ∧ Heap w0 [] w := by
 unfold spec_IsStablePartition_m at hm
 have H := Heap.start w0
 obtain ⟨c31, rfl, h32⟩ := h0
 obtain ⟨c37, c38, rfl, h39, h40⟩ := h32
 obtain rfl := h39
 obtain ⟨c41, c42, rfl, h43, h44⟩ := h40
 obtain rfl := h43
 obtain ⟨c45, c46, rfl, h47, h48⟩ := h44
 obtain ⟨v33, rfl, h34⟩ := rd_list h47
 obtain ⟨v35, rfl, h36⟩ := rd_list h48
 refine enter (args := [(.agg #[(.int .i64 a0.1), (.int .i64 a0.2.1), v33, v35]), p1]) Tryz.func21 rfl 14 rfl (Nat.le_of_ble_eq_true rfl) (fun a S => ?_)
 refine wp_seq (region_plain ?_)
 refine lx_box S trivial (by decide) rfl H rfl rfl (fun b49 w50 H => ⟨trivial, fun a S => ?_⟩)
 refine lq (.bool false) S (q_assign rfl) fun a S => ?_
 refine lx_nil (thenN ?_)
 refine wp_seq (region_plain ?_)
 obtain ⟨x54, e55, hm⟩ := bind_some hm
 refine lx_call (xs := [.tmp 2]) S trivial (by decide) rfl rfl Tryz.call35 ((spec_l11Is_ok (rdPtr_box H 0 rfl ⟨[(.int .i64 a0.1)], [(.int .i64 a0.2.1), v33, v35], rfl, rfl, ⟨[(.int .i64 a0.2.1)], [v33, v35], rfl, rfl, ⟨[v33], [v35], rfl, ((H.arg h34)).list_rd, ((H.arg h36)).list_rd⟩⟩⟩) e55).mono ?_)
 rintro e w52 ⟨rfl, Hc53⟩
 have H := H.call0 Hc53
 refine ⟨_, rfl, trivial, fun a S => ?_⟩
 refine lq (.bool x54) S (q_move rfl) fun a S => ?_
 obtain ⟨t57, e58, hm⟩ := bind_some hm
 refine lx_cut 3 (fun a w => Slots a 14 [(1, p1), (2, (bp b49)), (9, (.bool t57))] ∧ Heap w0 [bA b49 [(.int .i64 a0.1), (.int .i64 a0.2.1), v33, v35] 32] w) ?_ ?_
 ·by_cases hc59 : x54 = true
  ·have hm := ite_t hc59 e58
   refine lx_q p1 S (want_b rfl rfl hc59) (by decide) (q_move rfl) (fun a S => ?_)
   obtain ⟨x62, e63, hm⟩ := bind_some hm
   refine lx_call (xs := [.tmp 2, .tmp 7]) S (want_b rfl rfl hc59) (by decide) rfl rfl Tryz.call48 ((spec_l13Is_ok (rdPtr_box H 0 rfl ⟨[(.int .i64 a0.1)], [(.int .i64 a0.2.1), v33, v35], rfl, rfl, ⟨[(.int .i64 a0.2.1)], [v33, v35], rfl, rfl, ⟨[v33], [v35], rfl, ((H.arg h34)).list_rd, ((H.arg h36)).list_rd⟩⟩⟩) (H.arg h1) e63).mono ?_)
   rintro e w60 ⟨rfl, Hc61⟩
   have H := H.call0 Hc61
   refine ⟨_, rfl, trivial, fun a S => ?_⟩
   refine lq (.bool x62) S (q_pickT' rfl hc59 rfl) fun a S => ?_
   refine lx_nil ?_
   obtain rfl := Option.some.inj hm
   exact ⟨S.sub ⟨rfl, rfl, rfl, trivial⟩, H⟩
  ·have hm := ite_f (eq_false_of_ne_true hc59) e58
   have hc59 : x54 = false := eq_false_of_ne_true hc59
   refine lx_skip S rfl rfl (isB_ne hc59) (by decide) (fun a S => ?_)
   refine lx_skip S rfl rfl (isB_ne hc59) (by decide) (fun a S => ?_)
   refine lq (.bool false) S (q_pickF' rfl hc59 rfl) fun a S => ?_
   refine lx_nil ?_
   obtain rfl := Option.some.inj hm
   exact ⟨S.sub ⟨rfl, rfl, rfl, trivial⟩, H⟩
 ·rintro a w ⟨S, H⟩
  refine lq (.bool t57) S (q_move rfl) fun a S => ?_
  obtain ⟨t65, e66, hm⟩ := bind_some hm
  refine lx_cut 3 (fun a w => Slots a 14 [(13, (.bool t65))] ∧ Heap w0 [] w) ?_ ?_
  ·by_cases hc67 : t57 = true
   ·have hm := ite_t hc67 e66
    refine lx_q p1 S (want_b rfl rfl hc67) (by decide) (q_move rfl) (fun a S => ?_)
    obtain ⟨x70, e71, hm⟩ := bind_some hm
    refine lx_call (xs := [.tmp 2, .tmp 11]) S (want_b rfl rfl hc67) (by decide) rfl rfl Tryz.call49 ((spec_l13Stable_ok (rdPtr_box H 0 rfl ⟨[(.int .i64 a0.1)], [(.int .i64 a0.2.1), v33, v35], rfl, rfl, ⟨[(.int .i64 a0.2.1)], [v33, v35], rfl, rfl, ⟨[v33], [v35], rfl, ((H.arg h34)).list_rd, ((H.arg h36)).list_rd⟩⟩⟩) (H.arg h1) e71).mono ?_)
    rintro e w68 ⟨rfl, Hc69⟩
    have H := H.call0 Hc69
    refine ⟨_, rfl, trivial, fun a S => ?_⟩
    refine lq (.bool x70) S (q_pickT' rfl hc67 rfl) fun a S => ?_
    refine lx_nil ?_
    obtain rfl := Option.some.inj hm
    have H := H.sel [] (by decide)
    exact ⟨S.sub ⟨rfl, trivial⟩, H⟩
   ·have hm := ite_f (eq_false_of_ne_true hc67) e66
    have hc67 : t57 = false := eq_false_of_ne_true hc67
    refine lx_skip S rfl rfl (isB_ne hc67) (by decide) (fun a S => ?_)
    refine lx_skip S rfl rfl (isB_ne hc67) (by decide) (fun a S => ?_)
    refine lq (.bool false) S (q_pickF' rfl hc67 rfl) fun a S => ?_
    refine lx_nil ?_
    obtain rfl := Option.some.inj hm
    have H := H.sel [] (by decide)
    exact ⟨S.sub ⟨rfl, trivial⟩, H⟩
  ·rintro a w ⟨S, H⟩
   refine lq (.bool t65) S (q_assign rfl) fun a S => ?_
   refine lx_nil (thenN ?_)
   refine wp_ret ?_
   obtain rfl := Option.some.inj hm
   exact leave1 S rfl rfl ⟨rfl, H⟩

/-- impl.itemsOk -/
def impl_itemsOk_m (fuel : Nat) (a0 : Int) : Option (Bool) :=
  (impl_within_m fuel a0 (1 : Int) (40 : Int)).bind fun x33 => some (x33)
set_option maxRecDepth 20000 in
theorem impl_itemsOk_ok {w0 : World} {fuel : Nat} {a0 : Int} {r : Bool} (hm : impl_itemsOk_m fuel a0 = some r) :
  Calls Tryz.prog 150 #[.int .i64 a0] w0 fun e w => e = .returned (.bool r) ∧ Heap w0 [] w := by
 unfold impl_itemsOk_m at hm
 have H := Heap.start w0
 refine enter (args := [.int .i64 a0]) Tryz.func150 rfl 5 rfl (Nat.le_of_ble_eq_true rfl) (fun a S => ?_)
 refine wp_seq (region_plain ?_)
 refine lq (.bool false) S (q_assign rfl) fun a S => ?_
 refine lx_nil (thenN ?_)
 refine wp_seq (region_plain ?_)
 refine lq (.int .i64 a0) S (q_move rfl) fun a S => ?_
 obtain ⟨x33, e34, hm⟩ := bind_some hm
 refine lx_call (xs := [.tmp 3, .const (.int .i64 (1)), .const (.int .i64 (40))]) S trivial (by decide) rfl rfl Tryz.call75 ((impl_within_ok    e34).mono ?_)
 rintro e w31 ⟨rfl, Hc32⟩
 have H := H.call0 Hc32
 refine ⟨_, rfl, trivial, fun a S => ?_⟩
 refine lq (.bool x33) S (q_assign rfl) fun a S => ?_
 refine lx_nil (thenN ?_)
 refine wp_ret ?_
 obtain rfl := Option.some.inj hm
 exact leave1 S rfl rfl ⟨rfl, H⟩

/-- impl.IsPartition -/
def impl_IsPartition_m (fuel : Nat) (a0 : (List Int)) : Option (Bool) :=
  (impl_itemsOk_m fuel (a0.length : Int)).bind fun x33 => (if x33 = true then (impl_normal_m fuel a0).bind fun x41 => (slices_Equal__int64_int64_m fuel a0 x41).bind fun x48 => some x48 else some false).bind fun t36 => some (t36)
set_option maxRecDepth 20000 in
theorem impl_IsPartition_ok {w0 : World} {fuel : Nat} {p0 : Value} {a0 : (List Int)} {r : Bool} (h0 : Rd (rList (rInt .i64)) w0 p0 a0) (hm : impl_IsPartition_m fuel a0 = some r) :
  Calls Tryz.prog 117 #[p0] w0 fun e w => e = .returned (.bool r) ∧ Heap w0 [] w := by
 unfold impl_IsPartition_m at hm
 have H := Heap.start w0
 refine enter (args := [p0]) Tryz.func117 rfl 12 rfl (Nat.le_of_ble_eq_true rfl) (fun a S => ?_)
 refine wp_seq (region_plain ?_)
 refine lq (.bool false) S (q_assign rfl) fun a S => ?_
 refine lx_nil (thenN ?_)
 refine wp_seq (region_plain ?_)
 refine lq p0 S (q_move rfl) fun a S => ?_
 refine lq (.int .i64 (a0.length : Int)) S (q_lenSl rfl (h0).isSl rfl Tryz.underlying27) fun a S => ?_
 obtain ⟨x33, e34, hm⟩ := bind_some hm
 refine lx_call (xs := [.tmp 4]) S trivial (by decide) rfl rfl Tryz.call150 ((impl_itemsOk_ok  e34).mono ?_)
 rintro e w31 ⟨rfl, Hc32⟩
 have H := H.call0 Hc32
 refine ⟨_, rfl, trivial, fun a S => ?_⟩
 refine lq (.bool x33) S (q_move rfl) fun a S => ?_
 obtain ⟨t36, e37, hm⟩ := bind_some hm
 refine lx_cut 5 (fun a w => Slots a 12 [(11, (.bool t36))] ∧ Heap w0 [] w) ?_ ?_
 ·by_cases hc38 : x33 = true
  ·have hm := ite_t hc38 e37
   refine lx_q p0 S (want_b rfl rfl hc38) (by decide) (q_move rfl) (fun a S => ?_)
   refine lx_q p0 S (want_b rfl rfl hc38) (by decide) (q_move rfl) (fun a S => ?_)
   obtain ⟨x41, e42, hm⟩ := bind_some hm
   refine lx_call (xs := [.tmp 8]) S (want_b rfl rfl hc38) (by decide) rfl rfl Tryz.call116 ((impl_normal_ok (H.arg h0) e42).mono ?_)
   rintro e w39 ⟨v43, rfl, Hc40⟩
   have H := H.call1 Hc40
   refine ⟨_, rfl, trivial, fun a S => ?_⟩
   obtain ⟨x48, e49, hm⟩ := bind_some hm
   refine lx_call (xs := [.tmp 7, .tmp 9]) S (want_b rfl rfl hc38) (by decide) rfl rfl Tryz.call51 ((slices_Equal__int64_int64_ok (H.arg h0) (H.rdAt 0 rfl) e49).mono ?_)
   rintro e w46 ⟨rfl, Hc47⟩
   have H := H.call0 Hc47
   refine ⟨_, rfl, trivial, fun a S => ?_⟩
   refine lq (.bool x48) S (q_pickT' rfl hc38 rfl) fun a S => ?_
   refine lx_nil ?_
   obtain rfl := Option.some.inj hm
   have H := H.sel [] (by decide)
   exact ⟨S.sub ⟨rfl, trivial⟩, H⟩
  ·have hm := ite_f (eq_false_of_ne_true hc38) e37
   have hc38 : x33 = false := eq_false_of_ne_true hc38
   refine lx_skip S rfl rfl (isB_ne hc38) (by decide) (fun a S => ?_)
   refine lx_skip S rfl rfl (isB_ne hc38) (by decide) (fun a S => ?_)
   refine lx_skip S rfl rfl (isB_ne hc38) (by decide) (fun a S => ?_)
   refine lx_skip S rfl rfl (isB_ne hc38) (by decide) (fun a S => ?_)
   refine lq (.bool false) S (q_pickF' rfl hc38 rfl) fun a S => ?_
   refine lx_nil ?_
   obtain rfl := Option.some.inj hm
   exact ⟨S.sub ⟨rfl, trivial⟩, H⟩
 ·rintro a w ⟨S, H⟩
  refine lq (.bool t36) S (q_assign rfl) fun a S => ?_
  refine lx_nil (thenN ?_)
  refine wp_ret ?_
  obtain rfl := Option.some.inj hm
  exact leave1 S rfl rfl ⟨rfl, H⟩

/-- (impl.Lts).partitionOf -/
def impl_Lts_partitionOf_m (fuel : Nat) (a0 : Timpl_Lts) (a1 : (List Int)) : Option (Bool) :=
  (impl_IsPartition_m fuel a1).bind fun x54 => (if x54 = true then some ((a1.length : Int) == a0.1) else some false).bind fun t57 => some (t57)
set_option maxRecDepth 20000 in
theorem impl_Lts_partitionOf_ok {w0 : World} {fuel : Nat} {p0 p1 : Value} {a0 : Timpl_Lts} {a1 : (List Int)} {r : Bool} (h0 : Rd Rimpl_Lts w0 p0 a0) (h1 : Rd (rList (rInt .i64)) w0 p1 a1) (hm : impl_Lts_partitionOf_m fuel a0 a1 = some r) :
  Calls Tryz.prog 89 #[p0, p1] w0 fun e w => e = .returned (.bool r) ∧ Heap w0 [] w := by
 unfold impl_Lts_partitionOf_m at hm
 have H := Heap.start w0
 obtain ⟨c31, rfl, h32⟩ := h0
 obtain ⟨c37, c38, rfl, h39, h40⟩ := h32
 obtain rfl := h39
 obtain ⟨c41, c42, rfl, h43, h44⟩ := h40
 obtain rfl := h43
 obtain ⟨c45, c46, rfl, h47, h48⟩ := h44
 obtain ⟨v33, rfl, h34⟩ := rd_list h47
 obtain ⟨v35, rfl, h36⟩ := rd_list h48
 refine enter (args := [(.agg #[(.int .i64 a0.1), (.int .i64 a0.2.1), v33, v35]), p1]) Tryz.func89 rfl 14 rfl (Nat.le_of_ble_eq_true rfl) (fun a S => ?_)
 refine wp_seq (region_plain ?_)
 refine lx_box S trivial (by decide) rfl H rfl rfl (fun b49 w50 H => ⟨trivial, fun a S => ?_⟩)
 refine lq (.bool false) S (q_assign rfl) fun a S => ?_
 refine lx_nil (thenN ?_)
 refine wp_seq (region_plain ?_)
 refine lq p1 S (q_move rfl) fun a S => ?_
 obtain ⟨x54, e55, hm⟩ := bind_some hm
 refine lx_call (xs := [.tmp 5]) S trivial (by decide) rfl rfl Tryz.call117 ((impl_IsPartition_ok (H.arg h1) e55).mono ?_)
 rintro e w52 ⟨rfl, Hc53⟩
 have H := H.call0 Hc53
 refine ⟨_, rfl, trivial, fun a S => ?_⟩
 refine lq (.bool x54) S (q_move rfl) fun a S => ?_
 obtain ⟨t57, e58, hm⟩ := bind_some hm
 refine lx_cut 6 (fun a w => Slots a 14 [(13, (.bool t57))] ∧ Heap w0 [] w) ?_ ?_
 ·by_cases hc59 : x54 = true
  ·have hm := ite_t hc59 e58
   refine lx_q p1 S (want_b rfl rfl hc59) (by decide) (q_move rfl) (fun a S => ?_)
   refine lx_q (.int .i64 (a1.length : Int)) S (want_b rfl rfl hc59) (by decide) (q_lenSl rfl (h1).isSl rfl Tryz.underlying27) (fun a S => ?_)
   refine lx_q (pAdd (bp b49) 0) S (want_b rfl rfl hc59) (by decide) (q_fieldAddr' 0 2 rfl (isP_bp _) Tryz.underlying32 rfl Tryz.sizeOf2) (fun a S => ?_)
   refine lx_e (.int .i64 a0.1) S (want_b rfl rfl hc59) (by decide) rfl trivial (q_load1 rfl Tryz.isAgg2 (by rintro _ rfl; exact (At.of_add (m := 0) (j := 0) (boxAt (i := 0) H rfl (j := 0) rfl)))) (fun a S => ?_)
   refine lx_q (.bool ((a1.length : Int) == a0.1)) S (want_b rfl rfl hc59) (by decide) (q_eql rfl rfl) (fun a S => ?_)
   refine lq (.bool ((a1.length : Int) == a0.1)) S (q_pickT' rfl hc59 rfl) fun a S => ?_
   refine lx_nil ?_
   obtain rfl := Option.some.inj hm
   have H := H.sel [] (by decide)
   exact ⟨S.sub ⟨rfl, trivial⟩, H⟩
  ·have hm := ite_f (eq_false_of_ne_true hc59) e58
   have hc59 : x54 = false := eq_false_of_ne_true hc59
   refine lx_skip S rfl rfl (isB_ne hc59) (by decide) (fun a S => ?_)
   refine lx_skip S rfl rfl (isB_ne hc59) (by decide) (fun a S => ?_)
   refine lx_skip S rfl rfl (isB_ne hc59) (by decide) (fun a S => ?_)
   refine lx_skip S rfl rfl (isB_ne hc59) (by decide) (fun a S => ?_)
   refine lx_skip S rfl rfl (isB_ne hc59) (by decide) (fun a S => ?_)
   refine lq (.bool false) S (q_pickF' rfl hc59 rfl) fun a S => ?_
   refine lx_nil ?_
   obtain rfl := Option.some.inj hm
   have H := H.sel [] (by decide)
   exact ⟨S.sub ⟨rfl, trivial⟩, H⟩
 ·rintro a w ⟨S, H⟩
  refine lq (.bool t57) S (q_assign rfl) fun a S => ?_
  refine lx_nil (thenN ?_)
  refine wp_ret ?_
  obtain rfl := Option.some.inj hm
  exact leave1 S rfl rfl ⟨rfl, H⟩

/-- impl.ltsPartition -/
def impl_ltsPartition_m (fuel : Nat) (a0 : Timpl_Lts) (a1 : (List Int)) : Option (Int) :=
  (impl_ValidLts_m fuel (a0.1, a0.2.1, a0.2.2.1, a0.2.2.2)).bind fun x54 => (if (!x54) = true then some ((1 : Int)) else (impl_Lts_partitionOf_m fuel (a0.1, a0.2.1, a0.2.2.1, a0.2.2.2) a1).bind fun x60 => (if (!x60) = true then some ((2 : Int)) else some ((0 : Int))))
set_option maxRecDepth 20000 in
theorem impl_ltsPartition_ok {w0 : World} {fuel : Nat} {p0 p1 : Value} {a0 : Timpl_Lts} {a1 : (List Int)} {r : Int} (hG : Glob Tryz.prog w0) (h0 : Rd Rimpl_Lts w0 p0 a0) (h1 : Rd (rList (rInt .i64)) w0 p1 a1) (hm : impl_ltsPartition_m fuel a0 a1 = some r) :
  Calls Tryz.prog 50 #[p0, p1] w0 fun e w => e = .returned (.int .i64 r) ∧ Heap w0 [] w := by
 unfold impl_ltsPartition_m at hm
 have H := Heap.start w0
 obtain ⟨c31, rfl, h32⟩ := h0
 obtain ⟨c37, c38, rfl, h39, h40⟩ := h32
 obtain rfl := h39
 obtain ⟨c41, c42, rfl, h43, h44⟩ := h40
 obtain rfl := h43
 obtain ⟨c45, c46, rfl, h47, h48⟩ := h44
 obtain ⟨v33, rfl, h34⟩ := rd_list h47
 obtain ⟨v35, rfl, h36⟩ := rd_list h48
 refine enter (args := [(.agg #[(.int .i64 a0.1), (.int .i64 a0.2.1), v33, v35]), p1]) Tryz.func50 rfl 14 rfl (Nat.le_of_ble_eq_true rfl) (fun a S => ?_)
 refine wp_seq (region_plain ?_)
 refine lx_box S trivial (by decide) rfl H rfl rfl (fun b49 w50 H => ⟨trivial, fun a S => ?_⟩)
 refine lq (.int .i64 (0 : Int)) S (q_assign rfl) fun a S => ?_
 refine lx_nil (thenN ?_)
 refine wp_seq ?_
 refine wp_block ?_
 refine wp_seq (region_plain ?_)
 refine lx_e (.agg #[(.int .i64 a0.1), (.int .i64 a0.2.1), v33, v35]) S trivial (by decide) rfl trivial (q_loadA (cs := [(.int .i64 a0.1), (.int .i64 a0.2.1), v33, v35]) rfl (isP_bp _) Tryz.isAgg32 Tryz.sizeOf32 (by rintro _ rfl; exact (fun j u hu => boxAt (i := 0) H rfl hu))) (fun a S => ?_)
 obtain ⟨x54, e55, hm⟩ := bind_some hm
 refine lx_call (xs := [.tmp 6]) S trivial (by decide) rfl rfl Tryz.call39 ((impl_ValidLts_ok (hG.ext H.ext) ⟨[(.int .i64 a0.1), (.int .i64 a0.2.1), v33, v35], rfl, ⟨[(.int .i64 a0.1)], [(.int .i64 a0.2.1), v33, v35], rfl, rfl, ⟨[(.int .i64 a0.2.1)], [v33, v35], rfl, rfl, ⟨[v33], [v35], rfl, ((H.arg h34)).list_rd, ((H.arg h36)).list_rd⟩⟩⟩⟩ e55).mono ?_)
 rintro e w52 ⟨rfl, Hc53⟩
 have H := H.call0 Hc53
 refine ⟨_, rfl, trivial, fun a S => ?_⟩
 refine lq (.bool (!x54)) S (q_not rfl) fun a S => ?_
 refine lq (.bool (!x54)) S (q_assign rfl) fun a S => ?_
 refine lx_nil (thenN ?_)
 refine cond_b S rfl (fun hc57 => ?_) (fun hc57 => ?_)
 ·have hm := ite_t hc57 hm
  refine wp_seq (region_plain ?_)
  refine lq (.int .i64 (1 : Int)) S (q_assign rfl) fun a S => ?_
  refine lx_nil (thenN ?_)
  refine wp_ret (inBlock_ret ?_)
  refine then_ret ?_
  obtain rfl := Option.some.inj hm
  have H : Heap w0 [] w52 := H.sel [] (by decide)
  exact leave1 S rfl rfl ⟨rfl, H⟩
 ·have hm := ite_f hc57 hm
  refine wp_seq (region_plain ?_)
  refine lx_e (.agg #[(.int .i64 a0.1), (.int .i64 a0.2.1), v33, v35]) S trivial (by decide) rfl trivial (q_loadA (cs := [(.int .i64 a0.1), (.int .i64 a0.2.1), v33, v35]) rfl (isP_bp _) Tryz.isAgg32 Tryz.sizeOf32 (by rintro _ rfl; exact (fun j u hu => boxAt (i := 0) H rfl hu))) (fun a S => ?_)
  refine lq p1 S (q_move rfl) fun a S => ?_
  obtain ⟨x60, e61, hm⟩ := bind_some hm
  refine lx_call (xs := [.tmp 10, .tmp 11]) S trivial (by decide) rfl rfl Tryz.call89 ((impl_Lts_partitionOf_ok ⟨[(.int .i64 a0.1), (.int .i64 a0.2.1), v33, v35], rfl, ⟨[(.int .i64 a0.1)], [(.int .i64 a0.2.1), v33, v35], rfl, rfl, ⟨[(.int .i64 a0.2.1)], [v33, v35], rfl, rfl, ⟨[v33], [v35], rfl, ((H.arg h34)).list_rd, ((H.arg h36)).list_rd⟩⟩⟩⟩ (H.arg h1) e61).mono ?_)
  rintro e w58 ⟨rfl, Hc59⟩
  have H := H.call0 Hc59
  refine ⟨_, rfl, trivial, fun a S => ?_⟩
  refine lq (.bool (!x60)) S (q_not rfl) fun a S => ?_
  refine lq (.bool (!x60)) S (q_assign rfl) fun a S => ?_
  refine lx_nil (thenN ?_)
  refine cond_b S rfl (fun hc63 => ?_) (fun hc63 => ?_)
  ·have hm := ite_t hc63 hm
   refine wp_seq (region_plain ?_)
   refine lq (.int .i64 (2 : Int)) S (q_assign rfl) fun a S => ?_
   refine lx_nil (thenN ?_)
   refine wp_ret (inBlock_ret ?_)
   refine then_ret ?_
   obtain rfl := Option.some.inj hm
   have H : Heap w0 [] w58 := H.sel [] (by decide)
   exact leave1 S rfl rfl ⟨rfl, H⟩
  ·have hm := ite_f hc63 hm
   refine wp_skip ?_
   refine inBlock_norm ?_
   refine thenN ?_
   refine wp_seq (region_plain ?_)
   refine lq (.int .i64 (0 : Int)) S (q_assign rfl) fun a S => ?_
   refine lx_nil (thenN ?_)
   refine wp_ret ?_
   obtain rfl := Option.some.inj hm
   have H : Heap w0 [] w58 := H.sel [] (by decide)
   exact leave1 S rfl rfl ⟨rfl, H⟩

/-- impl.IsStablePartition -/
def impl_IsStablePartition_m (fuel : Nat) (a0 : Timpl_Lts) (a1 : (List Int)) : Option (Bool) :=
  (impl_ltsPartition_m fuel (a0.1, a0.2.1, a0.2.2.1, a0.2.2.2) a1).bind fun x54 => (if (x54 == (0 : Int)) = true then (impl_Lts_refine_m fuel (a0.1, a0.2.1, a0.2.2.1, a0.2.2.2) a1).bind fun x62 => (slices_Equal__int64_int64_m fuel x62 a1).bind fun x69 => some x69 else some false).bind fun t57 => some (t57)
set_option maxRecDepth 20000 in
theorem impl_IsStablePartition_ok {w0 : World} {fuel : Nat} {p0 p1 : Value} {a0 : Timpl_Lts} {a1 : (List Int)} {r : Bool} (hG : Glob Tryz.prog w0) (h0 : Rd Rimpl_Lts w0 p0 a0) (h1 : Rd (rList (rInt .i64)) w0 p1 a1) (hm : impl_IsStablePartition_m fuel a0 a1 = some r) :
  Calls Tryz.prog 23 #[p0, p1] w0 fun e w => e = .returned (.bool r) ∧ Heap w0 [] w := by
 unfold impl_IsStablePartition_m at hm
 have H := Heap.start w0
 obtain ⟨c31, rfl, h32⟩ := h0
 obtain ⟨c37, c38, rfl, h39, h40⟩ := h32
 obtain rfl := h39
 obtain ⟨c41, c42, rfl, h43, h44⟩ := h40
 obtain rfl := h43
 obtain ⟨c45, c46, rfl, h47, h48⟩ := h44
 obtain ⟨v33, rfl, h34⟩ := rd_list h47
 obtain ⟨v35, rfl, h36⟩ := rd_list h48
 refine enter (args := [(.agg #[(.int .i64 a0.1), (.int .i64 a0.2.1), v33, v35]), p1]) Tryz.func23 rfl 16 rfl (Nat.le_of_ble_eq_true rfl) (fun a S => ?_)
 refine wp_seq (region_plain ?_)
 refine lx_box S trivial (by decide) rfl H rfl rfl (fun b49 w50 H => ⟨trivial, fun a S => ?_⟩)
 refine lq (.bool false) S (q_assign rfl) fun a S => ?_
 refine lx_nil (thenN ?_)
 refine wp_seq (region_plain ?_)
 refine lx_e (.agg #[(.int .i64 a0.1), (.int .i64 a0.2.1), v33, v35]) S trivial (by decide) rfl trivial (q_loadA (cs := [(.int .i64 a0.1), (.int .i64 a0.2.1), v33, v35]) rfl (isP_bp _) Tryz.isAgg32 Tryz.sizeOf32 (by rintro _ rfl; exact (fun j u hu => boxAt (i := 0) H rfl hu))) (fun a S => ?_)
 refine lq p1 S (q_move rfl) fun a S => ?_
 obtain ⟨x54, e55, hm⟩ := bind_some hm
 refine lx_call (xs := [.tmp 5, .tmp 6]) S trivial (by decide) rfl rfl Tryz.call50 ((impl_ltsPartition_ok (hG.ext H.ext) ⟨[(.int .i64 a0.1), (.int .i64 a0.2.1), v33, v35], rfl, ⟨[(.int .i64 a0.1)], [(.int .i64 a0.2.1), v33, v35], rfl, rfl, ⟨[(.int .i64 a0.2.1)], [v33, v35], rfl, rfl, ⟨[v33], [v35], rfl, ((H.arg h34)).list_rd, ((H.arg h36)).list_rd⟩⟩⟩⟩ (H.arg h1) e55).mono ?_)
 rintro e w52 ⟨rfl, Hc53⟩
 have H := H.call0 Hc53
 refine ⟨_, rfl, trivial, fun a S => ?_⟩
 refine lq (.bool (x54 == (0 : Int))) S (q_eql rfl rfl) fun a S => ?_
 refine lq (.bool (x54 == (0 : Int))) S (q_move rfl) fun a S => ?_
 obtain ⟨t57, e58, hm⟩ := bind_some hm
 refine lx_cut 6 (fun a w => Slots a 16 [(15, (.bool t57))] ∧ Heap w0 [] w) ?_ ?_
 ·by_cases hc59 : (x54 == (0 : Int)) = true
  ·have hm := ite_t hc59 e58
   refine lx_e (.agg #[(.int .i64 a0.1), (.int .i64 a0.2.1), v33, v35]) S (want_b rfl rfl hc59) (by decide) rfl trivial (q_loadA (cs := [(.int .i64 a0.1), (.int .i64 a0.2.1), v33, v35]) rfl (isP_bp _) Tryz.isAgg32 Tryz.sizeOf32 (by rintro _ rfl; exact (fun j u hu => boxAt (i := 0) H rfl hu))) (fun a S => ?_)
   refine lx_q p1 S (want_b rfl rfl hc59) (by decide) (q_move rfl) (fun a S => ?_)
   obtain ⟨x62, e63, hm⟩ := bind_some hm
   refine lx_call (xs := [.tmp 10, .tmp 11]) S (want_b rfl rfl hc59) (by decide) rfl rfl Tryz.call47 ((impl_Lts_refine_ok ⟨[(.int .i64 a0.1), (.int .i64 a0.2.1), v33, v35], rfl, ⟨[(.int .i64 a0.1)], [(.int .i64 a0.2.1), v33, v35], rfl, rfl, ⟨[(.int .i64 a0.2.1)], [v33, v35], rfl, rfl, ⟨[v33], [v35], rfl, ((H.arg h34)).list_rd, ((H.arg h36)).list_rd⟩⟩⟩⟩ (H.arg h1) e63).mono ?_)
   rintro e w60 ⟨v64, rfl, Hc61⟩
   have H := H.call1 Hc61
   refine ⟨_, rfl, trivial, fun a S => ?_⟩
   refine lx_q p1 S (want_b rfl rfl hc59) (by decide) (q_move rfl) (fun a S => ?_)
   obtain ⟨x69, e70, hm⟩ := bind_some hm
   refine lx_call (xs := [.tmp 12, .tmp 13]) S (want_b rfl rfl hc59) (by decide) rfl rfl Tryz.call51 ((slices_Equal__int64_int64_ok (H.rdAt 0 rfl) (H.arg h1) e70).mono ?_)
   rintro e w67 ⟨rfl, Hc68⟩
   have H := H.call0 Hc68
   refine ⟨_, rfl, trivial, fun a S => ?_⟩
   refine lq (.bool x69) S (q_pickT' rfl hc59 rfl) fun a S => ?_
   refine lx_nil ?_
   obtain rfl := Option.some.inj hm
   have H := H.sel [] (by decide)
   exact ⟨S.sub ⟨rfl, trivial⟩, H⟩
  ·have hm := ite_f (eq_false_of_ne_true hc59) e58
   have hc59 : (x54 == (0 : Int)) = false := eq_false_of_ne_true hc59
   refine lx_skip S rfl rfl (isB_ne hc59) (by decide) (fun a S => ?_)
   refine lx_skip S rfl rfl (isB_ne hc59) (by decide) (fun a S => ?_)
   refine lx_skip S rfl rfl (isB_ne hc59) (by decide) (fun a S => ?_)
   refine lx_skip S rfl rfl (isB_ne hc59) (by decide) (fun a S => ?_)
   refine lx_skip S rfl rfl (isB_ne hc59) (by decide) (fun a S => ?_)
   refine lq (.bool false) S (q_pickF' rfl hc59 rfl) fun a S => ?_
   refine lx_nil ?_
   obtain rfl := Option.some.inj hm
   have H := H.sel [] (by decide)
   exact ⟨S.sub ⟨rfl, trivial⟩, H⟩
 ·rintro a w ⟨S, H⟩
  refine lq (.bool t57) S (q_assign rfl) fun a S => ?_
  refine lx_nil (thenN ?_)
  refine wp_ret ?_
  obtain rfl := Option.some.inj hm
  exact leave1 S rfl rfl ⟨rfl, H⟩

/-- laws.FnExactIsStablePartition -/
def laws_FnExactIsStablePartition_m (fuel : Nat) (a0 : Tlaws_Lts) (a1 : (List Int)) : Option (Bool) :=
  (if (decide ((1048576 : Int) < (a1.length : Int))) = true then some (true) else (laws_szLts_m fuel (a0.1, a0.2.1, a0.2.2.1, a0.2.2.2) (1048576 : Int)).bind fun x55 => (if (decide (x55 < (0 : Int))) = true then some (true) else (laws_toLts_m fuel (a0.1, a0.2.1, a0.2.2.1, a0.2.2.2)).bind fun x61 => (laws_toInt64S_m fuel a1).bind fun x70 => (spec_IsStablePartition_m fuel (x61.1, x61.2.1, x61.2.2.1, x61.2.2.2) x70).bind fun x77 => (laws_toLts_m fuel (a0.1, a0.2.1, a0.2.2.1, a0.2.2.2)).bind fun x82 => (laws_toInt64S_m fuel a1).bind fun x95 => (impl_IsStablePartition_m fuel (x82.1, x82.2.1, x82.2.2.1, x82.2.2.2) x95).bind fun x102 => (if (x102 != x77) = true then some (false) else (laws_toLts_m fuel (a0.1, a0.2.1, a0.2.2.1, a0.2.2.2)).bind fun x110 => (laws_eqLts_m fuel (x82.1, x82.2.1, x82.2.2.1, x82.2.2.2) (x110.1, x110.2.1, x110.2.2.1, x110.2.2.2)).bind fun x119 => (if (!x119) = true then some (false) else (laws_toInt64S_m fuel a1).bind fun x125 => (laws_eqInt64S_m fuel x95 x125).bind fun x132 => (if (!x132) = true then some (false) else some (true))))))
set_option maxRecDepth 20000 in
theorem laws_FnExactIsStablePartition_ok {w0 : World} {fuel : Nat} {p0 p1 : Value} {a0 : Tlaws_Lts} {a1 : (List Int)} {r : Bool} (hG : Glob Tryz.prog w0) (h0 : Rd Rlaws_Lts w0 p0 a0) (h1 : Rd (rList (rInt .i64)) w0 p1 a1) (hm : laws_FnExactIsStablePartition_m fuel a0 a1 = some r) :
  Calls Tryz.prog 5 #[p0, p1] w0 fun e w => e = .returned (.bool r) ∧ Heap w0 [] w := by
 unfold laws_FnExactIsStablePartition_m at hm
 have H := Heap.start w0
 obtain ⟨c31, rfl, h32⟩ := h0
 obtain ⟨c37, c38, rfl, h39, h40⟩ := h32
 obtain rfl := h39
 obtain ⟨c41, c42, rfl, h43, h44⟩ := h40
 obtain rfl := h43
 obtain ⟨c45, c46, rfl, h47, h48⟩ := h44
 obtain ⟨v33, rfl, h34⟩ := rd_list h47
 obtain ⟨v35, rfl, h36⟩ := rd_list h48
 refine enter (args := [(.agg #[(.int .i64 a0.1), (.int .i64 a0.2.1), v33, v35]), p1]) Tryz.func5 rfl 43 rfl (Nat.le_of_ble_eq_true rfl) (fun a S => ?_)
 refine wp_seq (region_plain ?_)
 refine lx_box S trivial (by decide) rfl H rfl rfl (fun b49 w50 H => ⟨trivial, fun a S => ?_⟩)
 refine lq (.bool false) S (q_assign rfl) fun a S => ?_
 refine lx_nil (thenN ?_)
 refine wp_seq (wp_seq (region_plain ?_))
 refine lq p1 S (q_move rfl) fun a S => ?_
 refine lq (.int .i64 (a1.length : Int)) S (q_lenSl rfl (h1).isSl rfl Tryz.underlying27) fun a S => ?_
 refine lq (.bool (decide ((1048576 : Int) < (a1.length : Int)))) S (q_gtr rfl rfl) fun a S => ?_
 refine lx_nil (thenN ?_)
 refine cond_b S rfl (fun hc52 => ?_) (fun hc52 => ?_)
 ·have hm := ite_t hc52 hm
  refine wp_seq (region_plain ?_)
  refine lq (.bool true) S (q_assign rfl) fun a S => ?_
  refine lx_nil (thenN ?_)
  refine wp_ret (then_ret ?_)
  obtain rfl := Option.some.inj hm
  have H : Heap w0 [] w50 := H.sel [] (by decide)
  exact leave1 S rfl rfl ⟨rfl, H⟩
 ·have hm := ite_f hc52 hm
  refine wp_skip (thenN ?_)
  refine wp_seq (region_plain ?_)
  refine lq (.int .i64 (1048576 : Int)) S (q_assign rfl) fun a S => ?_
  refine lx_nil (thenN ?_)
  refine wp_seq (region_plain ?_)
  refine lx_e (.agg #[(.int .i64 a0.1), (.int .i64 a0.2.1), v33, v35]) S trivial (by decide) rfl trivial (q_loadA (cs := [(.int .i64 a0.1), (.int .i64 a0.2.1), v33, v35]) rfl (isP_bp _) Tryz.isAgg25 Tryz.sizeOf25 (by rintro _ rfl; exact (fun j u hu => boxAt (i := 0) H rfl hu))) (fun a S => ?_)
  refine lq (.int .i64 (1048576 : Int)) S (q_move rfl) fun a S => ?_
  obtain ⟨x55, e56, hm⟩ := bind_some hm
  refine lx_call (xs := [.tmp 13, .tmp 14]) S trivial (by decide) rfl rfl Tryz.call10 ((laws_szLts_ok ⟨[(.int .i64 a0.1), (.int .i64 a0.2.1), v33, v35], rfl, ⟨[(.int .i64 a0.1)], [(.int .i64 a0.2.1), v33, v35], rfl, rfl, ⟨[(.int .i64 a0.2.1)], [v33, v35], rfl, rfl, ⟨[v33], [v35], rfl, ((H.arg h34)).list_rd, ((H.arg h36)).list_rd⟩⟩⟩⟩  e56).mono ?_)
  rintro e w53 ⟨rfl, Hc54⟩
  have H := H.call0 Hc54
  refine ⟨_, rfl, trivial, fun a S => ?_⟩
  refine lq (.int .i64 x55) S (q_assign rfl) fun a S => ?_
  refine lx_nil (thenN ?_)
  refine wp_seq (wp_seq (region_plain ?_))
  refine lq (.int .i64 x55) S (q_move rfl) fun a S => ?_
  refine lq (.bool (decide (x55 < (0 : Int)))) S (q_lss rfl rfl) fun a S => ?_
  refine lx_nil (thenN ?_)
  refine cond_b S rfl (fun hc58 => ?_) (fun hc58 => ?_)
  ·have hm := ite_t hc58 hm
   refine wp_seq (region_plain ?_)
   refine lq (.bool true) S (q_assign rfl) fun a S => ?_
   refine lx_nil (thenN ?_)
   refine wp_ret (then_ret ?_)
   obtain rfl := Option.some.inj hm
   have H : Heap w0 [] w53 := H.sel [] (by decide)
   exact leave1 S rfl rfl ⟨rfl, H⟩
  ·have hm := ite_f hc58 hm
   refine wp_skip (thenN ?_)
   refine wp_seq (region_plain ?_)
   refine lx_e (.agg #[(.int .i64 a0.1), (.int .i64 a0.2.1), v33, v35]) S trivial (by decide) rfl trivial (q_loadA (cs := [(.int .i64 a0.1), (.int .i64 a0.2.1), v33, v35]) rfl (isP_bp _) Tryz.isAgg25 Tryz.sizeOf25 (by rintro _ rfl; exact (fun j u hu => boxAt (i := 0) H rfl hu))) (fun a S => ?_)
   obtain ⟨x61, e62, hm⟩ := bind_some hm
   refine lx_call (xs := [.tmp 18]) S trivial (by decide) rfl rfl Tryz.call12 ((laws_toLts_ok ⟨[(.int .i64 a0.1), (.int .i64 a0.2.1), v33, v35], rfl, ⟨[(.int .i64 a0.1)], [(.int .i64 a0.2.1), v33, v35], rfl, rfl, ⟨[(.int .i64 a0.2.1)], [v33, v35], rfl, rfl, ⟨[v33], [v35], rfl, ((H.arg h34)).list_rd, ((H.arg h36)).list_rd⟩⟩⟩⟩ e62).mono ?_)
   rintro e w59 ⟨v63, v64, rfl, Hc60⟩
   have H := H.call2 Hc60
   refine ⟨_, rfl, trivial, fun a S => ?_⟩
   refine lq p1 S (q_move rfl) fun a S => ?_
   obtain ⟨x70, e71, hm⟩ := bind_some hm
   refine lx_call (xs := [.tmp 20]) S trivial (by decide) rfl rfl Tryz.call22 ((laws_toInt64S_ok (H.arg h1) e71).mono ?_)
   rintro e w68 ⟨v72, rfl, Hc69⟩
   have H := H.call1 Hc69
   refine ⟨_, rfl, trivial, fun a S => ?_⟩
   obtain ⟨x77, e78, hm⟩ := bind_some hm
   refine lx_call (xs := [.tmp 19, .tmp 21]) S trivial (by decide) rfl rfl Tryz.call21 ((spec_IsStablePartition_ok ⟨[(.int .i64 x61.1), (.int .i64 x61.2.1), v63, v64], rfl, ⟨[(.int .i64 x61.1)], [(.int .i64 x61.2.1), v63, v64], rfl, rfl, ⟨[(.int .i64 x61.2.1)], [v63, v64], rfl, rfl, ⟨[v63], [v64], rfl, ((H.rdAt 1 rfl)).list_rd, ((H.rdAt 2 rfl)).list_rd⟩⟩⟩⟩ (H.rdAt 0 rfl) e78).mono ?_)
   rintro e w75 ⟨rfl, Hc76⟩
   have H := H.call0 Hc76
   refine ⟨_, rfl, trivial, fun a S => ?_⟩
   refine lq (.bool x77) S (q_assign rfl) fun a S => ?_
   refine lx_nil (thenN ?_)
   refine wp_seq (region_plain ?_)
   refine lx_e (.agg #[(.int .i64 a0.1), (.int .i64 a0.2.1), v33, v35]) S trivial (by decide) rfl trivial (q_loadA (cs := [(.int .i64 a0.1), (.int .i64 a0.2.1), v33, v35]) rfl (isP_bp _) Tryz.isAgg25 Tryz.sizeOf25 (by rintro _ rfl; exact (fun j u hu => boxAt (i := 3) H rfl hu))) (fun a S => ?_)
   obtain ⟨x82, e83, hm⟩ := bind_some hm
   refine lx_call (xs := [.tmp 23]) S trivial (by decide) rfl rfl Tryz.call12 ((laws_toLts_ok ⟨[(.int .i64 a0.1), (.int .i64 a0.2.1), v33, v35], rfl, ⟨[(.int .i64 a0.1)], [(.int .i64 a0.2.1), v33, v35], rfl, rfl, ⟨[(.int .i64 a0.2.1)], [v33, v35], rfl, rfl, ⟨[v33], [v35], rfl, ((H.arg h34)).list_rd, ((H.arg h36)).list_rd⟩⟩⟩⟩ e83).mono ?_)
   rintro e w80 ⟨v84, v85, rfl, Hc81⟩
   have H := H.call2 Hc81
   refine ⟨_, rfl, trivial, fun a S => ?_⟩
   refine lx_alloc S trivial (by decide) rfl H Tryz.zeroValue32 rfl (fun b89 w90 H => ⟨trivial, fun a S => ?_⟩)
   refine lx_storeBox (o := 0) (i := 0) (us := [(.int .i64 x82.1), (.int .i64 x82.2.1), v84, v85]) (cs' := [(.int .i64 x82.1), (.int .i64 x82.2.1), v84, v85]) S trivial rfl H rfl rfl rfl rfl Tryz.sizeOf32 (Nat.le_of_ble_eq_true rfl) (List.forall_mem_cons.2 ⟨rfl, (List.forall_mem_cons.2 ⟨rfl, (List.forall_mem_cons.2 ⟨one_sl (H.isSl 1 rfl), (List.forall_mem_cons.2 ⟨one_sl (H.isSl 2 rfl), (fun _ h => nomatch h)⟩)⟩)⟩)⟩) rfl (fun w92 H => ⟨trivial, fun a S => ?_⟩)
   change Heap w0 [bA b89 [(.int .i64 x82.1), (.int .i64 x82.2.1), v84, v85] 32, oA (rList rStr) v84 x82.2.2.1, oA (rList Rimpl_Edge) v85 x82.2.2.2, oA (rList (rInt .i64)) v72 x70, oA (rList rStr) v63 x61.2.2.1, oA (rList Rimpl_Edge) v64 x61.2.2.2, bA b49 [(.int .i64 a0.1), (.int .i64 a0.2.1), v33, v35] 25] w92 at H
   refine lx_nil (thenN ?_)
   refine wp_seq (region_plain ?_)
   refine lq p1 S (q_move rfl) fun a S => ?_
   obtain ⟨x95, e96, hm⟩ := bind_some hm
   refine lx_call (xs := [.tmp 25]) S trivial (by decide) rfl rfl Tryz.call22 ((laws_toInt64S_ok (H.arg h1) e96).mono ?_)
   rintro e w93 ⟨v97, rfl, Hc94⟩
   have H := H.call1 Hc94
   refine ⟨_, rfl, trivial, fun a S => ?_⟩
   refine lq v97 S (q_assign rfl) fun a S => ?_
   refine lx_nil (thenN ?_)
   refine wp_seq (region_plain ?_)
   refine lx_e (.agg #[(.int .i64 x82.1), (.int .i64 x82.2.1), v84, v85]) S trivial (by decide) rfl trivial (q_loadA (cs := [(.int .i64 x82.1), (.int .i64 x82.2.1), v84, v85]) rfl (isP_bp _) Tryz.isAgg32 Tryz.sizeOf32 (by rintro _ rfl; exact (fun j u hu => boxAt (i := 1) H rfl hu))) (fun a S => ?_)
   refine lq v97 S (q_move rfl) fun a S => ?_
   obtain ⟨x102, e103, hm⟩ := bind_some hm
   refine lx_call (xs := [.tmp 27, .tmp 28]) S trivial (by decide) rfl rfl Tryz.call23 ((impl_IsStablePartition_ok (hG.ext H.ext) ⟨[(.int .i64 x82.1), (.int .i64 x82.2.1), v84, v85], rfl, ⟨[(.int .i64 x82.1)], [(.int .i64 x82.2.1), v84, v85], rfl, rfl, ⟨[(.int .i64 x82.2.1)], [v84, v85], rfl, rfl, ⟨[v84], [v85], rfl, ((H.rdAt 2 rfl)).list_rd, ((H.rdAt 3 rfl)).list_rd⟩⟩⟩⟩ (H.rdAt 0 rfl) e103).mono ?_)
   rintro e w100 ⟨rfl, Hc101⟩
   have H := H.call0 Hc101
   refine ⟨_, rfl, trivial, fun a S => ?_⟩
   refine lq (.bool x102) S (q_assign rfl) fun a S => ?_
   refine lx_nil (thenN ?_)
   refine wp_seq (wp_seq (region_plain ?_))
   refine lq (.bool x102) S (q_move rfl) fun a S => ?_
   refine lq (.bool x77) S (q_move rfl) fun a S => ?_
   refine lq (.bool (x102 != x77)) S (q_bneq rfl rfl Tryz.underlying4) fun a S => ?_
   refine lx_nil (thenN ?_)
   refine cond_b S rfl (fun hc105 => ?_) (fun hc105 => ?_)
   ·have hm := ite_t hc105 hm
    refine wp_seq (region_plain ?_)
    refine lq (.bool false) S (q_assign rfl) fun a S => ?_
    refine lx_nil (thenN ?_)
    refine wp_ret (then_ret ?_)
    obtain rfl := Option.some.inj hm
    have H : Heap w0 [] w100 := H.sel [] (by decide)
    exact leave1 S rfl rfl ⟨rfl, H⟩
   ·have hm := ite_f hc105 hm
    refine wp_skip (thenN ?_)
    refine wp_seq ?_
    refine wp_seq ?_
    refine region_drawG (fun w1 => Heap w0 [bA b89 [(.int .i64 x82.1), (.int .i64 x82.2.1), v84, v85] 32, bA b49 [(.int .i64 a0.1), (.int .i64 a0.2.1), v33, v35] 25] w1) (fun i => [2, 3].contains i) mixed (by kernel_rfl) (fun w107 he106 => ?_)
    have H := H.later he106
    refine ⟨H.sel [1, 7] (by decide), ?_⟩
    refine lq (.agg #[(.int .i64 x82.1), (.int .i64 x82.2.1), v84, v85]) S (q_loadA (cs := [(.int .i64 x82.1), (.int .i64 x82.2.1), v84, v85]) rfl (isP_bp _) Tryz.isAgg32 Tryz.sizeOf32 (fun w1 hC => (fun j u hu => boxAt (i := 0) hC rfl hu))) fun a S => ?_
    refine lq (.agg #[(.int .i64 a0.1), (.int .i64 a0.2.1), v33, v35]) S (q_loadA (cs := [(.int .i64 a0.1), (.int .i64 a0.2.1), v33, v35]) rfl (isP_bp _) Tryz.isAgg25 Tryz.sizeOf25 (fun w1 hC => (fun j u hu => boxAt (i := 1) hC rfl hu))) fun a S => ?_
    obtain ⟨x110, e111, hm⟩ := bind_some hm
    refine lx_call (xs := [.tmp 34]) S trivial (by decide) rfl rfl Tryz.call12 ((laws_toLts_ok ⟨[(.int .i64 a0.1), (.int .i64 a0.2.1), v33, v35], rfl, ⟨[(.int .i64 a0.1)], [(.int .i64 a0.2.1), v33, v35], rfl, rfl, ⟨[(.int .i64 a0.2.1)], [v33, v35], rfl, rfl, ⟨[v33], [v35], rfl, ((H.arg h34)).list_rd, ((H.arg h36)).list_rd⟩⟩⟩⟩ e111).mono ?_)
    rintro e w108 ⟨v112, v113, rfl, Hc109⟩
    have H := H.call2 Hc109
    refine ⟨_, rfl, H.sel [3, 9] (by decide), fun a S => ?_⟩
    obtain ⟨x119, e120, hm⟩ := bind_some hm
    refine lx_call (xs := [.tmp 33, .tmp 35]) S trivial (by decide) rfl rfl Tryz.call15 ((laws_eqLts_ok ⟨[(.int .i64 x82.1), (.int .i64 x82.2.1), v84, v85], rfl, ⟨[(.int .i64 x82.1)], [(.int .i64 x82.2.1), v84, v85], rfl, rfl, ⟨[(.int .i64 x82.2.1)], [v84, v85], rfl, rfl, ⟨[v84], [v85], rfl, ((H.rdAt 4 rfl)).list_rd, ((H.rdAt 5 rfl)).list_rd⟩⟩⟩⟩ ⟨[(.int .i64 x110.1), (.int .i64 x110.2.1), v112, v113], rfl, ⟨[(.int .i64 x110.1)], [(.int .i64 x110.2.1), v112, v113], rfl, rfl, ⟨[(.int .i64 x110.2.1)], [v112, v113], rfl, rfl, ⟨[v112], [v113], rfl, ((H.rdAt 0 rfl)).list_rd, ((H.rdAt 1 rfl)).list_rd⟩⟩⟩⟩ e120).mono ?_)
    rintro e w117 ⟨rfl, Hc118⟩
    have H := H.call0 Hc118
    refine ⟨_, rfl, H.sel [3, 9] (by decide), fun a S => ?_⟩
    refine lq (.bool (!x119)) S (q_not rfl) fun a S => ?_
    refine lx_nil (thenN ?_)
    refine cond_b S rfl (fun hc122 => ?_) (fun hc122 => ?_)
    ·have hm := ite_t hc122 hm
     refine wp_seq (region_plain ?_)
     refine lq (.bool false) S (q_assign rfl) fun a S => ?_
     refine lx_nil (thenN ?_)
     refine wp_ret (then_ret ?_)
     obtain rfl := Option.some.inj hm
     have H : Heap w0 [] w117 := H.sel [] (by decide)
     exact leave1 S rfl rfl ⟨rfl, H⟩
    ·have hm := ite_f hc122 hm
     refine wp_skip (thenN ?_)
     refine wp_seq (wp_seq (region_plain ?_))
     refine lq v97 S (q_move rfl) fun a S => ?_
     refine lq p1 S (q_move rfl) fun a S => ?_
     obtain ⟨x125, e126, hm⟩ := bind_some hm
     refine lx_call (xs := [.tmp 39]) S trivial (by decide) rfl rfl Tryz.call22 ((laws_toInt64S_ok (H.arg h1) e126).mono ?_)
     rintro e w123 ⟨v127, rfl, Hc124⟩
     have H := H.call1 Hc124
     refine ⟨_, rfl, trivial, fun a S => ?_⟩
     obtain ⟨x132, e133, hm⟩ := bind_some hm
     refine lx_call (xs := [.tmp 38, .tmp 40]) S trivial (by decide) rfl rfl Tryz.call14 ((laws_eqInt64S_ok (H.rdAt 3 rfl) (H.rdAt 0 rfl) e133).mono ?_)
     rintro e w130 ⟨rfl, Hc131⟩
     have H := H.call0 Hc131
     refine ⟨_, rfl, trivial, fun a S => ?_⟩
     refine lq (.bool (!x132)) S (q_not rfl) fun a S => ?_
     refine lx_nil (thenN ?_)
     refine cond_b S rfl (fun hc135 => ?_) (fun hc135 => ?_)
     ·have hm := ite_t hc135 hm
      refine wp_seq (region_plain ?_)
      refine lq (.bool false) S (q_assign rfl) fun a S => ?_
      refine lx_nil (thenN ?_)
      refine wp_ret (then_ret ?_)
      obtain rfl := Option.some.inj hm
      have H : Heap w0 [] w130 := H.sel [] (by decide)
      exact leave1 S rfl rfl ⟨rfl, H⟩
     ·have hm := ite_f hc135 hm
      refine wp_skip (thenN ?_)
      refine wp_seq (region_plain ?_)
      refine lq (.bool true) S (q_assign rfl) fun a S => ?_
      refine lx_nil (thenN ?_)
      refine wp_ret ?_
      obtain rfl := Option.some.inj hm
      have H : Heap w0 [] w130 := H.sel [] (by decide)
      exact leave1 S rfl rfl ⟨rfl, H⟩
end Go.Proofs.YtciiinpphaaddaaGreatDoor
