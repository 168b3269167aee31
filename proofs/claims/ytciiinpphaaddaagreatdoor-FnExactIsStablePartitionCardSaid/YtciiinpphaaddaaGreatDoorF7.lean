/- The models of some functions and their walks (printed by a program of this repo). -/
import Derived.Test.YtciiinpphaaddaaGreatDoorF0
import Derived.Test.YtciiinpphaaddaaGreatDoorF2
import Derived.Test.YtciiinpphaaddaaGreatDoorF3
import Derived.Test.YtciiinpphaaddaaGreatDoorF4
import Derived.Test.YtciiinpphaaddaaGreatDoorF6
import Derived.Test.YtciiinpphaaddaaGreatDoorGxT
import Derived.Test.YtciiinpphaaddaaGreatDoorGxY
namespace Go.Proofs.YtciiinpphaaddaaGreatDoor
open Go.RowKit Go.Gx

/-- laws.eqInt64S -/
def laws_eqInt64S_m (fuel : Nat) (a0 : (List Int)) (a1 : (List Int)) : Option (Bool) :=
  (if ((a0.length : Int) != (a1.length : Int)) = true then some (false) else (iter (fun (s : (Int)) => (match s with | (x47) => (if (decide (x47 < (a0.length : Int))) = true then (idx a0 x47).bind fun x74 => (idx a1 x47).bind fun x79 => (if (x74 != x79) = true then some (.inr (.inr false)) else some (.inl ((W (x47 + (1 : Int)))))) else some (.inr (.inl ()))) : Option (((Int)) ⊕ ((Unit) ⊕ (Bool))))) fuel ((0 : Int))).bind fun res63 => ctl (β := Unit) (ρ := Bool) (τ := Bool) res63 (fun _ => some (true)) (fun q => some (q)))
set_option maxRecDepth 20000 in
theorem laws_eqInt64S_ok {w0 : World} {fuel : Nat} {p0 p1 : Value} {a0 : (List Int)} {a1 : (List Int)} {r : Bool} (h0 : Rd (rList (rInt .i64)) w0 p0 a0) (h1 : Rd (rList (rInt .i64)) w0 p1 a1) (hm : laws_eqInt64S_m fuel a0 a1 = some r) :
  Calls Tryz.prog 14 #[p0, p1] w0 fun e w => e = .returned (.bool r) ∧ Heap w0 [] w := by
 unfold laws_eqInt64S_m at hm
 have H := Heap.start w0
 refine enter (args := [p0, p1]) Tryz.func14 rfl 26 rfl (Nat.le_of_ble_eq_true rfl) (fun a S => ?_)
 refine wp_seq (region_plain ?_)
 refine lq (.bool false) S (q_assign rfl) fun a S => ?_
 refine lx_nil (thenN ?_)
 refine wp_seq (wp_seq (region_plain ?_))
 refine lq p0 S (q_move rfl) fun a S => ?_
 refine lq (.int .i64 (a0.length : Int)) S (q_lenSl rfl (h0).isSl rfl Tryz.underlying27) fun a S => ?_
 refine lq p1 S (q_move rfl) fun a S => ?_
 refine lq (.int .i64 (a1.length : Int)) S (q_lenSl rfl (h1).isSl rfl Tryz.underlying27) fun a S => ?_
 refine lq (.bool ((a0.length : Int) != (a1.length : Int))) S (q_neq rfl rfl) fun a S => ?_
 refine lx_nil (thenN ?_)
 refine cond_b S rfl (fun hc31 => ?_) (fun hc31 => ?_)
 ·have hm := ite_t hc31 hm
  refine wp_seq (region_plain ?_)
  refine lq (.bool false) S (q_assign rfl) fun a S => ?_
  refine lx_nil (thenN ?_)
  refine wp_ret (then_ret ?_)
  obtain rfl := Option.some.inj hm
  exact leave1 S rfl rfl ⟨rfl, H⟩
 ·have hm := ite_f hc31 hm
  refine wp_skip (thenN ?_)
  refine wp_seq (wp_seq (region_plain ?_))
  refine lq (.int .i64 (0 : Int)) S (q_assign rfl) fun a S => ?_
  refine lx_nil (thenN ?_)
  obtain ⟨res63, hit64, hk67⟩ := bind_some hm
  obtain ⟨f65, hf66, hit64⟩ := iter_name hit64
  refine block_loop (fun a w => Slots a 26 [] ∧ Heap w0 [] w ∧ res63 = .inl ()) ?_ ?_
  ·rintro a w ⟨S, H, rfl⟩
   have hm := ctl_inl hk67
   refine thenN ?_
   refine wp_seq (region_plain ?_)
   refine lq (.bool true) S (q_assign rfl) fun a S => ?_
   refine lx_nil (thenN ?_)
   refine wp_ret ?_
   obtain rfl := Option.some.inj hm
   exact leave1 S rfl rfl ⟨rfl, H⟩
  ·skip
   refine loop_ghost (fun n a w => ∃ (x47 : Int), Slots a 26 [(0, p0), (1, p1), (5, (.int .i64 x47))] ∧ Heap w0 [] w ∧ iter f65 n (x47) = some res63) _ ⟨(0 : Int), S.sub ⟨rfl, rfl, rfl, trivial⟩, H, hit64⟩ ?_
   rintro n a w ⟨x47, S, H, hit64⟩
   obtain ⟨m68, o69, rfl, hm, hc70⟩ := iter_step hit64
   rw [hf66] at hm
   refine wp_seq (wp_seq (region_plain ?_))
   refine lq (.int .i64 x47) S (q_move rfl) fun a S => ?_
   refine lq p0 S (q_move rfl) fun a S => ?_
   refine lq (.int .i64 (a0.length : Int)) S (q_lenSl rfl (h0).isSl rfl Tryz.underlying27) fun a S => ?_
   refine lq (.bool (decide (x47 < (a0.length : Int)))) S (q_lss rfl rfl) fun a S => ?_
   refine lx_nil (thenN ?_)
   refine cond_b S rfl (fun hc71 => ?_) (fun hc71 => ?_)
   ·have hm := ite_t hc71 hm
    refine wp_skip (thenN ?_)
    refine wp_seq ?_
    refine wp_block ?_
    refine wp_seq ?_
    refine region_drawG (fun w1 => Heap w0 [] w1) (fun i => [].contains i) mixed (by kernel_rfl) (fun w73 he72 => ?_)
    have H := H.later he72
    refine ⟨H.sel [] (by decide), ?_⟩
    refine lq p0 S (q_move rfl) fun a S => ?_
    refine lq (.int .i64 x47) S (q_move rfl) fun a S => ?_
    obtain ⟨x74, e75, hm⟩ := bind_some hm
    obtain ⟨c76, h77, hat78⟩ := (h0).elem (idx_some e75).2
    obtain rfl := h77
    have hlt := lt_of_idx (idx_some e75).2
    refine lq (ePtr p0 (x47.toNat * 1)) S (q_indexAddr rfl (h0).isSl rfl (idx_some e75).1 hlt Tryz.underlying27 Tryz.sizeOf2) fun a S => ?_
    refine lq (.int .i64 x74) S (q_load1 rfl Tryz.isAgg2 (fun w1 hC => ((hat78 0 _ rfl).ext hC.ext))) fun a S => ?_
    refine lq p1 S (q_move rfl) fun a S => ?_
    refine lq (.int .i64 x47) S (q_move rfl) fun a S => ?_
    obtain ⟨x79, e80, hm⟩ := bind_some hm
    obtain ⟨c81, h82, hat83⟩ := (h1).elem (idx_some e80).2
    obtain rfl := h82
    have hlt := lt_of_idx (idx_some e80).2
    refine lq (ePtr p1 (x47.toNat * 1)) S (q_indexAddr rfl (h1).isSl rfl (idx_some e80).1 hlt Tryz.underlying27 Tryz.sizeOf2) fun a S => ?_
    refine lq (.int .i64 x79) S (q_load1 rfl Tryz.isAgg2 (fun w1 hC => ((hat83 0 _ rfl).ext hC.ext))) fun a S => ?_
    refine lq (.bool (x74 != x79)) S (q_neq rfl rfl) fun a S => ?_
    refine lx_nil (thenN ?_)
    refine cond_b S rfl (fun hc84 => ?_) (fun hc84 => ?_)
    ·have hm := ite_t hc84 hm
     refine wp_seq (region_plain ?_)
     refine lq (.bool false) S (q_assign rfl) fun a S => ?_
     refine lx_nil (thenN ?_)
     refine wp_ret (inBlock_ret ?_)
     refine then_ret ?_
     refine then_ret ?_
     refine inBlock_ret ?_
     refine then_ret ?_
     refine then_ret ?_
     obtain rfl := it_brk hm hc70
     have hm := ctl_inr hk67
     obtain rfl := Option.some.inj hm
     exact leave1 S rfl rfl ⟨rfl, H⟩
    ·have hm := ite_f hc84 hm
     refine wp_skip ?_
     refine inBlock_norm ?_
     refine thenN ?_
     refine region_plain ?_
     refine lq (.int .i64 x47) S (q_move rfl) fun a S => ?_
     refine lq (.int .i64 (W (x47 + (1 : Int)))) S (q_add rfl rfl) fun a S => ?_
     refine lq (.int .i64 (W (x47 + (1 : Int)))) S (q_assign rfl) fun a S => ?_
     refine lx_nil ?_
     exact ⟨m68, Nat.lt_succ_self _, (W (x47 + (1 : Int))), S.sub ⟨rfl, rfl, rfl, trivial⟩, H, it_cont hm hc70⟩
   ·have hm := ite_f hc71 hm
    refine wp_exit ?_
    refine then_exit ?_
    refine then_exit ?_
    refine inBlock_exit ?_
    obtain rfl := it_brk hm hc70
    exact ⟨S.sub trivial, H, rfl⟩

/-- impl.statesCode$1 -/
def impl_statesCode_1_m (fuel : Nat) (a0 : Int) (a1 : Timpl_Lts) : Option (Bool) :=
  (impl_Lts_isState_m fuel (a1.1, a1.2.1, a1.2.2.1, a1.2.2.2) a0).bind fun x52 => some ((!x52))
set_option maxRecDepth 20000 in
theorem impl_statesCode_1_ok {w0 : World} {fuel : Nat} {p1 : Value} {a0 : Int} {a1 : Timpl_Lts} {r : Bool} (h1 : Rd (rPtr Rimpl_Lts) w0 p1 a1) (hm : impl_statesCode_1_m fuel a0 a1 = some r) :
  Calls Tryz.prog 91 #[.int .i64 a0, p1] w0 fun e w => e = .returned (.bool r) ∧ Heap w0 [] w := by
 unfold impl_statesCode_1_m at hm
 have H := Heap.start w0
 obtain ⟨c31, h32, hat33⟩ := h1.ptr
 obtain ⟨c38, c39, rfl, h40, h41⟩ := h32
 obtain rfl := h40
 obtain ⟨c42, c43, rfl, h44, h45⟩ := h41
 obtain rfl := h44
 obtain ⟨c46, c47, rfl, h48, h49⟩ := h45
 obtain ⟨v34, rfl, h35⟩ := rd_list h48
 obtain ⟨v36, rfl, h37⟩ := rd_list h49
 refine enter (args := [.int .i64 a0, p1]) Tryz.func91 rfl 8 rfl (Nat.le_of_ble_eq_true rfl) (fun a S => ?_)
 refine wp_seq (region_plain ?_)
 refine lq (.bool false) S (q_assign rfl) fun a S => ?_
 refine lx_nil (thenN ?_)
 refine wp_seq (region_plain ?_)
 refine lx_e (.agg #[(.int .i64 a1.1), (.int .i64 a1.2.1), v34, v36]) S trivial (by decide) rfl trivial (q_loadA (cs := [(.int .i64 a1.1), (.int .i64 a1.2.1), v34, v36]) rfl ((hat33 0 _ rfl).isP) Tryz.isAgg32 Tryz.sizeOf32 (by rintro _ rfl; exact (fun j u hu => (hat33 j u hu).ext H.ext))) (fun a S => ?_)
 refine lq (.int .i64 a0) S (q_move rfl) fun a S => ?_
 obtain ⟨x52, e53, hm⟩ := bind_some hm
 refine lx_call (xs := [.tmp 4, .tmp 5]) S trivial (by decide) rfl rfl Tryz.call76 ((impl_Lts_isState_ok ⟨[(.int .i64 a1.1), (.int .i64 a1.2.1), v34, v36], rfl, ⟨[(.int .i64 a1.1)], [(.int .i64 a1.2.1), v34, v36], rfl, rfl, ⟨[(.int .i64 a1.2.1)], [v34, v36], rfl, rfl, ⟨[v34], [v36], rfl, ((H.arg h35)).list_rd, ((H.arg h37)).list_rd⟩⟩⟩⟩  e53).mono ?_)
 rintro e w50 ⟨rfl, Hc51⟩
 have H := H.call0 Hc51
 refine ⟨_, rfl, trivial, fun a S => ?_⟩
 refine lq (.bool (!x52)) S (q_not rfl) fun a S => ?_
 refine lq (.bool (!x52)) S (q_assign rfl) fun a S => ?_
 refine lx_nil (thenN ?_)
 refine wp_ret ?_
 obtain rfl := Option.some.inj hm
 exact leave1 S rfl rfl ⟨rfl, H⟩

/-- impl.statesCode -/
def impl_statesCode_m (fuel : Nat) (a0 : Timpl_Lts) (a1 : (List Int)) : Option (Int) :=
  (impl_ValidLts_m fuel (a0.1, a0.2.1, a0.2.2.1, a0.2.2.2)).bind fun x54 => (if (!x54) = true then some ((1 : Int)) else (slices_ContainsFunc__int64_int64_m fuel a1 (fun (z0 : Int) => impl_statesCode_1_m fuel z0 (a0.1, a0.2.1, a0.2.2.1, a0.2.2.2))).bind fun x60 => (if x60 = true then some ((2 : Int)) else some ((0 : Int))))
set_option maxRecDepth 20000 in
theorem impl_statesCode_ok {w0 : World} {fuel : Nat} {p0 p1 : Value} {a0 : Timpl_Lts} {a1 : (List Int)} {r : Int} (hG : Glob Tryz.prog w0) (h0 : Rd Rimpl_Lts w0 p0 a0) (h1 : Rd (rList (rInt .i64)) w0 p1 a1) (hm : impl_statesCode_m fuel a0 a1 = some r) :
  Calls Tryz.prog 54 #[p0, p1] w0 fun e w => e = .returned (.int .i64 r) ∧ Heap w0 [] w := by
 unfold impl_statesCode_m at hm
 have H := Heap.start w0
 obtain ⟨c31, rfl, h32⟩ := h0
 obtain ⟨c37, c38, rfl, h39, h40⟩ := h32
 obtain rfl := h39
 obtain ⟨c41, c42, rfl, h43, h44⟩ := h40
 obtain rfl := h43
 obtain ⟨c45, c46, rfl, h47, h48⟩ := h44
 obtain ⟨v33, rfl, h34⟩ := rd_list h47
 obtain ⟨v35, rfl, h36⟩ := rd_list h48
 refine enter (args := [(.agg #[(.int .i64 a0.1), (.int .i64 a0.2.1), v33, v35]), p1]) Tryz.func54 rfl 13 rfl (Nat.le_of_ble_eq_true rfl) (fun a S => ?_)
 refine wp_seq (region_plain ?_)
 refine lx_box S trivial (by decide) rfl H rfl rfl (fun b49 w50 H => ⟨trivial, fun a S => ?_⟩)
 refine lq (.int .i64 (0 : Int)) S (q_assign rfl) fun a S => ?_
 refine lx_nil (thenN ?_)
 refine wp_seq ?_
 refine wp_block ?_
 refine wp_seq (region_plain ?_)
 refine lx_e (.agg #[(.int .i64 a0.1), (.int .i64 a0.2.1), v33, v35]) S trivial (by decide) rfl trivial (q_loadA (cs := [(.int .i64 a0.1), (.int .i64 a0.2.1), v33, v35]) rfl (isP_bp _) Tryz.isAgg32 Tryz.sizeOf32 (by rintro _ rfl; exact (fun j u hu => boxAt (i := 0) H rfl hu))) (fun a S => ?_)
 obtain ⟨x54, e55, hm⟩ := bind_some hm
 refine lx_call (xs := [.tmp 6]) S trivial (by decide) rfl rfl Tryz.call39 ((impl_ValidLts_ok (hG.ext H.ext) ⟨[(.int .i64 a0.1), (.int .i64 a0.2.1), v33, v35], rfl, ⟨[(.int .i64 a0.1)], [(.int .i64 a0.2.1), v33, v35], rfl, rfl, ⟨[(.int .i64 a0.2.1)], [v33, v35], rfl, rfl, ⟨[v33], [v35], rfl, ((H.arg h34)).list_rd, ((H.arg h36)).list_rd⟩⟩⟩⟩ e55).mono ?_)
 rintro e w52 ⟨rfl, Hc53⟩
 have H := H.call0 Hc53
 refine ⟨_, rfl, trivial, fun a S => ?_⟩
 refine lq (.bool (!x54)) S (q_not rfl) fun a S => ?_
 refine lq (.bool (!x54)) S (q_assign rfl) fun a S => ?_
 refine lx_nil (thenN ?_)
 refine cond_b S rfl (fun hc57 => ?_) (fun hc57 => ?_)
 ·have hm := ite_t hc57 hm
  refine wp_seq (region_plain ?_)
  refine lq (.int .i64 (1 : Int)) S (q_assign rfl) fun a S => ?_
  refine lx_nil (thenN ?_)
  refine wp_ret (inBlock_ret ?_)
  refine then_ret ?_
  obtain rfl := Option.some.inj hm
  have H : Heap w0 [] w52 := H.sel [] (by decide)
  exact leave1 S rfl rfl ⟨rfl, H⟩
 ·have hm := ite_f hc57 hm
  refine wp_seq (region_plain ?_)
  refine lq p1 S (q_move rfl) fun a S => ?_
  refine lq (.func (.func 91) #[] #[(bp b49)]) S (q_makeFunc (xs := []) (ys := [.tmp 2]) rfl rfl) fun a S => ?_
  obtain ⟨x60, e61, hm⟩ := bind_some hm
  have hcap62 : Rd (rPtr Rimpl_Lts) w52 (bp b49) (a0.1, a0.2.1, a0.2.2.1, a0.2.2.2) := (rdPtr_box H 0 rfl ⟨[(.int .i64 a0.1)], [(.int .i64 a0.2.1), v33, v35], rfl, rfl, ⟨[(.int .i64 a0.2.1)], [v33, v35], rfl, rfl, ⟨[v33], [v35], rfl, ((H.arg h34)).list_rd, ((H.arg h36)).list_rd⟩⟩⟩)
  refine lx_call (xs := [.tmp 10, .tmp 11]) S trivial (by decide) rfl rfl Tryz.call90 ((slices_ContainsFunc__int64_int64_ok (f1 := 91) (fs1 := ([] : List Value)) (cp1 := ([(bp b49)] : List Value)) (a1 := (fun (z0 : Int) => impl_statesCode_1_m fuel z0 (a0.1, a0.2.1, a0.2.2.1, a0.2.2.2))) (H.arg h1) Tryz.call91 (fun he  hm => impl_statesCode_1_ok   (hcap62.ext he) hm) e61).mono ?_)
  rintro e w58 ⟨rfl, Hc59⟩
  have H := H.call0 Hc59
  refine ⟨_, rfl, trivial, fun a S => ?_⟩
  refine lq (.bool x60) S (q_assign rfl) fun a S => ?_
  refine lx_nil (thenN ?_)
  refine cond_b S rfl (fun hc64 => ?_) (fun hc64 => ?_)
  ·have hm := ite_t hc64 hm
   refine wp_seq (region_plain ?_)
   refine lq (.int .i64 (2 : Int)) S (q_assign rfl) fun a S => ?_
   refine lx_nil (thenN ?_)
   refine wp_ret (inBlock_ret ?_)
   refine then_ret ?_
   obtain rfl := Option.some.inj hm
   have H : Heap w0 [] w58 := H.sel [] (by decide)
   exact leave1 S rfl rfl ⟨rfl, H⟩
  ·have hm := ite_f hc64 hm
   refine wp_skip ?_
   refine inBlock_norm ?_
   refine thenN ?_
   refine wp_seq (region_plain ?_)
   refine lq (.int .i64 (0 : Int)) S (q_assign rfl) fun a S => ?_
   refine lx_nil (thenN ?_)
   refine wp_ret ?_
   obtain rfl := Option.some.inj hm
   have H : Heap w0 [] w58 := H.sel [] (by decide)
   exact leave1 S rfl rfl ⟨rfl, H⟩

/-- (impl.Lts).splitRound$1 -/
def impl_Lts_splitRound_1_m (_ : Nat) (a0 : (List Int)) (a1 : Int) (a2 : Int) : Option (Bool) :=
  (idx a0 a1).bind fun x39 => (idx a0 a2).bind fun x44 => some ((x39 != x44))
set_option maxRecDepth 20000 in
theorem impl_Lts_splitRound_1_ok {w0 : World} {fuel : Nat} {p0 p1 p2 : Value} {a0 : (List Int)} {a1 : Int} {a2 : Int} {r : Bool} (h0 : Rd (rList (rInt .i64)) w0 p0 a0) (h1 : Rd (rPtr (rInt .i64)) w0 p1 a1) (h2 : Rd (rPtr (rInt .i64)) w0 p2 a2) (hm : impl_Lts_splitRound_1_m fuel a0 a1 a2 = some r) :
  Calls Tryz.prog 93 #[p0, p1, p2] w0 fun e w => e = .returned (.bool r) ∧ Heap w0 [] w := by
 unfold impl_Lts_splitRound_1_m at hm
 have H := Heap.start w0
 obtain ⟨c31, h32, hat33⟩ := h1.ptr
 obtain rfl := h32
 obtain ⟨c34, h35, hat36⟩ := h2.ptr
 obtain rfl := h35
 refine enter (args := [p0, p1, p2]) Tryz.func93 rfl 14 rfl (Nat.le_of_ble_eq_true rfl) (fun a S => ?_)
 refine wp_seq (region_plain ?_)
 refine lq (.bool false) S (q_assign rfl) fun a S => ?_
 refine lx_nil (thenN ?_)
 refine wp_seq ?_
 refine region_drawG (fun w1 => Heap w0 [] w1) (fun i => [].contains i) mixed (by kernel_rfl) (fun w38 he37 => ?_)
 have H := H.later he37
 refine ⟨H.sel [] (by decide), ?_⟩
 refine lq p0 S (q_move rfl) fun a S => ?_
 refine lq (.int .i64 a1) S (q_load1 rfl Tryz.isAgg2 (fun w1 hC => ((hat33 0 _ rfl).ext hC.ext))) fun a S => ?_
 obtain ⟨x39, e40, hm⟩ := bind_some hm
 obtain ⟨c41, h42, hat43⟩ := (h0).elem (idx_some e40).2
 obtain rfl := h42
 have hlt := lt_of_idx (idx_some e40).2
 refine lq (ePtr p0 (a1.toNat * 1)) S (q_indexAddr rfl (h0).isSl rfl (idx_some e40).1 hlt Tryz.underlying27 Tryz.sizeOf2) fun a S => ?_
 refine lq (.int .i64 x39) S (q_load1 rfl Tryz.isAgg2 (fun w1 hC => ((hat43 0 _ rfl).ext hC.ext))) fun a S => ?_
 refine lq p0 S (q_move rfl) fun a S => ?_
 refine lq (.int .i64 a2) S (q_load1 rfl Tryz.isAgg2 (fun w1 hC => ((hat36 0 _ rfl).ext hC.ext))) fun a S => ?_
 obtain ⟨x44, e45, hm⟩ := bind_some hm
 obtain ⟨c46, h47, hat48⟩ := (h0).elem (idx_some e45).2
 obtain rfl := h47
 have hlt := lt_of_idx (idx_some e45).2
 refine lq (ePtr p0 (a2.toNat * 1)) S (q_indexAddr rfl (h0).isSl rfl (idx_some e45).1 hlt Tryz.underlying27 Tryz.sizeOf2) fun a S => ?_
 refine lq (.int .i64 x44) S (q_load1 rfl Tryz.isAgg2 (fun w1 hC => ((hat48 0 _ rfl).ext hC.ext))) fun a S => ?_
 refine lq (.bool (x39 != x44)) S (q_neq rfl rfl) fun a S => ?_
 refine lq (.bool (x39 != x44)) S (q_assign rfl) fun a S => ?_
 refine lx_nil (thenN ?_)
 refine wp_ret ?_
 obtain rfl := Option.some.inj hm
 exact leave1 S rfl rfl ⟨rfl, H⟩

/-- (impl.Lts).splitRound -/
def impl_Lts_splitRound_m (fuel : Nat) (a0 : Timpl_Lts) (a1 : Int) (a2 : Int) : Option (Int) :=
  (impl_rounds_m fuel a0.1 (fun (z0 : (List Int)) => impl_Lts_refine_m fuel (a0.1, a0.2.1, a0.2.2.1, a0.2.2.2) z0)).bind fun x60 => (slices_IndexFunc___int64__int64_m fuel x60 (fun (z0 : (List Int)) => impl_Lts_splitRound_1_m fuel z0 a1 a2)).bind fun x68 => some (x68)
set_option maxRecDepth 20000 in
theorem impl_Lts_splitRound_ok {w0 : World} {fuel : Nat} {p0 : Value} {a0 : Timpl_Lts} {a1 : Int} {a2 : Int} {r : Int} (h0 : Rd Rimpl_Lts w0 p0 a0) (hm : impl_Lts_splitRound_m fuel a0 a1 a2 = some r) :
  Calls Tryz.prog 55 #[p0, .int .i64 a1, .int .i64 a2] w0 fun e w => e = .returned (.int .i64 r) ∧ Heap w0 [] w := by
 unfold impl_Lts_splitRound_m at hm
 have H := Heap.start w0
 obtain ⟨c31, rfl, h32⟩ := h0
 obtain ⟨c37, c38, rfl, h39, h40⟩ := h32
 obtain rfl := h39
 obtain ⟨c41, c42, rfl, h43, h44⟩ := h40
 obtain rfl := h43
 obtain ⟨c45, c46, rfl, h47, h48⟩ := h44
 obtain ⟨v33, rfl, h34⟩ := rd_list h47
 obtain ⟨v35, rfl, h36⟩ := rd_list h48
 refine enter (args := [(.agg #[(.int .i64 a0.1), (.int .i64 a0.2.1), v33, v35]), .int .i64 a1, .int .i64 a2]) Tryz.func55 rfl 14 rfl (Nat.le_of_ble_eq_true rfl) (fun a S => ?_)
 refine wp_seq (region_plain ?_)
 refine lx_box S trivial (by decide) rfl H rfl rfl (fun b49 w50 H => ⟨trivial, fun a S => ?_⟩)
 refine lx_box S trivial (by decide) rfl H rfl rfl (fun b52 w53 H => ⟨trivial, fun a S => ?_⟩)
 refine lx_box S trivial (by decide) rfl H rfl rfl (fun b55 w56 H => ⟨trivial, fun a S => ?_⟩)
 refine lq (.int .i64 (0 : Int)) S (q_assign rfl) fun a S => ?_
 refine lx_nil (thenN ?_)
 refine wp_seq (region_plain ?_)
 refine lq (pAdd (bp b49) 0) S (q_fieldAddr' 0 2 rfl (isP_bp _) Tryz.underlying32 rfl Tryz.sizeOf2) fun a S => ?_
 refine lx_e (.int .i64 a0.1) S trivial (by decide) rfl trivial (q_load1 rfl Tryz.isAgg2 (by rintro _ rfl; exact (At.of_add (m := 0) (j := 0) (boxAt (i := 2) H rfl (j := 0) rfl)))) (fun a S => ?_)
 refine lx_e (.agg #[(.int .i64 a0.1), (.int .i64 a0.2.1), v33, v35]) S trivial (by decide) rfl trivial (q_loadA (cs := [(.int .i64 a0.1), (.int .i64 a0.2.1), v33, v35]) rfl (isP_bp _) Tryz.isAgg32 Tryz.sizeOf32 (by rintro _ rfl; exact (fun j u hu => boxAt (i := 2) H rfl hu))) (fun a S => ?_)
 refine lq (.func (.func 47) #[(.agg #[(.int .i64 a0.1), (.int .i64 a0.2.1), v33, v35])] #[]) S (q_makeFunc (xs := [.tmp 9]) (ys := []) rfl rfl) fun a S => ?_
 obtain ⟨x60, e61, hm⟩ := bind_some hm
 have hcap62 : Rd Rimpl_Lts w56 (.agg #[(.int .i64 a0.1), (.int .i64 a0.2.1), v33, v35]) (a0.1, a0.2.1, a0.2.2.1, a0.2.2.2) := ⟨[(.int .i64 a0.1), (.int .i64 a0.2.1), v33, v35], rfl, ⟨[(.int .i64 a0.1)], [(.int .i64 a0.2.1), v33, v35], rfl, rfl, ⟨[(.int .i64 a0.2.1)], [v33, v35], rfl, rfl, ⟨[v33], [v35], rfl, ((H.arg h34)).list_rd, ((H.arg h36)).list_rd⟩⟩⟩⟩
 refine lx_call (xs := [.tmp 8, .tmp 10]) S trivial (by decide) rfl rfl Tryz.call46 ((impl_rounds_ok (f1 := 47) (fs1 := ([(.agg #[(.int .i64 a0.1), (.int .i64 a0.2.1), v33, v35])] : List Value)) (cp1 := ([] : List Value)) (a1 := (fun (z0 : (List Int)) => impl_Lts_refine_m fuel (a0.1, a0.2.1, a0.2.2.1, a0.2.2.2) z0))  Tryz.call47 (fun he h0_ hm => impl_Lts_refine_ok (hcap62.ext he) h0_  hm) e61).mono ?_)
 rintro e w58 ⟨v63, rfl, Hc59⟩
 have H := H.call1 Hc59
 refine ⟨_, rfl, trivial, fun a S => ?_⟩
 refine lq (.func (.func 93) #[] #[(bp b52), (bp b55)]) S (q_makeFunc (xs := []) (ys := [.tmp 4, .tmp 5]) rfl rfl) fun a S => ?_
 obtain ⟨x68, e69, hm⟩ := bind_some hm
 have hcap70 : Rd (rPtr (rInt .i64)) w58 (bp b52) a1 := (rdPtr_box H 2 rfl rfl)
 have hcap71 : Rd (rPtr (rInt .i64)) w58 (bp b55) a2 := (rdPtr_box H 1 rfl rfl)
 refine lx_call (xs := [.tmp 11, .tmp 12]) S trivial (by decide) rfl rfl Tryz.call92 ((slices_IndexFunc___int64__int64_ok (f1 := 93) (fs1 := ([] : List Value)) (cp1 := ([(bp b52), (bp b55)] : List Value)) (a1 := (fun (z0 : (List Int)) => impl_Lts_splitRound_1_m fuel z0 a1 a2)) (H.rdAt 0 rfl) Tryz.call93 (fun he h0_ hm => impl_Lts_splitRound_1_ok  h0_ (hcap70.ext he) (hcap71.ext he) hm) e69).mono ?_)
 rintro e w66 ⟨rfl, Hc67⟩
 have H := H.call0 Hc67
 refine ⟨_, rfl, trivial, fun a S => ?_⟩
 refine lq (.int .i64 x68) S (q_assign rfl) fun a S => ?_
 refine lx_nil (thenN ?_)
 refine wp_ret ?_
 obtain rfl := Option.some.inj hm
 have H : Heap w0 [] w66 := H.sel [] (by decide)
 exact leave1 S rfl rfl ⟨rfl, H⟩

/-- impl.SplitRound -/
def impl_SplitRound_m (fuel : Nat) (a0 : Timpl_Lts) (a1 : Int) (a2 : Int) : Option ((Int × Int)) :=
  (impl_statesCode_m fuel (a0.1, a0.2.1, a0.2.2.1, a0.2.2.2) [a1, a2]).bind fun x57 => (if (x57 != (0 : Int)) = true then some (((0 : Int), x57)) else (impl_Lts_splitRound_m fuel (a0.1, a0.2.1, a0.2.2.1, a0.2.2.2) a1 a2).bind fun x63 => (if (decide (x63 < (0 : Int))) = true then some (((0 : Int), (3 : Int))) else some ((x63, (0 : Int)))))
set_option maxRecDepth 20000 in
theorem impl_SplitRound_ok {w0 : World} {fuel : Nat} {p0 : Value} {a0 : Timpl_Lts} {a1 : Int} {a2 : Int} {r : (Int × Int)} (hG : Glob Tryz.prog w0) (h0 : Rd Rimpl_Lts w0 p0 a0) (hm : impl_SplitRound_m fuel a0 a1 a2 = some r) :
  Calls Tryz.prog 25 #[p0, .int .i64 a1, .int .i64 a2] w0 fun e w => e = .returned (.tuple #[.int .i64 r.1, .int .i64 r.2]) ∧ Heap w0 [] w := by
 unfold impl_SplitRound_m at hm
 have H := Heap.start w0
 obtain ⟨c31, rfl, h32⟩ := h0
 obtain ⟨c37, c38, rfl, h39, h40⟩ := h32
 obtain rfl := h39
 obtain ⟨c41, c42, rfl, h43, h44⟩ := h40
 obtain rfl := h43
 obtain ⟨c45, c46, rfl, h47, h48⟩ := h44
 obtain ⟨v33, rfl, h34⟩ := rd_list h47
 obtain ⟨v35, rfl, h36⟩ := rd_list h48
 refine enter (args := [(.agg #[(.int .i64 a0.1), (.int .i64 a0.2.1), v33, v35]), .int .i64 a1, .int .i64 a2]) Tryz.func25 rfl 25 rfl (Nat.le_of_ble_eq_true rfl) (fun a S => ?_)
 refine wp_seq (region_plain ?_)
 refine lx_box S trivial (by decide) rfl H rfl rfl (fun b49 w50 H => ⟨trivial, fun a S => ?_⟩)
 refine lq (.int .i64 (0 : Int)) S (q_assign rfl) fun a S => ?_
 refine lq (.int .i64 (0 : Int)) S (q_assign rfl) fun a S => ?_
 refine lx_nil (thenN ?_)
 refine wp_seq (wp_seq (region_plain ?_))
 refine lx_e (.agg #[(.int .i64 a0.1), (.int .i64 a0.2.1), v33, v35]) S trivial (by decide) rfl trivial (q_loadA (cs := [(.int .i64 a0.1), (.int .i64 a0.2.1), v33, v35]) rfl (isP_bp _) Tryz.isAgg32 Tryz.sizeOf32 (by rintro _ rfl; exact (fun j u hu => boxAt (i := 0) H rfl hu))) (fun a S => ?_)
 refine lq (.int .i64 a1) S (q_move rfl) fun a S => ?_
 refine lq (.int .i64 a2) S (q_move rfl) fun a S => ?_
 refine lx_buildSlice (r := (rInt .i64)) (xs := [a1, a2]) (ps := [(0, [(.int .i64 a1)]), (1, [(.int .i64 a2)])]) (cs := [(.int .i64 a1), (.int .i64 a2)]) (parts := [(0, .tmp 11), (1, .tmp 12)]) S trivial (by decide) rfl (H.put0 (A := eA) rfl) rfl Tryz.underlying27 Tryz.sizeOf2 Tryz.zeroValue2 (by decide) ⟨rfl, rfl, Nat.le_of_ble_eq_true rfl, ⟨rfl, rfl, Nat.le_of_ble_eq_true rfl, trivial⟩⟩ (by intro zs hz; exact fill_dense hz ⟨rfl, ⟨rfl, trivial⟩⟩ rfl rfl) rfl (by decide) (fun w F hA => by cases (show F = [] from hA); exact ⟨_, _, [(.int .i64 a1)], _, rfl, rfl, ⟨rfl, rfl⟩, ⟨_, _, [(.int .i64 a2)], _, rfl, rfl, ⟨rfl, rfl⟩, ⟨rfl, rfl⟩⟩⟩) (fun v52 w53 H => ⟨trivial, fun a S => ?_⟩)
 obtain ⟨x57, e58, hm⟩ := bind_some hm
 refine lx_call (xs := [.tmp 10, .tmp 13]) S trivial (by decide) rfl rfl Tryz.call54 ((impl_statesCode_ok (hG.ext H.ext) ⟨[(.int .i64 a0.1), (.int .i64 a0.2.1), v33, v35], rfl, ⟨[(.int .i64 a0.1)], [(.int .i64 a0.2.1), v33, v35], rfl, rfl, ⟨[(.int .i64 a0.2.1)], [v33, v35], rfl, rfl, ⟨[v33], [v35], rfl, ((H.arg h34)).list_rd, ((H.arg h36)).list_rd⟩⟩⟩⟩ (H.rdAt 0 rfl) e58).mono ?_)
 rintro e w55 ⟨rfl, Hc56⟩
 have H := H.call0 Hc56
 refine ⟨_, rfl, trivial, fun a S => ?_⟩
 refine lq (.int .i64 x57) S (q_assign rfl) fun a S => ?_
 refine lx_nil (thenN ?_)
 refine wp_seq (region_plain ?_)
 refine lq (.int .i64 x57) S (q_move rfl) fun a S => ?_
 refine lq (.bool (x57 != (0 : Int))) S (q_neq rfl rfl) fun a S => ?_
 refine lx_nil (thenN ?_)
 refine cond_b S rfl (fun hc60 => ?_) (fun hc60 => ?_)
 ·have hm := ite_t hc60 hm
  refine wp_seq (region_plain ?_)
  refine lq (.int .i64 x57) S (q_move rfl) fun a S => ?_
  refine lq (.int .i64 (0 : Int)) S (q_assign rfl) fun a S => ?_
  refine lq (.int .i64 x57) S (q_assign rfl) fun a S => ?_
  refine lx_nil (thenN ?_)
  refine wp_ret (then_ret ?_)
  obtain rfl := Option.some.inj hm
  have H : Heap w0 [] w55 := H.sel [] (by decide)
  exact leave2 S rfl rfl rfl ⟨rfl, H⟩
 ·have hm := ite_f hc60 hm
  refine wp_skip (thenN ?_)
  refine wp_seq (region_plain ?_)
  refine lx_e (.agg #[(.int .i64 a0.1), (.int .i64 a0.2.1), v33, v35]) S trivial (by decide) rfl trivial (q_loadA (cs := [(.int .i64 a0.1), (.int .i64 a0.2.1), v33, v35]) rfl (isP_bp _) Tryz.isAgg32 Tryz.sizeOf32 (by rintro _ rfl; exact (fun j u hu => boxAt (i := 1) H rfl hu))) (fun a S => ?_)
  refine lq (.int .i64 a1) S (q_move rfl) fun a S => ?_
  refine lq (.int .i64 a2) S (q_move rfl) fun a S => ?_
  obtain ⟨x63, e64, hm⟩ := bind_some hm
  refine lx_call (xs := [.tmp 18, .tmp 19, .tmp 20]) S trivial (by decide) rfl rfl Tryz.call55 ((impl_Lts_splitRound_ok ⟨[(.int .i64 a0.1), (.int .i64 a0.2.1), v33, v35], rfl, ⟨[(.int .i64 a0.1)], [(.int .i64 a0.2.1), v33, v35], rfl, rfl, ⟨[(.int .i64 a0.2.1)], [v33, v35], rfl, rfl, ⟨[v33], [v35], rfl, ((H.arg h34)).list_rd, ((H.arg h36)).list_rd⟩⟩⟩⟩   e64).mono ?_)
  rintro e w61 ⟨rfl, Hc62⟩
  have H := H.call0 Hc62
  refine ⟨_, rfl, trivial, fun a S => ?_⟩
  refine lq (.int .i64 x63) S (q_assign rfl) fun a S => ?_
  refine lx_nil (thenN ?_)
  refine wp_seq (wp_seq (region_plain ?_))
  refine lq (.int .i64 x63) S (q_move rfl) fun a S => ?_
  refine lq (.bool (decide (x63 < (0 : Int)))) S (q_lss rfl rfl) fun a S => ?_
  refine lx_nil (thenN ?_)
  refine cond_b S rfl (fun hc66 => ?_) (fun hc66 => ?_)
  ·have hm := ite_t hc66 hm
   refine wp_seq (region_plain ?_)
   refine lq (.int .i64 (0 : Int)) S (q_assign rfl) fun a S => ?_
   refine lq (.int .i64 (3 : Int)) S (q_assign rfl) fun a S => ?_
   refine lx_nil (thenN ?_)
   refine wp_ret (then_ret ?_)
   obtain rfl := Option.some.inj hm
   have H : Heap w0 [] w61 := H.sel [] (by decide)
   exact leave2 S rfl rfl rfl ⟨rfl, H⟩
  ·have hm := ite_f hc66 hm
   refine wp_skip (thenN ?_)
   refine wp_seq (region_plain ?_)
   refine lq (.int .i64 x63) S (q_move rfl) fun a S => ?_
   refine lq (.int .i64 x63) S (q_assign rfl) fun a S => ?_
   refine lq (.int .i64 (0 : Int)) S (q_assign rfl) fun a S => ?_
   refine lx_nil (thenN ?_)
   refine wp_ret ?_
   obtain rfl := Option.some.inj hm
   have H : Heap w0 [] w61 := H.sel [] (by decide)
   exact leave2 S rfl rfl rfl ⟨rfl, H⟩
end Go.Proofs.YtciiinpphaaddaaGreatDoor
