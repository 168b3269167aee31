/- The model of a statement and its walk (printed by a program of this repo). -/
import Derived.Test.YtciiinpphaaddaaGreatDoorF0
import Derived.Test.YtciiinpphaaddaaGreatDoorF1
import Derived.Test.YtciiinpphaaddaaGreatDoorF2
import Derived.Test.YtciiinpphaaddaaGreatDoorF4
import Derived.Test.YtciiinpphaaddaaGreatDoorF5
import Derived.Test.YtciiinpphaaddaaGreatDoorF6
import Derived.Test.YtciiinpphaaddaaGreatDoorF7
import Derived.Test.YtciiinpphaaddaaGreatDoorGxT
import Derived.Test.YtciiinpphaaddaaGreatDoorGxY
namespace Go.Proofs.YtciiinpphaaddaaGreatDoor
open Go.RowKit Go.Gx

/-- spec.l11State -/
def spec_l11State_m (fuel : Nat) (a0 : Timpl_Lts) (a1 : Int) : Option (Bool) :=
  (spec_l00In_m fuel a1 (0 : Int) (W (a0.1 - (1 : Int)))).bind fun x52 => some (x52)
set_option maxRecDepth 20000 in
theorem spec_l11State_ok {w0 : World} {fuel : Nat} {p0 : Value} {a0 : Timpl_Lts} {a1 : Int} {r : Bool} (h0 : Rd (rPtr Rimpl_Lts) w0 p0 a0) (hm : spec_l11State_m fuel a0 a1 = some r) :
  Calls Tryz.prog 52 #[p0, .int .i64 a1] w0 fun e w => e = .returned (.bool r) ∧ Heap w0 [] w := by
 unfold spec_l11State_m at hm
 have H := Heap.start w0
 obtain ⟨c31, h32, hat33⟩ := h0.ptr
 obtain ⟨c38, c39, rfl, h40, h41⟩ := h32
 obtain rfl := h40
 obtain ⟨c42, c43, rfl, h44, h45⟩ := h41
 obtain rfl := h44
 obtain ⟨c46, c47, rfl, h48, h49⟩ := h45
 obtain ⟨v34, rfl, h35⟩ := rd_list h48
 obtain ⟨v36, rfl, h37⟩ := rd_list h49
 refine enter (args := [p0, .int .i64 a1]) Tryz.func52 rfl 12 rfl (Nat.le_of_ble_eq_true rfl) (fun a S => ?_)
 refine wp_seq (region_plain ?_)
 refine lq (.bool false) S (q_assign rfl) fun a S => ?_
 refine lx_nil (thenN ?_)
 refine wp_seq (region_plain ?_)
 refine lq (.int .i64 a1) S (q_move rfl) fun a S => ?_
 refine lq p0 S (q_move rfl) fun a S => ?_
 refine lq p0 S (q_nilCheck rfl ((hat33 0 _ rfl).isP)) fun a S => ?_
 refine lq (pAdd p0 0) S (q_fieldAddr' 0 2 rfl ((hat33 0 _ rfl).isP) Tryz.underlying32 rfl Tryz.sizeOf2) fun a S => ?_
 refine lx_e (.int .i64 a0.1) S trivial (by decide) rfl trivial (q_load1 rfl Tryz.isAgg2 (by rintro _ rfl; exact (At.of_add (m := 0) (j := 0) ((hat33 0 _ rfl).ext H.ext)))) (fun a S => ?_)
 refine lq (.int .i64 (W (a0.1 - (1 : Int)))) S (q_sub rfl rfl) fun a S => ?_
 obtain ⟨x52, e53, hm⟩ := bind_some hm
 refine lx_call (xs := [.tmp 5, .const (.int .i64 (0)), .tmp 10]) S trivial (by decide) rfl rfl Tryz.call71 ((spec_l00In_ok    e53).mono ?_)
 rintro e w50 ⟨rfl, Hc51⟩
 have H := H.call0 Hc51
 refine ⟨_, rfl, trivial, fun a S => ?_⟩
 refine lq (.bool x52) S (q_assign rfl) fun a S => ?_
 refine lx_nil (thenN ?_)
 refine wp_ret ?_
 obtain rfl := Option.some.inj hm
 exact leave1 S rfl rfl ⟨rfl, H⟩

/-- spec.l13Round -/
def spec_l13Round_m (fuel : Nat) (a0 : Timpl_Lts) (a1 : Int) : Option ((List Int)) :=
  (mks a0.1 (0 : Int)).bind fun x50 => (iter (fun (s : (Int) × (List Int)) => (match s with | (x68, xs70) => (if (decide ((0 : Int) < x68)) = true then (spec_l13Refine_m fuel a0 xs70).bind fun x98 => some (.inl ((W (x68 - (1 : Int))), x98)) else some (.inr (.inl (xs70)))) : Option (((Int) × (List Int)) ⊕ (((List Int)) ⊕ ((List Int)))))) fuel (a1, x50)).bind fun res87 => ctl (β := (List Int)) (ρ := (List Int)) (τ := (List Int)) res87 (fun (xs85) => some (xs85)) (fun q => some (q))
set_option maxRecDepth 20000 in
theorem spec_l13Round_ok {w0 : World} {fuel : Nat} {p0 : Value} {a0 : Timpl_Lts} {a1 : Int} {r : (List Int)} (h0 : Rd (rPtr Rimpl_Lts) w0 p0 a0) (hm : spec_l13Round_m fuel a0 a1 = some r) :
  Calls Tryz.prog 53 #[p0, .int .i64 a1] w0 fun e w => ∃ (v0 : Value), e = .returned (v0) ∧ Heap w0 [oA (rList (rInt .i64)) v0 r] w := by
 unfold spec_l13Round_m at hm
 have H := Heap.start w0
 obtain ⟨c31, h32, hat33⟩ := h0.ptr
 obtain ⟨c38, c39, rfl, h40, h41⟩ := h32
 obtain rfl := h40
 obtain ⟨c42, c43, rfl, h44, h45⟩ := h41
 obtain rfl := h44
 obtain ⟨c46, c47, rfl, h48, h49⟩ := h45
 obtain ⟨v34, rfl, h35⟩ := rd_list h48
 obtain ⟨v36, rfl, h37⟩ := rd_list h49
 refine enter (args := [p0, .int .i64 a1]) Tryz.func53 rfl 19 rfl (Nat.le_of_ble_eq_true rfl) (fun a S => ?_)
 refine wp_seq (region_plain ?_)
 refine lq (.slice none 0 0) S (q_assign rfl) fun a S => ?_
 refine lx_nil (thenN ?_)
 refine wp_seq (region_plain ?_)
 refine lq p0 S (q_move rfl) fun a S => ?_
 refine lq p0 S (q_nilCheck rfl ((hat33 0 _ rfl).isP)) fun a S => ?_
 refine lq (pAdd p0 0) S (q_fieldAddr' 0 2 rfl ((hat33 0 _ rfl).isP) Tryz.underlying32 rfl Tryz.sizeOf2) fun a S => ?_
 refine lx_e (.int .i64 a0.1) S trivial (by decide) rfl trivial (q_load1 rfl Tryz.isAgg2 (by rintro _ rfl; exact (At.of_add (m := 0) (j := 0) ((hat33 0 _ rfl).ext H.ext)))) (fun a S => ?_)
 obtain ⟨x50, e51, hm⟩ := bind_some hm
 obtain ⟨m52, hn, hn2, rfl⟩ := mks_some e51
 refine lx_make (r := (rInt .i64)) (z0 := (0 : Int)) (n := m52) S trivial (by decide) rfl H (by rw [← hn]; rfl) (by rw [← hn]; rfl) Tryz.underlying27 (Tryz.ti2) rfl rfl (Nat.le_of_ble_eq_true rfl) (fun w => ⟨rfl, rfl⟩) hn2 (by decide) (fun v53 w54 H => ⟨trivial, fun a S => ?_⟩)
 refine lq v53 S (q_assign rfl) fun a S => ?_
 refine lx_nil (thenN ?_)
 refine wp_seq ?_
 obtain ⟨res87, hit88, hk91⟩ := bind_some hm
 obtain ⟨f89, hf90, hit88⟩ := iter_name hit88
 refine block_loop (fun a w => ∃ (xs85 : List Int) (v84 : Value), Slots a 19 [(5, v84)] ∧ Heap w0 [oA (rList (rInt .i64)) v84 xs85] w ∧ res87 = .inl (xs85)) ?_ ?_
 ·rintro a w ⟨xs85, v84, S, H, rfl⟩
  have hm := ctl_inl hk91
  refine thenN ?_
  refine wp_seq (region_plain ?_)
  refine lq v84 S (q_move rfl) fun a S => ?_
  refine lq v84 S (q_assign rfl) fun a S => ?_
  refine lx_nil (thenN ?_)
  refine wp_ret ?_
  obtain rfl := Option.some.inj hm
  exact leave1 S rfl rfl ⟨v84, rfl, H⟩
 ·skip
  refine loop_ghost (fun n a w => ∃ (x68 : Int) (xs70 : List Int) (v69 : Value), Slots a 19 [(0, p0), (1, (.int .i64 x68)), (5, v69)] ∧ Heap w0 [oA (rList (rInt .i64)) v69 xs70] w ∧ iter f89 n (x68, xs70) = some res87) _ ⟨a1, (List.replicate m52 (0 : Int)), v53, S.sub ⟨rfl, rfl, rfl, trivial⟩, H, hit88⟩ ?_
  rintro n a w ⟨x68, xs70, v69, S, H, hit88⟩
  obtain ⟨m92, o93, rfl, hm, hc94⟩ := iter_step hit88
  rw [hf90] at hm
  refine wp_seq (wp_seq (region_plain ?_))
  refine lq (.int .i64 x68) S (q_move rfl) fun a S => ?_
  refine lq (.bool (decide ((0 : Int) < x68))) S (q_gtr rfl rfl) fun a S => ?_
  refine lx_nil (thenN ?_)
  refine cond_b S rfl (fun hc95 => ?_) (fun hc95 => ?_)
  ·have hm := ite_t hc95 hm
   refine wp_skip (thenN ?_)
   refine wp_seq ?_
   refine wp_block ?_
   refine region_plain ?_
   refine lq p0 S (q_move rfl) fun a S => ?_
   refine lq v69 S (q_move rfl) fun a S => ?_
   obtain ⟨x98, e99, hm⟩ := bind_some hm
   refine lx_call (xs := [.tmp 15, .tmp 16]) S trivial (by decide) rfl rfl Tryz.call83 ((spec_l13Refine_ok (H.arg h0) (H.rdAt 0 rfl) e99).mono ?_)
   rintro e w96 ⟨v100, rfl, Hc97⟩
   have H := H.call1 Hc97
   refine ⟨_, rfl, trivial, fun a S => ?_⟩
   refine lq v100 S (q_assign rfl) fun a S => ?_
   refine lx_nil ?_
   refine inBlock_norm ?_
   refine thenN ?_
   refine region_plain ?_
   refine lq (.int .i64 x68) S (q_move rfl) fun a S => ?_
   refine lq (.int .i64 (W (x68 - (1 : Int)))) S (q_sub rfl rfl) fun a S => ?_
   refine lq (.int .i64 (W (x68 - (1 : Int)))) S (q_assign rfl) fun a S => ?_
   refine lx_nil ?_
   have H : Heap w0 [oA (rList (rInt .i64)) v100 x98] w96 := H.sel [0] (by decide)
   exact ⟨m92, Nat.lt_succ_self _, (W (x68 - (1 : Int))), x98, v100, S.sub ⟨rfl, rfl, rfl, trivial⟩, H, it_cont hm hc94⟩
  ·have hm := ite_f hc95 hm
   refine wp_exit ?_
   refine then_exit ?_
   refine then_exit ?_
   refine inBlock_exit ?_
   obtain rfl := it_brk hm hc94
   exact ⟨xs70, v69, S.sub ⟨rfl, trivial⟩, H, rfl⟩

/-- spec.SplitRound -/
def spec_SplitRound_m (fuel : Nat) (a0 : Timpl_Lts) (a1 : Int) (a2 : Int) : Option ((Int × Int)) :=
  (spec_l11Is_m fuel (a0.1, a0.2.1, a0.2.2.1, a0.2.2.2)).bind fun x54 => (if (!x54) = true then some (((0 : Int), (1 : Int))) else (spec_l11State_m fuel (a0.1, a0.2.1, a0.2.2.1, a0.2.2.2) a1).bind fun x60 => (if (!x60) = true then some true else (spec_l11State_m fuel (a0.1, a0.2.1, a0.2.2.1, a0.2.2.2) a2).bind fun x68 => some (!x68)).bind fun t63 => (if t63 = true then some (((0 : Int), (2 : Int))) else (spec_l13Rounds_m fuel (a0.1, a0.2.1, a0.2.2.1, a0.2.2.2)).bind fun x74 => (iter (fun (s : (Int)) => (match s with | (x95) => (if (decide (x95 ≤ x74.2)) = true then (spec_l13Round_m fuel (a0.1, a0.2.1, a0.2.2.1, a0.2.2.2) x95).bind fun x123 => (idx x123 a1).bind fun x130 => (idx x123 a2).bind fun x132 => (if (x130 != x132) = true then some (.inr (.inr (x95, (0 : Int)))) else some (.inl ((W (x95 + (1 : Int)))))) else some (.inr (.inl ()))) : Option (((Int)) ⊕ ((Unit) ⊕ ((Int × Int)))))) fuel ((1 : Int))).bind fun res112 => ctl (β := Unit) (ρ := (Int × Int)) (τ := (Int × Int)) res112 (fun _ => some (((0 : Int), (3 : Int)))) (fun q => some (q))))
set_option maxRecDepth 20000 in
theorem spec_SplitRound_ok {w0 : World} {fuel : Nat} {p0 : Value} {a0 : Timpl_Lts} {a1 : Int} {a2 : Int} {r : (Int × Int)} (h0 : Rd Rimpl_Lts w0 p0 a0) (hm : spec_SplitRound_m fuel a0 a1 a2 = some r) :
  Calls Tryz.prog 24 #[p0, .int .i64 a1, .int .i64 a2] w0 fun e w => e = .returned (.tuple #[.int .i64 r.1, .int .i64 r.2]) ∧ Heap w0 [] w := by
 unfold spec_SplitRound_m at hm
 have H := Heap.start w0
 obtain ⟨c31, rfl, h32⟩ := h0
 obtain ⟨c37, c38, rfl, h39, h40⟩ := h32
 obtain rfl := h39
 obtain ⟨c41, c42, rfl, h43, h44⟩ := h40
 obtain rfl := h43
 obtain ⟨c45, c46, rfl, h47, h48⟩ := h44
 obtain ⟨v33, rfl, h34⟩ := rd_list h47
 obtain ⟨v35, rfl, h36⟩ := rd_list h48
 refine enter (args := [(.agg #[(.int .i64 a0.1), (.int .i64 a0.2.1), v33, v35]), .int .i64 a1, .int .i64 a2]) Tryz.func24 rfl 43 rfl (Nat.le_of_ble_eq_true rfl) (fun a S => ?_)
 refine wp_seq (region_plain ?_)
 refine lx_box S trivial (by decide) rfl H rfl rfl (fun b49 w50 H => ⟨trivial, fun a S => ?_⟩)
 refine lq (.int .i64 (0 : Int)) S (q_assign rfl) fun a S => ?_
 refine lq (.int .i64 (0 : Int)) S (q_assign rfl) fun a S => ?_
 refine lx_nil (thenN ?_)
 refine wp_seq (wp_seq (region_plain ?_))
 obtain ⟨x54, e55, hm⟩ := bind_some hm
 refine lx_call (xs := [.tmp 3]) S trivial (by decide) rfl rfl Tryz.call35 ((spec_l11Is_ok (rdPtr_box H 0 rfl ⟨[(.int .i64 a0.1)], [(.int .i64 a0.2.1), v33, v35], rfl, rfl, ⟨[(.int .i64 a0.2.1)], [v33, v35], rfl, rfl, ⟨[v33], [v35], rfl, ((H.arg h34)).list_rd, ((H.arg h36)).list_rd⟩⟩⟩) e55).mono ?_)
 rintro e w52 ⟨rfl, Hc53⟩
 have H := H.call0 Hc53
 refine ⟨_, rfl, trivial, fun a S => ?_⟩
 refine lq (.bool (!x54)) S (q_not rfl) fun a S => ?_
 refine lx_nil (thenN ?_)
 refine cond_b S rfl (fun hc57 => ?_) (fun hc57 => ?_)
 ·have hm := ite_t hc57 hm
  refine wp_seq (region_plain ?_)
  refine lq (.int .i64 (0 : Int)) S (q_assign rfl) fun a S => ?_
  refine lq (.int .i64 (1 : Int)) S (q_assign rfl) fun a S => ?_
  refine lx_nil (thenN ?_)
  refine wp_ret (then_ret ?_)
  obtain rfl := Option.some.inj hm
  have H : Heap w0 [] w52 := H.sel [] (by decide)
  exact leave2 S rfl rfl rfl ⟨rfl, H⟩
 ·have hm := ite_f hc57 hm
  refine wp_skip (thenN ?_)
  refine wp_seq (wp_seq (region_plain ?_))
  refine lq (.int .i64 a1) S (q_move rfl) fun a S => ?_
  obtain ⟨x60, e61, hm⟩ := bind_some hm
  refine lx_call (xs := [.tmp 3, .tmp 14]) S trivial (by decide) rfl rfl Tryz.call52 ((spec_l11State_ok (rdPtr_box H 0 rfl ⟨[(.int .i64 a0.1)], [(.int .i64 a0.2.1), v33, v35], rfl, rfl, ⟨[(.int .i64 a0.2.1)], [v33, v35], rfl, rfl, ⟨[v33], [v35], rfl, ((H.arg h34)).list_rd, ((H.arg h36)).list_rd⟩⟩⟩)  e61).mono ?_)
  rintro e w58 ⟨rfl, Hc59⟩
  have H := H.call0 Hc59
  refine ⟨_, rfl, trivial, fun a S => ?_⟩
  refine lq (.bool (!x60)) S (q_not rfl) fun a S => ?_
  refine lq (.bool (!x60)) S (q_move rfl) fun a S => ?_
  obtain ⟨t63, e64, hm⟩ := bind_some hm
  refine lx_cut 4 (fun a w => Slots a 43 [(1, (.int .i64 a1)), (2, (.int .i64 a2)), (3, (bp b49)), (21, (.bool t63))] ∧ Heap w0 [bA b49 [(.int .i64 a0.1), (.int .i64 a0.2.1), v33, v35] 32] w) ?_ ?_
  ·by_cases hc65 : (!x60) = true
   ·have hm := ite_t hc65 e64
    refine lx_skip S rfl rfl (isB_ne hc65) (by decide) (fun a S => ?_)
    refine lx_skip S rfl rfl (isB_ne hc65) (by decide) (fun a S => ?_)
    refine lx_skip S rfl rfl (isB_ne hc65) (by decide) (fun a S => ?_)
    refine lq (.bool true) S (q_pickT' rfl hc65 rfl) fun a S => ?_
    refine lx_nil ?_
    obtain rfl := Option.some.inj hm
    exact ⟨S.sub ⟨rfl, rfl, rfl, rfl, trivial⟩, H⟩
   ·have hm := ite_f (eq_false_of_ne_true hc65) e64
    have hc65 : (!x60) = false := eq_false_of_ne_true hc65
    refine lx_q (.int .i64 a2) S (want_b rfl rfl hc65) (by decide) (q_move rfl) (fun a S => ?_)
    obtain ⟨x68, e69, hm⟩ := bind_some hm
    refine lx_call (xs := [.tmp 3, .tmp 18]) S (want_b rfl rfl hc65) (by decide) rfl rfl Tryz.call52 ((spec_l11State_ok (rdPtr_box H 0 rfl ⟨[(.int .i64 a0.1)], [(.int .i64 a0.2.1), v33, v35], rfl, rfl, ⟨[(.int .i64 a0.2.1)], [v33, v35], rfl, rfl, ⟨[v33], [v35], rfl, ((H.arg h34)).list_rd, ((H.arg h36)).list_rd⟩⟩⟩)  e69).mono ?_)
    rintro e w66 ⟨rfl, Hc67⟩
    have H := H.call0 Hc67
    refine ⟨_, rfl, trivial, fun a S => ?_⟩
    refine lx_q (.bool (!x68)) S (want_b rfl rfl hc65) (by decide) (q_not rfl) (fun a S => ?_)
    refine lq (.bool (!x68)) S (q_pickF' rfl hc65 rfl) fun a S => ?_
    refine lx_nil ?_
    obtain rfl := Option.some.inj hm
    exact ⟨S.sub ⟨rfl, rfl, rfl, rfl, trivial⟩, H⟩
  ·rintro a w ⟨S, H⟩
   refine lx_nil (thenN ?_)
   refine cond_b S rfl (fun hc71 => ?_) (fun hc71 => ?_)
   ·have hm := ite_t hc71 hm
    refine wp_seq (region_plain ?_)
    refine lq (.int .i64 (0 : Int)) S (q_assign rfl) fun a S => ?_
    refine lq (.int .i64 (2 : Int)) S (q_assign rfl) fun a S => ?_
    refine lx_nil (thenN ?_)
    refine wp_ret (then_ret ?_)
    obtain rfl := Option.some.inj hm
    have H : Heap w0 [] w := H.sel [] (by decide)
    exact leave2 S rfl rfl rfl ⟨rfl, H⟩
   ·have hm := ite_f hc71 hm
    refine wp_skip (thenN ?_)
    refine wp_seq (region_plain ?_)
    obtain ⟨x74, e75, hm⟩ := bind_some hm
    refine lx_call (xs := [.tmp 3]) S trivial (by decide) rfl rfl Tryz.call45 ((spec_l13Rounds_ok (rdPtr_box H 0 rfl ⟨[(.int .i64 a0.1)], [(.int .i64 a0.2.1), v33, v35], rfl, rfl, ⟨[(.int .i64 a0.2.1)], [v33, v35], rfl, rfl, ⟨[v33], [v35], rfl, ((H.arg h34)).list_rd, ((H.arg h36)).list_rd⟩⟩⟩) e75).mono ?_)
    rintro e w72 ⟨v76, rfl, Hc73⟩
    have H := H.call1 Hc73
    refine ⟨_, rfl, trivial, fun a S => ?_⟩
    refine lq (.tuple #[v76, (.int .i64 x74.2)]) S (q_move rfl) fun a S => ?_
    refine lq v76 S (q_extract rfl rfl) fun a S => ?_
    refine lq (.int .i64 x74.2) S (q_extract rfl rfl) fun a S => ?_
    refine lq v76 S (q_assign rfl) fun a S => ?_
    refine lq (.int .i64 x74.2) S (q_assign rfl) fun a S => ?_
    refine lx_nil (thenN ?_)
    refine wp_seq (wp_seq (region_plain ?_))
    refine lq (.int .i64 (1 : Int)) S (q_assign rfl) fun a S => ?_
    refine lx_nil (thenN ?_)
    obtain ⟨res112, hit113, hk116⟩ := bind_some hm
    obtain ⟨f114, hf115, hit113⟩ := iter_name hit113
    refine block_loop (fun a w => Slots a 43 [] ∧ Heap w0 [] w ∧ res112 = .inl ()) ?_ ?_
    ·rintro a w ⟨S, H, rfl⟩
     have hm := ctl_inl hk116
     refine thenN ?_
     refine wp_seq (region_plain ?_)
     refine lq (.int .i64 (0 : Int)) S (q_assign rfl) fun a S => ?_
     refine lq (.int .i64 (3 : Int)) S (q_assign rfl) fun a S => ?_
     refine lx_nil (thenN ?_)
     refine wp_ret ?_
     obtain rfl := Option.some.inj hm
     exact leave2 S rfl rfl rfl ⟨rfl, H⟩
    ·skip
     have H : Heap w0 [bA b49 [(.int .i64 a0.1), (.int .i64 a0.2.1), v33, v35] 32] w72 := H.sel [1] (by decide)
     refine loop_ghost (fun n a w => ∃ (x95 : Int), Slots a 43 [(1, (.int .i64 a1)), (2, (.int .i64 a2)), (3, (bp b49)), (9, (.int .i64 x74.2)), (10, (.int .i64 x95))] ∧ Heap w0 [bA b49 [(.int .i64 a0.1), (.int .i64 a0.2.1), v33, v35] 32] w ∧ iter f114 n (x95) = some res112) _ ⟨(1 : Int), S.sub ⟨rfl, rfl, rfl, rfl, rfl, trivial⟩, H, hit113⟩ ?_
     rintro n a w ⟨x95, S, H, hit113⟩
     obtain ⟨m117, o118, rfl, hm, hc119⟩ := iter_step hit113
     rw [hf115] at hm
     refine wp_seq (wp_seq (region_plain ?_))
     refine lq (.int .i64 x95) S (q_move rfl) fun a S => ?_
     refine lq (.int .i64 x74.2) S (q_move rfl) fun a S => ?_
     refine lq (.bool (decide (x95 ≤ x74.2))) S (q_leq rfl rfl) fun a S => ?_
     refine lx_nil (thenN ?_)
     refine cond_b S rfl (fun hc120 => ?_) (fun hc120 => ?_)
     ·have hm := ite_t hc120 hm
      refine wp_skip (thenN ?_)
      refine wp_seq ?_
      refine wp_block ?_
      refine wp_seq (region_plain ?_)
      refine lq (.int .i64 x95) S (q_move rfl) fun a S => ?_
      obtain ⟨x123, e124, hm⟩ := bind_some hm
      refine lx_call (xs := [.tmp 3, .tmp 31]) S trivial (by decide) rfl rfl Tryz.call53 ((spec_l13Round_ok (rdPtr_box H 0 rfl ⟨[(.int .i64 a0.1)], [(.int .i64 a0.2.1), v33, v35], rfl, rfl, ⟨[(.int .i64 a0.2.1)], [v33, v35], rfl, rfl, ⟨[v33], [v35], rfl, ((H.arg h34)).list_rd, ((H.arg h36)).list_rd⟩⟩⟩)  e124).mono ?_)
      rintro e w121 ⟨v125, rfl, Hc122⟩
      have H := H.call1 Hc122
      refine ⟨_, rfl, trivial, fun a S => ?_⟩
      refine lq v125 S (q_assign rfl) fun a S => ?_
      refine lx_nil (thenN ?_)
      refine wp_seq ?_
      refine region_drawG (fun w1 => Heap w0 [oA (rList (rInt .i64)) v125 x123] w1) (fun i => [].contains i) mixed (by kernel_rfl) (fun w129 he128 => ?_)
      have H := H.later he128
      refine ⟨H.sel [0] (by decide), ?_⟩
      refine lq v125 S (q_move rfl) fun a S => ?_
      refine lq (.int .i64 a1) S (q_move rfl) fun a S => ?_
      obtain ⟨x130, e131, hm⟩ := bind_some hm
      have hlt := lt_of_idx (idx_some e131).2
      refine lq (ePtr v125 (a1.toNat * 1)) S (q_indexAddr rfl (H.isSl 0 rfl) rfl (idx_some e131).1 hlt Tryz.underlying27 Tryz.sizeOf2) fun a S => ?_
      refine lq (.int .i64 x130) S (q_load1 rfl Tryz.isAgg2 (fun w1 hC => ((hC.rdAt 0 rfl).elemAt (j := 0) (idx_some e131).2 (by intro B w cs h; obtain rfl := h; rfl)))) fun a S => ?_
      refine lq v125 S (q_move rfl) fun a S => ?_
      refine lq (.int .i64 a2) S (q_move rfl) fun a S => ?_
      obtain ⟨x132, e133, hm⟩ := bind_some hm
      have hlt := lt_of_idx (idx_some e133).2
      refine lq (ePtr v125 (a2.toNat * 1)) S (q_indexAddr rfl (H.isSl 0 rfl) rfl (idx_some e133).1 hlt Tryz.underlying27 Tryz.sizeOf2) fun a S => ?_
      refine lq (.int .i64 x132) S (q_load1 rfl Tryz.isAgg2 (fun w1 hC => ((hC.rdAt 0 rfl).elemAt (j := 0) (idx_some e133).2 (by intro B w cs h; obtain rfl := h; rfl)))) fun a S => ?_
      refine lq (.bool (x130 != x132)) S (q_neq rfl rfl) fun a S => ?_
      refine lx_nil (thenN ?_)
      refine cond_b S rfl (fun hc134 => ?_) (fun hc134 => ?_)
      ·have hm := ite_t hc134 hm
       refine wp_seq (region_plain ?_)
       refine lq (.int .i64 x95) S (q_move rfl) fun a S => ?_
       refine lq (.int .i64 x95) S (q_assign rfl) fun a S => ?_
       refine lq (.int .i64 (0 : Int)) S (q_assign rfl) fun a S => ?_
       refine lx_nil (thenN ?_)
       refine wp_ret (inBlock_ret ?_)
       refine then_ret ?_
       refine then_ret ?_
       refine inBlock_ret ?_
       refine then_ret ?_
       refine then_ret ?_
       obtain rfl := it_brk hm hc119
       have hm := ctl_inr hk116
       obtain rfl := Option.some.inj hm
       have H : Heap w0 [] w129 := H.sel [] (by decide)
       exact leave2 S rfl rfl rfl ⟨rfl, H⟩
      ·have hm := ite_f hc134 hm
       refine wp_skip ?_
       refine inBlock_norm ?_
       refine thenN ?_
       refine region_plain ?_
       refine lq (.int .i64 x95) S (q_move rfl) fun a S => ?_
       refine lq (.int .i64 (W (x95 + (1 : Int)))) S (q_add rfl rfl) fun a S => ?_
       refine lq (.int .i64 (W (x95 + (1 : Int)))) S (q_assign rfl) fun a S => ?_
       refine lx_nil ?_
       have H : Heap w0 [bA b49 [(.int .i64 a0.1), (.int .i64 a0.2.1), v33, v35] 32] w129 := H.sel [1] (by decide)
       exact ⟨m117, Nat.lt_succ_self _, (W (x95 + (1 : Int))), S.sub ⟨rfl, rfl, rfl, rfl, rfl, trivial⟩, H, it_cont hm hc119⟩
     ·have hm := ite_f hc120 hm
      refine wp_exit ?_
      refine then_exit ?_
      refine then_exit ?_
      refine inBlock_exit ?_
      obtain rfl := it_brk hm hc119
      have H : Heap w0 [] w := H.sel [] (by decide)
      exact ⟨S.sub trivial, H, rfl⟩

/-- laws.FnExactSplitRound -/
def laws_FnExactSplitRound_m (fuel : Nat) (a0 : Tlaws_Lts) (a1 : Int) (a2 : Int) : Option (Bool) :=
  (laws_szLts_m fuel (a0.1, a0.2.1, a0.2.2.1, a0.2.2.2) (1048576 : Int)).bind fun x54 => (if (decide (x54 < (0 : Int))) = true then some (true) else (laws_toLts_m fuel (a0.1, a0.2.1, a0.2.2.1, a0.2.2.2)).bind fun x60 => (spec_SplitRound_m fuel (x60.1, x60.2.1, x60.2.2.1, x60.2.2.2) a1 a2).bind fun x69 => (laws_toLts_m fuel (a0.1, a0.2.1, a0.2.2.1, a0.2.2.2)).bind fun x74 => (impl_SplitRound_m fuel (x74.1, x74.2.1, x74.2.2.1, x74.2.2.2) a1 a2).bind fun x87 => (if (x87.1 != x69.1) = true then some true else some (x87.2 != x69.2)).bind fun t90 => (if t90 = true then some (false) else (laws_toLts_m fuel (a0.1, a0.2.1, a0.2.2.1, a0.2.2.2)).bind fun x98 => (laws_eqLts_m fuel (x74.1, x74.2.1, x74.2.2.1, x74.2.2.2) (x98.1, x98.2.1, x98.2.2.1, x98.2.2.2)).bind fun x107 => (if (!x107) = true then some (false) else some (true))))
set_option maxRecDepth 20000 in
theorem laws_FnExactSplitRound_ok {w0 : World} {fuel : Nat} {p0 : Value} {a0 : Tlaws_Lts} {a1 : Int} {a2 : Int} {r : Bool} (hG : Glob Tryz.prog w0) (h0 : Rd Rlaws_Lts w0 p0 a0) (hm : laws_FnExactSplitRound_m fuel a0 a1 a2 = some r) :
  Calls Tryz.prog 6 #[p0, .int .i64 a1, .int .i64 a2] w0 fun e w => e = .returned (.bool r) ∧ Heap w0 [] w := by
 unfold laws_FnExactSplitRound_m at hm
 have H := Heap.start w0
 obtain ⟨c31, rfl, h32⟩ := h0
 obtain ⟨c37, c38, rfl, h39, h40⟩ := h32
 obtain rfl := h39
 obtain ⟨c41, c42, rfl, h43, h44⟩ := h40
 obtain rfl := h43
 obtain ⟨c45, c46, rfl, h47, h48⟩ := h44
 obtain ⟨v33, rfl, h34⟩ := rd_list h47
 obtain ⟨v35, rfl, h36⟩ := rd_list h48
 refine enter (args := [(.agg #[(.int .i64 a0.1), (.int .i64 a0.2.1), v33, v35]), .int .i64 a1, .int .i64 a2]) Tryz.func6 rfl 48 rfl (Nat.le_of_ble_eq_true rfl) (fun a S => ?_)
 refine wp_seq (region_plain ?_)
 refine lx_box S trivial (by decide) rfl H rfl rfl (fun b49 w50 H => ⟨trivial, fun a S => ?_⟩)
 refine lq (.bool false) S (q_assign rfl) fun a S => ?_
 refine lx_nil (thenN ?_)
 refine wp_seq (region_plain ?_)
 refine lq (.int .i64 (1048576 : Int)) S (q_assign rfl) fun a S => ?_
 refine lx_nil (thenN ?_)
 refine wp_seq (region_plain ?_)
 refine lx_e (.agg #[(.int .i64 a0.1), (.int .i64 a0.2.1), v33, v35]) S trivial (by decide) rfl trivial (q_loadA (cs := [(.int .i64 a0.1), (.int .i64 a0.2.1), v33, v35]) rfl (isP_bp _) Tryz.isAgg25 Tryz.sizeOf25 (by rintro _ rfl; exact (fun j u hu => boxAt (i := 0) H rfl hu))) (fun a S => ?_)
 refine lq (.int .i64 (1048576 : Int)) S (q_move rfl) fun a S => ?_
 obtain ⟨x54, e55, hm⟩ := bind_some hm
 refine lx_call (xs := [.tmp 13, .tmp 14]) S trivial (by decide) rfl rfl Tryz.call10 ((laws_szLts_ok ⟨[(.int .i64 a0.1), (.int .i64 a0.2.1), v33, v35], rfl, ⟨[(.int .i64 a0.1)], [(.int .i64 a0.2.1), v33, v35], rfl, rfl, ⟨[(.int .i64 a0.2.1)], [v33, v35], rfl, rfl, ⟨[v33], [v35], rfl, ((H.arg h34)).list_rd, ((H.arg h36)).list_rd⟩⟩⟩⟩  e55).mono ?_)
 rintro e w52 ⟨rfl, Hc53⟩
 have H := H.call0 Hc53
 refine ⟨_, rfl, trivial, fun a S => ?_⟩
 refine lq (.int .i64 x54) S (q_assign rfl) fun a S => ?_
 refine lx_nil (thenN ?_)
 refine wp_seq (wp_seq (region_plain ?_))
 refine lq (.int .i64 x54) S (q_move rfl) fun a S => ?_
 refine lq (.bool (decide (x54 < (0 : Int)))) S (q_lss rfl rfl) fun a S => ?_
 refine lx_nil (thenN ?_)
 refine cond_b S rfl (fun hc57 => ?_) (fun hc57 => ?_)
 ·have hm := ite_t hc57 hm
  refine wp_seq (region_plain ?_)
  refine lq (.bool true) S (q_assign rfl) fun a S => ?_
  refine lx_nil (thenN ?_)
  refine wp_ret (then_ret ?_)
  obtain rfl := Option.some.inj hm
  have H : Heap w0 [] w52 := H.sel [] (by decide)
  exact leave1 S rfl rfl ⟨rfl, H⟩
 ·have hm := ite_f hc57 hm
  refine wp_skip (thenN ?_)
  refine wp_seq (region_plain ?_)
  refine lx_e (.agg #[(.int .i64 a0.1), (.int .i64 a0.2.1), v33, v35]) S trivial (by decide) rfl trivial (q_loadA (cs := [(.int .i64 a0.1), (.int .i64 a0.2.1), v33, v35]) rfl (isP_bp _) Tryz.isAgg25 Tryz.sizeOf25 (by rintro _ rfl; exact (fun j u hu => boxAt (i := 0) H rfl hu))) (fun a S => ?_)
  obtain ⟨x60, e61, hm⟩ := bind_some hm
  refine lx_call (xs := [.tmp 19]) S trivial (by decide) rfl rfl Tryz.call12 ((laws_toLts_ok ⟨[(.int .i64 a0.1), (.int .i64 a0.2.1), v33, v35], rfl, ⟨[(.int .i64 a0.1)], [(.int .i64 a0.2.1), v33, v35], rfl, rfl, ⟨[(.int .i64 a0.2.1)], [v33, v35], rfl, rfl, ⟨[v33], [v35], rfl, ((H.arg h34)).list_rd, ((H.arg h36)).list_rd⟩⟩⟩⟩ e61).mono ?_)
  rintro e w58 ⟨v62, v63, rfl, Hc59⟩
  have H := H.call2 Hc59
  refine ⟨_, rfl, trivial, fun a S => ?_⟩
  refine lq (.int .i64 a1) S (q_move rfl) fun a S => ?_
  refine lq (.int .i64 a2) S (q_move rfl) fun a S => ?_
  obtain ⟨x69, e70, hm⟩ := bind_some hm
  refine lx_call (xs := [.tmp 20, .tmp 21, .tmp 22]) S trivial (by decide) rfl rfl Tryz.call24 ((spec_SplitRound_ok ⟨[(.int .i64 x60.1), (.int .i64 x60.2.1), v62, v63], rfl, ⟨[(.int .i64 x60.1)], [(.int .i64 x60.2.1), v62, v63], rfl, rfl, ⟨[(.int .i64 x60.2.1)], [v62, v63], rfl, rfl, ⟨[v62], [v63], rfl, ((H.rdAt 0 rfl)).list_rd, ((H.rdAt 1 rfl)).list_rd⟩⟩⟩⟩   e70).mono ?_)
  rintro e w67 ⟨rfl, Hc68⟩
  have H := H.call0 Hc68
  refine ⟨_, rfl, trivial, fun a S => ?_⟩
  refine lq (.tuple #[(.int .i64 x69.1), (.int .i64 x69.2)]) S (q_move rfl) fun a S => ?_
  refine lq (.int .i64 x69.1) S (q_extract rfl rfl) fun a S => ?_
  refine lq (.int .i64 x69.2) S (q_extract rfl rfl) fun a S => ?_
  refine lq (.int .i64 x69.1) S (q_assign rfl) fun a S => ?_
  refine lq (.int .i64 x69.2) S (q_assign rfl) fun a S => ?_
  refine lx_nil (thenN ?_)
  refine wp_seq (region_plain ?_)
  refine lx_e (.agg #[(.int .i64 a0.1), (.int .i64 a0.2.1), v33, v35]) S trivial (by decide) rfl trivial (q_loadA (cs := [(.int .i64 a0.1), (.int .i64 a0.2.1), v33, v35]) rfl (isP_bp _) Tryz.isAgg25 Tryz.sizeOf25 (by rintro _ rfl; exact (fun j u hu => boxAt (i := 2) H rfl hu))) (fun a S => ?_)
  obtain ⟨x74, e75, hm⟩ := bind_some hm
  refine lx_call (xs := [.tmp 26]) S trivial (by decide) rfl rfl Tryz.call12 ((laws_toLts_ok ⟨[(.int .i64 a0.1), (.int .i64 a0.2.1), v33, v35], rfl, ⟨[(.int .i64 a0.1)], [(.int .i64 a0.2.1), v33, v35], rfl, rfl, ⟨[(.int .i64 a0.2.1)], [v33, v35], rfl, rfl, ⟨[v33], [v35], rfl, ((H.arg h34)).list_rd, ((H.arg h36)).list_rd⟩⟩⟩⟩ e75).mono ?_)
  rintro e w72 ⟨v76, v77, rfl, Hc73⟩
  have H := H.call2 Hc73
  refine ⟨_, rfl, trivial, fun a S => ?_⟩
  refine lx_alloc S trivial (by decide) rfl H Tryz.zeroValue32 rfl (fun b81 w82 H => ⟨trivial, fun a S => ?_⟩)
  refine lx_storeBox (o := 0) (i := 0) (us := [(.int .i64 x74.1), (.int .i64 x74.2.1), v76, v77]) (cs' := [(.int .i64 x74.1), (.int .i64 x74.2.1), v76, v77]) S trivial rfl H rfl rfl rfl rfl Tryz.sizeOf32 (Nat.le_of_ble_eq_true rfl) (List.forall_mem_cons.2 ⟨rfl, (List.forall_mem_cons.2 ⟨rfl, (List.forall_mem_cons.2 ⟨one_sl (H.isSl 1 rfl), (List.forall_mem_cons.2 ⟨one_sl (H.isSl 2 rfl), (fun _ h => nomatch h)⟩)⟩)⟩)⟩) rfl (fun w84 H => ⟨trivial, fun a S => ?_⟩)
  change Heap w0 [bA b81 [(.int .i64 x74.1), (.int .i64 x74.2.1), v76, v77] 32, oA (rList rStr) v76 x74.2.2.1, oA (rList Rimpl_Edge) v77 x74.2.2.2, oA (rList rStr) v62 x60.2.2.1, oA (rList Rimpl_Edge) v63 x60.2.2.2, bA b49 [(.int .i64 a0.1), (.int .i64 a0.2.1), v33, v35] 25] w84 at H
  refine lx_nil (thenN ?_)
  refine wp_seq (region_plain ?_)
  refine lx_e (.agg #[(.int .i64 x74.1), (.int .i64 x74.2.1), v76, v77]) S trivial (by decide) rfl trivial (q_loadA (cs := [(.int .i64 x74.1), (.int .i64 x74.2.1), v76, v77]) rfl (isP_bp _) Tryz.isAgg32 Tryz.sizeOf32 (by rintro _ rfl; exact (fun j u hu => boxAt (i := 0) H rfl hu))) (fun a S => ?_)
  refine lq (.int .i64 a1) S (q_move rfl) fun a S => ?_
  refine lq (.int .i64 a2) S (q_move rfl) fun a S => ?_
  obtain ⟨x87, e88, hm⟩ := bind_some hm
  refine lx_call (xs := [.tmp 29, .tmp 30, .tmp 31]) S trivial (by decide) rfl rfl Tryz.call25 ((impl_SplitRound_ok (hG.ext H.ext) ⟨[(.int .i64 x74.1), (.int .i64 x74.2.1), v76, v77], rfl, ⟨[(.int .i64 x74.1)], [(.int .i64 x74.2.1), v76, v77], rfl, rfl, ⟨[(.int .i64 x74.2.1)], [v76, v77], rfl, rfl, ⟨[v76], [v77], rfl, ((H.rdAt 1 rfl)).list_rd, ((H.rdAt 2 rfl)).list_rd⟩⟩⟩⟩   e88).mono ?_)
  rintro e w85 ⟨rfl, Hc86⟩
  have H := H.call0 Hc86
  refine ⟨_, rfl, trivial, fun a S => ?_⟩
  refine lq (.tuple #[(.int .i64 x87.1), (.int .i64 x87.2)]) S (q_move rfl) fun a S => ?_
  refine lq (.int .i64 x87.1) S (q_extract rfl rfl) fun a S => ?_
  refine lq (.int .i64 x87.2) S (q_extract rfl rfl) fun a S => ?_
  refine lq (.int .i64 x87.1) S (q_assign rfl) fun a S => ?_
  refine lq (.int .i64 x87.2) S (q_assign rfl) fun a S => ?_
  refine lx_nil (thenN ?_)
  refine wp_seq (wp_seq (region_plain ?_))
  refine lq (.int .i64 x87.1) S (q_move rfl) fun a S => ?_
  refine lq (.int .i64 x69.1) S (q_move rfl) fun a S => ?_
  refine lq (.bool (x87.1 != x69.1)) S (q_neq rfl rfl) fun a S => ?_
  refine lq (.bool (x87.1 != x69.1)) S (q_move rfl) fun a S => ?_
  obtain ⟨t90, e91, hm⟩ := bind_some hm
  refine lx_cut 4 (fun a w => Slots a 48 [(3, (bp b49)), (10, (bp b81)), (42, (.bool t90))] ∧ Heap w0 [bA b81 [(.int .i64 x74.1), (.int .i64 x74.2.1), v76, v77] 32, oA (rList rStr) v76 x74.2.2.1, oA (rList Rimpl_Edge) v77 x74.2.2.2, bA b49 [(.int .i64 a0.1), (.int .i64 a0.2.1), v33, v35] 25] w) ?_ ?_
  ·by_cases hc92 : (x87.1 != x69.1) = true
   ·have hm := ite_t hc92 e91
    refine lx_skip S rfl rfl (isB_ne hc92) (by decide) (fun a S => ?_)
    refine lx_skip S rfl rfl (isB_ne hc92) (by decide) (fun a S => ?_)
    refine lx_skip S rfl rfl (isB_ne hc92) (by decide) (fun a S => ?_)
    refine lq (.bool true) S (q_pickT' rfl hc92 rfl) fun a S => ?_
    refine lx_nil ?_
    obtain rfl := Option.some.inj hm
    have H := H.sel [0, 1, 2, 5] (by decide)
    exact ⟨S.sub ⟨rfl, rfl, rfl, trivial⟩, H⟩
   ·have hm := ite_f (eq_false_of_ne_true hc92) e91
    have hc92 : (x87.1 != x69.1) = false := eq_false_of_ne_true hc92
    refine lx_q (.int .i64 x87.2) S (want_b rfl rfl hc92) (by decide) (q_move rfl) (fun a S => ?_)
    refine lx_q (.int .i64 x69.2) S (want_b rfl rfl hc92) (by decide) (q_move rfl) (fun a S => ?_)
    refine lx_q (.bool (x87.2 != x69.2)) S (want_b rfl rfl hc92) (by decide) (q_neq rfl rfl) (fun a S => ?_)
    refine lq (.bool (x87.2 != x69.2)) S (q_pickF' rfl hc92 rfl) fun a S => ?_
    refine lx_nil ?_
    obtain rfl := Option.some.inj hm
    have H := H.sel [0, 1, 2, 5] (by decide)
    exact ⟨S.sub ⟨rfl, rfl, rfl, trivial⟩, H⟩
  ·rintro a w ⟨S, H⟩
   refine lx_nil (thenN ?_)
   refine cond_b S rfl (fun hc93 => ?_) (fun hc93 => ?_)
   ·have hm := ite_t hc93 hm
    refine wp_seq (region_plain ?_)
    refine lq (.bool false) S (q_assign rfl) fun a S => ?_
    refine lx_nil (thenN ?_)
    refine wp_ret (then_ret ?_)
    obtain rfl := Option.some.inj hm
    have H : Heap w0 [] w := H.sel [] (by decide)
    exact leave1 S rfl rfl ⟨rfl, H⟩
   ·have hm := ite_f hc93 hm
    refine wp_skip (thenN ?_)
    refine wp_seq ?_
    refine wp_seq ?_
    refine region_drawG (fun w1 => Heap w0 [bA b81 [(.int .i64 x74.1), (.int .i64 x74.2.1), v76, v77] 32, bA b49 [(.int .i64 a0.1), (.int .i64 a0.2.1), v33, v35] 25] w1) (fun i => [2, 3].contains i) mixed (by kernel_rfl) (fun w95 he94 => ?_)
    have H := H.later he94
    refine ⟨H.sel [0, 3] (by decide), ?_⟩
    refine lq (.agg #[(.int .i64 x74.1), (.int .i64 x74.2.1), v76, v77]) S (q_loadA (cs := [(.int .i64 x74.1), (.int .i64 x74.2.1), v76, v77]) rfl (isP_bp _) Tryz.isAgg32 Tryz.sizeOf32 (fun w1 hC => (fun j u hu => boxAt (i := 0) hC rfl hu))) fun a S => ?_
    refine lq (.agg #[(.int .i64 a0.1), (.int .i64 a0.2.1), v33, v35]) S (q_loadA (cs := [(.int .i64 a0.1), (.int .i64 a0.2.1), v33, v35]) rfl (isP_bp _) Tryz.isAgg25 Tryz.sizeOf25 (fun w1 hC => (fun j u hu => boxAt (i := 1) hC rfl hu))) fun a S => ?_
    obtain ⟨x98, e99, hm⟩ := bind_some hm
    refine lx_call (xs := [.tmp 44]) S trivial (by decide) rfl rfl Tryz.call12 ((laws_toLts_ok ⟨[(.int .i64 a0.1), (.int .i64 a0.2.1), v33, v35], rfl, ⟨[(.int .i64 a0.1)], [(.int .i64 a0.2.1), v33, v35], rfl, rfl, ⟨[(.int .i64 a0.2.1)], [v33, v35], rfl, rfl, ⟨[v33], [v35], rfl, ((H.arg h34)).list_rd, ((H.arg h36)).list_rd⟩⟩⟩⟩ e99).mono ?_)
    rintro e w96 ⟨v100, v101, rfl, Hc97⟩
    have H := H.call2 Hc97
    refine ⟨_, rfl, H.sel [2, 5] (by decide), fun a S => ?_⟩
    obtain ⟨x107, e108, hm⟩ := bind_some hm
    refine lx_call (xs := [.tmp 43, .tmp 45]) S trivial (by decide) rfl rfl Tryz.call15 ((laws_eqLts_ok ⟨[(.int .i64 x74.1), (.int .i64 x74.2.1), v76, v77], rfl, ⟨[(.int .i64 x74.1)], [(.int .i64 x74.2.1), v76, v77], rfl, rfl, ⟨[(.int .i64 x74.2.1)], [v76, v77], rfl, rfl, ⟨[v76], [v77], rfl, ((H.rdAt 3 rfl)).list_rd, ((H.rdAt 4 rfl)).list_rd⟩⟩⟩⟩ ⟨[(.int .i64 x98.1), (.int .i64 x98.2.1), v100, v101], rfl, ⟨[(.int .i64 x98.1)], [(.int .i64 x98.2.1), v100, v101], rfl, rfl, ⟨[(.int .i64 x98.2.1)], [v100, v101], rfl, rfl, ⟨[v100], [v101], rfl, ((H.rdAt 0 rfl)).list_rd, ((H.rdAt 1 rfl)).list_rd⟩⟩⟩⟩ e108).mono ?_)
    rintro e w105 ⟨rfl, Hc106⟩
    have H := H.call0 Hc106
    refine ⟨_, rfl, H.sel [2, 5] (by decide), fun a S => ?_⟩
    refine lq (.bool (!x107)) S (q_not rfl) fun a S => ?_
    refine lx_nil (thenN ?_)
    refine cond_b S rfl (fun hc110 => ?_) (fun hc110 => ?_)
    ·have hm := ite_t hc110 hm
     refine wp_seq (region_plain ?_)
     refine lq (.bool false) S (q_assign rfl) fun a S => ?_
     refine lx_nil (thenN ?_)
     refine wp_ret (then_ret ?_)
     obtain rfl := Option.some.inj hm
     have H : Heap w0 [] w105 := H.sel [] (by decide)
     exact leave1 S rfl rfl ⟨rfl, H⟩
    ·have hm := ite_f hc110 hm
     refine wp_skip (thenN ?_)
     refine wp_seq (region_plain ?_)
     refine lq (.bool true) S (q_assign rfl) fun a S => ?_
     refine lx_nil (thenN ?_)
     refine wp_ret ?_
     obtain rfl := Option.some.inj hm
     have H : Heap w0 [] w105 := H.sel [] (by decide)
     exact leave1 S rfl rfl ⟨rfl, H⟩
end Go.Proofs.YtciiinpphaaddaaGreatDoor
