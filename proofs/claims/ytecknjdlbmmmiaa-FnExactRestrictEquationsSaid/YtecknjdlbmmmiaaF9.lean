/- The models of some functions and their walks (printed by a program of this repo). -/
import Derived.Test.YtecknjdlbmmmiaaF0
import Derived.Test.YtecknjdlbmmmiaaF1
import Derived.Test.YtecknjdlbmmmiaaF5
import Derived.Test.YtecknjdlbmmmiaaFS
import Derived.Test.YtecknjdlbmmmiaaGxT
namespace Go.Proofs.Ytecknjdlbmmmiaa
open Go.RowKit Go.Gx

/-- spec.l14List -/
def spec_l14List_m (fuel : Nat) (a0 : (List Bool)) : Option ((List Int)) :=
  (iter (fun (s : (List Int) × (Int)) => (match s with | (xs59, x61) => (if (decide (x61 < (a0.length : Int))) = true then join (κ := List Int → Option (((List Int) × (Int)) ⊕ (((List Int)) ⊕ ((List Int))))) (fun (xs99 : List Int) => some (.inl (xs99, (W (x61 + (1 : Int)))))) (fun K101 => (idx a0 x61).bind fun x103 => (if x103 = true then (app xs59 [x61]).bind fun x112 => (K101 x112) else (K101 xs59))) else some (.inr (.inl (xs59)))) : Option (((List Int) × (Int)) ⊕ (((List Int)) ⊕ ((List Int)))))) fuel (([] : List Int), (0 : Int))).bind fun res89 => ctl (β := (List Int)) (ρ := (List Int)) (τ := (List Int)) res89 (fun (xs87) => some (xs87)) (fun q => some (q))
set_option maxRecDepth 20000 in
theorem spec_l14List_ok {w0 : World} {fuel : Nat} {p0 : Value} {a0 : (List Bool)} {r : (List Int)} (h0 : Rd (rList rBool) w0 p0 a0) (hm : spec_l14List_m fuel a0 = some r) :
  Calls Try.prog 132 #[p0] w0 fun e w => ∃ (v0 : Value), e = .returned (v0) ∧ Heap w0 [oA (rList (rInt .i64)) v0 r] w := by
 unfold spec_l14List_m at hm
 have H := Heap.start w0
 refine enter (args := [p0]) Try.func132 rfl 21 rfl (Nat.le_of_ble_eq_true rfl) (fun a S => ?_)
 refine wp_seq (region_plain ?_)
 refine lq (.slice none 0 0) S (q_assign rfl) fun a S => ?_
 refine lx_nil (thenN ?_)
 refine wp_seq (region_plain ?_)
 refine lx_buildSlice0 (r := (rInt .i64)) S trivial (by decide) rfl H Try.underlying23 Try.sizeOf2 (fun v31 w32 H => ⟨trivial, fun a S => ?_⟩)
 refine lq v31 S (q_assign rfl) fun a S => ?_
 refine lx_nil (thenN ?_)
 refine wp_seq (wp_seq (region_plain ?_))
 refine lq (.int .i64 (0 : Int)) S (q_assign rfl) fun a S => ?_
 refine lx_nil (thenN ?_)
 obtain ⟨res89, hit90, hk93⟩ := bind_some hm
 obtain ⟨f91, hf92, hit90⟩ := iter_name hit90
 refine block_loop (fun a w => ∃ (xs87 : List Int) (v86 : Value), Slots a 21 [(3, v86)] ∧ Heap w0 [oA (rList (rInt .i64)) v86 xs87] w ∧ res89 = .inl (xs87)) ?_ ?_
 ·rintro a w ⟨xs87, v86, S, H, rfl⟩
  have hm := ctl_inl hk93
  refine thenN ?_
  refine wp_seq (region_plain ?_)
  refine lq v86 S (q_move rfl) fun a S => ?_
  refine lq v86 S (q_assign rfl) fun a S => ?_
  refine lx_nil (thenN ?_)
  refine wp_ret ?_
  obtain rfl := Option.some.inj hm
  exact leave1 S rfl rfl ⟨v86, rfl, H⟩
 ·skip
  refine loop_ghost (fun n a w => ∃ (xs59 : List Int) (x61 : Int) (v58 : Value), Slots a 21 [(0, p0), (3, v58), (4, (.int .i64 x61))] ∧ Heap w0 [oA (rList (rInt .i64)) v58 xs59] w ∧ iter f91 n (xs59, x61) = some res89) _ ⟨([] : List Int), (0 : Int), v31, S.sub ⟨rfl, rfl, rfl, trivial⟩, H, hit90⟩ ?_
  rintro n a w ⟨xs59, x61, v58, S, H, hit90⟩
  obtain ⟨m94, o95, rfl, hm, hc96⟩ := iter_step hit90
  rw [hf92] at hm
  refine wp_seq (wp_seq (region_plain ?_))
  refine lq (.int .i64 x61) S (q_move rfl) fun a S => ?_
  refine lq p0 S (q_move rfl) fun a S => ?_
  refine lq (.int .i64 (a0.length : Int)) S (q_lenSl rfl (h0).isSl rfl Try.underlying113) fun a S => ?_
  refine lq (.bool (decide (x61 < (a0.length : Int)))) S (q_lss rfl rfl) fun a S => ?_
  refine lx_nil (thenN ?_)
  refine cond_b S rfl (fun hc97 => ?_) (fun hc97 => ?_)
  ·have hm := ite_t hc97 hm
   refine wp_skip (thenN ?_)
   obtain ⟨K101, hK102, hm⟩ := join_elim hm
   refine seq_cut (fun a w => ∃ (xs99 : List Int) (v98 : Value), Slots a 21 [(0, p0), (3, v98), (4, (.int .i64 x61))] ∧ Heap w0 [oA (rList (rInt .i64)) v98 xs99] w ∧ K101 xs99 = some o95) ?_ ?_
   ·rintro a w ⟨xs99, v98, S, H, hm⟩
    subst hK102
    refine region_plain ?_
    refine lq (.int .i64 x61) S (q_move rfl) fun a S => ?_
    refine lq (.int .i64 (W (x61 + (1 : Int)))) S (q_add rfl rfl) fun a S => ?_
    refine lq (.int .i64 (W (x61 + (1 : Int)))) S (q_assign rfl) fun a S => ?_
    refine lx_nil ?_
    exact ⟨m94, Nat.lt_succ_self _, xs99, (W (x61 + (1 : Int))), v98, S.sub ⟨rfl, rfl, rfl, trivial⟩, H, it_cont hm hc96⟩
   ·skip
    refine wp_block ?_
    refine wp_seq (region_plain ?_)
    refine lq p0 S (q_move rfl) fun a S => ?_
    refine lq (.int .i64 x61) S (q_move rfl) fun a S => ?_
    obtain ⟨x103, e104, hm⟩ := bind_some hm
    obtain ⟨c105, h106, hat107⟩ := (h0).elem (idx_some e104).2
    obtain rfl := h106
    have hlt := lt_of_idx (idx_some e104).2
    refine lq (ePtr p0 (x61.toNat * 1)) S (q_indexAddr rfl (h0).isSl rfl (idx_some e104).1 hlt Try.underlying113 Try.sizeOf4) fun a S => ?_
    refine lx_e (.bool x103) S trivial (by decide) rfl trivial (q_load1 rfl Try.isAgg4 (by rintro _ rfl; exact ((hat107 0 _ rfl).ext H.ext))) (fun a S => ?_)
    refine lx_nil (thenN ?_)
    refine cond_b S rfl (fun hc108 => ?_) (fun hc108 => ?_)
    ·have hm := ite_t hc108 hm
     refine region_plain ?_
     refine lq v58 S (q_move rfl) fun a S => ?_
     refine lq (.int .i64 x61) S (q_move rfl) fun a S => ?_
     refine lx_buildSlice (r := (rInt .i64)) (xs := [x61]) (ps := [(0, [(.int .i64 x61)])]) (cs := [(.int .i64 x61)]) (parts := [(0, .tmp 17)]) S trivial (by decide) rfl (H.put0 (A := eA) rfl) rfl Try.underlying23 Try.sizeOf2 Try.zeroValue2 (by decide) ⟨rfl, rfl, Nat.le_of_ble_eq_true rfl, trivial⟩ (by intro zs hz; exact fill_dense hz ⟨rfl, trivial⟩ rfl rfl) rfl (by decide) (fun w F hA => by cases (show F = [] from hA); exact ⟨_, _, [(.int .i64 x61)], _, rfl, rfl, ⟨rfl, rfl⟩, ⟨rfl, rfl⟩⟩) (fun v109 w110 H => ⟨trivial, fun a S => ?_⟩)
     obtain ⟨x112, e113, hm⟩ := bind_some hm
     obtain ⟨hle, hap⟩ := app_some e113
     replace hap := hap.symm
     subst hap
     have H : Heap w0 [oA (rList (rInt .i64)) v109 [x61], oA (rList (rInt .i64)) v58 xs59] w110 := H.front 0 rfl
     have H : Heap w0 [oA (rList (rInt .i64)) v58 xs59, oA (rList (rInt .i64)) v109 [x61]] w110 := H.front 1 rfl
     refine lx_appendOwn (r := (rInt .i64)) S trivial (by decide) rfl H rfl rfl Try.underlying23 Try.ti2 rfl rfl rfl (by decide) (by decide) hle (fun v114 w115 H => ⟨trivial, fun a S => ?_⟩)
     refine lq v114 S (q_assign rfl) fun a S => ?_
     refine lx_nil ?_
     refine inBlock_norm ?_
     exact ⟨(xs59 ++ [x61]), v114, S.sub ⟨rfl, rfl, rfl, trivial⟩, H, hm⟩
    ·have hm := ite_f hc108 hm
     refine wp_skip ?_
     refine inBlock_norm ?_
     exact ⟨xs59, v58, S.sub ⟨rfl, rfl, rfl, trivial⟩, H, hm⟩
  ·have hm := ite_f hc97 hm
   refine wp_exit ?_
   refine then_exit ?_
   refine then_exit ?_
   refine inBlock_exit ?_
   obtain rfl := it_brk hm hc96
   exact ⟨xs59, v58, S.sub ⟨rfl, trivial⟩, H, rfl⟩

/-- spec.l22Relevant -/
def spec_l22Relevant_m (fuel : Nat) (a0 : (List Timpl_Equation)) (a1 : Int) : Option ((List Int)) :=
  (mks (a0.length : Int) false).bind fun x31 => (idx x31 a1).bind fun _ => (iter (fun (s : (List Bool) × (List Int) × (Int)) => (match s with | (xs213, xs215, x217) => (if (decide (x217 < (xs215.length : Int))) = true then (idx xs215 x217).bind fun x405 => (idx a0 x405).bind fun x410 => (iter (fun (s : (List Bool) × (List Int) × (Int)) => (match s with | (xs469, xs471, x473) => (if (decide (x473 < (x410.2.2.length : Int))) = true then join (κ := List Bool → List Int → Option (((List Bool) × (List Int) × (Int)) ⊕ (((List Bool) × (List Int)) ⊕ ((List Int))))) (fun (xs531 : List Bool) (xs533 : List Int) => some (.inl (xs531, xs533, (W (x473 + (1 : Int)))))) (fun K535 => (idx x410.2.2 x473).bind fun x537 => (idx xs469 x537).bind fun x542 => (if (!x542) = true then (idx x410.2.2 x473).bind fun x548 => (idx xs469 x548).bind fun _ => (idx x410.2.2 x473).bind fun x556 => (app xs471 [x556]).bind fun x564 => (K535 (xs469.set x548.toNat true) x564) else (K535 xs469 xs471))) else some (.inr (.inl (xs469, xs471)))) : Option (((List Bool) × (List Int) × (Int)) ⊕ (((List Bool) × (List Int)) ⊕ ((List Int)))))) fuel (xs213, xs215, (0 : Int))).bind fun res522 => ctl (β := (List Bool) × (List Int)) (ρ := (List Int)) (τ := (((List Bool) × (List Int) × (Int)) ⊕ (((List Bool)) ⊕ ((List Int))))) res522 (fun (xs518, xs520) => some (.inl (xs518, xs520, (W (x217 + (1 : Int)))))) (fun q => some (.inr (.inr q))) else some (.inr (.inl (xs213)))) : Option (((List Bool) × (List Int) × (Int)) ⊕ (((List Bool)) ⊕ ((List Int)))))) fuel ((x31.set a1.toNat true), [a1], (0 : Int))).bind fun res389 => ctl (β := (List Bool)) (ρ := (List Int)) (τ := (List Int)) res389 (fun (xs388) => (spec_l14List_m fuel xs388).bind fun x396 => some (x396)) (fun q => some (q))
set_option maxRecDepth 20000 in
theorem spec_l22Relevant_ok {w0 : World} {fuel : Nat} {p0 : Value} {a0 : (List Timpl_Equation)} {a1 : Int} {r : (List Int)} (h0 : Rd (rList Rimpl_Equation) w0 p0 a0) (hm : spec_l22Relevant_m fuel a0 a1 = some r) :
  Calls Try.prog 91 #[p0, .int .i64 a1] w0 fun e w => ∃ (v0 : Value), e = .returned (v0) ∧ Heap w0 [oA (rList (rInt .i64)) v0 r] w := by
 unfold spec_l22Relevant_m at hm
 have H := Heap.start w0
 refine enter (args := [p0, .int .i64 a1]) Try.func91 rfl 61 rfl (Nat.le_of_ble_eq_true rfl) (fun a S => ?_)
 refine wp_seq (region_plain ?_)
 refine lq (.slice none 0 0) S (q_assign rfl) fun a S => ?_
 refine lx_nil (thenN ?_)
 refine wp_seq (region_plain ?_)
 refine lq p0 S (q_move rfl) fun a S => ?_
 refine lq (.int .i64 (a0.length : Int)) S (q_lenSl rfl (h0).isSl rfl Try.underlying36) fun a S => ?_
 obtain ⟨x31, e32, hm⟩ := bind_some hm
 obtain ⟨m33, hn, hn2, rfl⟩ := mks_some e32
 refine lx_make (r := rBool) (z0 := false) (n := m33) S trivial (by decide) rfl H (by rw [← hn]; rfl) (by rw [← hn]; rfl) Try.underlying113 (Try.ti4) rfl rfl (by decide) (fun w => ⟨rfl, rfl⟩) hn2 (by decide) (fun v34 w35 H => ⟨trivial, fun a S => ?_⟩)
 refine lq v34 S (q_assign rfl) fun a S => ?_
 refine lx_nil (thenN ?_)
 refine wp_seq (region_plain ?_)
 refine lq v34 S (q_move rfl) fun a S => ?_
 refine lq (.int .i64 a1) S (q_move rfl) fun a S => ?_
 obtain ⟨x37, e38, hm⟩ := bind_some hm
 have hlt := lt_of_idx (idx_some e38).2
 refine lq (ePtr v34 (a1.toNat * 1)) S (q_indexAddr rfl (H.isSl 0 rfl) rfl (idx_some e38).1 hlt Try.underlying113 Try.sizeOf4) fun a S => ?_
 refine lx_storeElem (r := rBool) (us := [(.bool true)]) (off := 0) (e' := true) S trivial rfl H.putE (by rw [pAdd_zero]; rfl) rfl (idx_some e38).2 rfl Try.sizeOf4 (Nat.le_of_ble_eq_true rfl) (List.forall_mem_cons.2 ⟨rfl, (fun _ h => nomatch h)⟩) (Upd.full rfl (fun w G hG => by cases (show G = [] from hG); exact ⟨rfl, rfl⟩)) (fun w39 H => ⟨trivial, fun a S => ?_⟩)
 refine lx_nil (thenN ?_)
 refine wp_seq (region_plain ?_)
 refine lq (.int .i64 a1) S (q_move rfl) fun a S => ?_
 refine lx_buildSlice (r := (rInt .i64)) (xs := [a1]) (ps := [(0, [(.int .i64 a1)])]) (cs := [(.int .i64 a1)]) (parts := [(0, .tmp 16)]) S trivial (by decide) rfl (H.put0 (A := eA) rfl) rfl Try.underlying23 Try.sizeOf2 Try.zeroValue2 (by decide) ⟨rfl, rfl, Nat.le_of_ble_eq_true rfl, trivial⟩ (by intro zs hz; exact fill_dense hz ⟨rfl, trivial⟩ rfl rfl) rfl (by decide) (fun w F hA => by cases (show F = [] from hA); exact ⟨_, _, [(.int .i64 a1)], _, rfl, rfl, ⟨rfl, rfl⟩, ⟨rfl, rfl⟩⟩) (fun v40 w41 H => ⟨trivial, fun a S => ?_⟩)
 refine lq v40 S (q_assign rfl) fun a S => ?_
 refine lx_nil (thenN ?_)
 refine wp_seq (wp_seq (region_plain ?_))
 refine lq (.int .i64 (0 : Int)) S (q_assign rfl) fun a S => ?_
 refine lx_nil (thenN ?_)
 obtain ⟨res389, hit390, hk393⟩ := bind_some hm
 obtain ⟨f391, hf392, hit390⟩ := iter_name hit390
 refine block_loop (fun a w => ∃ (xs388 : List Bool), Slots a 61 [(5, v34)] ∧ Heap w0 [oA (rList rBool) v34 xs388] w ∧ res389 = .inl (xs388)) ?_ ?_
 ·rintro a w ⟨xs388, S, H, rfl⟩
  have hm := ctl_inl hk393
  refine thenN ?_
  refine wp_seq (region_plain ?_)
  refine lq v34 S (q_move rfl) fun a S => ?_
  obtain ⟨x396, e397, hm⟩ := bind_some hm
  refine lx_call (xs := [.tmp 59]) S trivial (by decide) rfl rfl Try.call132 ((spec_l14List_ok (H.rdAt 0 rfl) e397).mono ?_)
  rintro e w394 ⟨v398, rfl, Hc395⟩
  have H := H.call1 Hc395
  refine ⟨_, rfl, trivial, fun a S => ?_⟩
  refine lq v398 S (q_assign rfl) fun a S => ?_
  refine lx_nil (thenN ?_)
  refine wp_ret ?_
  obtain rfl := Option.some.inj hm
  have H : Heap w0 [oA (rList (rInt .i64)) v398 x396] w394 := H.sel [0] (by decide)
  exact leave1 S rfl rfl ⟨v398, rfl, H⟩
 ·skip
  have H : Heap w0 [oA (rList rBool) v34 ((List.replicate m33 false).set a1.toNat true), oA (rList (rInt .i64)) v40 [a1]] w41 := H.front 1 rfl
  refine loop_ghost (fun n a w => ∃ (xs213 : List Bool) (xs215 : List Int) (x217 : Int) (v214 : Value), Slots a 61 [(0, p0), (5, v34), (6, v214), (7, (.int .i64 x217))] ∧ Heap w0 [oA (rList rBool) v34 xs213, oA (rList (rInt .i64)) v214 xs215] w ∧ iter f391 n (xs213, xs215, x217) = some res389) _ ⟨((List.replicate m33 false).set a1.toNat true), [a1], (0 : Int), v40, S.sub ⟨rfl, rfl, rfl, rfl, trivial⟩, H, hit390⟩ ?_
  rintro n a w ⟨xs213, xs215, x217, v214, S, H, hit390⟩
  obtain ⟨m401, o402, rfl, hm, hc403⟩ := iter_step hit390
  rw [hf392] at hm
  refine wp_seq (wp_seq (region_plain ?_))
  refine lq (.int .i64 x217) S (q_move rfl) fun a S => ?_
  refine lq v214 S (q_move rfl) fun a S => ?_
  refine lq (.int .i64 (xs215.length : Int)) S (q_lenSl rfl (H.isSl 1 rfl) rfl Try.underlying23) fun a S => ?_
  refine lq (.bool (decide (x217 < (xs215.length : Int)))) S (q_lss rfl rfl) fun a S => ?_
  refine lx_nil (thenN ?_)
  refine cond_b S rfl (fun hc404 => ?_) (fun hc404 => ?_)
  ·have hm := ite_t hc404 hm
   refine wp_skip (thenN ?_)
   refine wp_seq ?_
   refine wp_block ?_
   refine wp_seq (region_plain ?_)
   refine lq p0 S (q_move rfl) fun a S => ?_
   refine lq v214 S (q_move rfl) fun a S => ?_
   refine lq (.int .i64 x217) S (q_move rfl) fun a S => ?_
   obtain ⟨x405, e406, hm⟩ := bind_some hm
   have hlt := lt_of_idx (idx_some e406).2
   refine lq (ePtr v214 (x217.toNat * 1)) S (q_indexAddr rfl (H.isSl 1 rfl) rfl (idx_some e406).1 hlt Try.underlying23 Try.sizeOf2) fun a S => ?_
   obtain ⟨c407, h408, hat409⟩ := (H.rdAt 1 rfl).elem (idx_some e406).2
   obtain rfl := h408
   refine lx_e (.int .i64 x405) S trivial (by decide) rfl trivial (q_load1 rfl Try.isAgg2 (by rintro _ rfl; exact (hat409 0 _ rfl))) (fun a S => ?_)
   obtain ⟨x410, e411, hm⟩ := bind_some hm
   obtain ⟨c412, h413, hat414⟩ := (h0).elem (idx_some e411).2
   obtain ⟨c417, c418, rfl, h419, h420⟩ := h413
   obtain rfl := h419
   obtain ⟨c421, c422, rfl, h423, h424⟩ := h420
   obtain rfl := h423
   obtain ⟨v415, rfl, h416⟩ := rd_list h424
   have hlt := lt_of_idx (idx_some e411).2
   refine lq (ePtr p0 (x405.toNat * 3)) S (q_indexAddr rfl (h0).isSl rfl (idx_some e411).1 hlt Try.underlying36 Try.sizeOf85) fun a S => ?_
   refine lq (pAdd (ePtr p0 (x405.toNat * 3)) 2) S (q_fieldAddr' 2 23 rfl ((hat414 0 _ rfl).isP) Try.underlying85 rfl Try.sizeOf23) fun a S => ?_
   refine lx_e v415 S trivial (by decide) rfl trivial (q_load1 rfl Try.isAgg23 (by rintro _ rfl; exact (At.of_add (m := 2) (j := 0) ((hat414 2 _ rfl).ext H.ext)))) (fun a S => ?_)
   refine lq v415 S (q_assign rfl) fun a S => ?_
   refine lx_nil (thenN ?_)
   refine wp_seq (region_plain ?_)
   refine lq (.int .i64 (0 : Int)) S (q_assign rfl) fun a S => ?_
   refine lx_nil (thenN ?_)
   obtain ⟨res522, hit523, hk526⟩ := bind_some hm
   obtain ⟨f524, hf525, hit523⟩ := iter_name hit523
   refine block_loop (fun a w => ∃ (xs518 : List Bool) (xs520 : List Int) (v519 : Value), Slots a 61 [(0, p0), (5, v34), (6, v519), (7, (.int .i64 x217))] ∧ Heap w0 [oA (rList rBool) v34 xs518, oA (rList (rInt .i64)) v519 xs520] w ∧ res522 = .inl (xs518, xs520)) ?_ ?_
   ·rintro a w ⟨xs518, xs520, v519, S, H, rfl⟩
    have hm := ctl_inl hk526
    refine inBlock_norm ?_
    refine thenN ?_
    refine region_plain ?_
    refine lq (.int .i64 x217) S (q_move rfl) fun a S => ?_
    refine lq (.int .i64 (W (x217 + (1 : Int)))) S (q_add rfl rfl) fun a S => ?_
    refine lq (.int .i64 (W (x217 + (1 : Int)))) S (q_assign rfl) fun a S => ?_
    refine lx_nil ?_
    exact ⟨m401, Nat.lt_succ_self _, xs518, xs520, (W (x217 + (1 : Int))), v519, S.sub ⟨rfl, rfl, rfl, rfl, trivial⟩, H, it_cont hm hc403⟩
   ·skip
    refine loop_ghost (fun n a w => ∃ (xs469 : List Bool) (xs471 : List Int) (x473 : Int) (v470 : Value), Slots a 61 [(0, p0), (5, v34), (6, v470), (7, (.int .i64 x217)), (8, v415), (9, (.int .i64 x473))] ∧ Heap w0 [oA (rList rBool) v34 xs469, oA (rList (rInt .i64)) v470 xs471] w ∧ iter f524 n (xs469, xs471, x473) = some res522) _ ⟨xs213, xs215, (0 : Int), v214, S.sub ⟨rfl, rfl, rfl, rfl, rfl, rfl, trivial⟩, H, hit523⟩ ?_
    rintro n a w ⟨xs469, xs471, x473, v470, S, H, hit523⟩
    obtain ⟨m527, o528, rfl, hm, hc529⟩ := iter_step hit523
    rw [hf525] at hm
    refine wp_seq (wp_seq (region_plain ?_))
    refine lq (.int .i64 x473) S (q_move rfl) fun a S => ?_
    refine lq v415 S (q_move rfl) fun a S => ?_
    refine lq (.int .i64 (x410.2.2.length : Int)) S (q_lenSl rfl (h416).isSl rfl Try.underlying23) fun a S => ?_
    refine lq (.bool (decide (x473 < (x410.2.2.length : Int)))) S (q_lss rfl rfl) fun a S => ?_
    refine lx_nil (thenN ?_)
    refine cond_b S rfl (fun hc530 => ?_) (fun hc530 => ?_)
    ·have hm := ite_t hc530 hm
     refine wp_skip (thenN ?_)
     obtain ⟨K535, hK536, hm⟩ := join_elim hm
     refine seq_cut (fun a w => ∃ (xs531 : List Bool) (xs533 : List Int) (v532 : Value), Slots a 61 [(0, p0), (5, v34), (6, v532), (7, (.int .i64 x217)), (8, v415), (9, (.int .i64 x473))] ∧ Heap w0 [oA (rList rBool) v34 xs531, oA (rList (rInt .i64)) v532 xs533] w ∧ K535 xs531 xs533 = some o528) ?_ ?_
     ·rintro a w ⟨xs531, xs533, v532, S, H, hm⟩
      subst hK536
      refine region_plain ?_
      refine lq (.int .i64 x473) S (q_move rfl) fun a S => ?_
      refine lq (.int .i64 (W (x473 + (1 : Int)))) S (q_add rfl rfl) fun a S => ?_
      refine lq (.int .i64 (W (x473 + (1 : Int)))) S (q_assign rfl) fun a S => ?_
      refine lx_nil ?_
      exact ⟨m527, Nat.lt_succ_self _, xs531, xs533, (W (x473 + (1 : Int))), v532, S.sub ⟨rfl, rfl, rfl, rfl, rfl, rfl, trivial⟩, H, it_cont hm hc529⟩
     ·skip
      refine wp_block ?_
      refine wp_seq (region_plain ?_)
      refine lq v34 S (q_move rfl) fun a S => ?_
      refine lq v415 S (q_move rfl) fun a S => ?_
      refine lq (.int .i64 x473) S (q_move rfl) fun a S => ?_
      obtain ⟨x537, e538, hm⟩ := bind_some hm
      obtain ⟨c539, h540, hat541⟩ := (h416).elem (idx_some e538).2
      obtain rfl := h540
      have hlt := lt_of_idx (idx_some e538).2
      refine lq (ePtr v415 (x473.toNat * 1)) S (q_indexAddr rfl (h416).isSl rfl (idx_some e538).1 hlt Try.underlying23 Try.sizeOf2) fun a S => ?_
      refine lx_e (.int .i64 x537) S trivial (by decide) rfl trivial (q_load1 rfl Try.isAgg2 (by rintro _ rfl; exact ((hat541 0 _ rfl).ext H.ext))) (fun a S => ?_)
      obtain ⟨x542, e543, hm⟩ := bind_some hm
      have hlt := lt_of_idx (idx_some e543).2
      refine lq (ePtr v34 (x537.toNat * 1)) S (q_indexAddr rfl (H.isSl 0 rfl) rfl (idx_some e543).1 hlt Try.underlying113 Try.sizeOf4) fun a S => ?_
      obtain ⟨c544, h545, hat546⟩ := (H.rdAt 0 rfl).elem (idx_some e543).2
      obtain rfl := h545
      refine lx_e (.bool x542) S trivial (by decide) rfl trivial (q_load1 rfl Try.isAgg4 (by rintro _ rfl; exact (hat546 0 _ rfl))) (fun a S => ?_)
      refine lq (.bool (!x542)) S (q_not rfl) fun a S => ?_
      refine lx_nil (thenN ?_)
      refine cond_b S rfl (fun hc547 => ?_) (fun hc547 => ?_)
      ·have hm := ite_t hc547 hm
       refine wp_seq (region_plain ?_)
       refine lq v34 S (q_move rfl) fun a S => ?_
       refine lq v415 S (q_move rfl) fun a S => ?_
       refine lq (.int .i64 x473) S (q_move rfl) fun a S => ?_
       obtain ⟨x548, e549, hm⟩ := bind_some hm
       obtain ⟨c550, h551, hat552⟩ := (h416).elem (idx_some e549).2
       obtain rfl := h551
       have hlt := lt_of_idx (idx_some e549).2
       refine lq (ePtr v415 (x473.toNat * 1)) S (q_indexAddr rfl (h416).isSl rfl (idx_some e549).1 hlt Try.underlying23 Try.sizeOf2) fun a S => ?_
       refine lx_e (.int .i64 x548) S trivial (by decide) rfl trivial (q_load1 rfl Try.isAgg2 (by rintro _ rfl; exact ((hat552 0 _ rfl).ext H.ext))) (fun a S => ?_)
       obtain ⟨x553, e554, hm⟩ := bind_some hm
       have hlt := lt_of_idx (idx_some e554).2
       refine lq (ePtr v34 (x548.toNat * 1)) S (q_indexAddr rfl (H.isSl 0 rfl) rfl (idx_some e554).1 hlt Try.underlying113 Try.sizeOf4) fun a S => ?_
       refine lx_storeElem (r := rBool) (us := [(.bool true)]) (off := 0) (e' := true) S trivial rfl H.putE (by rw [pAdd_zero]; rfl) rfl (idx_some e554).2 rfl Try.sizeOf4 (Nat.le_of_ble_eq_true rfl) (List.forall_mem_cons.2 ⟨rfl, (fun _ h => nomatch h)⟩) (Upd.full rfl (fun w G hG => by cases (show G = [] from hG); exact ⟨rfl, rfl⟩)) (fun w555 H => ⟨trivial, fun a S => ?_⟩)
       refine lx_nil (thenN ?_)
       refine region_plain ?_
       refine lq v470 S (q_move rfl) fun a S => ?_
       refine lq v415 S (q_move rfl) fun a S => ?_
       refine lq (.int .i64 x473) S (q_move rfl) fun a S => ?_
       obtain ⟨x556, e557, hm⟩ := bind_some hm
       obtain ⟨c558, h559, hat560⟩ := (h416).elem (idx_some e557).2
       obtain rfl := h559
       have hlt := lt_of_idx (idx_some e557).2
       refine lq (ePtr v415 (x473.toNat * 1)) S (q_indexAddr rfl (h416).isSl rfl (idx_some e557).1 hlt Try.underlying23 Try.sizeOf2) fun a S => ?_
       refine lx_e (.int .i64 x556) S trivial (by decide) rfl trivial (q_load1 rfl Try.isAgg2 (by rintro _ rfl; exact ((hat560 0 _ rfl).ext H.ext))) (fun a S => ?_)
       refine lx_buildSlice (r := (rInt .i64)) (xs := [x556]) (ps := [(0, [(.int .i64 x556)])]) (cs := [(.int .i64 x556)]) (parts := [(0, .tmp 56)]) S trivial (by decide) rfl (H.put0 (A := eA) rfl) rfl Try.underlying23 Try.sizeOf2 Try.zeroValue2 (by decide) ⟨rfl, rfl, Nat.le_of_ble_eq_true rfl, trivial⟩ (by intro zs hz; exact fill_dense hz ⟨rfl, trivial⟩ rfl rfl) rfl (by decide) (fun w F hA => by cases (show F = [] from hA); exact ⟨_, _, [(.int .i64 x556)], _, rfl, rfl, ⟨rfl, rfl⟩, ⟨rfl, rfl⟩⟩) (fun v561 w562 H => ⟨trivial, fun a S => ?_⟩)
       obtain ⟨x564, e565, hm⟩ := bind_some hm
       obtain ⟨hle, hap⟩ := app_some e565
       replace hap := hap.symm
       subst hap
       have H : Heap w0 [oA (rList (rInt .i64)) v561 [x556], oA (rList rBool) v34 (xs469.set x548.toNat true), oA (rList (rInt .i64)) v470 xs471] w562 := H.front 0 rfl
       have H : Heap w0 [oA (rList (rInt .i64)) v470 xs471, oA (rList (rInt .i64)) v561 [x556], oA (rList rBool) v34 (xs469.set x548.toNat true)] w562 := H.front 2 rfl
       refine lx_appendOwn (r := (rInt .i64)) S trivial (by decide) rfl H rfl rfl Try.underlying23 Try.ti2 rfl rfl rfl (by decide) (by decide) hle (fun v566 w567 H => ⟨trivial, fun a S => ?_⟩)
       refine lq v566 S (q_assign rfl) fun a S => ?_
       refine lx_nil ?_
       refine inBlock_norm ?_
       have H : Heap w0 [oA (rList rBool) v34 (xs469.set x548.toNat true), oA (rList (rInt .i64)) v566 (xs471 ++ [x556])] w567 := H.front 1 rfl
       exact ⟨(xs469.set x548.toNat true), (xs471 ++ [x556]), v566, S.sub ⟨rfl, rfl, rfl, rfl, rfl, rfl, trivial⟩, H, hm⟩
      ·have hm := ite_f hc547 hm
       refine wp_skip ?_
       refine inBlock_norm ?_
       exact ⟨xs469, xs471, v470, S.sub ⟨rfl, rfl, rfl, rfl, rfl, rfl, trivial⟩, H, hm⟩
    ·have hm := ite_f hc530 hm
     refine wp_exit ?_
     refine then_exit ?_
     refine then_exit ?_
     refine inBlock_exit ?_
     obtain rfl := it_brk hm hc529
     exact ⟨xs469, xs471, v470, S.sub ⟨rfl, rfl, rfl, rfl, trivial⟩, H, rfl⟩
  ·have hm := ite_f hc404 hm
   refine wp_exit ?_
   refine then_exit ?_
   refine then_exit ?_
   refine inBlock_exit ?_
   obtain rfl := it_brk hm hc403
   have H : Heap w0 [oA (rList rBool) v34 xs213] w := H.sel [0] (by decide)
   exact ⟨xs213, S.sub ⟨rfl, trivial⟩, H, rfl⟩

/-- impl.equationCode -/
def impl_equationCode_m (fuel : Nat) (a0 : (List Timpl_Equation)) (a1 : Int) : Option (Int) :=
  (impl_ValidEquations_m fuel a0).bind fun x33 => (if (!x33) = true then some ((1 : Int)) else (impl_index_m fuel a1 (a0.length : Int)).bind fun x39 => (if (!x39) = true then some ((2 : Int)) else some ((0 : Int))))
set_option maxRecDepth 20000 in
theorem impl_equationCode_ok {w0 : World} {fuel : Nat} {p0 : Value} {a0 : (List Timpl_Equation)} {a1 : Int} {r : Int} (h0 : Rd (rList Rimpl_Equation) w0 p0 a0) (hm : impl_equationCode_m fuel a0 a1 = some r) :
  Calls Try.prog 92 #[p0, .int .i64 a1] w0 fun e w => e = .returned (.int .i64 r) ∧ Heap w0 [] w := by
 unfold impl_equationCode_m at hm
 have H := Heap.start w0
 refine enter (args := [p0, .int .i64 a1]) Try.func92 rfl 15 rfl (Nat.le_of_ble_eq_true rfl) (fun a S => ?_)
 refine wp_seq (region_plain ?_)
 refine lq (.int .i64 (0 : Int)) S (q_assign rfl) fun a S => ?_
 refine lx_nil (thenN ?_)
 refine wp_seq ?_
 refine wp_block ?_
 refine wp_seq (region_plain ?_)
 refine lq p0 S (q_move rfl) fun a S => ?_
 obtain ⟨x33, e34, hm⟩ := bind_some hm
 refine lx_call (xs := [.tmp 6]) S trivial (by decide) rfl rfl Try.call71 ((impl_ValidEquations_ok (H.arg h0) e34).mono ?_)
 rintro e w31 ⟨rfl, Hc32⟩
 have H := H.call0 Hc32
 refine ⟨_, rfl, trivial, fun a S => ?_⟩
 refine lq (.bool (!x33)) S (q_not rfl) fun a S => ?_
 refine lq (.bool (!x33)) S (q_assign rfl) fun a S => ?_
 refine lx_nil (thenN ?_)
 refine cond_b S rfl (fun hc36 => ?_) (fun hc36 => ?_)
 ·have hm := ite_t hc36 hm
  refine wp_seq (region_plain ?_)
  refine lq (.int .i64 (1 : Int)) S (q_assign rfl) fun a S => ?_
  refine lx_nil (thenN ?_)
  refine wp_ret (inBlock_ret ?_)
  refine then_ret ?_
  obtain rfl := Option.some.inj hm
  exact leave1 S rfl rfl ⟨rfl, H⟩
 ·have hm := ite_f hc36 hm
  refine wp_seq (region_plain ?_)
  refine lq (.int .i64 a1) S (q_move rfl) fun a S => ?_
  refine lq p0 S (q_move rfl) fun a S => ?_
  refine lq (.int .i64 (a0.length : Int)) S (q_lenSl rfl (h0).isSl rfl Try.underlying36) fun a S => ?_
  obtain ⟨x39, e40, hm⟩ := bind_some hm
  refine lx_call (xs := [.tmp 10, .tmp 12]) S trivial (by decide) rfl rfl Try.call115 ((impl_index_ok   e40).mono ?_)
  rintro e w37 ⟨rfl, Hc38⟩
  have H := H.call0 Hc38
  refine ⟨_, rfl, trivial, fun a S => ?_⟩
  refine lq (.bool (!x39)) S (q_not rfl) fun a S => ?_
  refine lq (.bool (!x39)) S (q_assign rfl) fun a S => ?_
  refine lx_nil (thenN ?_)
  refine cond_b S rfl (fun hc42 => ?_) (fun hc42 => ?_)
  ·have hm := ite_t hc42 hm
   refine wp_seq (region_plain ?_)
   refine lq (.int .i64 (2 : Int)) S (q_assign rfl) fun a S => ?_
   refine lx_nil (thenN ?_)
   refine wp_ret (inBlock_ret ?_)
   refine then_ret ?_
   obtain rfl := Option.some.inj hm
   exact leave1 S rfl rfl ⟨rfl, H⟩
  ·have hm := ite_f hc42 hm
   refine wp_skip ?_
   refine inBlock_norm ?_
   refine thenN ?_
   refine wp_seq (region_plain ?_)
   refine lq (.int .i64 (0 : Int)) S (q_assign rfl) fun a S => ?_
   refine lx_nil (thenN ?_)
   refine wp_ret ?_
   obtain rfl := Option.some.inj hm
   exact leave1 S rfl rfl ⟨rfl, H⟩

/-- impl.relevant -/
def impl_relevant_m (fuel : Nat) (a0 : (List Timpl_Equation)) (a1 : Int) : Option ((List Int)) :=
  (iter (fun (s : (List Int) × (Int)) => (match s with | (xs158, x160) => (if (decide (x160 < (xs158.length : Int))) = true then (idx xs158 x160).bind fun x300 => (idx a0 x300).bind fun x305 => (iter (fun (s : (List Int) × (Int)) => (match s with | (xs350, x352) => (if (decide (x352 < (x305.2.2.length : Int))) = true then join (κ := List Int → Option (((List Int) × (Int)) ⊕ (((List Int)) ⊕ ((List Int))))) (fun (xs395 : List Int) => some (.inl (xs395, (W (x352 + (1 : Int)))))) (fun K397 => (idx x305.2.2 x352).bind fun x399 => (slices_Contains__int64_int64_m fuel xs350 x399).bind fun x406 => (if (!x406) = true then (app xs350 [x399]).bind fun x413 => (K397 x413) else (K397 xs350))) else some (.inr (.inl (xs350)))) : Option (((List Int) × (Int)) ⊕ (((List Int)) ⊕ ((List Int)))))) fuel (xs158, (0 : Int))).bind fun res385 => ctl (β := (List Int)) (ρ := (List Int)) (τ := (((List Int) × (Int)) ⊕ (((List Int)) ⊕ ((List Int))))) res385 (fun (xs383) => some (.inl (xs383, (W (x160 + (1 : Int)))))) (fun q => some (.inr (.inr q))) else some (.inr (.inl (xs158)))) : Option (((List Int) × (Int)) ⊕ (((List Int)) ⊕ ((List Int)))))) fuel ([a1], (0 : Int))).bind fun res287 => ctl (β := (List Int)) (ρ := (List Int)) (τ := (List Int)) res287 (fun (xs285) => (slices_Sort__int64_int64_m fuel xs285).bind fun x294 => some (x294)) (fun q => some (q))
set_option maxRecDepth 20000 in
theorem impl_relevant_ok {w0 : World} {fuel : Nat} {p0 : Value} {a0 : (List Timpl_Equation)} {a1 : Int} {r : (List Int)} (h0 : Rd (rList Rimpl_Equation) w0 p0 a0) (hm : impl_relevant_m fuel a0 a1 = some r) :
  Calls Try.prog 93 #[p0, .int .i64 a1] w0 fun e w => ∃ (v0 : Value), e = .returned (v0) ∧ Heap w0 [oA (rList (rInt .i64)) v0 r] w := by
 unfold impl_relevant_m at hm
 have H := Heap.start w0
 refine enter (args := [p0, .int .i64 a1]) Try.func93 rfl 42 rfl (Nat.le_of_ble_eq_true rfl) (fun a S => ?_)
 refine wp_seq (region_plain ?_)
 refine lq (.slice none 0 0) S (q_assign rfl) fun a S => ?_
 refine lx_nil (thenN ?_)
 refine wp_seq (region_plain ?_)
 refine lq (.int .i64 a1) S (q_move rfl) fun a S => ?_
 refine lx_buildSlice (r := (rInt .i64)) (xs := [a1]) (ps := [(0, [(.int .i64 a1)])]) (cs := [(.int .i64 a1)]) (parts := [(0, .tmp 9)]) S trivial (by decide) rfl (H.put0 (A := eA) rfl) rfl Try.underlying23 Try.sizeOf2 Try.zeroValue2 (by decide) ⟨rfl, rfl, Nat.le_of_ble_eq_true rfl, trivial⟩ (by intro zs hz; exact fill_dense hz ⟨rfl, trivial⟩ rfl rfl) rfl (by decide) (fun w F hA => by cases (show F = [] from hA); exact ⟨_, _, [(.int .i64 a1)], _, rfl, rfl, ⟨rfl, rfl⟩, ⟨rfl, rfl⟩⟩) (fun v31 w32 H => ⟨trivial, fun a S => ?_⟩)
 refine lq v31 S (q_assign rfl) fun a S => ?_
 refine lx_nil (thenN ?_)
 refine wp_seq (wp_seq (region_plain ?_))
 refine lq (.int .i64 (0 : Int)) S (q_assign rfl) fun a S => ?_
 refine lx_nil (thenN ?_)
 obtain ⟨res287, hit288, hk291⟩ := bind_some hm
 obtain ⟨f289, hf290, hit288⟩ := iter_name hit288
 refine block_loop (fun a w => ∃ (xs285 : List Int) (v284 : Value), Slots a 42 [(5, v284)] ∧ Heap w0 [oA (rList (rInt .i64)) v284 xs285] w ∧ res287 = .inl (xs285)) ?_ ?_
 ·rintro a w ⟨xs285, v284, S, H, rfl⟩
  have hm := ctl_inl hk291
  refine thenN ?_
  refine wp_seq (region_plain ?_)
  refine lq v284 S (q_move rfl) fun a S => ?_
  obtain ⟨x294, e295, hm⟩ := bind_some hm
  refine lx_call (xs := [.tmp 39]) S trivial (by decide) rfl rfl Try.call133 ((slices_Sort__int64_int64_ok H  e295).mono ?_)
  rintro e w292 ⟨rfl, H⟩
  refine ⟨_, rfl, trivial, fun a S => ?_⟩
  refine lx_nil (thenN ?_)
  refine wp_seq (region_plain ?_)
  refine lq v284 S (q_move rfl) fun a S => ?_
  refine lq v284 S (q_assign rfl) fun a S => ?_
  refine lx_nil (thenN ?_)
  refine wp_ret ?_
  obtain rfl := Option.some.inj hm
  exact leave1 S rfl rfl ⟨v284, rfl, H⟩
 ·skip
  refine loop_ghost (fun n a w => ∃ (xs158 : List Int) (x160 : Int) (v157 : Value), Slots a 42 [(0, p0), (5, v157), (6, (.int .i64 x160))] ∧ Heap w0 [oA (rList (rInt .i64)) v157 xs158] w ∧ iter f289 n (xs158, x160) = some res287) _ ⟨[a1], (0 : Int), v31, S.sub ⟨rfl, rfl, rfl, trivial⟩, H, hit288⟩ ?_
  rintro n a w ⟨xs158, x160, v157, S, H, hit288⟩
  obtain ⟨m296, o297, rfl, hm, hc298⟩ := iter_step hit288
  rw [hf290] at hm
  refine wp_seq (wp_seq (region_plain ?_))
  refine lq (.int .i64 x160) S (q_move rfl) fun a S => ?_
  refine lq v157 S (q_move rfl) fun a S => ?_
  refine lq (.int .i64 (xs158.length : Int)) S (q_lenSl rfl (H.isSl 0 rfl) rfl Try.underlying23) fun a S => ?_
  refine lq (.bool (decide (x160 < (xs158.length : Int)))) S (q_lss rfl rfl) fun a S => ?_
  refine lx_nil (thenN ?_)
  refine cond_b S rfl (fun hc299 => ?_) (fun hc299 => ?_)
  ·have hm := ite_t hc299 hm
   refine wp_skip (thenN ?_)
   refine wp_seq ?_
   refine wp_block ?_
   refine wp_seq (region_plain ?_)
   refine lq p0 S (q_move rfl) fun a S => ?_
   refine lq v157 S (q_move rfl) fun a S => ?_
   refine lq (.int .i64 x160) S (q_move rfl) fun a S => ?_
   obtain ⟨x300, e301, hm⟩ := bind_some hm
   have hlt := lt_of_idx (idx_some e301).2
   refine lq (ePtr v157 (x160.toNat * 1)) S (q_indexAddr rfl (H.isSl 0 rfl) rfl (idx_some e301).1 hlt Try.underlying23 Try.sizeOf2) fun a S => ?_
   obtain ⟨c302, h303, hat304⟩ := (H.rdAt 0 rfl).elem (idx_some e301).2
   obtain rfl := h303
   refine lx_e (.int .i64 x300) S trivial (by decide) rfl trivial (q_load1 rfl Try.isAgg2 (by rintro _ rfl; exact (hat304 0 _ rfl))) (fun a S => ?_)
   obtain ⟨x305, e306, hm⟩ := bind_some hm
   obtain ⟨c307, h308, hat309⟩ := (h0).elem (idx_some e306).2
   obtain ⟨c312, c313, rfl, h314, h315⟩ := h308
   obtain rfl := h314
   obtain ⟨c316, c317, rfl, h318, h319⟩ := h315
   obtain rfl := h318
   obtain ⟨v310, rfl, h311⟩ := rd_list h319
   have hlt := lt_of_idx (idx_some e306).2
   refine lq (ePtr p0 (x300.toNat * 3)) S (q_indexAddr rfl (h0).isSl rfl (idx_some e306).1 hlt Try.underlying36 Try.sizeOf85) fun a S => ?_
   refine lq (pAdd (ePtr p0 (x300.toNat * 3)) 2) S (q_fieldAddr' 2 23 rfl ((hat309 0 _ rfl).isP) Try.underlying85 rfl Try.sizeOf23) fun a S => ?_
   refine lx_e v310 S trivial (by decide) rfl trivial (q_load1 rfl Try.isAgg23 (by rintro _ rfl; exact (At.of_add (m := 2) (j := 0) ((hat309 2 _ rfl).ext H.ext)))) (fun a S => ?_)
   refine lq (.int .i64 (x305.2.2.length : Int)) S (q_lenSl rfl (h311).isSl rfl Try.underlying23) fun a S => ?_
   refine lq (.int .i64 (0 : Int)) S (q_move rfl) fun a S => ?_
   refine lx_nil (thenN ?_)
   obtain ⟨res385, hit386, hk389⟩ := bind_some hm
   obtain ⟨f387, hf388, hit386⟩ := iter_name hit386
   refine block_loop (fun a w => ∃ (xs383 : List Int) (v382 : Value), Slots a 42 [(0, p0), (5, v382), (6, (.int .i64 x160))] ∧ Heap w0 [oA (rList (rInt .i64)) v382 xs383] w ∧ res385 = .inl (xs383)) ?_ ?_
   ·rintro a w ⟨xs383, v382, S, H, rfl⟩
    have hm := ctl_inl hk389
    refine inBlock_norm ?_
    refine thenN ?_
    refine region_plain ?_
    refine lq (.int .i64 x160) S (q_move rfl) fun a S => ?_
    refine lq (.int .i64 (W (x160 + (1 : Int)))) S (q_add rfl rfl) fun a S => ?_
    refine lq (.int .i64 (W (x160 + (1 : Int)))) S (q_assign rfl) fun a S => ?_
    refine lx_nil ?_
    exact ⟨m296, Nat.lt_succ_self _, xs383, (W (x160 + (1 : Int))), v382, S.sub ⟨rfl, rfl, rfl, trivial⟩, H, it_cont hm hc298⟩
   ·skip
    refine loop_ghost (fun n a w => ∃ (xs350 : List Int) (x352 : Int) (v349 : Value), Slots a 42 [(0, p0), (5, v349), (6, (.int .i64 x160)), (24, v310), (25, (.int .i64 (x305.2.2.length : Int))), (26, (.int .i64 x352))] ∧ Heap w0 [oA (rList (rInt .i64)) v349 xs350] w ∧ iter f387 n (xs350, x352) = some res385) _ ⟨xs158, (0 : Int), v157, S.sub ⟨rfl, rfl, rfl, rfl, rfl, rfl, trivial⟩, H, hit386⟩ ?_
    rintro n a w ⟨xs350, x352, v349, S, H, hit386⟩
    obtain ⟨m390, o391, rfl, hm, hc392⟩ := iter_step hit386
    rw [hf388] at hm
    refine wp_seq (region_plain ?_)
    refine lq (.bool (decide (x352 < (x305.2.2.length : Int)))) S (q_lss rfl rfl) fun a S => ?_
    refine lx_nil (thenN ?_)
    refine wp_seq ?_
    refine cond_b S rfl (fun hc393 => ?_) (fun hc393 => ?_)
    ·have hm := ite_t hc393 hm
     refine wp_skip (thenN ?_)
     obtain ⟨K397, hK398, hm⟩ := join_elim hm
     refine seq_cut (fun a w => ∃ (xs395 : List Int) (v394 : Value), Slots a 42 [(0, p0), (5, v394), (6, (.int .i64 x160)), (24, v310), (25, (.int .i64 (x305.2.2.length : Int))), (26, (.int .i64 x352))] ∧ Heap w0 [oA (rList (rInt .i64)) v394 xs395] w ∧ K397 xs395 = some o391) ?_ ?_
     ·rintro a w ⟨xs395, v394, S, H, hm⟩
      subst hK398
      refine region_plain ?_
      refine lq (.int .i64 (W (x352 + (1 : Int)))) S (q_add rfl rfl) fun a S => ?_
      refine lq (.int .i64 (W (x352 + (1 : Int)))) S (q_move rfl) fun a S => ?_
      refine lx_nil ?_
      exact ⟨m390, Nat.lt_succ_self _, xs395, (W (x352 + (1 : Int))), v394, S.sub ⟨rfl, rfl, rfl, rfl, rfl, rfl, trivial⟩, H, it_cont hm hc392⟩
     ·skip
      refine wp_block ?_
      refine wp_seq (region_plain ?_)
      obtain ⟨x399, e400, hm⟩ := bind_some hm
      obtain ⟨c401, h402, hat403⟩ := (h311).elem (idx_some e400).2
      obtain rfl := h402
      have hlt := lt_of_idx (idx_some e400).2
      refine lq (ePtr v310 (x352.toNat * 1)) S (q_indexAddr rfl (h311).isSl rfl (idx_some e400).1 hlt Try.underlying23 Try.sizeOf2) fun a S => ?_
      refine lx_e (.int .i64 x399) S trivial (by decide) rfl trivial (q_load1 rfl Try.isAgg2 (by rintro _ rfl; exact ((hat403 0 _ rfl).ext H.ext))) (fun a S => ?_)
      refine lq (.int .i64 x399) S (q_assign rfl) fun a S => ?_
      refine lx_nil (thenN ?_)
      refine wp_seq (region_plain ?_)
      refine lq v349 S (q_move rfl) fun a S => ?_
      refine lq (.int .i64 x399) S (q_move rfl) fun a S => ?_
      obtain ⟨x406, e407, hm⟩ := bind_some hm
      refine lx_call (xs := [.tmp 30, .tmp 31]) S trivial (by decide) rfl rfl Try.call62 ((slices_Contains__int64_int64_ok (H.rdAt 0 rfl)  e407).mono ?_)
      rintro e w404 ⟨rfl, Hc405⟩
      have H := H.call0 Hc405
      refine ⟨_, rfl, trivial, fun a S => ?_⟩
      refine lq (.bool (!x406)) S (q_not rfl) fun a S => ?_
      refine lx_nil (thenN ?_)
      refine cond_b S rfl (fun hc409 => ?_) (fun hc409 => ?_)
      ·have hm := ite_t hc409 hm
       refine region_plain ?_
       refine lq v349 S (q_move rfl) fun a S => ?_
       refine lq (.int .i64 x399) S (q_move rfl) fun a S => ?_
       refine lx_buildSlice (r := (rInt .i64)) (xs := [x399]) (ps := [(0, [(.int .i64 x399)])]) (cs := [(.int .i64 x399)]) (parts := [(0, .tmp 35)]) S trivial (by decide) rfl (H.put0 (A := eA) rfl) rfl Try.underlying23 Try.sizeOf2 Try.zeroValue2 (by decide) ⟨rfl, rfl, Nat.le_of_ble_eq_true rfl, trivial⟩ (by intro zs hz; exact fill_dense hz ⟨rfl, trivial⟩ rfl rfl) rfl (by decide) (fun w F hA => by cases (show F = [] from hA); exact ⟨_, _, [(.int .i64 x399)], _, rfl, rfl, ⟨rfl, rfl⟩, ⟨rfl, rfl⟩⟩) (fun v410 w411 H => ⟨trivial, fun a S => ?_⟩)
       obtain ⟨x413, e414, hm⟩ := bind_some hm
       obtain ⟨hle, hap⟩ := app_some e414
       replace hap := hap.symm
       subst hap
       have H : Heap w0 [oA (rList (rInt .i64)) v410 [x399], oA (rList (rInt .i64)) v349 xs350] w411 := H.front 0 rfl
       have H : Heap w0 [oA (rList (rInt .i64)) v349 xs350, oA (rList (rInt .i64)) v410 [x399]] w411 := H.front 1 rfl
       refine lx_appendOwn (r := (rInt .i64)) S trivial (by decide) rfl H rfl rfl Try.underlying23 Try.ti2 rfl rfl rfl (by decide) (by decide) hle (fun v415 w416 H => ⟨trivial, fun a S => ?_⟩)
       refine lq v415 S (q_assign rfl) fun a S => ?_
       refine lx_nil ?_
       refine inBlock_norm ?_
       exact ⟨(xs350 ++ [x399]), v415, S.sub ⟨rfl, rfl, rfl, rfl, rfl, rfl, trivial⟩, H, hm⟩
      ·have hm := ite_f hc409 hm
       refine wp_skip ?_
       refine inBlock_norm ?_
       exact ⟨xs350, v349, S.sub ⟨rfl, rfl, rfl, rfl, rfl, rfl, trivial⟩, H, hm⟩
    ·have hm := ite_f hc393 hm
     refine wp_exit ?_
     refine then_exit ?_
     refine then_exit ?_
     refine inBlock_exit ?_
     obtain rfl := it_brk hm hc392
     exact ⟨xs350, v349, S.sub ⟨rfl, rfl, rfl, trivial⟩, H, rfl⟩
  ·have hm := ite_f hc299 hm
   refine wp_exit ?_
   refine then_exit ?_
   refine then_exit ?_
   refine inBlock_exit ?_
   obtain rfl := it_brk hm hc298
   exact ⟨xs158, v157, S.sub ⟨rfl, trivial⟩, H, rfl⟩
end Go.Proofs.Ytecknjdlbmmmiaa
