/- The models of some functions and their walks (printed by a program of this repo). -/
import Derived.Test.YtecknjdlbmmmiaaF0
import Derived.Test.YtecknjdlbmmmiaaF1
import Derived.Test.YtecknjdlbmmmiaaF2
import Derived.Test.YtecknjdlbmmmiaaF3
import Derived.Test.YtecknjdlbmmmiaaF4
import Derived.Test.YtecknjdlbmmmiaaF5
import Derived.Test.YtecknjdlbmmmiaaFS
import Derived.Test.YtecknjdlbmmmiaaGxT
namespace Go.Proofs.Ytecknjdlbmmmiaa
open Go.RowKit Go.Gx

/-- laws.heldInt64SS -/
def laws_heldInt64SS_m (fuel : Nat) (a0 : (List (List Int))) (a1 : Int) : Option (Int) :=
  (iter (fun (s : (Int) × (Int)) => (match s with | (x47, x48) => (if (decide (x48 < (a0.length : Int))) = true then (idx a0 x48).bind fun x75 => (laws_heldInt64S_m fuel x75 x47).bind fun x84 => (if (decide (x84 < (0 : Int))) = true then some (.inr (.inr (-1 : Int))) else some (.inl (x84, (W (x48 + (1 : Int)))))) else some (.inr (.inl (x47)))) : Option (((Int) × (Int)) ⊕ ((Int) ⊕ (Int))))) fuel (a1, (0 : Int))).bind fun res66 => ctl (β := Int) (ρ := Int) (τ := Int) res66 (fun (x65) => some (x65)) (fun q => some (q))
set_option maxRecDepth 20000 in
theorem laws_heldInt64SS_ok {w0 : World} {fuel : Nat} {p0 : Value} {a0 : (List (List Int))} {a1 : Int} {r : Int} (h0 : Rd (rList (rList (rInt .i64))) w0 p0 a0) (hm : laws_heldInt64SS_m fuel a0 a1 = some r) :
    Calls Try.prog 40 #[p0, .int .i64 a1] w0 fun e w => e = .returned (.int .i64 r) ∧ Heap w0 [] w := by
  unfold laws_heldInt64SS_m at hm
  have H := Heap.start w0
  refine enter (args := [p0, .int .i64 a1]) Try.func40 rfl 21 rfl (Nat.le_of_ble_eq_true rfl) (fun a S => ?_)
  refine wp_seq ?_
  refine region_plain ?_
  refine lx_q (.int .i64 (0 : Int)) S trivial (by decide) (q_assign rfl) (fun a S => ?_)
  refine lx_nil ?_
  refine thenN ?_
  refine wp_seq ?_
  refine wp_seq ?_
  refine region_plain ?_
  refine lx_q (.int .i64 (0 : Int)) S trivial (by decide) (q_assign rfl) (fun a S => ?_)
  refine lx_nil ?_
  refine thenN ?_
  obtain ⟨res66, hit67, hk70⟩ := bind_some hm
  obtain ⟨f68, hf69, hit67⟩ := iter_name hit67
  refine block_loop (fun a w => ∃ (x65 : Int), Slots a 21 [(1, (.int .i64 x65))] ∧ Heap w0 [] w ∧ res66 = .inl (x65)) ?_ ?_
  · rintro a w ⟨x65, S, H, rfl⟩
    have hm := ctl_inl hk70
    refine thenN ?_
    refine wp_seq ?_
    refine region_plain ?_
    refine lx_q (.int .i64 x65) S trivial (by decide) (q_move rfl) (fun a S => ?_)
    refine lx_q (.int .i64 x65) S trivial (by decide) (q_assign rfl) (fun a S => ?_)
    refine lx_nil ?_
    refine thenN ?_
    refine wp_ret ?_
    obtain rfl := Option.some.inj hm
    exact leave1 S rfl rfl ⟨rfl, H⟩
  · skip
    refine loop_ghost (fun n a w => ∃ (x47 : Int) (x48 : Int), Slots a 21 [(0, p0), (1, (.int .i64 x47)), (5, (.int .i64 x48))] ∧ Heap w0 [] w ∧ iter f68 n (x47, x48) = some res66) _ ⟨a1, (0 : Int), S.sub ⟨rfl, rfl, rfl, trivial⟩, H, hit67⟩ ?_
    rintro n a w ⟨x47, x48, S, H, hit67⟩
    obtain ⟨m71, o72, rfl, hm, hc73⟩ := iter_step hit67
    rw [hf69] at hm
    refine wp_seq ?_
    refine wp_seq ?_
    refine region_plain ?_
    refine lx_q (.int .i64 x48) S trivial (by decide) (q_move rfl) (fun a S => ?_)
    refine lx_q p0 S trivial (by decide) (q_move rfl) (fun a S => ?_)
    refine lx_q (.int .i64 (a0.length : Int)) S trivial (by decide) (q_lenSl rfl (h0).isSl rfl Try.underlying45) (fun a S => ?_)
    refine lx_q (.bool (decide (x48 < (a0.length : Int)))) S trivial (by decide) (q_lss rfl rfl) (fun a S => ?_)
    refine lx_nil ?_
    refine thenN ?_
    refine cond_b S rfl (fun hc74 => ?_) (fun hc74 => ?_)
    · have hm := ite_t hc74 hm
      refine wp_skip ?_
      refine thenN ?_
      refine wp_seq ?_
      refine wp_block ?_
      refine wp_seq ?_
      refine region_plain ?_
      refine lx_q p0 S trivial (by decide) (q_move rfl) (fun a S => ?_)
      refine lx_q (.int .i64 x48) S trivial (by decide) (q_move rfl) (fun a S => ?_)
      obtain ⟨x75, e76, hm⟩ := bind_some hm
      obtain ⟨c77, h78, hat79⟩ := (h0).elem (idx_some e76).2
      obtain ⟨v80, rfl, h81⟩ := rd_list h78
      have hlt := lt_of_idx (idx_some e76).2
      refine lx_q (ePtr p0 (x48.toNat * 1)) S trivial (by decide) (q_indexAddr rfl (h0).isSl rfl (idx_some e76).1 hlt Try.underlying45 Try.sizeOf23) (fun a S => ?_)
      refine lx_e v80 S trivial (by decide) rfl trivial (q_load1 rfl Try.isAgg23 (by rintro _ rfl; exact ((hat79 0 _ rfl).ext H.ext))) (fun a S => ?_)
      refine lx_q (.int .i64 x47) S trivial (by decide) (q_move rfl) (fun a S => ?_)
      obtain ⟨x84, e85, hm⟩ := bind_some hm
      refine lx_call (xs := [.tmp 15, .tmp 16]) S trivial (by decide) rfl rfl Try.call31 ((laws_heldInt64S_ok (H.arg h81)  e85).mono ?_)
      rintro e w82 ⟨rfl, Hc83⟩
      have he86 := Hc83.ext
      have H := H.call0 Hc83
      refine ⟨_, rfl, trivial, fun a S => ?_⟩
      refine lx_q (.int .i64 x84) S trivial (by decide) (q_assign rfl) (fun a S => ?_)
      refine lx_nil ?_
      refine thenN ?_
      refine wp_seq ?_
      refine region_plain ?_
      refine lx_q (.int .i64 x84) S trivial (by decide) (q_move rfl) (fun a S => ?_)
      refine lx_q (.bool (decide (x84 < (0 : Int)))) S trivial (by decide) (q_lss rfl rfl) (fun a S => ?_)
      refine lx_nil ?_
      refine thenN ?_
      refine cond_b S rfl (fun hc87 => ?_) (fun hc87 => ?_)
      · have hm := ite_t hc87 hm
        refine wp_seq ?_
        refine region_plain ?_
        refine lx_q (.int .i64 (-1 : Int)) S trivial (by decide) (q_assign rfl) (fun a S => ?_)
        refine lx_nil ?_
        refine thenN ?_
        refine wp_ret ?_
        refine inBlock_ret ?_
        refine then_ret ?_
        refine then_ret ?_
        refine inBlock_ret ?_
        refine then_ret ?_
        refine then_ret ?_
        obtain rfl := it_brk hm hc73
        have hm := ctl_inr hk70
        obtain rfl := Option.some.inj hm
        exact leave1 S rfl rfl ⟨rfl, H⟩
      · have hm := ite_f hc87 hm
        refine wp_skip ?_
        refine inBlock_norm ?_
        refine thenN ?_
        refine region_plain ?_
        refine lx_q (.int .i64 x48) S trivial (by decide) (q_move rfl) (fun a S => ?_)
        refine lx_q (.int .i64 (W (x48 + (1 : Int)))) S trivial (by decide) (q_add rfl rfl) (fun a S => ?_)
        refine lx_q (.int .i64 (W (x48 + (1 : Int)))) S trivial (by decide) (q_assign rfl) (fun a S => ?_)
        refine lx_nil ?_
        exact ⟨m71, Nat.lt_succ_self _, x84, (W (x48 + (1 : Int))), S.sub ⟨rfl, rfl, rfl, trivial⟩, H, it_cont hm hc73⟩
    · have hm := ite_f hc74 hm
      refine wp_exit ?_
      refine then_exit ?_
      refine then_exit ?_
      refine inBlock_exit ?_
      obtain rfl := it_brk hm hc73
      exact ⟨x47, S.sub ⟨rfl, trivial⟩, H, rfl⟩

/-- spec.l14List -/
def spec_l14List_m (fuel : Nat) (a0 : (List Bool)) : Option ((List Int)) :=
  (iter (fun (s : (List Int) × (Int)) => (match s with | (xs59, x61) => (if (decide (x61 < (a0.length : Int))) = true then join (κ := List Int → Option (((List Int) × (Int)) ⊕ (((List Int)) ⊕ ((List Int))))) (fun (xs99 : List Int) => some (.inl (xs99, (W (x61 + (1 : Int)))))) (fun K101 => (idx a0 x61).bind fun x103 => (if x103 = true then (app xs59 [x61]).bind fun x112 => (K101 x112) else (K101 xs59))) else some (.inr (.inl (xs59)))) : Option (((List Int) × (Int)) ⊕ (((List Int)) ⊕ ((List Int)))))) fuel (([] : List Int), (0 : Int))).bind fun res89 => ctl (β := (List Int)) (ρ := (List Int)) (τ := (List Int)) res89 (fun (xs87) => some (xs87)) (fun q => some (q))
set_option maxRecDepth 20000 in
theorem spec_l14List_ok {w0 : World} {fuel : Nat} {p0 : Value} {a0 : (List Bool)} {r : (List Int)} (h0 : Rd (rList rBool) w0 p0 a0) (hm : spec_l14List_m fuel a0 = some r) :
    Calls Try.prog 132 #[p0] w0 fun e w => ∃ (v0 : Value), e = .returned (v0) ∧ Heap w0 [oA (rList (rInt .i64)) v0 r] w := by
  unfold spec_l14List_m at hm
  have H := Heap.start w0
  refine enter (args := [p0]) Try.func132 rfl 21 rfl (Nat.le_of_ble_eq_true rfl) (fun a S => ?_)
  refine wp_seq ?_
  refine region_plain ?_
  refine lx_q (.slice none 0 0) S trivial (by decide) (q_assign rfl) (fun a S => ?_)
  refine lx_nil ?_
  refine thenN ?_
  refine wp_seq ?_
  refine region_plain ?_
  refine lx_buildSlice0 (r := (rInt .i64)) S trivial (by decide) rfl H Try.underlying23 Try.sizeOf2 (fun v31 w32 H => ⟨trivial, fun a S => ?_⟩)
  refine lx_q v31 S trivial (by decide) (q_assign rfl) (fun a S => ?_)
  refine lx_nil ?_
  refine thenN ?_
  refine wp_seq ?_
  refine wp_seq ?_
  refine region_plain ?_
  refine lx_q (.int .i64 (0 : Int)) S trivial (by decide) (q_assign rfl) (fun a S => ?_)
  refine lx_nil ?_
  refine thenN ?_
  obtain ⟨res89, hit90, hk93⟩ := bind_some hm
  obtain ⟨f91, hf92, hit90⟩ := iter_name hit90
  refine block_loop (fun a w => ∃ (xs87 : List Int) (v86 : Value), Slots a 21 [(3, v86)] ∧ Heap w0 [oA (rList (rInt .i64)) v86 xs87] w ∧ res89 = .inl (xs87)) ?_ ?_
  · rintro a w ⟨xs87, v86, S, H, rfl⟩
    have hm := ctl_inl hk93
    refine thenN ?_
    refine wp_seq ?_
    refine region_plain ?_
    refine lx_q v86 S trivial (by decide) (q_move rfl) (fun a S => ?_)
    refine lx_q v86 S trivial (by decide) (q_assign rfl) (fun a S => ?_)
    refine lx_nil ?_
    refine thenN ?_
    refine wp_ret ?_
    obtain rfl := Option.some.inj hm
    exact leave1 S rfl rfl ⟨v86, rfl, H⟩
  · skip
    refine loop_ghost (fun n a w => ∃ (xs59 : List Int) (x61 : Int) (v58 : Value), Slots a 21 [(0, p0), (3, v58), (4, (.int .i64 x61))] ∧ Heap w0 [oA (rList (rInt .i64)) v58 xs59] w ∧ iter f91 n (xs59, x61) = some res89) _ ⟨([] : List Int), (0 : Int), v31, S.sub ⟨rfl, rfl, rfl, trivial⟩, H, hit90⟩ ?_
    rintro n a w ⟨xs59, x61, v58, S, H, hit90⟩
    obtain ⟨m94, o95, rfl, hm, hc96⟩ := iter_step hit90
    rw [hf92] at hm
    refine wp_seq ?_
    refine wp_seq ?_
    refine region_plain ?_
    refine lx_q (.int .i64 x61) S trivial (by decide) (q_move rfl) (fun a S => ?_)
    refine lx_q p0 S trivial (by decide) (q_move rfl) (fun a S => ?_)
    refine lx_q (.int .i64 (a0.length : Int)) S trivial (by decide) (q_lenSl rfl (h0).isSl rfl Try.underlying113) (fun a S => ?_)
    refine lx_q (.bool (decide (x61 < (a0.length : Int)))) S trivial (by decide) (q_lss rfl rfl) (fun a S => ?_)
    refine lx_nil ?_
    refine thenN ?_
    refine cond_b S rfl (fun hc97 => ?_) (fun hc97 => ?_)
    · have hm := ite_t hc97 hm
      refine wp_skip ?_
      refine thenN ?_
      obtain ⟨K101, hK102, hm⟩ := join_elim hm
      refine seq_cut (fun a w => ∃ (xs99 : List Int) (v98 : Value), Slots a 21 [(0, p0), (3, v98), (4, (.int .i64 x61))] ∧ Heap w0 [oA (rList (rInt .i64)) v98 xs99] w ∧ K101 xs99 = some o95) ?_ ?_
      · rintro a w ⟨xs99, v98, S, H, hm⟩
        subst hK102
        refine region_plain ?_
        refine lx_q (.int .i64 x61) S trivial (by decide) (q_move rfl) (fun a S => ?_)
        refine lx_q (.int .i64 (W (x61 + (1 : Int)))) S trivial (by decide) (q_add rfl rfl) (fun a S => ?_)
        refine lx_q (.int .i64 (W (x61 + (1 : Int)))) S trivial (by decide) (q_assign rfl) (fun a S => ?_)
        refine lx_nil ?_
        exact ⟨m94, Nat.lt_succ_self _, xs99, (W (x61 + (1 : Int))), v98, S.sub ⟨rfl, rfl, rfl, trivial⟩, H, it_cont hm hc96⟩
      · skip
        refine wp_block ?_
        refine wp_seq ?_
        refine region_plain ?_
        refine lx_q p0 S trivial (by decide) (q_move rfl) (fun a S => ?_)
        refine lx_q (.int .i64 x61) S trivial (by decide) (q_move rfl) (fun a S => ?_)
        obtain ⟨x103, e104, hm⟩ := bind_some hm
        obtain ⟨c105, h106, hat107⟩ := (h0).elem (idx_some e104).2
        obtain rfl := h106
        have hlt := lt_of_idx (idx_some e104).2
        refine lx_q (ePtr p0 (x61.toNat * 1)) S trivial (by decide) (q_indexAddr rfl (h0).isSl rfl (idx_some e104).1 hlt Try.underlying113 Try.sizeOf4) (fun a S => ?_)
        refine lx_e (.bool x103) S trivial (by decide) rfl trivial (q_load1 rfl Try.isAgg4 (by rintro _ rfl; exact ((hat107 0 _ rfl).ext H.ext))) (fun a S => ?_)
        refine lx_nil ?_
        refine thenN ?_
        refine cond_b S rfl (fun hc108 => ?_) (fun hc108 => ?_)
        · have hm := ite_t hc108 hm
          refine region_plain ?_
          refine lx_q v58 S trivial (by decide) (q_move rfl) (fun a S => ?_)
          refine lx_q (.int .i64 x61) S trivial (by decide) (q_move rfl) (fun a S => ?_)
          refine lx_buildSlice (r := (rInt .i64)) (xs := [x61]) (ps := [(0, [(.int .i64 x61)])]) (cs := [(.int .i64 x61)]) (parts := [(0, .tmp 17)]) S trivial (by decide) rfl (H.put0 (A := eA) rfl) rfl Try.underlying23 Try.sizeOf2 Try.zeroValue2 (by decide) ⟨rfl, rfl, Nat.le_of_ble_eq_true rfl, trivial⟩ (by intro zs hz; exact fill_dense hz ⟨rfl, trivial⟩ rfl rfl) rfl (by decide) (fun w F hA => by cases (show F = [] from hA); exact ⟨_, _, [(.int .i64 x61)], _, rfl, rfl, ⟨rfl, rfl⟩, ⟨rfl, rfl⟩⟩) (fun v109 w110 H => ⟨trivial, fun a S => ?_⟩)
          obtain ⟨x112, e113, hm⟩ := bind_some hm
          obtain ⟨hle, hap⟩ := app_some e113
          replace hap := hap.symm
          subst hap
          have H : Heap w0 [oA (rList (rInt .i64)) v109 [x61], oA (rList (rInt .i64)) v58 xs59] w110 := H.front 0 rfl
          have H : Heap w0 [oA (rList (rInt .i64)) v58 xs59, oA (rList (rInt .i64)) v109 [x61]] w110 := H.front 1 rfl
          refine lx_appendOwn (r := (rInt .i64)) S trivial (by decide) rfl H rfl rfl Try.underlying23 Try.ti2 rfl rfl rfl (by decide) (by decide) hle (fun v114 w115 H => ⟨trivial, fun a S => ?_⟩)
          refine lx_q v114 S trivial (by decide) (q_assign rfl) (fun a S => ?_)
          refine lx_nil ?_
          refine inBlock_norm ?_
          exact ⟨(xs59 ++ [x61]), v114, S.sub ⟨rfl, rfl, rfl, trivial⟩, H, hm⟩
        · have hm := ite_f hc108 hm
          refine wp_skip ?_
          refine inBlock_norm ?_
          exact ⟨xs59, v58, S.sub ⟨rfl, rfl, rfl, trivial⟩, H, hm⟩
    · have hm := ite_f hc97 hm
      refine wp_exit ?_
      refine then_exit ?_
      refine then_exit ?_
      refine inBlock_exit ?_
      obtain rfl := it_brk hm hc96
      exact ⟨xs59, v58, S.sub ⟨rfl, trivial⟩, H, rfl⟩

/-- spec.l22Relevant -/
def spec_l22Relevant_m (fuel : Nat) (a0 : (List Timpl_Equation)) (a1 : Int) : Option ((List Int)) :=
  (mks (a0.length : Int) false).bind fun x31 => (idx x31 a1).bind fun _ => (iter (fun (s : (List Bool) × (List Int) × (Int)) => (match s with | (xs213, xs215, x217) => (if (decide (x217 < (xs215.length : Int))) = true then (idx xs215 x217).bind fun x405 => (idx a0 x405).bind fun x410 => (iter (fun (s : (List Bool) × (List Int) × (Int)) => (match s with | (xs469, xs471, x473) => (if (decide (x473 < (x410.2.2.length : Int))) = true then join (κ := List Bool → List Int → Option (((List Bool) × (List Int) × (Int)) ⊕ (((List Bool) × (List Int)) ⊕ ((List Int))))) (fun (xs531 : List Bool) (xs533 : List Int) => some (.inl (xs531, xs533, (W (x473 + (1 : Int)))))) (fun K535 => (idx x410.2.2 x473).bind fun x537 => (idx xs469 x537).bind fun x542 => (if (!x542) = true then (idx x410.2.2 x473).bind fun x548 => (idx xs469 x548).bind fun _ => (idx x410.2.2 x473).bind fun x556 => (app xs471 [x556]).bind fun x564 => (K535 (xs469.set x548.toNat true) x564) else (K535 xs469 xs471))) else some (.inr (.inl (xs469, xs471)))) : Option (((List Bool) × (List Int) × (Int)) ⊕ (((List Bool) × (List Int)) ⊕ ((List Int)))))) fuel (xs213, xs215, (0 : Int))).bind fun res522 => ctl (β := (List Bool) × (List Int)) (ρ := (List Int)) (τ := (((List Bool) × (List Int) × (Int)) ⊕ (((List Bool)) ⊕ ((List Int))))) res522 (fun (xs518, xs520) => some (.inl (xs518, xs520, (W (x217 + (1 : Int)))))) (fun q => some (.inr (.inr q))) else some (.inr (.inl (xs213)))) : Option (((List Bool) × (List Int) × (Int)) ⊕ (((List Bool)) ⊕ ((List Int)))))) fuel ((x31.set a1.toNat true), [a1], (0 : Int))).bind fun res389 => ctl (β := (List Bool)) (ρ := (List Int)) (τ := (List Int)) res389 (fun (xs388) => (spec_l14List_m fuel xs388).bind fun x396 => some (x396)) (fun q => some (q))
set_option maxRecDepth 20000 in
theorem spec_l22Relevant_ok {w0 : World} {fuel : Nat} {p0 : Value} {a0 : (List Timpl_Equation)} {a1 : Int} {r : (List Int)} (h0 : Rd (rList Rimpl_Equation) w0 p0 a0) (hm : spec_l22Relevant_m fuel a0 a1 = some r) :
    Calls Try.prog 91 #[p0, .int .i64 a1] w0 fun e w => ∃ (v0 : Value), e = .returned (v0) ∧ Heap w0 [oA (rList (rInt .i64)) v0 r] w := by
  unfold spec_l22Relevant_m at hm
  have H := Heap.start w0
  refine enter (args := [p0, .int .i64 a1]) Try.func91 rfl 61 rfl (Nat.le_of_ble_eq_true rfl) (fun a S => ?_)
  refine wp_seq ?_
  refine region_plain ?_
  refine lx_q (.slice none 0 0) S trivial (by decide) (q_assign rfl) (fun a S => ?_)
  refine lx_nil ?_
  refine thenN ?_
  refine wp_seq ?_
  refine region_plain ?_
  refine lx_q p0 S trivial (by decide) (q_move rfl) (fun a S => ?_)
  refine lx_q (.int .i64 (a0.length : Int)) S trivial (by decide) (q_lenSl rfl (h0).isSl rfl Try.underlying36) (fun a S => ?_)
  obtain ⟨x31, e32, hm⟩ := bind_some hm
  obtain ⟨m33, hn, hn2, rfl⟩ := mks_some e32
  refine lx_make (r := rBool) (z0 := false) (n := m33) S trivial (by decide) rfl H (by rw [← hn]; rfl) (by rw [← hn]; rfl) Try.underlying113 (Try.ti4) rfl rfl (by decide) (fun w => ⟨rfl, rfl⟩) hn2 (by decide) (fun v34 w35 H => ⟨trivial, fun a S => ?_⟩)
  refine lx_q v34 S trivial (by decide) (q_assign rfl) (fun a S => ?_)
  refine lx_nil ?_
  refine thenN ?_
  refine wp_seq ?_
  refine region_plain ?_
  refine lx_q v34 S trivial (by decide) (q_move rfl) (fun a S => ?_)
  refine lx_q (.int .i64 a1) S trivial (by decide) (q_move rfl) (fun a S => ?_)
  obtain ⟨x37, e38, hm⟩ := bind_some hm
  have hlt := lt_of_idx (idx_some e38).2
  refine lx_q (ePtr v34 (a1.toNat * 1)) S trivial (by decide) (q_indexAddr rfl (H.isSl 0 rfl) rfl (idx_some e38).1 hlt Try.underlying113 Try.sizeOf4) (fun a S => ?_)
  refine lx_storeElem (r := rBool) (us := [(.bool true)]) (off := 0) (e' := true) S trivial rfl H.putE (by rw [pAdd_zero]; rfl) rfl (idx_some e38).2 rfl Try.sizeOf4 (Nat.le_of_ble_eq_true rfl) (List.forall_mem_cons.2 ⟨rfl, (fun _ h => nomatch h)⟩) (Upd.full rfl (fun w G hG => by cases (show G = [] from hG); exact ⟨rfl, rfl⟩)) (fun w39 H => ⟨trivial, fun a S => ?_⟩)
  refine lx_nil ?_
  refine thenN ?_
  refine wp_seq ?_
  refine region_plain ?_
  refine lx_q (.int .i64 a1) S trivial (by decide) (q_move rfl) (fun a S => ?_)
  refine lx_buildSlice (r := (rInt .i64)) (xs := [a1]) (ps := [(0, [(.int .i64 a1)])]) (cs := [(.int .i64 a1)]) (parts := [(0, .tmp 16)]) S trivial (by decide) rfl (H.put0 (A := eA) rfl) rfl Try.underlying23 Try.sizeOf2 Try.zeroValue2 (by decide) ⟨rfl, rfl, Nat.le_of_ble_eq_true rfl, trivial⟩ (by intro zs hz; exact fill_dense hz ⟨rfl, trivial⟩ rfl rfl) rfl (by decide) (fun w F hA => by cases (show F = [] from hA); exact ⟨_, _, [(.int .i64 a1)], _, rfl, rfl, ⟨rfl, rfl⟩, ⟨rfl, rfl⟩⟩) (fun v40 w41 H => ⟨trivial, fun a S => ?_⟩)
  refine lx_q v40 S trivial (by decide) (q_assign rfl) (fun a S => ?_)
  refine lx_nil ?_
  refine thenN ?_
  refine wp_seq ?_
  refine wp_seq ?_
  refine region_plain ?_
  refine lx_q (.int .i64 (0 : Int)) S trivial (by decide) (q_assign rfl) (fun a S => ?_)
  refine lx_nil ?_
  refine thenN ?_
  obtain ⟨res389, hit390, hk393⟩ := bind_some hm
  obtain ⟨f391, hf392, hit390⟩ := iter_name hit390
  refine block_loop (fun a w => ∃ (xs388 : List Bool), Slots a 61 [(5, v34)] ∧ Heap w0 [oA (rList rBool) v34 xs388] w ∧ res389 = .inl (xs388)) ?_ ?_
  · rintro a w ⟨xs388, S, H, rfl⟩
    have hm := ctl_inl hk393
    refine thenN ?_
    refine wp_seq ?_
    refine region_plain ?_
    refine lx_q v34 S trivial (by decide) (q_move rfl) (fun a S => ?_)
    obtain ⟨x396, e397, hm⟩ := bind_some hm
    refine lx_call (xs := [.tmp 59]) S trivial (by decide) rfl rfl Try.call132 ((spec_l14List_ok (H.rdAt 0 rfl) e397).mono ?_)
    rintro e w394 ⟨v398, rfl, Hc395⟩
    have he400 := Hc395.ext
    have H := H.call1 Hc395
    refine ⟨_, rfl, trivial, fun a S => ?_⟩
    refine lx_q v398 S trivial (by decide) (q_assign rfl) (fun a S => ?_)
    refine lx_nil ?_
    refine thenN ?_
    refine wp_ret ?_
    obtain rfl := Option.some.inj hm
    have H : Heap w0 [oA (rList (rInt .i64)) v398 x396] w394 := H.sel [0] (by decide)
    exact leave1 S rfl rfl ⟨v398, rfl, H⟩
  · skip
    have H : Heap w0 [oA (rList rBool) v34 ((List.replicate m33 false).set a1.toNat true), oA (rList (rInt .i64)) v40 [a1]] w41 := H.front 1 rfl
    refine loop_ghost (fun n a w => ∃ (xs213 : List Bool) (xs215 : List Int) (x217 : Int) (v214 : Value), Slots a 61 [(0, p0), (5, v34), (6, v214), (7, (.int .i64 x217))] ∧ Heap w0 [oA (rList rBool) v34 xs213, oA (rList (rInt .i64)) v214 xs215] w ∧ iter f391 n (xs213, xs215, x217) = some res389) _ ⟨((List.replicate m33 false).set a1.toNat true), [a1], (0 : Int), v40, S.sub ⟨rfl, rfl, rfl, rfl, trivial⟩, H, hit390⟩ ?_
    rintro n a w ⟨xs213, xs215, x217, v214, S, H, hit390⟩
    obtain ⟨m401, o402, rfl, hm, hc403⟩ := iter_step hit390
    rw [hf392] at hm
    refine wp_seq ?_
    refine wp_seq ?_
    refine region_plain ?_
    refine lx_q (.int .i64 x217) S trivial (by decide) (q_move rfl) (fun a S => ?_)
    refine lx_q v214 S trivial (by decide) (q_move rfl) (fun a S => ?_)
    refine lx_q (.int .i64 (xs215.length : Int)) S trivial (by decide) (q_lenSl rfl (H.isSl 1 rfl) rfl Try.underlying23) (fun a S => ?_)
    refine lx_q (.bool (decide (x217 < (xs215.length : Int)))) S trivial (by decide) (q_lss rfl rfl) (fun a S => ?_)
    refine lx_nil ?_
    refine thenN ?_
    refine cond_b S rfl (fun hc404 => ?_) (fun hc404 => ?_)
    · have hm := ite_t hc404 hm
      refine wp_skip ?_
      refine thenN ?_
      refine wp_seq ?_
      refine wp_block ?_
      refine wp_seq ?_
      refine region_plain ?_
      refine lx_q p0 S trivial (by decide) (q_move rfl) (fun a S => ?_)
      refine lx_q v214 S trivial (by decide) (q_move rfl) (fun a S => ?_)
      refine lx_q (.int .i64 x217) S trivial (by decide) (q_move rfl) (fun a S => ?_)
      obtain ⟨x405, e406, hm⟩ := bind_some hm
      have hlt := lt_of_idx (idx_some e406).2
      refine lx_q (ePtr v214 (x217.toNat * 1)) S trivial (by decide) (q_indexAddr rfl (H.isSl 1 rfl) rfl (idx_some e406).1 hlt Try.underlying23 Try.sizeOf2) (fun a S => ?_)
      obtain ⟨c407, h408, hat409⟩ := (H.rdAt 1 rfl).elem (idx_some e406).2
      obtain rfl := h408
      refine lx_e (.int .i64 x405) S trivial (by decide) rfl trivial (q_load1 rfl Try.isAgg2 (by rintro _ rfl; exact (hat409 0 _ rfl))) (fun a S => ?_)
      obtain ⟨x410, e411, hm⟩ := bind_some hm
      obtain ⟨c412, h413, hat414⟩ := (h0).elem (idx_some e411).2
      obtain ⟨c417, c418, rfl, h419, h420⟩ := h413
      obtain rfl := h419
      obtain ⟨c421, c422, rfl, h423, h424⟩ := h420
      obtain rfl := h423
      obtain ⟨v415, rfl, h416⟩ := rd_list h424
      have hlt := lt_of_idx (idx_some e411).2
      refine lx_q (ePtr p0 (x405.toNat * 3)) S trivial (by decide) (q_indexAddr rfl (h0).isSl rfl (idx_some e411).1 hlt Try.underlying36 Try.sizeOf85) (fun a S => ?_)
      refine lx_q (pAdd (ePtr p0 (x405.toNat * 3)) 2) S trivial (by decide) (q_fieldAddr' 2 23 rfl ((hat414 0 _ rfl).isP) Try.underlying85 rfl Try.sizeOf23) (fun a S => ?_)
      refine lx_e v415 S trivial (by decide) rfl trivial (q_load1 rfl Try.isAgg23 (by rintro _ rfl; exact (At.of_add (m := 2) (j := 0) ((hat414 2 _ rfl).ext H.ext)))) (fun a S => ?_)
      refine lx_q v415 S trivial (by decide) (q_assign rfl) (fun a S => ?_)
      refine lx_nil ?_
      refine thenN ?_
      refine wp_seq ?_
      refine region_plain ?_
      refine lx_q (.int .i64 (0 : Int)) S trivial (by decide) (q_assign rfl) (fun a S => ?_)
      refine lx_nil ?_
      refine thenN ?_
      obtain ⟨res522, hit523, hk526⟩ := bind_some hm
      obtain ⟨f524, hf525, hit523⟩ := iter_name hit523
      refine block_loop (fun a w => ∃ (xs518 : List Bool) (xs520 : List Int) (v519 : Value), Slots a 61 [(0, p0), (5, v34), (6, v519), (7, (.int .i64 x217))] ∧ Heap w0 [oA (rList rBool) v34 xs518, oA (rList (rInt .i64)) v519 xs520] w ∧ res522 = .inl (xs518, xs520)) ?_ ?_
      · rintro a w ⟨xs518, xs520, v519, S, H, rfl⟩
        have hm := ctl_inl hk526
        refine inBlock_norm ?_
        refine thenN ?_
        refine region_plain ?_
        refine lx_q (.int .i64 x217) S trivial (by decide) (q_move rfl) (fun a S => ?_)
        refine lx_q (.int .i64 (W (x217 + (1 : Int)))) S trivial (by decide) (q_add rfl rfl) (fun a S => ?_)
        refine lx_q (.int .i64 (W (x217 + (1 : Int)))) S trivial (by decide) (q_assign rfl) (fun a S => ?_)
        refine lx_nil ?_
        exact ⟨m401, Nat.lt_succ_self _, xs518, xs520, (W (x217 + (1 : Int))), v519, S.sub ⟨rfl, rfl, rfl, rfl, trivial⟩, H, it_cont hm hc403⟩
      · skip
        refine loop_ghost (fun n a w => ∃ (xs469 : List Bool) (xs471 : List Int) (x473 : Int) (v470 : Value), Slots a 61 [(0, p0), (5, v34), (6, v470), (7, (.int .i64 x217)), (8, v415), (9, (.int .i64 x473))] ∧ Heap w0 [oA (rList rBool) v34 xs469, oA (rList (rInt .i64)) v470 xs471] w ∧ iter f524 n (xs469, xs471, x473) = some res522) _ ⟨xs213, xs215, (0 : Int), v214, S.sub ⟨rfl, rfl, rfl, rfl, rfl, rfl, trivial⟩, H, hit523⟩ ?_
        rintro n a w ⟨xs469, xs471, x473, v470, S, H, hit523⟩
        obtain ⟨m527, o528, rfl, hm, hc529⟩ := iter_step hit523
        rw [hf525] at hm
        refine wp_seq ?_
        refine wp_seq ?_
        refine region_plain ?_
        refine lx_q (.int .i64 x473) S trivial (by decide) (q_move rfl) (fun a S => ?_)
        refine lx_q v415 S trivial (by decide) (q_move rfl) (fun a S => ?_)
        refine lx_q (.int .i64 (x410.2.2.length : Int)) S trivial (by decide) (q_lenSl rfl (h416).isSl rfl Try.underlying23) (fun a S => ?_)
        refine lx_q (.bool (decide (x473 < (x410.2.2.length : Int)))) S trivial (by decide) (q_lss rfl rfl) (fun a S => ?_)
        refine lx_nil ?_
        refine thenN ?_
        refine cond_b S rfl (fun hc530 => ?_) (fun hc530 => ?_)
        · have hm := ite_t hc530 hm
          refine wp_skip ?_
          refine thenN ?_
          obtain ⟨K535, hK536, hm⟩ := join_elim hm
          refine seq_cut (fun a w => ∃ (xs531 : List Bool) (xs533 : List Int) (v532 : Value), Slots a 61 [(0, p0), (5, v34), (6, v532), (7, (.int .i64 x217)), (8, v415), (9, (.int .i64 x473))] ∧ Heap w0 [oA (rList rBool) v34 xs531, oA (rList (rInt .i64)) v532 xs533] w ∧ K535 xs531 xs533 = some o528) ?_ ?_
          · rintro a w ⟨xs531, xs533, v532, S, H, hm⟩
            subst hK536
            refine region_plain ?_
            refine lx_q (.int .i64 x473) S trivial (by decide) (q_move rfl) (fun a S => ?_)
            refine lx_q (.int .i64 (W (x473 + (1 : Int)))) S trivial (by decide) (q_add rfl rfl) (fun a S => ?_)
            refine lx_q (.int .i64 (W (x473 + (1 : Int)))) S trivial (by decide) (q_assign rfl) (fun a S => ?_)
            refine lx_nil ?_
            exact ⟨m527, Nat.lt_succ_self _, xs531, xs533, (W (x473 + (1 : Int))), v532, S.sub ⟨rfl, rfl, rfl, rfl, rfl, rfl, trivial⟩, H, it_cont hm hc529⟩
          · skip
            refine wp_block ?_
            refine wp_seq ?_
            refine region_plain ?_
            refine lx_q v34 S trivial (by decide) (q_move rfl) (fun a S => ?_)
            refine lx_q v415 S trivial (by decide) (q_move rfl) (fun a S => ?_)
            refine lx_q (.int .i64 x473) S trivial (by decide) (q_move rfl) (fun a S => ?_)
            obtain ⟨x537, e538, hm⟩ := bind_some hm
            obtain ⟨c539, h540, hat541⟩ := (h416).elem (idx_some e538).2
            obtain rfl := h540
            have hlt := lt_of_idx (idx_some e538).2
            refine lx_q (ePtr v415 (x473.toNat * 1)) S trivial (by decide) (q_indexAddr rfl (h416).isSl rfl (idx_some e538).1 hlt Try.underlying23 Try.sizeOf2) (fun a S => ?_)
            refine lx_e (.int .i64 x537) S trivial (by decide) rfl trivial (q_load1 rfl Try.isAgg2 (by rintro _ rfl; exact ((hat541 0 _ rfl).ext H.ext))) (fun a S => ?_)
            obtain ⟨x542, e543, hm⟩ := bind_some hm
            have hlt := lt_of_idx (idx_some e543).2
            refine lx_q (ePtr v34 (x537.toNat * 1)) S trivial (by decide) (q_indexAddr rfl (H.isSl 0 rfl) rfl (idx_some e543).1 hlt Try.underlying113 Try.sizeOf4) (fun a S => ?_)
            obtain ⟨c544, h545, hat546⟩ := (H.rdAt 0 rfl).elem (idx_some e543).2
            obtain rfl := h545
            refine lx_e (.bool x542) S trivial (by decide) rfl trivial (q_load1 rfl Try.isAgg4 (by rintro _ rfl; exact (hat546 0 _ rfl))) (fun a S => ?_)
            refine lx_q (.bool (!x542)) S trivial (by decide) (q_not rfl) (fun a S => ?_)
            refine lx_nil ?_
            refine thenN ?_
            refine cond_b S rfl (fun hc547 => ?_) (fun hc547 => ?_)
            · have hm := ite_t hc547 hm
              refine wp_seq ?_
              refine region_plain ?_
              refine lx_q v34 S trivial (by decide) (q_move rfl) (fun a S => ?_)
              refine lx_q v415 S trivial (by decide) (q_move rfl) (fun a S => ?_)
              refine lx_q (.int .i64 x473) S trivial (by decide) (q_move rfl) (fun a S => ?_)
              obtain ⟨x548, e549, hm⟩ := bind_some hm
              obtain ⟨c550, h551, hat552⟩ := (h416).elem (idx_some e549).2
              obtain rfl := h551
              have hlt := lt_of_idx (idx_some e549).2
              refine lx_q (ePtr v415 (x473.toNat * 1)) S trivial (by decide) (q_indexAddr rfl (h416).isSl rfl (idx_some e549).1 hlt Try.underlying23 Try.sizeOf2) (fun a S => ?_)
              refine lx_e (.int .i64 x548) S trivial (by decide) rfl trivial (q_load1 rfl Try.isAgg2 (by rintro _ rfl; exact ((hat552 0 _ rfl).ext H.ext))) (fun a S => ?_)
              obtain ⟨x553, e554, hm⟩ := bind_some hm
              have hlt := lt_of_idx (idx_some e554).2
              refine lx_q (ePtr v34 (x548.toNat * 1)) S trivial (by decide) (q_indexAddr rfl (H.isSl 0 rfl) rfl (idx_some e554).1 hlt Try.underlying113 Try.sizeOf4) (fun a S => ?_)
              refine lx_storeElem (r := rBool) (us := [(.bool true)]) (off := 0) (e' := true) S trivial rfl H.putE (by rw [pAdd_zero]; rfl) rfl (idx_some e554).2 rfl Try.sizeOf4 (Nat.le_of_ble_eq_true rfl) (List.forall_mem_cons.2 ⟨rfl, (fun _ h => nomatch h)⟩) (Upd.full rfl (fun w G hG => by cases (show G = [] from hG); exact ⟨rfl, rfl⟩)) (fun w555 H => ⟨trivial, fun a S => ?_⟩)
              refine lx_nil ?_
              refine thenN ?_
              refine region_plain ?_
              refine lx_q v470 S trivial (by decide) (q_move rfl) (fun a S => ?_)
              refine lx_q v415 S trivial (by decide) (q_move rfl) (fun a S => ?_)
              refine lx_q (.int .i64 x473) S trivial (by decide) (q_move rfl) (fun a S => ?_)
              obtain ⟨x556, e557, hm⟩ := bind_some hm
              obtain ⟨c558, h559, hat560⟩ := (h416).elem (idx_some e557).2
              obtain rfl := h559
              have hlt := lt_of_idx (idx_some e557).2
              refine lx_q (ePtr v415 (x473.toNat * 1)) S trivial (by decide) (q_indexAddr rfl (h416).isSl rfl (idx_some e557).1 hlt Try.underlying23 Try.sizeOf2) (fun a S => ?_)
              refine lx_e (.int .i64 x556) S trivial (by decide) rfl trivial (q_load1 rfl Try.isAgg2 (by rintro _ rfl; exact ((hat560 0 _ rfl).ext H.ext))) (fun a S => ?_)
              refine lx_buildSlice (r := (rInt .i64)) (xs := [x556]) (ps := [(0, [(.int .i64 x556)])]) (cs := [(.int .i64 x556)]) (parts := [(0, .tmp 56)]) S trivial (by decide) rfl (H.put0 (A := eA) rfl) rfl Try.underlying23 Try.sizeOf2 Try.zeroValue2 (by decide) ⟨rfl, rfl, Nat.le_of_ble_eq_true rfl, trivial⟩ (by intro zs hz; exact fill_dense hz ⟨rfl, trivial⟩ rfl rfl) rfl (by decide) (fun w F hA => by cases (show F = [] from hA); exact ⟨_, _, [(.int .i64 x556)], _, rfl, rfl, ⟨rfl, rfl⟩, ⟨rfl, rfl⟩⟩) (fun v561 w562 H => ⟨trivial, fun a S => ?_⟩)
              obtain ⟨x564, e565, hm⟩ := bind_some hm
              obtain ⟨hle, hap⟩ := app_some e565
              replace hap := hap.symm
              subst hap
              have H : Heap w0 [oA (rList (rInt .i64)) v561 [x556], oA (rList rBool) v34 (xs469.set x548.toNat true), oA (rList (rInt .i64)) v470 xs471] w562 := H.front 0 rfl
              have H : Heap w0 [oA (rList (rInt .i64)) v470 xs471, oA (rList (rInt .i64)) v561 [x556], oA (rList rBool) v34 (xs469.set x548.toNat true)] w562 := H.front 2 rfl
              refine lx_appendOwn (r := (rInt .i64)) S trivial (by decide) rfl H rfl rfl Try.underlying23 Try.ti2 rfl rfl rfl (by decide) (by decide) hle (fun v566 w567 H => ⟨trivial, fun a S => ?_⟩)
              refine lx_q v566 S trivial (by decide) (q_assign rfl) (fun a S => ?_)
              refine lx_nil ?_
              refine inBlock_norm ?_
              have H : Heap w0 [oA (rList rBool) v34 (xs469.set x548.toNat true), oA (rList (rInt .i64)) v566 (xs471 ++ [x556])] w567 := H.front 1 rfl
              exact ⟨(xs469.set x548.toNat true), (xs471 ++ [x556]), v566, S.sub ⟨rfl, rfl, rfl, rfl, rfl, rfl, trivial⟩, H, hm⟩
            · have hm := ite_f hc547 hm
              refine wp_skip ?_
              refine inBlock_norm ?_
              exact ⟨xs469, xs471, v470, S.sub ⟨rfl, rfl, rfl, rfl, rfl, rfl, trivial⟩, H, hm⟩
        · have hm := ite_f hc530 hm
          refine wp_exit ?_
          refine then_exit ?_
          refine then_exit ?_
          refine inBlock_exit ?_
          obtain rfl := it_brk hm hc529
          exact ⟨xs469, xs471, v470, S.sub ⟨rfl, rfl, rfl, rfl, trivial⟩, H, rfl⟩
    · have hm := ite_f hc404 hm
      refine wp_exit ?_
      refine then_exit ?_
      refine then_exit ?_
      refine inBlock_exit ?_
      obtain rfl := it_brk hm hc403
      have H : Heap w0 [oA (rList rBool) v34 xs213] w := H.sel [0] (by decide)
      exact ⟨xs213, S.sub ⟨rfl, trivial⟩, H, rfl⟩

/-- spec.RelevantEquations -/
def spec_RelevantEquations_m (fuel : Nat) (a0 : (List Timpl_Equation)) (a1 : Int) : Option (((List Int) × Int)) :=
  (spec_l22Is_m fuel a0).bind fun x33 => (if (!x33) = true then some (([], (1 : Int))) else (spec_l00In_m fuel a1 (0 : Int) (W ((a0.length : Int) - (1 : Int)))).bind fun x40 => (if (!x40) = true then some (([], (2 : Int))) else (spec_l22Relevant_m fuel a0 a1).bind fun x47 => some ((x47, (0 : Int)))))
set_option maxRecDepth 20000 in
theorem spec_RelevantEquations_ok {w0 : World} {fuel : Nat} {p0 : Value} {a0 : (List Timpl_Equation)} {a1 : Int} {r : ((List Int) × Int)} (h0 : Rd (rList Rimpl_Equation) w0 p0 a0) (hm : spec_RelevantEquations_m fuel a0 a1 = some r) :
    Calls Try.prog 41 #[p0, .int .i64 a1] w0 fun e w => ∃ (v0 : Value), e = .returned (.tuple #[v0, .int .i64 r.2]) ∧ Heap w0 [oA (rList (rInt .i64)) v0 r.1] w := by
  unfold spec_RelevantEquations_m at hm
  have H := Heap.start w0
  refine enter (args := [p0, .int .i64 a1]) Try.func41 rfl 18 rfl (Nat.le_of_ble_eq_true rfl) (fun a S => ?_)
  refine wp_seq ?_
  refine region_plain ?_
  refine lx_q (.slice none 0 0) S trivial (by decide) (q_assign rfl) (fun a S => ?_)
  refine lx_q (.int .i64 (0 : Int)) S trivial (by decide) (q_assign rfl) (fun a S => ?_)
  refine lx_nil ?_
  refine thenN ?_
  refine wp_seq ?_
  refine wp_seq ?_
  refine region_plain ?_
  refine lx_q p0 S trivial (by decide) (q_move rfl) (fun a S => ?_)
  obtain ⟨x33, e34, hm⟩ := bind_some hm
  refine lx_call (xs := [.tmp 6]) S trivial (by decide) rfl rfl Try.call68 ((spec_l22Is_ok (H.arg h0) e34).mono ?_)
  rintro e w31 ⟨rfl, Hc32⟩
  have he35 := Hc32.ext
  have H := H.call0 Hc32
  refine ⟨_, rfl, trivial, fun a S => ?_⟩
  refine lx_q (.bool (!x33)) S trivial (by decide) (q_not rfl) (fun a S => ?_)
  refine lx_nil ?_
  refine thenN ?_
  refine cond_b S rfl (fun hc36 => ?_) (fun hc36 => ?_)
  · have hm := ite_t hc36 hm
    refine wp_seq ?_
    refine region_plain ?_
    refine lx_q (.slice none 0 0) S trivial (by decide) (q_assign rfl) (fun a S => ?_)
    refine lx_q (.int .i64 (1 : Int)) S trivial (by decide) (q_assign rfl) (fun a S => ?_)
    refine lx_nil ?_
    refine thenN ?_
    refine wp_ret ?_
    refine then_ret ?_
    obtain rfl := Option.some.inj hm
    have H : Heap w0 [oA (rList (rInt .i64)) (.slice none 0 0) ([] : List Int)] w31 := H.nilList (rInt .i64)
    exact leave2 S rfl rfl rfl ⟨(.slice none 0 0), rfl, H⟩
  · have hm := ite_f hc36 hm
    refine wp_skip ?_
    refine thenN ?_
    refine wp_seq ?_
    refine wp_seq ?_
    refine region_plain ?_
    refine lx_q (.int .i64 a1) S trivial (by decide) (q_move rfl) (fun a S => ?_)
    refine lx_q p0 S trivial (by decide) (q_move rfl) (fun a S => ?_)
    refine lx_q (.int .i64 (a0.length : Int)) S trivial (by decide) (q_lenSl rfl (h0).isSl rfl Try.underlying36) (fun a S => ?_)
    refine lx_q (.int .i64 (W ((a0.length : Int) - (1 : Int)))) S trivial (by decide) (q_sub rfl rfl) (fun a S => ?_)
    obtain ⟨x40, e41, hm⟩ := bind_some hm
    refine lx_call (xs := [.tmp 9, .const (.int .i64 (0)), .tmp 12]) S trivial (by decide) rfl rfl Try.call54 ((spec_l00In_ok    e41).mono ?_)
    rintro e w38 ⟨rfl, Hc39⟩
    have he42 := Hc39.ext
    have H := H.call0 Hc39
    refine ⟨_, rfl, trivial, fun a S => ?_⟩
    refine lx_q (.bool (!x40)) S trivial (by decide) (q_not rfl) (fun a S => ?_)
    refine lx_nil ?_
    refine thenN ?_
    refine cond_b S rfl (fun hc43 => ?_) (fun hc43 => ?_)
    · have hm := ite_t hc43 hm
      refine wp_seq ?_
      refine region_plain ?_
      refine lx_q (.slice none 0 0) S trivial (by decide) (q_assign rfl) (fun a S => ?_)
      refine lx_q (.int .i64 (2 : Int)) S trivial (by decide) (q_assign rfl) (fun a S => ?_)
      refine lx_nil ?_
      refine thenN ?_
      refine wp_ret ?_
      refine then_ret ?_
      obtain rfl := Option.some.inj hm
      have H : Heap w0 [oA (rList (rInt .i64)) (.slice none 0 0) ([] : List Int)] w38 := H.nilList (rInt .i64)
      exact leave2 S rfl rfl rfl ⟨(.slice none 0 0), rfl, H⟩
    · have hm := ite_f hc43 hm
      refine wp_skip ?_
      refine thenN ?_
      refine wp_seq ?_
      refine region_plain ?_
      refine lx_q p0 S trivial (by decide) (q_move rfl) (fun a S => ?_)
      refine lx_q (.int .i64 a1) S trivial (by decide) (q_move rfl) (fun a S => ?_)
      obtain ⟨x47, e48, hm⟩ := bind_some hm
      refine lx_call (xs := [.tmp 15, .tmp 16]) S trivial (by decide) rfl rfl Try.call91 ((spec_l22Relevant_ok (H.arg h0)  e48).mono ?_)
      rintro e w45 ⟨v49, rfl, Hc46⟩
      have he51 := Hc46.ext
      have H := H.call1 Hc46
      refine ⟨_, rfl, trivial, fun a S => ?_⟩
      refine lx_q v49 S trivial (by decide) (q_assign rfl) (fun a S => ?_)
      refine lx_q (.int .i64 (0 : Int)) S trivial (by decide) (q_assign rfl) (fun a S => ?_)
      refine lx_nil ?_
      refine thenN ?_
      refine wp_ret ?_
      obtain rfl := Option.some.inj hm
      exact leave2 S rfl rfl rfl ⟨v49, rfl, H⟩

/-- impl.equationCode -/
def impl_equationCode_m (fuel : Nat) (a0 : (List Timpl_Equation)) (a1 : Int) : Option (Int) :=
  (impl_ValidEquations_m fuel a0).bind fun x33 => (if (!x33) = true then some ((1 : Int)) else (impl_index_m fuel a1 (a0.length : Int)).bind fun x39 => (if (!x39) = true then some ((2 : Int)) else some ((0 : Int))))
set_option maxRecDepth 20000 in
theorem impl_equationCode_ok {w0 : World} {fuel : Nat} {p0 : Value} {a0 : (List Timpl_Equation)} {a1 : Int} {r : Int} (h0 : Rd (rList Rimpl_Equation) w0 p0 a0) (hm : impl_equationCode_m fuel a0 a1 = some r) :
    Calls Try.prog 92 #[p0, .int .i64 a1] w0 fun e w => e = .returned (.int .i64 r) ∧ Heap w0 [] w := by
  unfold impl_equationCode_m at hm
  have H := Heap.start w0
  refine enter (args := [p0, .int .i64 a1]) Try.func92 rfl 15 rfl (Nat.le_of_ble_eq_true rfl) (fun a S => ?_)
  refine wp_seq ?_
  refine region_plain ?_
  refine lx_q (.int .i64 (0 : Int)) S trivial (by decide) (q_assign rfl) (fun a S => ?_)
  refine lx_nil ?_
  refine thenN ?_
  refine wp_seq ?_
  refine wp_block ?_
  refine wp_seq ?_
  refine region_plain ?_
  refine lx_q p0 S trivial (by decide) (q_move rfl) (fun a S => ?_)
  obtain ⟨x33, e34, hm⟩ := bind_some hm
  refine lx_call (xs := [.tmp 6]) S trivial (by decide) rfl rfl Try.call71 ((impl_ValidEquations_ok (H.arg h0) e34).mono ?_)
  rintro e w31 ⟨rfl, Hc32⟩
  have he35 := Hc32.ext
  have H := H.call0 Hc32
  refine ⟨_, rfl, trivial, fun a S => ?_⟩
  refine lx_q (.bool (!x33)) S trivial (by decide) (q_not rfl) (fun a S => ?_)
  refine lx_q (.bool (!x33)) S trivial (by decide) (q_assign rfl) (fun a S => ?_)
  refine lx_nil ?_
  refine thenN ?_
  refine cond_b S rfl (fun hc36 => ?_) (fun hc36 => ?_)
  · have hm := ite_t hc36 hm
    refine wp_seq ?_
    refine region_plain ?_
    refine lx_q (.int .i64 (1 : Int)) S trivial (by decide) (q_assign rfl) (fun a S => ?_)
    refine lx_nil ?_
    refine thenN ?_
    refine wp_ret ?_
    refine inBlock_ret ?_
    refine then_ret ?_
    obtain rfl := Option.some.inj hm
    exact leave1 S rfl rfl ⟨rfl, H⟩
  · have hm := ite_f hc36 hm
    refine wp_seq ?_
    refine region_plain ?_
    refine lx_q (.int .i64 a1) S trivial (by decide) (q_move rfl) (fun a S => ?_)
    refine lx_q p0 S trivial (by decide) (q_move rfl) (fun a S => ?_)
    refine lx_q (.int .i64 (a0.length : Int)) S trivial (by decide) (q_lenSl rfl (h0).isSl rfl Try.underlying36) (fun a S => ?_)
    obtain ⟨x39, e40, hm⟩ := bind_some hm
    refine lx_call (xs := [.tmp 10, .tmp 12]) S trivial (by decide) rfl rfl Try.call115 ((impl_index_ok   e40).mono ?_)
    rintro e w37 ⟨rfl, Hc38⟩
    have he41 := Hc38.ext
    have H := H.call0 Hc38
    refine ⟨_, rfl, trivial, fun a S => ?_⟩
    refine lx_q (.bool (!x39)) S trivial (by decide) (q_not rfl) (fun a S => ?_)
    refine lx_q (.bool (!x39)) S trivial (by decide) (q_assign rfl) (fun a S => ?_)
    refine lx_nil ?_
    refine thenN ?_
    refine cond_b S rfl (fun hc42 => ?_) (fun hc42 => ?_)
    · have hm := ite_t hc42 hm
      refine wp_seq ?_
      refine region_plain ?_
      refine lx_q (.int .i64 (2 : Int)) S trivial (by decide) (q_assign rfl) (fun a S => ?_)
      refine lx_nil ?_
      refine thenN ?_
      refine wp_ret ?_
      refine inBlock_ret ?_
      refine then_ret ?_
      obtain rfl := Option.some.inj hm
      exact leave1 S rfl rfl ⟨rfl, H⟩
    · have hm := ite_f hc42 hm
      refine wp_skip ?_
      refine inBlock_norm ?_
      refine thenN ?_
      refine wp_seq ?_
      refine region_plain ?_
      refine lx_q (.int .i64 (0 : Int)) S trivial (by decide) (q_assign rfl) (fun a S => ?_)
      refine lx_nil ?_
      refine thenN ?_
      refine wp_ret ?_
      obtain rfl := Option.some.inj hm
      exact leave1 S rfl rfl ⟨rfl, H⟩

/-- impl.relevant -/
def impl_relevant_m (fuel : Nat) (a0 : (List Timpl_Equation)) (a1 : Int) : Option ((List Int)) :=
  (iter (fun (s : (List Int) × (Int)) => (match s with | (xs158, x160) => (if (decide (x160 < (xs158.length : Int))) = true then (idx xs158 x160).bind fun x300 => (idx a0 x300).bind fun x305 => (iter (fun (s : (List Int) × (Int)) => (match s with | (xs350, x352) => (if (decide (x352 < (x305.2.2.length : Int))) = true then join (κ := List Int → Option (((List Int) × (Int)) ⊕ (((List Int)) ⊕ ((List Int))))) (fun (xs395 : List Int) => some (.inl (xs395, (W (x352 + (1 : Int)))))) (fun K397 => (idx x305.2.2 x352).bind fun x399 => (slices_Contains__int64_int64_m fuel xs350 x399).bind fun x406 => (if (!x406) = true then (app xs350 [x399]).bind fun x413 => (K397 x413) else (K397 xs350))) else some (.inr (.inl (xs350)))) : Option (((List Int) × (Int)) ⊕ (((List Int)) ⊕ ((List Int)))))) fuel (xs158, (0 : Int))).bind fun res385 => ctl (β := (List Int)) (ρ := (List Int)) (τ := (((List Int) × (Int)) ⊕ (((List Int)) ⊕ ((List Int))))) res385 (fun (xs383) => some (.inl (xs383, (W (x160 + (1 : Int)))))) (fun q => some (.inr (.inr q))) else some (.inr (.inl (xs158)))) : Option (((List Int) × (Int)) ⊕ (((List Int)) ⊕ ((List Int)))))) fuel ([a1], (0 : Int))).bind fun res287 => ctl (β := (List Int)) (ρ := (List Int)) (τ := (List Int)) res287 (fun (xs285) => (slices_Sort__int64_int64_m fuel xs285).bind fun x294 => some (x294)) (fun q => some (q))
set_option maxRecDepth 20000 in
theorem impl_relevant_ok {w0 : World} {fuel : Nat} {p0 : Value} {a0 : (List Timpl_Equation)} {a1 : Int} {r : (List Int)} (h0 : Rd (rList Rimpl_Equation) w0 p0 a0) (hm : impl_relevant_m fuel a0 a1 = some r) :
    Calls Try.prog 93 #[p0, .int .i64 a1] w0 fun e w => ∃ (v0 : Value), e = .returned (v0) ∧ Heap w0 [oA (rList (rInt .i64)) v0 r] w := by
  unfold impl_relevant_m at hm
  have H := Heap.start w0
  refine enter (args := [p0, .int .i64 a1]) Try.func93 rfl 42 rfl (Nat.le_of_ble_eq_true rfl) (fun a S => ?_)
  refine wp_seq ?_
  refine region_plain ?_
  refine lx_q (.slice none 0 0) S trivial (by decide) (q_assign rfl) (fun a S => ?_)
  refine lx_nil ?_
  refine thenN ?_
  refine wp_seq ?_
  refine region_plain ?_
  refine lx_q (.int .i64 a1) S trivial (by decide) (q_move rfl) (fun a S => ?_)
  refine lx_buildSlice (r := (rInt .i64)) (xs := [a1]) (ps := [(0, [(.int .i64 a1)])]) (cs := [(.int .i64 a1)]) (parts := [(0, .tmp 9)]) S trivial (by decide) rfl (H.put0 (A := eA) rfl) rfl Try.underlying23 Try.sizeOf2 Try.zeroValue2 (by decide) ⟨rfl, rfl, Nat.le_of_ble_eq_true rfl, trivial⟩ (by intro zs hz; exact fill_dense hz ⟨rfl, trivial⟩ rfl rfl) rfl (by decide) (fun w F hA => by cases (show F = [] from hA); exact ⟨_, _, [(.int .i64 a1)], _, rfl, rfl, ⟨rfl, rfl⟩, ⟨rfl, rfl⟩⟩) (fun v31 w32 H => ⟨trivial, fun a S => ?_⟩)
  refine lx_q v31 S trivial (by decide) (q_assign rfl) (fun a S => ?_)
  refine lx_nil ?_
  refine thenN ?_
  refine wp_seq ?_
  refine wp_seq ?_
  refine region_plain ?_
  refine lx_q (.int .i64 (0 : Int)) S trivial (by decide) (q_assign rfl) (fun a S => ?_)
  refine lx_nil ?_
  refine thenN ?_
  obtain ⟨res287, hit288, hk291⟩ := bind_some hm
  obtain ⟨f289, hf290, hit288⟩ := iter_name hit288
  refine block_loop (fun a w => ∃ (xs285 : List Int) (v284 : Value), Slots a 42 [(5, v284)] ∧ Heap w0 [oA (rList (rInt .i64)) v284 xs285] w ∧ res287 = .inl (xs285)) ?_ ?_
  · rintro a w ⟨xs285, v284, S, H, rfl⟩
    have hm := ctl_inl hk291
    refine thenN ?_
    refine wp_seq ?_
    refine region_plain ?_
    refine lx_q v284 S trivial (by decide) (q_move rfl) (fun a S => ?_)
    obtain ⟨x294, e295, hm⟩ := bind_some hm
    refine lx_call (xs := [.tmp 39]) S trivial (by decide) rfl rfl Try.call133 ((slices_Sort__int64_int64_ok H  e295).mono ?_)
    rintro e w292 ⟨rfl, H⟩
    refine ⟨_, rfl, trivial, fun a S => ?_⟩
    refine lx_nil ?_
    refine thenN ?_
    refine wp_seq ?_
    refine region_plain ?_
    refine lx_q v284 S trivial (by decide) (q_move rfl) (fun a S => ?_)
    refine lx_q v284 S trivial (by decide) (q_assign rfl) (fun a S => ?_)
    refine lx_nil ?_
    refine thenN ?_
    refine wp_ret ?_
    obtain rfl := Option.some.inj hm
    exact leave1 S rfl rfl ⟨v284, rfl, H⟩
  · skip
    refine loop_ghost (fun n a w => ∃ (xs158 : List Int) (x160 : Int) (v157 : Value), Slots a 42 [(0, p0), (5, v157), (6, (.int .i64 x160))] ∧ Heap w0 [oA (rList (rInt .i64)) v157 xs158] w ∧ iter f289 n (xs158, x160) = some res287) _ ⟨[a1], (0 : Int), v31, S.sub ⟨rfl, rfl, rfl, trivial⟩, H, hit288⟩ ?_
    rintro n a w ⟨xs158, x160, v157, S, H, hit288⟩
    obtain ⟨m296, o297, rfl, hm, hc298⟩ := iter_step hit288
    rw [hf290] at hm
    refine wp_seq ?_
    refine wp_seq ?_
    refine region_plain ?_
    refine lx_q (.int .i64 x160) S trivial (by decide) (q_move rfl) (fun a S => ?_)
    refine lx_q v157 S trivial (by decide) (q_move rfl) (fun a S => ?_)
    refine lx_q (.int .i64 (xs158.length : Int)) S trivial (by decide) (q_lenSl rfl (H.isSl 0 rfl) rfl Try.underlying23) (fun a S => ?_)
    refine lx_q (.bool (decide (x160 < (xs158.length : Int)))) S trivial (by decide) (q_lss rfl rfl) (fun a S => ?_)
    refine lx_nil ?_
    refine thenN ?_
    refine cond_b S rfl (fun hc299 => ?_) (fun hc299 => ?_)
    · have hm := ite_t hc299 hm
      refine wp_skip ?_
      refine thenN ?_
      refine wp_seq ?_
      refine wp_block ?_
      refine wp_seq ?_
      refine region_plain ?_
      refine lx_q p0 S trivial (by decide) (q_move rfl) (fun a S => ?_)
      refine lx_q v157 S trivial (by decide) (q_move rfl) (fun a S => ?_)
      refine lx_q (.int .i64 x160) S trivial (by decide) (q_move rfl) (fun a S => ?_)
      obtain ⟨x300, e301, hm⟩ := bind_some hm
      have hlt := lt_of_idx (idx_some e301).2
      refine lx_q (ePtr v157 (x160.toNat * 1)) S trivial (by decide) (q_indexAddr rfl (H.isSl 0 rfl) rfl (idx_some e301).1 hlt Try.underlying23 Try.sizeOf2) (fun a S => ?_)
      obtain ⟨c302, h303, hat304⟩ := (H.rdAt 0 rfl).elem (idx_some e301).2
      obtain rfl := h303
      refine lx_e (.int .i64 x300) S trivial (by decide) rfl trivial (q_load1 rfl Try.isAgg2 (by rintro _ rfl; exact (hat304 0 _ rfl))) (fun a S => ?_)
      obtain ⟨x305, e306, hm⟩ := bind_some hm
      obtain ⟨c307, h308, hat309⟩ := (h0).elem (idx_some e306).2
      obtain ⟨c312, c313, rfl, h314, h315⟩ := h308
      obtain rfl := h314
      obtain ⟨c316, c317, rfl, h318, h319⟩ := h315
      obtain rfl := h318
      obtain ⟨v310, rfl, h311⟩ := rd_list h319
      have hlt := lt_of_idx (idx_some e306).2
      refine lx_q (ePtr p0 (x300.toNat * 3)) S trivial (by decide) (q_indexAddr rfl (h0).isSl rfl (idx_some e306).1 hlt Try.underlying36 Try.sizeOf85) (fun a S => ?_)
      refine lx_q (pAdd (ePtr p0 (x300.toNat * 3)) 2) S trivial (by decide) (q_fieldAddr' 2 23 rfl ((hat309 0 _ rfl).isP) Try.underlying85 rfl Try.sizeOf23) (fun a S => ?_)
      refine lx_e v310 S trivial (by decide) rfl trivial (q_load1 rfl Try.isAgg23 (by rintro _ rfl; exact (At.of_add (m := 2) (j := 0) ((hat309 2 _ rfl).ext H.ext)))) (fun a S => ?_)
      refine lx_q (.int .i64 (x305.2.2.length : Int)) S trivial (by decide) (q_lenSl rfl (h311).isSl rfl Try.underlying23) (fun a S => ?_)
      refine lx_q (.int .i64 (0 : Int)) S trivial (by decide) (q_move rfl) (fun a S => ?_)
      refine lx_nil ?_
      refine thenN ?_
      obtain ⟨res385, hit386, hk389⟩ := bind_some hm
      obtain ⟨f387, hf388, hit386⟩ := iter_name hit386
      refine block_loop (fun a w => ∃ (xs383 : List Int) (v382 : Value), Slots a 42 [(0, p0), (5, v382), (6, (.int .i64 x160))] ∧ Heap w0 [oA (rList (rInt .i64)) v382 xs383] w ∧ res385 = .inl (xs383)) ?_ ?_
      · rintro a w ⟨xs383, v382, S, H, rfl⟩
        have hm := ctl_inl hk389
        refine inBlock_norm ?_
        refine thenN ?_
        refine region_plain ?_
        refine lx_q (.int .i64 x160) S trivial (by decide) (q_move rfl) (fun a S => ?_)
        refine lx_q (.int .i64 (W (x160 + (1 : Int)))) S trivial (by decide) (q_add rfl rfl) (fun a S => ?_)
        refine lx_q (.int .i64 (W (x160 + (1 : Int)))) S trivial (by decide) (q_assign rfl) (fun a S => ?_)
        refine lx_nil ?_
        exact ⟨m296, Nat.lt_succ_self _, xs383, (W (x160 + (1 : Int))), v382, S.sub ⟨rfl, rfl, rfl, trivial⟩, H, it_cont hm hc298⟩
      · skip
        refine loop_ghost (fun n a w => ∃ (xs350 : List Int) (x352 : Int) (v349 : Value), Slots a 42 [(0, p0), (5, v349), (6, (.int .i64 x160)), (24, v310), (25, (.int .i64 (x305.2.2.length : Int))), (26, (.int .i64 x352))] ∧ Heap w0 [oA (rList (rInt .i64)) v349 xs350] w ∧ iter f387 n (xs350, x352) = some res385) _ ⟨xs158, (0 : Int), v157, S.sub ⟨rfl, rfl, rfl, rfl, rfl, rfl, trivial⟩, H, hit386⟩ ?_
        rintro n a w ⟨xs350, x352, v349, S, H, hit386⟩
        obtain ⟨m390, o391, rfl, hm, hc392⟩ := iter_step hit386
        rw [hf388] at hm
        refine wp_seq ?_
        refine region_plain ?_
        refine lx_q (.bool (decide (x352 < (x305.2.2.length : Int)))) S trivial (by decide) (q_lss rfl rfl) (fun a S => ?_)
        refine lx_nil ?_
        refine thenN ?_
        refine wp_seq ?_
        refine cond_b S rfl (fun hc393 => ?_) (fun hc393 => ?_)
        · have hm := ite_t hc393 hm
          refine wp_skip ?_
          refine thenN ?_
          obtain ⟨K397, hK398, hm⟩ := join_elim hm
          refine seq_cut (fun a w => ∃ (xs395 : List Int) (v394 : Value), Slots a 42 [(0, p0), (5, v394), (6, (.int .i64 x160)), (24, v310), (25, (.int .i64 (x305.2.2.length : Int))), (26, (.int .i64 x352))] ∧ Heap w0 [oA (rList (rInt .i64)) v394 xs395] w ∧ K397 xs395 = some o391) ?_ ?_
          · rintro a w ⟨xs395, v394, S, H, hm⟩
            subst hK398
            refine region_plain ?_
            refine lx_q (.int .i64 (W (x352 + (1 : Int)))) S trivial (by decide) (q_add rfl rfl) (fun a S => ?_)
            refine lx_q (.int .i64 (W (x352 + (1 : Int)))) S trivial (by decide) (q_move rfl) (fun a S => ?_)
            refine lx_nil ?_
            exact ⟨m390, Nat.lt_succ_self _, xs395, (W (x352 + (1 : Int))), v394, S.sub ⟨rfl, rfl, rfl, rfl, rfl, rfl, trivial⟩, H, it_cont hm hc392⟩
          · skip
            refine wp_block ?_
            refine wp_seq ?_
            refine region_plain ?_
            obtain ⟨x399, e400, hm⟩ := bind_some hm
            obtain ⟨c401, h402, hat403⟩ := (h311).elem (idx_some e400).2
            obtain rfl := h402
            have hlt := lt_of_idx (idx_some e400).2
            refine lx_q (ePtr v310 (x352.toNat * 1)) S trivial (by decide) (q_indexAddr rfl (h311).isSl rfl (idx_some e400).1 hlt Try.underlying23 Try.sizeOf2) (fun a S => ?_)
            refine lx_e (.int .i64 x399) S trivial (by decide) rfl trivial (q_load1 rfl Try.isAgg2 (by rintro _ rfl; exact ((hat403 0 _ rfl).ext H.ext))) (fun a S => ?_)
            refine lx_q (.int .i64 x399) S trivial (by decide) (q_assign rfl) (fun a S => ?_)
            refine lx_nil ?_
            refine thenN ?_
            refine wp_seq ?_
            refine region_plain ?_
            refine lx_q v349 S trivial (by decide) (q_move rfl) (fun a S => ?_)
            refine lx_q (.int .i64 x399) S trivial (by decide) (q_move rfl) (fun a S => ?_)
            obtain ⟨x406, e407, hm⟩ := bind_some hm
            refine lx_call (xs := [.tmp 30, .tmp 31]) S trivial (by decide) rfl rfl Try.call62 ((slices_Contains__int64_int64_ok (H.rdAt 0 rfl)  e407).mono ?_)
            rintro e w404 ⟨rfl, Hc405⟩
            have he408 := Hc405.ext
            have H := H.call0 Hc405
            refine ⟨_, rfl, trivial, fun a S => ?_⟩
            refine lx_q (.bool (!x406)) S trivial (by decide) (q_not rfl) (fun a S => ?_)
            refine lx_nil ?_
            refine thenN ?_
            refine cond_b S rfl (fun hc409 => ?_) (fun hc409 => ?_)
            · have hm := ite_t hc409 hm
              refine region_plain ?_
              refine lx_q v349 S trivial (by decide) (q_move rfl) (fun a S => ?_)
              refine lx_q (.int .i64 x399) S trivial (by decide) (q_move rfl) (fun a S => ?_)
              refine lx_buildSlice (r := (rInt .i64)) (xs := [x399]) (ps := [(0, [(.int .i64 x399)])]) (cs := [(.int .i64 x399)]) (parts := [(0, .tmp 35)]) S trivial (by decide) rfl (H.put0 (A := eA) rfl) rfl Try.underlying23 Try.sizeOf2 Try.zeroValue2 (by decide) ⟨rfl, rfl, Nat.le_of_ble_eq_true rfl, trivial⟩ (by intro zs hz; exact fill_dense hz ⟨rfl, trivial⟩ rfl rfl) rfl (by decide) (fun w F hA => by cases (show F = [] from hA); exact ⟨_, _, [(.int .i64 x399)], _, rfl, rfl, ⟨rfl, rfl⟩, ⟨rfl, rfl⟩⟩) (fun v410 w411 H => ⟨trivial, fun a S => ?_⟩)
              obtain ⟨x413, e414, hm⟩ := bind_some hm
              obtain ⟨hle, hap⟩ := app_some e414
              replace hap := hap.symm
              subst hap
              have H : Heap w0 [oA (rList (rInt .i64)) v410 [x399], oA (rList (rInt .i64)) v349 xs350] w411 := H.front 0 rfl
              have H : Heap w0 [oA (rList (rInt .i64)) v349 xs350, oA (rList (rInt .i64)) v410 [x399]] w411 := H.front 1 rfl
              refine lx_appendOwn (r := (rInt .i64)) S trivial (by decide) rfl H rfl rfl Try.underlying23 Try.ti2 rfl rfl rfl (by decide) (by decide) hle (fun v415 w416 H => ⟨trivial, fun a S => ?_⟩)
              refine lx_q v415 S trivial (by decide) (q_assign rfl) (fun a S => ?_)
              refine lx_nil ?_
              refine inBlock_norm ?_
              exact ⟨(xs350 ++ [x399]), v415, S.sub ⟨rfl, rfl, rfl, rfl, rfl, rfl, trivial⟩, H, hm⟩
            · have hm := ite_f hc409 hm
              refine wp_skip ?_
              refine inBlock_norm ?_
              exact ⟨xs350, v349, S.sub ⟨rfl, rfl, rfl, rfl, rfl, rfl, trivial⟩, H, hm⟩
        · have hm := ite_f hc393 hm
          refine wp_exit ?_
          refine then_exit ?_
          refine then_exit ?_
          refine inBlock_exit ?_
          obtain rfl := it_brk hm hc392
          exact ⟨xs350, v349, S.sub ⟨rfl, rfl, rfl, trivial⟩, H, rfl⟩
    · have hm := ite_f hc299 hm
      refine wp_exit ?_
      refine then_exit ?_
      refine then_exit ?_
      refine inBlock_exit ?_
      obtain rfl := it_brk hm hc298
      exact ⟨xs158, v157, S.sub ⟨rfl, trivial⟩, H, rfl⟩

/-- impl.RelevantEquations -/
def impl_RelevantEquations_m (fuel : Nat) (a0 : (List Timpl_Equation)) (a1 : Int) : Option (((List Int) × Int)) :=
  (impl_equationCode_m fuel a0 a1).bind fun x33 => (if (x33 != (0 : Int)) = true then some (([], x33)) else (impl_relevant_m fuel a0 a1).bind fun x40 => some ((x40, (0 : Int))))
set_option maxRecDepth 20000 in
theorem impl_RelevantEquations_ok {w0 : World} {fuel : Nat} {p0 : Value} {a0 : (List Timpl_Equation)} {a1 : Int} {r : ((List Int) × Int)} (h0 : Rd (rList Rimpl_Equation) w0 p0 a0) (hm : impl_RelevantEquations_m fuel a0 a1 = some r) :
    Calls Try.prog 42 #[p0, .int .i64 a1] w0 fun e w => ∃ (v0 : Value), e = .returned (.tuple #[v0, .int .i64 r.2]) ∧ Heap w0 [oA (rList (rInt .i64)) v0 r.1] w := by
  unfold impl_RelevantEquations_m at hm
  have H := Heap.start w0
  refine enter (args := [p0, .int .i64 a1]) Try.func42 rfl 16 rfl (Nat.le_of_ble_eq_true rfl) (fun a S => ?_)
  refine wp_seq ?_
  refine region_plain ?_
  refine lx_q (.slice none 0 0) S trivial (by decide) (q_assign rfl) (fun a S => ?_)
  refine lx_q (.int .i64 (0 : Int)) S trivial (by decide) (q_assign rfl) (fun a S => ?_)
  refine lx_nil ?_
  refine thenN ?_
  refine wp_seq ?_
  refine wp_seq ?_
  refine region_plain ?_
  refine lx_q p0 S trivial (by decide) (q_move rfl) (fun a S => ?_)
  refine lx_q (.int .i64 a1) S trivial (by decide) (q_move rfl) (fun a S => ?_)
  obtain ⟨x33, e34, hm⟩ := bind_some hm
  refine lx_call (xs := [.tmp 7, .tmp 8]) S trivial (by decide) rfl rfl Try.call92 ((impl_equationCode_ok (H.arg h0)  e34).mono ?_)
  rintro e w31 ⟨rfl, Hc32⟩
  have he35 := Hc32.ext
  have H := H.call0 Hc32
  refine ⟨_, rfl, trivial, fun a S => ?_⟩
  refine lx_q (.int .i64 x33) S trivial (by decide) (q_assign rfl) (fun a S => ?_)
  refine lx_nil ?_
  refine thenN ?_
  refine wp_seq ?_
  refine region_plain ?_
  refine lx_q (.int .i64 x33) S trivial (by decide) (q_move rfl) (fun a S => ?_)
  refine lx_q (.bool (x33 != (0 : Int))) S trivial (by decide) (q_neq rfl rfl) (fun a S => ?_)
  refine lx_nil ?_
  refine thenN ?_
  refine cond_b S rfl (fun hc36 => ?_) (fun hc36 => ?_)
  · have hm := ite_t hc36 hm
    refine wp_seq ?_
    refine region_plain ?_
    refine lx_q (.int .i64 x33) S trivial (by decide) (q_move rfl) (fun a S => ?_)
    refine lx_q (.slice none 0 0) S trivial (by decide) (q_assign rfl) (fun a S => ?_)
    refine lx_q (.int .i64 x33) S trivial (by decide) (q_assign rfl) (fun a S => ?_)
    refine lx_nil ?_
    refine thenN ?_
    refine wp_ret ?_
    refine then_ret ?_
    obtain rfl := Option.some.inj hm
    have H : Heap w0 [oA (rList (rInt .i64)) (.slice none 0 0) ([] : List Int)] w31 := H.nilList (rInt .i64)
    exact leave2 S rfl rfl rfl ⟨(.slice none 0 0), rfl, H⟩
  · have hm := ite_f hc36 hm
    refine wp_skip ?_
    refine thenN ?_
    refine wp_seq ?_
    refine region_plain ?_
    refine lx_q p0 S trivial (by decide) (q_move rfl) (fun a S => ?_)
    refine lx_q (.int .i64 a1) S trivial (by decide) (q_move rfl) (fun a S => ?_)
    obtain ⟨x40, e41, hm⟩ := bind_some hm
    refine lx_call (xs := [.tmp 13, .tmp 14]) S trivial (by decide) rfl rfl Try.call93 ((impl_relevant_ok (H.arg h0)  e41).mono ?_)
    rintro e w38 ⟨v42, rfl, Hc39⟩
    have he44 := Hc39.ext
    have H := H.call1 Hc39
    refine ⟨_, rfl, trivial, fun a S => ?_⟩
    refine lx_q v42 S trivial (by decide) (q_assign rfl) (fun a S => ?_)
    refine lx_q (.int .i64 (0 : Int)) S trivial (by decide) (q_assign rfl) (fun a S => ?_)
    refine lx_nil ?_
    refine thenN ?_
    refine wp_ret ?_
    obtain rfl := Option.some.inj hm
    exact leave2 S rfl rfl rfl ⟨v42, rfl, H⟩

/-- spec.l11Place -/
def spec_l11Place_m (fuel : Nat) (a0 : (List Int)) (a1 : Int) : Option (Int) :=
  (iter (fun (s : (Int)) => (match s with | (x39) => (if (decide (x39 < (a0.length : Int))) = true then (idx a0 x39).bind fun x57 => (if (x57 == a1) = true then some (.inr (.inr x39)) else some (.inl ((W (x39 + (1 : Int)))))) else some (.inr (.inl ()))) : Option (((Int)) ⊕ ((Unit) ⊕ (Int))))) fuel ((0 : Int))).bind fun res48 => ctl (β := Unit) (ρ := Int) (τ := Int) res48 (fun _ => some ((-1 : Int))) (fun q => some (q))
set_option maxRecDepth 20000 in
theorem spec_l11Place_ok {w0 : World} {fuel : Nat} {p0 : Value} {a0 : (List Int)} {a1 : Int} {r : Int} (h0 : Rd (rList (rInt .i64)) w0 p0 a0) (hm : spec_l11Place_m fuel a0 a1 = some r) :
    Calls Try.prog 94 #[p0, .int .i64 a1] w0 fun e w => e = .returned (.int .i64 r) ∧ Heap w0 [] w := by
  unfold spec_l11Place_m at hm
  have H := Heap.start w0
  refine enter (args := [p0, .int .i64 a1]) Try.func94 rfl 19 rfl (Nat.le_of_ble_eq_true rfl) (fun a S => ?_)
  refine wp_seq ?_
  refine region_plain ?_
  refine lx_q (.int .i64 (0 : Int)) S trivial (by decide) (q_assign rfl) (fun a S => ?_)
  refine lx_nil ?_
  refine thenN ?_
  refine wp_seq ?_
  refine wp_seq ?_
  refine region_plain ?_
  refine lx_q (.int .i64 (0 : Int)) S trivial (by decide) (q_assign rfl) (fun a S => ?_)
  refine lx_nil ?_
  refine thenN ?_
  obtain ⟨res48, hit49, hk52⟩ := bind_some hm
  obtain ⟨f50, hf51, hit49⟩ := iter_name hit49
  refine block_loop (fun a w => Slots a 19 [] ∧ Heap w0 [] w ∧ res48 = .inl ()) ?_ ?_
  · rintro a w ⟨S, H, rfl⟩
    have hm := ctl_inl hk52
    refine thenN ?_
    refine wp_seq ?_
    refine region_plain ?_
    refine lx_q (.int .i64 (-1 : Int)) S trivial (by decide) (q_assign rfl) (fun a S => ?_)
    refine lx_nil ?_
    refine thenN ?_
    refine wp_ret ?_
    obtain rfl := Option.some.inj hm
    exact leave1 S rfl rfl ⟨rfl, H⟩
  · skip
    refine loop_ghost (fun n a w => ∃ (x39 : Int), Slots a 19 [(0, p0), (1, (.int .i64 a1)), (5, (.int .i64 x39))] ∧ Heap w0 [] w ∧ iter f50 n (x39) = some res48) _ ⟨(0 : Int), S.sub ⟨rfl, rfl, rfl, trivial⟩, H, hit49⟩ ?_
    rintro n a w ⟨x39, S, H, hit49⟩
    obtain ⟨m53, o54, rfl, hm, hc55⟩ := iter_step hit49
    rw [hf51] at hm
    refine wp_seq ?_
    refine wp_seq ?_
    refine region_plain ?_
    refine lx_q (.int .i64 x39) S trivial (by decide) (q_move rfl) (fun a S => ?_)
    refine lx_q p0 S trivial (by decide) (q_move rfl) (fun a S => ?_)
    refine lx_q (.int .i64 (a0.length : Int)) S trivial (by decide) (q_lenSl rfl (h0).isSl rfl Try.underlying23) (fun a S => ?_)
    refine lx_q (.bool (decide (x39 < (a0.length : Int)))) S trivial (by decide) (q_lss rfl rfl) (fun a S => ?_)
    refine lx_nil ?_
    refine thenN ?_
    refine cond_b S rfl (fun hc56 => ?_) (fun hc56 => ?_)
    · have hm := ite_t hc56 hm
      refine wp_skip ?_
      refine thenN ?_
      refine wp_seq ?_
      refine wp_block ?_
      refine wp_seq ?_
      refine region_plain ?_
      refine lx_q p0 S trivial (by decide) (q_move rfl) (fun a S => ?_)
      refine lx_q (.int .i64 x39) S trivial (by decide) (q_move rfl) (fun a S => ?_)
      obtain ⟨x57, e58, hm⟩ := bind_some hm
      obtain ⟨c59, h60, hat61⟩ := (h0).elem (idx_some e58).2
      obtain rfl := h60
      have hlt := lt_of_idx (idx_some e58).2
      refine lx_q (ePtr p0 (x39.toNat * 1)) S trivial (by decide) (q_indexAddr rfl (h0).isSl rfl (idx_some e58).1 hlt Try.underlying23 Try.sizeOf2) (fun a S => ?_)
      refine lx_e (.int .i64 x57) S trivial (by decide) rfl trivial (q_load1 rfl Try.isAgg2 (by rintro _ rfl; exact ((hat61 0 _ rfl).ext H.ext))) (fun a S => ?_)
      refine lx_q (.int .i64 a1) S trivial (by decide) (q_move rfl) (fun a S => ?_)
      refine lx_q (.bool (x57 == a1)) S trivial (by decide) (q_eql rfl rfl) (fun a S => ?_)
      refine lx_nil ?_
      refine thenN ?_
      refine cond_b S rfl (fun hc62 => ?_) (fun hc62 => ?_)
      · have hm := ite_t hc62 hm
        refine wp_seq ?_
        refine region_plain ?_
        refine lx_q (.int .i64 x39) S trivial (by decide) (q_move rfl) (fun a S => ?_)
        refine lx_q (.int .i64 x39) S trivial (by decide) (q_assign rfl) (fun a S => ?_)
        refine lx_nil ?_
        refine thenN ?_
        refine wp_ret ?_
        refine inBlock_ret ?_
        refine then_ret ?_
        refine then_ret ?_
        refine inBlock_ret ?_
        refine then_ret ?_
        refine then_ret ?_
        obtain rfl := it_brk hm hc55
        have hm := ctl_inr hk52
        obtain rfl := Option.some.inj hm
        exact leave1 S rfl rfl ⟨rfl, H⟩
      · have hm := ite_f hc62 hm
        refine wp_skip ?_
        refine inBlock_norm ?_
        refine thenN ?_
        refine region_plain ?_
        refine lx_q (.int .i64 x39) S trivial (by decide) (q_move rfl) (fun a S => ?_)
        refine lx_q (.int .i64 (W (x39 + (1 : Int)))) S trivial (by decide) (q_add rfl rfl) (fun a S => ?_)
        refine lx_q (.int .i64 (W (x39 + (1 : Int)))) S trivial (by decide) (q_assign rfl) (fun a S => ?_)
        refine lx_nil ?_
        exact ⟨m53, Nat.lt_succ_self _, (W (x39 + (1 : Int))), S.sub ⟨rfl, rfl, rfl, trivial⟩, H, it_cont hm hc55⟩
    · have hm := ite_f hc56 hm
      refine wp_exit ?_
      refine then_exit ?_
      refine then_exit ?_
      refine inBlock_exit ?_
      obtain rfl := it_brk hm hc55
      exact ⟨S.sub trivial, H, rfl⟩

/-- spec.SubGame -/
def spec_SubGame_m (fuel : Nat) (a0 : (List Timpl_Vertex)) (a1 : (List Int)) : Option (((List Timpl_Vertex) × Int)) :=
  (spec_l23Is_m fuel a0).bind fun x33 => (if (!x33) = true then some (([], (1 : Int))) else (spec_l00Rises_m fuel a1 (0 : Int) (W ((a0.length : Int) - (1 : Int)))).bind fun x40 => (if (!x40) = true then some (([], (2 : Int))) else (if ((a1.length : Int) == (0 : Int)) = true then some (([], (3 : Int))) else (iter (fun (s : (List Timpl_Vertex) × (Int)) => (match s with | (xs4196, x4198) => (if (decide (x4198 < (a1.length : Int))) = true then join (κ := Int → Int → List Int → Option (((List Timpl_Vertex) × (Int)) ⊕ (((List Timpl_Vertex)) ⊕ (((List Timpl_Vertex) × Int))))) (fun (x8358 : Int) (x8359 : Int) (xs8361 : List Int) => (idx a1 x4198).bind fun x8365 => (idx a0 x8365).bind fun x8370 => (iter (fun (s : (List Int) × (Int)) => (match s with | (xs8416, x8418) => (if (decide (x8418 < (x8370.2.2.length : Int))) = true then join (κ := List Int → Option (((List Int) × (Int)) ⊕ (((List Int)) ⊕ (((List Timpl_Vertex) × Int))))) (fun (xs8470 : List Int) => some (.inl (xs8470, (W (x8418 + (1 : Int)))))) (fun K8472 => (idx x8370.2.2 x8418).bind fun x8474 => (spec_l11Place_m fuel a1 x8474).bind fun x8481 => (if (decide ((0 : Int) ≤ x8481)) = true then (app xs8416 [x8481]).bind fun x8488 => (K8472 x8488) else (K8472 xs8416))) else some (.inr (.inl (xs8416)))) : Option (((List Int) × (Int)) ⊕ (((List Int)) ⊕ (((List Timpl_Vertex) × Int)))))) fuel (xs8361, (0 : Int))).bind fun res8452 => ctl (β := (List Int)) (ρ := ((List Timpl_Vertex) × Int)) (τ := (((List Timpl_Vertex) × (Int)) ⊕ (((List Timpl_Vertex)) ⊕ (((List Timpl_Vertex) × Int))))) res8452 (fun (xs8450) => (app xs4196 [(x8358, x8359, xs8450)]).bind fun x8460 => some (.inl (x8460, (W (x4198 + (1 : Int)))))) (fun q => some (.inr (.inr q)))) (fun K8363 => (idx a1 x4198).bind fun x8496 => (idx a0 x8496).bind fun x8501 => (idx a1 x4198).bind fun x8516 => (idx a0 x8516).bind fun x8521 => (K8363 x8501.1 x8521.2.1 ([] : List Int))) else some (.inr (.inl (xs4196)))) : Option (((List Timpl_Vertex) × (Int)) ⊕ (((List Timpl_Vertex)) ⊕ (((List Timpl_Vertex) × Int)))))) fuel (([] : List Timpl_Vertex), (0 : Int))).bind fun res8347 => ctl (β := (List Timpl_Vertex)) (ρ := ((List Timpl_Vertex) × Int)) (τ := ((List Timpl_Vertex) × Int)) res8347 (fun (xs8345) => some ((xs8345, (0 : Int)))) (fun q => some (q)))))
set_option maxRecDepth 20000 in
theorem spec_SubGame_ok {w0 : World} {fuel : Nat} {p0 p1 : Value} {a0 : (List Timpl_Vertex)} {a1 : (List Int)} {r : ((List Timpl_Vertex) × Int)} (h0 : Rd (rList Rimpl_Vertex) w0 p0 a0) (h1 : Rd (rList (rInt .i64)) w0 p1 a1) (hm : spec_SubGame_m fuel a0 a1 = some r) :
    Calls Try.prog 43 #[p0, p1] w0 fun e w => ∃ (v0 : Value), e = .returned (.tuple #[v0, .int .i64 r.2]) ∧ Heap w0 [oA (rList Rimpl_Vertex) v0 r.1] w := by
  unfold spec_SubGame_m at hm
  have H := Heap.start w0
  refine enter (args := [p0, p1]) Try.func43 rfl 82 rfl (Nat.le_of_ble_eq_true rfl) (fun a S => ?_)
  refine wp_seq ?_
  refine region_plain ?_
  refine lx_q (.slice none 0 0) S trivial (by decide) (q_assign rfl) (fun a S => ?_)
  refine lx_q (.int .i64 (0 : Int)) S trivial (by decide) (q_assign rfl) (fun a S => ?_)
  refine lx_nil ?_
  refine thenN ?_
  refine wp_seq ?_
  refine wp_seq ?_
  refine region_plain ?_
  refine lx_q p0 S trivial (by decide) (q_move rfl) (fun a S => ?_)
  obtain ⟨x33, e34, hm⟩ := bind_some hm
  refine lx_call (xs := [.tmp 12]) S trivial (by decide) rfl rfl Try.call53 ((spec_l23Is_ok (H.arg h0) e34).mono ?_)
  rintro e w31 ⟨rfl, Hc32⟩
  have he35 := Hc32.ext
  have H := H.call0 Hc32
  refine ⟨_, rfl, trivial, fun a S => ?_⟩
  refine lx_q (.bool (!x33)) S trivial (by decide) (q_not rfl) (fun a S => ?_)
  refine lx_nil ?_
  refine thenN ?_
  refine cond_b S rfl (fun hc36 => ?_) (fun hc36 => ?_)
  · have hm := ite_t hc36 hm
    refine wp_seq ?_
    refine region_plain ?_
    refine lx_q (.slice none 0 0) S trivial (by decide) (q_assign rfl) (fun a S => ?_)
    refine lx_q (.int .i64 (1 : Int)) S trivial (by decide) (q_assign rfl) (fun a S => ?_)
    refine lx_nil ?_
    refine thenN ?_
    refine wp_ret ?_
    refine then_ret ?_
    obtain rfl := Option.some.inj hm
    have H : Heap w0 [oA (rList Rimpl_Vertex) (.slice none 0 0) ([] : List Timpl_Vertex)] w31 := H.nilList Rimpl_Vertex
    exact leave2 S rfl rfl rfl ⟨(.slice none 0 0), rfl, H⟩
  · have hm := ite_f hc36 hm
    refine wp_skip ?_
    refine thenN ?_
    refine wp_seq ?_
    refine wp_seq ?_
    refine region_plain ?_
    refine lx_q p1 S trivial (by decide) (q_move rfl) (fun a S => ?_)
    refine lx_q p0 S trivial (by decide) (q_move rfl) (fun a S => ?_)
    refine lx_q (.int .i64 (a0.length : Int)) S trivial (by decide) (q_lenSl rfl (h0).isSl rfl Try.underlying26) (fun a S => ?_)
    refine lx_q (.int .i64 (W ((a0.length : Int) - (1 : Int)))) S trivial (by decide) (q_sub rfl rfl) (fun a S => ?_)
    obtain ⟨x40, e41, hm⟩ := bind_some hm
    refine lx_call (xs := [.tmp 15, .const (.int .i64 (0)), .tmp 18]) S trivial (by decide) rfl rfl Try.call55 ((spec_l00Rises_ok (H.arg h1)   e41).mono ?_)
    rintro e w38 ⟨rfl, Hc39⟩
    have he42 := Hc39.ext
    have H := H.call0 Hc39
    refine ⟨_, rfl, trivial, fun a S => ?_⟩
    refine lx_q (.bool (!x40)) S trivial (by decide) (q_not rfl) (fun a S => ?_)
    refine lx_nil ?_
    refine thenN ?_
    refine cond_b S rfl (fun hc43 => ?_) (fun hc43 => ?_)
    · have hm := ite_t hc43 hm
      refine wp_seq ?_
      refine region_plain ?_
      refine lx_q (.slice none 0 0) S trivial (by decide) (q_assign rfl) (fun a S => ?_)
      refine lx_q (.int .i64 (2 : Int)) S trivial (by decide) (q_assign rfl) (fun a S => ?_)
      refine lx_nil ?_
      refine thenN ?_
      refine wp_ret ?_
      refine then_ret ?_
      obtain rfl := Option.some.inj hm
      have H : Heap w0 [oA (rList Rimpl_Vertex) (.slice none 0 0) ([] : List Timpl_Vertex)] w38 := H.nilList Rimpl_Vertex
      exact leave2 S rfl rfl rfl ⟨(.slice none 0 0), rfl, H⟩
    · have hm := ite_f hc43 hm
      refine wp_skip ?_
      refine thenN ?_
      refine wp_seq ?_
      refine wp_seq ?_
      refine region_plain ?_
      refine lx_q p1 S trivial (by decide) (q_move rfl) (fun a S => ?_)
      refine lx_q (.int .i64 (a1.length : Int)) S trivial (by decide) (q_lenSl rfl (h1).isSl rfl Try.underlying23) (fun a S => ?_)
      refine lx_q (.bool ((a1.length : Int) == (0 : Int))) S trivial (by decide) (q_eql rfl rfl) (fun a S => ?_)
      refine lx_nil ?_
      refine thenN ?_
      refine cond_b S rfl (fun hc45 => ?_) (fun hc45 => ?_)
      · have hm := ite_t hc45 hm
        refine wp_seq ?_
        refine region_plain ?_
        refine lx_q (.slice none 0 0) S trivial (by decide) (q_assign rfl) (fun a S => ?_)
        refine lx_q (.int .i64 (3 : Int)) S trivial (by decide) (q_assign rfl) (fun a S => ?_)
        refine lx_nil ?_
        refine thenN ?_
        refine wp_ret ?_
        refine then_ret ?_
        obtain rfl := Option.some.inj hm
        have H : Heap w0 [oA (rList Rimpl_Vertex) (.slice none 0 0) ([] : List Timpl_Vertex)] w38 := H.nilList Rimpl_Vertex
        exact leave2 S rfl rfl rfl ⟨(.slice none 0 0), rfl, H⟩
      · have hm := ite_f hc45 hm
        refine wp_skip ?_
        refine thenN ?_
        refine wp_seq ?_
        refine region_plain ?_
        refine lx_buildSlice0 (r := Rimpl_Vertex) S trivial (by decide) rfl H Try.underlying26 Try.sizeOf71 (fun v47 w48 H => ⟨trivial, fun a S => ?_⟩)
        refine lx_q v47 S trivial (by decide) (q_assign rfl) (fun a S => ?_)
        refine lx_nil ?_
        refine thenN ?_
        refine wp_seq ?_
        refine wp_seq ?_
        refine region_plain ?_
        refine lx_q (.int .i64 (0 : Int)) S trivial (by decide) (q_assign rfl) (fun a S => ?_)
        refine lx_nil ?_
        refine thenN ?_
        obtain ⟨res8347, hit8348, hk8351⟩ := bind_some hm
        obtain ⟨f8349, hf8350, hit8348⟩ := iter_name hit8348
        refine block_loop (fun a w => ∃ (xs8345 : List Timpl_Vertex) (v8344 : Value), Slots a 82 [(6, v8344)] ∧ Heap w0 [oA (rList Rimpl_Vertex) v8344 xs8345] w ∧ res8347 = .inl (xs8345)) ?_ ?_
        · rintro a w ⟨xs8345, v8344, S, H, rfl⟩
          have hm := ctl_inl hk8351
          refine thenN ?_
          refine wp_seq ?_
          refine region_plain ?_
          refine lx_q v8344 S trivial (by decide) (q_move rfl) (fun a S => ?_)
          refine lx_q v8344 S trivial (by decide) (q_assign rfl) (fun a S => ?_)
          refine lx_q (.int .i64 (0 : Int)) S trivial (by decide) (q_assign rfl) (fun a S => ?_)
          refine lx_nil ?_
          refine thenN ?_
          refine wp_ret ?_
          obtain rfl := Option.some.inj hm
          exact leave2 S rfl rfl rfl ⟨v8344, rfl, H⟩
        · skip
          refine loop_ghost (fun n a w => ∃ (xs4196 : List Timpl_Vertex) (x4198 : Int) (v4195 : Value), Slots a 82 [(0, p0), (1, p1), (6, v4195), (7, (.int .i64 x4198))] ∧ Heap w0 [oA (rList Rimpl_Vertex) v4195 xs4196] w ∧ iter f8349 n (xs4196, x4198) = some res8347) _ ⟨([] : List Timpl_Vertex), (0 : Int), v47, S.sub ⟨rfl, rfl, rfl, rfl, trivial⟩, H, hit8348⟩ ?_
          rintro n a w ⟨xs4196, x4198, v4195, S, H, hit8348⟩
          obtain ⟨m8352, o8353, rfl, hm, hc8354⟩ := iter_step hit8348
          rw [hf8350] at hm
          refine wp_seq ?_
          refine wp_seq ?_
          refine region_plain ?_
          refine lx_q (.int .i64 x4198) S trivial (by decide) (q_move rfl) (fun a S => ?_)
          refine lx_q p1 S trivial (by decide) (q_move rfl) (fun a S => ?_)
          refine lx_q (.int .i64 (a1.length : Int)) S trivial (by decide) (q_lenSl rfl (h1).isSl rfl Try.underlying23) (fun a S => ?_)
          refine lx_q (.bool (decide (x4198 < (a1.length : Int)))) S trivial (by decide) (q_lss rfl rfl) (fun a S => ?_)
          refine lx_nil ?_
          refine thenN ?_
          refine cond_b S rfl (fun hc8355 => ?_) (fun hc8355 => ?_)
          · have hm := ite_t hc8355 hm
            refine wp_skip ?_
            refine thenN ?_
            refine wp_seq ?_
            refine wp_block ?_
            obtain ⟨K8363, hK8364, hm⟩ := join_elim hm
            refine seq_cut (fun a w => ∃ (x8358 : Int) (x8359 : Int) (xs8361 : List Int) (b8356 : Nat) (v8360 : Value), Slots a 82 [(0, p0), (1, p1), (6, v4195), (7, (.int .i64 x4198)), (8, (bp b8356))] ∧ Heap w0 [oA (rList Rimpl_Vertex) v4195 xs4196, bA b8356 [(.int .i64 x8358), (.int .i64 x8359), v8360] 71, oA (rList (rInt .i64)) v8360 xs8361] w ∧ K8363 x8358 x8359 xs8361 = some o8353) ?_ ?_
            · rintro a w ⟨x8358, x8359, xs8361, b8356, v8360, S, H, hm⟩
              subst hK8364
              refine wp_seq ?_
              refine region_plain ?_
              refine lx_q p0 S trivial (by decide) (q_move rfl) (fun a S => ?_)
              refine lx_q p1 S trivial (by decide) (q_move rfl) (fun a S => ?_)
              refine lx_q (.int .i64 x4198) S trivial (by decide) (q_move rfl) (fun a S => ?_)
              obtain ⟨x8365, e8366, hm⟩ := bind_some hm
              obtain ⟨c8367, h8368, hat8369⟩ := (h1).elem (idx_some e8366).2
              obtain rfl := h8368
              have hlt := lt_of_idx (idx_some e8366).2
              refine lx_q (ePtr p1 (x4198.toNat * 1)) S trivial (by decide) (q_indexAddr rfl (h1).isSl rfl (idx_some e8366).1 hlt Try.underlying23 Try.sizeOf2) (fun a S => ?_)
              refine lx_e (.int .i64 x8365) S trivial (by decide) rfl trivial (q_load1 rfl Try.isAgg2 (by rintro _ rfl; exact ((hat8369 0 _ rfl).ext H.ext))) (fun a S => ?_)
              obtain ⟨x8370, e8371, hm⟩ := bind_some hm
              obtain ⟨c8372, h8373, hat8374⟩ := (h0).elem (idx_some e8371).2
              obtain ⟨c8377, c8378, rfl, h8379, h8380⟩ := h8373
              obtain rfl := h8379
              obtain ⟨c8381, c8382, rfl, h8383, h8384⟩ := h8380
              obtain rfl := h8383
              obtain ⟨v8375, rfl, h8376⟩ := rd_list h8384
              have hlt := lt_of_idx (idx_some e8371).2
              refine lx_q (ePtr p0 (x8365.toNat * 3)) S trivial (by decide) (q_indexAddr rfl (h0).isSl rfl (idx_some e8371).1 hlt Try.underlying26 Try.sizeOf71) (fun a S => ?_)
              refine lx_q (pAdd (ePtr p0 (x8365.toNat * 3)) 2) S trivial (by decide) (q_fieldAddr' 2 23 rfl ((hat8374 0 _ rfl).isP) Try.underlying71 rfl Try.sizeOf23) (fun a S => ?_)
              refine lx_e v8375 S trivial (by decide) rfl trivial (q_load1 rfl Try.isAgg23 (by rintro _ rfl; exact (At.of_add (m := 2) (j := 0) ((hat8374 2 _ rfl).ext H.ext)))) (fun a S => ?_)
              refine lx_q v8375 S trivial (by decide) (q_assign rfl) (fun a S => ?_)
              refine lx_nil ?_
              refine thenN ?_
              refine wp_seq ?_
              refine wp_seq ?_
              refine region_plain ?_
              refine lx_q (.int .i64 (0 : Int)) S trivial (by decide) (q_assign rfl) (fun a S => ?_)
              refine lx_nil ?_
              refine thenN ?_
              obtain ⟨res8452, hit8453, hk8456⟩ := bind_some hm
              obtain ⟨f8454, hf8455, hit8453⟩ := iter_name hit8453
              refine block_loop (fun a w => ∃ (xs8450 : List Int) (v8449 : Value), Slots a 82 [(0, p0), (1, p1), (6, v4195), (7, (.int .i64 x4198)), (8, (bp b8356))] ∧ Heap w0 [oA (rList Rimpl_Vertex) v4195 xs4196, bA b8356 [(.int .i64 x8358), (.int .i64 x8359), v8449] 71, oA (rList (rInt .i64)) v8449 xs8450] w ∧ res8452 = .inl (xs8450)) ?_ ?_
              · rintro a w ⟨xs8450, v8449, S, H, rfl⟩
                have hm := ctl_inl hk8456
                refine thenN ?_
                refine region_plain ?_
                refine lx_q v4195 S trivial (by decide) (q_move rfl) (fun a S => ?_)
                refine lx_e (.agg #[(.int .i64 x8358), (.int .i64 x8359), v8449]) S trivial (by decide) rfl trivial (q_loadA (cs := [(.int .i64 x8358), (.int .i64 x8359), v8449]) rfl (isP_bp _) Try.isAgg71 Try.sizeOf71 (by rintro _ rfl; exact (fun j u hu => boxAt (i := 1) H rfl hu))) (fun a S => ?_)
                have H : Heap w0 [oA (rList (rInt .i64)) v8449 xs8450, oA (rList Rimpl_Vertex) v4195 xs4196, bA b8356 [(.int .i64 x8358), (.int .i64 x8359), v8449] 71] w := H.front 2 rfl
                refine lx_buildSlice (r := Rimpl_Vertex) (xs := [(x8358, x8359, xs8450)]) (ps := [(0, [(.int .i64 x8358), (.int .i64 x8359), v8449])]) (cs := [(.int .i64 x8358), (.int .i64 x8359), v8449]) (parts := [(0, .tmp 78)]) S trivial (by decide) rfl H rfl Try.underlying26 Try.sizeOf71 Try.zeroValue71 (by decide) ⟨rfl, rfl, Nat.le_of_ble_eq_true rfl, trivial⟩ (by intro zs hz; exact fill_dense hz ⟨rfl, trivial⟩ rfl rfl) rfl (by decide) (fun w F hA => ownL_one_mk (ownF ⟨_, _, [(.int .i64 x8358)], [(.int .i64 x8359), v8449], rfl, rfl, ⟨rfl, rfl⟩, ⟨_, _, [(.int .i64 x8359)], [v8449], rfl, rfl, ⟨rfl, rfl⟩, (oA_list.1 hA)⟩⟩)) (fun v8457 w8458 H => ⟨trivial, fun a S => ?_⟩)
                obtain ⟨x8460, e8461, hm⟩ := bind_some hm
                obtain ⟨hle, hap⟩ := app_some e8461
                replace hap := hap.symm
                subst hap
                have H : Heap w0 [oA (rList Rimpl_Vertex) v8457 [(x8358, x8359, xs8450)], oA (rList Rimpl_Vertex) v4195 xs4196, bA b8356 [(.int .i64 x8358), (.int .i64 x8359), v8449] 71] w8458 := H.front 0 rfl
                have H : Heap w0 [oA (rList Rimpl_Vertex) v4195 xs4196, oA (rList Rimpl_Vertex) v8457 [(x8358, x8359, xs8450)], bA b8356 [(.int .i64 x8358), (.int .i64 x8359), v8449] 71] w8458 := H.front 1 rfl
                refine lx_appendOwn (r := Rimpl_Vertex) S trivial (by decide) rfl H rfl rfl Try.underlying26 Try.ti71 rfl rfl rfl (by decide) (by decide) hle (fun v8462 w8463 H => ⟨trivial, fun a S => ?_⟩)
                refine lx_q v8462 S trivial (by decide) (q_assign rfl) (fun a S => ?_)
                refine lx_nil ?_
                refine inBlock_norm ?_
                refine thenN ?_
                refine region_plain ?_
                refine lx_q (.int .i64 x4198) S trivial (by decide) (q_move rfl) (fun a S => ?_)
                refine lx_q (.int .i64 (W (x4198 + (1 : Int)))) S trivial (by decide) (q_add rfl rfl) (fun a S => ?_)
                refine lx_q (.int .i64 (W (x4198 + (1 : Int)))) S trivial (by decide) (q_assign rfl) (fun a S => ?_)
                refine lx_nil ?_
                have H : Heap w0 [oA (rList Rimpl_Vertex) v8462 (xs4196 ++ [(x8358, x8359, xs8450)])] w8463 := H.sel [0] (by decide)
                exact ⟨m8352, Nat.lt_succ_self _, (xs4196 ++ [(x8358, x8359, xs8450)]), (W (x4198 + (1 : Int))), v8462, S.sub ⟨rfl, rfl, rfl, rfl, trivial⟩, H, it_cont hm hc8354⟩
              · skip
                refine loop_ghost (fun n a w => ∃ (xs8416 : List Int) (x8418 : Int) (v8415 : Value), Slots a 82 [(0, p0), (1, p1), (6, v4195), (7, (.int .i64 x4198)), (8, (bp b8356)), (9, v8375), (10, (.int .i64 x8418))] ∧ Heap w0 [oA (rList Rimpl_Vertex) v4195 xs4196, bA b8356 [(.int .i64 x8358), (.int .i64 x8359), v8415] 71, oA (rList (rInt .i64)) v8415 xs8416] w ∧ iter f8454 n (xs8416, x8418) = some res8452) _ ⟨xs8361, (0 : Int), v8360, S.sub ⟨rfl, rfl, rfl, rfl, rfl, rfl, rfl, trivial⟩, H, hit8453⟩ ?_
                rintro n a w ⟨xs8416, x8418, v8415, S, H, hit8453⟩
                obtain ⟨m8465, o8466, rfl, hm, hc8467⟩ := iter_step hit8453
                rw [hf8455] at hm
                refine wp_seq ?_
                refine wp_seq ?_
                refine region_plain ?_
                refine lx_q (.int .i64 x8418) S trivial (by decide) (q_move rfl) (fun a S => ?_)
                refine lx_q v8375 S trivial (by decide) (q_move rfl) (fun a S => ?_)
                refine lx_q (.int .i64 (x8370.2.2.length : Int)) S trivial (by decide) (q_lenSl rfl (h8376).isSl rfl Try.underlying23) (fun a S => ?_)
                refine lx_q (.bool (decide (x8418 < (x8370.2.2.length : Int)))) S trivial (by decide) (q_lss rfl rfl) (fun a S => ?_)
                refine lx_nil ?_
                refine thenN ?_
                refine cond_b S rfl (fun hc8468 => ?_) (fun hc8468 => ?_)
                · have hm := ite_t hc8468 hm
                  refine wp_skip ?_
                  refine thenN ?_
                  obtain ⟨K8472, hK8473, hm⟩ := join_elim hm
                  refine seq_cut (fun a w => ∃ (xs8470 : List Int) (v8469 : Value), Slots a 82 [(0, p0), (1, p1), (6, v4195), (7, (.int .i64 x4198)), (8, (bp b8356)), (9, v8375), (10, (.int .i64 x8418))] ∧ Heap w0 [oA (rList Rimpl_Vertex) v4195 xs4196, bA b8356 [(.int .i64 x8358), (.int .i64 x8359), v8469] 71, oA (rList (rInt .i64)) v8469 xs8470] w ∧ K8472 xs8470 = some o8466) ?_ ?_
                  · rintro a w ⟨xs8470, v8469, S, H, hm⟩
                    subst hK8473
                    refine region_plain ?_
                    refine lx_q (.int .i64 x8418) S trivial (by decide) (q_move rfl) (fun a S => ?_)
                    refine lx_q (.int .i64 (W (x8418 + (1 : Int)))) S trivial (by decide) (q_add rfl rfl) (fun a S => ?_)
                    refine lx_q (.int .i64 (W (x8418 + (1 : Int)))) S trivial (by decide) (q_assign rfl) (fun a S => ?_)
                    refine lx_nil ?_
                    exact ⟨m8465, Nat.lt_succ_self _, xs8470, (W (x8418 + (1 : Int))), v8469, S.sub ⟨rfl, rfl, rfl, rfl, rfl, rfl, rfl, trivial⟩, H, it_cont hm hc8467⟩
                  · skip
                    refine wp_block ?_
                    refine wp_seq ?_
                    refine region_plain ?_
                    refine lx_q p1 S trivial (by decide) (q_move rfl) (fun a S => ?_)
                    refine lx_q v8375 S trivial (by decide) (q_move rfl) (fun a S => ?_)
                    refine lx_q (.int .i64 x8418) S trivial (by decide) (q_move rfl) (fun a S => ?_)
                    obtain ⟨x8474, e8475, hm⟩ := bind_some hm
                    obtain ⟨c8476, h8477, hat8478⟩ := (h8376).elem (idx_some e8475).2
                    obtain rfl := h8477
                    have hlt := lt_of_idx (idx_some e8475).2
                    refine lx_q (ePtr v8375 (x8418.toNat * 1)) S trivial (by decide) (q_indexAddr rfl (h8376).isSl rfl (idx_some e8475).1 hlt Try.underlying23 Try.sizeOf2) (fun a S => ?_)
                    refine lx_e (.int .i64 x8474) S trivial (by decide) rfl trivial (q_load1 rfl Try.isAgg2 (by rintro _ rfl; exact ((hat8478 0 _ rfl).ext H.ext))) (fun a S => ?_)
                    obtain ⟨x8481, e8482, hm⟩ := bind_some hm
                    refine lx_call (xs := [.tmp 63, .tmp 67]) S trivial (by decide) rfl rfl Try.call94 ((spec_l11Place_ok (H.arg h1)  e8482).mono ?_)
                    rintro e w8479 ⟨rfl, Hc8480⟩
                    have he8483 := Hc8480.ext
                    have H := H.call0 Hc8480
                    refine ⟨_, rfl, trivial, fun a S => ?_⟩
                    refine lx_q (.int .i64 x8481) S trivial (by decide) (q_assign rfl) (fun a S => ?_)
                    refine lx_nil ?_
                    refine thenN ?_
                    refine wp_seq ?_
                    refine region_plain ?_
                    refine lx_q (.int .i64 x8481) S trivial (by decide) (q_move rfl) (fun a S => ?_)
                    refine lx_q (.bool (decide ((0 : Int) ≤ x8481))) S trivial (by decide) (q_geq rfl rfl) (fun a S => ?_)
                    refine lx_nil ?_
                    refine thenN ?_
                    refine cond_b S rfl (fun hc8484 => ?_) (fun hc8484 => ?_)
                    · have hm := ite_t hc8484 hm
                      refine region_plain ?_
                      refine lx_q (pAdd (bp b8356) 2) S trivial (by decide) (q_fieldAddr' 2 23 rfl (isP_bp _) Try.underlying71 rfl Try.sizeOf23) (fun a S => ?_)
                      refine lx_e v8415 S trivial (by decide) rfl trivial (q_load1 rfl Try.isAgg23 (by rintro _ rfl; exact (At.of_add (m := 2) (j := 0) (boxAt (i := 1) H rfl (j := 2) rfl)))) (fun a S => ?_)
                      refine lx_q (.int .i64 x8481) S trivial (by decide) (q_move rfl) (fun a S => ?_)
                      refine lx_buildSlice (r := (rInt .i64)) (xs := [x8481]) (ps := [(0, [(.int .i64 x8481)])]) (cs := [(.int .i64 x8481)]) (parts := [(0, .tmp 73)]) S trivial (by decide) rfl (H.put0 (A := eA) rfl) rfl Try.underlying23 Try.sizeOf2 Try.zeroValue2 (by decide) ⟨rfl, rfl, Nat.le_of_ble_eq_true rfl, trivial⟩ (by intro zs hz; exact fill_dense hz ⟨rfl, trivial⟩ rfl rfl) rfl (by decide) (fun w F hA => by cases (show F = [] from hA); exact ⟨_, _, [(.int .i64 x8481)], _, rfl, rfl, ⟨rfl, rfl⟩, ⟨rfl, rfl⟩⟩) (fun v8485 w8486 H => ⟨trivial, fun a S => ?_⟩)
                      obtain ⟨x8488, e8489, hm⟩ := bind_some hm
                      obtain ⟨hle, hap⟩ := app_some e8489
                      replace hap := hap.symm
                      subst hap
                      have H : Heap w0 [oA (rList (rInt .i64)) v8485 [x8481], oA (rList Rimpl_Vertex) v4195 xs4196, bA b8356 [(.int .i64 x8358), (.int .i64 x8359), v8415] 71, oA (rList (rInt .i64)) v8415 xs8416] w8486 := H.front 0 rfl
                      have H : Heap w0 [oA (rList (rInt .i64)) v8415 xs8416, oA (rList (rInt .i64)) v8485 [x8481], oA (rList Rimpl_Vertex) v4195 xs4196, bA b8356 [(.int .i64 x8358), (.int .i64 x8359), v8415] 71] w8486 := H.front 3 rfl
                      refine lx_appendOwn (r := (rInt .i64)) S trivial (by decide) rfl H rfl rfl Try.underlying23 Try.ti2 rfl rfl rfl (by decide) (by decide) hle (fun v8490 w8491 H => ⟨trivial, fun a S => ?_⟩)
                      refine lx_q (pAdd (bp b8356) 2) S trivial (by decide) (q_fieldAddr' 2 23 rfl (isP_bp _) Try.underlying71 rfl Try.sizeOf23) (fun a S => ?_)
                      refine lx_storeBox (o := 2) (i := 2) (us := [v8490]) (cs' := [(.int .i64 x8358), (.int .i64 x8359), v8490]) S trivial rfl H rfl rfl rfl (cells_sl (H.isSl 0 rfl)) Try.sizeOf23 (Nat.le_of_ble_eq_true rfl) (List.forall_mem_cons.2 ⟨one_sl (H.isSl 0 rfl), (fun _ h => nomatch h)⟩) rfl (fun w8493 H => ⟨trivial, fun a S => ?_⟩)
                      change Heap w0 [oA (rList (rInt .i64)) v8490 (xs8416 ++ [x8481]), oA (rList Rimpl_Vertex) v4195 xs4196, bA b8356 [(.int .i64 x8358), (.int .i64 x8359), v8490] 71] w8493 at H
                      refine lx_nil ?_
                      refine inBlock_norm ?_
                      have H : Heap w0 [bA b8356 [(.int .i64 x8358), (.int .i64 x8359), v8490] 71, oA (rList (rInt .i64)) v8490 (xs8416 ++ [x8481]), oA (rList Rimpl_Vertex) v4195 xs4196] w8493 := H.front 2 rfl
                      have H : Heap w0 [oA (rList Rimpl_Vertex) v4195 xs4196, bA b8356 [(.int .i64 x8358), (.int .i64 x8359), v8490] 71, oA (rList (rInt .i64)) v8490 (xs8416 ++ [x8481])] w8493 := H.front 2 rfl
                      exact ⟨(xs8416 ++ [x8481]), v8490, S.sub ⟨rfl, rfl, rfl, rfl, rfl, rfl, rfl, trivial⟩, H, hm⟩
                    · have hm := ite_f hc8484 hm
                      refine wp_skip ?_
                      refine inBlock_norm ?_
                      exact ⟨xs8416, v8415, S.sub ⟨rfl, rfl, rfl, rfl, rfl, rfl, rfl, trivial⟩, H, hm⟩
                · have hm := ite_f hc8468 hm
                  refine wp_exit ?_
                  refine then_exit ?_
                  refine then_exit ?_
                  refine inBlock_exit ?_
                  obtain rfl := it_brk hm hc8467
                  exact ⟨xs8416, v8415, S.sub ⟨rfl, rfl, rfl, rfl, rfl, trivial⟩, H, rfl⟩
            · skip
              refine region_draw2 (m := [_, _, _, _, _, _, _, _, _, _, _, _, _, _, _, _, _, _, _, _]) (fun w1 => Heap w0 [] w1) (fun i => [16, 18, 19].contains i) (fun i => [17, 0, 19].contains i) [18, 0, 1, 2, 3, 4, 5, 6, 7, 8, 9, 10, 11, 12, 13, 14, 15, 16, 17, 19] 16 18 mixed (by kernel_rfl) rfl rfl rfl (fun w8495 he8494 => ?_)
              have H := H.later he8494
              refine ⟨⟨H.sel [] (by decide), ?_⟩, ?_⟩
              · skip
                refine lx_q p0 S trivial (by decide) (q_move rfl) (fun a S => ?_)
                refine lx_q p1 S trivial (by decide) (q_move rfl) (fun a S => ?_)
                refine lx_q (.int .i64 x4198) S trivial (by decide) (q_move rfl) (fun a S => ?_)
                obtain ⟨x8496, e8497, hm⟩ := bind_some hm
                obtain ⟨c8498, h8499, hat8500⟩ := (h1).elem (idx_some e8497).2
                obtain rfl := h8499
                have hlt := lt_of_idx (idx_some e8497).2
                refine lx_q (ePtr p1 (x4198.toNat * 1)) S trivial (by decide) (q_indexAddr rfl (h1).isSl rfl (idx_some e8497).1 hlt Try.underlying23 Try.sizeOf2) (fun a S => ?_)
                refine lx_q (.int .i64 x8496) S trivial (by decide) (q_load1 rfl Try.isAgg2 (fun w1 hC => ((hat8500 0 _ rfl).ext hC.ext))) (fun a S => ?_)
                obtain ⟨x8501, e8502, hm⟩ := bind_some hm
                obtain ⟨c8503, h8504, hat8505⟩ := (h0).elem (idx_some e8502).2
                obtain ⟨c8508, c8509, rfl, h8510, h8511⟩ := h8504
                obtain rfl := h8510
                obtain ⟨c8512, c8513, rfl, h8514, h8515⟩ := h8511
                obtain rfl := h8514
                obtain ⟨v8506, rfl, h8507⟩ := rd_list h8515
                have hlt := lt_of_idx (idx_some e8502).2
                refine lx_q (ePtr p0 (x8496.toNat * 3)) S trivial (by decide) (q_indexAddr rfl (h0).isSl rfl (idx_some e8502).1 hlt Try.underlying26 Try.sizeOf71) (fun a S => ?_)
                refine lx_q (pAdd (ePtr p0 (x8496.toNat * 3)) 0) S trivial (by decide) (q_fieldAddr' 0 2 rfl ((hat8505 0 _ rfl).isP) Try.underlying71 rfl Try.sizeOf2) (fun a S => ?_)
                refine lx_q (.int .i64 x8501.1) S trivial (by decide) (q_load1 rfl Try.isAgg2 (fun w1 hC => (At.of_add (m := 0) (j := 0) ((hat8505 0 _ rfl).ext hC.ext)))) (fun a S => ?_)
                refine lx_q p0 S trivial (by decide) (q_move rfl) (fun a S => ?_)
                refine lx_q p1 S trivial (by decide) (q_move rfl) (fun a S => ?_)
                refine lx_q (.int .i64 x4198) S trivial (by decide) (q_move rfl) (fun a S => ?_)
                obtain ⟨x8516, e8517, hm⟩ := bind_some hm
                obtain ⟨c8518, h8519, hat8520⟩ := (h1).elem (idx_some e8517).2
                obtain rfl := h8519
                have hlt := lt_of_idx (idx_some e8517).2
                refine lx_q (ePtr p1 (x4198.toNat * 1)) S trivial (by decide) (q_indexAddr rfl (h1).isSl rfl (idx_some e8517).1 hlt Try.underlying23 Try.sizeOf2) (fun a S => ?_)
                refine lx_q (.int .i64 x8516) S trivial (by decide) (q_load1 rfl Try.isAgg2 (fun w1 hC => ((hat8520 0 _ rfl).ext hC.ext))) (fun a S => ?_)
                obtain ⟨x8521, e8522, hm⟩ := bind_some hm
                obtain ⟨c8523, h8524, hat8525⟩ := (h0).elem (idx_some e8522).2
                obtain ⟨c8528, c8529, rfl, h8530, h8531⟩ := h8524
                obtain rfl := h8530
                obtain ⟨c8532, c8533, rfl, h8534, h8535⟩ := h8531
                obtain rfl := h8534
                obtain ⟨v8526, rfl, h8527⟩ := rd_list h8535
                have hlt := lt_of_idx (idx_some e8522).2
                refine lx_q (ePtr p0 (x8516.toNat * 3)) S trivial (by decide) (q_indexAddr rfl (h0).isSl rfl (idx_some e8522).1 hlt Try.underlying26 Try.sizeOf71) (fun a S => ?_)
                refine lx_q (pAdd (ePtr p0 (x8516.toNat * 3)) 1) S trivial (by decide) (q_fieldAddr' 1 2 rfl ((hat8525 0 _ rfl).isP) Try.underlying71 rfl Try.sizeOf2) (fun a S => ?_)
                refine lx_q (.int .i64 x8521.2.1) S trivial (by decide) (q_load1 rfl Try.isAgg2 (fun w1 hC => (At.of_add (m := 1) (j := 0) ((hat8525 1 _ rfl).ext hC.ext)))) (fun a S => ?_)
                refine lx_buildSlice0 (r := (rInt .i64)) S trivial (by decide) rfl H Try.underlying23 Try.sizeOf2 (fun v8536 w8537 H => ⟨H.sel [] (by decide), fun a S => ?_⟩)
                refine lx_q (.agg #[(.int .i64 x8501.1), (.int .i64 x8521.2.1), v8536]) S trivial (by decide) (q_build (zs := [(.int .i64 (0 : Int)), (.int .i64 (0 : Int)), (.slice none 0 0)]) (szs := [1, 1, 1]) (ps := [(0, [(.int .i64 x8501.1)]), (1, [(.int .i64 x8521.2.1)]), (2, [v8536])]) (parts := [(0, .tmp 38), (1, .tmp 46), (2, .tmp 47)]) rfl Try.underlying71 Try.zeroValue71 (fun w => by simp [Try.sizeOf2, Try.sizeOf23]) ⟨rfl, rfl, Nat.le_of_ble_eq_true rfl, ⟨rfl, rfl, Nat.le_of_ble_eq_true rfl, ⟨rfl, (cells_sl (H.isSl 0 rfl)), Nat.le_of_ble_eq_true rfl, trivial⟩⟩⟩ rfl) (fun a S => ?_)
                refine lx_alloc S trivial (by decide) rfl H Try.zeroValue71 rfl (fun b8539 w8540 H => ⟨H.sel [] (by decide), fun a S => ?_⟩)
                refine lx_storeBox (o := 0) (i := 0) (us := [(.int .i64 x8501.1), (.int .i64 x8521.2.1), v8536]) (cs' := [(.int .i64 x8501.1), (.int .i64 x8521.2.1), v8536]) S trivial rfl H rfl rfl rfl rfl Try.sizeOf71 (Nat.le_of_ble_eq_true rfl) (List.forall_mem_cons.2 ⟨rfl, (List.forall_mem_cons.2 ⟨rfl, (List.forall_mem_cons.2 ⟨one_sl (H.isSl 1 rfl), (fun _ h => nomatch h)⟩)⟩)⟩) rfl (fun w8542 H => ⟨H.sel [] (by decide), fun a S => ?_⟩)
                change Heap w0 [bA b8539 [(.int .i64 x8501.1), (.int .i64 x8521.2.1), v8536] 71, oA (rList (rInt .i64)) v8536 ([] : List Int), oA (rList Rimpl_Vertex) v4195 xs4196] w8542 at H
                refine lx_nil ?_
                have H : Heap w0 [oA (rList (rInt .i64)) v8536 ([] : List Int), bA b8539 [(.int .i64 x8501.1), (.int .i64 x8521.2.1), v8536] 71, oA (rList Rimpl_Vertex) v4195 xs4196] w8542 := H.front 1 rfl
                have H : Heap w0 [bA b8539 [(.int .i64 x8501.1), (.int .i64 x8521.2.1), v8536] 71, oA (rList (rInt .i64)) v8536 ([] : List Int), oA (rList Rimpl_Vertex) v4195 xs4196] w8542 := H.front 1 rfl
                have H : Heap w0 [oA (rList Rimpl_Vertex) v4195 xs4196, bA b8539 [(.int .i64 x8501.1), (.int .i64 x8521.2.1), v8536] 71, oA (rList (rInt .i64)) v8536 ([] : List Int)] w8542 := H.front 2 rfl
                exact ⟨x8501.1, x8521.2.1, ([] : List Int), b8539, v8536, S.sub ⟨rfl, rfl, rfl, rfl, rfl, trivial⟩, H, hm⟩
              · skip
                refine lx_alloc S trivial (by decide) rfl H Try.zeroValue71 rfl (fun b8539 w8540 H => ⟨H.sel [] (by decide), fun a S => ?_⟩)
                refine lx_q p0 S trivial (by decide) (q_move rfl) (fun a S => ?_)
                refine lx_q p1 S trivial (by decide) (q_move rfl) (fun a S => ?_)
                refine lx_q (.int .i64 x4198) S trivial (by decide) (q_move rfl) (fun a S => ?_)
                obtain ⟨x8496, e8497, hm⟩ := bind_some hm
                obtain ⟨c8498, h8499, hat8500⟩ := (h1).elem (idx_some e8497).2
                obtain rfl := h8499
                have hlt := lt_of_idx (idx_some e8497).2
                refine lx_q (ePtr p1 (x4198.toNat * 1)) S trivial (by decide) (q_indexAddr rfl (h1).isSl rfl (idx_some e8497).1 hlt Try.underlying23 Try.sizeOf2) (fun a S => ?_)
                refine lx_q (.int .i64 x8496) S trivial (by decide) (q_load1 rfl Try.isAgg2 (fun w1 hC => ((hat8500 0 _ rfl).ext hC.ext))) (fun a S => ?_)
                obtain ⟨x8501, e8502, hm⟩ := bind_some hm
                obtain ⟨c8503, h8504, hat8505⟩ := (h0).elem (idx_some e8502).2
                obtain ⟨c8508, c8509, rfl, h8510, h8511⟩ := h8504
                obtain rfl := h8510
                obtain ⟨c8512, c8513, rfl, h8514, h8515⟩ := h8511
                obtain rfl := h8514
                obtain ⟨v8506, rfl, h8507⟩ := rd_list h8515
                have hlt := lt_of_idx (idx_some e8502).2
                refine lx_q (ePtr p0 (x8496.toNat * 3)) S trivial (by decide) (q_indexAddr rfl (h0).isSl rfl (idx_some e8502).1 hlt Try.underlying26 Try.sizeOf71) (fun a S => ?_)
                refine lx_q (pAdd (ePtr p0 (x8496.toNat * 3)) 0) S trivial (by decide) (q_fieldAddr' 0 2 rfl ((hat8505 0 _ rfl).isP) Try.underlying71 rfl Try.sizeOf2) (fun a S => ?_)
                refine lx_q (.int .i64 x8501.1) S trivial (by decide) (q_load1 rfl Try.isAgg2 (fun w1 hC => (At.of_add (m := 0) (j := 0) ((hat8505 0 _ rfl).ext hC.ext)))) (fun a S => ?_)
                refine lx_q p0 S trivial (by decide) (q_move rfl) (fun a S => ?_)
                refine lx_q p1 S trivial (by decide) (q_move rfl) (fun a S => ?_)
                refine lx_q (.int .i64 x4198) S trivial (by decide) (q_move rfl) (fun a S => ?_)
                obtain ⟨x8516, e8517, hm⟩ := bind_some hm
                obtain ⟨c8518, h8519, hat8520⟩ := (h1).elem (idx_some e8517).2
                obtain rfl := h8519
                have hlt := lt_of_idx (idx_some e8517).2
                refine lx_q (ePtr p1 (x4198.toNat * 1)) S trivial (by decide) (q_indexAddr rfl (h1).isSl rfl (idx_some e8517).1 hlt Try.underlying23 Try.sizeOf2) (fun a S => ?_)
                refine lx_q (.int .i64 x8516) S trivial (by decide) (q_load1 rfl Try.isAgg2 (fun w1 hC => ((hat8520 0 _ rfl).ext hC.ext))) (fun a S => ?_)
                obtain ⟨x8521, e8522, hm⟩ := bind_some hm
                obtain ⟨c8523, h8524, hat8525⟩ := (h0).elem (idx_some e8522).2
                obtain ⟨c8528, c8529, rfl, h8530, h8531⟩ := h8524
                obtain rfl := h8530
                obtain ⟨c8532, c8533, rfl, h8534, h8535⟩ := h8531
                obtain rfl := h8534
                obtain ⟨v8526, rfl, h8527⟩ := rd_list h8535
                have hlt := lt_of_idx (idx_some e8522).2
                refine lx_q (ePtr p0 (x8516.toNat * 3)) S trivial (by decide) (q_indexAddr rfl (h0).isSl rfl (idx_some e8522).1 hlt Try.underlying26 Try.sizeOf71) (fun a S => ?_)
                refine lx_q (pAdd (ePtr p0 (x8516.toNat * 3)) 1) S trivial (by decide) (q_fieldAddr' 1 2 rfl ((hat8525 0 _ rfl).isP) Try.underlying71 rfl Try.sizeOf2) (fun a S => ?_)
                refine lx_q (.int .i64 x8521.2.1) S trivial (by decide) (q_load1 rfl Try.isAgg2 (fun w1 hC => (At.of_add (m := 1) (j := 0) ((hat8525 1 _ rfl).ext hC.ext)))) (fun a S => ?_)
                refine lx_buildSlice0 (r := (rInt .i64)) S trivial (by decide) rfl H Try.underlying23 Try.sizeOf2 (fun v8536 w8537 H => ⟨H.sel [] (by decide), fun a S => ?_⟩)
                refine lx_q (.agg #[(.int .i64 x8501.1), (.int .i64 x8521.2.1), v8536]) S trivial (by decide) (q_build (zs := [(.int .i64 (0 : Int)), (.int .i64 (0 : Int)), (.slice none 0 0)]) (szs := [1, 1, 1]) (ps := [(0, [(.int .i64 x8501.1)]), (1, [(.int .i64 x8521.2.1)]), (2, [v8536])]) (parts := [(0, .tmp 38), (1, .tmp 46), (2, .tmp 47)]) rfl Try.underlying71 Try.zeroValue71 (fun w => by simp [Try.sizeOf2, Try.sizeOf23]) ⟨rfl, rfl, Nat.le_of_ble_eq_true rfl, ⟨rfl, rfl, Nat.le_of_ble_eq_true rfl, ⟨rfl, (cells_sl (H.isSl 0 rfl)), Nat.le_of_ble_eq_true rfl, trivial⟩⟩⟩ rfl) (fun a S => ?_)
                refine lx_storeBox (o := 0) (i := 1) (us := [(.int .i64 x8501.1), (.int .i64 x8521.2.1), v8536]) (cs' := [(.int .i64 x8501.1), (.int .i64 x8521.2.1), v8536]) S trivial rfl H rfl rfl rfl rfl Try.sizeOf71 (Nat.le_of_ble_eq_true rfl) (List.forall_mem_cons.2 ⟨rfl, (List.forall_mem_cons.2 ⟨rfl, (List.forall_mem_cons.2 ⟨one_sl (H.isSl 0 rfl), (fun _ h => nomatch h)⟩)⟩)⟩) rfl (fun w8542 H => ⟨H.sel [] (by decide), fun a S => ?_⟩)
                change Heap w0 [oA (rList (rInt .i64)) v8536 ([] : List Int), bA b8539 [(.int .i64 x8501.1), (.int .i64 x8521.2.1), v8536] 71, oA (rList Rimpl_Vertex) v4195 xs4196] w8542 at H
                refine lx_nil ?_
                have H : Heap w0 [bA b8539 [(.int .i64 x8501.1), (.int .i64 x8521.2.1), v8536] 71, oA (rList (rInt .i64)) v8536 ([] : List Int), oA (rList Rimpl_Vertex) v4195 xs4196] w8542 := H.front 1 rfl
                have H : Heap w0 [oA (rList Rimpl_Vertex) v4195 xs4196, bA b8539 [(.int .i64 x8501.1), (.int .i64 x8521.2.1), v8536] 71, oA (rList (rInt .i64)) v8536 ([] : List Int)] w8542 := H.front 2 rfl
                exact ⟨x8501.1, x8521.2.1, ([] : List Int), b8539, v8536, S.sub ⟨rfl, rfl, rfl, rfl, rfl, trivial⟩, H, hm⟩
          · have hm := ite_f hc8355 hm
            refine wp_exit ?_
            refine then_exit ?_
            refine then_exit ?_
            refine inBlock_exit ?_
            obtain rfl := it_brk hm hc8354
            exact ⟨xs4196, v4195, S.sub ⟨rfl, trivial⟩, H, rfl⟩

/-- impl.SubGame$1 -/
def impl_SubGame_1_m (fuel : Nat) (a0 : Int) (a1 : (List Int)) : Option (Bool) :=
  (slices_Contains__int64_int64_m fuel a1 a0).bind fun x38 => some ((!x38))
set_option maxRecDepth 20000 in
theorem impl_SubGame_1_ok {w0 : World} {fuel : Nat} {p1 : Value} {a0 : Int} {a1 : (List Int)} {r : Bool} (h1 : Rd (rPtr (rList (rInt .i64))) w0 p1 a1) (hm : impl_SubGame_1_m fuel a0 a1 = some r) :
    Calls Try.prog 97 #[.int .i64 a0, p1] w0 fun e w => e = .returned (.bool r) ∧ Heap w0 [] w := by
  unfold impl_SubGame_1_m at hm
  have H := Heap.start w0
  obtain ⟨c31, h32, hat33⟩ := h1.ptr
  obtain ⟨v34, rfl, h35⟩ := rd_list h32
  refine enter (args := [.int .i64 a0, p1]) Try.func97 rfl 8 rfl (Nat.le_of_ble_eq_true rfl) (fun a S => ?_)
  refine wp_seq ?_
  refine region_plain ?_
  refine lx_q (.bool false) S trivial (by decide) (q_assign rfl) (fun a S => ?_)
  refine lx_nil ?_
  refine thenN ?_
  refine wp_seq ?_
  refine region_plain ?_
  refine lx_e v34 S trivial (by decide) rfl trivial (q_load1 rfl Try.isAgg23 (by rintro _ rfl; exact ((hat33 0 _ rfl).ext H.ext))) (fun a S => ?_)
  refine lx_q (.int .i64 a0) S trivial (by decide) (q_move rfl) (fun a S => ?_)
  obtain ⟨x38, e39, hm⟩ := bind_some hm
  refine lx_call (xs := [.tmp 4, .tmp 5]) S trivial (by decide) rfl rfl Try.call62 ((slices_Contains__int64_int64_ok (H.arg h35)  e39).mono ?_)
  rintro e w36 ⟨rfl, Hc37⟩
  have he40 := Hc37.ext
  have H := H.call0 Hc37
  refine ⟨_, rfl, trivial, fun a S => ?_⟩
  refine lx_q (.bool (!x38)) S trivial (by decide) (q_not rfl) (fun a S => ?_)
  refine lx_q (.bool (!x38)) S trivial (by decide) (q_assign rfl) (fun a S => ?_)
  refine lx_nil ?_
  refine thenN ?_
  refine wp_ret ?_
  obtain rfl := Option.some.inj hm
  exact leave1 S rfl rfl ⟨rfl, H⟩
end Go.Proofs.Ytecknjdlbmmmiaa
