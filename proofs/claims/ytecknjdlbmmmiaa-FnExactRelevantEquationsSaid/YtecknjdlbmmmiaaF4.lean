/- The models of some functions and their walks (printed by a program of this repo). -/
import Derived.Test.YtecknjdlbmmmiaaF0
import Derived.Test.YtecknjdlbmmmiaaF1
import Derived.Test.YtecknjdlbmmmiaaF2
import Derived.Test.YtecknjdlbmmmiaaGxT
namespace Go.Proofs.Ytecknjdlbmmmiaa
open Go.RowKit Go.Gx

/-- spec.l22Count -/
def spec_l22Count_m (fuel : Nat) (a0 : (List Timpl_Equation)) : Option (Int) :=
  (iter (fun (s : (Int) × (Int)) => (match s with | (x70, x71) => (if (decide (x71 < (a0.length : Int))) = true then join (κ := Int → Option (((Int) × (Int)) ⊕ ((Int) ⊕ (Int)))) (fun (x121 : Int) => some (.inl (x121, (W (x71 + (1 : Int)))))) (fun K122 => (idx a0 x71).bind fun x126 => (idx a0 (W (x71 - (1 : Int)))).bind fun x141 => (if (x126.1 != x141.1) = true then (K122 (W (x70 + (1 : Int)))) else (K122 x70))) else some (.inr (.inl (x70)))) : Option (((Int) × (Int)) ⊕ ((Int) ⊕ (Int))))) fuel ((1 : Int), (1 : Int))).bind fun res112 => ctl (β := Int) (ρ := Int) (τ := Int) res112 (fun (x111) => some (x111)) (fun q => some (q))
set_option maxRecDepth 20000 in
theorem spec_l22Count_ok {w0 : World} {fuel : Nat} {p0 : Value} {a0 : (List Timpl_Equation)} {r : Int} (h0 : Rd (rList Rimpl_Equation) w0 p0 a0) (hm : spec_l22Count_m fuel a0 = some r) :
    Calls Try.prog 103 #[p0] w0 fun e w => e = .returned (.int .i64 r) ∧ Heap w0 [] w := by
  unfold spec_l22Count_m at hm
  have H := Heap.start w0
  refine enter (args := [p0]) Try.func103 rfl 26 rfl (Nat.le_of_ble_eq_true rfl) (fun a S => ?_)
  refine wp_seq ?_
  refine region_plain ?_
  refine lx_q (.int .i64 (0 : Int)) S trivial (by decide) (q_assign rfl) (fun a S => ?_)
  refine lx_nil ?_
  refine thenN ?_
  refine wp_seq ?_
  refine region_plain ?_
  refine lx_q (.int .i64 (1 : Int)) S trivial (by decide) (q_assign rfl) (fun a S => ?_)
  refine lx_nil ?_
  refine thenN ?_
  refine wp_seq ?_
  refine wp_seq ?_
  refine region_plain ?_
  refine lx_q (.int .i64 (1 : Int)) S trivial (by decide) (q_assign rfl) (fun a S => ?_)
  refine lx_nil ?_
  refine thenN ?_
  obtain ⟨res112, hit113, hk116⟩ := bind_some hm
  obtain ⟨f114, hf115, hit113⟩ := iter_name hit113
  refine block_loop (fun a w => ∃ (x111 : Int), Slots a 26 [(3, (.int .i64 x111))] ∧ Heap w0 [] w ∧ res112 = .inl (x111)) ?_ ?_
  · rintro a w ⟨x111, S, H, rfl⟩
    have hm := ctl_inl hk116
    refine thenN ?_
    refine wp_seq ?_
    refine region_plain ?_
    refine lx_q (.int .i64 x111) S trivial (by decide) (q_move rfl) (fun a S => ?_)
    refine lx_q (.int .i64 x111) S trivial (by decide) (q_assign rfl) (fun a S => ?_)
    refine lx_nil ?_
    refine thenN ?_
    refine wp_ret ?_
    obtain rfl := Option.some.inj hm
    exact leave1 S rfl rfl ⟨rfl, H⟩
  · skip
    refine loop_ghost (fun n a w => ∃ (x70 : Int) (x71 : Int), Slots a 26 [(0, p0), (3, (.int .i64 x70)), (4, (.int .i64 x71))] ∧ Heap w0 [] w ∧ iter f114 n (x70, x71) = some res112) _ ⟨(1 : Int), (1 : Int), S.sub ⟨rfl, rfl, rfl, trivial⟩, H, hit113⟩ ?_
    rintro n a w ⟨x70, x71, S, H, hit113⟩
    obtain ⟨m117, o118, rfl, hm, hc119⟩ := iter_step hit113
    rw [hf115] at hm
    refine wp_seq ?_
    refine wp_seq ?_
    refine region_plain ?_
    refine lx_q (.int .i64 x71) S trivial (by decide) (q_move rfl) (fun a S => ?_)
    refine lx_q p0 S trivial (by decide) (q_move rfl) (fun a S => ?_)
    refine lx_q (.int .i64 (a0.length : Int)) S trivial (by decide) (q_lenSl rfl (h0).isSl rfl Try.underlying36) (fun a S => ?_)
    refine lx_q (.bool (decide (x71 < (a0.length : Int)))) S trivial (by decide) (q_lss rfl rfl) (fun a S => ?_)
    refine lx_nil ?_
    refine thenN ?_
    refine cond_b S rfl (fun hc120 => ?_) (fun hc120 => ?_)
    · have hm := ite_t hc120 hm
      refine wp_skip ?_
      refine thenN ?_
      obtain ⟨K122, hK123, hm⟩ := join_elim hm
      refine seq_cut (fun a w => ∃ (x121 : Int), Slots a 26 [(0, p0), (3, (.int .i64 x121)), (4, (.int .i64 x71))] ∧ Heap w0 [] w ∧ K122 x121 = some o118) ?_ ?_
      · rintro a w ⟨x121, S, H, hm⟩
        subst hK123
        refine region_plain ?_
        refine lx_q (.int .i64 x71) S trivial (by decide) (q_move rfl) (fun a S => ?_)
        refine lx_q (.int .i64 (W (x71 + (1 : Int)))) S trivial (by decide) (q_add rfl rfl) (fun a S => ?_)
        refine lx_q (.int .i64 (W (x71 + (1 : Int)))) S trivial (by decide) (q_assign rfl) (fun a S => ?_)
        refine lx_nil ?_
        exact ⟨m117, Nat.lt_succ_self _, x121, (W (x71 + (1 : Int))), S.sub ⟨rfl, rfl, rfl, trivial⟩, H, it_cont hm hc119⟩
      · skip
        refine wp_block ?_
        refine wp_seq ?_
        refine region_drawG (fun w1 => Heap w0 [] w1) (fun i => [].contains i) mixed (by kernel_rfl) (fun w125 he124 => ?_)
        have H := H.later he124
        refine ⟨H.sel [] (by decide), ?_⟩
        refine lx_q p0 S trivial (by decide) (q_move rfl) (fun a S => ?_)
        refine lx_q (.int .i64 x71) S trivial (by decide) (q_move rfl) (fun a S => ?_)
        obtain ⟨x126, e127, hm⟩ := bind_some hm
        obtain ⟨c128, h129, hat130⟩ := (h0).elem (idx_some e127).2
        obtain ⟨c133, c134, rfl, h135, h136⟩ := h129
        obtain rfl := h135
        obtain ⟨c137, c138, rfl, h139, h140⟩ := h136
        obtain rfl := h139
        obtain ⟨v131, rfl, h132⟩ := rd_list h140
        have hlt := lt_of_idx (idx_some e127).2
        refine lx_q (ePtr p0 (x71.toNat * 3)) S trivial (by decide) (q_indexAddr rfl (h0).isSl rfl (idx_some e127).1 hlt Try.underlying36 Try.sizeOf85) (fun a S => ?_)
        refine lx_q (pAdd (ePtr p0 (x71.toNat * 3)) 0) S trivial (by decide) (q_fieldAddr' 0 4 rfl ((hat130 0 _ rfl).isP) Try.underlying85 rfl Try.sizeOf4) (fun a S => ?_)
        refine lx_q (.bool x126.1) S trivial (by decide) (q_load1 rfl Try.isAgg4 (fun w1 hC => (At.of_add (m := 0) (j := 0) ((hat130 0 _ rfl).ext hC.ext)))) (fun a S => ?_)
        refine lx_q p0 S trivial (by decide) (q_move rfl) (fun a S => ?_)
        refine lx_q (.int .i64 x71) S trivial (by decide) (q_move rfl) (fun a S => ?_)
        refine lx_q (.int .i64 (W (x71 - (1 : Int)))) S trivial (by decide) (q_sub rfl rfl) (fun a S => ?_)
        obtain ⟨x141, e142, hm⟩ := bind_some hm
        obtain ⟨c143, h144, hat145⟩ := (h0).elem (idx_some e142).2
        obtain ⟨c148, c149, rfl, h150, h151⟩ := h144
        obtain rfl := h150
        obtain ⟨c152, c153, rfl, h154, h155⟩ := h151
        obtain rfl := h154
        obtain ⟨v146, rfl, h147⟩ := rd_list h155
        have hlt := lt_of_idx (idx_some e142).2
        refine lx_q (ePtr p0 ((W (x71 - (1 : Int))).toNat * 3)) S trivial (by decide) (q_indexAddr rfl (h0).isSl rfl (idx_some e142).1 hlt Try.underlying36 Try.sizeOf85) (fun a S => ?_)
        refine lx_q (pAdd (ePtr p0 ((W (x71 - (1 : Int))).toNat * 3)) 0) S trivial (by decide) (q_fieldAddr' 0 4 rfl ((hat145 0 _ rfl).isP) Try.underlying85 rfl Try.sizeOf4) (fun a S => ?_)
        refine lx_q (.bool x141.1) S trivial (by decide) (q_load1 rfl Try.isAgg4 (fun w1 hC => (At.of_add (m := 0) (j := 0) ((hat145 0 _ rfl).ext hC.ext)))) (fun a S => ?_)
        refine lx_q (.bool (x126.1 != x141.1)) S trivial (by decide) (q_bneq rfl rfl Try.underlying4) (fun a S => ?_)
        refine lx_nil ?_
        refine thenN ?_
        refine cond_b S rfl (fun hc156 => ?_) (fun hc156 => ?_)
        · have hm := ite_t hc156 hm
          refine region_plain ?_
          refine lx_q (.int .i64 x70) S trivial (by decide) (q_move rfl) (fun a S => ?_)
          refine lx_q (.int .i64 (W (x70 + (1 : Int)))) S trivial (by decide) (q_add rfl rfl) (fun a S => ?_)
          refine lx_q (.int .i64 (W (x70 + (1 : Int)))) S trivial (by decide) (q_assign rfl) (fun a S => ?_)
          refine lx_nil ?_
          refine inBlock_norm ?_
          exact ⟨(W (x70 + (1 : Int))), S.sub ⟨rfl, rfl, rfl, trivial⟩, H, hm⟩
        · have hm := ite_f hc156 hm
          refine wp_skip ?_
          refine inBlock_norm ?_
          exact ⟨x70, S.sub ⟨rfl, rfl, rfl, trivial⟩, H, hm⟩
    · have hm := ite_f hc120 hm
      refine wp_exit ?_
      refine then_exit ?_
      refine then_exit ?_
      refine inBlock_exit ?_
      obtain rfl := it_brk hm hc119
      exact ⟨x70, S.sub ⟨rfl, trivial⟩, H, rfl⟩

/-- spec.l22Is -/
def spec_l22Is_m (fuel : Nat) (a0 : (List Timpl_Equation)) : Option (Bool) :=
  (if (decide ((a0.length : Int) < (1 : Int))) = true then some true else some (decide ((120 : Int) < (a0.length : Int)))).bind fun t31 => (if t31 = true then some true else (spec_l22Count_m fuel a0).bind fun x39 => some (decide ((9 : Int) < x39))).bind fun t34 => (if t34 = true then some (false) else (iter (fun (s : (Int)) => (match s with | (x66) => (if (decide (x66 < (a0.length : Int))) = true then (idx a0 x66).bind fun x99 => (spec_l00Rises_m fuel x99.2.2 (0 : Int) (W ((a0.length : Int) - (1 : Int)))).bind fun x116 => (if (!x116) = true then some (.inr (.inr false)) else some (.inl ((W (x66 + (1 : Int)))))) else some (.inr (.inl ()))) : Option (((Int)) ⊕ ((Unit) ⊕ (Bool))))) fuel ((0 : Int))).bind fun res90 => ctl (β := Unit) (ρ := Bool) (τ := Bool) res90 (fun _ => some (true)) (fun q => some (q)))
set_option maxRecDepth 20000 in
theorem spec_l22Is_ok {w0 : World} {fuel : Nat} {p0 : Value} {a0 : (List Timpl_Equation)} {r : Bool} (h0 : Rd (rList Rimpl_Equation) w0 p0 a0) (hm : spec_l22Is_m fuel a0 = some r) :
    Calls Try.prog 68 #[p0] w0 fun e w => e = .returned (.bool r) ∧ Heap w0 [] w := by
  unfold spec_l22Is_m at hm
  have H := Heap.start w0
  refine enter (args := [p0]) Try.func68 rfl 33 rfl (Nat.le_of_ble_eq_true rfl) (fun a S => ?_)
  refine wp_seq ?_
  refine region_plain ?_
  refine lx_q (.bool false) S trivial (by decide) (q_assign rfl) (fun a S => ?_)
  refine lx_nil ?_
  refine thenN ?_
  refine wp_seq ?_
  refine wp_seq ?_
  refine region_plain ?_
  refine lx_q p0 S trivial (by decide) (q_move rfl) (fun a S => ?_)
  refine lx_q (.int .i64 (a0.length : Int)) S trivial (by decide) (q_lenSl rfl (h0).isSl rfl Try.underlying36) (fun a S => ?_)
  refine lx_q (.bool (decide ((a0.length : Int) < (1 : Int)))) S trivial (by decide) (q_lss rfl rfl) (fun a S => ?_)
  refine lx_q (.bool (decide ((a0.length : Int) < (1 : Int)))) S trivial (by decide) (q_move rfl) (fun a S => ?_)
  obtain ⟨t31, e32, hm⟩ := bind_some hm
  refine lx_cut 4 (fun a w => Slots a 33 [(0, p0), (11, (.bool t31))] ∧ Heap w0 [] w) ?_ ?_
  · by_cases hc33 : (decide ((a0.length : Int) < (1 : Int))) = true
    · have hm := ite_t hc33 e32
      refine lx_skip S rfl rfl (isB_ne hc33) (by decide) (fun a S => ?_)
      refine lx_skip S rfl rfl (isB_ne hc33) (by decide) (fun a S => ?_)
      refine lx_skip S rfl rfl (isB_ne hc33) (by decide) (fun a S => ?_)
      refine lx_q (.bool true) S trivial (by decide) (q_pickT' rfl hc33 rfl) (fun a S => ?_)
      refine lx_nil ?_
      obtain rfl := Option.some.inj hm
      exact ⟨S.sub ⟨rfl, rfl, trivial⟩, H⟩
    · have hm := ite_f (eq_false_of_ne_true hc33) e32
      have hc33 : (decide ((a0.length : Int) < (1 : Int))) = false := eq_false_of_ne_true hc33
      refine lx_q p0 S (want_b rfl rfl hc33) (by decide) (q_move rfl) (fun a S => ?_)
      refine lx_q (.int .i64 (a0.length : Int)) S (want_b rfl rfl hc33) (by decide) (q_lenSl rfl (h0).isSl rfl Try.underlying36) (fun a S => ?_)
      refine lx_q (.bool (decide ((120 : Int) < (a0.length : Int)))) S (want_b rfl rfl hc33) (by decide) (q_gtr rfl rfl) (fun a S => ?_)
      refine lx_q (.bool (decide ((120 : Int) < (a0.length : Int)))) S trivial (by decide) (q_pickF' rfl hc33 rfl) (fun a S => ?_)
      refine lx_nil ?_
      obtain rfl := Option.some.inj hm
      exact ⟨S.sub ⟨rfl, rfl, trivial⟩, H⟩
  · rintro a w ⟨S, H⟩
    refine lx_q (.bool t31) S trivial (by decide) (q_move rfl) (fun a S => ?_)
    obtain ⟨t34, e35, hm⟩ := bind_some hm
    refine lx_cut 4 (fun a w => Slots a 33 [(0, p0), (16, (.bool t34))] ∧ Heap w0 [] w) ?_ ?_
    · by_cases hc36 : t31 = true
      · have hm := ite_t hc36 e35
        refine lx_skip S rfl rfl (isB_ne hc36) (by decide) (fun a S => ?_)
        refine lx_skip S rfl rfl (isB_ne hc36) (by decide) (fun a S => ?_)
        refine lx_skip S rfl rfl (isB_ne hc36) (by decide) (fun a S => ?_)
        refine lx_q (.bool true) S trivial (by decide) (q_pickT' rfl hc36 rfl) (fun a S => ?_)
        refine lx_nil ?_
        obtain rfl := Option.some.inj hm
        exact ⟨S.sub ⟨rfl, rfl, trivial⟩, H⟩
      · have hm := ite_f (eq_false_of_ne_true hc36) e35
        have hc36 : t31 = false := eq_false_of_ne_true hc36
        refine lx_q p0 S (want_b rfl rfl hc36) (by decide) (q_move rfl) (fun a S => ?_)
        obtain ⟨x39, e40, hm⟩ := bind_some hm
        refine lx_call (xs := [.tmp 13]) S (want_b rfl rfl hc36) (by decide) rfl rfl Try.call103 ((spec_l22Count_ok (H.arg h0) e40).mono ?_)
        rintro e w37 ⟨rfl, Hc38⟩
        have he41 := Hc38.ext
        have H := H.call0 Hc38
        refine ⟨_, rfl, trivial, fun a S => ?_⟩
        refine lx_q (.bool (decide ((9 : Int) < x39))) S (want_b rfl rfl hc36) (by decide) (q_gtr rfl rfl) (fun a S => ?_)
        refine lx_q (.bool (decide ((9 : Int) < x39))) S trivial (by decide) (q_pickF' rfl hc36 rfl) (fun a S => ?_)
        refine lx_nil ?_
        obtain rfl := Option.some.inj hm
        exact ⟨S.sub ⟨rfl, rfl, trivial⟩, H⟩
    · rintro a w ⟨S, H⟩
      refine lx_nil ?_
      refine thenN ?_
      refine cond_b S rfl (fun hc42 => ?_) (fun hc42 => ?_)
      · have hm := ite_t hc42 hm
        refine wp_seq ?_
        refine region_plain ?_
        refine lx_q (.bool false) S trivial (by decide) (q_assign rfl) (fun a S => ?_)
        refine lx_nil ?_
        refine thenN ?_
        refine wp_ret ?_
        refine then_ret ?_
        obtain rfl := Option.some.inj hm
        exact leave1 S rfl rfl ⟨rfl, H⟩
      · have hm := ite_f hc42 hm
        refine wp_skip ?_
        refine thenN ?_
        refine wp_seq ?_
        refine wp_seq ?_
        refine region_plain ?_
        refine lx_q (.int .i64 (0 : Int)) S trivial (by decide) (q_assign rfl) (fun a S => ?_)
        refine lx_nil ?_
        refine thenN ?_
        obtain ⟨res90, hit91, hk94⟩ := bind_some hm
        obtain ⟨f92, hf93, hit91⟩ := iter_name hit91
        refine block_loop (fun a w => Slots a 33 [] ∧ Heap w0 [] w ∧ res90 = .inl ()) ?_ ?_
        · rintro a w ⟨S, H, rfl⟩
          have hm := ctl_inl hk94
          refine thenN ?_
          refine wp_seq ?_
          refine region_plain ?_
          refine lx_q (.bool true) S trivial (by decide) (q_assign rfl) (fun a S => ?_)
          refine lx_nil ?_
          refine thenN ?_
          refine wp_ret ?_
          obtain rfl := Option.some.inj hm
          exact leave1 S rfl rfl ⟨rfl, H⟩
        · skip
          refine loop_ghost (fun n a w => ∃ (x66 : Int), Slots a 33 [(0, p0), (3, (.int .i64 x66))] ∧ Heap w0 [] w ∧ iter f92 n (x66) = some res90) _ ⟨(0 : Int), S.sub ⟨rfl, rfl, trivial⟩, H, hit91⟩ ?_
          rintro n a w ⟨x66, S, H, hit91⟩
          obtain ⟨m95, o96, rfl, hm, hc97⟩ := iter_step hit91
          rw [hf93] at hm
          refine wp_seq ?_
          refine wp_seq ?_
          refine region_plain ?_
          refine lx_q (.int .i64 x66) S trivial (by decide) (q_move rfl) (fun a S => ?_)
          refine lx_q p0 S trivial (by decide) (q_move rfl) (fun a S => ?_)
          refine lx_q (.int .i64 (a0.length : Int)) S trivial (by decide) (q_lenSl rfl (h0).isSl rfl Try.underlying36) (fun a S => ?_)
          refine lx_q (.bool (decide (x66 < (a0.length : Int)))) S trivial (by decide) (q_lss rfl rfl) (fun a S => ?_)
          refine lx_nil ?_
          refine thenN ?_
          refine cond_b S rfl (fun hc98 => ?_) (fun hc98 => ?_)
          · have hm := ite_t hc98 hm
            refine wp_skip ?_
            refine thenN ?_
            refine wp_seq ?_
            refine wp_block ?_
            refine wp_seq ?_
            refine region_plain ?_
            refine lx_q p0 S trivial (by decide) (q_move rfl) (fun a S => ?_)
            refine lx_q (.int .i64 x66) S trivial (by decide) (q_move rfl) (fun a S => ?_)
            obtain ⟨x99, e100, hm⟩ := bind_some hm
            obtain ⟨c101, h102, hat103⟩ := (h0).elem (idx_some e100).2
            obtain ⟨c106, c107, rfl, h108, h109⟩ := h102
            obtain rfl := h108
            obtain ⟨c110, c111, rfl, h112, h113⟩ := h109
            obtain rfl := h112
            obtain ⟨v104, rfl, h105⟩ := rd_list h113
            have hlt := lt_of_idx (idx_some e100).2
            refine lx_q (ePtr p0 (x66.toNat * 3)) S trivial (by decide) (q_indexAddr rfl (h0).isSl rfl (idx_some e100).1 hlt Try.underlying36 Try.sizeOf85) (fun a S => ?_)
            refine lx_q (pAdd (ePtr p0 (x66.toNat * 3)) 2) S trivial (by decide) (q_fieldAddr' 2 23 rfl ((hat103 0 _ rfl).isP) Try.underlying85 rfl Try.sizeOf23) (fun a S => ?_)
            refine lx_e v104 S trivial (by decide) rfl trivial (q_load1 rfl Try.isAgg23 (by rintro _ rfl; exact (At.of_add (m := 2) (j := 0) ((hat103 2 _ rfl).ext H.ext)))) (fun a S => ?_)
            refine lx_q p0 S trivial (by decide) (q_move rfl) (fun a S => ?_)
            refine lx_q (.int .i64 (a0.length : Int)) S trivial (by decide) (q_lenSl rfl (h0).isSl rfl Try.underlying36) (fun a S => ?_)
            refine lx_q (.int .i64 (W ((a0.length : Int) - (1 : Int)))) S trivial (by decide) (q_sub rfl rfl) (fun a S => ?_)
            obtain ⟨x116, e117, hm⟩ := bind_some hm
            refine lx_call (xs := [.tmp 27, .const (.int .i64 (0)), .tmp 30]) S trivial (by decide) rfl rfl Try.call55 ((spec_l00Rises_ok (H.arg h105)   e117).mono ?_)
            rintro e w114 ⟨rfl, Hc115⟩
            have he118 := Hc115.ext
            have H := H.call0 Hc115
            refine ⟨_, rfl, trivial, fun a S => ?_⟩
            refine lx_q (.bool (!x116)) S trivial (by decide) (q_not rfl) (fun a S => ?_)
            refine lx_nil ?_
            refine thenN ?_
            refine cond_b S rfl (fun hc119 => ?_) (fun hc119 => ?_)
            · have hm := ite_t hc119 hm
              refine wp_seq ?_
              refine region_plain ?_
              refine lx_q (.bool false) S trivial (by decide) (q_assign rfl) (fun a S => ?_)
              refine lx_nil ?_
              refine thenN ?_
              refine wp_ret ?_
              refine inBlock_ret ?_
              refine then_ret ?_
              refine then_ret ?_
              refine inBlock_ret ?_
              refine then_ret ?_
              refine then_ret ?_
              obtain rfl := it_brk hm hc97
              have hm := ctl_inr hk94
              obtain rfl := Option.some.inj hm
              exact leave1 S rfl rfl ⟨rfl, H⟩
            · have hm := ite_f hc119 hm
              refine wp_skip ?_
              refine inBlock_norm ?_
              refine thenN ?_
              refine region_plain ?_
              refine lx_q (.int .i64 x66) S trivial (by decide) (q_move rfl) (fun a S => ?_)
              refine lx_q (.int .i64 (W (x66 + (1 : Int)))) S trivial (by decide) (q_add rfl rfl) (fun a S => ?_)
              refine lx_q (.int .i64 (W (x66 + (1 : Int)))) S trivial (by decide) (q_assign rfl) (fun a S => ?_)
              refine lx_nil ?_
              exact ⟨m95, Nat.lt_succ_self _, (W (x66 + (1 : Int))), S.sub ⟨rfl, rfl, trivial⟩, H, it_cont hm hc97⟩
          · have hm := ite_f hc98 hm
            refine wp_exit ?_
            refine then_exit ?_
            refine then_exit ?_
            refine inBlock_exit ?_
            obtain rfl := it_brk hm hc97
            exact ⟨S.sub trivial, H, rfl⟩

/-- spec.l22Blocks -/
def spec_l22Blocks_m (fuel : Nat) (a0 : (List Timpl_Equation)) : Option ((List Int)) :=
  (iter (fun (s : (List Int) × (Int)) => (match s with | (xs89, x91) => (if (decide (x91 < (a0.length : Int))) = true then (idx xs89 (W (x91 - (1 : Int)))).bind fun x158 => join (κ := Int → Option (((List Int) × (Int)) ⊕ (((List Int)) ⊕ ((List Int))))) (fun (x163 : Int) => (app xs89 [x163]).bind fun x169 => some (.inl (x169, (W (x91 + (1 : Int)))))) (fun K164 => (idx a0 x91).bind fun x176 => (idx a0 (W (x91 - (1 : Int)))).bind fun x191 => (if (x176.1 != x191.1) = true then (K164 (W (x158 + (1 : Int)))) else (K164 x158))) else some (.inr (.inl (xs89)))) : Option (((List Int) × (Int)) ⊕ (((List Int)) ⊕ ((List Int)))))) fuel ([(0 : Int)], (1 : Int))).bind fun res149 => ctl (β := (List Int)) (ρ := (List Int)) (τ := (List Int)) res149 (fun (xs147) => some (xs147)) (fun q => some (q))
set_option maxRecDepth 20000 in
theorem spec_l22Blocks_ok {w0 : World} {fuel : Nat} {p0 : Value} {a0 : (List Timpl_Equation)} {r : (List Int)} (h0 : Rd (rList Rimpl_Equation) w0 p0 a0) (hm : spec_l22Blocks_m fuel a0 = some r) :
    Calls Try.prog 118 #[p0] w0 fun e w => ∃ (v0 : Value), e = .returned (v0) ∧ Heap w0 [oA (rList (rInt .i64)) v0 r] w := by
  unfold spec_l22Blocks_m at hm
  have H := Heap.start w0
  refine enter (args := [p0]) Try.func118 rfl 37 rfl (Nat.le_of_ble_eq_true rfl) (fun a S => ?_)
  refine wp_seq ?_
  refine region_plain ?_
  refine lx_q (.slice none 0 0) S trivial (by decide) (q_assign rfl) (fun a S => ?_)
  refine lx_nil ?_
  refine thenN ?_
  refine wp_seq ?_
  refine region_plain ?_
  refine lx_buildSlice (r := (rInt .i64)) (xs := [(0 : Int)]) (ps := [(0, [(.int .i64 (0 : Int))])]) (cs := [(.int .i64 (0 : Int))]) (parts := [(0, .const (.int .i64 (0)))]) S trivial (by decide) rfl (H.put0 (A := eA) rfl) rfl Try.underlying23 Try.sizeOf2 Try.zeroValue2 (by decide) ⟨rfl, rfl, Nat.le_of_ble_eq_true rfl, trivial⟩ (by intro zs hz; exact fill_dense hz ⟨rfl, trivial⟩ rfl rfl) rfl (by decide) (fun w F hA => by cases (show F = [] from hA); exact ⟨_, _, [(.int .i64 (0 : Int))], _, rfl, rfl, ⟨rfl, rfl⟩, ⟨rfl, rfl⟩⟩) (fun v31 w32 H => ⟨trivial, fun a S => ?_⟩)
  refine lx_q v31 S trivial (by decide) (q_assign rfl) (fun a S => ?_)
  refine lx_nil ?_
  refine thenN ?_
  refine wp_seq ?_
  refine wp_seq ?_
  refine region_plain ?_
  refine lx_q (.int .i64 (1 : Int)) S trivial (by decide) (q_assign rfl) (fun a S => ?_)
  refine lx_nil ?_
  refine thenN ?_
  obtain ⟨res149, hit150, hk153⟩ := bind_some hm
  obtain ⟨f151, hf152, hit150⟩ := iter_name hit150
  refine block_loop (fun a w => ∃ (xs147 : List Int) (v146 : Value), Slots a 37 [(3, v146)] ∧ Heap w0 [oA (rList (rInt .i64)) v146 xs147] w ∧ res149 = .inl (xs147)) ?_ ?_
  · rintro a w ⟨xs147, v146, S, H, rfl⟩
    have hm := ctl_inl hk153
    refine thenN ?_
    refine wp_seq ?_
    refine region_plain ?_
    refine lx_q v146 S trivial (by decide) (q_move rfl) (fun a S => ?_)
    refine lx_q v146 S trivial (by decide) (q_assign rfl) (fun a S => ?_)
    refine lx_nil ?_
    refine thenN ?_
    refine wp_ret ?_
    obtain rfl := Option.some.inj hm
    exact leave1 S rfl rfl ⟨v146, rfl, H⟩
  · skip
    refine loop_ghost (fun n a w => ∃ (xs89 : List Int) (x91 : Int) (v88 : Value), Slots a 37 [(0, p0), (3, v88), (4, (.int .i64 x91))] ∧ Heap w0 [oA (rList (rInt .i64)) v88 xs89] w ∧ iter f151 n (xs89, x91) = some res149) _ ⟨[(0 : Int)], (1 : Int), v31, S.sub ⟨rfl, rfl, rfl, trivial⟩, H, hit150⟩ ?_
    rintro n a w ⟨xs89, x91, v88, S, H, hit150⟩
    obtain ⟨m154, o155, rfl, hm, hc156⟩ := iter_step hit150
    rw [hf152] at hm
    refine wp_seq ?_
    refine wp_seq ?_
    refine region_plain ?_
    refine lx_q (.int .i64 x91) S trivial (by decide) (q_move rfl) (fun a S => ?_)
    refine lx_q p0 S trivial (by decide) (q_move rfl) (fun a S => ?_)
    refine lx_q (.int .i64 (a0.length : Int)) S trivial (by decide) (q_lenSl rfl (h0).isSl rfl Try.underlying36) (fun a S => ?_)
    refine lx_q (.bool (decide (x91 < (a0.length : Int)))) S trivial (by decide) (q_lss rfl rfl) (fun a S => ?_)
    refine lx_nil ?_
    refine thenN ?_
    refine cond_b S rfl (fun hc157 => ?_) (fun hc157 => ?_)
    · have hm := ite_t hc157 hm
      refine wp_skip ?_
      refine thenN ?_
      refine wp_seq ?_
      refine wp_block ?_
      refine wp_seq ?_
      refine region_plain ?_
      refine lx_q v88 S trivial (by decide) (q_move rfl) (fun a S => ?_)
      refine lx_q (.int .i64 x91) S trivial (by decide) (q_move rfl) (fun a S => ?_)
      refine lx_q (.int .i64 (W (x91 - (1 : Int)))) S trivial (by decide) (q_sub rfl rfl) (fun a S => ?_)
      obtain ⟨x158, e159, hm⟩ := bind_some hm
      have hlt := lt_of_idx (idx_some e159).2
      refine lx_q (ePtr v88 ((W (x91 - (1 : Int))).toNat * 1)) S trivial (by decide) (q_indexAddr rfl (H.isSl 0 rfl) rfl (idx_some e159).1 hlt Try.underlying23 Try.sizeOf2) (fun a S => ?_)
      obtain ⟨c160, h161, hat162⟩ := (H.rdAt 0 rfl).elem (idx_some e159).2
      obtain rfl := h161
      refine lx_e (.int .i64 x158) S trivial (by decide) rfl trivial (q_load1 rfl Try.isAgg2 (by rintro _ rfl; exact (hat162 0 _ rfl))) (fun a S => ?_)
      refine lx_q (.int .i64 x158) S trivial (by decide) (q_assign rfl) (fun a S => ?_)
      refine lx_nil ?_
      refine thenN ?_
      obtain ⟨K164, hK165, hm⟩ := join_elim hm
      refine seq_cut (fun a w => ∃ (x163 : Int), Slots a 37 [(0, p0), (3, v88), (4, (.int .i64 x91)), (5, (.int .i64 x163))] ∧ Heap w0 [oA (rList (rInt .i64)) v88 xs89] w ∧ K164 x163 = some o155) ?_ ?_
      · rintro a w ⟨x163, S, H, hm⟩
        subst hK165
        refine region_plain ?_
        refine lx_q v88 S trivial (by decide) (q_move rfl) (fun a S => ?_)
        refine lx_q (.int .i64 x163) S trivial (by decide) (q_move rfl) (fun a S => ?_)
        refine lx_buildSlice (r := (rInt .i64)) (xs := [x163]) (ps := [(0, [(.int .i64 x163)])]) (cs := [(.int .i64 x163)]) (parts := [(0, .tmp 33)]) S trivial (by decide) rfl (H.put0 (A := eA) rfl) rfl Try.underlying23 Try.sizeOf2 Try.zeroValue2 (by decide) ⟨rfl, rfl, Nat.le_of_ble_eq_true rfl, trivial⟩ (by intro zs hz; exact fill_dense hz ⟨rfl, trivial⟩ rfl rfl) rfl (by decide) (fun w F hA => by cases (show F = [] from hA); exact ⟨_, _, [(.int .i64 x163)], _, rfl, rfl, ⟨rfl, rfl⟩, ⟨rfl, rfl⟩⟩) (fun v166 w167 H => ⟨trivial, fun a S => ?_⟩)
        obtain ⟨x169, e170, hm⟩ := bind_some hm
        obtain ⟨hle, hap⟩ := app_some e170
        replace hap := hap.symm
        subst hap
        have H : Heap w0 [oA (rList (rInt .i64)) v166 [x163], oA (rList (rInt .i64)) v88 xs89] w167 := H.front 0 rfl
        have H : Heap w0 [oA (rList (rInt .i64)) v88 xs89, oA (rList (rInt .i64)) v166 [x163]] w167 := H.front 1 rfl
        refine lx_appendOwn (r := (rInt .i64)) S trivial (by decide) rfl H rfl rfl Try.underlying23 Try.ti2 rfl rfl rfl (by decide) (by decide) hle (fun v171 w172 H => ⟨trivial, fun a S => ?_⟩)
        refine lx_q v171 S trivial (by decide) (q_assign rfl) (fun a S => ?_)
        refine lx_nil ?_
        refine inBlock_norm ?_
        refine thenN ?_
        refine region_plain ?_
        refine lx_q (.int .i64 x91) S trivial (by decide) (q_move rfl) (fun a S => ?_)
        refine lx_q (.int .i64 (W (x91 + (1 : Int)))) S trivial (by decide) (q_add rfl rfl) (fun a S => ?_)
        refine lx_q (.int .i64 (W (x91 + (1 : Int)))) S trivial (by decide) (q_assign rfl) (fun a S => ?_)
        refine lx_nil ?_
        exact ⟨m154, Nat.lt_succ_self _, (xs89 ++ [x163]), (W (x91 + (1 : Int))), v171, S.sub ⟨rfl, rfl, rfl, trivial⟩, H, it_cont hm hc156⟩
      · skip
        refine wp_seq ?_
        refine region_drawG (fun w1 => Heap w0 [] w1) (fun i => [].contains i) mixed (by kernel_rfl) (fun w175 he174 => ?_)
        have H := H.later he174
        refine ⟨H.sel [] (by decide), ?_⟩
        refine lx_q p0 S trivial (by decide) (q_move rfl) (fun a S => ?_)
        refine lx_q (.int .i64 x91) S trivial (by decide) (q_move rfl) (fun a S => ?_)
        obtain ⟨x176, e177, hm⟩ := bind_some hm
        obtain ⟨c178, h179, hat180⟩ := (h0).elem (idx_some e177).2
        obtain ⟨c183, c184, rfl, h185, h186⟩ := h179
        obtain rfl := h185
        obtain ⟨c187, c188, rfl, h189, h190⟩ := h186
        obtain rfl := h189
        obtain ⟨v181, rfl, h182⟩ := rd_list h190
        have hlt := lt_of_idx (idx_some e177).2
        refine lx_q (ePtr p0 (x91.toNat * 3)) S trivial (by decide) (q_indexAddr rfl (h0).isSl rfl (idx_some e177).1 hlt Try.underlying36 Try.sizeOf85) (fun a S => ?_)
        refine lx_q (pAdd (ePtr p0 (x91.toNat * 3)) 0) S trivial (by decide) (q_fieldAddr' 0 4 rfl ((hat180 0 _ rfl).isP) Try.underlying85 rfl Try.sizeOf4) (fun a S => ?_)
        refine lx_q (.bool x176.1) S trivial (by decide) (q_load1 rfl Try.isAgg4 (fun w1 hC => (At.of_add (m := 0) (j := 0) ((hat180 0 _ rfl).ext hC.ext)))) (fun a S => ?_)
        refine lx_q p0 S trivial (by decide) (q_move rfl) (fun a S => ?_)
        refine lx_q (.int .i64 x91) S trivial (by decide) (q_move rfl) (fun a S => ?_)
        refine lx_q (.int .i64 (W (x91 - (1 : Int)))) S trivial (by decide) (q_sub rfl rfl) (fun a S => ?_)
        obtain ⟨x191, e192, hm⟩ := bind_some hm
        obtain ⟨c193, h194, hat195⟩ := (h0).elem (idx_some e192).2
        obtain ⟨c198, c199, rfl, h200, h201⟩ := h194
        obtain rfl := h200
        obtain ⟨c202, c203, rfl, h204, h205⟩ := h201
        obtain rfl := h204
        obtain ⟨v196, rfl, h197⟩ := rd_list h205
        have hlt := lt_of_idx (idx_some e192).2
        refine lx_q (ePtr p0 ((W (x91 - (1 : Int))).toNat * 3)) S trivial (by decide) (q_indexAddr rfl (h0).isSl rfl (idx_some e192).1 hlt Try.underlying36 Try.sizeOf85) (fun a S => ?_)
        refine lx_q (pAdd (ePtr p0 ((W (x91 - (1 : Int))).toNat * 3)) 0) S trivial (by decide) (q_fieldAddr' 0 4 rfl ((hat195 0 _ rfl).isP) Try.underlying85 rfl Try.sizeOf4) (fun a S => ?_)
        refine lx_q (.bool x191.1) S trivial (by decide) (q_load1 rfl Try.isAgg4 (fun w1 hC => (At.of_add (m := 0) (j := 0) ((hat195 0 _ rfl).ext hC.ext)))) (fun a S => ?_)
        refine lx_q (.bool (x176.1 != x191.1)) S trivial (by decide) (q_bneq rfl rfl Try.underlying4) (fun a S => ?_)
        refine lx_nil ?_
        refine thenN ?_
        refine cond_b S rfl (fun hc206 => ?_) (fun hc206 => ?_)
        · have hm := ite_t hc206 hm
          refine region_plain ?_
          refine lx_q (.int .i64 x158) S trivial (by decide) (q_move rfl) (fun a S => ?_)
          refine lx_q (.int .i64 (W (x158 + (1 : Int)))) S trivial (by decide) (q_add rfl rfl) (fun a S => ?_)
          refine lx_q (.int .i64 (W (x158 + (1 : Int)))) S trivial (by decide) (q_assign rfl) (fun a S => ?_)
          refine lx_nil ?_
          exact ⟨(W (x158 + (1 : Int))), S.sub ⟨rfl, rfl, rfl, rfl, trivial⟩, H, hm⟩
        · have hm := ite_f hc206 hm
          refine wp_skip ?_
          exact ⟨x158, S.sub ⟨rfl, rfl, rfl, rfl, trivial⟩, H, hm⟩
    · have hm := ite_f hc157 hm
      refine wp_exit ?_
      refine then_exit ?_
      refine then_exit ?_
      refine inBlock_exit ?_
      obtain rfl := it_brk hm hc156
      exact ⟨xs89, v88, S.sub ⟨rfl, trivial⟩, H, rfl⟩

/-- spec.l22Game -/
def spec_l22Game_m (fuel : Nat) (a0 : (List Timpl_Equation)) : Option ((List Timpl_Vertex)) :=
  (spec_l22Blocks_m fuel a0).bind fun x33 => (iter (fun (s : (List Timpl_Vertex) × (Int)) => (match s with | (xs4106, x4108) => (if (decide (x4108 < (a0.length : Int))) = true then join (κ := Int → Int → List Int → Option (((List Timpl_Vertex) × (Int)) ⊕ (((List Timpl_Vertex)) ⊕ ((List Timpl_Vertex))))) (fun (x8187 : Int) (x8188 : Int) (xs8190 : List Int) => join (κ := Int → Option (((List Timpl_Vertex) × (Int)) ⊕ (((List Timpl_Vertex)) ⊕ ((List Timpl_Vertex))))) (fun (x8194 : Int) => join (κ := Int → Option (((List Timpl_Vertex) × (Int)) ⊕ (((List Timpl_Vertex)) ⊕ ((List Timpl_Vertex))))) (fun (x8197 : Int) => (app xs4106 [(x8194, x8197, xs8190)]).bind fun x8203 => some (.inl (x8203, (W (x4108 + (1 : Int)))))) (fun K8198 => (idx a0 (0 : Int)).bind fun x8208 => (if (!x8208.1) = true then (K8198 (W (x8188 + (1 : Int)))) else (K8198 x8188)))) (fun K8195 => (idx a0 x4108).bind fun x8225 => (if x8225.2.1 = true then (K8195 (1 : Int)) else (K8195 x8187)))) (fun K8192 => (idx x33 x4108).bind fun x8244 => (idx a0 x4108).bind fun x8246 => (spec_l00Own_m fuel x8246.2.2).bind fun x8263 => (K8192 (0 : Int) x8244 x8263)) else some (.inr (.inl (xs4106)))) : Option (((List Timpl_Vertex) × (Int)) ⊕ (((List Timpl_Vertex)) ⊕ ((List Timpl_Vertex)))))) fuel (([] : List Timpl_Vertex), (0 : Int))).bind fun res8176 => ctl (β := (List Timpl_Vertex)) (ρ := (List Timpl_Vertex)) (τ := (List Timpl_Vertex)) res8176 (fun (xs8174) => some (xs8174)) (fun q => some (q))
set_option maxRecDepth 20000 in
theorem spec_l22Game_ok {w0 : World} {fuel : Nat} {p0 : Value} {a0 : (List Timpl_Equation)} {r : (List Timpl_Vertex)} (h0 : Rd (rList Rimpl_Equation) w0 p0 a0) (hm : spec_l22Game_m fuel a0 = some r) :
    Calls Try.prog 69 #[p0] w0 fun e w => ∃ (v0 : Value), e = .returned (v0) ∧ Heap w0 [oA (rList Rimpl_Vertex) v0 r] w := by
  unfold spec_l22Game_m at hm
  have H := Heap.start w0
  refine enter (args := [p0]) Try.func69 rfl 47 rfl (Nat.le_of_ble_eq_true rfl) (fun a S => ?_)
  refine wp_seq ?_
  refine region_plain ?_
  refine lx_q (.slice none 0 0) S trivial (by decide) (q_assign rfl) (fun a S => ?_)
  refine lx_nil ?_
  refine thenN ?_
  refine wp_seq ?_
  refine region_plain ?_
  refine lx_q p0 S trivial (by decide) (q_move rfl) (fun a S => ?_)
  obtain ⟨x33, e34, hm⟩ := bind_some hm
  refine lx_call (xs := [.tmp 7]) S trivial (by decide) rfl rfl Try.call118 ((spec_l22Blocks_ok (H.arg h0) e34).mono ?_)
  rintro e w31 ⟨v35, rfl, Hc32⟩
  have he37 := Hc32.ext
  have H := H.call1 Hc32
  refine ⟨_, rfl, trivial, fun a S => ?_⟩
  refine lx_q v35 S trivial (by decide) (q_assign rfl) (fun a S => ?_)
  refine lx_nil ?_
  refine thenN ?_
  refine wp_seq ?_
  refine region_plain ?_
  refine lx_buildSlice0 (r := Rimpl_Vertex) S trivial (by decide) rfl H Try.underlying26 Try.sizeOf71 (fun v38 w39 H => ⟨trivial, fun a S => ?_⟩)
  refine lx_q v38 S trivial (by decide) (q_assign rfl) (fun a S => ?_)
  refine lx_nil ?_
  refine thenN ?_
  refine wp_seq ?_
  refine wp_seq ?_
  refine region_plain ?_
  refine lx_q (.int .i64 (0 : Int)) S trivial (by decide) (q_assign rfl) (fun a S => ?_)
  refine lx_nil ?_
  refine thenN ?_
  obtain ⟨res8176, hit8177, hk8180⟩ := bind_some hm
  obtain ⟨f8178, hf8179, hit8177⟩ := iter_name hit8177
  refine block_loop (fun a w => ∃ (xs8174 : List Timpl_Vertex) (v8173 : Value), Slots a 47 [(4, v8173)] ∧ Heap w0 [oA (rList Rimpl_Vertex) v8173 xs8174] w ∧ res8176 = .inl (xs8174)) ?_ ?_
  · rintro a w ⟨xs8174, v8173, S, H, rfl⟩
    have hm := ctl_inl hk8180
    refine thenN ?_
    refine wp_seq ?_
    refine region_plain ?_
    refine lx_q v8173 S trivial (by decide) (q_move rfl) (fun a S => ?_)
    refine lx_q v8173 S trivial (by decide) (q_assign rfl) (fun a S => ?_)
    refine lx_nil ?_
    refine thenN ?_
    refine wp_ret ?_
    obtain rfl := Option.some.inj hm
    exact leave1 S rfl rfl ⟨v8173, rfl, H⟩
  · skip
    have H : Heap w0 [oA (rList (rInt .i64)) v35 x33, oA (rList Rimpl_Vertex) v38 ([] : List Timpl_Vertex)] w39 := H.front 1 rfl
    refine loop_ghost (fun n a w => ∃ (xs4106 : List Timpl_Vertex) (x4108 : Int) (v4105 : Value), Slots a 47 [(0, p0), (3, v35), (4, v4105), (5, (.int .i64 x4108))] ∧ Heap w0 [oA (rList (rInt .i64)) v35 x33, oA (rList Rimpl_Vertex) v4105 xs4106] w ∧ iter f8178 n (xs4106, x4108) = some res8176) _ ⟨([] : List Timpl_Vertex), (0 : Int), v38, S.sub ⟨rfl, rfl, rfl, rfl, trivial⟩, H, hit8177⟩ ?_
    rintro n a w ⟨xs4106, x4108, v4105, S, H, hit8177⟩
    obtain ⟨m8181, o8182, rfl, hm, hc8183⟩ := iter_step hit8177
    rw [hf8179] at hm
    refine wp_seq ?_
    refine wp_seq ?_
    refine region_plain ?_
    refine lx_q (.int .i64 x4108) S trivial (by decide) (q_move rfl) (fun a S => ?_)
    refine lx_q p0 S trivial (by decide) (q_move rfl) (fun a S => ?_)
    refine lx_q (.int .i64 (a0.length : Int)) S trivial (by decide) (q_lenSl rfl (h0).isSl rfl Try.underlying36) (fun a S => ?_)
    refine lx_q (.bool (decide (x4108 < (a0.length : Int)))) S trivial (by decide) (q_lss rfl rfl) (fun a S => ?_)
    refine lx_nil ?_
    refine thenN ?_
    refine cond_b S rfl (fun hc8184 => ?_) (fun hc8184 => ?_)
    · have hm := ite_t hc8184 hm
      refine wp_skip ?_
      refine thenN ?_
      refine wp_seq ?_
      refine wp_block ?_
      obtain ⟨K8192, hK8193, hm⟩ := join_elim hm
      refine seq_cut (fun a w => ∃ (x8187 : Int) (x8188 : Int) (xs8190 : List Int) (b8185 : Nat) (v8189 : Value), Slots a 47 [(0, p0), (3, v35), (4, v4105), (5, (.int .i64 x4108)), (6, (bp b8185))] ∧ Heap w0 [oA (rList (rInt .i64)) v35 x33, oA (rList Rimpl_Vertex) v4105 xs4106, bA b8185 [(.int .i64 x8187), (.int .i64 x8188), v8189] 71, oA (rList (rInt .i64)) v8189 xs8190] w ∧ K8192 x8187 x8188 xs8190 = some o8182) ?_ ?_
      · rintro a w ⟨x8187, x8188, xs8190, b8185, v8189, S, H, hm⟩
        subst hK8193
        obtain ⟨K8195, hK8196, hm⟩ := join_elim hm
        refine seq_cut (fun a w => ∃ (x8194 : Int), Slots a 47 [(0, p0), (3, v35), (4, v4105), (5, (.int .i64 x4108)), (6, (bp b8185))] ∧ Heap w0 [oA (rList (rInt .i64)) v35 x33, oA (rList Rimpl_Vertex) v4105 xs4106, bA b8185 [(.int .i64 x8194), (.int .i64 x8188), v8189] 71, oA (rList (rInt .i64)) v8189 xs8190] w ∧ K8195 x8194 = some o8182) ?_ ?_
        · rintro a w ⟨x8194, S, H, hm⟩
          subst hK8196
          obtain ⟨K8198, hK8199, hm⟩ := join_elim hm
          refine seq_cut (fun a w => ∃ (x8197 : Int), Slots a 47 [(0, p0), (3, v35), (4, v4105), (5, (.int .i64 x4108)), (6, (bp b8185))] ∧ Heap w0 [oA (rList (rInt .i64)) v35 x33, oA (rList Rimpl_Vertex) v4105 xs4106, bA b8185 [(.int .i64 x8194), (.int .i64 x8197), v8189] 71, oA (rList (rInt .i64)) v8189 xs8190] w ∧ K8198 x8197 = some o8182) ?_ ?_
          · rintro a w ⟨x8197, S, H, hm⟩
            subst hK8199
            refine region_plain ?_
            refine lx_q v4105 S trivial (by decide) (q_move rfl) (fun a S => ?_)
            refine lx_e (.agg #[(.int .i64 x8194), (.int .i64 x8197), v8189]) S trivial (by decide) rfl trivial (q_loadA (cs := [(.int .i64 x8194), (.int .i64 x8197), v8189]) rfl (isP_bp _) Try.isAgg71 Try.sizeOf71 (by rintro _ rfl; exact (fun j u hu => boxAt (i := 2) H rfl hu))) (fun a S => ?_)
            have H : Heap w0 [oA (rList (rInt .i64)) v8189 xs8190, oA (rList (rInt .i64)) v35 x33, oA (rList Rimpl_Vertex) v4105 xs4106, bA b8185 [(.int .i64 x8194), (.int .i64 x8197), v8189] 71] w := H.front 3 rfl
            refine lx_buildSlice (r := Rimpl_Vertex) (xs := [(x8194, x8197, xs8190)]) (ps := [(0, [(.int .i64 x8194), (.int .i64 x8197), v8189])]) (cs := [(.int .i64 x8194), (.int .i64 x8197), v8189]) (parts := [(0, .tmp 43)]) S trivial (by decide) rfl H rfl Try.underlying26 Try.sizeOf71 Try.zeroValue71 (by decide) ⟨rfl, rfl, Nat.le_of_ble_eq_true rfl, trivial⟩ (by intro zs hz; exact fill_dense hz ⟨rfl, trivial⟩ rfl rfl) rfl (by decide) (fun w F hA => ownL_one_mk (ownF ⟨_, _, [(.int .i64 x8194)], [(.int .i64 x8197), v8189], rfl, rfl, ⟨rfl, rfl⟩, ⟨_, _, [(.int .i64 x8197)], [v8189], rfl, rfl, ⟨rfl, rfl⟩, (oA_list.1 hA)⟩⟩)) (fun v8200 w8201 H => ⟨trivial, fun a S => ?_⟩)
            obtain ⟨x8203, e8204, hm⟩ := bind_some hm
            obtain ⟨hle, hap⟩ := app_some e8204
            replace hap := hap.symm
            subst hap
            have H : Heap w0 [oA (rList Rimpl_Vertex) v8200 [(x8194, x8197, xs8190)], oA (rList (rInt .i64)) v35 x33, oA (rList Rimpl_Vertex) v4105 xs4106, bA b8185 [(.int .i64 x8194), (.int .i64 x8197), v8189] 71] w8201 := H.front 0 rfl
            have H : Heap w0 [oA (rList Rimpl_Vertex) v4105 xs4106, oA (rList Rimpl_Vertex) v8200 [(x8194, x8197, xs8190)], oA (rList (rInt .i64)) v35 x33, bA b8185 [(.int .i64 x8194), (.int .i64 x8197), v8189] 71] w8201 := H.front 2 rfl
            refine lx_appendOwn (r := Rimpl_Vertex) S trivial (by decide) rfl H rfl rfl Try.underlying26 Try.ti71 rfl rfl rfl (by decide) (by decide) hle (fun v8205 w8206 H => ⟨trivial, fun a S => ?_⟩)
            refine lx_q v8205 S trivial (by decide) (q_assign rfl) (fun a S => ?_)
            refine lx_nil ?_
            refine inBlock_norm ?_
            refine thenN ?_
            refine region_plain ?_
            refine lx_q (.int .i64 x4108) S trivial (by decide) (q_move rfl) (fun a S => ?_)
            refine lx_q (.int .i64 (W (x4108 + (1 : Int)))) S trivial (by decide) (q_add rfl rfl) (fun a S => ?_)
            refine lx_q (.int .i64 (W (x4108 + (1 : Int)))) S trivial (by decide) (q_assign rfl) (fun a S => ?_)
            refine lx_nil ?_
            have H : Heap w0 [oA (rList (rInt .i64)) v35 x33, oA (rList Rimpl_Vertex) v8205 (xs4106 ++ [(x8194, x8197, xs8190)]), bA b8185 [(.int .i64 x8194), (.int .i64 x8197), v8189] 71] w8206 := H.front 1 rfl
            have H : Heap w0 [oA (rList (rInt .i64)) v35 x33, oA (rList Rimpl_Vertex) v8205 (xs4106 ++ [(x8194, x8197, xs8190)])] w8206 := H.sel [0, 1] (by decide)
            exact ⟨m8181, Nat.lt_succ_self _, (xs4106 ++ [(x8194, x8197, xs8190)]), (W (x4108 + (1 : Int))), v8205, S.sub ⟨rfl, rfl, rfl, rfl, trivial⟩, H, it_cont hm hc8183⟩
          · skip
            refine wp_seq ?_
            refine region_plain ?_
            refine lx_q p0 S trivial (by decide) (q_move rfl) (fun a S => ?_)
            obtain ⟨x8208, e8209, hm⟩ := bind_some hm
            obtain ⟨c8210, h8211, hat8212⟩ := (h0).elem (idx_some e8209).2
            obtain ⟨c8215, c8216, rfl, h8217, h8218⟩ := h8211
            obtain rfl := h8217
            obtain ⟨c8219, c8220, rfl, h8221, h8222⟩ := h8218
            obtain rfl := h8221
            obtain ⟨v8213, rfl, h8214⟩ := rd_list h8222
            have hlt := lt_of_idx (idx_some e8209).2
            refine lx_q (ePtr p0 ((0 : Int).toNat * 3)) S trivial (by decide) (q_indexAddr rfl (h0).isSl rfl (idx_some e8209).1 hlt Try.underlying36 Try.sizeOf85) (fun a S => ?_)
            refine lx_q (pAdd (ePtr p0 ((0 : Int).toNat * 3)) 0) S trivial (by decide) (q_fieldAddr' 0 4 rfl ((hat8212 0 _ rfl).isP) Try.underlying85 rfl Try.sizeOf4) (fun a S => ?_)
            refine lx_e (.bool x8208.1) S trivial (by decide) rfl trivial (q_load1 rfl Try.isAgg4 (by rintro _ rfl; exact (At.of_add (m := 0) (j := 0) ((hat8212 0 _ rfl).ext H.ext)))) (fun a S => ?_)
            refine lx_q (.bool (!x8208.1)) S trivial (by decide) (q_not rfl) (fun a S => ?_)
            refine lx_nil ?_
            refine thenN ?_
            refine cond_b S rfl (fun hc8223 => ?_) (fun hc8223 => ?_)
            · have hm := ite_t hc8223 hm
              refine region_plain ?_
              refine lx_q (pAdd (bp b8185) 1) S trivial (by decide) (q_fieldAddr' 1 2 rfl (isP_bp _) Try.underlying71 rfl Try.sizeOf2) (fun a S => ?_)
              refine lx_e (.int .i64 x8188) S trivial (by decide) rfl trivial (q_load1 rfl Try.isAgg2 (by rintro _ rfl; exact (At.of_add (m := 1) (j := 0) (boxAt (i := 2) H rfl (j := 1) rfl)))) (fun a S => ?_)
              refine lx_q (.int .i64 (W (x8188 + (1 : Int)))) S trivial (by decide) (q_add rfl rfl) (fun a S => ?_)
              refine lx_q (pAdd (bp b8185) 1) S trivial (by decide) (q_fieldAddr' 1 2 rfl (isP_bp _) Try.underlying71 rfl Try.sizeOf2) (fun a S => ?_)
              refine lx_storeBox (o := 1) (i := 2) (us := [(.int .i64 (W (x8188 + (1 : Int))))]) (cs' := [(.int .i64 x8194), (.int .i64 (W (x8188 + (1 : Int)))), v8189]) S trivial rfl H rfl rfl rfl rfl Try.sizeOf2 (Nat.le_of_ble_eq_true rfl) (List.forall_mem_cons.2 ⟨rfl, (fun _ h => nomatch h)⟩) rfl (fun w8224 H => ⟨trivial, fun a S => ?_⟩)
              change Heap w0 [oA (rList (rInt .i64)) v35 x33, oA (rList Rimpl_Vertex) v4105 xs4106, bA b8185 [(.int .i64 x8194), (.int .i64 (W (x8188 + (1 : Int)))), v8189] 71, oA (rList (rInt .i64)) v8189 xs8190] w8224 at H
              refine lx_nil ?_
              exact ⟨(W (x8188 + (1 : Int))), S.sub ⟨rfl, rfl, rfl, rfl, rfl, trivial⟩, H, hm⟩
            · have hm := ite_f hc8223 hm
              refine wp_skip ?_
              exact ⟨x8188, S.sub ⟨rfl, rfl, rfl, rfl, rfl, trivial⟩, H, hm⟩
        · skip
          refine wp_seq ?_
          refine region_plain ?_
          refine lx_q p0 S trivial (by decide) (q_move rfl) (fun a S => ?_)
          refine lx_q (.int .i64 x4108) S trivial (by decide) (q_move rfl) (fun a S => ?_)
          obtain ⟨x8225, e8226, hm⟩ := bind_some hm
          obtain ⟨c8227, h8228, hat8229⟩ := (h0).elem (idx_some e8226).2
          obtain ⟨c8232, c8233, rfl, h8234, h8235⟩ := h8228
          obtain rfl := h8234
          obtain ⟨c8236, c8237, rfl, h8238, h8239⟩ := h8235
          obtain rfl := h8238
          obtain ⟨v8230, rfl, h8231⟩ := rd_list h8239
          have hlt := lt_of_idx (idx_some e8226).2
          refine lx_q (ePtr p0 (x4108.toNat * 3)) S trivial (by decide) (q_indexAddr rfl (h0).isSl rfl (idx_some e8226).1 hlt Try.underlying36 Try.sizeOf85) (fun a S => ?_)
          refine lx_q (pAdd (ePtr p0 (x4108.toNat * 3)) 1) S trivial (by decide) (q_fieldAddr' 1 4 rfl ((hat8229 0 _ rfl).isP) Try.underlying85 rfl Try.sizeOf4) (fun a S => ?_)
          refine lx_e (.bool x8225.2.1) S trivial (by decide) rfl trivial (q_load1 rfl Try.isAgg4 (by rintro _ rfl; exact (At.of_add (m := 1) (j := 0) ((hat8229 1 _ rfl).ext H.ext)))) (fun a S => ?_)
          refine lx_nil ?_
          refine thenN ?_
          refine cond_b S rfl (fun hc8240 => ?_) (fun hc8240 => ?_)
          · have hm := ite_t hc8240 hm
            refine region_plain ?_
            refine lx_q (pAdd (bp b8185) 0) S trivial (by decide) (q_fieldAddr' 0 2 rfl (isP_bp _) Try.underlying71 rfl Try.sizeOf2) (fun a S => ?_)
            refine lx_storeBox (o := 0) (i := 2) (us := [(.int .i64 (1 : Int))]) (cs' := [(.int .i64 (1 : Int)), (.int .i64 x8188), v8189]) S trivial rfl H rfl rfl rfl rfl Try.sizeOf2 (Nat.le_of_ble_eq_true rfl) (List.forall_mem_cons.2 ⟨rfl, (fun _ h => nomatch h)⟩) rfl (fun w8241 H => ⟨trivial, fun a S => ?_⟩)
            change Heap w0 [oA (rList (rInt .i64)) v35 x33, oA (rList Rimpl_Vertex) v4105 xs4106, bA b8185 [(.int .i64 (1 : Int)), (.int .i64 x8188), v8189] 71, oA (rList (rInt .i64)) v8189 xs8190] w8241 at H
            refine lx_nil ?_
            exact ⟨(1 : Int), S.sub ⟨rfl, rfl, rfl, rfl, rfl, trivial⟩, H, hm⟩
          · have hm := ite_f hc8240 hm
            refine wp_skip ?_
            exact ⟨x8187, S.sub ⟨rfl, rfl, rfl, rfl, rfl, trivial⟩, H, hm⟩
      · skip
        refine region_draw2 (m := [_, _, _, _, _, _, _, _, _, _, _, _, _]) (fun w1 => Heap w0 [oA (rList (rInt .i64)) v35 x33] w1) (fun i => [9, 11, 12].contains i) (fun i => [10, 0, 12].contains i) [11, 0, 1, 2, 3, 4, 5, 6, 7, 8, 9, 10, 12] 9 11 mixed (by kernel_rfl) rfl rfl rfl (fun w8243 he8242 => ?_)
        have H := H.later he8242
        refine ⟨⟨H.sel [0] (by decide), ?_⟩, ?_⟩
        · skip
          refine lx_q v35 S trivial (by decide) (q_move rfl) (fun a S => ?_)
          refine lx_q (.int .i64 x4108) S trivial (by decide) (q_move rfl) (fun a S => ?_)
          obtain ⟨x8244, e8245, hm⟩ := bind_some hm
          have hlt := lt_of_idx (idx_some e8245).2
          refine lx_q (ePtr v35 (x4108.toNat * 1)) S trivial (by decide) (q_indexAddr rfl (H.isSl 0 rfl) rfl (idx_some e8245).1 hlt Try.underlying23 Try.sizeOf2) (fun a S => ?_)
          refine lx_q (.int .i64 x8244) S trivial (by decide) (q_load1 rfl Try.isAgg2 (fun w1 hC => ((hC.rdAt 0 rfl).elemAt (j := 0) (idx_some e8245).2 (by intro B w cs h; obtain rfl := h; rfl)))) (fun a S => ?_)
          refine lx_q p0 S trivial (by decide) (q_move rfl) (fun a S => ?_)
          refine lx_q (.int .i64 x4108) S trivial (by decide) (q_move rfl) (fun a S => ?_)
          obtain ⟨x8246, e8247, hm⟩ := bind_some hm
          obtain ⟨c8248, h8249, hat8250⟩ := (h0).elem (idx_some e8247).2
          obtain ⟨c8253, c8254, rfl, h8255, h8256⟩ := h8249
          obtain rfl := h8255
          obtain ⟨c8257, c8258, rfl, h8259, h8260⟩ := h8256
          obtain rfl := h8259
          obtain ⟨v8251, rfl, h8252⟩ := rd_list h8260
          have hlt := lt_of_idx (idx_some e8247).2
          refine lx_q (ePtr p0 (x4108.toNat * 3)) S trivial (by decide) (q_indexAddr rfl (h0).isSl rfl (idx_some e8247).1 hlt Try.underlying36 Try.sizeOf85) (fun a S => ?_)
          refine lx_q (pAdd (ePtr p0 (x4108.toNat * 3)) 2) S trivial (by decide) (q_fieldAddr' 2 23 rfl ((hat8250 0 _ rfl).isP) Try.underlying85 rfl Try.sizeOf23) (fun a S => ?_)
          refine lx_q v8251 S trivial (by decide) (q_load1 rfl Try.isAgg23 (fun w1 hC => (At.of_add (m := 2) (j := 0) ((hat8250 2 _ rfl).ext hC.ext)))) (fun a S => ?_)
          obtain ⟨x8263, e8264, hm⟩ := bind_some hm
          refine lx_call (xs := [.tmp 24]) S trivial (by decide) rfl rfl Try.call119 ((spec_l00Own_ok (H.arg h8252) e8264).mono ?_)
          rintro e w8261 ⟨v8265, rfl, Hc8262⟩
          have he8267 := Hc8262.ext
          have H := H.call1 Hc8262
          refine ⟨_, rfl, H.sel [1] (by decide), fun a S => ?_⟩
          refine lx_q (.agg #[(.int .i64 (0 : Int)), (.int .i64 x8244), v8265]) S trivial (by decide) (q_build (zs := [(.int .i64 (0 : Int)), (.int .i64 (0 : Int)), (.slice none 0 0)]) (szs := [1, 1, 1]) (ps := [(1, [(.int .i64 x8244)]), (2, [v8265])]) (parts := [(1, .tmp 19), (2, .tmp 25)]) rfl Try.underlying71 Try.zeroValue71 (fun w => by simp [Try.sizeOf2, Try.sizeOf23]) ⟨rfl, rfl, Nat.le_of_ble_eq_true rfl, ⟨rfl, (cells_sl (H.isSl 0 rfl)), Nat.le_of_ble_eq_true rfl, trivial⟩⟩ rfl) (fun a S => ?_)
          refine lx_alloc S trivial (by decide) rfl H Try.zeroValue71 rfl (fun b8268 w8269 H => ⟨H.sel [2] (by decide), fun a S => ?_⟩)
          refine lx_storeBox (o := 0) (i := 0) (us := [(.int .i64 (0 : Int)), (.int .i64 x8244), v8265]) (cs' := [(.int .i64 (0 : Int)), (.int .i64 x8244), v8265]) S trivial rfl H rfl rfl rfl rfl Try.sizeOf71 (Nat.le_of_ble_eq_true rfl) (List.forall_mem_cons.2 ⟨rfl, (List.forall_mem_cons.2 ⟨rfl, (List.forall_mem_cons.2 ⟨one_sl (H.isSl 1 rfl), (fun _ h => nomatch h)⟩)⟩)⟩) rfl (fun w8271 H => ⟨H.sel [2] (by decide), fun a S => ?_⟩)
          change Heap w0 [bA b8268 [(.int .i64 (0 : Int)), (.int .i64 x8244), v8265] 71, oA (rList (rInt .i64)) v8265 x8263, oA (rList (rInt .i64)) v35 x33, oA (rList Rimpl_Vertex) v4105 xs4106] w8271 at H
          refine lx_nil ?_
          have H : Heap w0 [oA (rList (rInt .i64)) v8265 x8263, bA b8268 [(.int .i64 (0 : Int)), (.int .i64 x8244), v8265] 71, oA (rList (rInt .i64)) v35 x33, oA (rList Rimpl_Vertex) v4105 xs4106] w8271 := H.front 1 rfl
          have H : Heap w0 [bA b8268 [(.int .i64 (0 : Int)), (.int .i64 x8244), v8265] 71, oA (rList (rInt .i64)) v8265 x8263, oA (rList (rInt .i64)) v35 x33, oA (rList Rimpl_Vertex) v4105 xs4106] w8271 := H.front 1 rfl
          have H : Heap w0 [oA (rList Rimpl_Vertex) v4105 xs4106, bA b8268 [(.int .i64 (0 : Int)), (.int .i64 x8244), v8265] 71, oA (rList (rInt .i64)) v8265 x8263, oA (rList (rInt .i64)) v35 x33] w8271 := H.front 3 rfl
          have H : Heap w0 [oA (rList (rInt .i64)) v35 x33, oA (rList Rimpl_Vertex) v4105 xs4106, bA b8268 [(.int .i64 (0 : Int)), (.int .i64 x8244), v8265] 71, oA (rList (rInt .i64)) v8265 x8263] w8271 := H.front 3 rfl
          exact ⟨(0 : Int), x8244, x8263, b8268, v8265, S.sub ⟨rfl, rfl, rfl, rfl, rfl, trivial⟩, H, hm⟩
        · skip
          refine lx_alloc S trivial (by decide) rfl H Try.zeroValue71 rfl (fun b8268 w8269 H => ⟨H.sel [1] (by decide), fun a S => ?_⟩)
          refine lx_q v35 S trivial (by decide) (q_move rfl) (fun a S => ?_)
          refine lx_q (.int .i64 x4108) S trivial (by decide) (q_move rfl) (fun a S => ?_)
          obtain ⟨x8244, e8245, hm⟩ := bind_some hm
          have hlt := lt_of_idx (idx_some e8245).2
          refine lx_q (ePtr v35 (x4108.toNat * 1)) S trivial (by decide) (q_indexAddr rfl (H.isSl 1 rfl) rfl (idx_some e8245).1 hlt Try.underlying23 Try.sizeOf2) (fun a S => ?_)
          refine lx_q (.int .i64 x8244) S trivial (by decide) (q_load1 rfl Try.isAgg2 (fun w1 hC => ((hC.rdAt 0 rfl).elemAt (j := 0) (idx_some e8245).2 (by intro B w cs h; obtain rfl := h; rfl)))) (fun a S => ?_)
          refine lx_q p0 S trivial (by decide) (q_move rfl) (fun a S => ?_)
          refine lx_q (.int .i64 x4108) S trivial (by decide) (q_move rfl) (fun a S => ?_)
          obtain ⟨x8246, e8247, hm⟩ := bind_some hm
          obtain ⟨c8248, h8249, hat8250⟩ := (h0).elem (idx_some e8247).2
          obtain ⟨c8253, c8254, rfl, h8255, h8256⟩ := h8249
          obtain rfl := h8255
          obtain ⟨c8257, c8258, rfl, h8259, h8260⟩ := h8256
          obtain rfl := h8259
          obtain ⟨v8251, rfl, h8252⟩ := rd_list h8260
          have hlt := lt_of_idx (idx_some e8247).2
          refine lx_q (ePtr p0 (x4108.toNat * 3)) S trivial (by decide) (q_indexAddr rfl (h0).isSl rfl (idx_some e8247).1 hlt Try.underlying36 Try.sizeOf85) (fun a S => ?_)
          refine lx_q (pAdd (ePtr p0 (x4108.toNat * 3)) 2) S trivial (by decide) (q_fieldAddr' 2 23 rfl ((hat8250 0 _ rfl).isP) Try.underlying85 rfl Try.sizeOf23) (fun a S => ?_)
          refine lx_q v8251 S trivial (by decide) (q_load1 rfl Try.isAgg23 (fun w1 hC => (At.of_add (m := 2) (j := 0) ((hat8250 2 _ rfl).ext hC.ext)))) (fun a S => ?_)
          obtain ⟨x8263, e8264, hm⟩ := bind_some hm
          refine lx_call (xs := [.tmp 24]) S trivial (by decide) rfl rfl Try.call119 ((spec_l00Own_ok (H.arg h8252) e8264).mono ?_)
          rintro e w8261 ⟨v8265, rfl, Hc8262⟩
          have he8267 := Hc8262.ext
          have H := H.call1 Hc8262
          refine ⟨_, rfl, H.sel [2] (by decide), fun a S => ?_⟩
          refine lx_q (.agg #[(.int .i64 (0 : Int)), (.int .i64 x8244), v8265]) S trivial (by decide) (q_build (zs := [(.int .i64 (0 : Int)), (.int .i64 (0 : Int)), (.slice none 0 0)]) (szs := [1, 1, 1]) (ps := [(1, [(.int .i64 x8244)]), (2, [v8265])]) (parts := [(1, .tmp 19), (2, .tmp 25)]) rfl Try.underlying71 Try.zeroValue71 (fun w => by simp [Try.sizeOf2, Try.sizeOf23]) ⟨rfl, rfl, Nat.le_of_ble_eq_true rfl, ⟨rfl, (cells_sl (H.isSl 0 rfl)), Nat.le_of_ble_eq_true rfl, trivial⟩⟩ rfl) (fun a S => ?_)
          refine lx_storeBox (o := 0) (i := 1) (us := [(.int .i64 (0 : Int)), (.int .i64 x8244), v8265]) (cs' := [(.int .i64 (0 : Int)), (.int .i64 x8244), v8265]) S trivial rfl H rfl rfl rfl rfl Try.sizeOf71 (Nat.le_of_ble_eq_true rfl) (List.forall_mem_cons.2 ⟨rfl, (List.forall_mem_cons.2 ⟨rfl, (List.forall_mem_cons.2 ⟨one_sl (H.isSl 0 rfl), (fun _ h => nomatch h)⟩)⟩)⟩) rfl (fun w8271 H => ⟨H.sel [2] (by decide), fun a S => ?_⟩)
          change Heap w0 [oA (rList (rInt .i64)) v8265 x8263, bA b8268 [(.int .i64 (0 : Int)), (.int .i64 x8244), v8265] 71, oA (rList (rInt .i64)) v35 x33, oA (rList Rimpl_Vertex) v4105 xs4106] w8271 at H
          refine lx_nil ?_
          have H : Heap w0 [bA b8268 [(.int .i64 (0 : Int)), (.int .i64 x8244), v8265] 71, oA (rList (rInt .i64)) v8265 x8263, oA (rList (rInt .i64)) v35 x33, oA (rList Rimpl_Vertex) v4105 xs4106] w8271 := H.front 1 rfl
          have H : Heap w0 [oA (rList Rimpl_Vertex) v4105 xs4106, bA b8268 [(.int .i64 (0 : Int)), (.int .i64 x8244), v8265] 71, oA (rList (rInt .i64)) v8265 x8263, oA (rList (rInt .i64)) v35 x33] w8271 := H.front 3 rfl
          have H : Heap w0 [oA (rList (rInt .i64)) v35 x33, oA (rList Rimpl_Vertex) v4105 xs4106, bA b8268 [(.int .i64 (0 : Int)), (.int .i64 x8244), v8265] 71, oA (rList (rInt .i64)) v8265 x8263] w8271 := H.front 3 rfl
          exact ⟨(0 : Int), x8244, x8263, b8268, v8265, S.sub ⟨rfl, rfl, rfl, rfl, rfl, trivial⟩, H, hm⟩
    · have hm := ite_f hc8184 hm
      refine wp_exit ?_
      refine then_exit ?_
      refine then_exit ?_
      refine inBlock_exit ?_
      obtain rfl := it_brk hm hc8183
      have H : Heap w0 [oA (rList Rimpl_Vertex) v4105 xs4106] w := H.sel [1] (by decide)
      exact ⟨xs4106, v4105, S.sub ⟨rfl, trivial⟩, H, rfl⟩

/-- spec.GameOf -/
def spec_GameOf_m (fuel : Nat) (a0 : (List Timpl_Equation)) : Option (((List Timpl_Vertex) × Int)) :=
  (spec_l22Is_m fuel a0).bind fun x33 => (if (!x33) = true then some (([], (1 : Int))) else (spec_l22Game_m fuel a0).bind fun x40 => some ((x40, (0 : Int))))
set_option maxRecDepth 20000 in
theorem spec_GameOf_ok {w0 : World} {fuel : Nat} {p0 : Value} {a0 : (List Timpl_Equation)} {r : ((List Timpl_Vertex) × Int)} (h0 : Rd (rList Rimpl_Equation) w0 p0 a0) (hm : spec_GameOf_m fuel a0 = some r) :
    Calls Try.prog 21 #[p0] w0 fun e w => ∃ (v0 : Value), e = .returned (.tuple #[v0, .int .i64 r.2]) ∧ Heap w0 [oA (rList Rimpl_Vertex) v0 r.1] w := by
  unfold spec_GameOf_m at hm
  have H := Heap.start w0
  refine enter (args := [p0]) Try.func21 rfl 9 rfl (Nat.le_of_ble_eq_true rfl) (fun a S => ?_)
  refine wp_seq ?_
  refine region_plain ?_
  refine lx_q (.slice none 0 0) S trivial (by decide) (q_assign rfl) (fun a S => ?_)
  refine lx_q (.int .i64 (0 : Int)) S trivial (by decide) (q_assign rfl) (fun a S => ?_)
  refine lx_nil ?_
  refine thenN ?_
  refine wp_seq ?_
  refine wp_seq ?_
  refine region_plain ?_
  refine lx_q p0 S trivial (by decide) (q_move rfl) (fun a S => ?_)
  obtain ⟨x33, e34, hm⟩ := bind_some hm
  refine lx_call (xs := [.tmp 4]) S trivial (by decide) rfl rfl Try.call68 ((spec_l22Is_ok (H.arg h0) e34).mono ?_)
  rintro e w31 ⟨rfl, Hc32⟩
  have he35 := Hc32.ext
  have H := H.call0 Hc32
  refine ⟨_, rfl, trivial, fun a S => ?_⟩
  refine lx_q (.bool (!x33)) S trivial (by decide) (q_not rfl) (fun a S => ?_)
  refine lx_nil ?_
  refine thenN ?_
  refine cond_b S rfl (fun hc36 => ?_) (fun hc36 => ?_)
  · have hm := ite_t hc36 hm
    refine wp_seq ?_
    refine region_plain ?_
    refine lx_q (.slice none 0 0) S trivial (by decide) (q_assign rfl) (fun a S => ?_)
    refine lx_q (.int .i64 (1 : Int)) S trivial (by decide) (q_assign rfl) (fun a S => ?_)
    refine lx_nil ?_
    refine thenN ?_
    refine wp_ret ?_
    refine then_ret ?_
    obtain rfl := Option.some.inj hm
    have H : Heap w0 [oA (rList Rimpl_Vertex) (.slice none 0 0) ([] : List Timpl_Vertex)] w31 := H.nilList Rimpl_Vertex
    exact leave2 S rfl rfl rfl ⟨(.slice none 0 0), rfl, H⟩
  · have hm := ite_f hc36 hm
    refine wp_skip ?_
    refine thenN ?_
    refine wp_seq ?_
    refine region_plain ?_
    refine lx_q p0 S trivial (by decide) (q_move rfl) (fun a S => ?_)
    obtain ⟨x40, e41, hm⟩ := bind_some hm
    refine lx_call (xs := [.tmp 7]) S trivial (by decide) rfl rfl Try.call69 ((spec_l22Game_ok (H.arg h0) e41).mono ?_)
    rintro e w38 ⟨v42, rfl, Hc39⟩
    have he44 := Hc39.ext
    have H := H.call1 Hc39
    refine ⟨_, rfl, trivial, fun a S => ?_⟩
    refine lx_q v42 S trivial (by decide) (q_assign rfl) (fun a S => ?_)
    refine lx_q (.int .i64 (0 : Int)) S trivial (by decide) (q_assign rfl) (fun a S => ?_)
    refine lx_nil ?_
    refine thenN ?_
    refine wp_ret ?_
    obtain rfl := Option.some.inj hm
    exact leave2 S rfl rfl rfl ⟨v42, rfl, H⟩

/-- impl.equationBlocks -/
def impl_equationBlocks_m (fuel : Nat) (a0 : (List Timpl_Equation)) : Option ((List Int)) :=
  (iter (fun (s : (List Int) × (Int) × (Int)) => (match s with | (xs90, x92, x93) => (if (decide (x93 < (a0.length : Int))) = true then (idx a0 x93).bind fun x164 => join (κ := Int → Option (((List Int) × (Int) × (Int)) ⊕ (((List Int)) ⊕ ((List Int))))) (fun (x183 : Int) => (app xs90 [x183]).bind fun x189 => some (.inl (x189, x183, (W (x93 + (1 : Int)))))) (fun K184 => (if (decide ((0 : Int) < x93)) = true then (idx a0 (W (x93 - (1 : Int)))).bind fun x199 => some (x164.1 != x199.1) else some false).bind fun t196 => (if t196 = true then (K184 (W (x92 + (1 : Int)))) else (K184 x92))) else some (.inr (.inl (xs90)))) : Option (((List Int) × (Int) × (Int)) ⊕ (((List Int)) ⊕ ((List Int)))))) fuel ([], (0 : Int), (0 : Int))).bind fun res154 => ctl (β := (List Int)) (ρ := (List Int)) (τ := (List Int)) res154 (fun (xs152) => some (xs152)) (fun q => some (q))
set_option maxRecDepth 20000 in
theorem impl_equationBlocks_ok {w0 : World} {fuel : Nat} {p0 : Value} {a0 : (List Timpl_Equation)} {r : (List Int)} (h0 : Rd (rList Rimpl_Equation) w0 p0 a0) (hm : impl_equationBlocks_m fuel a0 = some r) :
    Calls Try.prog 122 #[p0] w0 fun e w => ∃ (v0 : Value), e = .returned (v0) ∧ Heap w0 [oA (rList (rInt .i64)) v0 r] w := by
  unfold impl_equationBlocks_m at hm
  have H := Heap.start w0
  refine enter (args := [p0]) Try.func122 rfl 35 rfl (Nat.le_of_ble_eq_true rfl) (fun a S => ?_)
  refine wp_seq ?_
  refine region_plain ?_
  refine lx_q (.slice none 0 0) S trivial (by decide) (q_assign rfl) (fun a S => ?_)
  refine lx_nil ?_
  refine thenN ?_
  refine wp_seq ?_
  refine region_plain ?_
  refine lx_q (.slice none 0 0) S trivial (by decide) (q_assign rfl) (fun a S => ?_)
  refine lx_nil ?_
  refine thenN ?_
  refine wp_seq ?_
  refine region_plain ?_
  refine lx_q (.int .i64 (0 : Int)) S trivial (by decide) (q_assign rfl) (fun a S => ?_)
  refine lx_nil ?_
  refine thenN ?_
  refine wp_seq ?_
  refine wp_seq ?_
  refine region_plain ?_
  refine lx_q p0 S trivial (by decide) (q_move rfl) (fun a S => ?_)
  refine lx_q (.int .i64 (a0.length : Int)) S trivial (by decide) (q_lenSl rfl (h0).isSl rfl Try.underlying36) (fun a S => ?_)
  refine lx_q (.int .i64 (0 : Int)) S trivial (by decide) (q_move rfl) (fun a S => ?_)
  refine lx_nil ?_
  refine thenN ?_
  obtain ⟨res154, hit155, hk158⟩ := bind_some hm
  obtain ⟨f156, hf157, hit155⟩ := iter_name hit155
  refine block_loop (fun a w => ∃ (xs152 : List Int) (v151 : Value), Slots a 35 [(3, v151)] ∧ Heap w0 [oA (rList (rInt .i64)) v151 xs152] w ∧ res154 = .inl (xs152)) ?_ ?_
  · rintro a w ⟨xs152, v151, S, H, rfl⟩
    have hm := ctl_inl hk158
    refine thenN ?_
    refine wp_seq ?_
    refine region_plain ?_
    refine lx_q v151 S trivial (by decide) (q_move rfl) (fun a S => ?_)
    refine lx_q v151 S trivial (by decide) (q_assign rfl) (fun a S => ?_)
    refine lx_nil ?_
    refine thenN ?_
    refine wp_ret ?_
    obtain rfl := Option.some.inj hm
    exact leave1 S rfl rfl ⟨v151, rfl, H⟩
  · skip
    have H : Heap w0 [oA (rList (rInt .i64)) (.slice none 0 0) ([] : List Int)] w0 := H.nilList (rInt .i64)
    refine loop_ghost (fun n a w => ∃ (xs90 : List Int) (x92 : Int) (x93 : Int) (v89 : Value), Slots a 35 [(0, p0), (3, v89), (4, (.int .i64 x92)), (7, p0), (8, (.int .i64 (a0.length : Int))), (9, (.int .i64 x93))] ∧ Heap w0 [oA (rList (rInt .i64)) v89 xs90] w ∧ iter f156 n (xs90, x92, x93) = some res154) _ ⟨[], (0 : Int), (0 : Int), (.slice none 0 0), S.sub ⟨rfl, rfl, rfl, rfl, rfl, rfl, trivial⟩, H, hit155⟩ ?_
    rintro n a w ⟨xs90, x92, x93, v89, S, H, hit155⟩
    obtain ⟨m160, o161, rfl, hm, hc162⟩ := iter_step hit155
    rw [hf157] at hm
    refine wp_seq ?_
    refine region_plain ?_
    refine lx_q (.bool (decide (x93 < (a0.length : Int)))) S trivial (by decide) (q_lss rfl rfl) (fun a S => ?_)
    refine lx_nil ?_
    refine thenN ?_
    refine wp_seq ?_
    refine cond_b S rfl (fun hc163 => ?_) (fun hc163 => ?_)
    · have hm := ite_t hc163 hm
      refine wp_skip ?_
      refine thenN ?_
      refine wp_seq ?_
      refine wp_block ?_
      refine wp_seq ?_
      refine region_plain ?_
      refine lx_q (.int .i64 x93) S trivial (by decide) (q_move rfl) (fun a S => ?_)
      obtain ⟨x164, e165, hm⟩ := bind_some hm
      obtain ⟨c166, h167, hat168⟩ := (h0).elem (idx_some e165).2
      obtain ⟨c171, c172, rfl, h173, h174⟩ := h167
      obtain rfl := h173
      obtain ⟨c175, c176, rfl, h177, h178⟩ := h174
      obtain rfl := h177
      obtain ⟨v169, rfl, h170⟩ := rd_list h178
      have hlt := lt_of_idx (idx_some e165).2
      refine lx_q (ePtr p0 (x93.toNat * 3)) S trivial (by decide) (q_indexAddr rfl (h0).isSl rfl (idx_some e165).1 hlt Try.underlying36 Try.sizeOf85) (fun a S => ?_)
      refine lx_e (.agg #[(.bool x164.1), (.bool x164.2.1), v169]) S trivial (by decide) rfl trivial (q_loadA (cs := [(.bool x164.1), (.bool x164.2.1), v169]) rfl ((hat168 0 _ rfl).isP) Try.isAgg85 Try.sizeOf85 (by rintro _ rfl; exact (fun j u hu => (hat168 j u hu).ext H.ext))) (fun a S => ?_)
      refine lx_alloc S trivial (by decide) rfl H Try.zeroValue85 rfl (fun b179 w180 H => ⟨trivial, fun a S => ?_⟩)
      refine lx_q (.int .i64 x93) S trivial (by decide) (q_assign rfl) (fun a S => ?_)
      refine lx_storeBox (o := 0) (i := 0) (us := [(.bool x164.1), (.bool x164.2.1), v169]) (cs' := [(.bool x164.1), (.bool x164.2.1), v169]) S trivial rfl H rfl rfl rfl rfl Try.sizeOf85 (Nat.le_of_ble_eq_true rfl) (List.forall_mem_cons.2 ⟨rfl, (List.forall_mem_cons.2 ⟨rfl, (List.forall_mem_cons.2 ⟨one_sl (h170).isSl, (fun _ h => nomatch h)⟩)⟩)⟩) rfl (fun w182 H => ⟨trivial, fun a S => ?_⟩)
      change Heap w0 [bA b179 [(.bool x164.1), (.bool x164.2.1), v169] 85, oA (rList (rInt .i64)) v89 xs90] w182 at H
      refine lx_nil ?_
      refine thenN ?_
      obtain ⟨K184, hK185, hm⟩ := join_elim hm
      refine seq_cut (fun a w => ∃ (x183 : Int), Slots a 35 [(0, p0), (3, v89), (4, (.int .i64 x183)), (7, p0), (8, (.int .i64 (a0.length : Int))), (9, (.int .i64 x93))] ∧ Heap w0 [oA (rList (rInt .i64)) v89 xs90] w ∧ K184 x183 = some o161) ?_ ?_
      · rintro a w ⟨x183, S, H, hm⟩
        subst hK185
        refine region_plain ?_
        refine lx_q v89 S trivial (by decide) (q_move rfl) (fun a S => ?_)
        refine lx_q (.int .i64 x183) S trivial (by decide) (q_move rfl) (fun a S => ?_)
        refine lx_buildSlice (r := (rInt .i64)) (xs := [x183]) (ps := [(0, [(.int .i64 x183)])]) (cs := [(.int .i64 x183)]) (parts := [(0, .tmp 30)]) S trivial (by decide) rfl (H.put0 (A := eA) rfl) rfl Try.underlying23 Try.sizeOf2 Try.zeroValue2 (by decide) ⟨rfl, rfl, Nat.le_of_ble_eq_true rfl, trivial⟩ (by intro zs hz; exact fill_dense hz ⟨rfl, trivial⟩ rfl rfl) rfl (by decide) (fun w F hA => by cases (show F = [] from hA); exact ⟨_, _, [(.int .i64 x183)], _, rfl, rfl, ⟨rfl, rfl⟩, ⟨rfl, rfl⟩⟩) (fun v186 w187 H => ⟨trivial, fun a S => ?_⟩)
        obtain ⟨x189, e190, hm⟩ := bind_some hm
        obtain ⟨hle, hap⟩ := app_some e190
        replace hap := hap.symm
        subst hap
        have H : Heap w0 [oA (rList (rInt .i64)) v186 [x183], oA (rList (rInt .i64)) v89 xs90] w187 := H.front 0 rfl
        have H : Heap w0 [oA (rList (rInt .i64)) v89 xs90, oA (rList (rInt .i64)) v186 [x183]] w187 := H.front 1 rfl
        refine lx_appendOwn (r := (rInt .i64)) S trivial (by decide) rfl H rfl rfl Try.underlying23 Try.ti2 rfl rfl rfl (by decide) (by decide) hle (fun v191 w192 H => ⟨trivial, fun a S => ?_⟩)
        refine lx_q v191 S trivial (by decide) (q_assign rfl) (fun a S => ?_)
        refine lx_nil ?_
        refine inBlock_norm ?_
        refine thenN ?_
        refine region_plain ?_
        refine lx_q (.int .i64 (W (x93 + (1 : Int)))) S trivial (by decide) (q_add rfl rfl) (fun a S => ?_)
        refine lx_q (.int .i64 (W (x93 + (1 : Int)))) S trivial (by decide) (q_move rfl) (fun a S => ?_)
        refine lx_nil ?_
        exact ⟨m160, Nat.lt_succ_self _, (xs90 ++ [x183]), x183, (W (x93 + (1 : Int))), v191, S.sub ⟨rfl, rfl, rfl, rfl, rfl, rfl, trivial⟩, H, it_cont hm hc162⟩
      · skip
        refine wp_seq ?_
        refine region_drawG (fun w1 => Heap w0 [bA b179 [(.bool x164.1), (.bool x164.2.1), v169] 85] w1) (fun i => [].contains i) mixed (by kernel_rfl) (fun w195 he194 => ?_)
        have H := H.later he194
        refine ⟨H.sel [0] (by decide), ?_⟩
        refine lx_q (.int .i64 x93) S trivial (by decide) (q_move rfl) (fun a S => ?_)
        refine lx_q (.bool (decide ((0 : Int) < x93))) S trivial (by decide) (q_gtr rfl rfl) (fun a S => ?_)
        refine lx_q (.bool (decide ((0 : Int) < x93))) S trivial (by decide) (q_move rfl) (fun a S => ?_)
        obtain ⟨t196, e197, hm⟩ := bind_some hm
        refine lx_cut 10 (fun a w => Slots a 35 [(0, p0), (3, v89), (4, (.int .i64 x92)), (7, p0), (8, (.int .i64 (a0.length : Int))), (9, (.int .i64 x93)), (26, (.bool t196))] ∧ Heap w0 [oA (rList (rInt .i64)) v89 xs90] w) ?_ ?_
        · by_cases hc198 : (decide ((0 : Int) < x93)) = true
          · have hm := ite_t hc198 e197
            refine lx_q (pAdd (bp b179) 0) S (want_b rfl rfl hc198) (by decide) (q_fieldAddr' 0 4 rfl (isP_bp _) Try.underlying85 rfl Try.sizeOf4) (fun a S => ?_)
            refine lx_q (.bool x164.1) S (want_b rfl rfl hc198) (by decide) (q_load1 rfl Try.isAgg4 (fun w1 hC => (At.of_add (m := 0) (j := 0) (boxAt (i := 0) hC rfl (j := 0) rfl)))) (fun a S => ?_)
            refine lx_q p0 S (want_b rfl rfl hc198) (by decide) (q_move rfl) (fun a S => ?_)
            refine lx_q (.int .i64 x93) S (want_b rfl rfl hc198) (by decide) (q_move rfl) (fun a S => ?_)
            refine lx_q (.int .i64 (W (x93 - (1 : Int)))) S (want_b rfl rfl hc198) (by decide) (q_sub rfl rfl) (fun a S => ?_)
            obtain ⟨x199, e200, hm⟩ := bind_some hm
            obtain ⟨c201, h202, hat203⟩ := (h0).elem (idx_some e200).2
            obtain ⟨c206, c207, rfl, h208, h209⟩ := h202
            obtain rfl := h208
            obtain ⟨c210, c211, rfl, h212, h213⟩ := h209
            obtain rfl := h212
            obtain ⟨v204, rfl, h205⟩ := rd_list h213
            have hlt := lt_of_idx (idx_some e200).2
            refine lx_q (ePtr p0 ((W (x93 - (1 : Int))).toNat * 3)) S (want_b rfl rfl hc198) (by decide) (q_indexAddr rfl (h0).isSl rfl (idx_some e200).1 hlt Try.underlying36 Try.sizeOf85) (fun a S => ?_)
            refine lx_q (pAdd (ePtr p0 ((W (x93 - (1 : Int))).toNat * 3)) 0) S (want_b rfl rfl hc198) (by decide) (q_fieldAddr' 0 4 rfl ((hat203 0 _ rfl).isP) Try.underlying85 rfl Try.sizeOf4) (fun a S => ?_)
            refine lx_q (.bool x199.1) S (want_b rfl rfl hc198) (by decide) (q_load1 rfl Try.isAgg4 (fun w1 hC => (At.of_add (m := 0) (j := 0) ((hat203 0 _ rfl).ext hC.ext)))) (fun a S => ?_)
            refine lx_q (.bool (x164.1 != x199.1)) S (want_b rfl rfl hc198) (by decide) (q_bneq rfl rfl Try.underlying4) (fun a S => ?_)
            refine lx_q (.bool (x164.1 != x199.1)) S trivial (by decide) (q_pickT' rfl hc198 rfl) (fun a S => ?_)
            refine lx_nil ?_
            obtain rfl := Option.some.inj hm
            have H := H.sel [1] (by decide)
            exact ⟨S.sub ⟨rfl, rfl, rfl, rfl, rfl, rfl, rfl, trivial⟩, H⟩
          · have hm := ite_f (eq_false_of_ne_true hc198) e197
            have hc198 : (decide ((0 : Int) < x93)) = false := eq_false_of_ne_true hc198
            refine lx_skip S rfl rfl (isB_ne hc198) (by decide) (fun a S => ?_)
            refine lx_skip S rfl rfl (isB_ne hc198) (by decide) (fun a S => ?_)
            refine lx_skip S rfl rfl (isB_ne hc198) (by decide) (fun a S => ?_)
            refine lx_skip S rfl rfl (isB_ne hc198) (by decide) (fun a S => ?_)
            refine lx_skip S rfl rfl (isB_ne hc198) (by decide) (fun a S => ?_)
            refine lx_skip S rfl rfl (isB_ne hc198) (by decide) (fun a S => ?_)
            refine lx_skip S rfl rfl (isB_ne hc198) (by decide) (fun a S => ?_)
            refine lx_skip S rfl rfl (isB_ne hc198) (by decide) (fun a S => ?_)
            refine lx_skip S rfl rfl (isB_ne hc198) (by decide) (fun a S => ?_)
            refine lx_q (.bool false) S trivial (by decide) (q_pickF' rfl hc198 rfl) (fun a S => ?_)
            refine lx_nil ?_
            obtain rfl := Option.some.inj hm
            have H := H.sel [1] (by decide)
            exact ⟨S.sub ⟨rfl, rfl, rfl, rfl, rfl, rfl, rfl, trivial⟩, H⟩
        · rintro a w ⟨S, H⟩
          refine lx_nil ?_
          refine thenN ?_
          refine cond_b S rfl (fun hc214 => ?_) (fun hc214 => ?_)
          · have hm := ite_t hc214 hm
            refine region_plain ?_
            refine lx_q (.int .i64 x92) S trivial (by decide) (q_move rfl) (fun a S => ?_)
            refine lx_q (.int .i64 (W (x92 + (1 : Int)))) S trivial (by decide) (q_add rfl rfl) (fun a S => ?_)
            refine lx_q (.int .i64 (W (x92 + (1 : Int)))) S trivial (by decide) (q_assign rfl) (fun a S => ?_)
            refine lx_nil ?_
            exact ⟨(W (x92 + (1 : Int))), S.sub ⟨rfl, rfl, rfl, rfl, rfl, rfl, trivial⟩, H, hm⟩
          · have hm := ite_f hc214 hm
            refine wp_skip ?_
            exact ⟨x92, S.sub ⟨rfl, rfl, rfl, rfl, rfl, rfl, trivial⟩, H, hm⟩
    · have hm := ite_f hc163 hm
      refine wp_exit ?_
      refine then_exit ?_
      refine then_exit ?_
      refine inBlock_exit ?_
      obtain rfl := it_brk hm hc162
      exact ⟨xs90, v89, S.sub ⟨rfl, trivial⟩, H, rfl⟩

/-- impl.last[int64] -/
def impl_last_int64_m (_ : Nat) (a0 : (List Int)) : Option (Int) :=
  (idx a0 (W ((a0.length : Int) - (1 : Int)))).bind fun x31 => some (x31)
set_option maxRecDepth 20000 in
theorem impl_last_int64_ok {w0 : World} {fuel : Nat} {p0 : Value} {a0 : (List Int)} {r : Int} (h0 : Rd (rList (rInt .i64)) w0 p0 a0) (hm : impl_last_int64_m fuel a0 = some r) :
    Calls Try.prog 139 #[p0] w0 fun e w => e = .returned (.int .i64 r) ∧ Heap w0 [] w := by
  unfold impl_last_int64_m at hm
  have H := Heap.start w0
  refine enter (args := [p0]) Try.func139 rfl 9 rfl (Nat.le_of_ble_eq_true rfl) (fun a S => ?_)
  refine wp_seq ?_
  refine region_plain ?_
  refine lx_q (.int .i64 (0 : Int)) S trivial (by decide) (q_assign rfl) (fun a S => ?_)
  refine lx_nil ?_
  refine thenN ?_
  refine wp_seq ?_
  refine region_plain ?_
  refine lx_q p0 S trivial (by decide) (q_move rfl) (fun a S => ?_)
  refine lx_q p0 S trivial (by decide) (q_move rfl) (fun a S => ?_)
  refine lx_q (.int .i64 (a0.length : Int)) S trivial (by decide) (q_lenSl rfl (h0).isSl rfl Try.underlying23) (fun a S => ?_)
  refine lx_q (.int .i64 (W ((a0.length : Int) - (1 : Int)))) S trivial (by decide) (q_sub rfl rfl) (fun a S => ?_)
  obtain ⟨x31, e32, hm⟩ := bind_some hm
  obtain ⟨c33, h34, hat35⟩ := (h0).elem (idx_some e32).2
  obtain rfl := h34
  have hlt := lt_of_idx (idx_some e32).2
  refine lx_q (ePtr p0 ((W ((a0.length : Int) - (1 : Int))).toNat * 1)) S trivial (by decide) (q_indexAddr rfl (h0).isSl rfl (idx_some e32).1 hlt Try.underlying23 Try.sizeOf2) (fun a S => ?_)
  refine lx_e (.int .i64 x31) S trivial (by decide) rfl trivial (q_load1 rfl Try.isAgg2 (by rintro _ rfl; exact ((hat35 0 _ rfl).ext H.ext))) (fun a S => ?_)
  refine lx_q (.int .i64 x31) S trivial (by decide) (q_assign rfl) (fun a S => ?_)
  refine lx_nil ?_
  refine thenN ?_
  refine wp_ret ?_
  obtain rfl := Option.some.inj hm
  exact leave1 S rfl rfl ⟨rfl, H⟩

/-- impl.blocksFit -/
def impl_blocksFit_m (fuel : Nat) (a0 : (List Timpl_Equation)) : Option (Bool) :=
  (impl_equationBlocks_m fuel a0).bind fun x33 => (impl_last_int64_m fuel x33).bind fun x40 => some ((decide (x40 < (9 : Int))))
set_option maxRecDepth 20000 in
theorem impl_blocksFit_ok {w0 : World} {fuel : Nat} {p0 : Value} {a0 : (List Timpl_Equation)} {r : Bool} (h0 : Rd (rList Rimpl_Equation) w0 p0 a0) (hm : impl_blocksFit_m fuel a0 = some r) :
    Calls Try.prog 109 #[p0] w0 fun e w => e = .returned (.bool r) ∧ Heap w0 [] w := by
  unfold impl_blocksFit_m at hm
  have H := Heap.start w0
  refine enter (args := [p0]) Try.func109 rfl 7 rfl (Nat.le_of_ble_eq_true rfl) (fun a S => ?_)
  refine wp_seq ?_
  refine region_plain ?_
  refine lx_q (.bool false) S trivial (by decide) (q_assign rfl) (fun a S => ?_)
  refine lx_nil ?_
  refine thenN ?_
  refine wp_seq ?_
  refine region_plain ?_
  refine lx_q p0 S trivial (by decide) (q_move rfl) (fun a S => ?_)
  obtain ⟨x33, e34, hm⟩ := bind_some hm
  refine lx_call (xs := [.tmp 3]) S trivial (by decide) rfl rfl Try.call122 ((impl_equationBlocks_ok (H.arg h0) e34).mono ?_)
  rintro e w31 ⟨v35, rfl, Hc32⟩
  have he37 := Hc32.ext
  have H := H.call1 Hc32
  refine ⟨_, rfl, trivial, fun a S => ?_⟩
  obtain ⟨x40, e41, hm⟩ := bind_some hm
  refine lx_call (xs := [.tmp 4]) S trivial (by decide) rfl rfl Try.call139 ((impl_last_int64_ok (H.rdAt 0 rfl) e41).mono ?_)
  rintro e w38 ⟨rfl, Hc39⟩
  have he42 := Hc39.ext
  have H := H.call0 Hc39
  refine ⟨_, rfl, trivial, fun a S => ?_⟩
  refine lx_q (.bool (decide (x40 < (9 : Int)))) S trivial (by decide) (q_lss rfl rfl) (fun a S => ?_)
  refine lx_q (.bool (decide (x40 < (9 : Int)))) S trivial (by decide) (q_assign rfl) (fun a S => ?_)
  refine lx_nil ?_
  refine thenN ?_
  refine wp_ret ?_
  obtain rfl := Option.some.inj hm
  have H : Heap w0 [] w38 := H.sel [] (by decide)
  exact leave1 S rfl rfl ⟨rfl, H⟩

/-- impl.ValidEquations$1 -/
def impl_ValidEquations_1_m (fuel : Nat) (a0 : Timpl_Equation) (a1 : (List Timpl_Equation)) : Option (Bool) :=
  (impl_increasing_m fuel a0.2.2 (a1.length : Int)).bind fun x53 => some ((!x53))
set_option maxRecDepth 20000 in
theorem impl_ValidEquations_1_ok {w0 : World} {fuel : Nat} {p0 p1 : Value} {a0 : Timpl_Equation} {a1 : (List Timpl_Equation)} {r : Bool} (h0 : Rd Rimpl_Equation w0 p0 a0) (h1 : Rd (rPtr (rList Rimpl_Equation)) w0 p1 a1) (hm : impl_ValidEquations_1_m fuel a0 a1 = some r) :
    Calls Try.prog 121 #[p0, p1] w0 fun e w => e = .returned (.bool r) ∧ Heap w0 [] w := by
  unfold impl_ValidEquations_1_m at hm
  have H := Heap.start w0
  obtain ⟨c31, rfl, h32⟩ := h0
  obtain ⟨c35, c36, rfl, h37, h38⟩ := h32
  obtain rfl := h37
  obtain ⟨c39, c40, rfl, h41, h42⟩ := h38
  obtain rfl := h41
  obtain ⟨v33, rfl, h34⟩ := rd_list h42
  obtain ⟨c43, h44, hat45⟩ := h1.ptr
  obtain ⟨v46, rfl, h47⟩ := rd_list h44
  refine enter (args := [(.agg #[(.bool a0.1), (.bool a0.2.1), v33]), p1]) Try.func121 rfl 10 rfl (Nat.le_of_ble_eq_true rfl) (fun a S => ?_)
  refine wp_seq ?_
  refine region_plain ?_
  refine lx_box S trivial (by decide) rfl H rfl rfl (fun b48 w49 H => ⟨trivial, fun a S => ?_⟩)
  refine lx_q (.bool false) S trivial (by decide) (q_assign rfl) (fun a S => ?_)
  refine lx_nil ?_
  refine thenN ?_
  refine wp_seq ?_
  refine region_plain ?_
  refine lx_q (pAdd (bp b48) 2) S trivial (by decide) (q_fieldAddr' 2 23 rfl (isP_bp _) Try.underlying85 rfl Try.sizeOf23) (fun a S => ?_)
  refine lx_e v33 S trivial (by decide) rfl trivial (q_load1 rfl Try.isAgg23 (by rintro _ rfl; exact (At.of_add (m := 2) (j := 0) (boxAt (i := 0) H rfl (j := 2) rfl)))) (fun a S => ?_)
  refine lx_e v46 S trivial (by decide) rfl trivial (q_load1 rfl Try.isAgg36 (by rintro _ rfl; exact ((hat45 0 _ rfl).ext H.ext))) (fun a S => ?_)
  refine lx_q (.int .i64 (a1.length : Int)) S trivial (by decide) (q_lenSl rfl (h47).isSl rfl Try.underlying36) (fun a S => ?_)
  obtain ⟨x53, e54, hm⟩ := bind_some hm
  refine lx_call (xs := [.tmp 5, .tmp 7]) S trivial (by decide) rfl rfl Try.call61 ((impl_increasing_ok (H.arg h34)  e54).mono ?_)
  rintro e w51 ⟨rfl, Hc52⟩
  have he55 := Hc52.ext
  have H := H.call0 Hc52
  refine ⟨_, rfl, trivial, fun a S => ?_⟩
  refine lx_q (.bool (!x53)) S trivial (by decide) (q_not rfl) (fun a S => ?_)
  refine lx_q (.bool (!x53)) S trivial (by decide) (q_assign rfl) (fun a S => ?_)
  refine lx_nil ?_
  refine thenN ?_
  refine wp_ret ?_
  obtain rfl := Option.some.inj hm
  have H : Heap w0 [] w51 := H.sel [] (by decide)
  exact leave1 S rfl rfl ⟨rfl, H⟩

/-- slices.IndexFunc[[]impl.Equation,impl.Equation] -/
def slices_IndexFunc__impl_Equation_impl_Equation_m (fuel : Nat) (a0 : (List Timpl_Equation)) (a1 : (Timpl_Equation → Option Bool)) : Option (Int) :=
  (iter (fun (s : (Int)) => (match s with | (x56) => (if (decide (x56 < (a0.length : Int))) = true then (idx a0 x56).bind fun x91 => (a1 (x91.1, x91.2.1, x91.2.2)).bind fun x110 => (if x110 = true then some (.inr (.inr x56)) else some (.inl ((W (x56 + (1 : Int)))))) else some (.inr (.inl ()))) : Option (((Int)) ⊕ ((Unit) ⊕ (Int))))) fuel ((0 : Int))).bind fun res82 => ctl (β := Unit) (ρ := Int) (τ := Int) res82 (fun _ => some ((-1 : Int))) (fun q => some (q))
set_option maxRecDepth 20000 in
theorem slices_IndexFunc__impl_Equation_impl_Equation_ok {w0 : World} {fuel : Nat} {p0 : Value} {a0 : (List Timpl_Equation)} {a1 : (Timpl_Equation → Option Bool)} {f1 : Nat} {fs1 cp1 : List Value} {r : Int} (h0 : Rd (rList Rimpl_Equation) w0 p0 a0) (hcf1 : ∀ args w, (callFunc f1 args).run Try.prog w = .ok (.enter f1 args) w) (hf1 : ∀ {w : World} {x0_ : Timpl_Equation} {v0_ : Value} {y : Bool}, Ext w0 w → Rd Rimpl_Equation w v0_ x0_ → a1 x0_ = some y → Calls Try.prog f1 (fs1 ++ ([v0_] : List Value) ++ cp1).toArray w fun e w' => e = .returned (.bool y) ∧ Heap w [] w') (hm : slices_IndexFunc__impl_Equation_impl_Equation_m fuel a0 a1 = some r) :
    Calls Try.prog 141 #[p0, .func (.func f1) fs1.toArray cp1.toArray] w0 fun e w => e = .returned (.int .i64 r) ∧ Heap w0 [] w := by
  unfold slices_IndexFunc__impl_Equation_impl_Equation_m at hm
  have H := Heap.start w0
  refine enter (args := [p0, .func (.func f1) fs1.toArray cp1.toArray]) Try.func141 rfl 19 rfl (Nat.le_of_ble_eq_true rfl) (fun a S => ?_)
  refine wp_seq ?_
  refine region_plain ?_
  refine lx_q (.int .i64 (0 : Int)) S trivial (by decide) (q_assign rfl) (fun a S => ?_)
  refine lx_nil ?_
  refine thenN ?_
  refine wp_seq ?_
  refine wp_seq ?_
  refine region_plain ?_
  refine lx_q p0 S trivial (by decide) (q_move rfl) (fun a S => ?_)
  refine lx_q (.int .i64 (a0.length : Int)) S trivial (by decide) (q_lenSl rfl (h0).isSl rfl Try.underlying36) (fun a S => ?_)
  refine lx_q (.int .i64 (0 : Int)) S trivial (by decide) (q_move rfl) (fun a S => ?_)
  refine lx_nil ?_
  refine thenN ?_
  obtain ⟨res82, hit83, hk86⟩ := bind_some hm
  obtain ⟨f84, hf85, hit83⟩ := iter_name hit83
  refine block_loop (fun a w => Slots a 19 [] ∧ Heap w0 [] w ∧ res82 = .inl ()) ?_ ?_
  · rintro a w ⟨S, H, rfl⟩
    have hm := ctl_inl hk86
    refine thenN ?_
    refine wp_seq ?_
    refine region_plain ?_
    refine lx_q (.int .i64 (-1 : Int)) S trivial (by decide) (q_assign rfl) (fun a S => ?_)
    refine lx_nil ?_
    refine thenN ?_
    refine wp_ret ?_
    obtain rfl := Option.some.inj hm
    exact leave1 S rfl rfl ⟨rfl, H⟩
  · skip
    refine loop_ghost (fun n a w => ∃ (x56 : Int), Slots a 19 [(0, p0), (1, (.func (.func f1) fs1.toArray cp1.toArray)), (7, (.int .i64 (a0.length : Int))), (8, (.int .i64 x56))] ∧ Heap w0 [] w ∧ iter f84 n (x56) = some res82) _ ⟨(0 : Int), S.sub ⟨rfl, rfl, rfl, rfl, trivial⟩, H, hit83⟩ ?_
    rintro n a w ⟨x56, S, H, hit83⟩
    obtain ⟨m87, o88, rfl, hm, hc89⟩ := iter_step hit83
    rw [hf85] at hm
    refine wp_seq ?_
    refine region_plain ?_
    refine lx_q (.bool (decide (x56 < (a0.length : Int)))) S trivial (by decide) (q_lss rfl rfl) (fun a S => ?_)
    refine lx_nil ?_
    refine thenN ?_
    refine wp_seq ?_
    refine cond_b S rfl (fun hc90 => ?_) (fun hc90 => ?_)
    · have hm := ite_t hc90 hm
      refine wp_skip ?_
      refine thenN ?_
      refine wp_seq ?_
      refine wp_block ?_
      refine wp_seq ?_
      refine region_plain ?_
      refine lx_q (.int .i64 x56) S trivial (by decide) (q_move rfl) (fun a S => ?_)
      refine lx_q (.int .i64 x56) S trivial (by decide) (q_assign rfl) (fun a S => ?_)
      refine lx_nil ?_
      refine thenN ?_
      refine wp_seq ?_
      refine region_plain ?_
      refine lx_q (.func (.func f1) fs1.toArray cp1.toArray) S trivial (by decide) (q_move rfl) (fun a S => ?_)
      refine lx_q p0 S trivial (by decide) (q_move rfl) (fun a S => ?_)
      refine lx_q (.int .i64 x56) S trivial (by decide) (q_move rfl) (fun a S => ?_)
      obtain ⟨x91, e92, hm⟩ := bind_some hm
      obtain ⟨c93, h94, hat95⟩ := (h0).elem (idx_some e92).2
      obtain ⟨c98, c99, rfl, h100, h101⟩ := h94
      obtain rfl := h100
      obtain ⟨c102, c103, rfl, h104, h105⟩ := h101
      obtain rfl := h104
      obtain ⟨v96, rfl, h97⟩ := rd_list h105
      have hlt := lt_of_idx (idx_some e92).2
      refine lx_q (ePtr p0 (x56.toNat * 3)) S trivial (by decide) (q_indexAddr rfl (h0).isSl rfl (idx_some e92).1 hlt Try.underlying36 Try.sizeOf85) (fun a S => ?_)
      refine lx_e (.agg #[(.bool x91.1), (.bool x91.2.1), v96]) S trivial (by decide) rfl trivial (q_loadA (cs := [(.bool x91.1), (.bool x91.2.1), v96]) rfl ((hat95 0 _ rfl).isP) Try.isAgg85 Try.sizeOf85 (by rintro _ rfl; exact (fun j u hu => (hat95 j u hu).ext H.ext))) (fun a S => ?_)
      obtain ⟨x110, e111, hm⟩ := bind_some hm
      refine lx_callV (f := f1) (first := fs1) (cap := cp1) (xs := [.tmp 15]) S trivial (by decide) rfl rfl rfl hcf1 ((hf1 H.ext ⟨[(.bool x91.1), (.bool x91.2.1), v96], rfl, ⟨[(.bool x91.1)], [(.bool x91.2.1), v96], rfl, rfl, ⟨[(.bool x91.2.1)], [v96], rfl, rfl, ((H.arg h97)).list_rd⟩⟩⟩ e111).mono ?_)
      rintro e w108 ⟨rfl, Hc109⟩
      have he112 := Hc109.ext
      have H := H.call0 Hc109
      refine ⟨_, rfl, trivial, fun a S => ?_⟩
      refine lx_nil ?_
      refine thenN ?_
      refine cond_b S rfl (fun hc113 => ?_) (fun hc113 => ?_)
      · have hm := ite_t hc113 hm
        refine wp_seq ?_
        refine region_plain ?_
        refine lx_q (.int .i64 x56) S trivial (by decide) (q_move rfl) (fun a S => ?_)
        refine lx_q (.int .i64 x56) S trivial (by decide) (q_assign rfl) (fun a S => ?_)
        refine lx_nil ?_
        refine thenN ?_
        refine wp_ret ?_
        refine inBlock_ret ?_
        refine then_ret ?_
        refine then_ret ?_
        refine inBlock_ret ?_
        refine then_ret ?_
        refine then_ret ?_
        obtain rfl := it_brk hm hc89
        have hm := ctl_inr hk86
        obtain rfl := Option.some.inj hm
        exact leave1 S rfl rfl ⟨rfl, H⟩
      · have hm := ite_f hc113 hm
        refine wp_skip ?_
        refine inBlock_norm ?_
        refine thenN ?_
        refine region_plain ?_
        refine lx_q (.int .i64 (W (x56 + (1 : Int)))) S trivial (by decide) (q_add rfl rfl) (fun a S => ?_)
        refine lx_q (.int .i64 (W (x56 + (1 : Int)))) S trivial (by decide) (q_move rfl) (fun a S => ?_)
        refine lx_nil ?_
        exact ⟨m87, Nat.lt_succ_self _, (W (x56 + (1 : Int))), S.sub ⟨rfl, rfl, rfl, rfl, trivial⟩, H, it_cont hm hc89⟩
    · have hm := ite_f hc90 hm
      refine wp_exit ?_
      refine then_exit ?_
      refine then_exit ?_
      refine inBlock_exit ?_
      obtain rfl := it_brk hm hc89
      exact ⟨S.sub trivial, H, rfl⟩

/-- slices.ContainsFunc[[]impl.Equation,impl.Equation] -/
def slices_ContainsFunc__impl_Equation_impl_Equation_m (fuel : Nat) (a0 : (List Timpl_Equation)) (a1 : (Timpl_Equation → Option Bool)) : Option (Bool) :=
  (slices_IndexFunc__impl_Equation_impl_Equation_m fuel a0 a1).bind fun x33 => some ((decide ((0 : Int) ≤ x33)))
set_option maxRecDepth 20000 in
theorem slices_ContainsFunc__impl_Equation_impl_Equation_ok {w0 : World} {fuel : Nat} {p0 : Value} {a0 : (List Timpl_Equation)} {a1 : (Timpl_Equation → Option Bool)} {f1 : Nat} {fs1 cp1 : List Value} {r : Bool} (h0 : Rd (rList Rimpl_Equation) w0 p0 a0) (hcf1 : ∀ args w, (callFunc f1 args).run Try.prog w = .ok (.enter f1 args) w) (hf1 : ∀ {w : World} {x0_ : Timpl_Equation} {v0_ : Value} {y : Bool}, Ext w0 w → Rd Rimpl_Equation w v0_ x0_ → a1 x0_ = some y → Calls Try.prog f1 (fs1 ++ ([v0_] : List Value) ++ cp1).toArray w fun e w' => e = .returned (.bool y) ∧ Heap w [] w') (hm : slices_ContainsFunc__impl_Equation_impl_Equation_m fuel a0 a1 = some r) :
    Calls Try.prog 120 #[p0, .func (.func f1) fs1.toArray cp1.toArray] w0 fun e w => e = .returned (.bool r) ∧ Heap w0 [] w := by
  unfold slices_ContainsFunc__impl_Equation_impl_Equation_m at hm
  have H := Heap.start w0
  refine enter (args := [p0, .func (.func f1) fs1.toArray cp1.toArray]) Try.func120 rfl 9 rfl (Nat.le_of_ble_eq_true rfl) (fun a S => ?_)
  refine wp_seq ?_
  refine region_plain ?_
  refine lx_q (.bool false) S trivial (by decide) (q_assign rfl) (fun a S => ?_)
  refine lx_nil ?_
  refine thenN ?_
  refine wp_seq ?_
  refine region_plain ?_
  refine lx_q p0 S trivial (by decide) (q_move rfl) (fun a S => ?_)
  refine lx_q (.func (.func f1) fs1.toArray cp1.toArray) S trivial (by decide) (q_move rfl) (fun a S => ?_)
  obtain ⟨x33, e34, hm⟩ := bind_some hm
  refine lx_call (xs := [.tmp 5, .tmp 6]) S trivial (by decide) rfl rfl Try.call141 ((slices_IndexFunc__impl_Equation_impl_Equation_ok (f1 := f1) (fs1 := fs1) (cp1 := cp1) (a1 := a1) (H.arg h0) hcf1 (fun he h0_ hm => hf1 (H.ext.trans he) h0_ hm) e34).mono ?_)
  rintro e w31 ⟨rfl, Hc32⟩
  have he35 := Hc32.ext
  have H := H.call0 Hc32
  refine ⟨_, rfl, trivial, fun a S => ?_⟩
  refine lx_q (.bool (decide ((0 : Int) ≤ x33))) S trivial (by decide) (q_geq rfl rfl) (fun a S => ?_)
  refine lx_q (.bool (decide ((0 : Int) ≤ x33))) S trivial (by decide) (q_assign rfl) (fun a S => ?_)
  refine lx_nil ?_
  refine thenN ?_
  refine wp_ret ?_
  obtain rfl := Option.some.inj hm
  exact leave1 S rfl rfl ⟨rfl, H⟩

/-- impl.ValidEquations -/
def impl_ValidEquations_m (fuel : Nat) (a0 : (List Timpl_Equation)) : Option (Bool) :=
  (impl_within_m fuel (a0.length : Int) (1 : Int) (120 : Int)).bind fun x36 => (if (!x36) = true then some true else (impl_blocksFit_m fuel a0).bind fun x44 => some (!x44)).bind fun t39 => (if t39 = true then some (false) else (slices_ContainsFunc__impl_Equation_impl_Equation_m fuel a0 (fun (z0 : Timpl_Equation) => impl_ValidEquations_1_m fuel z0 a0)).bind fun x50 => some ((!x50)))
set_option maxRecDepth 20000 in
theorem impl_ValidEquations_ok {w0 : World} {fuel : Nat} {p0 : Value} {a0 : (List Timpl_Equation)} {r : Bool} (h0 : Rd (rList Rimpl_Equation) w0 p0 a0) (hm : impl_ValidEquations_m fuel a0 = some r) :
    Calls Try.prog 71 #[p0] w0 fun e w => e = .returned (.bool r) ∧ Heap w0 [] w := by
  unfold impl_ValidEquations_m at hm
  have H := Heap.start w0
  refine enter (args := [p0]) Try.func71 rfl 16 rfl (Nat.le_of_ble_eq_true rfl) (fun a S => ?_)
  refine wp_seq ?_
  refine region_plain ?_
  refine lx_box S trivial (by decide) rfl H rfl (cells_sl (h0).isSl) (fun b31 w32 H => ⟨trivial, fun a S => ?_⟩)
  refine lx_q (.bool false) S trivial (by decide) (q_assign rfl) (fun a S => ?_)
  refine lx_nil ?_
  refine thenN ?_
  refine wp_seq ?_
  refine wp_seq ?_
  refine region_plain ?_
  refine lx_e p0 S trivial (by decide) rfl trivial (q_load1 rfl Try.isAgg36 (by rintro _ rfl; exact (boxAt (i := 0) H rfl (j := 0) rfl))) (fun a S => ?_)
  refine lx_q (.int .i64 (a0.length : Int)) S trivial (by decide) (q_lenSl rfl (h0).isSl rfl Try.underlying36) (fun a S => ?_)
  obtain ⟨x36, e37, hm⟩ := bind_some hm
  refine lx_call (xs := [.tmp 4, .const (.int .i64 (1)), .const (.int .i64 (120))]) S trivial (by decide) rfl rfl Try.call112 ((impl_within_ok    e37).mono ?_)
  rintro e w34 ⟨rfl, Hc35⟩
  have he38 := Hc35.ext
  have H := H.call0 Hc35
  refine ⟨_, rfl, trivial, fun a S => ?_⟩
  refine lx_q (.bool (!x36)) S trivial (by decide) (q_not rfl) (fun a S => ?_)
  refine lx_q (.bool (!x36)) S trivial (by decide) (q_move rfl) (fun a S => ?_)
  obtain ⟨t39, e40, hm⟩ := bind_some hm
  refine lx_cut 4 (fun a w => Slots a 16 [(1, (bp b31)), (11, (.bool t39))] ∧ Heap w0 [bA b31 [p0] 36] w) ?_ ?_
  · by_cases hc41 : (!x36) = true
    · have hm := ite_t hc41 e40
      refine lx_skip S rfl rfl (isB_ne hc41) (by decide) (fun a S => ?_)
      refine lx_skip S rfl rfl (isB_ne hc41) (by decide) (fun a S => ?_)
      refine lx_skip S rfl rfl (isB_ne hc41) (by decide) (fun a S => ?_)
      refine lx_q (.bool true) S trivial (by decide) (q_pickT' rfl hc41 rfl) (fun a S => ?_)
      refine lx_nil ?_
      obtain rfl := Option.some.inj hm
      exact ⟨S.sub ⟨rfl, rfl, trivial⟩, H⟩
    · have hm := ite_f (eq_false_of_ne_true hc41) e40
      have hc41 : (!x36) = false := eq_false_of_ne_true hc41
      refine lx_e p0 S (want_b rfl rfl hc41) (by decide) rfl trivial (q_load1 rfl Try.isAgg36 (by rintro _ rfl; exact (boxAt (i := 0) H rfl (j := 0) rfl))) (fun a S => ?_)
      obtain ⟨x44, e45, hm⟩ := bind_some hm
      refine lx_call (xs := [.tmp 8]) S (want_b rfl rfl hc41) (by decide) rfl rfl Try.call109 ((impl_blocksFit_ok (H.arg h0) e45).mono ?_)
      rintro e w42 ⟨rfl, Hc43⟩
      have he46 := Hc43.ext
      have H := H.call0 Hc43
      refine ⟨_, rfl, trivial, fun a S => ?_⟩
      refine lx_q (.bool (!x44)) S (want_b rfl rfl hc41) (by decide) (q_not rfl) (fun a S => ?_)
      refine lx_q (.bool (!x44)) S trivial (by decide) (q_pickF' rfl hc41 rfl) (fun a S => ?_)
      refine lx_nil ?_
      obtain rfl := Option.some.inj hm
      exact ⟨S.sub ⟨rfl, rfl, trivial⟩, H⟩
  · rintro a w ⟨S, H⟩
    refine lx_nil ?_
    refine thenN ?_
    refine cond_b S rfl (fun hc47 => ?_) (fun hc47 => ?_)
    · have hm := ite_t hc47 hm
      refine wp_seq ?_
      refine region_plain ?_
      refine lx_q (.bool false) S trivial (by decide) (q_assign rfl) (fun a S => ?_)
      refine lx_nil ?_
      refine thenN ?_
      refine wp_ret ?_
      refine then_ret ?_
      obtain rfl := Option.some.inj hm
      have H : Heap w0 [] w := H.sel [] (by decide)
      exact leave1 S rfl rfl ⟨rfl, H⟩
    · have hm := ite_f hc47 hm
      refine wp_skip ?_
      refine thenN ?_
      refine wp_seq ?_
      refine region_plain ?_
      refine lx_e p0 S trivial (by decide) rfl trivial (q_load1 rfl Try.isAgg36 (by rintro _ rfl; exact (boxAt (i := 0) H rfl (j := 0) rfl))) (fun a S => ?_)
      refine lx_q (.func (.func 121) #[] #[(bp b31)]) S trivial (by decide) (q_makeFunc (xs := []) (ys := [.tmp 1]) rfl rfl) (fun a S => ?_)
      obtain ⟨x50, e51, hm⟩ := bind_some hm
      have hcap52 : Rd (rPtr (rList Rimpl_Equation)) w (bp b31) a0 := (rdPtr_box H 0 rfl ((H.arg h0)).list_rd)
      refine lx_call (xs := [.tmp 12, .tmp 13]) S trivial (by decide) rfl rfl Try.call120 ((slices_ContainsFunc__impl_Equation_impl_Equation_ok (f1 := 121) (fs1 := ([] : List Value)) (cp1 := ([(bp b31)] : List Value)) (a1 := (fun (z0 : Timpl_Equation) => impl_ValidEquations_1_m fuel z0 a0)) (H.arg h0) Try.call121 (fun he h0_ hm => impl_ValidEquations_1_ok h0_ (hcap52.ext he) hm) e51).mono ?_)
      rintro e w48 ⟨rfl, Hc49⟩
      have he53 := Hc49.ext
      have H := H.call0 Hc49
      refine ⟨_, rfl, trivial, fun a S => ?_⟩
      refine lx_q (.bool (!x50)) S trivial (by decide) (q_not rfl) (fun a S => ?_)
      refine lx_q (.bool (!x50)) S trivial (by decide) (q_assign rfl) (fun a S => ?_)
      refine lx_nil ?_
      refine thenN ?_
      refine wp_ret ?_
      obtain rfl := Option.some.inj hm
      have H : Heap w0 [] w48 := H.sel [] (by decide)
      exact leave1 S rfl rfl ⟨rfl, H⟩

/-- impl.truth -/
def impl_truth_m (_ : Nat) (a0 : Bool) : Option (Int) :=
  (if a0 = true then some ((1 : Int)) else some ((0 : Int)))
set_option maxRecDepth 20000 in
theorem impl_truth_ok {w0 : World} {fuel : Nat} {a0 : Bool} {r : Int} (hm : impl_truth_m fuel a0 = some r) :
    Calls Try.prog 75 #[.bool a0] w0 fun e w => e = .returned (.int .i64 r) ∧ Heap w0 [] w := by
  unfold impl_truth_m at hm
  have H := Heap.start w0
  refine enter (args := [.bool a0]) Try.func75 rfl 4 rfl (Nat.le_of_ble_eq_true rfl) (fun a S => ?_)
  refine wp_seq ?_
  refine region_plain ?_
  refine lx_q (.int .i64 (0 : Int)) S trivial (by decide) (q_assign rfl) (fun a S => ?_)
  refine lx_nil ?_
  refine thenN ?_
  refine wp_seq ?_
  refine wp_seq ?_
  refine region_plain ?_
  refine lx_q (.bool a0) S trivial (by decide) (q_move rfl) (fun a S => ?_)
  refine lx_nil ?_
  refine thenN ?_
  refine cond_b S rfl (fun hc31 => ?_) (fun hc31 => ?_)
  · have hm := ite_t hc31 hm
    refine wp_seq ?_
    refine region_plain ?_
    refine lx_q (.int .i64 (1 : Int)) S trivial (by decide) (q_assign rfl) (fun a S => ?_)
    refine lx_nil ?_
    refine thenN ?_
    refine wp_ret ?_
    refine then_ret ?_
    obtain rfl := Option.some.inj hm
    exact leave1 S rfl rfl ⟨rfl, H⟩
  · have hm := ite_f hc31 hm
    refine wp_skip ?_
    refine thenN ?_
    refine wp_seq ?_
    refine region_plain ?_
    refine lx_q (.int .i64 (0 : Int)) S trivial (by decide) (q_assign rfl) (fun a S => ?_)
    refine lx_nil ?_
    refine thenN ?_
    refine wp_ret ?_
    obtain rfl := Option.some.inj hm
    exact leave1 S rfl rfl ⟨rfl, H⟩

/-- slices.Clone[[]int64,int64] -/
def slices_Clone__int64_int64_m (_ : Nat) (a0 : (List Int)) : Option ((List Int)) :=
  (app ([] : List Int) a0).bind fun x38 => some (x38)
set_option maxRecDepth 20000 in
theorem slices_Clone__int64_int64_ok {w0 : World} {fuel : Nat} {p0 : Value} {a0 : (List Int)} {r : (List Int)} (h0 : Rd (rList (rInt .i64)) w0 p0 a0) (hm : slices_Clone__int64_int64_m fuel a0 = some r) :
    Calls Try.prog 96 #[p0] w0 fun e w => ∃ (v0 : Value), e = .returned (v0) ∧ Heap w0 [oA (rList (rInt .i64)) v0 r] w := by
  unfold slices_Clone__int64_int64_m at hm
  have H := Heap.start w0
  refine enter (args := [p0]) Try.func96 rfl 8 rfl (Nat.le_of_ble_eq_true rfl) (fun a S => ?_)
  refine wp_seq ?_
  refine region_plain ?_
  refine lx_q (.slice none 0 0) S trivial (by decide) (q_assign rfl) (fun a S => ?_)
  refine lx_nil ?_
  refine thenN ?_
  refine wp_seq ?_
  refine wp_seq ?_
  refine region_plain ?_
  refine lx_q p0 S trivial (by decide) (q_move rfl) (fun a S => ?_)
  obtain ⟨bn31, hqn, hb32⟩ := ((H.arg h0)).isNil (P := Try.prog) Try.underlying23
  refine lx_q (.bool bn31) S trivial (by decide) (hqn rfl rfl) (fun a S => ?_)
  refine lx_nil ?_
  refine thenN ?_
  refine cond_b S rfl (fun hc33 => ?_) (fun hc33 => ?_)
  · obtain rfl := hb32 hc33
    replace hm : some [] = some r := by simpa [app] using hm
    refine wp_seq ?_
    refine region_plain ?_
    refine lx_q (.slice none 0 0) S trivial (by decide) (q_assign rfl) (fun a S => ?_)
    refine lx_nil ?_
    refine thenN ?_
    refine wp_ret ?_
    refine then_ret ?_
    obtain rfl := Option.some.inj hm
    have H : Heap w0 [oA (rList (rInt .i64)) (.slice none 0 0) ([] : List Int)] w0 := H.nilList (rInt .i64)
    exact leave1 S rfl rfl ⟨(.slice none 0 0), rfl, H⟩
  · skip
    refine wp_skip ?_
    refine thenN ?_
    refine wp_seq ?_
    refine region_plain ?_
    refine lx_buildSlice0 (r := (rInt .i64)) S trivial (by decide) rfl H Try.underlying23 Try.sizeOf2 (fun v35 w36 H => ⟨trivial, fun a S => ?_⟩)
    refine lx_q p0 S trivial (by decide) (q_move rfl) (fun a S => ?_)
    obtain ⟨x38, e39, hm⟩ := bind_some hm
    obtain ⟨hle, hap⟩ := app_some e39
    replace hap := hap.symm
    subst hap
    refine lx_appendRd (r := (rInt .i64)) S trivial (by decide) rfl H (flat_int _) (H.arg h0) rfl rfl Try.underlying23 Try.ti2 rfl rfl rfl (by decide) (by decide) hle (fun v40 w41 H => ⟨trivial, fun a S => ?_⟩)
    refine lx_q v40 S trivial (by decide) (q_assign rfl) (fun a S => ?_)
    refine lx_nil ?_
    refine thenN ?_
    refine wp_ret ?_
    obtain rfl := Option.some.inj hm
    exact leave1 S rfl rfl ⟨v40, rfl, H⟩
end Go.Proofs.Ytecknjdlbmmmiaa
