/- The models of some functions and their walks (printed by a program of this repo). -/
import Derived.Test.YtnkpniekdipgaaaGreatDoorF0
import Derived.Test.YtnkpniekdipgaaaGreatDoorF1
import Derived.Test.YtnkpniekdipgaaaGreatDoorGxT
import Derived.Test.YtnkpniekdipgaaaGreatDoorGxY
namespace Go.Proofs.YtnkpniekdipgaaaGreatDoor
open Go.RowKit Go.Gx

/-- spec.l01Number -/
def spec_l01Number_m (fuel : Nat) (a0 : Str) : Option ((Int × Bool)) :=
  join (κ := Int → Option (Int × Bool)) (fun (x31 : Int) => (if ((a0.length : Int) == x31) = true then some true else some (decide ((18 : Int) < (W ((a0.length : Int) - x31))))).bind fun t34 => (if t34 = true then some true else (idx a0 x31).bind fun b40 => (if ((b40.toNat : Int) == (48 : Int)) = true then some (decide ((1 : Int) < (a0.length : Int))) else some false).bind fun t42 => some t42).bind fun t37 => (if t37 = true then some (((0 : Int), false)) else (iter (fun (s : (Int) × (Int)) => (match s with | (x59, x60) => (if (decide (x60 < (a0.length : Int))) = true then (idx a0 x60).bind fun b88 => (spec_l01Digit_m fuel (b88.toNat : Int)).bind fun x92 => (if (!x92) = true then some (.inr (.inr ((0 : Int), false))) else (idx a0 x60).bind fun b96 => some (.inl ((W ((W ((10 : Int) * x59)) + (W (IntKind.u8.wrap ((b96.toNat : Int) - (48 : Int)))))), (W (x60 + (1 : Int)))))) else some (.inr (.inl (x59)))) : Option (((Int) × (Int)) ⊕ ((Int) ⊕ ((Int × Bool)))))) fuel ((0 : Int), x31)).bind fun res75 => ctl (β := Int) (ρ := (Int × Bool)) (τ := (Int × Bool)) res75 (fun (x74) => join (κ := Int → Option (Int × Bool)) (fun (x80 : Int) => some ((x80, true))) (fun K81 => (if (x31 == (1 : Int)) = true then (K81 (W (0 - x74))) else (K81 x74)))) (fun q => some (q)))) (fun K32 => (if (decide ((0 : Int) < (a0.length : Int))) = true then (idx a0 (0 : Int)).bind fun b101 => some ((b101.toNat : Int) == (45 : Int)) else some false).bind fun t98 => (if t98 = true then (K32 (1 : Int)) else (K32 (0 : Int))))
set_option maxRecDepth 20000 in
theorem spec_l01Number_ok [dr : Dr] {w0 : World} {fuel : Nat} {a0 : Str} {r : (Int × Bool)} (hm : spec_l01Number_m fuel a0 = some r) :
  Calls Tryz.prog 99 #[sv a0] w0 fun e w => e = .returned (.tuple #[.int .i64 r.1, .bool r.2]) ∧ Heap w0 [] w := by
 unfold spec_l01Number_m at hm
 have H := Heap.start w0
 refine enter (args := [sv a0]) Tryz.func99 rfl 62 rfl (Nat.le_of_ble_eq_true rfl) (fun a S => ?_)
 refine wp_seq (region_plain ?_)
 refine lq (.int .i64 (0 : Int)) S (q_assign rfl) fun a S => ?_
 refine lq (.bool false) S (q_assign rfl) fun a S => ?_
 refine lx_nil (thenN ?_)
 refine wp_seq (region_plain ?_)
 refine lq (.int .i64 (0 : Int)) S (q_assign rfl) fun a S => ?_
 refine lx_nil (thenN ?_)
 obtain ⟨K32, hK33, hm⟩ := join_elim hm
 refine seq_cut (fun a w => ∃ (x31 : Int), Slots a 62 [(0, (sv a0)), (4, (.int .i64 x31))] ∧ Heap w0 [] w ∧ K32 x31 = some r) ?_ ?_
 ·rintro a w ⟨x31, S, H, hm⟩
  subst hK33
  refine wp_seq (wp_seq (region_plain ?_))
  refine lq (sv a0) S (q_move rfl) fun a S => ?_
  refine lq (.int .i64 (a0.length : Int)) S (q_lenStr rfl rfl Tryz.underlying9) fun a S => ?_
  refine lq (.int .i64 x31) S (q_move rfl) fun a S => ?_
  refine lq (.bool ((a0.length : Int) == x31)) S (q_eql rfl rfl) fun a S => ?_
  refine lq (.bool ((a0.length : Int) == x31)) S (q_move rfl) fun a S => ?_
  obtain ⟨t34, e35, hm⟩ := bind_some hm
  refine lx_cut 6 (fun a w => Slots a 62 [(0, (sv a0)), (4, (.int .i64 x31)), (25, (.bool t34))] ∧ Heap w0 [] w) ?_ ?_
  ·by_cases hc36 : ((a0.length : Int) == x31) = true
   ·have hm := ite_t hc36 e35
    refine lx_skip S rfl rfl (isB_ne hc36) (by decide) (fun a S => ?_)
    refine lx_skip S rfl rfl (isB_ne hc36) (by decide) (fun a S => ?_)
    refine lx_skip S rfl rfl (isB_ne hc36) (by decide) (fun a S => ?_)
    refine lx_skip S rfl rfl (isB_ne hc36) (by decide) (fun a S => ?_)
    refine lx_skip S rfl rfl (isB_ne hc36) (by decide) (fun a S => ?_)
    refine lq (.bool true) S (q_pickT' rfl hc36 rfl) fun a S => ?_
    refine lx_nil ?_
    obtain rfl := Option.some.inj hm
    exact ⟨S.sub ⟨rfl, rfl, rfl, trivial⟩, H⟩
   ·have hm := ite_f (eq_false_of_ne_true hc36) e35
    have hc36 : ((a0.length : Int) == x31) = false := eq_false_of_ne_true hc36
    refine lx_q (sv a0) S (want_b rfl rfl hc36) (by decide) (q_move rfl) (fun a S => ?_)
    refine lx_q (.int .i64 (a0.length : Int)) S (want_b rfl rfl hc36) (by decide) (q_lenStr rfl rfl Tryz.underlying9) (fun a S => ?_)
    refine lx_q (.int .i64 x31) S (want_b rfl rfl hc36) (by decide) (q_move rfl) (fun a S => ?_)
    refine lx_q (.int .i64 (W ((a0.length : Int) - x31))) S (want_b rfl rfl hc36) (by decide) (q_sub rfl rfl) (fun a S => ?_)
    refine lx_q (.bool (decide ((18 : Int) < (W ((a0.length : Int) - x31))))) S (want_b rfl rfl hc36) (by decide) (q_gtr rfl rfl) (fun a S => ?_)
    refine lq (.bool (decide ((18 : Int) < (W ((a0.length : Int) - x31))))) S (q_pickF' rfl hc36 rfl) fun a S => ?_
    refine lx_nil ?_
    obtain rfl := Option.some.inj hm
    exact ⟨S.sub ⟨rfl, rfl, rfl, trivial⟩, H⟩
  ·rintro a w ⟨S, H⟩
   refine lq (.bool t34) S (q_move rfl) fun a S => ?_
   obtain ⟨t37, e38, hm⟩ := bind_some hm
   refine lx_cut 10 (fun a w => Slots a 62 [(0, (sv a0)), (4, (.int .i64 x31)), (36, (.bool t37))] ∧ Heap w0 [] w) ?_ ?_
   ·by_cases hc39 : t34 = true
    ·have hm := ite_t hc39 e38
     refine lx_skip S rfl rfl (isB_ne hc39) (by decide) (fun a S => ?_)
     refine lx_skip S rfl rfl (isB_ne hc39) (by decide) (fun a S => ?_)
     refine lx_skip S rfl rfl (isB_ne hc39) (by decide) (fun a S => ?_)
     refine lx_skip S rfl rfl (isB_ne hc39) (by decide) (fun a S => ?_)
     refine lx_skip S rfl rfl (isB_ne hc39) (by decide) (fun a S => ?_)
     refine lx_skip S rfl rfl rfl (by decide) (fun a S => ?_)
     refine lx_skip S rfl rfl rfl (by decide) (fun a S => ?_)
     refine lx_skip S rfl rfl rfl (by decide) (fun a S => ?_)
     refine lx_skip S rfl rfl (isB_ne hc39) (by decide) (fun a S => ?_)
     refine lq (.bool true) S (q_pickT' rfl hc39 rfl) fun a S => ?_
     refine lx_nil ?_
     obtain rfl := Option.some.inj hm
     exact ⟨S.sub ⟨rfl, rfl, rfl, trivial⟩, H⟩
    ·have hm := ite_f (eq_false_of_ne_true hc39) e38
     have hc39 : t34 = false := eq_false_of_ne_true hc39
     refine lx_q (sv a0) S (want_b rfl rfl hc39) (by decide) (q_move rfl) (fun a S => ?_)
     refine lx_q (.int .i64 x31) S (want_b rfl rfl hc39) (by decide) (q_move rfl) (fun a S => ?_)
     obtain ⟨b40, e41, hm⟩ := bind_some hm
     refine lx_q (.int .u8 (b40.toNat : Int)) S (want_b rfl rfl hc39) (by decide) (q_sidx rfl rfl Tryz.underlying9 e41) (fun a S => ?_)
     refine lx_q (.bool ((b40.toNat : Int) == (48 : Int))) S (want_b rfl rfl hc39) (by decide) (q_eql rfl rfl) (fun a S => ?_)
     refine lx_q (.bool ((b40.toNat : Int) == (48 : Int))) S (want_b rfl rfl hc39) (by decide) (q_move rfl) (fun a S => ?_)
     obtain ⟨t42, e43, hm⟩ := bind_some hm
     refine lx_cut 4 (fun a w => Slots a 62 [(0, (sv a0)), (4, (.int .i64 x31)), (26, (.bool t34)), (35, (.bool t42))] ∧ Heap w0 [] w) ?_ ?_
     ·by_cases hc44 : ((b40.toNat : Int) == (48 : Int)) = true
      ·have hm := ite_t hc44 e43
       refine lx_q (sv a0) S (want_b rfl rfl hc44) (by decide) (q_move rfl) (fun a S => ?_)
       refine lx_q (.int .i64 (a0.length : Int)) S (want_b rfl rfl hc44) (by decide) (q_lenStr rfl rfl Tryz.underlying9) (fun a S => ?_)
       refine lx_q (.bool (decide ((1 : Int) < (a0.length : Int)))) S (want_b rfl rfl hc44) (by decide) (q_gtr rfl rfl) (fun a S => ?_)
       refine lx_q (.bool (decide ((1 : Int) < (a0.length : Int)))) S (want_b rfl rfl hc39) (by decide) (q_pickT' rfl hc44 rfl) (fun a S => ?_)
       refine lx_nil ?_
       obtain rfl := Option.some.inj hm
       exact ⟨S.sub ⟨rfl, rfl, rfl, rfl, trivial⟩, H⟩
      ·have hm := ite_f (eq_false_of_ne_true hc44) e43
       have hc44 : ((b40.toNat : Int) == (48 : Int)) = false := eq_false_of_ne_true hc44
       refine lx_skip S rfl rfl (isB_ne hc44) (by decide) (fun a S => ?_)
       refine lx_skip S rfl rfl (isB_ne hc44) (by decide) (fun a S => ?_)
       refine lx_skip S rfl rfl (isB_ne hc44) (by decide) (fun a S => ?_)
       refine lx_q (.bool false) S (want_b rfl rfl hc39) (by decide) (q_pickF' rfl hc44 rfl) (fun a S => ?_)
       refine lx_nil ?_
       obtain rfl := Option.some.inj hm
       exact ⟨S.sub ⟨rfl, rfl, rfl, rfl, trivial⟩, H⟩
     ·rintro a w ⟨S, H⟩
      refine lq (.bool t42) S (q_pickF' rfl hc39 rfl) fun a S => ?_
      refine lx_nil ?_
      obtain rfl := Option.some.inj hm
      exact ⟨S.sub ⟨rfl, rfl, rfl, trivial⟩, H⟩
   ·rintro a w ⟨S, H⟩
    refine lx_nil (thenN ?_)
    refine cond_b S rfl (fun hc45 => ?_) (fun hc45 => ?_)
    ·have hm := ite_t hc45 hm
     refine wp_seq (region_plain ?_)
     refine lq (.int .i64 (0 : Int)) S (q_assign rfl) fun a S => ?_
     refine lq (.bool false) S (q_assign rfl) fun a S => ?_
     refine lx_nil (thenN ?_)
     refine wp_ret (then_ret ?_)
     obtain rfl := Option.some.inj hm
     exact leave2 S rfl rfl rfl ⟨rfl, H⟩
    ·have hm := ite_f hc45 hm
     refine wp_skip (thenN ?_)
     refine wp_seq (region_plain ?_)
     refine lq (.int .i64 (0 : Int)) S (q_assign rfl) fun a S => ?_
     refine lx_nil (thenN ?_)
     refine wp_seq (wp_seq (region_plain ?_))
     refine lq (.int .i64 x31) S (q_move rfl) fun a S => ?_
     refine lq (.int .i64 x31) S (q_assign rfl) fun a S => ?_
     refine lx_nil (thenN ?_)
     obtain ⟨res75, hit76, hk79⟩ := bind_some hm
     obtain ⟨f77, hf78, hit76⟩ := iter_name hit76
     refine block_loop (fun a w => ∃ (x74 : Int), Slots a 62 [(4, (.int .i64 x31)), (5, (.int .i64 x74))] ∧ Heap w0 [] w ∧ res75 = .inl (x74)) ?_ ?_
     ·rintro a w ⟨x74, S, H, rfl⟩
      have hm := ctl_inl hk79
      refine thenN ?_
      obtain ⟨K81, hK82, hm⟩ := join_elim hm
      refine seq_cut (fun a w => ∃ (x80 : Int), Slots a 62 [(5, (.int .i64 x80))] ∧ Heap w0 [] w ∧ K81 x80 = some r) ?_ ?_
      ·rintro a w ⟨x80, S, H, hm⟩
       subst hK82
       refine wp_seq (region_plain ?_)
       refine lq (.int .i64 x80) S (q_move rfl) fun a S => ?_
       refine lq (.int .i64 x80) S (q_assign rfl) fun a S => ?_
       refine lq (.bool true) S (q_assign rfl) fun a S => ?_
       refine lx_nil (thenN ?_)
       refine wp_ret ?_
       obtain rfl := Option.some.inj hm
       exact leave2 S rfl rfl rfl ⟨rfl, H⟩
      ·skip
       refine wp_seq (region_plain ?_)
       refine lq (.int .i64 x31) S (q_move rfl) fun a S => ?_
       refine lq (.bool (x31 == (1 : Int))) S (q_eql rfl rfl) fun a S => ?_
       refine lx_nil (thenN ?_)
       refine cond_b S rfl (fun hc83 => ?_) (fun hc83 => ?_)
       ·have hm := ite_t hc83 hm
        refine region_plain ?_
        refine lq (.int .i64 x74) S (q_move rfl) fun a S => ?_
        refine lq (.int .i64 (W (0 - x74))) S (q_neg rfl) fun a S => ?_
        refine lq (.int .i64 (W (0 - x74))) S (q_assign rfl) fun a S => ?_
        refine lx_nil ?_
        exact ⟨(W (0 - x74)), S.sub ⟨rfl, trivial⟩, H, hm⟩
       ·have hm := ite_f hc83 hm
        refine wp_skip ?_
        exact ⟨x74, S.sub ⟨rfl, trivial⟩, H, hm⟩
     ·skip
      refine loop_ghost (fun n a w => ∃ (x59 : Int) (x60 : Int), Slots a 62 [(0, (sv a0)), (4, (.int .i64 x31)), (5, (.int .i64 x59)), (6, (.int .i64 x60))] ∧ Heap w0 [] w ∧ iter f77 n (x59, x60) = some res75) _ ⟨(0 : Int), x31, S.sub ⟨rfl, rfl, rfl, rfl, trivial⟩, H, hit76⟩ ?_
      rintro n a w ⟨x59, x60, S, H, hit76⟩
      obtain ⟨m84, o85, rfl, hm, hc86⟩ := iter_step hit76
      rw [hf78] at hm
      refine wp_seq (wp_seq (region_plain ?_))
      refine lq (.int .i64 x60) S (q_move rfl) fun a S => ?_
      refine lq (sv a0) S (q_move rfl) fun a S => ?_
      refine lq (.int .i64 (a0.length : Int)) S (q_lenStr rfl rfl Tryz.underlying9) fun a S => ?_
      refine lq (.bool (decide (x60 < (a0.length : Int)))) S (q_lss rfl rfl) fun a S => ?_
      refine lx_nil (thenN ?_)
      refine cond_b S rfl (fun hc87 => ?_) (fun hc87 => ?_)
      ·have hm := ite_t hc87 hm
       refine wp_skip (thenN ?_)
       refine wp_seq ?_
       refine wp_block ?_
       refine wp_seq (wp_seq (region_plain ?_))
       refine lq (sv a0) S (q_move rfl) fun a S => ?_
       refine lq (.int .i64 x60) S (q_move rfl) fun a S => ?_
       obtain ⟨b88, e89, hm⟩ := bind_some hm
       refine lq (.int .u8 (b88.toNat : Int)) S (q_sidx rfl rfl Tryz.underlying9 e89) fun a S => ?_
       obtain ⟨x92, e93, hm⟩ := bind_some hm
       refine lx_call (xs := [.tmp 46]) S trivial (by decide) rfl rfl Tryz.call109 ((spec_l01Digit_ok  e93).mono ?_)
       rintro e w90 ⟨rfl, Hc91⟩
       have H := H.call0 Hc91
       refine ⟨_, rfl, trivial, fun a S => ?_⟩
       refine lq (.bool (!x92)) S (q_not rfl) fun a S => ?_
       refine lx_nil (thenN ?_)
       refine cond_b S rfl (fun hc95 => ?_) (fun hc95 => ?_)
       ·have hm := ite_t hc95 hm
        refine wp_seq (region_plain ?_)
        refine lq (.int .i64 (0 : Int)) S (q_assign rfl) fun a S => ?_
        refine lq (.bool false) S (q_assign rfl) fun a S => ?_
        refine lx_nil (thenN ?_)
        refine wp_ret (then_ret ?_)
        refine inBlock_ret ?_
        refine then_ret ?_
        refine then_ret ?_
        refine inBlock_ret ?_
        refine then_ret ?_
        refine then_ret ?_
        obtain rfl := it_brk hm hc86
        have hm := ctl_inr hk79
        obtain rfl := Option.some.inj hm
        exact leave2 S rfl rfl rfl ⟨rfl, H⟩
       ·have hm := ite_f hc95 hm
        refine wp_skip (thenN ?_)
        refine region_plain ?_
        refine lq (.int .i64 x59) S (q_move rfl) fun a S => ?_
        refine lq (.int .i64 (W ((10 : Int) * x59))) S (q_mul rfl rfl) fun a S => ?_
        refine lq (sv a0) S (q_move rfl) fun a S => ?_
        refine lq (.int .i64 x60) S (q_move rfl) fun a S => ?_
        obtain ⟨b96, e97, hm⟩ := bind_some hm
        refine lq (.int .u8 (b96.toNat : Int)) S (q_sidx rfl rfl Tryz.underlying9 e97) fun a S => ?_
        refine lq (.int .u8 (IntKind.u8.wrap ((b96.toNat : Int) - (48 : Int)))) S (q_sub rfl rfl) fun a S => ?_
        refine lq (.int .i64 (W (IntKind.u8.wrap ((b96.toNat : Int) - (48 : Int))))) S (q_convInt rfl Tryz.underlying5 Tryz.underlying2) fun a S => ?_
        refine lq (.int .i64 (W ((W ((10 : Int) * x59)) + (W (IntKind.u8.wrap ((b96.toNat : Int) - (48 : Int))))))) S (q_add rfl rfl) fun a S => ?_
        refine lq (.int .i64 (W ((W ((10 : Int) * x59)) + (W (IntKind.u8.wrap ((b96.toNat : Int) - (48 : Int))))))) S (q_assign rfl) fun a S => ?_
        refine lx_nil ?_
        refine inBlock_norm ?_
        refine thenN ?_
        refine region_plain ?_
        refine lq (.int .i64 x60) S (q_move rfl) fun a S => ?_
        refine lq (.int .i64 (W (x60 + (1 : Int)))) S (q_add rfl rfl) fun a S => ?_
        refine lq (.int .i64 (W (x60 + (1 : Int)))) S (q_assign rfl) fun a S => ?_
        refine lx_nil ?_
        exact ⟨m84, Nat.lt_succ_self _, (W ((W ((10 : Int) * x59)) + (W (IntKind.u8.wrap ((b96.toNat : Int) - (48 : Int)))))), (W (x60 + (1 : Int))), S.sub ⟨rfl, rfl, rfl, rfl, trivial⟩, H, it_cont hm hc86⟩
      ·have hm := ite_f hc87 hm
       refine wp_exit ?_
       refine then_exit ?_
       refine then_exit ?_
       refine inBlock_exit ?_
       obtain rfl := it_brk hm hc86
       exact ⟨x59, S.sub ⟨rfl, rfl, trivial⟩, H, rfl⟩
 ·skip
  refine wp_seq (region_plain ?_)
  refine lq (sv a0) S (q_move rfl) fun a S => ?_
  refine lq (.int .i64 (a0.length : Int)) S (q_lenStr rfl rfl Tryz.underlying9) fun a S => ?_
  refine lq (.bool (decide ((0 : Int) < (a0.length : Int)))) S (q_gtr rfl rfl) fun a S => ?_
  refine lq (.bool (decide ((0 : Int) < (a0.length : Int)))) S (q_move rfl) fun a S => ?_
  obtain ⟨t98, e99, hm⟩ := bind_some hm
  refine lx_cut 4 (fun a w => Slots a 62 [(0, (sv a0)), (4, (.int .i64 (0 : Int))), (14, (.bool t98))] ∧ Heap w0 [] w) ?_ ?_
  ·by_cases hc100 : (decide ((0 : Int) < (a0.length : Int))) = true
   ·have hm := ite_t hc100 e99
    refine lx_q (sv a0) S (want_b rfl rfl hc100) (by decide) (q_move rfl) (fun a S => ?_)
    obtain ⟨b101, e102, hm⟩ := bind_some hm
    refine lx_q (.int .u8 (b101.toNat : Int)) S (want_b rfl rfl hc100) (by decide) (q_sidx rfl rfl Tryz.underlying9 e102) (fun a S => ?_)
    refine lx_q (.bool ((b101.toNat : Int) == (45 : Int))) S (want_b rfl rfl hc100) (by decide) (q_eql rfl rfl) (fun a S => ?_)
    refine lq (.bool ((b101.toNat : Int) == (45 : Int))) S (q_pickT' rfl hc100 rfl) fun a S => ?_
    refine lx_nil ?_
    obtain rfl := Option.some.inj hm
    exact ⟨S.sub ⟨rfl, rfl, rfl, trivial⟩, H⟩
   ·have hm := ite_f (eq_false_of_ne_true hc100) e99
    have hc100 : (decide ((0 : Int) < (a0.length : Int))) = false := eq_false_of_ne_true hc100
    refine lx_skip S rfl rfl (isB_ne hc100) (by decide) (fun a S => ?_)
    refine lx_skip S rfl rfl (isB_ne hc100) (by decide) (fun a S => ?_)
    refine lx_skip S rfl rfl (isB_ne hc100) (by decide) (fun a S => ?_)
    refine lq (.bool false) S (q_pickF' rfl hc100 rfl) fun a S => ?_
    refine lx_nil ?_
    obtain rfl := Option.some.inj hm
    exact ⟨S.sub ⟨rfl, rfl, rfl, trivial⟩, H⟩
  ·rintro a w ⟨S, H⟩
   refine lx_nil (thenN ?_)
   refine cond_b S rfl (fun hc103 => ?_) (fun hc103 => ?_)
   ·have hm := ite_t hc103 hm
    refine region_plain ?_
    refine lq (.int .i64 (1 : Int)) S (q_assign rfl) fun a S => ?_
    refine lx_nil ?_
    exact ⟨(1 : Int), S.sub ⟨rfl, rfl, trivial⟩, H, hm⟩
   ·have hm := ite_f hc103 hm
    refine wp_skip ?_
    exact ⟨(0 : Int), S.sub ⟨rfl, rfl, trivial⟩, H, hm⟩

/-- spec.l01Values -/
def spec_l01Values_m (fuel : Nat) (a0 : Str) : Option (((List Int) × Bool)) :=
  (spec_l01Open_m fuel a0).bind fun x33 => (if (x33 == (a0.length : Int)) = true then (spec_l01Name_m fuel a0).bind fun x42 => some ((([] : List Int), x42)) else (sub a0 (0 : Int) x33).bind fun xs45 => (spec_l01Action_m fuel xs45).bind fun x49 => (if (!x49) = true then some true else (idx a0 (W ((a0.length : Int) - (1 : Int)))).bind fun b55 => some ((b55.toNat : Int) != (41 : Int))).bind fun t52 => (if t52 = true then some (([], false)) else (sub a0 (W (x33 + (1 : Int))) (W ((a0.length : Int) - (1 : Int)))).bind fun xs59 => (spec_l01Split_m fuel xs59 (44 : Int)).bind fun x63 => (iter (fun (s : (List Int) × (Int)) => (match s with | (xs104, x106) => (if (decide (x106 < (x63.length : Int))) = true then (idx x63 x106).bind fun x151 => (spec_l01Number_m fuel x151).bind fun x158 => (if (!x158.2) = true then some true else (spec_l00In_m fuel x158.1 (0 : Int) (63 : Int)).bind fun x166 => some (!x166)).bind fun t161 => (if t161 = true then some (.inr (.inr ([], false))) else (app xs104 [x158.1]).bind fun x174 => some (.inl (x174, (W (x106 + (1 : Int)))))) else some (.inr (.inl (xs104)))) : Option (((List Int) × (Int)) ⊕ (((List Int)) ⊕ (((List Int) × Bool)))))) fuel (([] : List Int), (0 : Int))).bind fun res142 => ctl (β := (List Int)) (ρ := ((List Int) × Bool)) (τ := ((List Int) × Bool)) res142 (fun (xs140) => some ((xs140, (decide ((xs140.length : Int) ≤ (2 : Int)))))) (fun q => some (q))))
set_option maxRecDepth 20000 in
theorem spec_l01Values_ok [dr : Dr] {w0 : World} {fuel : Nat} {a0 : Str} {r : ((List Int) × Bool)} (hm : spec_l01Values_m fuel a0 = some r) :
  Calls Tryz.prog 82 #[sv a0] w0 fun e w => ∃ (v0 : Value), e = .returned (.tuple #[v0, .bool r.2]) ∧ Heap w0 [oA (rList (rInt .i64)) v0 r.1] w := by
 unfold spec_l01Values_m at hm
 have H := Heap.start w0
 refine enter (args := [sv a0]) Tryz.func82 rfl 70 rfl (Nat.le_of_ble_eq_true rfl) (fun a S => ?_)
 refine wp_seq (region_plain ?_)
 refine lq (.slice none 0 0) S (q_assign rfl) fun a S => ?_
 refine lq (.bool false) S (q_assign rfl) fun a S => ?_
 refine lx_nil (thenN ?_)
 refine wp_seq (region_plain ?_)
 refine lq (sv a0) S (q_move rfl) fun a S => ?_
 obtain ⟨x33, e34, hm⟩ := bind_some hm
 refine lx_call (xs := [.tmp 10]) S trivial (by decide) rfl rfl Tryz.call97 ((spec_l01Open_ok  e34).mono ?_)
 rintro e w31 ⟨rfl, Hc32⟩
 have H := H.call0 Hc32
 refine ⟨_, rfl, trivial, fun a S => ?_⟩
 refine lq (.int .i64 x33) S (q_assign rfl) fun a S => ?_
 refine lx_nil (thenN ?_)
 refine wp_seq (wp_seq (region_plain ?_))
 refine lq (.int .i64 x33) S (q_move rfl) fun a S => ?_
 refine lq (sv a0) S (q_move rfl) fun a S => ?_
 refine lq (.int .i64 (a0.length : Int)) S (q_lenStr rfl rfl Tryz.underlying9) fun a S => ?_
 refine lq (.bool (x33 == (a0.length : Int))) S (q_eql rfl rfl) fun a S => ?_
 refine lx_nil (thenN ?_)
 refine cond_b S rfl (fun hc36 => ?_) (fun hc36 => ?_)
 ·have hm := ite_t hc36 hm
  refine wp_seq (region_plain ?_)
  refine lx_buildSlice0 (r := (rInt .i64)) S trivial (by decide) rfl H Tryz.underlying42 Tryz.sizeOf2 (fun v37 w38 H => ⟨trivial, fun a S => ?_⟩)
  refine lq (sv a0) S (q_move rfl) fun a S => ?_
  obtain ⟨x42, e43, hm⟩ := bind_some hm
  refine lx_call (xs := [.tmp 17]) S trivial (by decide) rfl rfl Tryz.call96 ((spec_l01Name_ok  e43).mono ?_)
  rintro e w40 ⟨rfl, Hc41⟩
  have H := H.call0 Hc41
  refine ⟨_, rfl, trivial, fun a S => ?_⟩
  refine lq v37 S (q_assign rfl) fun a S => ?_
  refine lq (.bool x42) S (q_assign rfl) fun a S => ?_
  refine lx_nil (thenN ?_)
  refine wp_ret (then_ret ?_)
  obtain rfl := Option.some.inj hm
  exact leave2 S rfl rfl rfl ⟨v37, rfl, H⟩
 ·have hm := ite_f hc36 hm
  refine wp_skip (thenN ?_)
  refine wp_seq (wp_seq (region_plain ?_))
  refine lq (sv a0) S (q_move rfl) fun a S => ?_
  refine lq (.int .i64 x33) S (q_move rfl) fun a S => ?_
  obtain ⟨xs45, e46, hm⟩ := bind_some hm
  obtain ⟨hsb, hse⟩ := sub_some e46
  replace hse := hse.symm
  subst hse
  refine lq (sv ((a0.take (x33).toNat).drop ((0 : Int)).toNat)) S (q_ssub (lo := none) (hi := (some (.tmp 20))) (l := (0 : Int)) (h := x33) rfl Tryz.underlying9 rfl rfl hsb.1 hsb.2.1 hsb.2.2) fun a S => ?_
  obtain ⟨x49, e50, hm⟩ := bind_some hm
  refine lx_call (xs := [.tmp 21]) S trivial (by decide) rfl rfl Tryz.call81 ((spec_l01Action_ok  e50).mono ?_)
  rintro e w47 ⟨rfl, Hc48⟩
  have H := H.call0 Hc48
  refine ⟨_, rfl, trivial, fun a S => ?_⟩
  refine lq (.bool (!x49)) S (q_not rfl) fun a S => ?_
  refine lq (.bool (!x49)) S (q_move rfl) fun a S => ?_
  obtain ⟨t52, e53, hm⟩ := bind_some hm
  refine lx_cut 7 (fun a w => Slots a 70 [(0, (sv a0)), (4, (.int .i64 x33)), (31, (.bool t52))] ∧ Heap w0 [] w) ?_ ?_
  ·by_cases hc54 : (!x49) = true
   ·have hm := ite_t hc54 e53
    refine lx_skip S rfl rfl (isB_ne hc54) (by decide) (fun a S => ?_)
    refine lx_skip S rfl rfl (isB_ne hc54) (by decide) (fun a S => ?_)
    refine lx_skip S rfl rfl (isB_ne hc54) (by decide) (fun a S => ?_)
    refine lx_skip S rfl rfl (isB_ne hc54) (by decide) (fun a S => ?_)
    refine lx_skip S rfl rfl (isB_ne hc54) (by decide) (fun a S => ?_)
    refine lx_skip S rfl rfl (isB_ne hc54) (by decide) (fun a S => ?_)
    refine lq (.bool true) S (q_pickT' rfl hc54 rfl) fun a S => ?_
    refine lx_nil ?_
    obtain rfl := Option.some.inj hm
    exact ⟨S.sub ⟨rfl, rfl, rfl, trivial⟩, H⟩
   ·have hm := ite_f (eq_false_of_ne_true hc54) e53
    have hc54 : (!x49) = false := eq_false_of_ne_true hc54
    refine lx_q (sv a0) S (want_b rfl rfl hc54) (by decide) (q_move rfl) (fun a S => ?_)
    refine lx_q (sv a0) S (want_b rfl rfl hc54) (by decide) (q_move rfl) (fun a S => ?_)
    refine lx_q (.int .i64 (a0.length : Int)) S (want_b rfl rfl hc54) (by decide) (q_lenStr rfl rfl Tryz.underlying9) (fun a S => ?_)
    refine lx_q (.int .i64 (W ((a0.length : Int) - (1 : Int)))) S (want_b rfl rfl hc54) (by decide) (q_sub rfl rfl) (fun a S => ?_)
    obtain ⟨b55, e56, hm⟩ := bind_some hm
    refine lx_q (.int .u8 (b55.toNat : Int)) S (want_b rfl rfl hc54) (by decide) (q_sidx rfl rfl Tryz.underlying9 e56) (fun a S => ?_)
    refine lx_q (.bool ((b55.toNat : Int) != (41 : Int))) S (want_b rfl rfl hc54) (by decide) (q_neq rfl rfl) (fun a S => ?_)
    refine lq (.bool ((b55.toNat : Int) != (41 : Int))) S (q_pickF' rfl hc54 rfl) fun a S => ?_
    refine lx_nil ?_
    obtain rfl := Option.some.inj hm
    exact ⟨S.sub ⟨rfl, rfl, rfl, trivial⟩, H⟩
  ·rintro a w ⟨S, H⟩
   refine lx_nil (thenN ?_)
   refine cond_b S rfl (fun hc57 => ?_) (fun hc57 => ?_)
   ·have hm := ite_t hc57 hm
    refine wp_seq (region_plain ?_)
    refine lq (.slice none 0 0) S (q_assign rfl) fun a S => ?_
    refine lq (.bool false) S (q_assign rfl) fun a S => ?_
    refine lx_nil (thenN ?_)
    refine wp_ret (then_ret ?_)
    obtain rfl := Option.some.inj hm
    have H : Heap w0 [oA (rList (rInt .i64)) (.slice none 0 0) ([] : List Int)] w := H.nilList (rInt .i64)
    exact leave2 S rfl rfl rfl ⟨(.slice none 0 0), rfl, H⟩
   ·have hm := ite_f hc57 hm
    refine wp_skip (thenN ?_)
    refine wp_seq (region_plain ?_)
    refine lq (sv a0) S (q_move rfl) fun a S => ?_
    refine lq (.int .i64 x33) S (q_move rfl) fun a S => ?_
    refine lq (.int .i64 (W (x33 + (1 : Int)))) S (q_add rfl rfl) fun a S => ?_
    refine lq (sv a0) S (q_move rfl) fun a S => ?_
    refine lq (.int .i64 (a0.length : Int)) S (q_lenStr rfl rfl Tryz.underlying9) fun a S => ?_
    refine lq (.int .i64 (W ((a0.length : Int) - (1 : Int)))) S (q_sub rfl rfl) fun a S => ?_
    obtain ⟨xs59, e60, hm⟩ := bind_some hm
    obtain ⟨hsb, hse⟩ := sub_some e60
    replace hse := hse.symm
    subst hse
    refine lq (sv ((a0.take ((W ((a0.length : Int) - (1 : Int)))).toNat).drop ((W (x33 + (1 : Int)))).toNat)) S (q_ssub (lo := (some (.tmp 34))) (hi := (some (.tmp 37))) (l := (W (x33 + (1 : Int)))) (h := (W ((a0.length : Int) - (1 : Int)))) rfl Tryz.underlying9 rfl rfl hsb.1 hsb.2.1 hsb.2.2) fun a S => ?_
    obtain ⟨x63, e64, hm⟩ := bind_some hm
    refine lx_call (xs := [.tmp 38, .const (.int .u8 (44))]) S trivial (by decide) rfl rfl Tryz.call98 ((spec_l01Split_ok   e64).mono ?_)
    rintro e w61 ⟨v65, rfl, Hc62⟩
    have H := H.call1 Hc62
    refine ⟨_, rfl, trivial, fun a S => ?_⟩
    refine lq v65 S (q_assign rfl) fun a S => ?_
    refine lx_nil (thenN ?_)
    refine wp_seq (region_plain ?_)
    refine lx_buildSlice0 (r := (rInt .i64)) S trivial (by decide) rfl H Tryz.underlying42 Tryz.sizeOf2 (fun v68 w69 H => ⟨trivial, fun a S => ?_⟩)
    refine lq v68 S (q_assign rfl) fun a S => ?_
    refine lx_nil (thenN ?_)
    refine wp_seq (wp_seq (region_plain ?_))
    refine lq (.int .i64 (0 : Int)) S (q_assign rfl) fun a S => ?_
    refine lx_nil (thenN ?_)
    obtain ⟨res142, hit143, hk146⟩ := bind_some hm
    obtain ⟨f144, hf145, hit143⟩ := iter_name hit143
    refine block_loop (fun a w => ∃ (xs140 : List Int) (v139 : Value), Slots a 70 [(6, v139)] ∧ Heap w0 [oA (rList (rInt .i64)) v139 xs140] w ∧ res142 = .inl (xs140)) ?_ ?_
    ·rintro a w ⟨xs140, v139, S, H, rfl⟩
     have hm := ctl_inl hk146
     refine thenN ?_
     refine wp_seq (region_plain ?_)
     refine lq v139 S (q_move rfl) fun a S => ?_
     refine lq v139 S (q_move rfl) fun a S => ?_
     refine lq (.int .i64 (xs140.length : Int)) S (q_lenSl rfl (H.isSl 0 rfl) rfl Tryz.underlying42) fun a S => ?_
     refine lq (.bool (decide ((xs140.length : Int) ≤ (2 : Int)))) S (q_leq rfl rfl) fun a S => ?_
     refine lq v139 S (q_assign rfl) fun a S => ?_
     refine lq (.bool (decide ((xs140.length : Int) ≤ (2 : Int)))) S (q_assign rfl) fun a S => ?_
     refine lx_nil (thenN ?_)
     refine wp_ret ?_
     obtain rfl := Option.some.inj hm
     exact leave2 S rfl rfl rfl ⟨v139, rfl, H⟩
    ·skip
     have H : Heap w0 [oA (rList rStr) v65 x63, oA (rList (rInt .i64)) v68 ([] : List Int)] w69 := H.front 1 rfl
     refine loop_ghost (fun n a w => ∃ (xs104 : List Int) (x106 : Int) (v103 : Value), Slots a 70 [(5, v65), (6, v103), (7, (.int .i64 x106))] ∧ Heap w0 [oA (rList rStr) v65 x63, oA (rList (rInt .i64)) v103 xs104] w ∧ iter f144 n (xs104, x106) = some res142) _ ⟨([] : List Int), (0 : Int), v68, S.sub ⟨rfl, rfl, rfl, trivial⟩, H, hit143⟩ ?_
     rintro n a w ⟨xs104, x106, v103, S, H, hit143⟩
     obtain ⟨m147, o148, rfl, hm, hc149⟩ := iter_step hit143
     rw [hf145] at hm
     refine wp_seq (wp_seq (region_plain ?_))
     refine lq (.int .i64 x106) S (q_move rfl) fun a S => ?_
     refine lq v65 S (q_move rfl) fun a S => ?_
     refine lq (.int .i64 (x63.length : Int)) S (q_lenSl rfl (H.isSl 0 rfl) rfl Tryz.underlying23) fun a S => ?_
     refine lq (.bool (decide (x106 < (x63.length : Int)))) S (q_lss rfl rfl) fun a S => ?_
     refine lx_nil (thenN ?_)
     refine cond_b S rfl (fun hc150 => ?_) (fun hc150 => ?_)
     ·have hm := ite_t hc150 hm
      refine wp_skip (thenN ?_)
      refine wp_seq ?_
      refine wp_block ?_
      refine wp_seq (region_plain ?_)
      refine lq v65 S (q_move rfl) fun a S => ?_
      refine lq (.int .i64 x106) S (q_move rfl) fun a S => ?_
      obtain ⟨x151, e152, hm⟩ := bind_some hm
      have hlt := lt_of_idx (idx_some e152).2
      refine lq (ePtr v65 (x106.toNat * 1)) S (q_indexAddr rfl (H.isSl 0 rfl) rfl (idx_some e152).1 hlt Tryz.underlying23 Tryz.sizeOf9) fun a S => ?_
      obtain ⟨c153, h154, hat155⟩ := (H.rdAt 0 rfl).elem (idx_some e152).2
      obtain rfl := h154
      refine lx_e (sv x151) S trivial (by decide) rfl trivial (q_load1 rfl Tryz.isAgg9 (by rintro _ rfl; exact (hat155 0 _ rfl))) (fun a S => ?_)
      obtain ⟨x158, e159, hm⟩ := bind_some hm
      refine lx_call (xs := [.tmp 51]) S trivial (by decide) rfl rfl Tryz.call99 ((spec_l01Number_ok  e159).mono ?_)
      rintro e w156 ⟨rfl, Hc157⟩
      have H := H.call0 Hc157
      refine ⟨_, rfl, trivial, fun a S => ?_⟩
      refine lq (.tuple #[(.int .i64 x158.1), (.bool x158.2)]) S (q_move rfl) fun a S => ?_
      refine lq (.int .i64 x158.1) S (q_extract rfl rfl) fun a S => ?_
      refine lq (.bool x158.2) S (q_extract rfl rfl) fun a S => ?_
      refine lq (.int .i64 x158.1) S (q_assign rfl) fun a S => ?_
      refine lq (.bool x158.2) S (q_assign rfl) fun a S => ?_
      refine lx_nil (thenN ?_)
      refine wp_seq (wp_seq (region_plain ?_))
      refine lq (.bool x158.2) S (q_move rfl) fun a S => ?_
      refine lq (.bool (!x158.2)) S (q_not rfl) fun a S => ?_
      refine lq (.bool (!x158.2)) S (q_move rfl) fun a S => ?_
      obtain ⟨t161, e162, hm⟩ := bind_some hm
      refine lx_cut 4 (fun a w => Slots a 70 [(5, v65), (6, v103), (7, (.int .i64 x106)), (8, (.int .i64 x158.1)), (61, (.bool t161))] ∧ Heap w0 [oA (rList rStr) v65 x63, oA (rList (rInt .i64)) v103 xs104] w) ?_ ?_
      ·by_cases hc163 : (!x158.2) = true
       ·have hm := ite_t hc163 e162
        refine lx_skip S rfl rfl (isB_ne hc163) (by decide) (fun a S => ?_)
        refine lx_skip S rfl rfl (isB_ne hc163) (by decide) (fun a S => ?_)
        refine lx_skip S rfl rfl (isB_ne hc163) (by decide) (fun a S => ?_)
        refine lq (.bool true) S (q_pickT' rfl hc163 rfl) fun a S => ?_
        refine lx_nil ?_
        obtain rfl := Option.some.inj hm
        exact ⟨S.sub ⟨rfl, rfl, rfl, rfl, rfl, trivial⟩, H⟩
       ·have hm := ite_f (eq_false_of_ne_true hc163) e162
        have hc163 : (!x158.2) = false := eq_false_of_ne_true hc163
        refine lx_q (.int .i64 x158.1) S (want_b rfl rfl hc163) (by decide) (q_move rfl) (fun a S => ?_)
        obtain ⟨x166, e167, hm⟩ := bind_some hm
        refine lx_call (xs := [.tmp 58, .const (.int .i64 (0)), .const (.int .i64 (63))]) S (want_b rfl rfl hc163) (by decide) rfl rfl Tryz.call28 ((spec_l00In_ok    e167).mono ?_)
        rintro e w164 ⟨rfl, Hc165⟩
        have H := H.call0 Hc165
        refine ⟨_, rfl, trivial, fun a S => ?_⟩
        refine lx_q (.bool (!x166)) S (want_b rfl rfl hc163) (by decide) (q_not rfl) (fun a S => ?_)
        refine lq (.bool (!x166)) S (q_pickF' rfl hc163 rfl) fun a S => ?_
        refine lx_nil ?_
        obtain rfl := Option.some.inj hm
        exact ⟨S.sub ⟨rfl, rfl, rfl, rfl, rfl, trivial⟩, H⟩
      ·rintro a w ⟨S, H⟩
       refine lx_nil (thenN ?_)
       refine cond_b S rfl (fun hc169 => ?_) (fun hc169 => ?_)
       ·have hm := ite_t hc169 hm
        refine wp_seq (region_plain ?_)
        refine lq (.slice none 0 0) S (q_assign rfl) fun a S => ?_
        refine lq (.bool false) S (q_assign rfl) fun a S => ?_
        refine lx_nil (thenN ?_)
        refine wp_ret (then_ret ?_)
        refine inBlock_ret ?_
        refine then_ret ?_
        refine then_ret ?_
        refine inBlock_ret ?_
        refine then_ret ?_
        refine then_ret ?_
        obtain rfl := it_brk hm hc149
        have hm := ctl_inr hk146
        obtain rfl := Option.some.inj hm
        have H : Heap w0 [oA (rList (rInt .i64)) (.slice none 0 0) ([] : List Int), oA (rList rStr) v65 x63, oA (rList (rInt .i64)) v103 xs104] w := H.nilList (rInt .i64)
        have H : Heap w0 [oA (rList (rInt .i64)) (.slice none 0 0) ([] : List Int)] w := H.sel [0] (by decide)
        exact leave2 S rfl rfl rfl ⟨(.slice none 0 0), rfl, H⟩
       ·have hm := ite_f hc169 hm
        refine wp_skip (thenN ?_)
        refine region_plain ?_
        refine lq v103 S (q_move rfl) fun a S => ?_
        refine lq (.int .i64 x158.1) S (q_move rfl) fun a S => ?_
        refine lx_buildSlice (r := (rInt .i64)) (xs := [x158.1]) (ps := [(0, [(.int .i64 x158.1)])]) (cs := [(.int .i64 x158.1)]) (parts := [(0, .tmp 63)]) S trivial (by decide) rfl (H.put0 (A := eA) rfl) rfl Tryz.underlying42 Tryz.sizeOf2 Tryz.zeroValue2 (by decide) ⟨rfl, rfl, Nat.le_of_ble_eq_true rfl, trivial⟩ (by intro zs hz; exact fill_dense hz ⟨rfl, trivial⟩ rfl rfl) rfl (by decide) (fun w F hA => by cases (show F = [] from hA); exact ⟨_, _, [(.int .i64 x158.1)], _, rfl, rfl, ⟨rfl, rfl⟩, ⟨rfl, rfl⟩⟩) (fun v171 w172 H => ⟨trivial, fun a S => ?_⟩)
        obtain ⟨x174, e175, hm⟩ := bind_some hm
        obtain ⟨hle, hap⟩ := app_some e175
        replace hap := hap.symm
        subst hap
        have H : Heap w0 [oA (rList (rInt .i64)) v171 [x158.1], oA (rList rStr) v65 x63, oA (rList (rInt .i64)) v103 xs104] w172 := H.front 0 rfl
        have H : Heap w0 [oA (rList (rInt .i64)) v103 xs104, oA (rList (rInt .i64)) v171 [x158.1], oA (rList rStr) v65 x63] w172 := H.front 2 rfl
        refine lx_appendOwn (r := (rInt .i64)) S trivial (by decide) rfl H rfl rfl Tryz.underlying42 Tryz.ti2 rfl rfl rfl (Nat.le_of_ble_eq_true rfl) (by decide) hle (fun v176 w177 H => ⟨trivial, fun a S => ?_⟩)
        refine lq v176 S (q_assign rfl) fun a S => ?_
        refine lx_nil ?_
        refine inBlock_norm ?_
        refine thenN ?_
        refine region_plain ?_
        refine lq (.int .i64 x106) S (q_move rfl) fun a S => ?_
        refine lq (.int .i64 (W (x106 + (1 : Int)))) S (q_add rfl rfl) fun a S => ?_
        refine lq (.int .i64 (W (x106 + (1 : Int)))) S (q_assign rfl) fun a S => ?_
        refine lx_nil ?_
        have H : Heap w0 [oA (rList rStr) v65 x63, oA (rList (rInt .i64)) v176 (xs104 ++ [x158.1])] w177 := H.front 1 rfl
        exact ⟨m147, Nat.lt_succ_self _, (xs104 ++ [x158.1]), (W (x106 + (1 : Int))), v176, S.sub ⟨rfl, rfl, rfl, trivial⟩, H, it_cont hm hc149⟩
     ·have hm := ite_f hc150 hm
      refine wp_exit ?_
      refine then_exit ?_
      refine then_exit ?_
      refine inBlock_exit ?_
      obtain rfl := it_brk hm hc149
      have H : Heap w0 [oA (rList (rInt .i64)) v103 xs104] w := H.sel [1] (by decide)
      exact ⟨xs104, v103, S.sub ⟨rfl, trivial⟩, H, rfl⟩

/-- spec.l01Label -/
def spec_l01Label_m (fuel : Nat) (a0 : Str) : Option (Bool) :=
  (spec_l01Values_m fuel a0).bind fun x33 => some (x33.2)
set_option maxRecDepth 20000 in
theorem spec_l01Label_ok [dr : Dr] {w0 : World} {fuel : Nat} {a0 : Str} {r : Bool} (hm : spec_l01Label_m fuel a0 = some r) :
  Calls Tryz.prog 69 #[sv a0] w0 fun e w => e = .returned (.bool r) ∧ Heap w0 [] w := by
 unfold spec_l01Label_m at hm
 have H := Heap.start w0
 refine enter (args := [sv a0]) Tryz.func69 rfl 11 rfl (Nat.le_of_ble_eq_true rfl) (fun a S => ?_)
 refine wp_seq (region_plain ?_)
 refine lq (.bool false) S (q_assign rfl) fun a S => ?_
 refine lx_nil (thenN ?_)
 refine wp_seq (region_plain ?_)
 refine lq (sv a0) S (q_move rfl) fun a S => ?_
 obtain ⟨x33, e34, hm⟩ := bind_some hm
 refine lx_call (xs := [.tmp 6]) S trivial (by decide) rfl rfl Tryz.call82 ((spec_l01Values_ok  e34).mono ?_)
 rintro e w31 ⟨v35, rfl, Hc32⟩
 have H := H.call1 Hc32
 refine ⟨_, rfl, trivial, fun a S => ?_⟩
 refine lq (.tuple #[v35, (.bool x33.2)]) S (q_move rfl) fun a S => ?_
 refine lq v35 S (q_extract rfl rfl) fun a S => ?_
 refine lq (.bool x33.2) S (q_extract rfl rfl) fun a S => ?_
 refine lq v35 S (q_assign rfl) fun a S => ?_
 refine lq (.bool x33.2) S (q_assign rfl) fun a S => ?_
 refine lx_nil (thenN ?_)
 refine wp_seq (region_plain ?_)
 refine lq (.bool x33.2) S (q_move rfl) fun a S => ?_
 refine lq (.bool x33.2) S (q_assign rfl) fun a S => ?_
 refine lx_nil (thenN ?_)
 refine wp_ret ?_
 obtain rfl := Option.some.inj hm
 have H : Heap w0 [] w31 := H.sel [] (by decide)
 exact leave1 S rfl rfl ⟨rfl, H⟩

/-- spec.l14Pattern -/
def spec_l14Pattern_m (fuel : Nat) (a0 : Str) : Option (Bool) :=
  (if (a0 == ([] : Str)) = true then some true else (spec_l01Label_m fuel a0).bind fun x36 => some x36).bind fun t31 => (if t31 = true then some (true) else (idx a0 (W ((a0.length : Int) - (1 : Int)))).bind fun b40 => (if ((b40.toNat : Int) == (42 : Int)) = true then (sub a0 (0 : Int) (W ((a0.length : Int) - (1 : Int)))).bind fun xs45 => (spec_l01Action_m fuel xs45).bind fun x49 => some x49 else some false).bind fun t42 => some (t42))
set_option maxRecDepth 20000 in
theorem spec_l14Pattern_ok [dr : Dr] {w0 : World} {fuel : Nat} {a0 : Str} {r : Bool} (hm : spec_l14Pattern_m fuel a0 = some r) :
  Calls Tryz.prog 68 #[sv a0] w0 fun e w => e = .returned (.bool r) ∧ Heap w0 [] w := by
 unfold spec_l14Pattern_m at hm
 have H := Heap.start w0
 refine enter (args := [sv a0]) Tryz.func68 rfl 23 rfl (Nat.le_of_ble_eq_true rfl) (fun a S => ?_)
 refine wp_seq (region_plain ?_)
 refine lq (.bool false) S (q_assign rfl) fun a S => ?_
 refine lx_nil (thenN ?_)
 refine wp_seq (wp_seq (region_plain ?_))
 refine lq (sv a0) S (q_move rfl) fun a S => ?_
 refine lq (.bool (a0 == ([] : Str))) S (q_seql rfl rfl) fun a S => ?_
 refine lq (.bool (a0 == ([] : Str))) S (q_move rfl) fun a S => ?_
 obtain ⟨t31, e32, hm⟩ := bind_some hm
 refine lx_cut 3 (fun a w => Slots a 23 [(0, (sv a0)), (8, (.bool t31))] ∧ Heap w0 [] w) ?_ ?_
 ·by_cases hc33 : (a0 == ([] : Str)) = true
  ·have hm := ite_t hc33 e32
   refine lx_skip S rfl rfl (isB_ne hc33) (by decide) (fun a S => ?_)
   refine lx_skip S rfl rfl (isB_ne hc33) (by decide) (fun a S => ?_)
   refine lq (.bool true) S (q_pickT' rfl hc33 rfl) fun a S => ?_
   refine lx_nil ?_
   obtain rfl := Option.some.inj hm
   exact ⟨S.sub ⟨rfl, rfl, trivial⟩, H⟩
  ·have hm := ite_f (eq_false_of_ne_true hc33) e32
   have hc33 : (a0 == ([] : Str)) = false := eq_false_of_ne_true hc33
   refine lx_q (sv a0) S (want_b rfl rfl hc33) (by decide) (q_move rfl) (fun a S => ?_)
   obtain ⟨x36, e37, hm⟩ := bind_some hm
   refine lx_call (xs := [.tmp 6]) S (want_b rfl rfl hc33) (by decide) rfl rfl Tryz.call69 ((spec_l01Label_ok  e37).mono ?_)
   rintro e w34 ⟨rfl, Hc35⟩
   have H := H.call0 Hc35
   refine ⟨_, rfl, trivial, fun a S => ?_⟩
   refine lq (.bool x36) S (q_pickF' rfl hc33 rfl) fun a S => ?_
   refine lx_nil ?_
   obtain rfl := Option.some.inj hm
   exact ⟨S.sub ⟨rfl, rfl, trivial⟩, H⟩
 ·rintro a w ⟨S, H⟩
  refine lx_nil (thenN ?_)
  refine cond_b S rfl (fun hc39 => ?_) (fun hc39 => ?_)
  ·have hm := ite_t hc39 hm
   refine wp_seq (region_plain ?_)
   refine lq (.bool true) S (q_assign rfl) fun a S => ?_
   refine lx_nil (thenN ?_)
   refine wp_ret (then_ret ?_)
   obtain rfl := Option.some.inj hm
   exact leave1 S rfl rfl ⟨rfl, H⟩
  ·have hm := ite_f hc39 hm
   refine wp_skip (thenN ?_)
   refine wp_seq (region_plain ?_)
   refine lq (sv a0) S (q_move rfl) fun a S => ?_
   refine lq (sv a0) S (q_move rfl) fun a S => ?_
   refine lq (.int .i64 (a0.length : Int)) S (q_lenStr rfl rfl Tryz.underlying9) fun a S => ?_
   refine lq (.int .i64 (W ((a0.length : Int) - (1 : Int)))) S (q_sub rfl rfl) fun a S => ?_
   obtain ⟨b40, e41, hm⟩ := bind_some hm
   refine lq (.int .u8 (b40.toNat : Int)) S (q_sidx rfl rfl Tryz.underlying9 e41) fun a S => ?_
   refine lq (.bool ((b40.toNat : Int) == (42 : Int))) S (q_eql rfl rfl) fun a S => ?_
   refine lq (.bool ((b40.toNat : Int) == (42 : Int))) S (q_move rfl) fun a S => ?_
   obtain ⟨t42, e43, hm⟩ := bind_some hm
   refine lx_cut 7 (fun a w => Slots a 23 [(22, (.bool t42))] ∧ Heap w0 [] w) ?_ ?_
   ·by_cases hc44 : ((b40.toNat : Int) == (42 : Int)) = true
    ·have hm := ite_t hc44 e43
     refine lx_q (sv a0) S (want_b rfl rfl hc44) (by decide) (q_move rfl) (fun a S => ?_)
     refine lx_q (sv a0) S (want_b rfl rfl hc44) (by decide) (q_move rfl) (fun a S => ?_)
     refine lx_q (.int .i64 (a0.length : Int)) S (want_b rfl rfl hc44) (by decide) (q_lenStr rfl rfl Tryz.underlying9) (fun a S => ?_)
     refine lx_q (.int .i64 (W ((a0.length : Int) - (1 : Int)))) S (want_b rfl rfl hc44) (by decide) (q_sub rfl rfl) (fun a S => ?_)
     obtain ⟨xs45, e46, hm⟩ := bind_some hm
     obtain ⟨hsb, hse⟩ := sub_some e46
     replace hse := hse.symm
     subst hse
     refine lx_q (sv ((a0.take ((W ((a0.length : Int) - (1 : Int)))).toNat).drop ((0 : Int)).toNat)) S (want_b rfl rfl hc44) (by decide) (q_ssub (lo := none) (hi := (some (.tmp 19))) (l := (0 : Int)) (h := (W ((a0.length : Int) - (1 : Int)))) rfl Tryz.underlying9 rfl rfl hsb.1 hsb.2.1 hsb.2.2) (fun a S => ?_)
     obtain ⟨x49, e50, hm⟩ := bind_some hm
     refine lx_call (xs := [.tmp 20]) S (want_b rfl rfl hc44) (by decide) rfl rfl Tryz.call81 ((spec_l01Action_ok  e50).mono ?_)
     rintro e w47 ⟨rfl, Hc48⟩
     have H := H.call0 Hc48
     refine ⟨_, rfl, trivial, fun a S => ?_⟩
     refine lq (.bool x49) S (q_pickT' rfl hc44 rfl) fun a S => ?_
     refine lx_nil ?_
     obtain rfl := Option.some.inj hm
     exact ⟨S.sub ⟨rfl, trivial⟩, H⟩
    ·have hm := ite_f (eq_false_of_ne_true hc44) e43
     have hc44 : ((b40.toNat : Int) == (42 : Int)) = false := eq_false_of_ne_true hc44
     refine lx_skip S rfl rfl (isB_ne hc44) (by decide) (fun a S => ?_)
     refine lx_skip S rfl rfl (isB_ne hc44) (by decide) (fun a S => ?_)
     refine lx_skip S rfl rfl (isB_ne hc44) (by decide) (fun a S => ?_)
     refine lx_skip S rfl rfl (isB_ne hc44) (by decide) (fun a S => ?_)
     refine lx_skip S rfl rfl (isB_ne hc44) (by decide) (fun a S => ?_)
     refine lx_skip S rfl rfl (isB_ne hc44) (by decide) (fun a S => ?_)
     refine lq (.bool false) S (q_pickF' rfl hc44 rfl) fun a S => ?_
     refine lx_nil ?_
     obtain rfl := Option.some.inj hm
     exact ⟨S.sub ⟨rfl, trivial⟩, H⟩
   ·rintro a w ⟨S, H⟩
    refine lq (.bool t42) S (q_assign rfl) fun a S => ?_
    refine lx_nil (thenN ?_)
    refine wp_ret ?_
    obtain rfl := Option.some.inj hm
    exact leave1 S rfl rfl ⟨rfl, H⟩

/-- spec.l14Shape -/
def spec_l14Shape_m (fuel : Nat) (a0 : (List Timpl_Node)) (a1 : Int) (a2 : Int) : Option (Bool) :=
  (if (decide ((a0.length : Int) < (1 : Int))) = true then some true else some (decide (a1 < (a0.length : Int)))).bind fun t31 => (if t31 = true then some (false) else (iter (fun (s : (Int) × (Int)) => (match s with | (x192, x193) => (if (decide (x193 < (a0.length : Int))) = true then (if (x192 == (0 : Int)) = true then some true else (idx a0 x193).bind fun x364 => (spec_l00In_m fuel x364.1 (0 : Int) a2).bind fun x383 => some (!x383)).bind fun t361 => (if t361 = true then some (.inr (.inr false)) else (idx a0 x193).bind fun x387 => (spec_l14Arity_m fuel x387.1).bind fun x406 => (idx a0 x193).bind fun x409 => (if (x409.1 == (4 : Int)) = true then some true else (idx a0 x193).bind fun x429 => some (x429.1 == (5 : Int))).bind fun t426 => (if t426 = true then (idx a0 x193).bind fun x449 => (spec_l14Pattern_m fuel x449.2.2.1).bind fun x468 => some (!x468) else some false).bind fun t446 => (if t446 = true then some true else (if (!t426) = true then (idx a0 x193).bind fun x477 => (if (x477.2.2.1 != ([] : Str)) = true then some true else (idx a0 x193).bind fun x497 => some x497.2.2.2).bind fun t494 => some t494 else some false).bind fun t474 => some t474).bind fun t471 => (if t471 = true then some (.inr (.inr false)) else some (.inl ((W (x192 + (W (x406 - (1 : Int))))), (W (x193 + (1 : Int))))))) else some (.inr (.inl (x192)))) : Option (((Int) × (Int)) ⊕ ((Int) ⊕ (Bool))))) fuel ((1 : Int), (0 : Int))).bind fun res352 => ctl (β := Int) (ρ := Bool) (τ := Bool) res352 (fun (x351) => some ((x351 == (0 : Int)))) (fun q => some (q)))
set_option maxRecDepth 20000 in
theorem spec_l14Shape_ok [dr : Dr] {w0 : World} {fuel : Nat} {p0 : Value} {a0 : (List Timpl_Node)} {a1 : Int} {a2 : Int} {r : Bool} (h0 : Rd (rList Rimpl_Node) w0 p0 a0) (hm : spec_l14Shape_m fuel a0 a1 a2 = some r) :
  Calls Tryz.prog 47 #[p0, .int .i64 a1, .int .i64 a2] w0 fun e w => e = .returned (.bool r) ∧ Heap w0 [] w := by
 unfold spec_l14Shape_m at hm
 have H := Heap.start w0
 refine enter (args := [p0, .int .i64 a1, .int .i64 a2]) Tryz.func47 rfl 91 rfl (Nat.le_of_ble_eq_true rfl) (fun a S => ?_)
 refine wp_seq (region_plain ?_)
 refine lq (.bool false) S (q_assign rfl) fun a S => ?_
 refine lx_nil (thenN ?_)
 refine wp_seq (wp_seq (region_plain ?_))
 refine lq p0 S (q_move rfl) fun a S => ?_
 refine lq (.int .i64 (a0.length : Int)) S (q_lenSl rfl (h0).isSl rfl Tryz.underlying31) fun a S => ?_
 refine lq (.bool (decide ((a0.length : Int) < (1 : Int)))) S (q_lss rfl rfl) fun a S => ?_
 refine lq (.bool (decide ((a0.length : Int) < (1 : Int)))) S (q_move rfl) fun a S => ?_
 obtain ⟨t31, e32, hm⟩ := bind_some hm
 refine lx_cut 5 (fun a w => Slots a 91 [(0, p0), (2, (.int .i64 a2)), (18, (.bool t31))] ∧ Heap w0 [] w) ?_ ?_
 ·by_cases hc33 : (decide ((a0.length : Int) < (1 : Int))) = true
  ·have hm := ite_t hc33 e32
   refine lx_skip S rfl rfl (isB_ne hc33) (by decide) (fun a S => ?_)
   refine lx_skip S rfl rfl (isB_ne hc33) (by decide) (fun a S => ?_)
   refine lx_skip S rfl rfl (isB_ne hc33) (by decide) (fun a S => ?_)
   refine lx_skip S rfl rfl (isB_ne hc33) (by decide) (fun a S => ?_)
   refine lq (.bool true) S (q_pickT' rfl hc33 rfl) fun a S => ?_
   refine lx_nil ?_
   obtain rfl := Option.some.inj hm
   exact ⟨S.sub ⟨rfl, rfl, rfl, trivial⟩, H⟩
  ·have hm := ite_f (eq_false_of_ne_true hc33) e32
   have hc33 : (decide ((a0.length : Int) < (1 : Int))) = false := eq_false_of_ne_true hc33
   refine lx_q p0 S (want_b rfl rfl hc33) (by decide) (q_move rfl) (fun a S => ?_)
   refine lx_q (.int .i64 (a0.length : Int)) S (want_b rfl rfl hc33) (by decide) (q_lenSl rfl (h0).isSl rfl Tryz.underlying31) (fun a S => ?_)
   refine lx_q (.int .i64 a1) S (want_b rfl rfl hc33) (by decide) (q_move rfl) (fun a S => ?_)
   refine lx_q (.bool (decide (a1 < (a0.length : Int)))) S (want_b rfl rfl hc33) (by decide) (q_gtr rfl rfl) (fun a S => ?_)
   refine lq (.bool (decide (a1 < (a0.length : Int)))) S (q_pickF' rfl hc33 rfl) fun a S => ?_
   refine lx_nil ?_
   obtain rfl := Option.some.inj hm
   exact ⟨S.sub ⟨rfl, rfl, rfl, trivial⟩, H⟩
 ·rintro a w ⟨S, H⟩
  refine lx_nil (thenN ?_)
  refine cond_b S rfl (fun hc34 => ?_) (fun hc34 => ?_)
  ·have hm := ite_t hc34 hm
   refine wp_seq (region_plain ?_)
   refine lq (.bool false) S (q_assign rfl) fun a S => ?_
   refine lx_nil (thenN ?_)
   refine wp_ret (then_ret ?_)
   obtain rfl := Option.some.inj hm
   exact leave1 S rfl rfl ⟨rfl, H⟩
  ·have hm := ite_f hc34 hm
   refine wp_skip (thenN ?_)
   refine wp_seq (region_plain ?_)
   refine lq (.int .i64 (1 : Int)) S (q_assign rfl) fun a S => ?_
   refine lx_nil (thenN ?_)
   refine wp_seq (wp_seq (region_plain ?_))
   refine lq (.int .i64 (0 : Int)) S (q_assign rfl) fun a S => ?_
   refine lx_nil (thenN ?_)
   obtain ⟨res352, hit353, hk356⟩ := bind_some hm
   obtain ⟨f354, hf355, hit353⟩ := iter_name hit353
   refine block_loop (fun a w => ∃ (x351 : Int), Slots a 91 [(7, (.int .i64 x351))] ∧ Heap w0 [] w ∧ res352 = .inl (x351)) ?_ ?_
   ·rintro a w ⟨x351, S, H, rfl⟩
    have hm := ctl_inl hk356
    refine thenN ?_
    refine wp_seq (region_plain ?_)
    refine lq (.int .i64 x351) S (q_move rfl) fun a S => ?_
    refine lq (.bool (x351 == (0 : Int))) S (q_eql rfl rfl) fun a S => ?_
    refine lq (.bool (x351 == (0 : Int))) S (q_assign rfl) fun a S => ?_
    refine lx_nil (thenN ?_)
    refine wp_ret ?_
    obtain rfl := Option.some.inj hm
    exact leave1 S rfl rfl ⟨rfl, H⟩
   ·skip
    refine loop_ghost (fun n a w => ∃ (x192 : Int) (x193 : Int), Slots a 91 [(0, p0), (2, (.int .i64 a2)), (7, (.int .i64 x192)), (8, (.int .i64 x193))] ∧ Heap w0 [] w ∧ iter f354 n (x192, x193) = some res352) _ ⟨(1 : Int), (0 : Int), S.sub ⟨rfl, rfl, rfl, rfl, trivial⟩, H, hit353⟩ ?_
    rintro n a w ⟨x192, x193, S, H, hit353⟩
    obtain ⟨m357, o358, rfl, hm, hc359⟩ := iter_step hit353
    rw [hf355] at hm
    refine wp_seq (wp_seq (region_plain ?_))
    refine lq (.int .i64 x193) S (q_move rfl) fun a S => ?_
    refine lq p0 S (q_move rfl) fun a S => ?_
    refine lq (.int .i64 (a0.length : Int)) S (q_lenSl rfl (h0).isSl rfl Tryz.underlying31) fun a S => ?_
    refine lq (.bool (decide (x193 < (a0.length : Int)))) S (q_lss rfl rfl) fun a S => ?_
    refine lx_nil (thenN ?_)
    refine cond_b S rfl (fun hc360 => ?_) (fun hc360 => ?_)
    ·have hm := ite_t hc360 hm
     refine wp_skip (thenN ?_)
     refine wp_seq ?_
     refine wp_block ?_
     refine wp_seq (wp_seq (region_plain ?_))
     refine lq (.int .i64 x192) S (q_move rfl) fun a S => ?_
     refine lq (.bool (x192 == (0 : Int))) S (q_eql rfl rfl) fun a S => ?_
     refine lq (.bool (x192 == (0 : Int))) S (q_move rfl) fun a S => ?_
     obtain ⟨t361, e362, hm⟩ := bind_some hm
     refine lx_cut 9 (fun a w => Slots a 91 [(0, p0), (2, (.int .i64 a2)), (7, (.int .i64 x192)), (8, (.int .i64 x193)), (36, (.bool t361))] ∧ Heap w0 [] w) ?_ ?_
     ·by_cases hc363 : (x192 == (0 : Int)) = true
      ·have hm := ite_t hc363 e362
       refine lx_skip S rfl rfl (isB_ne hc363) (by decide) (fun a S => ?_)
       refine lx_skip S rfl rfl (isB_ne hc363) (by decide) (fun a S => ?_)
       refine lx_skip S rfl rfl (isB_ne hc363) (by decide) (fun a S => ?_)
       refine lx_skip S rfl rfl (isB_ne hc363) (by decide) (fun a S => ?_)
       refine lx_skip S rfl rfl (isB_ne hc363) (by decide) (fun a S => ?_)
       refine lx_skip S rfl rfl (isB_ne hc363) (by decide) (fun a S => ?_)
       refine lx_skip S rfl rfl (isB_ne hc363) (by decide) (fun a S => ?_)
       refine lx_skip S rfl rfl (isB_ne hc363) (by decide) (fun a S => ?_)
       refine lq (.bool true) S (q_pickT' rfl hc363 rfl) fun a S => ?_
       refine lx_nil ?_
       obtain rfl := Option.some.inj hm
       exact ⟨S.sub ⟨rfl, rfl, rfl, rfl, rfl, trivial⟩, H⟩
      ·have hm := ite_f (eq_false_of_ne_true hc363) e362
       have hc363 : (x192 == (0 : Int)) = false := eq_false_of_ne_true hc363
       refine lx_q p0 S (want_b rfl rfl hc363) (by decide) (q_move rfl) (fun a S => ?_)
       refine lx_q (.int .i64 x193) S (want_b rfl rfl hc363) (by decide) (q_move rfl) (fun a S => ?_)
       obtain ⟨x364, e365, hm⟩ := bind_some hm
       obtain ⟨c366, h367, hat368⟩ := (h0).elem (idx_some e365).2
       obtain ⟨c369, c370, rfl, h371, h372⟩ := h367
       obtain rfl := h371
       obtain ⟨c373, c374, rfl, h375, h376⟩ := h372
       obtain rfl := h375
       obtain ⟨c377, c378, rfl, h379, h380⟩ := h376
       obtain rfl := h379
       obtain rfl := h380
       have hlt := lt_of_idx (idx_some e365).2
       refine lx_q (ePtr p0 (x193.toNat * 4)) S (want_b rfl rfl hc363) (by decide) (q_indexAddr rfl (h0).isSl rfl (idx_some e365).1 hlt Tryz.underlying31 Tryz.sizeOf61) (fun a S => ?_)
       refine lx_q (pAdd (ePtr p0 (x193.toNat * 4)) 0) S (want_b rfl rfl hc363) (by decide) (q_fieldAddr' 0 2 rfl ((hat368 0 _ rfl).isP) Tryz.underlying61 rfl Tryz.sizeOf2) (fun a S => ?_)
       refine lx_e (.int .i64 x364.1) S (want_b rfl rfl hc363) (by decide) rfl trivial (q_load1 rfl Tryz.isAgg2 (by rintro _ rfl; exact (At.of_add (m := 0) (j := 0) ((hat368 0 _ rfl).ext H.ext)))) (fun a S => ?_)
       refine lx_q (.int .i64 a2) S (want_b rfl rfl hc363) (by decide) (q_move rfl) (fun a S => ?_)
       obtain ⟨x383, e384, hm⟩ := bind_some hm
       refine lx_call (xs := [.tmp 32, .const (.int .i64 (0)), .tmp 33]) S (want_b rfl rfl hc363) (by decide) rfl rfl Tryz.call28 ((spec_l00In_ok    e384).mono ?_)
       rintro e w381 ⟨rfl, Hc382⟩
       have H := H.call0 Hc382
       refine ⟨_, rfl, trivial, fun a S => ?_⟩
       refine lx_q (.bool (!x383)) S (want_b rfl rfl hc363) (by decide) (q_not rfl) (fun a S => ?_)
       refine lq (.bool (!x383)) S (q_pickF' rfl hc363 rfl) fun a S => ?_
       refine lx_nil ?_
       obtain rfl := Option.some.inj hm
       exact ⟨S.sub ⟨rfl, rfl, rfl, rfl, rfl, trivial⟩, H⟩
     ·rintro a w ⟨S, H⟩
      refine lx_nil (thenN ?_)
      refine cond_b S rfl (fun hc386 => ?_) (fun hc386 => ?_)
      ·have hm := ite_t hc386 hm
       refine wp_seq (region_plain ?_)
       refine lq (.bool false) S (q_assign rfl) fun a S => ?_
       refine lx_nil (thenN ?_)
       refine wp_ret (then_ret ?_)
       refine inBlock_ret ?_
       refine then_ret ?_
       refine then_ret ?_
       refine inBlock_ret ?_
       refine then_ret ?_
       refine then_ret ?_
       obtain rfl := it_brk hm hc359
       have hm := ctl_inr hk356
       obtain rfl := Option.some.inj hm
       exact leave1 S rfl rfl ⟨rfl, H⟩
      ·have hm := ite_f hc386 hm
       refine wp_skip (thenN ?_)
       refine wp_seq (region_plain ?_)
       refine lq (.int .i64 x192) S (q_move rfl) fun a S => ?_
       refine lq p0 S (q_move rfl) fun a S => ?_
       refine lq (.int .i64 x193) S (q_move rfl) fun a S => ?_
       obtain ⟨x387, e388, hm⟩ := bind_some hm
       obtain ⟨c389, h390, hat391⟩ := (h0).elem (idx_some e388).2
       obtain ⟨c392, c393, rfl, h394, h395⟩ := h390
       obtain rfl := h394
       obtain ⟨c396, c397, rfl, h398, h399⟩ := h395
       obtain rfl := h398
       obtain ⟨c400, c401, rfl, h402, h403⟩ := h399
       obtain rfl := h402
       obtain rfl := h403
       have hlt := lt_of_idx (idx_some e388).2
       refine lq (ePtr p0 (x193.toNat * 4)) S (q_indexAddr rfl (h0).isSl rfl (idx_some e388).1 hlt Tryz.underlying31 Tryz.sizeOf61) fun a S => ?_
       refine lq (pAdd (ePtr p0 (x193.toNat * 4)) 0) S (q_fieldAddr' 0 2 rfl ((hat391 0 _ rfl).isP) Tryz.underlying61 rfl Tryz.sizeOf2) fun a S => ?_
       refine lx_e (.int .i64 x387.1) S trivial (by decide) rfl trivial (q_load1 rfl Tryz.isAgg2 (by rintro _ rfl; exact (At.of_add (m := 0) (j := 0) ((hat391 0 _ rfl).ext H.ext)))) (fun a S => ?_)
       obtain ⟨x406, e407, hm⟩ := bind_some hm
       refine lx_call (xs := [.tmp 42]) S trivial (by decide) rfl rfl Tryz.call67 ((spec_l14Arity_ok  e407).mono ?_)
       rintro e w404 ⟨rfl, Hc405⟩
       have H := H.call0 Hc405
       refine ⟨_, rfl, trivial, fun a S => ?_⟩
       refine lq (.int .i64 (W (x406 - (1 : Int)))) S (q_sub rfl rfl) fun a S => ?_
       refine lq (.int .i64 (W (x192 + (W (x406 - (1 : Int)))))) S (q_add rfl rfl) fun a S => ?_
       refine lq (.int .i64 (W (x192 + (W (x406 - (1 : Int)))))) S (q_assign rfl) fun a S => ?_
       refine lx_nil (thenN ?_)
       refine wp_seq (region_plain ?_)
       refine lq p0 S (q_move rfl) fun a S => ?_
       refine lq (.int .i64 x193) S (q_move rfl) fun a S => ?_
       obtain ⟨x409, e410, hm⟩ := bind_some hm
       obtain ⟨c411, h412, hat413⟩ := (h0).elem (idx_some e410).2
       obtain ⟨c414, c415, rfl, h416, h417⟩ := h412
       obtain rfl := h416
       obtain ⟨c418, c419, rfl, h420, h421⟩ := h417
       obtain rfl := h420
       obtain ⟨c422, c423, rfl, h424, h425⟩ := h421
       obtain rfl := h424
       obtain rfl := h425
       have hlt := lt_of_idx (idx_some e410).2
       refine lq (ePtr p0 (x193.toNat * 4)) S (q_indexAddr rfl (h0).isSl rfl (idx_some e410).1 hlt Tryz.underlying31 Tryz.sizeOf61) fun a S => ?_
       refine lq (pAdd (ePtr p0 (x193.toNat * 4)) 0) S (q_fieldAddr' 0 2 rfl ((hat413 0 _ rfl).isP) Tryz.underlying61 rfl Tryz.sizeOf2) fun a S => ?_
       refine lx_e (.int .i64 x409.1) S trivial (by decide) rfl trivial (q_load1 rfl Tryz.isAgg2 (by rintro _ rfl; exact (At.of_add (m := 0) (j := 0) ((hat413 0 _ rfl).ext H.ext)))) (fun a S => ?_)
       refine lq (.bool (x409.1 == (4 : Int))) S (q_eql rfl rfl) fun a S => ?_
       refine lq (.bool (x409.1 == (4 : Int))) S (q_move rfl) fun a S => ?_
       obtain ⟨t426, e427, hm⟩ := bind_some hm
       refine lx_cut 7 (fun a w => Slots a 91 [(0, p0), (2, (.int .i64 a2)), (7, (.int .i64 (W (x192 + (W (x406 - (1 : Int))))))), (8, (.int .i64 x193)), (59, (.bool t426))] ∧ Heap w0 [] w) ?_ ?_
       ·by_cases hc428 : (x409.1 == (4 : Int)) = true
        ·have hm := ite_t hc428 e427
         refine lx_skip S rfl rfl (isB_ne hc428) (by decide) (fun a S => ?_)
         refine lx_skip S rfl rfl (isB_ne hc428) (by decide) (fun a S => ?_)
         refine lx_skip S rfl rfl (isB_ne hc428) (by decide) (fun a S => ?_)
         refine lx_skip S rfl rfl (isB_ne hc428) (by decide) (fun a S => ?_)
         refine lx_skip S rfl rfl (isB_ne hc428) (by decide) (fun a S => ?_)
         refine lx_skip S rfl rfl (isB_ne hc428) (by decide) (fun a S => ?_)
         refine lq (.bool true) S (q_pickT' rfl hc428 rfl) fun a S => ?_
         refine lx_nil ?_
         obtain rfl := Option.some.inj hm
         exact ⟨S.sub ⟨rfl, rfl, rfl, rfl, rfl, trivial⟩, H⟩
        ·have hm := ite_f (eq_false_of_ne_true hc428) e427
         have hc428 : (x409.1 == (4 : Int)) = false := eq_false_of_ne_true hc428
         refine lx_q p0 S (want_b rfl rfl hc428) (by decide) (q_move rfl) (fun a S => ?_)
         refine lx_q (.int .i64 x193) S (want_b rfl rfl hc428) (by decide) (q_move rfl) (fun a S => ?_)
         obtain ⟨x429, e430, hm⟩ := bind_some hm
         obtain ⟨c431, h432, hat433⟩ := (h0).elem (idx_some e430).2
         obtain ⟨c434, c435, rfl, h436, h437⟩ := h432
         obtain rfl := h436
         obtain ⟨c438, c439, rfl, h440, h441⟩ := h437
         obtain rfl := h440
         obtain ⟨c442, c443, rfl, h444, h445⟩ := h441
         obtain rfl := h444
         obtain rfl := h445
         have hlt := lt_of_idx (idx_some e430).2
         refine lx_q (ePtr p0 (x193.toNat * 4)) S (want_b rfl rfl hc428) (by decide) (q_indexAddr rfl (h0).isSl rfl (idx_some e430).1 hlt Tryz.underlying31 Tryz.sizeOf61) (fun a S => ?_)
         refine lx_q (pAdd (ePtr p0 (x193.toNat * 4)) 0) S (want_b rfl rfl hc428) (by decide) (q_fieldAddr' 0 2 rfl ((hat433 0 _ rfl).isP) Tryz.underlying61 rfl Tryz.sizeOf2) (fun a S => ?_)
         refine lx_e (.int .i64 x429.1) S (want_b rfl rfl hc428) (by decide) rfl trivial (q_load1 rfl Tryz.isAgg2 (by rintro _ rfl; exact (At.of_add (m := 0) (j := 0) ((hat433 0 _ rfl).ext H.ext)))) (fun a S => ?_)
         refine lx_q (.bool (x429.1 == (5 : Int))) S (want_b rfl rfl hc428) (by decide) (q_eql rfl rfl) (fun a S => ?_)
         refine lq (.bool (x429.1 == (5 : Int))) S (q_pickF' rfl hc428 rfl) fun a S => ?_
         refine lx_nil ?_
         obtain rfl := Option.some.inj hm
         exact ⟨S.sub ⟨rfl, rfl, rfl, rfl, rfl, trivial⟩, H⟩
       ·rintro a w ⟨S, H⟩
        refine lq (.bool t426) S (q_assign rfl) fun a S => ?_
        refine lx_nil (thenN ?_)
        refine wp_seq (region_plain ?_)
        refine lq (.bool t426) S (q_move rfl) fun a S => ?_
        refine lq (.bool t426) S (q_move rfl) fun a S => ?_
        obtain ⟨t446, e447, hm⟩ := bind_some hm
        refine lx_cut 8 (fun a w => Slots a 91 [(0, p0), (2, (.int .i64 a2)), (7, (.int .i64 (W (x192 + (W (x406 - (1 : Int))))))), (8, (.int .i64 x193)), (9, (.bool t426)), (69, (.bool t446))] ∧ Heap w0 [] w) ?_ ?_
        ·by_cases hc448 : t426 = true
         ·have hm := ite_t hc448 e447
          refine lx_q p0 S (want_b rfl rfl hc448) (by decide) (q_move rfl) (fun a S => ?_)
          refine lx_q (.int .i64 x193) S (want_b rfl rfl hc448) (by decide) (q_move rfl) (fun a S => ?_)
          obtain ⟨x449, e450, hm⟩ := bind_some hm
          obtain ⟨c451, h452, hat453⟩ := (h0).elem (idx_some e450).2
          obtain ⟨c454, c455, rfl, h456, h457⟩ := h452
          obtain rfl := h456
          obtain ⟨c458, c459, rfl, h460, h461⟩ := h457
          obtain rfl := h460
          obtain ⟨c462, c463, rfl, h464, h465⟩ := h461
          obtain rfl := h464
          obtain rfl := h465
          have hlt := lt_of_idx (idx_some e450).2
          refine lx_q (ePtr p0 (x193.toNat * 4)) S (want_b rfl rfl hc448) (by decide) (q_indexAddr rfl (h0).isSl rfl (idx_some e450).1 hlt Tryz.underlying31 Tryz.sizeOf61) (fun a S => ?_)
          refine lx_q (pAdd (ePtr p0 (x193.toNat * 4)) 2) S (want_b rfl rfl hc448) (by decide) (q_fieldAddr' 2 9 rfl ((hat453 0 _ rfl).isP) Tryz.underlying61 rfl Tryz.sizeOf9) (fun a S => ?_)
          refine lx_e (sv x449.2.2.1) S (want_b rfl rfl hc448) (by decide) rfl trivial (q_load1 rfl Tryz.isAgg9 (by rintro _ rfl; exact (At.of_add (m := 2) (j := 0) ((hat453 2 _ rfl).ext H.ext)))) (fun a S => ?_)
          obtain ⟨x468, e469, hm⟩ := bind_some hm
          refine lx_call (xs := [.tmp 66]) S (want_b rfl rfl hc448) (by decide) rfl rfl Tryz.call68 ((spec_l14Pattern_ok  e469).mono ?_)
          rintro e w466 ⟨rfl, Hc467⟩
          have H := H.call0 Hc467
          refine ⟨_, rfl, trivial, fun a S => ?_⟩
          refine lx_q (.bool (!x468)) S (want_b rfl rfl hc448) (by decide) (q_not rfl) (fun a S => ?_)
          refine lq (.bool (!x468)) S (q_pickT' rfl hc448 rfl) fun a S => ?_
          refine lx_nil ?_
          obtain rfl := Option.some.inj hm
          exact ⟨S.sub ⟨rfl, rfl, rfl, rfl, rfl, rfl, trivial⟩, H⟩
         ·have hm := ite_f (eq_false_of_ne_true hc448) e447
          have hc448 : t426 = false := eq_false_of_ne_true hc448
          refine lx_skip S rfl rfl (isB_ne hc448) (by decide) (fun a S => ?_)
          refine lx_skip S rfl rfl (isB_ne hc448) (by decide) (fun a S => ?_)
          refine lx_skip S rfl rfl (isB_ne hc448) (by decide) (fun a S => ?_)
          refine lx_skip S rfl rfl (isB_ne hc448) (by decide) (fun a S => ?_)
          refine lx_skip S rfl rfl (isB_ne hc448) (by decide) (fun a S => ?_)
          refine lx_skip S rfl rfl (isB_ne hc448) (by decide) (fun a S => ?_)
          refine lx_skip S rfl rfl (isB_ne hc448) (by decide) (fun a S => ?_)
          refine lq (.bool false) S (q_pickF' rfl hc448 rfl) fun a S => ?_
          refine lx_nil ?_
          obtain rfl := Option.some.inj hm
          exact ⟨S.sub ⟨rfl, rfl, rfl, rfl, rfl, rfl, trivial⟩, H⟩
        ·rintro a w ⟨S, H⟩
         refine lq (.bool t446) S (q_move rfl) fun a S => ?_
         obtain ⟨t471, e472, hm⟩ := bind_some hm
         refine lx_cut 18 (fun a w => Slots a 91 [(0, p0), (2, (.int .i64 a2)), (7, (.int .i64 (W (x192 + (W (x406 - (1 : Int))))))), (8, (.int .i64 x193)), (88, (.bool t471))] ∧ Heap w0 [] w) ?_ ?_
         ·by_cases hc473 : t446 = true
          ·have hm := ite_t hc473 e472
           refine lx_skip S rfl rfl (isB_ne hc473) (by decide) (fun a S => ?_)
           refine lx_skip S rfl rfl (isB_ne hc473) (by decide) (fun a S => ?_)
           refine lx_skip S rfl rfl (isB_ne hc473) (by decide) (fun a S => ?_)
           refine lx_skip S rfl rfl rfl (by decide) (fun a S => ?_)
           refine lx_skip S rfl rfl rfl (by decide) (fun a S => ?_)
           refine lx_skip S rfl rfl rfl (by decide) (fun a S => ?_)
           refine lx_skip S rfl rfl rfl (by decide) (fun a S => ?_)
           refine lx_skip S rfl rfl rfl (by decide) (fun a S => ?_)
           refine lx_skip S rfl rfl rfl (by decide) (fun a S => ?_)
           refine lx_skip S rfl rfl rfl (by decide) (fun a S => ?_)
           refine lx_skip S rfl rfl rfl (by decide) (fun a S => ?_)
           refine lx_skip S rfl rfl rfl (by decide) (fun a S => ?_)
           refine lx_skip S rfl rfl rfl (by decide) (fun a S => ?_)
           refine lx_skip S rfl rfl rfl (by decide) (fun a S => ?_)
           refine lx_skip S rfl rfl rfl (by decide) (fun a S => ?_)
           refine lx_skip S rfl rfl rfl (by decide) (fun a S => ?_)
           refine lx_skip S rfl rfl (isB_ne hc473) (by decide) (fun a S => ?_)
           refine lq (.bool true) S (q_pickT' rfl hc473 rfl) fun a S => ?_
           refine lx_nil ?_
           obtain rfl := Option.some.inj hm
           exact ⟨S.sub ⟨rfl, rfl, rfl, rfl, rfl, trivial⟩, H⟩
          ·have hm := ite_f (eq_false_of_ne_true hc473) e472
           have hc473 : t446 = false := eq_false_of_ne_true hc473
           refine lx_q (.bool t426) S (want_b rfl rfl hc473) (by decide) (q_move rfl) (fun a S => ?_)
           refine lx_q (.bool (!t426)) S (want_b rfl rfl hc473) (by decide) (q_not rfl) (fun a S => ?_)
           refine lx_q (.bool (!t426)) S (want_b rfl rfl hc473) (by decide) (q_move rfl) (fun a S => ?_)
           obtain ⟨t474, e475, hm⟩ := bind_some hm
           refine lx_cut 14 (fun a w => Slots a 91 [(0, p0), (2, (.int .i64 a2)), (7, (.int .i64 (W (x192 + (W (x406 - (1 : Int))))))), (8, (.int .i64 x193)), (70, (.bool t446)), (87, (.bool t474))] ∧ Heap w0 [] w) ?_ ?_
           ·by_cases hc476 : (!t426) = true
            ·have hm := ite_t hc476 e475
             refine lx_q p0 S (want_b rfl rfl hc476) (by decide) (q_move rfl) (fun a S => ?_)
             refine lx_q (.int .i64 x193) S (want_b rfl rfl hc476) (by decide) (q_move rfl) (fun a S => ?_)
             obtain ⟨x477, e478, hm⟩ := bind_some hm
             obtain ⟨c479, h480, hat481⟩ := (h0).elem (idx_some e478).2
             obtain ⟨c482, c483, rfl, h484, h485⟩ := h480
             obtain rfl := h484
             obtain ⟨c486, c487, rfl, h488, h489⟩ := h485
             obtain rfl := h488
             obtain ⟨c490, c491, rfl, h492, h493⟩ := h489
             obtain rfl := h492
             obtain rfl := h493
             have hlt := lt_of_idx (idx_some e478).2
             refine lx_q (ePtr p0 (x193.toNat * 4)) S (want_b rfl rfl hc476) (by decide) (q_indexAddr rfl (h0).isSl rfl (idx_some e478).1 hlt Tryz.underlying31 Tryz.sizeOf61) (fun a S => ?_)
             refine lx_q (pAdd (ePtr p0 (x193.toNat * 4)) 2) S (want_b rfl rfl hc476) (by decide) (q_fieldAddr' 2 9 rfl ((hat481 0 _ rfl).isP) Tryz.underlying61 rfl Tryz.sizeOf9) (fun a S => ?_)
             refine lx_e (sv x477.2.2.1) S (want_b rfl rfl hc476) (by decide) rfl trivial (q_load1 rfl Tryz.isAgg9 (by rintro _ rfl; exact (At.of_add (m := 2) (j := 0) ((hat481 2 _ rfl).ext H.ext)))) (fun a S => ?_)
             refine lx_q (.bool (x477.2.2.1 != ([] : Str))) S (want_b rfl rfl hc476) (by decide) (q_sneq rfl rfl) (fun a S => ?_)
             refine lx_q (.bool (x477.2.2.1 != ([] : Str))) S (want_b rfl rfl hc476) (by decide) (q_move rfl) (fun a S => ?_)
             obtain ⟨t494, e495, hm⟩ := bind_some hm
             refine lx_cut 6 (fun a w => Slots a 91 [(0, p0), (2, (.int .i64 a2)), (7, (.int .i64 (W (x192 + (W (x406 - (1 : Int))))))), (8, (.int .i64 x193)), (70, (.bool t446)), (73, (.bool (!t426))), (86, (.bool t494))] ∧ Heap w0 [] w) ?_ ?_
             ·by_cases hc496 : (x477.2.2.1 != ([] : Str)) = true
              ·have hm := ite_t hc496 e495
               refine lx_skip S rfl rfl (isB_ne hc496) (by decide) (fun a S => ?_)
               refine lx_skip S rfl rfl (isB_ne hc496) (by decide) (fun a S => ?_)
               refine lx_skip S rfl rfl (isB_ne hc496) (by decide) (fun a S => ?_)
               refine lx_skip S rfl rfl (isB_ne hc496) (by decide) (fun a S => ?_)
               refine lx_skip S rfl rfl (isB_ne hc496) (by decide) (fun a S => ?_)
               refine lx_q (.bool true) S (want_b rfl rfl hc476) (by decide) (q_pickT' rfl hc496 rfl) (fun a S => ?_)
               refine lx_nil ?_
               obtain rfl := Option.some.inj hm
               exact ⟨S.sub ⟨rfl, rfl, rfl, rfl, rfl, rfl, rfl, trivial⟩, H⟩
              ·have hm := ite_f (eq_false_of_ne_true hc496) e495
               have hc496 : (x477.2.2.1 != ([] : Str)) = false := eq_false_of_ne_true hc496
               refine lx_q p0 S (want_b rfl rfl hc496) (by decide) (q_move rfl) (fun a S => ?_)
               refine lx_q (.int .i64 x193) S (want_b rfl rfl hc496) (by decide) (q_move rfl) (fun a S => ?_)
               obtain ⟨x497, e498, hm⟩ := bind_some hm
               obtain ⟨c499, h500, hat501⟩ := (h0).elem (idx_some e498).2
               obtain ⟨c502, c503, rfl, h504, h505⟩ := h500
               obtain rfl := h504
               obtain ⟨c506, c507, rfl, h508, h509⟩ := h505
               obtain rfl := h508
               obtain ⟨c510, c511, rfl, h512, h513⟩ := h509
               obtain rfl := h512
               obtain rfl := h513
               have hlt := lt_of_idx (idx_some e498).2
               refine lx_q (ePtr p0 (x193.toNat * 4)) S (want_b rfl rfl hc496) (by decide) (q_indexAddr rfl (h0).isSl rfl (idx_some e498).1 hlt Tryz.underlying31 Tryz.sizeOf61) (fun a S => ?_)
               refine lx_q (pAdd (ePtr p0 (x193.toNat * 4)) 3) S (want_b rfl rfl hc496) (by decide) (q_fieldAddr' 3 4 rfl ((hat501 0 _ rfl).isP) Tryz.underlying61 rfl Tryz.sizeOf4) (fun a S => ?_)
               refine lx_e (.bool x497.2.2.2) S (want_b rfl rfl hc496) (by decide) rfl trivial (q_load1 rfl Tryz.isAgg4 (by rintro _ rfl; exact (At.of_add (m := 3) (j := 0) ((hat501 3 _ rfl).ext H.ext)))) (fun a S => ?_)
               refine lx_q (.bool x497.2.2.2) S (want_b rfl rfl hc476) (by decide) (q_pickF' rfl hc496 rfl) (fun a S => ?_)
               refine lx_nil ?_
               obtain rfl := Option.some.inj hm
               exact ⟨S.sub ⟨rfl, rfl, rfl, rfl, rfl, rfl, rfl, trivial⟩, H⟩
             ·rintro a w ⟨S, H⟩
              refine lx_q (.bool t494) S (want_b rfl rfl hc473) (by decide) (q_pickT' rfl hc476 rfl) (fun a S => ?_)
              refine lx_nil ?_
              obtain rfl := Option.some.inj hm
              exact ⟨S.sub ⟨rfl, rfl, rfl, rfl, rfl, rfl, trivial⟩, H⟩
            ·have hm := ite_f (eq_false_of_ne_true hc476) e475
             have hc476 : (!t426) = false := eq_false_of_ne_true hc476
             refine lx_skip S rfl rfl (isB_ne hc476) (by decide) (fun a S => ?_)
             refine lx_skip S rfl rfl (isB_ne hc476) (by decide) (fun a S => ?_)
             refine lx_skip S rfl rfl (isB_ne hc476) (by decide) (fun a S => ?_)
             refine lx_skip S rfl rfl (isB_ne hc476) (by decide) (fun a S => ?_)
             refine lx_skip S rfl rfl (isB_ne hc476) (by decide) (fun a S => ?_)
             refine lx_skip S rfl rfl (isB_ne hc476) (by decide) (fun a S => ?_)
             refine lx_skip S rfl rfl (isB_ne hc476) (by decide) (fun a S => ?_)
             refine lx_skip S rfl rfl rfl (by decide) (fun a S => ?_)
             refine lx_skip S rfl rfl rfl (by decide) (fun a S => ?_)
             refine lx_skip S rfl rfl rfl (by decide) (fun a S => ?_)
             refine lx_skip S rfl rfl rfl (by decide) (fun a S => ?_)
             refine lx_skip S rfl rfl rfl (by decide) (fun a S => ?_)
             refine lx_skip S rfl rfl (isB_ne hc476) (by decide) (fun a S => ?_)
             refine lx_q (.bool false) S (want_b rfl rfl hc473) (by decide) (q_pickF' rfl hc476 rfl) (fun a S => ?_)
             refine lx_nil ?_
             obtain rfl := Option.some.inj hm
             exact ⟨S.sub ⟨rfl, rfl, rfl, rfl, rfl, rfl, trivial⟩, H⟩
           ·rintro a w ⟨S, H⟩
            refine lq (.bool t474) S (q_pickF' rfl hc473 rfl) fun a S => ?_
            refine lx_nil ?_
            obtain rfl := Option.some.inj hm
            exact ⟨S.sub ⟨rfl, rfl, rfl, rfl, rfl, trivial⟩, H⟩
         ·rintro a w ⟨S, H⟩
          refine lx_nil (thenN ?_)
          refine cond_b S rfl (fun hc514 => ?_) (fun hc514 => ?_)
          ·have hm := ite_t hc514 hm
           refine wp_seq (region_plain ?_)
           refine lq (.bool false) S (q_assign rfl) fun a S => ?_
           refine lx_nil (thenN ?_)
           refine wp_ret (inBlock_ret ?_)
           refine then_ret ?_
           refine then_ret ?_
           refine inBlock_ret ?_
           refine then_ret ?_
           refine then_ret ?_
           obtain rfl := it_brk hm hc359
           have hm := ctl_inr hk356
           obtain rfl := Option.some.inj hm
           exact leave1 S rfl rfl ⟨rfl, H⟩
          ·have hm := ite_f hc514 hm
           refine wp_skip ?_
           refine inBlock_norm ?_
           refine thenN ?_
           refine region_plain ?_
           refine lq (.int .i64 x193) S (q_move rfl) fun a S => ?_
           refine lq (.int .i64 (W (x193 + (1 : Int)))) S (q_add rfl rfl) fun a S => ?_
           refine lq (.int .i64 (W (x193 + (1 : Int)))) S (q_assign rfl) fun a S => ?_
           refine lx_nil ?_
           exact ⟨m357, Nat.lt_succ_self _, (W (x192 + (W (x406 - (1 : Int))))), (W (x193 + (1 : Int))), S.sub ⟨rfl, rfl, rfl, rfl, trivial⟩, H, it_cont hm hc359⟩
    ·have hm := ite_f hc360 hm
     refine wp_exit ?_
     refine then_exit ?_
     refine then_exit ?_
     refine inBlock_exit ?_
     obtain rfl := it_brk hm hc359
     exact ⟨x192, S.sub ⟨rfl, trivial⟩, H, rfl⟩

/-- spec.l14Is -/
def spec_l14Is_m (fuel : Nat) (a0 : (List Timpl_Node)) : Option (Bool) :=
  (spec_l14Shape_m fuel a0 (200 : Int) (5 : Int)).bind fun x33 => (if (!x33) = true then some (false) else (iter (fun (s : (Int)) => (match s with | (x57) => (if (decide (x57 < (a0.length : Int))) = true then (idx a0 x57).bind fun x87 => (if (x87.2.1 != (0 : Int)) = true then some (.inr (.inr false)) else some (.inl ((W (x57 + (1 : Int)))))) else some (.inr (.inl ()))) : Option (((Int)) ⊕ ((Unit) ⊕ (Bool))))) fuel ((0 : Int))).bind fun res78 => ctl (β := Unit) (ρ := Bool) (τ := Bool) res78 (fun _ => some (true)) (fun q => some (q)))
set_option maxRecDepth 20000 in
theorem spec_l14Is_ok [dr : Dr] {w0 : World} {fuel : Nat} {p0 : Value} {a0 : (List Timpl_Node)} {r : Bool} (h0 : Rd (rList Rimpl_Node) w0 p0 a0) (hm : spec_l14Is_m fuel a0 = some r) :
  Calls Tryz.prog 26 #[p0] w0 fun e w => e = .returned (.bool r) ∧ Heap w0 [] w := by
 unfold spec_l14Is_m at hm
 have H := Heap.start w0
 refine enter (args := [p0]) Tryz.func26 rfl 19 rfl (Nat.le_of_ble_eq_true rfl) (fun a S => ?_)
 refine wp_seq (region_plain ?_)
 refine lq (.bool false) S (q_assign rfl) fun a S => ?_
 refine lx_nil (thenN ?_)
 refine wp_seq (wp_seq (region_plain ?_))
 refine lq p0 S (q_move rfl) fun a S => ?_
 obtain ⟨x33, e34, hm⟩ := bind_some hm
 refine lx_call (xs := [.tmp 4, .const (.int .i64 (200)), .const (.int .i64 (5))]) S trivial (by decide) rfl rfl Tryz.call47 ((spec_l14Shape_ok (H.arg h0)   e34).mono ?_)
 rintro e w31 ⟨rfl, Hc32⟩
 have H := H.call0 Hc32
 refine ⟨_, rfl, trivial, fun a S => ?_⟩
 refine lq (.bool (!x33)) S (q_not rfl) fun a S => ?_
 refine lx_nil (thenN ?_)
 refine cond_b S rfl (fun hc36 => ?_) (fun hc36 => ?_)
 ·have hm := ite_t hc36 hm
  refine wp_seq (region_plain ?_)
  refine lq (.bool false) S (q_assign rfl) fun a S => ?_
  refine lx_nil (thenN ?_)
  refine wp_ret (then_ret ?_)
  obtain rfl := Option.some.inj hm
  exact leave1 S rfl rfl ⟨rfl, H⟩
 ·have hm := ite_f hc36 hm
  refine wp_skip (thenN ?_)
  refine wp_seq (wp_seq (region_plain ?_))
  refine lq (.int .i64 (0 : Int)) S (q_assign rfl) fun a S => ?_
  refine lx_nil (thenN ?_)
  obtain ⟨res78, hit79, hk82⟩ := bind_some hm
  obtain ⟨f80, hf81, hit79⟩ := iter_name hit79
  refine block_loop (fun a w => Slots a 19 [] ∧ Heap w0 [] w ∧ res78 = .inl ()) ?_ ?_
  ·rintro a w ⟨S, H, rfl⟩
   have hm := ctl_inl hk82
   refine thenN ?_
   refine wp_seq (region_plain ?_)
   refine lq (.bool true) S (q_assign rfl) fun a S => ?_
   refine lx_nil (thenN ?_)
   refine wp_ret ?_
   obtain rfl := Option.some.inj hm
   exact leave1 S rfl rfl ⟨rfl, H⟩
  ·skip
   refine loop_ghost (fun n a w => ∃ (x57 : Int), Slots a 19 [(0, p0), (3, (.int .i64 x57))] ∧ Heap w0 [] w ∧ iter f80 n (x57) = some res78) _ ⟨(0 : Int), S.sub ⟨rfl, rfl, trivial⟩, H, hit79⟩ ?_
   rintro n a w ⟨x57, S, H, hit79⟩
   obtain ⟨m83, o84, rfl, hm, hc85⟩ := iter_step hit79
   rw [hf81] at hm
   refine wp_seq (wp_seq (region_plain ?_))
   refine lq (.int .i64 x57) S (q_move rfl) fun a S => ?_
   refine lq p0 S (q_move rfl) fun a S => ?_
   refine lq (.int .i64 (a0.length : Int)) S (q_lenSl rfl (h0).isSl rfl Tryz.underlying31) fun a S => ?_
   refine lq (.bool (decide (x57 < (a0.length : Int)))) S (q_lss rfl rfl) fun a S => ?_
   refine lx_nil (thenN ?_)
   refine cond_b S rfl (fun hc86 => ?_) (fun hc86 => ?_)
   ·have hm := ite_t hc86 hm
    refine wp_skip (thenN ?_)
    refine wp_seq ?_
    refine wp_block ?_
    refine wp_seq (region_plain ?_)
    refine lq p0 S (q_move rfl) fun a S => ?_
    refine lq (.int .i64 x57) S (q_move rfl) fun a S => ?_
    obtain ⟨x87, e88, hm⟩ := bind_some hm
    obtain ⟨c89, h90, hat91⟩ := (h0).elem (idx_some e88).2
    obtain ⟨c92, c93, rfl, h94, h95⟩ := h90
    obtain rfl := h94
    obtain ⟨c96, c97, rfl, h98, h99⟩ := h95
    obtain rfl := h98
    obtain ⟨c100, c101, rfl, h102, h103⟩ := h99
    obtain rfl := h102
    obtain rfl := h103
    have hlt := lt_of_idx (idx_some e88).2
    refine lq (ePtr p0 (x57.toNat * 4)) S (q_indexAddr rfl (h0).isSl rfl (idx_some e88).1 hlt Tryz.underlying31 Tryz.sizeOf61) fun a S => ?_
    refine lq (pAdd (ePtr p0 (x57.toNat * 4)) 1) S (q_fieldAddr' 1 2 rfl ((hat91 0 _ rfl).isP) Tryz.underlying61 rfl Tryz.sizeOf2) fun a S => ?_
    refine lx_e (.int .i64 x87.2.1) S trivial (by decide) rfl trivial (q_load1 rfl Tryz.isAgg2 (by rintro _ rfl; exact (At.of_add (m := 1) (j := 0) ((hat91 1 _ rfl).ext H.ext)))) (fun a S => ?_)
    refine lq (.bool (x87.2.1 != (0 : Int))) S (q_neq rfl rfl) fun a S => ?_
    refine lx_nil (thenN ?_)
    refine cond_b S rfl (fun hc104 => ?_) (fun hc104 => ?_)
    ·have hm := ite_t hc104 hm
     refine wp_seq (region_plain ?_)
     refine lq (.bool false) S (q_assign rfl) fun a S => ?_
     refine lx_nil (thenN ?_)
     refine wp_ret (inBlock_ret ?_)
     refine then_ret ?_
     refine then_ret ?_
     refine inBlock_ret ?_
     refine then_ret ?_
     refine then_ret ?_
     obtain rfl := it_brk hm hc85
     have hm := ctl_inr hk82
     obtain rfl := Option.some.inj hm
     exact leave1 S rfl rfl ⟨rfl, H⟩
    ·have hm := ite_f hc104 hm
     refine wp_skip ?_
     refine inBlock_norm ?_
     refine thenN ?_
     refine region_plain ?_
     refine lq (.int .i64 x57) S (q_move rfl) fun a S => ?_
     refine lq (.int .i64 (W (x57 + (1 : Int)))) S (q_add rfl rfl) fun a S => ?_
     refine lq (.int .i64 (W (x57 + (1 : Int)))) S (q_assign rfl) fun a S => ?_
     refine lx_nil ?_
     exact ⟨m83, Nat.lt_succ_self _, (W (x57 + (1 : Int))), S.sub ⟨rfl, rfl, trivial⟩, H, it_cont hm hc85⟩
   ·have hm := ite_f hc86 hm
    refine wp_exit ?_
    refine then_exit ?_
    refine then_exit ?_
    refine inBlock_exit ?_
    obtain rfl := it_brk hm hc85
    exact ⟨S.sub trivial, H, rfl⟩

/-- spec.l11Names -/
def spec_l11Names_m (fuel : Nat) (a0 : (List Str)) : Option (Bool) :=
  (if ((a0.length : Int) == (0 : Int)) = true then some true else some (decide ((12 : Int) < (a0.length : Int)))).bind fun t31 => (if t31 = true then some true else (idx a0 (0 : Int)).bind fun x37 => some (x37 != ([116, 97, 117] : Str))).bind fun t34 => (if t34 = true then some (false) else (iter (fun (s : (Int)) => (match s with | (x82) => (if (decide (x82 < (a0.length : Int))) = true then (idx a0 x82).bind fun x133 => (spec_l01Label_m fuel x133).bind fun x140 => (if (!x140) = true then some true else (idx a0 x82).bind fun x146 => some (x146 == ([116, 97, 117] : Str))).bind fun t143 => (if t143 = true then some true else (if (decide ((1 : Int) < x82)) = true then (idx a0 (W (x82 - (1 : Int)))).bind fun x157 => (idx a0 x82).bind fun x162 => some (!Op.bytesLess x157 x162) else some false).bind fun t154 => some t154).bind fun t151 => (if t151 = true then some (.inr (.inr false)) else some (.inl ((W (x82 + (1 : Int)))))) else some (.inr (.inl ()))) : Option (((Int)) ⊕ ((Unit) ⊕ (Bool))))) fuel ((1 : Int))).bind fun res122 => ctl (β := Unit) (ρ := Bool) (τ := Bool) res122 (fun _ => some (true)) (fun q => some (q)))
set_option maxRecDepth 20000 in
theorem spec_l11Names_ok [dr : Dr] {w0 : World} {fuel : Nat} {p0 : Value} {a0 : (List Str)} {r : Bool} (h0 : Rd (rList rStr) w0 p0 a0) (hm : spec_l11Names_m fuel a0 = some r) :
  Calls Tryz.prog 48 #[p0] w0 fun e w => e = .returned (.bool r) ∧ Heap w0 [] w := by
 unfold spec_l11Names_m at hm
 have H := Heap.start w0
 refine enter (args := [p0]) Tryz.func48 rfl 53 rfl (Nat.le_of_ble_eq_true rfl) (fun a S => ?_)
 refine wp_seq (region_plain ?_)
 refine lq (.bool false) S (q_assign rfl) fun a S => ?_
 refine lx_nil (thenN ?_)
 refine wp_seq (wp_seq (region_plain ?_))
 refine lq p0 S (q_move rfl) fun a S => ?_
 refine lq (.int .i64 (a0.length : Int)) S (q_lenSl rfl (h0).isSl rfl Tryz.underlying23) fun a S => ?_
 refine lq (.bool ((a0.length : Int) == (0 : Int))) S (q_eql rfl rfl) fun a S => ?_
 refine lq (.bool ((a0.length : Int) == (0 : Int))) S (q_move rfl) fun a S => ?_
 obtain ⟨t31, e32, hm⟩ := bind_some hm
 refine lx_cut 4 (fun a w => Slots a 53 [(0, p0), (11, (.bool t31))] ∧ Heap w0 [] w) ?_ ?_
 ·by_cases hc33 : ((a0.length : Int) == (0 : Int)) = true
  ·have hm := ite_t hc33 e32
   refine lx_skip S rfl rfl (isB_ne hc33) (by decide) (fun a S => ?_)
   refine lx_skip S rfl rfl (isB_ne hc33) (by decide) (fun a S => ?_)
   refine lx_skip S rfl rfl (isB_ne hc33) (by decide) (fun a S => ?_)
   refine lq (.bool true) S (q_pickT' rfl hc33 rfl) fun a S => ?_
   refine lx_nil ?_
   obtain rfl := Option.some.inj hm
   exact ⟨S.sub ⟨rfl, rfl, trivial⟩, H⟩
  ·have hm := ite_f (eq_false_of_ne_true hc33) e32
   have hc33 : ((a0.length : Int) == (0 : Int)) = false := eq_false_of_ne_true hc33
   refine lx_q p0 S (want_b rfl rfl hc33) (by decide) (q_move rfl) (fun a S => ?_)
   refine lx_q (.int .i64 (a0.length : Int)) S (want_b rfl rfl hc33) (by decide) (q_lenSl rfl (h0).isSl rfl Tryz.underlying23) (fun a S => ?_)
   refine lx_q (.bool (decide ((12 : Int) < (a0.length : Int)))) S (want_b rfl rfl hc33) (by decide) (q_gtr rfl rfl) (fun a S => ?_)
   refine lq (.bool (decide ((12 : Int) < (a0.length : Int)))) S (q_pickF' rfl hc33 rfl) fun a S => ?_
   refine lx_nil ?_
   obtain rfl := Option.some.inj hm
   exact ⟨S.sub ⟨rfl, rfl, trivial⟩, H⟩
 ·rintro a w ⟨S, H⟩
  refine lq (.bool t31) S (q_move rfl) fun a S => ?_
  obtain ⟨t34, e35, hm⟩ := bind_some hm
  refine lx_cut 5 (fun a w => Slots a 53 [(0, p0), (17, (.bool t34))] ∧ Heap w0 [] w) ?_ ?_
  ·by_cases hc36 : t31 = true
   ·have hm := ite_t hc36 e35
    refine lx_skip S rfl rfl (isB_ne hc36) (by decide) (fun a S => ?_)
    refine lx_skip S rfl rfl (isB_ne hc36) (by decide) (fun a S => ?_)
    refine lx_skip S rfl rfl (isB_ne hc36) (by decide) (fun a S => ?_)
    refine lx_skip S rfl rfl (isB_ne hc36) (by decide) (fun a S => ?_)
    refine lq (.bool true) S (q_pickT' rfl hc36 rfl) fun a S => ?_
    refine lx_nil ?_
    obtain rfl := Option.some.inj hm
    exact ⟨S.sub ⟨rfl, rfl, trivial⟩, H⟩
   ·have hm := ite_f (eq_false_of_ne_true hc36) e35
    have hc36 : t31 = false := eq_false_of_ne_true hc36
    refine lx_q p0 S (want_b rfl rfl hc36) (by decide) (q_move rfl) (fun a S => ?_)
    obtain ⟨x37, e38, hm⟩ := bind_some hm
    obtain ⟨c39, h40, hat41⟩ := (h0).elem (idx_some e38).2
    obtain rfl := h40
    have hlt := lt_of_idx (idx_some e38).2
    refine lx_q (ePtr p0 ((0 : Int).toNat * 1)) S (want_b rfl rfl hc36) (by decide) (q_indexAddr rfl (h0).isSl rfl (idx_some e38).1 hlt Tryz.underlying23 Tryz.sizeOf9) (fun a S => ?_)
    refine lx_e (sv x37) S (want_b rfl rfl hc36) (by decide) rfl trivial (q_load1 rfl Tryz.isAgg9 (by rintro _ rfl; exact ((hat41 0 _ rfl).ext H.ext))) (fun a S => ?_)
    refine lx_q (.bool (x37 != ([116, 97, 117] : Str))) S (want_b rfl rfl hc36) (by decide) (q_sneq rfl rfl) (fun a S => ?_)
    refine lq (.bool (x37 != ([116, 97, 117] : Str))) S (q_pickF' rfl hc36 rfl) fun a S => ?_
    refine lx_nil ?_
    obtain rfl := Option.some.inj hm
    exact ⟨S.sub ⟨rfl, rfl, trivial⟩, H⟩
  ·rintro a w ⟨S, H⟩
   refine lx_nil (thenN ?_)
   refine cond_b S rfl (fun hc42 => ?_) (fun hc42 => ?_)
   ·have hm := ite_t hc42 hm
    refine wp_seq (region_plain ?_)
    refine lq (.bool false) S (q_assign rfl) fun a S => ?_
    refine lx_nil (thenN ?_)
    refine wp_ret (then_ret ?_)
    obtain rfl := Option.some.inj hm
    exact leave1 S rfl rfl ⟨rfl, H⟩
   ·have hm := ite_f hc42 hm
    refine wp_skip (thenN ?_)
    refine wp_seq (wp_seq (region_plain ?_))
    refine lq (.int .i64 (1 : Int)) S (q_assign rfl) fun a S => ?_
    refine lx_nil (thenN ?_)
    obtain ⟨res122, hit123, hk126⟩ := bind_some hm
    obtain ⟨f124, hf125, hit123⟩ := iter_name hit123
    refine block_loop (fun a w => Slots a 53 [] ∧ Heap w0 [] w ∧ res122 = .inl ()) ?_ ?_
    ·rintro a w ⟨S, H, rfl⟩
     have hm := ctl_inl hk126
     refine thenN ?_
     refine wp_seq (region_plain ?_)
     refine lq (.bool true) S (q_assign rfl) fun a S => ?_
     refine lx_nil (thenN ?_)
     refine wp_ret ?_
     obtain rfl := Option.some.inj hm
     exact leave1 S rfl rfl ⟨rfl, H⟩
    ·skip
     refine loop_ghost (fun n a w => ∃ (x82 : Int), Slots a 53 [(0, p0), (3, (.int .i64 x82))] ∧ Heap w0 [] w ∧ iter f124 n (x82) = some res122) _ ⟨(1 : Int), S.sub ⟨rfl, rfl, trivial⟩, H, hit123⟩ ?_
     rintro n a w ⟨x82, S, H, hit123⟩
     obtain ⟨m127, o128, rfl, hm, hc129⟩ := iter_step hit123
     rw [hf125] at hm
     refine wp_seq (wp_seq (region_plain ?_))
     refine lq (.int .i64 x82) S (q_move rfl) fun a S => ?_
     refine lq p0 S (q_move rfl) fun a S => ?_
     refine lq (.int .i64 (a0.length : Int)) S (q_lenSl rfl (h0).isSl rfl Tryz.underlying23) fun a S => ?_
     refine lq (.bool (decide (x82 < (a0.length : Int)))) S (q_lss rfl rfl) fun a S => ?_
     refine lx_nil (thenN ?_)
     refine cond_b S rfl (fun hc130 => ?_) (fun hc130 => ?_)
     ·have hm := ite_t hc130 hm
      refine wp_skip (thenN ?_)
      refine wp_seq ?_
      refine wp_block ?_
      refine wp_seq ?_
      refine region_drawG (fun w1 => Heap w0 [] w1) (fun i => [4].contains i) mixed (by kernel_rfl) (fun w132 he131 => ?_)
      have H := H.later he131
      refine ⟨H.sel [] (by decide), ?_⟩
      refine lq p0 S (q_move rfl) fun a S => ?_
      refine lq (.int .i64 x82) S (q_move rfl) fun a S => ?_
      obtain ⟨x133, e134, hm⟩ := bind_some hm
      obtain ⟨c135, h136, hat137⟩ := (h0).elem (idx_some e134).2
      obtain rfl := h136
      have hlt := lt_of_idx (idx_some e134).2
      refine lq (ePtr p0 (x82.toNat * 1)) S (q_indexAddr rfl (h0).isSl rfl (idx_some e134).1 hlt Tryz.underlying23 Tryz.sizeOf9) fun a S => ?_
      refine lq (sv x133) S (q_load1 rfl Tryz.isAgg9 (fun w1 hC => ((hat137 0 _ rfl).ext hC.ext))) fun a S => ?_
      obtain ⟨x140, e141, hm⟩ := bind_some hm
      refine lx_call (xs := [.tmp 27]) S trivial (by decide) rfl rfl Tryz.call69 ((spec_l01Label_ok  e141).mono ?_)
      rintro e w138 ⟨rfl, Hc139⟩
      have H := H.call0 Hc139
      refine ⟨_, rfl, H.sel [] (by decide), fun a S => ?_⟩
      refine lq (.bool (!x140)) S (q_not rfl) fun a S => ?_
      refine lq (.bool (!x140)) S (q_move rfl) fun a S => ?_
      obtain ⟨t143, e144, hm⟩ := bind_some hm
      refine lx_cut 6 (fun a w => Slots a 53 [(0, p0), (3, (.int .i64 x82)), (36, (.bool t143))] ∧ Heap w0 [] w) ?_ ?_
      ·by_cases hc145 : (!x140) = true
       ·have hm := ite_t hc145 e144
        refine lx_skip S rfl rfl (isB_ne hc145) (by decide) (fun a S => ?_)
        refine lx_skip S rfl rfl (isB_ne hc145) (by decide) (fun a S => ?_)
        refine lx_skip S rfl rfl (isB_ne hc145) (by decide) (fun a S => ?_)
        refine lx_skip S rfl rfl (isB_ne hc145) (by decide) (fun a S => ?_)
        refine lx_skip S rfl rfl (isB_ne hc145) (by decide) (fun a S => ?_)
        refine lq (.bool true) S (q_pickT' rfl hc145 rfl) fun a S => ?_
        refine lx_nil ?_
        obtain rfl := Option.some.inj hm
        exact ⟨S.sub ⟨rfl, rfl, rfl, trivial⟩, H⟩
       ·have hm := ite_f (eq_false_of_ne_true hc145) e144
        have hc145 : (!x140) = false := eq_false_of_ne_true hc145
        refine lx_q p0 S (want_b rfl rfl hc145) (by decide) (q_move rfl) (fun a S => ?_)
        refine lx_q (.int .i64 x82) S (want_b rfl rfl hc145) (by decide) (q_move rfl) (fun a S => ?_)
        obtain ⟨x146, e147, hm⟩ := bind_some hm
        obtain ⟨c148, h149, hat150⟩ := (h0).elem (idx_some e147).2
        obtain rfl := h149
        have hlt := lt_of_idx (idx_some e147).2
        refine lx_q (ePtr p0 (x82.toNat * 1)) S (want_b rfl rfl hc145) (by decide) (q_indexAddr rfl (h0).isSl rfl (idx_some e147).1 hlt Tryz.underlying23 Tryz.sizeOf9) (fun a S => ?_)
        refine lx_q (sv x146) S (want_b rfl rfl hc145) (by decide) (q_load1 rfl Tryz.isAgg9 (fun w1 hC => ((hat150 0 _ rfl).ext hC.ext))) (fun a S => ?_)
        refine lx_q (.bool (x146 == ([116, 97, 117] : Str))) S (want_b rfl rfl hc145) (by decide) (q_seql rfl rfl) (fun a S => ?_)
        refine lq (.bool (x146 == ([116, 97, 117] : Str))) S (q_pickF' rfl hc145 rfl) fun a S => ?_
        refine lx_nil ?_
        obtain rfl := Option.some.inj hm
        exact ⟨S.sub ⟨rfl, rfl, rfl, trivial⟩, H⟩
      ·rintro a w ⟨S, H⟩
       refine lq (.bool t143) S (q_move rfl) fun a S => ?_
       obtain ⟨t151, e152, hm⟩ := bind_some hm
       refine lx_cut 15 (fun a w => Slots a 53 [(0, p0), (3, (.int .i64 x82)), (52, (.bool t151))] ∧ Heap w0 [] w) ?_ ?_
       ·by_cases hc153 : t143 = true
        ·have hm := ite_t hc153 e152
         refine lx_skip S rfl rfl (isB_ne hc153) (by decide) (fun a S => ?_)
         refine lx_skip S rfl rfl (isB_ne hc153) (by decide) (fun a S => ?_)
         refine lx_skip S rfl rfl (isB_ne hc153) (by decide) (fun a S => ?_)
         refine lx_skip S rfl rfl rfl (by decide) (fun a S => ?_)
         refine lx_skip S rfl rfl rfl (by decide) (fun a S => ?_)
         refine lx_skip S rfl rfl rfl (by decide) (fun a S => ?_)
         refine lx_skip S rfl rfl rfl (by decide) (fun a S => ?_)
         refine lx_skip S rfl rfl rfl (by decide) (fun a S => ?_)
         refine lx_skip S rfl rfl rfl (by decide) (fun a S => ?_)
         refine lx_skip S rfl rfl rfl (by decide) (fun a S => ?_)
         refine lx_skip S rfl rfl rfl (by decide) (fun a S => ?_)
         refine lx_skip S rfl rfl rfl (by decide) (fun a S => ?_)
         refine lx_skip S rfl rfl rfl (by decide) (fun a S => ?_)
         refine lx_skip S rfl rfl (isB_ne hc153) (by decide) (fun a S => ?_)
         refine lq (.bool true) S (q_pickT' rfl hc153 rfl) fun a S => ?_
         refine lx_nil ?_
         obtain rfl := Option.some.inj hm
         exact ⟨S.sub ⟨rfl, rfl, rfl, trivial⟩, H⟩
        ·have hm := ite_f (eq_false_of_ne_true hc153) e152
         have hc153 : t143 = false := eq_false_of_ne_true hc153
         refine lx_q (.int .i64 x82) S (want_b rfl rfl hc153) (by decide) (q_move rfl) (fun a S => ?_)
         refine lx_q (.bool (decide ((1 : Int) < x82))) S (want_b rfl rfl hc153) (by decide) (q_gtr rfl rfl) (fun a S => ?_)
         refine lx_q (.bool (decide ((1 : Int) < x82))) S (want_b rfl rfl hc153) (by decide) (q_move rfl) (fun a S => ?_)
         obtain ⟨t154, e155, hm⟩ := bind_some hm
         refine lx_cut 11 (fun a w => Slots a 53 [(0, p0), (3, (.int .i64 x82)), (37, (.bool t143)), (51, (.bool t154))] ∧ Heap w0 [] w) ?_ ?_
         ·by_cases hc156 : (decide ((1 : Int) < x82)) = true
          ·have hm := ite_t hc156 e155
           refine lx_q p0 S (want_b rfl rfl hc156) (by decide) (q_move rfl) (fun a S => ?_)
           refine lx_q (.int .i64 x82) S (want_b rfl rfl hc156) (by decide) (q_move rfl) (fun a S => ?_)
           refine lx_q (.int .i64 (W (x82 - (1 : Int)))) S (want_b rfl rfl hc156) (by decide) (q_sub rfl rfl) (fun a S => ?_)
           obtain ⟨x157, e158, hm⟩ := bind_some hm
           obtain ⟨c159, h160, hat161⟩ := (h0).elem (idx_some e158).2
           obtain rfl := h160
           have hlt := lt_of_idx (idx_some e158).2
           refine lx_q (ePtr p0 ((W (x82 - (1 : Int))).toNat * 1)) S (want_b rfl rfl hc156) (by decide) (q_indexAddr rfl (h0).isSl rfl (idx_some e158).1 hlt Tryz.underlying23 Tryz.sizeOf9) (fun a S => ?_)
           refine lx_q (sv x157) S (want_b rfl rfl hc156) (by decide) (q_load1 rfl Tryz.isAgg9 (fun w1 hC => ((hat161 0 _ rfl).ext hC.ext))) (fun a S => ?_)
           refine lx_q p0 S (want_b rfl rfl hc156) (by decide) (q_move rfl) (fun a S => ?_)
           refine lx_q (.int .i64 x82) S (want_b rfl rfl hc156) (by decide) (q_move rfl) (fun a S => ?_)
           obtain ⟨x162, e163, hm⟩ := bind_some hm
           obtain ⟨c164, h165, hat166⟩ := (h0).elem (idx_some e163).2
           obtain rfl := h165
           have hlt := lt_of_idx (idx_some e163).2
           refine lx_q (ePtr p0 (x82.toNat * 1)) S (want_b rfl rfl hc156) (by decide) (q_indexAddr rfl (h0).isSl rfl (idx_some e163).1 hlt Tryz.underlying23 Tryz.sizeOf9) (fun a S => ?_)
           refine lx_q (sv x162) S (want_b rfl rfl hc156) (by decide) (q_load1 rfl Tryz.isAgg9 (fun w1 hC => ((hat166 0 _ rfl).ext hC.ext))) (fun a S => ?_)
           refine lx_q (.bool (!Op.bytesLess x157 x162)) S (want_b rfl rfl hc156) (by decide) (q_sgeq rfl rfl) (fun a S => ?_)
           refine lx_q (.bool (!Op.bytesLess x157 x162)) S (want_b rfl rfl hc153) (by decide) (q_pickT' rfl hc156 rfl) (fun a S => ?_)
           refine lx_nil ?_
           obtain rfl := Option.some.inj hm
           exact ⟨S.sub ⟨rfl, rfl, rfl, rfl, trivial⟩, H⟩
          ·have hm := ite_f (eq_false_of_ne_true hc156) e155
           have hc156 : (decide ((1 : Int) < x82)) = false := eq_false_of_ne_true hc156
           refine lx_skip S rfl rfl (isB_ne hc156) (by decide) (fun a S => ?_)
           refine lx_skip S rfl rfl (isB_ne hc156) (by decide) (fun a S => ?_)
           refine lx_skip S rfl rfl (isB_ne hc156) (by decide) (fun a S => ?_)
           refine lx_skip S rfl rfl (isB_ne hc156) (by decide) (fun a S => ?_)
           refine lx_skip S rfl rfl (isB_ne hc156) (by decide) (fun a S => ?_)
           refine lx_skip S rfl rfl (isB_ne hc156) (by decide) (fun a S => ?_)
           refine lx_skip S rfl rfl (isB_ne hc156) (by decide) (fun a S => ?_)
           refine lx_skip S rfl rfl (isB_ne hc156) (by decide) (fun a S => ?_)
           refine lx_skip S rfl rfl (isB_ne hc156) (by decide) (fun a S => ?_)
           refine lx_skip S rfl rfl (isB_ne hc156) (by decide) (fun a S => ?_)
           refine lx_q (.bool false) S (want_b rfl rfl hc153) (by decide) (q_pickF' rfl hc156 rfl) (fun a S => ?_)
           refine lx_nil ?_
           obtain rfl := Option.some.inj hm
           exact ⟨S.sub ⟨rfl, rfl, rfl, rfl, trivial⟩, H⟩
         ·rintro a w ⟨S, H⟩
          refine lq (.bool t154) S (q_pickF' rfl hc153 rfl) fun a S => ?_
          refine lx_nil ?_
          obtain rfl := Option.some.inj hm
          exact ⟨S.sub ⟨rfl, rfl, rfl, trivial⟩, H⟩
       ·rintro a w ⟨S, H⟩
        refine lx_nil (thenN ?_)
        refine cond_b S rfl (fun hc167 => ?_) (fun hc167 => ?_)
        ·have hm := ite_t hc167 hm
         refine wp_seq (region_plain ?_)
         refine lq (.bool false) S (q_assign rfl) fun a S => ?_
         refine lx_nil (thenN ?_)
         refine wp_ret (inBlock_ret ?_)
         refine then_ret ?_
         refine then_ret ?_
         refine inBlock_ret ?_
         refine then_ret ?_
         refine then_ret ?_
         obtain rfl := it_brk hm hc129
         have hm := ctl_inr hk126
         obtain rfl := Option.some.inj hm
         exact leave1 S rfl rfl ⟨rfl, H⟩
        ·have hm := ite_f hc167 hm
         refine wp_skip ?_
         refine inBlock_norm ?_
         refine thenN ?_
         refine region_plain ?_
         refine lq (.int .i64 x82) S (q_move rfl) fun a S => ?_
         refine lq (.int .i64 (W (x82 + (1 : Int)))) S (q_add rfl rfl) fun a S => ?_
         refine lq (.int .i64 (W (x82 + (1 : Int)))) S (q_assign rfl) fun a S => ?_
         refine lx_nil ?_
         exact ⟨m127, Nat.lt_succ_self _, (W (x82 + (1 : Int))), S.sub ⟨rfl, rfl, trivial⟩, H, it_cont hm hc129⟩
     ·have hm := ite_f hc130 hm
      refine wp_exit ?_
      refine then_exit ?_
      refine then_exit ?_
      refine inBlock_exit ?_
      obtain rfl := it_brk hm hc129
      exact ⟨S.sub trivial, H, rfl⟩

/-- spec.l11Less -/
def spec_l11Less_m (_ : Nat) (a0 : Timpl_Edge) (a1 : Timpl_Edge) : Option (Bool) :=
  (if (a0.1 != a1.1) = true then some ((decide (a0.1 < a1.1))) else (if (a0.2.1 != a1.2.1) = true then some ((decide (a0.2.1 < a1.2.1))) else some ((decide (a0.2.2 < a1.2.2)))))
set_option maxRecDepth 20000 in
theorem spec_l11Less_ok [dr : Dr] {w0 : World} {fuel : Nat} {p0 p1 : Value} {a0 : Timpl_Edge} {a1 : Timpl_Edge} {r : Bool} (h0 : Rd (rPtr Rimpl_Edge) w0 p0 a0) (h1 : Rd (rPtr Rimpl_Edge) w0 p1 a1) (hm : spec_l11Less_m fuel a0 a1 = some r) :
  Calls Tryz.prog 49 #[p0, p1] w0 fun e w => e = .returned (.bool r) ∧ Heap w0 [] w := by
 unfold spec_l11Less_m at hm
 have H := Heap.start w0
 obtain ⟨c31, h32, hat33⟩ := h0.ptr
 obtain ⟨c34, c35, rfl, h36, h37⟩ := h32
 obtain rfl := h36
 obtain ⟨c38, c39, rfl, h40, h41⟩ := h37
 obtain rfl := h40
 obtain rfl := h41
 obtain ⟨c42, h43, hat44⟩ := h1.ptr
 obtain ⟨c45, c46, rfl, h47, h48⟩ := h43
 obtain rfl := h47
 obtain ⟨c49, c50, rfl, h51, h52⟩ := h48
 obtain rfl := h51
 obtain rfl := h52
 refine enter (args := [p0, p1]) Tryz.func49 rfl 50 rfl (Nat.le_of_ble_eq_true rfl) (fun a S => ?_)
 refine wp_seq (region_plain ?_)
 refine lq (.bool false) S (q_assign rfl) fun a S => ?_
 refine lx_nil (thenN ?_)
 refine wp_seq ?_
 refine wp_seq ?_
 refine region_drawG (fun w1 => Heap w0 [] w1) (fun i => [].contains i) mixed (by kernel_rfl) (fun w54 he53 => ?_)
 have H := H.later he53
 refine ⟨H.sel [] (by decide), ?_⟩
 refine lq p0 S (q_move rfl) fun a S => ?_
 refine lq p0 S (q_nilCheck rfl ((hat33 0 _ rfl).isP)) fun a S => ?_
 refine lq (pAdd p0 0) S (q_fieldAddr' 0 2 rfl ((hat33 0 _ rfl).isP) Tryz.underlying80 rfl Tryz.sizeOf2) fun a S => ?_
 refine lq (.int .i64 a0.1) S (q_load1 rfl Tryz.isAgg2 (fun w1 hC => (At.of_add (m := 0) (j := 0) ((hat33 0 _ rfl).ext hC.ext)))) fun a S => ?_
 refine lq p1 S (q_move rfl) fun a S => ?_
 refine lq p1 S (q_nilCheck rfl ((hat44 0 _ rfl).isP)) fun a S => ?_
 refine lq (pAdd p1 0) S (q_fieldAddr' 0 2 rfl ((hat44 0 _ rfl).isP) Tryz.underlying80 rfl Tryz.sizeOf2) fun a S => ?_
 refine lq (.int .i64 a1.1) S (q_load1 rfl Tryz.isAgg2 (fun w1 hC => (At.of_add (m := 0) (j := 0) ((hat44 0 _ rfl).ext hC.ext)))) fun a S => ?_
 refine lq (.bool (a0.1 != a1.1)) S (q_neq rfl rfl) fun a S => ?_
 refine lx_nil (thenN ?_)
 refine cond_b S rfl (fun hc55 => ?_) (fun hc55 => ?_)
 ·have hm := ite_t hc55 hm
  refine wp_seq ?_
  refine region_drawG (fun w1 => Heap w0 [] w1) (fun i => [].contains i) mixed (by kernel_rfl) (fun w57 he56 => ?_)
  have H := H.later he56
  refine ⟨H.sel [] (by decide), ?_⟩
  refine lq p0 S (q_move rfl) fun a S => ?_
  refine lq p0 S (q_nilCheck rfl ((hat33 0 _ rfl).isP)) fun a S => ?_
  refine lq (pAdd p0 0) S (q_fieldAddr' 0 2 rfl ((hat33 0 _ rfl).isP) Tryz.underlying80 rfl Tryz.sizeOf2) fun a S => ?_
  refine lq (.int .i64 a0.1) S (q_load1 rfl Tryz.isAgg2 (fun w1 hC => (At.of_add (m := 0) (j := 0) ((hat33 0 _ rfl).ext hC.ext)))) fun a S => ?_
  refine lq p1 S (q_move rfl) fun a S => ?_
  refine lq p1 S (q_nilCheck rfl ((hat44 0 _ rfl).isP)) fun a S => ?_
  refine lq (pAdd p1 0) S (q_fieldAddr' 0 2 rfl ((hat44 0 _ rfl).isP) Tryz.underlying80 rfl Tryz.sizeOf2) fun a S => ?_
  refine lq (.int .i64 a1.1) S (q_load1 rfl Tryz.isAgg2 (fun w1 hC => (At.of_add (m := 0) (j := 0) ((hat44 0 _ rfl).ext hC.ext)))) fun a S => ?_
  refine lq (.bool (decide (a0.1 < a1.1))) S (q_lss rfl rfl) fun a S => ?_
  refine lq (.bool (decide (a0.1 < a1.1))) S (q_assign rfl) fun a S => ?_
  refine lx_nil (thenN ?_)
  refine wp_ret (then_ret ?_)
  obtain rfl := Option.some.inj hm
  exact leave1 S rfl rfl ⟨rfl, H⟩
 ·have hm := ite_f hc55 hm
  refine wp_skip (thenN ?_)
  refine wp_seq ?_
  refine wp_seq ?_
  refine region_drawG (fun w1 => Heap w0 [] w1) (fun i => [].contains i) mixed (by kernel_rfl) (fun w59 he58 => ?_)
  have H := H.later he58
  refine ⟨H.sel [] (by decide), ?_⟩
  refine lq p0 S (q_move rfl) fun a S => ?_
  refine lq p0 S (q_nilCheck rfl ((hat33 0 _ rfl).isP)) fun a S => ?_
  refine lq (pAdd p0 1) S (q_fieldAddr' 1 2 rfl ((hat33 0 _ rfl).isP) Tryz.underlying80 rfl Tryz.sizeOf2) fun a S => ?_
  refine lq (.int .i64 a0.2.1) S (q_load1 rfl Tryz.isAgg2 (fun w1 hC => (At.of_add (m := 1) (j := 0) ((hat33 1 _ rfl).ext hC.ext)))) fun a S => ?_
  refine lq p1 S (q_move rfl) fun a S => ?_
  refine lq p1 S (q_nilCheck rfl ((hat44 0 _ rfl).isP)) fun a S => ?_
  refine lq (pAdd p1 1) S (q_fieldAddr' 1 2 rfl ((hat44 0 _ rfl).isP) Tryz.underlying80 rfl Tryz.sizeOf2) fun a S => ?_
  refine lq (.int .i64 a1.2.1) S (q_load1 rfl Tryz.isAgg2 (fun w1 hC => (At.of_add (m := 1) (j := 0) ((hat44 1 _ rfl).ext hC.ext)))) fun a S => ?_
  refine lq (.bool (a0.2.1 != a1.2.1)) S (q_neq rfl rfl) fun a S => ?_
  refine lx_nil (thenN ?_)
  refine cond_b S rfl (fun hc60 => ?_) (fun hc60 => ?_)
  ·have hm := ite_t hc60 hm
   refine wp_seq ?_
   refine region_drawG (fun w1 => Heap w0 [] w1) (fun i => [].contains i) mixed (by kernel_rfl) (fun w62 he61 => ?_)
   have H := H.later he61
   refine ⟨H.sel [] (by decide), ?_⟩
   refine lq p0 S (q_move rfl) fun a S => ?_
   refine lq p0 S (q_nilCheck rfl ((hat33 0 _ rfl).isP)) fun a S => ?_
   refine lq (pAdd p0 1) S (q_fieldAddr' 1 2 rfl ((hat33 0 _ rfl).isP) Tryz.underlying80 rfl Tryz.sizeOf2) fun a S => ?_
   refine lq (.int .i64 a0.2.1) S (q_load1 rfl Tryz.isAgg2 (fun w1 hC => (At.of_add (m := 1) (j := 0) ((hat33 1 _ rfl).ext hC.ext)))) fun a S => ?_
   refine lq p1 S (q_move rfl) fun a S => ?_
   refine lq p1 S (q_nilCheck rfl ((hat44 0 _ rfl).isP)) fun a S => ?_
   refine lq (pAdd p1 1) S (q_fieldAddr' 1 2 rfl ((hat44 0 _ rfl).isP) Tryz.underlying80 rfl Tryz.sizeOf2) fun a S => ?_
   refine lq (.int .i64 a1.2.1) S (q_load1 rfl Tryz.isAgg2 (fun w1 hC => (At.of_add (m := 1) (j := 0) ((hat44 1 _ rfl).ext hC.ext)))) fun a S => ?_
   refine lq (.bool (decide (a0.2.1 < a1.2.1))) S (q_lss rfl rfl) fun a S => ?_
   refine lq (.bool (decide (a0.2.1 < a1.2.1))) S (q_assign rfl) fun a S => ?_
   refine lx_nil (thenN ?_)
   refine wp_ret (then_ret ?_)
   obtain rfl := Option.some.inj hm
   exact leave1 S rfl rfl ⟨rfl, H⟩
  ·have hm := ite_f hc60 hm
   refine wp_skip (thenN ?_)
   refine wp_seq ?_
   refine region_drawG (fun w1 => Heap w0 [] w1) (fun i => [].contains i) mixed (by kernel_rfl) (fun w64 he63 => ?_)
   have H := H.later he63
   refine ⟨H.sel [] (by decide), ?_⟩
   refine lq p0 S (q_move rfl) fun a S => ?_
   refine lq p0 S (q_nilCheck rfl ((hat33 0 _ rfl).isP)) fun a S => ?_
   refine lq (pAdd p0 2) S (q_fieldAddr' 2 2 rfl ((hat33 0 _ rfl).isP) Tryz.underlying80 rfl Tryz.sizeOf2) fun a S => ?_
   refine lq (.int .i64 a0.2.2) S (q_load1 rfl Tryz.isAgg2 (fun w1 hC => (At.of_add (m := 2) (j := 0) ((hat33 2 _ rfl).ext hC.ext)))) fun a S => ?_
   refine lq p1 S (q_move rfl) fun a S => ?_
   refine lq p1 S (q_nilCheck rfl ((hat44 0 _ rfl).isP)) fun a S => ?_
   refine lq (pAdd p1 2) S (q_fieldAddr' 2 2 rfl ((hat44 0 _ rfl).isP) Tryz.underlying80 rfl Tryz.sizeOf2) fun a S => ?_
   refine lq (.int .i64 a1.2.2) S (q_load1 rfl Tryz.isAgg2 (fun w1 hC => (At.of_add (m := 2) (j := 0) ((hat44 2 _ rfl).ext hC.ext)))) fun a S => ?_
   refine lq (.bool (decide (a0.2.2 < a1.2.2))) S (q_lss rfl rfl) fun a S => ?_
   refine lq (.bool (decide (a0.2.2 < a1.2.2))) S (q_assign rfl) fun a S => ?_
   refine lx_nil (thenN ?_)
   refine wp_ret ?_
   obtain rfl := Option.some.inj hm
   exact leave1 S rfl rfl ⟨rfl, H⟩
end Go.Proofs.YtnkpniekdipgaaaGreatDoor
