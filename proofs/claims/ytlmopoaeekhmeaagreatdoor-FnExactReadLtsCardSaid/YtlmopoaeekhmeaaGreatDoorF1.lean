/- The models of some functions and their walks (printed by a program of this repo). -/
import Derived.Test.YtlmopoaeekhmeaaGreatDoorF0
import Derived.Test.YtlmopoaeekhmeaaGreatDoorGxT
import Derived.Test.YtlmopoaeekhmeaaGreatDoorGxY
namespace Go.Proofs.YtlmopoaeekhmeaaGreatDoor
open Go.RowKit Go.Gx

/-- spec.l01Split -/
def spec_l01Split_m (fuel : Nat) (a0 : Str) (a1 : Int) : Option ((List Str)) :=
  (iter (fun (s : (List Str) × (Int) × (Int)) => (match s with | (xs60, x62, x63) => (if (decide (x63 < (a0.length : Int))) = true then join (κ := List Str → Int → Option (((List Str) × (Int) × (Int)) ⊕ (((List Str) × Int) ⊕ ((List Str))))) (fun (xs113 : List Str) (x115 : Int) => some (.inl (xs113, x115, (W (x63 + (1 : Int)))))) (fun K116 => (idx a0 x63).bind fun b118 => (if ((b118.toNat : Int) == a1) = true then (sub a0 x62 x63).bind fun xs121 => (app xs60 [xs121]).bind fun x126 => (K116 x126 (W (x63 + (1 : Int)))) else (K116 xs60 x62))) else some (.inr (.inl (xs60, x62)))) : Option (((List Str) × (Int) × (Int)) ⊕ (((List Str) × Int) ⊕ ((List Str)))))) fuel (([] : List Str), (0 : Int), (0 : Int))).bind fun res93 => ctl (β := (List Str) × Int) (ρ := (List Str)) (τ := (List Str)) res93 (fun (xs90, x92) => (sub a0 x92 (a0.length : Int)).bind fun xs98 => (app xs90 [xs98]).bind fun x103 => some (x103)) (fun q => some (q))
set_option maxRecDepth 20000 in
theorem spec_l01Split_ok [dr : Dr] {w0 : World} {fuel : Nat} {a0 : Str} {a1 : Int} {r : (List Str)} (hm : spec_l01Split_m fuel a0 a1 = some r) :
  Calls Tryz.prog 22 #[sv a0, .int .u8 a1] w0 fun e w => ∃ (v0 : Value), e = .returned (v0) ∧ Heap w0 [oA (rList rStr) v0 r] w := by
 unfold spec_l01Split_m at hm
 have H := Heap.start w0
 refine enter (args := [sv a0, .int .u8 a1]) Tryz.func22 rfl 35 rfl (Nat.le_of_ble_eq_true rfl) (fun a S => ?_)
 refine wp_seq (region_plain ?_)
 refine lq (.slice none 0 0) S (q_assign rfl) fun a S => ?_
 refine lx_nil (thenN ?_)
 refine wp_seq (region_plain ?_)
 refine lx_buildSlice0 (r := rStr) S trivial (by decide) rfl H Tryz.underlying22 Tryz.sizeOf9 (fun v31 w32 H => ⟨trivial, fun a S => ?_⟩)
 refine lq v31 S (q_assign rfl) fun a S => ?_
 refine lx_nil (thenN ?_)
 refine wp_seq (region_plain ?_)
 refine lq (.int .i64 (0 : Int)) S (q_assign rfl) fun a S => ?_
 refine lx_nil (thenN ?_)
 refine wp_seq (wp_seq (region_plain ?_))
 refine lq (.int .i64 (0 : Int)) S (q_assign rfl) fun a S => ?_
 refine lx_nil (thenN ?_)
 obtain ⟨res93, hit94, hk97⟩ := bind_some hm
 obtain ⟨f95, hf96, hit94⟩ := iter_name hit94
 refine block_loop (fun a w => ∃ (xs90 : List Str) (x92 : Int) (v89 : Value), Slots a 35 [(0, (sv a0)), (5, v89), (6, (.int .i64 x92))] ∧ Heap w0 [oA (rList rStr) v89 xs90] w ∧ res93 = .inl (xs90, x92)) ?_ ?_
 ·rintro a w ⟨xs90, x92, v89, S, H, rfl⟩
  have hm := ctl_inl hk97
  refine thenN ?_
  refine wp_seq (region_plain ?_)
  refine lq v89 S (q_move rfl) fun a S => ?_
  refine lq (sv a0) S (q_move rfl) fun a S => ?_
  refine lq (.int .i64 x92) S (q_move rfl) fun a S => ?_
  obtain ⟨xs98, e99, hm⟩ := bind_some hm
  obtain ⟨hsb, hse⟩ := sub_some e99
  replace hse := hse.symm
  subst hse
  refine lq (sv ((a0.take ((a0.length : Int)).toNat).drop (x92).toNat)) S (q_ssub (lo := (some (.tmp 31))) (hi := none) (l := x92) (h := (a0.length : Int)) rfl Tryz.underlying9 rfl rfl hsb.1 hsb.2.1 hsb.2.2) fun a S => ?_
  refine lx_buildSlice (r := rStr) (xs := [((a0.take ((a0.length : Int)).toNat).drop (x92).toNat)]) (ps := [(0, [(sv ((a0.take ((a0.length : Int)).toNat).drop (x92).toNat))])]) (cs := [(sv ((a0.take ((a0.length : Int)).toNat).drop (x92).toNat))]) (parts := [(0, .tmp 32)]) S trivial (by decide) rfl (H.put0 (A := eA) rfl) rfl Tryz.underlying22 Tryz.sizeOf9 Tryz.zeroValue9 (by decide) ⟨rfl, rfl, Nat.le_of_ble_eq_true rfl, trivial⟩ (by intro zs hz; exact fill_dense hz ⟨rfl, trivial⟩ rfl rfl) rfl (by decide) (fun w F hA => by cases (show F = [] from hA); exact ⟨_, _, [(sv ((a0.take ((a0.length : Int)).toNat).drop (x92).toNat))], _, rfl, rfl, ⟨rfl, rfl⟩, ⟨rfl, rfl⟩⟩) (fun v100 w101 H => ⟨trivial, fun a S => ?_⟩)
  obtain ⟨x103, e104, hm⟩ := bind_some hm
  obtain ⟨hle, hap⟩ := app_some e104
  replace hap := hap.symm
  subst hap
  have H : Heap w0 [oA (rList rStr) v100 [((a0.take ((a0.length : Int)).toNat).drop (x92).toNat)], oA (rList rStr) v89 xs90] w101 := H.front 0 rfl
  have H : Heap w0 [oA (rList rStr) v89 xs90, oA (rList rStr) v100 [((a0.take ((a0.length : Int)).toNat).drop (x92).toNat)]] w101 := H.front 1 rfl
  refine lx_appendOwn (r := rStr) S trivial (by decide) rfl H rfl rfl Tryz.underlying22 Tryz.ti9 rfl rfl rfl (Nat.le_of_ble_eq_true rfl) (by decide) hle (fun v105 w106 H => ⟨trivial, fun a S => ?_⟩)
  refine lq v105 S (q_assign rfl) fun a S => ?_
  refine lx_nil (thenN ?_)
  refine wp_ret ?_
  obtain rfl := Option.some.inj hm
  exact leave1 S rfl rfl ⟨v105, rfl, H⟩
 ·skip
  refine loop_ghost (fun n a w => ∃ (xs60 : List Str) (x62 : Int) (x63 : Int) (v59 : Value), Slots a 35 [(0, (sv a0)), (1, (.int .u8 a1)), (5, v59), (6, (.int .i64 x62)), (7, (.int .i64 x63))] ∧ Heap w0 [oA (rList rStr) v59 xs60] w ∧ iter f95 n (xs60, x62, x63) = some res93) _ ⟨([] : List Str), (0 : Int), (0 : Int), v31, S.sub ⟨rfl, rfl, rfl, rfl, rfl, trivial⟩, H, hit94⟩ ?_
  rintro n a w ⟨xs60, x62, x63, v59, S, H, hit94⟩
  obtain ⟨m108, o109, rfl, hm, hc110⟩ := iter_step hit94
  rw [hf96] at hm
  refine wp_seq (wp_seq (region_plain ?_))
  refine lq (.int .i64 x63) S (q_move rfl) fun a S => ?_
  refine lq (sv a0) S (q_move rfl) fun a S => ?_
  refine lq (.int .i64 (a0.length : Int)) S (q_lenStr rfl rfl Tryz.underlying9) fun a S => ?_
  refine lq (.bool (decide (x63 < (a0.length : Int)))) S (q_lss rfl rfl) fun a S => ?_
  refine lx_nil (thenN ?_)
  refine cond_b S rfl (fun hc111 => ?_) (fun hc111 => ?_)
  ·have hm := ite_t hc111 hm
   refine wp_skip (thenN ?_)
   obtain ⟨K116, hK117, hm⟩ := join_elim hm
   refine seq_cut (fun a w => ∃ (xs113 : List Str) (x115 : Int) (v112 : Value), Slots a 35 [(0, (sv a0)), (1, (.int .u8 a1)), (5, v112), (6, (.int .i64 x115)), (7, (.int .i64 x63))] ∧ Heap w0 [oA (rList rStr) v112 xs113] w ∧ K116 xs113 x115 = some o109) ?_ ?_
   ·rintro a w ⟨xs113, x115, v112, S, H, hm⟩
    subst hK117
    refine region_plain ?_
    refine lq (.int .i64 x63) S (q_move rfl) fun a S => ?_
    refine lq (.int .i64 (W (x63 + (1 : Int)))) S (q_add rfl rfl) fun a S => ?_
    refine lq (.int .i64 (W (x63 + (1 : Int)))) S (q_assign rfl) fun a S => ?_
    refine lx_nil ?_
    exact ⟨m108, Nat.lt_succ_self _, xs113, x115, (W (x63 + (1 : Int))), v112, S.sub ⟨rfl, rfl, rfl, rfl, rfl, trivial⟩, H, it_cont hm hc110⟩
   ·skip
    refine wp_block ?_
    refine wp_seq (region_plain ?_)
    refine lq (sv a0) S (q_move rfl) fun a S => ?_
    refine lq (.int .i64 x63) S (q_move rfl) fun a S => ?_
    obtain ⟨b118, e119, hm⟩ := bind_some hm
    refine lq (.int .u8 (b118.toNat : Int)) S (q_sidx rfl rfl Tryz.underlying9 e119) fun a S => ?_
    refine lq (.int .u8 a1) S (q_move rfl) fun a S => ?_
    refine lq (.bool ((b118.toNat : Int) == a1)) S (q_eql rfl rfl) fun a S => ?_
    refine lx_nil (thenN ?_)
    refine cond_b S rfl (fun hc120 => ?_) (fun hc120 => ?_)
    ·have hm := ite_t hc120 hm
     refine wp_seq (region_plain ?_)
     refine lq v59 S (q_move rfl) fun a S => ?_
     refine lq (sv a0) S (q_move rfl) fun a S => ?_
     refine lq (.int .i64 x62) S (q_move rfl) fun a S => ?_
     refine lq (.int .i64 x63) S (q_move rfl) fun a S => ?_
     obtain ⟨xs121, e122, hm⟩ := bind_some hm
     obtain ⟨hsb, hse⟩ := sub_some e122
     replace hse := hse.symm
     subst hse
     refine lq (sv ((a0.take (x63).toNat).drop (x62).toNat)) S (q_ssub (lo := (some (.tmp 22))) (hi := (some (.tmp 23))) (l := x62) (h := x63) rfl Tryz.underlying9 rfl rfl hsb.1 hsb.2.1 hsb.2.2) fun a S => ?_
     refine lx_buildSlice (r := rStr) (xs := [((a0.take (x63).toNat).drop (x62).toNat)]) (ps := [(0, [(sv ((a0.take (x63).toNat).drop (x62).toNat))])]) (cs := [(sv ((a0.take (x63).toNat).drop (x62).toNat))]) (parts := [(0, .tmp 24)]) S trivial (by decide) rfl (H.put0 (A := eA) rfl) rfl Tryz.underlying22 Tryz.sizeOf9 Tryz.zeroValue9 (by decide) ⟨rfl, rfl, Nat.le_of_ble_eq_true rfl, trivial⟩ (by intro zs hz; exact fill_dense hz ⟨rfl, trivial⟩ rfl rfl) rfl (by decide) (fun w F hA => by cases (show F = [] from hA); exact ⟨_, _, [(sv ((a0.take (x63).toNat).drop (x62).toNat))], _, rfl, rfl, ⟨rfl, rfl⟩, ⟨rfl, rfl⟩⟩) (fun v123 w124 H => ⟨trivial, fun a S => ?_⟩)
     obtain ⟨x126, e127, hm⟩ := bind_some hm
     obtain ⟨hle, hap⟩ := app_some e127
     replace hap := hap.symm
     subst hap
     have H : Heap w0 [oA (rList rStr) v123 [((a0.take (x63).toNat).drop (x62).toNat)], oA (rList rStr) v59 xs60] w124 := H.front 0 rfl
     have H : Heap w0 [oA (rList rStr) v59 xs60, oA (rList rStr) v123 [((a0.take (x63).toNat).drop (x62).toNat)]] w124 := H.front 1 rfl
     refine lx_appendOwn (r := rStr) S trivial (by decide) rfl H rfl rfl Tryz.underlying22 Tryz.ti9 rfl rfl rfl (Nat.le_of_ble_eq_true rfl) (by decide) hle (fun v128 w129 H => ⟨trivial, fun a S => ?_⟩)
     refine lq v128 S (q_assign rfl) fun a S => ?_
     refine lx_nil (thenN ?_)
     refine region_plain ?_
     refine lq (.int .i64 x63) S (q_move rfl) fun a S => ?_
     refine lq (.int .i64 (W (x63 + (1 : Int)))) S (q_add rfl rfl) fun a S => ?_
     refine lq (.int .i64 (W (x63 + (1 : Int)))) S (q_assign rfl) fun a S => ?_
     refine lx_nil ?_
     refine inBlock_norm ?_
     exact ⟨(xs60 ++ [((a0.take (x63).toNat).drop (x62).toNat)]), (W (x63 + (1 : Int))), v128, S.sub ⟨rfl, rfl, rfl, rfl, rfl, trivial⟩, H, hm⟩
    ·have hm := ite_f hc120 hm
     refine wp_skip ?_
     refine inBlock_norm ?_
     exact ⟨xs60, x62, v59, S.sub ⟨rfl, rfl, rfl, rfl, rfl, trivial⟩, H, hm⟩
  ·have hm := ite_f hc111 hm
   refine wp_exit ?_
   refine then_exit ?_
   refine then_exit ?_
   refine inBlock_exit ?_
   obtain rfl := it_brk hm hc110
   exact ⟨xs60, x62, v59, S.sub ⟨rfl, rfl, rfl, trivial⟩, H, rfl⟩

/-- spec.l01Digit -/
def spec_l01Digit_m (_ : Nat) (a0 : Int) : Option (Bool) :=
  (if (decide ((48 : Int) ≤ a0)) = true then some (decide (a0 ≤ (57 : Int))) else some false).bind fun t31 => some (t31)
set_option maxRecDepth 20000 in
theorem spec_l01Digit_ok [dr : Dr] {w0 : World} {fuel : Nat} {a0 : Int} {r : Bool} (hm : spec_l01Digit_m fuel a0 = some r) :
  Calls Tryz.prog 39 #[.int .u8 a0] w0 fun e w => e = .returned (.bool r) ∧ Heap w0 [] w := by
 unfold spec_l01Digit_m at hm
 have H := Heap.start w0
 refine enter (args := [.int .u8 a0]) Tryz.func39 rfl 9 rfl (Nat.le_of_ble_eq_true rfl) (fun a S => ?_)
 refine wp_seq (region_plain ?_)
 refine lq (.bool false) S (q_assign rfl) fun a S => ?_
 refine lx_nil (thenN ?_)
 refine wp_seq (region_plain ?_)
 refine lq (.int .u8 a0) S (q_move rfl) fun a S => ?_
 refine lq (.bool (decide ((48 : Int) ≤ a0))) S (q_geq rfl rfl) fun a S => ?_
 refine lq (.bool (decide ((48 : Int) ≤ a0))) S (q_move rfl) fun a S => ?_
 obtain ⟨t31, e32, hm⟩ := bind_some hm
 refine lx_cut 3 (fun a w => Slots a 9 [(8, (.bool t31))] ∧ Heap w0 [] w) ?_ ?_
 ·by_cases hc33 : (decide ((48 : Int) ≤ a0)) = true
  ·have hm := ite_t hc33 e32
   refine lx_q (.int .u8 a0) S (want_b rfl rfl hc33) (by decide) (q_move rfl) (fun a S => ?_)
   refine lx_q (.bool (decide (a0 ≤ (57 : Int)))) S (want_b rfl rfl hc33) (by decide) (q_leq rfl rfl) (fun a S => ?_)
   refine lq (.bool (decide (a0 ≤ (57 : Int)))) S (q_pickT' rfl hc33 rfl) fun a S => ?_
   refine lx_nil ?_
   obtain rfl := Option.some.inj hm
   exact ⟨S.sub ⟨rfl, trivial⟩, H⟩
  ·have hm := ite_f (eq_false_of_ne_true hc33) e32
   have hc33 : (decide ((48 : Int) ≤ a0)) = false := eq_false_of_ne_true hc33
   refine lx_skip S rfl rfl (isB_ne hc33) (by decide) (fun a S => ?_)
   refine lx_skip S rfl rfl (isB_ne hc33) (by decide) (fun a S => ?_)
   refine lq (.bool false) S (q_pickF' rfl hc33 rfl) fun a S => ?_
   refine lx_nil ?_
   obtain rfl := Option.some.inj hm
   exact ⟨S.sub ⟨rfl, trivial⟩, H⟩
 ·rintro a w ⟨S, H⟩
  refine lq (.bool t31) S (q_assign rfl) fun a S => ?_
  refine lx_nil (thenN ?_)
  refine wp_ret ?_
  obtain rfl := Option.some.inj hm
  exact leave1 S rfl rfl ⟨rfl, H⟩

/-- spec.l01Number -/
def spec_l01Number_m (fuel : Nat) (a0 : Str) : Option ((Int × Bool)) :=
  join (κ := Int → Option (Int × Bool)) (fun (x31 : Int) => (if ((a0.length : Int) == x31) = true then some true else some (decide ((18 : Int) < (W ((a0.length : Int) - x31))))).bind fun t34 => (if t34 = true then some true else (idx a0 x31).bind fun b40 => (if ((b40.toNat : Int) == (48 : Int)) = true then some (decide ((1 : Int) < (a0.length : Int))) else some false).bind fun t42 => some t42).bind fun t37 => (if t37 = true then some (((0 : Int), false)) else (iter (fun (s : (Int) × (Int)) => (match s with | (x59, x60) => (if (decide (x60 < (a0.length : Int))) = true then (idx a0 x60).bind fun b88 => (spec_l01Digit_m fuel (b88.toNat : Int)).bind fun x92 => (if (!x92) = true then some (.inr (.inr ((0 : Int), false))) else (idx a0 x60).bind fun b96 => some (.inl ((W ((W ((10 : Int) * x59)) + (W (IntKind.u8.wrap ((b96.toNat : Int) - (48 : Int)))))), (W (x60 + (1 : Int)))))) else some (.inr (.inl (x59)))) : Option (((Int) × (Int)) ⊕ ((Int) ⊕ ((Int × Bool)))))) fuel ((0 : Int), x31)).bind fun res75 => ctl (β := Int) (ρ := (Int × Bool)) (τ := (Int × Bool)) res75 (fun (x74) => join (κ := Int → Option (Int × Bool)) (fun (x80 : Int) => some ((x80, true))) (fun K81 => (if (x31 == (1 : Int)) = true then (K81 (W (0 - x74))) else (K81 x74)))) (fun q => some (q)))) (fun K32 => (if (decide ((0 : Int) < (a0.length : Int))) = true then (idx a0 (0 : Int)).bind fun b101 => some ((b101.toNat : Int) == (45 : Int)) else some false).bind fun t98 => (if t98 = true then (K32 (1 : Int)) else (K32 (0 : Int))))
set_option maxRecDepth 20000 in
theorem spec_l01Number_ok [dr : Dr] {w0 : World} {fuel : Nat} {a0 : Str} {r : (Int × Bool)} (hm : spec_l01Number_m fuel a0 = some r) :
  Calls Tryz.prog 23 #[sv a0] w0 fun e w => e = .returned (.tuple #[.int .i64 r.1, .bool r.2]) ∧ Heap w0 [] w := by
 unfold spec_l01Number_m at hm
 have H := Heap.start w0
 refine enter (args := [sv a0]) Tryz.func23 rfl 62 rfl (Nat.le_of_ble_eq_true rfl) (fun a S => ?_)
 refine wp_seq (region_plain ?_)
 refine lq (.int .i64 (0 : Int)) S (q_assign rfl) fun a S => ?_
 refine lq (.bool false) S (q_assign rfl) fun a S => ?_
 refine lx_nil (thenN ?_)
 refine wp_seq (region_plain ?_)
 refine lq (.int .i64 (0 : Int)) S (q_assign rfl) fun a S => ?_
 refine lx_nil (thenN ?_)
 obtain ⟨K32, hK33, hm⟩ := join_elim hm
 refine seq_cut (fun a w => ∃ (x31 : Int), Slots a 62 [(0, (sv a0)), (4, (.int .i64 x31))] ∧ Heap w0 [] w ∧ K32 x31 = some r) ?_ ?_
 ·rintro a w ⟨x31, S, H, hm⟩
  subst hK33
  refine wp_seq (wp_seq (region_plain ?_))
  refine lq (sv a0) S (q_move rfl) fun a S => ?_
  refine lq (.int .i64 (a0.length : Int)) S (q_lenStr rfl rfl Tryz.underlying9) fun a S => ?_
  refine lq (.int .i64 x31) S (q_move rfl) fun a S => ?_
  refine lq (.bool ((a0.length : Int) == x31)) S (q_eql rfl rfl) fun a S => ?_
  refine lq (.bool ((a0.length : Int) == x31)) S (q_move rfl) fun a S => ?_
  obtain ⟨t34, e35, hm⟩ := bind_some hm
  refine lx_cut 6 (fun a w => Slots a 62 [(0, (sv a0)), (4, (.int .i64 x31)), (25, (.bool t34))] ∧ Heap w0 [] w) ?_ ?_
  ·by_cases hc36 : ((a0.length : Int) == x31) = true
   ·have hm := ite_t hc36 e35
    refine lx_skip S rfl rfl (isB_ne hc36) (by decide) (fun a S => ?_)
    refine lx_skip S rfl rfl (isB_ne hc36) (by decide) (fun a S => ?_)
    refine lx_skip S rfl rfl (isB_ne hc36) (by decide) (fun a S => ?_)
    refine lx_skip S rfl rfl (isB_ne hc36) (by decide) (fun a S => ?_)
    refine lx_skip S rfl rfl (isB_ne hc36) (by decide) (fun a S => ?_)
    refine lq (.bool true) S (q_pickT' rfl hc36 rfl) fun a S => ?_
    refine lx_nil ?_
    obtain rfl := Option.some.inj hm
    exact ⟨S.sub ⟨rfl, rfl, rfl, trivial⟩, H⟩
   ·have hm := ite_f (eq_false_of_ne_true hc36) e35
    have hc36 : ((a0.length : Int) == x31) = false := eq_false_of_ne_true hc36
    refine lx_q (sv a0) S (want_b rfl rfl hc36) (by decide) (q_move rfl) (fun a S => ?_)
    refine lx_q (.int .i64 (a0.length : Int)) S (want_b rfl rfl hc36) (by decide) (q_lenStr rfl rfl Tryz.underlying9) (fun a S => ?_)
    refine lx_q (.int .i64 x31) S (want_b rfl rfl hc36) (by decide) (q_move rfl) (fun a S => ?_)
    refine lx_q (.int .i64 (W ((a0.length : Int) - x31))) S (want_b rfl rfl hc36) (by decide) (q_sub rfl rfl) (fun a S => ?_)
    refine lx_q (.bool (decide ((18 : Int) < (W ((a0.length : Int) - x31))))) S (want_b rfl rfl hc36) (by decide) (q_gtr rfl rfl) (fun a S => ?_)
    refine lq (.bool (decide ((18 : Int) < (W ((a0.length : Int) - x31))))) S (q_pickF' rfl hc36 rfl) fun a S => ?_
    refine lx_nil ?_
    obtain rfl := Option.some.inj hm
    exact ⟨S.sub ⟨rfl, rfl, rfl, trivial⟩, H⟩
  ·rintro a w ⟨S, H⟩
   refine lq (.bool t34) S (q_move rfl) fun a S => ?_
   obtain ⟨t37, e38, hm⟩ := bind_some hm
   refine lx_cut 10 (fun a w => Slots a 62 [(0, (sv a0)), (4, (.int .i64 x31)), (36, (.bool t37))] ∧ Heap w0 [] w) ?_ ?_
   ·by_cases hc39 : t34 = true
    ·have hm := ite_t hc39 e38
     refine lx_skip S rfl rfl (isB_ne hc39) (by decide) (fun a S => ?_)
     refine lx_skip S rfl rfl (isB_ne hc39) (by decide) (fun a S => ?_)
     refine lx_skip S rfl rfl (isB_ne hc39) (by decide) (fun a S => ?_)
     refine lx_skip S rfl rfl (isB_ne hc39) (by decide) (fun a S => ?_)
     refine lx_skip S rfl rfl (isB_ne hc39) (by decide) (fun a S => ?_)
     refine lx_skip S rfl rfl rfl (by decide) (fun a S => ?_)
     refine lx_skip S rfl rfl rfl (by decide) (fun a S => ?_)
     refine lx_skip S rfl rfl rfl (by decide) (fun a S => ?_)
     refine lx_skip S rfl rfl (isB_ne hc39) (by decide) (fun a S => ?_)
     refine lq (.bool true) S (q_pickT' rfl hc39 rfl) fun a S => ?_
     refine lx_nil ?_
     obtain rfl := Option.some.inj hm
     exact ⟨S.sub ⟨rfl, rfl, rfl, trivial⟩, H⟩
    ·have hm := ite_f (eq_false_of_ne_true hc39) e38
     have hc39 : t34 = false := eq_false_of_ne_true hc39
     refine lx_q (sv a0) S (want_b rfl rfl hc39) (by decide) (q_move rfl) (fun a S => ?_)
     refine lx_q (.int .i64 x31) S (want_b rfl rfl hc39) (by decide) (q_move rfl) (fun a S => ?_)
     obtain ⟨b40, e41, hm⟩ := bind_some hm
     refine lx_q (.int .u8 (b40.toNat : Int)) S (want_b rfl rfl hc39) (by decide) (q_sidx rfl rfl Tryz.underlying9 e41) (fun a S => ?_)
     refine lx_q (.bool ((b40.toNat : Int) == (48 : Int))) S (want_b rfl rfl hc39) (by decide) (q_eql rfl rfl) (fun a S => ?_)
     refine lx_q (.bool ((b40.toNat : Int) == (48 : Int))) S (want_b rfl rfl hc39) (by decide) (q_move rfl) (fun a S => ?_)
     obtain ⟨t42, e43, hm⟩ := bind_some hm
     refine lx_cut 4 (fun a w => Slots a 62 [(0, (sv a0)), (4, (.int .i64 x31)), (26, (.bool t34)), (35, (.bool t42))] ∧ Heap w0 [] w) ?_ ?_
     ·by_cases hc44 : ((b40.toNat : Int) == (48 : Int)) = true
      ·have hm := ite_t hc44 e43
       refine lx_q (sv a0) S (want_b rfl rfl hc44) (by decide) (q_move rfl) (fun a S => ?_)
       refine lx_q (.int .i64 (a0.length : Int)) S (want_b rfl rfl hc44) (by decide) (q_lenStr rfl rfl Tryz.underlying9) (fun a S => ?_)
       refine lx_q (.bool (decide ((1 : Int) < (a0.length : Int)))) S (want_b rfl rfl hc44) (by decide) (q_gtr rfl rfl) (fun a S => ?_)
       refine lx_q (.bool (decide ((1 : Int) < (a0.length : Int)))) S (want_b rfl rfl hc39) (by decide) (q_pickT' rfl hc44 rfl) (fun a S => ?_)
       refine lx_nil ?_
       obtain rfl := Option.some.inj hm
       exact ⟨S.sub ⟨rfl, rfl, rfl, rfl, trivial⟩, H⟩
      ·have hm := ite_f (eq_false_of_ne_true hc44) e43
       have hc44 : ((b40.toNat : Int) == (48 : Int)) = false := eq_false_of_ne_true hc44
       refine lx_skip S rfl rfl (isB_ne hc44) (by decide) (fun a S => ?_)
       refine lx_skip S rfl rfl (isB_ne hc44) (by decide) (fun a S => ?_)
       refine lx_skip S rfl rfl (isB_ne hc44) (by decide) (fun a S => ?_)
       refine lx_q (.bool false) S (want_b rfl rfl hc39) (by decide) (q_pickF' rfl hc44 rfl) (fun a S => ?_)
       refine lx_nil ?_
       obtain rfl := Option.some.inj hm
       exact ⟨S.sub ⟨rfl, rfl, rfl, rfl, trivial⟩, H⟩
     ·rintro a w ⟨S, H⟩
      refine lq (.bool t42) S (q_pickF' rfl hc39 rfl) fun a S => ?_
      refine lx_nil ?_
      obtain rfl := Option.some.inj hm
      exact ⟨S.sub ⟨rfl, rfl, rfl, trivial⟩, H⟩
   ·rintro a w ⟨S, H⟩
    refine lx_nil (thenN ?_)
    refine cond_b S rfl (fun hc45 => ?_) (fun hc45 => ?_)
    ·have hm := ite_t hc45 hm
     refine wp_seq (region_plain ?_)
     refine lq (.int .i64 (0 : Int)) S (q_assign rfl) fun a S => ?_
     refine lq (.bool false) S (q_assign rfl) fun a S => ?_
     refine lx_nil (thenN ?_)
     refine wp_ret (then_ret ?_)
     obtain rfl := Option.some.inj hm
     exact leave2 S rfl rfl rfl ⟨rfl, H⟩
    ·have hm := ite_f hc45 hm
     refine wp_skip (thenN ?_)
     refine wp_seq (region_plain ?_)
     refine lq (.int .i64 (0 : Int)) S (q_assign rfl) fun a S => ?_
     refine lx_nil (thenN ?_)
     refine wp_seq (wp_seq (region_plain ?_))
     refine lq (.int .i64 x31) S (q_move rfl) fun a S => ?_
     refine lq (.int .i64 x31) S (q_assign rfl) fun a S => ?_
     refine lx_nil (thenN ?_)
     obtain ⟨res75, hit76, hk79⟩ := bind_some hm
     obtain ⟨f77, hf78, hit76⟩ := iter_name hit76
     refine block_loop (fun a w => ∃ (x74 : Int), Slots a 62 [(4, (.int .i64 x31)), (5, (.int .i64 x74))] ∧ Heap w0 [] w ∧ res75 = .inl (x74)) ?_ ?_
     ·rintro a w ⟨x74, S, H, rfl⟩
      have hm := ctl_inl hk79
      refine thenN ?_
      obtain ⟨K81, hK82, hm⟩ := join_elim hm
      refine seq_cut (fun a w => ∃ (x80 : Int), Slots a 62 [(5, (.int .i64 x80))] ∧ Heap w0 [] w ∧ K81 x80 = some r) ?_ ?_
      ·rintro a w ⟨x80, S, H, hm⟩
       subst hK82
       refine wp_seq (region_plain ?_)
       refine lq (.int .i64 x80) S (q_move rfl) fun a S => ?_
       refine lq (.int .i64 x80) S (q_assign rfl) fun a S => ?_
       refine lq (.bool true) S (q_assign rfl) fun a S => ?_
       refine lx_nil (thenN ?_)
       refine wp_ret ?_
       obtain rfl := Option.some.inj hm
       exact leave2 S rfl rfl rfl ⟨rfl, H⟩
      ·skip
       refine wp_seq (region_plain ?_)
       refine lq (.int .i64 x31) S (q_move rfl) fun a S => ?_
       refine lq (.bool (x31 == (1 : Int))) S (q_eql rfl rfl) fun a S => ?_
       refine lx_nil (thenN ?_)
       refine cond_b S rfl (fun hc83 => ?_) (fun hc83 => ?_)
       ·have hm := ite_t hc83 hm
        refine region_plain ?_
        refine lq (.int .i64 x74) S (q_move rfl) fun a S => ?_
        refine lq (.int .i64 (W (0 - x74))) S (q_neg rfl) fun a S => ?_
        refine lq (.int .i64 (W (0 - x74))) S (q_assign rfl) fun a S => ?_
        refine lx_nil ?_
        exact ⟨(W (0 - x74)), S.sub ⟨rfl, trivial⟩, H, hm⟩
       ·have hm := ite_f hc83 hm
        refine wp_skip ?_
        exact ⟨x74, S.sub ⟨rfl, trivial⟩, H, hm⟩
     ·skip
      refine loop_ghost (fun n a w => ∃ (x59 : Int) (x60 : Int), Slots a 62 [(0, (sv a0)), (4, (.int .i64 x31)), (5, (.int .i64 x59)), (6, (.int .i64 x60))] ∧ Heap w0 [] w ∧ iter f77 n (x59, x60) = some res75) _ ⟨(0 : Int), x31, S.sub ⟨rfl, rfl, rfl, rfl, trivial⟩, H, hit76⟩ ?_
      rintro n a w ⟨x59, x60, S, H, hit76⟩
      obtain ⟨m84, o85, rfl, hm, hc86⟩ := iter_step hit76
      rw [hf78] at hm
      refine wp_seq (wp_seq (region_plain ?_))
      refine lq (.int .i64 x60) S (q_move rfl) fun a S => ?_
      refine lq (sv a0) S (q_move rfl) fun a S => ?_
      refine lq (.int .i64 (a0.length : Int)) S (q_lenStr rfl rfl Tryz.underlying9) fun a S => ?_
      refine lq (.bool (decide (x60 < (a0.length : Int)))) S (q_lss rfl rfl) fun a S => ?_
      refine lx_nil (thenN ?_)
      refine cond_b S rfl (fun hc87 => ?_) (fun hc87 => ?_)
      ·have hm := ite_t hc87 hm
       refine wp_skip (thenN ?_)
       refine wp_seq ?_
       refine wp_block ?_
       refine wp_seq (wp_seq (region_plain ?_))
       refine lq (sv a0) S (q_move rfl) fun a S => ?_
       refine lq (.int .i64 x60) S (q_move rfl) fun a S => ?_
       obtain ⟨b88, e89, hm⟩ := bind_some hm
       refine lq (.int .u8 (b88.toNat : Int)) S (q_sidx rfl rfl Tryz.underlying9 e89) fun a S => ?_
       obtain ⟨x92, e93, hm⟩ := bind_some hm
       refine lx_call (xs := [.tmp 46]) S trivial (by decide) rfl rfl Tryz.call39 ((spec_l01Digit_ok  e93).mono ?_)
       rintro e w90 ⟨rfl, Hc91⟩
       have H := H.call0 Hc91
       refine ⟨_, rfl, trivial, fun a S => ?_⟩
       refine lq (.bool (!x92)) S (q_not rfl) fun a S => ?_
       refine lx_nil (thenN ?_)
       refine cond_b S rfl (fun hc95 => ?_) (fun hc95 => ?_)
       ·have hm := ite_t hc95 hm
        refine wp_seq (region_plain ?_)
        refine lq (.int .i64 (0 : Int)) S (q_assign rfl) fun a S => ?_
        refine lq (.bool false) S (q_assign rfl) fun a S => ?_
        refine lx_nil (thenN ?_)
        refine wp_ret (then_ret ?_)
        refine inBlock_ret ?_
        refine then_ret ?_
        refine then_ret ?_
        refine inBlock_ret ?_
        refine then_ret ?_
        refine then_ret ?_
        obtain rfl := it_brk hm hc86
        have hm := ctl_inr hk79
        obtain rfl := Option.some.inj hm
        exact leave2 S rfl rfl rfl ⟨rfl, H⟩
       ·have hm := ite_f hc95 hm
        refine wp_skip (thenN ?_)
        refine region_plain ?_
        refine lq (.int .i64 x59) S (q_move rfl) fun a S => ?_
        refine lq (.int .i64 (W ((10 : Int) * x59))) S (q_mul rfl rfl) fun a S => ?_
        refine lq (sv a0) S (q_move rfl) fun a S => ?_
        refine lq (.int .i64 x60) S (q_move rfl) fun a S => ?_
        obtain ⟨b96, e97, hm⟩ := bind_some hm
        refine lq (.int .u8 (b96.toNat : Int)) S (q_sidx rfl rfl Tryz.underlying9 e97) fun a S => ?_
        refine lq (.int .u8 (IntKind.u8.wrap ((b96.toNat : Int) - (48 : Int)))) S (q_sub rfl rfl) fun a S => ?_
        refine lq (.int .i64 (W (IntKind.u8.wrap ((b96.toNat : Int) - (48 : Int))))) S (q_convInt rfl Tryz.underlying5 Tryz.underlying2) fun a S => ?_
        refine lq (.int .i64 (W ((W ((10 : Int) * x59)) + (W (IntKind.u8.wrap ((b96.toNat : Int) - (48 : Int))))))) S (q_add rfl rfl) fun a S => ?_
        refine lq (.int .i64 (W ((W ((10 : Int) * x59)) + (W (IntKind.u8.wrap ((b96.toNat : Int) - (48 : Int))))))) S (q_assign rfl) fun a S => ?_
        refine lx_nil ?_
        refine inBlock_norm ?_
        refine thenN ?_
        refine region_plain ?_
        refine lq (.int .i64 x60) S (q_move rfl) fun a S => ?_
        refine lq (.int .i64 (W (x60 + (1 : Int)))) S (q_add rfl rfl) fun a S => ?_
        refine lq (.int .i64 (W (x60 + (1 : Int)))) S (q_assign rfl) fun a S => ?_
        refine lx_nil ?_
        exact ⟨m84, Nat.lt_succ_self _, (W ((W ((10 : Int) * x59)) + (W (IntKind.u8.wrap ((b96.toNat : Int) - (48 : Int)))))), (W (x60 + (1 : Int))), S.sub ⟨rfl, rfl, rfl, rfl, trivial⟩, H, it_cont hm hc86⟩
      ·have hm := ite_f hc87 hm
       refine wp_exit ?_
       refine then_exit ?_
       refine then_exit ?_
       refine inBlock_exit ?_
       obtain rfl := it_brk hm hc86
       exact ⟨x59, S.sub ⟨rfl, rfl, trivial⟩, H, rfl⟩
 ·skip
  refine wp_seq (region_plain ?_)
  refine lq (sv a0) S (q_move rfl) fun a S => ?_
  refine lq (.int .i64 (a0.length : Int)) S (q_lenStr rfl rfl Tryz.underlying9) fun a S => ?_
  refine lq (.bool (decide ((0 : Int) < (a0.length : Int)))) S (q_gtr rfl rfl) fun a S => ?_
  refine lq (.bool (decide ((0 : Int) < (a0.length : Int)))) S (q_move rfl) fun a S => ?_
  obtain ⟨t98, e99, hm⟩ := bind_some hm
  refine lx_cut 4 (fun a w => Slots a 62 [(0, (sv a0)), (4, (.int .i64 (0 : Int))), (14, (.bool t98))] ∧ Heap w0 [] w) ?_ ?_
  ·by_cases hc100 : (decide ((0 : Int) < (a0.length : Int))) = true
   ·have hm := ite_t hc100 e99
    refine lx_q (sv a0) S (want_b rfl rfl hc100) (by decide) (q_move rfl) (fun a S => ?_)
    obtain ⟨b101, e102, hm⟩ := bind_some hm
    refine lx_q (.int .u8 (b101.toNat : Int)) S (want_b rfl rfl hc100) (by decide) (q_sidx rfl rfl Tryz.underlying9 e102) (fun a S => ?_)
    refine lx_q (.bool ((b101.toNat : Int) == (45 : Int))) S (want_b rfl rfl hc100) (by decide) (q_eql rfl rfl) (fun a S => ?_)
    refine lq (.bool ((b101.toNat : Int) == (45 : Int))) S (q_pickT' rfl hc100 rfl) fun a S => ?_
    refine lx_nil ?_
    obtain rfl := Option.some.inj hm
    exact ⟨S.sub ⟨rfl, rfl, rfl, trivial⟩, H⟩
   ·have hm := ite_f (eq_false_of_ne_true hc100) e99
    have hc100 : (decide ((0 : Int) < (a0.length : Int))) = false := eq_false_of_ne_true hc100
    refine lx_skip S rfl rfl (isB_ne hc100) (by decide) (fun a S => ?_)
    refine lx_skip S rfl rfl (isB_ne hc100) (by decide) (fun a S => ?_)
    refine lx_skip S rfl rfl (isB_ne hc100) (by decide) (fun a S => ?_)
    refine lq (.bool false) S (q_pickF' rfl hc100 rfl) fun a S => ?_
    refine lx_nil ?_
    obtain rfl := Option.some.inj hm
    exact ⟨S.sub ⟨rfl, rfl, rfl, trivial⟩, H⟩
  ·rintro a w ⟨S, H⟩
   refine lx_nil (thenN ?_)
   refine cond_b S rfl (fun hc103 => ?_) (fun hc103 => ?_)
   ·have hm := ite_t hc103 hm
    refine region_plain ?_
    refine lq (.int .i64 (1 : Int)) S (q_assign rfl) fun a S => ?_
    refine lx_nil ?_
    exact ⟨(1 : Int), S.sub ⟨rfl, rfl, trivial⟩, H, hm⟩
   ·have hm := ite_f hc103 hm
    refine wp_skip ?_
    exact ⟨(0 : Int), S.sub ⟨rfl, rfl, trivial⟩, H, hm⟩

/-- spec.l00In -/
def spec_l00In_m (_ : Nat) (a0 : Int) (a1 : Int) (a2 : Int) : Option (Bool) :=
  (if (decide (a1 ≤ a0)) = true then some (decide (a0 ≤ a2)) else some false).bind fun t31 => some (t31)
set_option maxRecDepth 20000 in
theorem spec_l00In_ok [dr : Dr] {w0 : World} {fuel : Nat} {a0 : Int} {a1 : Int} {a2 : Int} {r : Bool} (hm : spec_l00In_m fuel a0 a1 a2 = some r) :
  Calls Tryz.prog 40 #[.int .i64 a0, .int .i64 a1, .int .i64 a2] w0 fun e w => e = .returned (.bool r) ∧ Heap w0 [] w := by
 unfold spec_l00In_m at hm
 have H := Heap.start w0
 refine enter (args := [.int .i64 a0, .int .i64 a1, .int .i64 a2]) Tryz.func40 rfl 15 rfl (Nat.le_of_ble_eq_true rfl) (fun a S => ?_)
 refine wp_seq (region_plain ?_)
 refine lq (.bool false) S (q_assign rfl) fun a S => ?_
 refine lx_nil (thenN ?_)
 refine wp_seq (region_plain ?_)
 refine lq (.int .i64 a0) S (q_move rfl) fun a S => ?_
 refine lq (.int .i64 a1) S (q_move rfl) fun a S => ?_
 refine lq (.bool (decide (a1 ≤ a0))) S (q_geq rfl rfl) fun a S => ?_
 refine lq (.bool (decide (a1 ≤ a0))) S (q_move rfl) fun a S => ?_
 obtain ⟨t31, e32, hm⟩ := bind_some hm
 refine lx_cut 4 (fun a w => Slots a 15 [(14, (.bool t31))] ∧ Heap w0 [] w) ?_ ?_
 ·by_cases hc33 : (decide (a1 ≤ a0)) = true
  ·have hm := ite_t hc33 e32
   refine lx_q (.int .i64 a0) S (want_b rfl rfl hc33) (by decide) (q_move rfl) (fun a S => ?_)
   refine lx_q (.int .i64 a2) S (want_b rfl rfl hc33) (by decide) (q_move rfl) (fun a S => ?_)
   refine lx_q (.bool (decide (a0 ≤ a2))) S (want_b rfl rfl hc33) (by decide) (q_leq rfl rfl) (fun a S => ?_)
   refine lq (.bool (decide (a0 ≤ a2))) S (q_pickT' rfl hc33 rfl) fun a S => ?_
   refine lx_nil ?_
   obtain rfl := Option.some.inj hm
   exact ⟨S.sub ⟨rfl, trivial⟩, H⟩
  ·have hm := ite_f (eq_false_of_ne_true hc33) e32
   have hc33 : (decide (a1 ≤ a0)) = false := eq_false_of_ne_true hc33
   refine lx_skip S rfl rfl (isB_ne hc33) (by decide) (fun a S => ?_)
   refine lx_skip S rfl rfl (isB_ne hc33) (by decide) (fun a S => ?_)
   refine lx_skip S rfl rfl (isB_ne hc33) (by decide) (fun a S => ?_)
   refine lq (.bool false) S (q_pickF' rfl hc33 rfl) fun a S => ?_
   refine lx_nil ?_
   obtain rfl := Option.some.inj hm
   exact ⟨S.sub ⟨rfl, trivial⟩, H⟩
 ·rintro a w ⟨S, H⟩
  refine lq (.bool t31) S (q_assign rfl) fun a S => ?_
  refine lx_nil (thenN ?_)
  refine wp_ret ?_
  obtain rfl := Option.some.inj hm
  exact leave1 S rfl rfl ⟨rfl, H⟩

/-- spec.l01Open -/
def spec_l01Open_m (fuel : Nat) (a0 : Str) : Option (Int) :=
  (iter (fun (s : (Int)) => (match s with | (x36) => (if (decide (x36 < (a0.length : Int))) = true then (idx a0 x36).bind fun b51 => (if ((b51.toNat : Int) == (40 : Int)) = true then some (.inr (.inr x36)) else some (.inl ((W (x36 + (1 : Int)))))) else some (.inr (.inl ()))) : Option (((Int)) ⊕ ((Unit) ⊕ (Int))))) fuel ((0 : Int))).bind fun res42 => ctl (β := Unit) (ρ := Int) (τ := Int) res42 (fun _ => some ((a0.length : Int))) (fun q => some (q))
set_option maxRecDepth 20000 in
theorem spec_l01Open_ok [dr : Dr] {w0 : World} {fuel : Nat} {a0 : Str} {r : Int} (hm : spec_l01Open_m fuel a0 = some r) :
  Calls Tryz.prog 91 #[sv a0] w0 fun e w => e = .returned (.int .i64 r) ∧ Heap w0 [] w := by
 unfold spec_l01Open_m at hm
 have H := Heap.start w0
 refine enter (args := [sv a0]) Tryz.func91 rfl 17 rfl (Nat.le_of_ble_eq_true rfl) (fun a S => ?_)
 refine wp_seq (region_plain ?_)
 refine lq (.int .i64 (0 : Int)) S (q_assign rfl) fun a S => ?_
 refine lx_nil (thenN ?_)
 refine wp_seq (wp_seq (region_plain ?_))
 refine lq (.int .i64 (0 : Int)) S (q_assign rfl) fun a S => ?_
 refine lx_nil (thenN ?_)
 obtain ⟨res42, hit43, hk46⟩ := bind_some hm
 obtain ⟨f44, hf45, hit43⟩ := iter_name hit43
 refine block_loop (fun a w => Slots a 17 [(0, (sv a0))] ∧ Heap w0 [] w ∧ res42 = .inl ()) ?_ ?_
 ·rintro a w ⟨S, H, rfl⟩
  have hm := ctl_inl hk46
  refine thenN ?_
  refine wp_seq (region_plain ?_)
  refine lq (sv a0) S (q_move rfl) fun a S => ?_
  refine lq (.int .i64 (a0.length : Int)) S (q_lenStr rfl rfl Tryz.underlying9) fun a S => ?_
  refine lq (.int .i64 (a0.length : Int)) S (q_assign rfl) fun a S => ?_
  refine lx_nil (thenN ?_)
  refine wp_ret ?_
  obtain rfl := Option.some.inj hm
  exact leave1 S rfl rfl ⟨rfl, H⟩
 ·skip
  refine loop_ghost (fun n a w => ∃ (x36 : Int), Slots a 17 [(0, (sv a0)), (3, (.int .i64 x36))] ∧ Heap w0 [] w ∧ iter f44 n (x36) = some res42) _ ⟨(0 : Int), S.sub ⟨rfl, rfl, trivial⟩, H, hit43⟩ ?_
  rintro n a w ⟨x36, S, H, hit43⟩
  obtain ⟨m47, o48, rfl, hm, hc49⟩ := iter_step hit43
  rw [hf45] at hm
  refine wp_seq (wp_seq (region_plain ?_))
  refine lq (.int .i64 x36) S (q_move rfl) fun a S => ?_
  refine lq (sv a0) S (q_move rfl) fun a S => ?_
  refine lq (.int .i64 (a0.length : Int)) S (q_lenStr rfl rfl Tryz.underlying9) fun a S => ?_
  refine lq (.bool (decide (x36 < (a0.length : Int)))) S (q_lss rfl rfl) fun a S => ?_
  refine lx_nil (thenN ?_)
  refine cond_b S rfl (fun hc50 => ?_) (fun hc50 => ?_)
  ·have hm := ite_t hc50 hm
   refine wp_skip (thenN ?_)
   refine wp_seq ?_
   refine wp_block ?_
   refine wp_seq (region_plain ?_)
   refine lq (sv a0) S (q_move rfl) fun a S => ?_
   refine lq (.int .i64 x36) S (q_move rfl) fun a S => ?_
   obtain ⟨b51, e52, hm⟩ := bind_some hm
   refine lq (.int .u8 (b51.toNat : Int)) S (q_sidx rfl rfl Tryz.underlying9 e52) fun a S => ?_
   refine lq (.bool ((b51.toNat : Int) == (40 : Int))) S (q_eql rfl rfl) fun a S => ?_
   refine lx_nil (thenN ?_)
   refine cond_b S rfl (fun hc53 => ?_) (fun hc53 => ?_)
   ·have hm := ite_t hc53 hm
    refine wp_seq (region_plain ?_)
    refine lq (.int .i64 x36) S (q_move rfl) fun a S => ?_
    refine lq (.int .i64 x36) S (q_assign rfl) fun a S => ?_
    refine lx_nil (thenN ?_)
    refine wp_ret (inBlock_ret ?_)
    refine then_ret ?_
    refine then_ret ?_
    refine inBlock_ret ?_
    refine then_ret ?_
    refine then_ret ?_
    obtain rfl := it_brk hm hc49
    have hm := ctl_inr hk46
    obtain rfl := Option.some.inj hm
    exact leave1 S rfl rfl ⟨rfl, H⟩
   ·have hm := ite_f hc53 hm
    refine wp_skip ?_
    refine inBlock_norm ?_
    refine thenN ?_
    refine region_plain ?_
    refine lq (.int .i64 x36) S (q_move rfl) fun a S => ?_
    refine lq (.int .i64 (W (x36 + (1 : Int)))) S (q_add rfl rfl) fun a S => ?_
    refine lq (.int .i64 (W (x36 + (1 : Int)))) S (q_assign rfl) fun a S => ?_
    refine lx_nil ?_
    exact ⟨m47, Nat.lt_succ_self _, (W (x36 + (1 : Int))), S.sub ⟨rfl, rfl, trivial⟩, H, it_cont hm hc49⟩
  ·have hm := ite_f hc50 hm
   refine wp_exit ?_
   refine then_exit ?_
   refine then_exit ?_
   refine inBlock_exit ?_
   obtain rfl := it_brk hm hc49
   exact ⟨S.sub ⟨rfl, trivial⟩, H, rfl⟩

/-- spec.l01Small -/
def spec_l01Small_m (_ : Nat) (a0 : Int) : Option (Bool) :=
  (if (decide ((97 : Int) ≤ a0)) = true then some (decide (a0 ≤ (122 : Int))) else some false).bind fun t31 => some (t31)
set_option maxRecDepth 20000 in
theorem spec_l01Small_ok [dr : Dr] {w0 : World} {fuel : Nat} {a0 : Int} {r : Bool} (hm : spec_l01Small_m fuel a0 = some r) :
  Calls Tryz.prog 113 #[.int .u8 a0] w0 fun e w => e = .returned (.bool r) ∧ Heap w0 [] w := by
 unfold spec_l01Small_m at hm
 have H := Heap.start w0
 refine enter (args := [.int .u8 a0]) Tryz.func113 rfl 9 rfl (Nat.le_of_ble_eq_true rfl) (fun a S => ?_)
 refine wp_seq (region_plain ?_)
 refine lq (.bool false) S (q_assign rfl) fun a S => ?_
 refine lx_nil (thenN ?_)
 refine wp_seq (region_plain ?_)
 refine lq (.int .u8 a0) S (q_move rfl) fun a S => ?_
 refine lq (.bool (decide ((97 : Int) ≤ a0))) S (q_geq rfl rfl) fun a S => ?_
 refine lq (.bool (decide ((97 : Int) ≤ a0))) S (q_move rfl) fun a S => ?_
 obtain ⟨t31, e32, hm⟩ := bind_some hm
 refine lx_cut 3 (fun a w => Slots a 9 [(8, (.bool t31))] ∧ Heap w0 [] w) ?_ ?_
 ·by_cases hc33 : (decide ((97 : Int) ≤ a0)) = true
  ·have hm := ite_t hc33 e32
   refine lx_q (.int .u8 a0) S (want_b rfl rfl hc33) (by decide) (q_move rfl) (fun a S => ?_)
   refine lx_q (.bool (decide (a0 ≤ (122 : Int)))) S (want_b rfl rfl hc33) (by decide) (q_leq rfl rfl) (fun a S => ?_)
   refine lq (.bool (decide (a0 ≤ (122 : Int)))) S (q_pickT' rfl hc33 rfl) fun a S => ?_
   refine lx_nil ?_
   obtain rfl := Option.some.inj hm
   exact ⟨S.sub ⟨rfl, trivial⟩, H⟩
  ·have hm := ite_f (eq_false_of_ne_true hc33) e32
   have hc33 : (decide ((97 : Int) ≤ a0)) = false := eq_false_of_ne_true hc33
   refine lx_skip S rfl rfl (isB_ne hc33) (by decide) (fun a S => ?_)
   refine lx_skip S rfl rfl (isB_ne hc33) (by decide) (fun a S => ?_)
   refine lq (.bool false) S (q_pickF' rfl hc33 rfl) fun a S => ?_
   refine lx_nil ?_
   obtain rfl := Option.some.inj hm
   exact ⟨S.sub ⟨rfl, trivial⟩, H⟩
 ·rintro a w ⟨S, H⟩
  refine lq (.bool t31) S (q_assign rfl) fun a S => ?_
  refine lx_nil (thenN ?_)
  refine wp_ret ?_
  obtain rfl := Option.some.inj hm
  exact leave1 S rfl rfl ⟨rfl, H⟩

/-- spec.l01Name -/
def spec_l01Name_m (fuel : Nat) (a0 : Str) : Option (Bool) :=
  (if (a0 == ([] : Str)) = true then some true else some (decide ((10 : Int) < (a0.length : Int)))).bind fun t31 => (if t31 = true then some true else (idx a0 (0 : Int)).bind fun b37 => (spec_l01Small_m fuel (b37.toNat : Int)).bind fun x41 => some (!x41)).bind fun t34 => (if t34 = true then some (false) else (iter (fun (s : (Int)) => (match s with | (x65) => (if (decide (x65 < (a0.length : Int))) = true then (idx a0 x65).bind fun b95 => (spec_l01Small_m fuel (b95.toNat : Int)).bind fun x99 => (if (!x99) = true then (idx a0 x65).bind fun b105 => (spec_l01Digit_m fuel (b105.toNat : Int)).bind fun x109 => some (!x109) else some false).bind fun t102 => (if t102 = true then some (.inr (.inr false)) else some (.inl ((W (x65 + (1 : Int)))))) else some (.inr (.inl ()))) : Option (((Int)) ⊕ ((Unit) ⊕ (Bool))))) fuel ((0 : Int))).bind fun res86 => ctl (β := Unit) (ρ := Bool) (τ := Bool) res86 (fun _ => some (true)) (fun q => some (q)))
set_option maxRecDepth 20000 in
theorem spec_l01Name_ok [dr : Dr] {w0 : World} {fuel : Nat} {a0 : Str} {r : Bool} (hm : spec_l01Name_m fuel a0 = some r) :
  Calls Tryz.prog 92 #[sv a0] w0 fun e w => e = .returned (.bool r) ∧ Heap w0 [] w := by
 unfold spec_l01Name_m at hm
 have H := Heap.start w0
 refine enter (args := [sv a0]) Tryz.func92 rfl 35 rfl (Nat.le_of_ble_eq_true rfl) (fun a S => ?_)
 refine wp_seq (region_plain ?_)
 refine lq (.bool false) S (q_assign rfl) fun a S => ?_
 refine lx_nil (thenN ?_)
 refine wp_seq (wp_seq (region_plain ?_))
 refine lq (sv a0) S (q_move rfl) fun a S => ?_
 refine lq (.bool (a0 == ([] : Str))) S (q_seql rfl rfl) fun a S => ?_
 refine lq (.bool (a0 == ([] : Str))) S (q_move rfl) fun a S => ?_
 obtain ⟨t31, e32, hm⟩ := bind_some hm
 refine lx_cut 4 (fun a w => Slots a 35 [(0, (sv a0)), (10, (.bool t31))] ∧ Heap w0 [] w) ?_ ?_
 ·by_cases hc33 : (a0 == ([] : Str)) = true
  ·have hm := ite_t hc33 e32
   refine lx_skip S rfl rfl (isB_ne hc33) (by decide) (fun a S => ?_)
   refine lx_skip S rfl rfl (isB_ne hc33) (by decide) (fun a S => ?_)
   refine lx_skip S rfl rfl (isB_ne hc33) (by decide) (fun a S => ?_)
   refine lq (.bool true) S (q_pickT' rfl hc33 rfl) fun a S => ?_
   refine lx_nil ?_
   obtain rfl := Option.some.inj hm
   exact ⟨S.sub ⟨rfl, rfl, trivial⟩, H⟩
  ·have hm := ite_f (eq_false_of_ne_true hc33) e32
   have hc33 : (a0 == ([] : Str)) = false := eq_false_of_ne_true hc33
   refine lx_q (sv a0) S (want_b rfl rfl hc33) (by decide) (q_move rfl) (fun a S => ?_)
   refine lx_q (.int .i64 (a0.length : Int)) S (want_b rfl rfl hc33) (by decide) (q_lenStr rfl rfl Tryz.underlying9) (fun a S => ?_)
   refine lx_q (.bool (decide ((10 : Int) < (a0.length : Int)))) S (want_b rfl rfl hc33) (by decide) (q_gtr rfl rfl) (fun a S => ?_)
   refine lq (.bool (decide ((10 : Int) < (a0.length : Int)))) S (q_pickF' rfl hc33 rfl) fun a S => ?_
   refine lx_nil ?_
   obtain rfl := Option.some.inj hm
   exact ⟨S.sub ⟨rfl, rfl, trivial⟩, H⟩
 ·rintro a w ⟨S, H⟩
  refine lq (.bool t31) S (q_move rfl) fun a S => ?_
  obtain ⟨t34, e35, hm⟩ := bind_some hm
  refine lx_cut 5 (fun a w => Slots a 35 [(0, (sv a0)), (16, (.bool t34))] ∧ Heap w0 [] w) ?_ ?_
  ·by_cases hc36 : t31 = true
   ·have hm := ite_t hc36 e35
    refine lx_skip S rfl rfl (isB_ne hc36) (by decide) (fun a S => ?_)
    refine lx_skip S rfl rfl (isB_ne hc36) (by decide) (fun a S => ?_)
    refine lx_skip S rfl rfl (isB_ne hc36) (by decide) (fun a S => ?_)
    refine lx_skip S rfl rfl (isB_ne hc36) (by decide) (fun a S => ?_)
    refine lq (.bool true) S (q_pickT' rfl hc36 rfl) fun a S => ?_
    refine lx_nil ?_
    obtain rfl := Option.some.inj hm
    exact ⟨S.sub ⟨rfl, rfl, trivial⟩, H⟩
   ·have hm := ite_f (eq_false_of_ne_true hc36) e35
    have hc36 : t31 = false := eq_false_of_ne_true hc36
    refine lx_q (sv a0) S (want_b rfl rfl hc36) (by decide) (q_move rfl) (fun a S => ?_)
    obtain ⟨b37, e38, hm⟩ := bind_some hm
    refine lx_q (.int .u8 (b37.toNat : Int)) S (want_b rfl rfl hc36) (by decide) (q_sidx rfl rfl Tryz.underlying9 e38) (fun a S => ?_)
    obtain ⟨x41, e42, hm⟩ := bind_some hm
    refine lx_call (xs := [.tmp 13]) S (want_b rfl rfl hc36) (by decide) rfl rfl Tryz.call113 ((spec_l01Small_ok  e42).mono ?_)
    rintro e w39 ⟨rfl, Hc40⟩
    have H := H.call0 Hc40
    refine ⟨_, rfl, trivial, fun a S => ?_⟩
    refine lx_q (.bool (!x41)) S (want_b rfl rfl hc36) (by decide) (q_not rfl) (fun a S => ?_)
    refine lq (.bool (!x41)) S (q_pickF' rfl hc36 rfl) fun a S => ?_
    refine lx_nil ?_
    obtain rfl := Option.some.inj hm
    exact ⟨S.sub ⟨rfl, rfl, trivial⟩, H⟩
  ·rintro a w ⟨S, H⟩
   refine lx_nil (thenN ?_)
   refine cond_b S rfl (fun hc44 => ?_) (fun hc44 => ?_)
   ·have hm := ite_t hc44 hm
    refine wp_seq (region_plain ?_)
    refine lq (.bool false) S (q_assign rfl) fun a S => ?_
    refine lx_nil (thenN ?_)
    refine wp_ret (then_ret ?_)
    obtain rfl := Option.some.inj hm
    exact leave1 S rfl rfl ⟨rfl, H⟩
   ·have hm := ite_f hc44 hm
    refine wp_skip (thenN ?_)
    refine wp_seq (wp_seq (region_plain ?_))
    refine lq (.int .i64 (0 : Int)) S (q_assign rfl) fun a S => ?_
    refine lx_nil (thenN ?_)
    obtain ⟨res86, hit87, hk90⟩ := bind_some hm
    obtain ⟨f88, hf89, hit87⟩ := iter_name hit87
    refine block_loop (fun a w => Slots a 35 [] ∧ Heap w0 [] w ∧ res86 = .inl ()) ?_ ?_
    ·rintro a w ⟨S, H, rfl⟩
     have hm := ctl_inl hk90
     refine thenN ?_
     refine wp_seq (region_plain ?_)
     refine lq (.bool true) S (q_assign rfl) fun a S => ?_
     refine lx_nil (thenN ?_)
     refine wp_ret ?_
     obtain rfl := Option.some.inj hm
     exact leave1 S rfl rfl ⟨rfl, H⟩
    ·skip
     refine loop_ghost (fun n a w => ∃ (x65 : Int), Slots a 35 [(0, (sv a0)), (3, (.int .i64 x65))] ∧ Heap w0 [] w ∧ iter f88 n (x65) = some res86) _ ⟨(0 : Int), S.sub ⟨rfl, rfl, trivial⟩, H, hit87⟩ ?_
     rintro n a w ⟨x65, S, H, hit87⟩
     obtain ⟨m91, o92, rfl, hm, hc93⟩ := iter_step hit87
     rw [hf89] at hm
     refine wp_seq (wp_seq (region_plain ?_))
     refine lq (.int .i64 x65) S (q_move rfl) fun a S => ?_
     refine lq (sv a0) S (q_move rfl) fun a S => ?_
     refine lq (.int .i64 (a0.length : Int)) S (q_lenStr rfl rfl Tryz.underlying9) fun a S => ?_
     refine lq (.bool (decide (x65 < (a0.length : Int)))) S (q_lss rfl rfl) fun a S => ?_
     refine lx_nil (thenN ?_)
     refine cond_b S rfl (fun hc94 => ?_) (fun hc94 => ?_)
     ·have hm := ite_t hc94 hm
      refine wp_skip (thenN ?_)
      refine wp_seq ?_
      refine wp_block ?_
      refine wp_seq (region_plain ?_)
      refine lq (sv a0) S (q_move rfl) fun a S => ?_
      refine lq (.int .i64 x65) S (q_move rfl) fun a S => ?_
      obtain ⟨b95, e96, hm⟩ := bind_some hm
      refine lq (.int .u8 (b95.toNat : Int)) S (q_sidx rfl rfl Tryz.underlying9 e96) fun a S => ?_
      obtain ⟨x99, e100, hm⟩ := bind_some hm
      refine lx_call (xs := [.tmp 25]) S trivial (by decide) rfl rfl Tryz.call113 ((spec_l01Small_ok  e100).mono ?_)
      rintro e w97 ⟨rfl, Hc98⟩
      have H := H.call0 Hc98
      refine ⟨_, rfl, trivial, fun a S => ?_⟩
      refine lq (.bool (!x99)) S (q_not rfl) fun a S => ?_
      refine lq (.bool (!x99)) S (q_move rfl) fun a S => ?_
      obtain ⟨t102, e103, hm⟩ := bind_some hm
      refine lx_cut 6 (fun a w => Slots a 35 [(0, (sv a0)), (3, (.int .i64 x65)), (34, (.bool t102))] ∧ Heap w0 [] w) ?_ ?_
      ·by_cases hc104 : (!x99) = true
       ·have hm := ite_t hc104 e103
        refine lx_q (sv a0) S (want_b rfl rfl hc104) (by decide) (q_move rfl) (fun a S => ?_)
        refine lx_q (.int .i64 x65) S (want_b rfl rfl hc104) (by decide) (q_move rfl) (fun a S => ?_)
        obtain ⟨b105, e106, hm⟩ := bind_some hm
        refine lx_q (.int .u8 (b105.toNat : Int)) S (want_b rfl rfl hc104) (by decide) (q_sidx rfl rfl Tryz.underlying9 e106) (fun a S => ?_)
        obtain ⟨x109, e110, hm⟩ := bind_some hm
        refine lx_call (xs := [.tmp 31]) S (want_b rfl rfl hc104) (by decide) rfl rfl Tryz.call39 ((spec_l01Digit_ok  e110).mono ?_)
        rintro e w107 ⟨rfl, Hc108⟩
        have H := H.call0 Hc108
        refine ⟨_, rfl, trivial, fun a S => ?_⟩
        refine lx_q (.bool (!x109)) S (want_b rfl rfl hc104) (by decide) (q_not rfl) (fun a S => ?_)
        refine lq (.bool (!x109)) S (q_pickT' rfl hc104 rfl) fun a S => ?_
        refine lx_nil ?_
        obtain rfl := Option.some.inj hm
        exact ⟨S.sub ⟨rfl, rfl, rfl, trivial⟩, H⟩
       ·have hm := ite_f (eq_false_of_ne_true hc104) e103
        have hc104 : (!x99) = false := eq_false_of_ne_true hc104
        refine lx_skip S rfl rfl (isB_ne hc104) (by decide) (fun a S => ?_)
        refine lx_skip S rfl rfl (isB_ne hc104) (by decide) (fun a S => ?_)
        refine lx_skip S rfl rfl (isB_ne hc104) (by decide) (fun a S => ?_)
        refine lx_skip S rfl rfl (isB_ne hc104) (by decide) (fun a S => ?_)
        refine lx_skip S rfl rfl (isB_ne hc104) (by decide) (fun a S => ?_)
        refine lq (.bool false) S (q_pickF' rfl hc104 rfl) fun a S => ?_
        refine lx_nil ?_
        obtain rfl := Option.some.inj hm
        exact ⟨S.sub ⟨rfl, rfl, rfl, trivial⟩, H⟩
      ·rintro a w ⟨S, H⟩
       refine lx_nil (thenN ?_)
       refine cond_b S rfl (fun hc112 => ?_) (fun hc112 => ?_)
       ·have hm := ite_t hc112 hm
        refine wp_seq (region_plain ?_)
        refine lq (.bool false) S (q_assign rfl) fun a S => ?_
        refine lx_nil (thenN ?_)
        refine wp_ret (inBlock_ret ?_)
        refine then_ret ?_
        refine then_ret ?_
        refine inBlock_ret ?_
        refine then_ret ?_
        refine then_ret ?_
        obtain rfl := it_brk hm hc93
        have hm := ctl_inr hk90
        obtain rfl := Option.some.inj hm
        exact leave1 S rfl rfl ⟨rfl, H⟩
       ·have hm := ite_f hc112 hm
        refine wp_skip ?_
        refine inBlock_norm ?_
        refine thenN ?_
        refine region_plain ?_
        refine lq (.int .i64 x65) S (q_move rfl) fun a S => ?_
        refine lq (.int .i64 (W (x65 + (1 : Int)))) S (q_add rfl rfl) fun a S => ?_
        refine lq (.int .i64 (W (x65 + (1 : Int)))) S (q_assign rfl) fun a S => ?_
        refine lx_nil ?_
        exact ⟨m91, Nat.lt_succ_self _, (W (x65 + (1 : Int))), S.sub ⟨rfl, rfl, trivial⟩, H, it_cont hm hc93⟩
     ·have hm := ite_f hc94 hm
      refine wp_exit ?_
      refine then_exit ?_
      refine then_exit ?_
      refine inBlock_exit ?_
      obtain rfl := it_brk hm hc93
      exact ⟨S.sub trivial, H, rfl⟩

/-- spec.l01Action -/
def spec_l01Action_m (fuel : Nat) (a0 : Str) : Option (Bool) :=
  (spec_l01Name_m fuel a0).bind fun x33 => (if x33 = true then some (a0 != ([116, 97, 117] : Str)) else some false).bind fun t36 => some (t36)
set_option maxRecDepth 20000 in
theorem spec_l01Action_ok [dr : Dr] {w0 : World} {fuel : Nat} {a0 : Str} {r : Bool} (hm : spec_l01Action_m fuel a0 = some r) :
  Calls Tryz.prog 93 #[sv a0] w0 fun e w => e = .returned (.bool r) ∧ Heap w0 [] w := by
 unfold spec_l01Action_m at hm
 have H := Heap.start w0
 refine enter (args := [sv a0]) Tryz.func93 rfl 9 rfl (Nat.le_of_ble_eq_true rfl) (fun a S => ?_)
 refine wp_seq (region_plain ?_)
 refine lq (.bool false) S (q_assign rfl) fun a S => ?_
 refine lx_nil (thenN ?_)
 refine wp_seq (region_plain ?_)
 refine lq (sv a0) S (q_move rfl) fun a S => ?_
 obtain ⟨x33, e34, hm⟩ := bind_some hm
 refine lx_call (xs := [.tmp 3]) S trivial (by decide) rfl rfl Tryz.call92 ((spec_l01Name_ok  e34).mono ?_)
 rintro e w31 ⟨rfl, Hc32⟩
 have H := H.call0 Hc32
 refine ⟨_, rfl, trivial, fun a S => ?_⟩
 refine lq (.bool x33) S (q_move rfl) fun a S => ?_
 obtain ⟨t36, e37, hm⟩ := bind_some hm
 refine lx_cut 3 (fun a w => Slots a 9 [(8, (.bool t36))] ∧ Heap w0 [] w) ?_ ?_
 ·by_cases hc38 : x33 = true
  ·have hm := ite_t hc38 e37
   refine lx_q (sv a0) S (want_b rfl rfl hc38) (by decide) (q_move rfl) (fun a S => ?_)
   refine lx_q (.bool (a0 != ([116, 97, 117] : Str))) S (want_b rfl rfl hc38) (by decide) (q_sneq rfl rfl) (fun a S => ?_)
   refine lq (.bool (a0 != ([116, 97, 117] : Str))) S (q_pickT' rfl hc38 rfl) fun a S => ?_
   refine lx_nil ?_
   obtain rfl := Option.some.inj hm
   exact ⟨S.sub ⟨rfl, trivial⟩, H⟩
  ·have hm := ite_f (eq_false_of_ne_true hc38) e37
   have hc38 : x33 = false := eq_false_of_ne_true hc38
   refine lx_skip S rfl rfl (isB_ne hc38) (by decide) (fun a S => ?_)
   refine lx_skip S rfl rfl (isB_ne hc38) (by decide) (fun a S => ?_)
   refine lq (.bool false) S (q_pickF' rfl hc38 rfl) fun a S => ?_
   refine lx_nil ?_
   obtain rfl := Option.some.inj hm
   exact ⟨S.sub ⟨rfl, trivial⟩, H⟩
 ·rintro a w ⟨S, H⟩
  refine lq (.bool t36) S (q_assign rfl) fun a S => ?_
  refine lx_nil (thenN ?_)
  refine wp_ret ?_
  obtain rfl := Option.some.inj hm
  exact leave1 S rfl rfl ⟨rfl, H⟩

/-- spec.l01Values -/
def spec_l01Values_m (fuel : Nat) (a0 : Str) : Option (((List Int) × Bool)) :=
  (spec_l01Open_m fuel a0).bind fun x33 => (if (x33 == (a0.length : Int)) = true then (spec_l01Name_m fuel a0).bind fun x42 => some ((([] : List Int), x42)) else (sub a0 (0 : Int) x33).bind fun xs45 => (spec_l01Action_m fuel xs45).bind fun x49 => (if (!x49) = true then some true else (idx a0 (W ((a0.length : Int) - (1 : Int)))).bind fun b55 => some ((b55.toNat : Int) != (41 : Int))).bind fun t52 => (if t52 = true then some (([], false)) else (sub a0 (W (x33 + (1 : Int))) (W ((a0.length : Int) - (1 : Int)))).bind fun xs59 => (spec_l01Split_m fuel xs59 (44 : Int)).bind fun x63 => (iter (fun (s : (List Int) × (Int)) => (match s with | (xs104, x106) => (if (decide (x106 < (x63.length : Int))) = true then (idx x63 x106).bind fun x151 => (spec_l01Number_m fuel x151).bind fun x158 => (if (!x158.2) = true then some true else (spec_l00In_m fuel x158.1 (0 : Int) (63 : Int)).bind fun x166 => some (!x166)).bind fun t161 => (if t161 = true then some (.inr (.inr ([], false))) else (app xs104 [x158.1]).bind fun x174 => some (.inl (x174, (W (x106 + (1 : Int)))))) else some (.inr (.inl (xs104)))) : Option (((List Int) × (Int)) ⊕ (((List Int)) ⊕ (((List Int) × Bool)))))) fuel (([] : List Int), (0 : Int))).bind fun res142 => ctl (β := (List Int)) (ρ := ((List Int) × Bool)) (τ := ((List Int) × Bool)) res142 (fun (xs140) => some ((xs140, (decide ((xs140.length : Int) ≤ (2 : Int)))))) (fun q => some (q))))
set_option maxRecDepth 20000 in
theorem spec_l01Values_ok [dr : Dr] {w0 : World} {fuel : Nat} {a0 : Str} {r : ((List Int) × Bool)} (hm : spec_l01Values_m fuel a0 = some r) :
  Calls Tryz.prog 69 #[sv a0] w0 fun e w => ∃ (v0 : Value), e = .returned (.tuple #[v0, .bool r.2]) ∧ Heap w0 [oA (rList (rInt .i64)) v0 r.1] w := by
 unfold spec_l01Values_m at hm
 have H := Heap.start w0
 refine enter (args := [sv a0]) Tryz.func69 rfl 70 rfl (Nat.le_of_ble_eq_true rfl) (fun a S => ?_)
 refine wp_seq (region_plain ?_)
 refine lq (.slice none 0 0) S (q_assign rfl) fun a S => ?_
 refine lq (.bool false) S (q_assign rfl) fun a S => ?_
 refine lx_nil (thenN ?_)
 refine wp_seq (region_plain ?_)
 refine lq (sv a0) S (q_move rfl) fun a S => ?_
 obtain ⟨x33, e34, hm⟩ := bind_some hm
 refine lx_call (xs := [.tmp 10]) S trivial (by decide) rfl rfl Tryz.call91 ((spec_l01Open_ok  e34).mono ?_)
 rintro e w31 ⟨rfl, Hc32⟩
 have H := H.call0 Hc32
 refine ⟨_, rfl, trivial, fun a S => ?_⟩
 refine lq (.int .i64 x33) S (q_assign rfl) fun a S => ?_
 refine lx_nil (thenN ?_)
 refine wp_seq (wp_seq (region_plain ?_))
 refine lq (.int .i64 x33) S (q_move rfl) fun a S => ?_
 refine lq (sv a0) S (q_move rfl) fun a S => ?_
 refine lq (.int .i64 (a0.length : Int)) S (q_lenStr rfl rfl Tryz.underlying9) fun a S => ?_
 refine lq (.bool (x33 == (a0.length : Int))) S (q_eql rfl rfl) fun a S => ?_
 refine lx_nil (thenN ?_)
 refine cond_b S rfl (fun hc36 => ?_) (fun hc36 => ?_)
 ·have hm := ite_t hc36 hm
  refine wp_seq (region_plain ?_)
  refine lx_buildSlice0 (r := (rInt .i64)) S trivial (by decide) rfl H Tryz.underlying32 Tryz.sizeOf2 (fun v37 w38 H => ⟨trivial, fun a S => ?_⟩)
  refine lq (sv a0) S (q_move rfl) fun a S => ?_
  obtain ⟨x42, e43, hm⟩ := bind_some hm
  refine lx_call (xs := [.tmp 17]) S trivial (by decide) rfl rfl Tryz.call92 ((spec_l01Name_ok  e43).mono ?_)
  rintro e w40 ⟨rfl, Hc41⟩
  have H := H.call0 Hc41
  refine ⟨_, rfl, trivial, fun a S => ?_⟩
  refine lq v37 S (q_assign rfl) fun a S => ?_
  refine lq (.bool x42) S (q_assign rfl) fun a S => ?_
  refine lx_nil (thenN ?_)
  refine wp_ret (then_ret ?_)
  obtain rfl := Option.some.inj hm
  exact leave2 S rfl rfl rfl ⟨v37, rfl, H⟩
 ·have hm := ite_f hc36 hm
  refine wp_skip (thenN ?_)
  refine wp_seq (wp_seq (region_plain ?_))
  refine lq (sv a0) S (q_move rfl) fun a S => ?_
  refine lq (.int .i64 x33) S (q_move rfl) fun a S => ?_
  obtain ⟨xs45, e46, hm⟩ := bind_some hm
  obtain ⟨hsb, hse⟩ := sub_some e46
  replace hse := hse.symm
  subst hse
  refine lq (sv ((a0.take (x33).toNat).drop ((0 : Int)).toNat)) S (q_ssub (lo := none) (hi := (some (.tmp 20))) (l := (0 : Int)) (h := x33) rfl Tryz.underlying9 rfl rfl hsb.1 hsb.2.1 hsb.2.2) fun a S => ?_
  obtain ⟨x49, e50, hm⟩ := bind_some hm
  refine lx_call (xs := [.tmp 21]) S trivial (by decide) rfl rfl Tryz.call93 ((spec_l01Action_ok  e50).mono ?_)
  rintro e w47 ⟨rfl, Hc48⟩
  have H := H.call0 Hc48
  refine ⟨_, rfl, trivial, fun a S => ?_⟩
  refine lq (.bool (!x49)) S (q_not rfl) fun a S => ?_
  refine lq (.bool (!x49)) S (q_move rfl) fun a S => ?_
  obtain ⟨t52, e53, hm⟩ := bind_some hm
  refine lx_cut 7 (fun a w => Slots a 70 [(0, (sv a0)), (4, (.int .i64 x33)), (31, (.bool t52))] ∧ Heap w0 [] w) ?_ ?_
  ·by_cases hc54 : (!x49) = true
   ·have hm := ite_t hc54 e53
    refine lx_skip S rfl rfl (isB_ne hc54) (by decide) (fun a S => ?_)
    refine lx_skip S rfl rfl (isB_ne hc54) (by decide) (fun a S => ?_)
    refine lx_skip S rfl rfl (isB_ne hc54) (by decide) (fun a S => ?_)
    refine lx_skip S rfl rfl (isB_ne hc54) (by decide) (fun a S => ?_)
    refine lx_skip S rfl rfl (isB_ne hc54) (by decide) (fun a S => ?_)
    refine lx_skip S rfl rfl (isB_ne hc54) (by decide) (fun a S => ?_)
    refine lq (.bool true) S (q_pickT' rfl hc54 rfl) fun a S => ?_
    refine lx_nil ?_
    obtain rfl := Option.some.inj hm
    exact ⟨S.sub ⟨rfl, rfl, rfl, trivial⟩, H⟩
   ·have hm := ite_f (eq_false_of_ne_true hc54) e53
    have hc54 : (!x49) = false := eq_false_of_ne_true hc54
    refine lx_q (sv a0) S (want_b rfl rfl hc54) (by decide) (q_move rfl) (fun a S => ?_)
    refine lx_q (sv a0) S (want_b rfl rfl hc54) (by decide) (q_move rfl) (fun a S => ?_)
    refine lx_q (.int .i64 (a0.length : Int)) S (want_b rfl rfl hc54) (by decide) (q_lenStr rfl rfl Tryz.underlying9) (fun a S => ?_)
    refine lx_q (.int .i64 (W ((a0.length : Int) - (1 : Int)))) S (want_b rfl rfl hc54) (by decide) (q_sub rfl rfl) (fun a S => ?_)
    obtain ⟨b55, e56, hm⟩ := bind_some hm
    refine lx_q (.int .u8 (b55.toNat : Int)) S (want_b rfl rfl hc54) (by decide) (q_sidx rfl rfl Tryz.underlying9 e56) (fun a S => ?_)
    refine lx_q (.bool ((b55.toNat : Int) != (41 : Int))) S (want_b rfl rfl hc54) (by decide) (q_neq rfl rfl) (fun a S => ?_)
    refine lq (.bool ((b55.toNat : Int) != (41 : Int))) S (q_pickF' rfl hc54 rfl) fun a S => ?_
    refine lx_nil ?_
    obtain rfl := Option.some.inj hm
    exact ⟨S.sub ⟨rfl, rfl, rfl, trivial⟩, H⟩
  ·rintro a w ⟨S, H⟩
   refine lx_nil (thenN ?_)
   refine cond_b S rfl (fun hc57 => ?_) (fun hc57 => ?_)
   ·have hm := ite_t hc57 hm
    refine wp_seq (region_plain ?_)
    refine lq (.slice none 0 0) S (q_assign rfl) fun a S => ?_
    refine lq (.bool false) S (q_assign rfl) fun a S => ?_
    refine lx_nil (thenN ?_)
    refine wp_ret (then_ret ?_)
    obtain rfl := Option.some.inj hm
    have H : Heap w0 [oA (rList (rInt .i64)) (.slice none 0 0) ([] : List Int)] w := H.nilList (rInt .i64)
    exact leave2 S rfl rfl rfl ⟨(.slice none 0 0), rfl, H⟩
   ·have hm := ite_f hc57 hm
    refine wp_skip (thenN ?_)
    refine wp_seq (region_plain ?_)
    refine lq (sv a0) S (q_move rfl) fun a S => ?_
    refine lq (.int .i64 x33) S (q_move rfl) fun a S => ?_
    refine lq (.int .i64 (W (x33 + (1 : Int)))) S (q_add rfl rfl) fun a S => ?_
    refine lq (sv a0) S (q_move rfl) fun a S => ?_
    refine lq (.int .i64 (a0.length : Int)) S (q_lenStr rfl rfl Tryz.underlying9) fun a S => ?_
    refine lq (.int .i64 (W ((a0.length : Int) - (1 : Int)))) S (q_sub rfl rfl) fun a S => ?_
    obtain ⟨xs59, e60, hm⟩ := bind_some hm
    obtain ⟨hsb, hse⟩ := sub_some e60
    replace hse := hse.symm
    subst hse
    refine lq (sv ((a0.take ((W ((a0.length : Int) - (1 : Int)))).toNat).drop ((W (x33 + (1 : Int)))).toNat)) S (q_ssub (lo := (some (.tmp 34))) (hi := (some (.tmp 37))) (l := (W (x33 + (1 : Int)))) (h := (W ((a0.length : Int) - (1 : Int)))) rfl Tryz.underlying9 rfl rfl hsb.1 hsb.2.1 hsb.2.2) fun a S => ?_
    obtain ⟨x63, e64, hm⟩ := bind_some hm
    refine lx_call (xs := [.tmp 38, .const (.int .u8 (44))]) S trivial (by decide) rfl rfl Tryz.call22 ((spec_l01Split_ok   e64).mono ?_)
    rintro e w61 ⟨v65, rfl, Hc62⟩
    have H := H.call1 Hc62
    refine ⟨_, rfl, trivial, fun a S => ?_⟩
    refine lq v65 S (q_assign rfl) fun a S => ?_
    refine lx_nil (thenN ?_)
    refine wp_seq (region_plain ?_)
    refine lx_buildSlice0 (r := (rInt .i64)) S trivial (by decide) rfl H Tryz.underlying32 Tryz.sizeOf2 (fun v68 w69 H => ⟨trivial, fun a S => ?_⟩)
    refine lq v68 S (q_assign rfl) fun a S => ?_
    refine lx_nil (thenN ?_)
    refine wp_seq (wp_seq (region_plain ?_))
    refine lq (.int .i64 (0 : Int)) S (q_assign rfl) fun a S => ?_
    refine lx_nil (thenN ?_)
    obtain ⟨res142, hit143, hk146⟩ := bind_some hm
    obtain ⟨f144, hf145, hit143⟩ := iter_name hit143
    refine block_loop (fun a w => ∃ (xs140 : List Int) (v139 : Value), Slots a 70 [(6, v139)] ∧ Heap w0 [oA (rList (rInt .i64)) v139 xs140] w ∧ res142 = .inl (xs140)) ?_ ?_
    ·rintro a w ⟨xs140, v139, S, H, rfl⟩
     have hm := ctl_inl hk146
     refine thenN ?_
     refine wp_seq (region_plain ?_)
     refine lq v139 S (q_move rfl) fun a S => ?_
     refine lq v139 S (q_move rfl) fun a S => ?_
     refine lq (.int .i64 (xs140.length : Int)) S (q_lenSl rfl (H.isSl 0 rfl) rfl Tryz.underlying32) fun a S => ?_
     refine lq (.bool (decide ((xs140.length : Int) ≤ (2 : Int)))) S (q_leq rfl rfl) fun a S => ?_
     refine lq v139 S (q_assign rfl) fun a S => ?_
     refine lq (.bool (decide ((xs140.length : Int) ≤ (2 : Int)))) S (q_assign rfl) fun a S => ?_
     refine lx_nil (thenN ?_)
     refine wp_ret ?_
     obtain rfl := Option.some.inj hm
     exact leave2 S rfl rfl rfl ⟨v139, rfl, H⟩
    ·skip
     have H : Heap w0 [oA (rList rStr) v65 x63, oA (rList (rInt .i64)) v68 ([] : List Int)] w69 := H.front 1 rfl
     refine loop_ghost (fun n a w => ∃ (xs104 : List Int) (x106 : Int) (v103 : Value), Slots a 70 [(5, v65), (6, v103), (7, (.int .i64 x106))] ∧ Heap w0 [oA (rList rStr) v65 x63, oA (rList (rInt .i64)) v103 xs104] w ∧ iter f144 n (xs104, x106) = some res142) _ ⟨([] : List Int), (0 : Int), v68, S.sub ⟨rfl, rfl, rfl, trivial⟩, H, hit143⟩ ?_
     rintro n a w ⟨xs104, x106, v103, S, H, hit143⟩
     obtain ⟨m147, o148, rfl, hm, hc149⟩ := iter_step hit143
     rw [hf145] at hm
     refine wp_seq (wp_seq (region_plain ?_))
     refine lq (.int .i64 x106) S (q_move rfl) fun a S => ?_
     refine lq v65 S (q_move rfl) fun a S => ?_
     refine lq (.int .i64 (x63.length : Int)) S (q_lenSl rfl (H.isSl 0 rfl) rfl Tryz.underlying22) fun a S => ?_
     refine lq (.bool (decide (x106 < (x63.length : Int)))) S (q_lss rfl rfl) fun a S => ?_
     refine lx_nil (thenN ?_)
     refine cond_b S rfl (fun hc150 => ?_) (fun hc150 => ?_)
     ·have hm := ite_t hc150 hm
      refine wp_skip (thenN ?_)
      refine wp_seq ?_
      refine wp_block ?_
      refine wp_seq (region_plain ?_)
      refine lq v65 S (q_move rfl) fun a S => ?_
      refine lq (.int .i64 x106) S (q_move rfl) fun a S => ?_
      obtain ⟨x151, e152, hm⟩ := bind_some hm
      have hlt := lt_of_idx (idx_some e152).2
      refine lq (ePtr v65 (x106.toNat * 1)) S (q_indexAddr rfl (H.isSl 0 rfl) rfl (idx_some e152).1 hlt Tryz.underlying22 Tryz.sizeOf9) fun a S => ?_
      obtain ⟨c153, h154, hat155⟩ := (H.rdAt 0 rfl).elem (idx_some e152).2
      obtain rfl := h154
      refine lx_e (sv x151) S trivial (by decide) rfl trivial (q_load1 rfl Tryz.isAgg9 (by rintro _ rfl; exact (hat155 0 _ rfl))) (fun a S => ?_)
      obtain ⟨x158, e159, hm⟩ := bind_some hm
      refine lx_call (xs := [.tmp 51]) S trivial (by decide) rfl rfl Tryz.call23 ((spec_l01Number_ok  e159).mono ?_)
      rintro e w156 ⟨rfl, Hc157⟩
      have H := H.call0 Hc157
      refine ⟨_, rfl, trivial, fun a S => ?_⟩
      refine lq (.tuple #[(.int .i64 x158.1), (.bool x158.2)]) S (q_move rfl) fun a S => ?_
      refine lq (.int .i64 x158.1) S (q_extract rfl rfl) fun a S => ?_
      refine lq (.bool x158.2) S (q_extract rfl rfl) fun a S => ?_
      refine lq (.int .i64 x158.1) S (q_assign rfl) fun a S => ?_
      refine lq (.bool x158.2) S (q_assign rfl) fun a S => ?_
      refine lx_nil (thenN ?_)
      refine wp_seq (wp_seq (region_plain ?_))
      refine lq (.bool x158.2) S (q_move rfl) fun a S => ?_
      refine lq (.bool (!x158.2)) S (q_not rfl) fun a S => ?_
      refine lq (.bool (!x158.2)) S (q_move rfl) fun a S => ?_
      obtain ⟨t161, e162, hm⟩ := bind_some hm
      refine lx_cut 4 (fun a w => Slots a 70 [(5, v65), (6, v103), (7, (.int .i64 x106)), (8, (.int .i64 x158.1)), (61, (.bool t161))] ∧ Heap w0 [oA (rList rStr) v65 x63, oA (rList (rInt .i64)) v103 xs104] w) ?_ ?_
      ·by_cases hc163 : (!x158.2) = true
       ·have hm := ite_t hc163 e162
        refine lx_skip S rfl rfl (isB_ne hc163) (by decide) (fun a S => ?_)
        refine lx_skip S rfl rfl (isB_ne hc163) (by decide) (fun a S => ?_)
        refine lx_skip S rfl rfl (isB_ne hc163) (by decide) (fun a S => ?_)
        refine lq (.bool true) S (q_pickT' rfl hc163 rfl) fun a S => ?_
        refine lx_nil ?_
        obtain rfl := Option.some.inj hm
        exact ⟨S.sub ⟨rfl, rfl, rfl, rfl, rfl, trivial⟩, H⟩
       ·have hm := ite_f (eq_false_of_ne_true hc163) e162
        have hc163 : (!x158.2) = false := eq_false_of_ne_true hc163
        refine lx_q (.int .i64 x158.1) S (want_b rfl rfl hc163) (by decide) (q_move rfl) (fun a S => ?_)
        obtain ⟨x166, e167, hm⟩ := bind_some hm
        refine lx_call (xs := [.tmp 58, .const (.int .i64 (0)), .const (.int .i64 (63))]) S (want_b rfl rfl hc163) (by decide) rfl rfl Tryz.call40 ((spec_l00In_ok    e167).mono ?_)
        rintro e w164 ⟨rfl, Hc165⟩
        have H := H.call0 Hc165
        refine ⟨_, rfl, trivial, fun a S => ?_⟩
        refine lx_q (.bool (!x166)) S (want_b rfl rfl hc163) (by decide) (q_not rfl) (fun a S => ?_)
        refine lq (.bool (!x166)) S (q_pickF' rfl hc163 rfl) fun a S => ?_
        refine lx_nil ?_
        obtain rfl := Option.some.inj hm
        exact ⟨S.sub ⟨rfl, rfl, rfl, rfl, rfl, trivial⟩, H⟩
      ·rintro a w ⟨S, H⟩
       refine lx_nil (thenN ?_)
       refine cond_b S rfl (fun hc169 => ?_) (fun hc169 => ?_)
       ·have hm := ite_t hc169 hm
        refine wp_seq (region_plain ?_)
        refine lq (.slice none 0 0) S (q_assign rfl) fun a S => ?_
        refine lq (.bool false) S (q_assign rfl) fun a S => ?_
        refine lx_nil (thenN ?_)
        refine wp_ret (then_ret ?_)
        refine inBlock_ret ?_
        refine then_ret ?_
        refine then_ret ?_
        refine inBlock_ret ?_
        refine then_ret ?_
        refine then_ret ?_
        obtain rfl := it_brk hm hc149
        have hm := ctl_inr hk146
        obtain rfl := Option.some.inj hm
        have H : Heap w0 [oA (rList (rInt .i64)) (.slice none 0 0) ([] : List Int), oA (rList rStr) v65 x63, oA (rList (rInt .i64)) v103 xs104] w := H.nilList (rInt .i64)
        have H : Heap w0 [oA (rList (rInt .i64)) (.slice none 0 0) ([] : List Int)] w := H.sel [0] (by decide)
        exact leave2 S rfl rfl rfl ⟨(.slice none 0 0), rfl, H⟩
       ·have hm := ite_f hc169 hm
        refine wp_skip (thenN ?_)
        refine region_plain ?_
        refine lq v103 S (q_move rfl) fun a S => ?_
        refine lq (.int .i64 x158.1) S (q_move rfl) fun a S => ?_
        refine lx_buildSlice (r := (rInt .i64)) (xs := [x158.1]) (ps := [(0, [(.int .i64 x158.1)])]) (cs := [(.int .i64 x158.1)]) (parts := [(0, .tmp 63)]) S trivial (by decide) rfl (H.put0 (A := eA) rfl) rfl Tryz.underlying32 Tryz.sizeOf2 Tryz.zeroValue2 (by decide) ⟨rfl, rfl, Nat.le_of_ble_eq_true rfl, trivial⟩ (by intro zs hz; exact fill_dense hz ⟨rfl, trivial⟩ rfl rfl) rfl (by decide) (fun w F hA => by cases (show F = [] from hA); exact ⟨_, _, [(.int .i64 x158.1)], _, rfl, rfl, ⟨rfl, rfl⟩, ⟨rfl, rfl⟩⟩) (fun v171 w172 H => ⟨trivial, fun a S => ?_⟩)
        obtain ⟨x174, e175, hm⟩ := bind_some hm
        obtain ⟨hle, hap⟩ := app_some e175
        replace hap := hap.symm
        subst hap
        have H : Heap w0 [oA (rList (rInt .i64)) v171 [x158.1], oA (rList rStr) v65 x63, oA (rList (rInt .i64)) v103 xs104] w172 := H.front 0 rfl
        have H : Heap w0 [oA (rList (rInt .i64)) v103 xs104, oA (rList (rInt .i64)) v171 [x158.1], oA (rList rStr) v65 x63] w172 := H.front 2 rfl
        refine lx_appendOwn (r := (rInt .i64)) S trivial (by decide) rfl H rfl rfl Tryz.underlying32 Tryz.ti2 rfl rfl rfl (Nat.le_of_ble_eq_true rfl) (by decide) hle (fun v176 w177 H => ⟨trivial, fun a S => ?_⟩)
        refine lq v176 S (q_assign rfl) fun a S => ?_
        refine lx_nil ?_
        refine inBlock_norm ?_
        refine thenN ?_
        refine region_plain ?_
        refine lq (.int .i64 x106) S (q_move rfl) fun a S => ?_
        refine lq (.int .i64 (W (x106 + (1 : Int)))) S (q_add rfl rfl) fun a S => ?_
        refine lq (.int .i64 (W (x106 + (1 : Int)))) S (q_assign rfl) fun a S => ?_
        refine lx_nil ?_
        have H : Heap w0 [oA (rList rStr) v65 x63, oA (rList (rInt .i64)) v176 (xs104 ++ [x158.1])] w177 := H.front 1 rfl
        exact ⟨m147, Nat.lt_succ_self _, (xs104 ++ [x158.1]), (W (x106 + (1 : Int))), v176, S.sub ⟨rfl, rfl, rfl, trivial⟩, H, it_cont hm hc149⟩
     ·have hm := ite_f hc150 hm
      refine wp_exit ?_
      refine then_exit ?_
      refine then_exit ?_
      refine inBlock_exit ?_
      obtain rfl := it_brk hm hc149
      have H : Heap w0 [oA (rList (rInt .i64)) v103 xs104] w := H.sel [1] (by decide)
      exact ⟨xs104, v103, S.sub ⟨rfl, trivial⟩, H, rfl⟩

/-- spec.l01Label -/
def spec_l01Label_m (fuel : Nat) (a0 : Str) : Option (Bool) :=
  (spec_l01Values_m fuel a0).bind fun x33 => some (x33.2)
set_option maxRecDepth 20000 in
theorem spec_l01Label_ok [dr : Dr] {w0 : World} {fuel : Nat} {a0 : Str} {r : Bool} (hm : spec_l01Label_m fuel a0 = some r) :
  Calls Tryz.prog 53 #[sv a0] w0 fun e w => e = .returned (.bool r) ∧ Heap w0 [] w := by
 unfold spec_l01Label_m at hm
 have H := Heap.start w0
 refine enter (args := [sv a0]) Tryz.func53 rfl 11 rfl (Nat.le_of_ble_eq_true rfl) (fun a S => ?_)
 refine wp_seq (region_plain ?_)
 refine lq (.bool false) S (q_assign rfl) fun a S => ?_
 refine lx_nil (thenN ?_)
 refine wp_seq (region_plain ?_)
 refine lq (sv a0) S (q_move rfl) fun a S => ?_
 obtain ⟨x33, e34, hm⟩ := bind_some hm
 refine lx_call (xs := [.tmp 6]) S trivial (by decide) rfl rfl Tryz.call69 ((spec_l01Values_ok  e34).mono ?_)
 rintro e w31 ⟨v35, rfl, Hc32⟩
 have H := H.call1 Hc32
 refine ⟨_, rfl, trivial, fun a S => ?_⟩
 refine lq (.tuple #[v35, (.bool x33.2)]) S (q_move rfl) fun a S => ?_
 refine lq v35 S (q_extract rfl rfl) fun a S => ?_
 refine lq (.bool x33.2) S (q_extract rfl rfl) fun a S => ?_
 refine lq v35 S (q_assign rfl) fun a S => ?_
 refine lq (.bool x33.2) S (q_assign rfl) fun a S => ?_
 refine lx_nil (thenN ?_)
 refine wp_seq (region_plain ?_)
 refine lq (.bool x33.2) S (q_move rfl) fun a S => ?_
 refine lq (.bool x33.2) S (q_assign rfl) fun a S => ?_
 refine lx_nil (thenN ?_)
 refine wp_ret ?_
 obtain rfl := Option.some.inj hm
 have H : Heap w0 [] w31 := H.sel [] (by decide)
 exact leave1 S rfl rfl ⟨rfl, H⟩

/-- spec.l11Names -/
def spec_l11Names_m (fuel : Nat) (a0 : (List Str)) : Option (Bool) :=
  (if ((a0.length : Int) == (0 : Int)) = true then some true else some (decide ((12 : Int) < (a0.length : Int)))).bind fun t31 => (if t31 = true then some true else (idx a0 (0 : Int)).bind fun x37 => some (x37 != ([116, 97, 117] : Str))).bind fun t34 => (if t34 = true then some (false) else (iter (fun (s : (Int)) => (match s with | (x82) => (if (decide (x82 < (a0.length : Int))) = true then (idx a0 x82).bind fun x133 => (spec_l01Label_m fuel x133).bind fun x140 => (if (!x140) = true then some true else (idx a0 x82).bind fun x146 => some (x146 == ([116, 97, 117] : Str))).bind fun t143 => (if t143 = true then some true else (if (decide ((1 : Int) < x82)) = true then (idx a0 (W (x82 - (1 : Int)))).bind fun x157 => (idx a0 x82).bind fun x162 => some (!Op.bytesLess x157 x162) else some false).bind fun t154 => some t154).bind fun t151 => (if t151 = true then some (.inr (.inr false)) else some (.inl ((W (x82 + (1 : Int)))))) else some (.inr (.inl ()))) : Option (((Int)) ⊕ ((Unit) ⊕ (Bool))))) fuel ((1 : Int))).bind fun res122 => ctl (β := Unit) (ρ := Bool) (τ := Bool) res122 (fun _ => some (true)) (fun q => some (q)))
set_option maxRecDepth 20000 in
theorem spec_l11Names_ok [dr : Dr] {w0 : World} {fuel : Nat} {p0 : Value} {a0 : (List Str)} {r : Bool} (h0 : Rd (rList rStr) w0 p0 a0) (hm : spec_l11Names_m fuel a0 = some r) :
  Calls Tryz.prog 41 #[p0] w0 fun e w => e = .returned (.bool r) ∧ Heap w0 [] w := by
 unfold spec_l11Names_m at hm
 have H := Heap.start w0
 refine enter (args := [p0]) Tryz.func41 rfl 53 rfl (Nat.le_of_ble_eq_true rfl) (fun a S => ?_)
 refine wp_seq (region_plain ?_)
 refine lq (.bool false) S (q_assign rfl) fun a S => ?_
 refine lx_nil (thenN ?_)
 refine wp_seq (wp_seq (region_plain ?_))
 refine lq p0 S (q_move rfl) fun a S => ?_
 refine lq (.int .i64 (a0.length : Int)) S (q_lenSl rfl (h0).isSl rfl Tryz.underlying22) fun a S => ?_
 refine lq (.bool ((a0.length : Int) == (0 : Int))) S (q_eql rfl rfl) fun a S => ?_
 refine lq (.bool ((a0.length : Int) == (0 : Int))) S (q_move rfl) fun a S => ?_
 obtain ⟨t31, e32, hm⟩ := bind_some hm
 refine lx_cut 4 (fun a w => Slots a 53 [(0, p0), (11, (.bool t31))] ∧ Heap w0 [] w) ?_ ?_
 ·by_cases hc33 : ((a0.length : Int) == (0 : Int)) = true
  ·have hm := ite_t hc33 e32
   refine lx_skip S rfl rfl (isB_ne hc33) (by decide) (fun a S => ?_)
   refine lx_skip S rfl rfl (isB_ne hc33) (by decide) (fun a S => ?_)
   refine lx_skip S rfl rfl (isB_ne hc33) (by decide) (fun a S => ?_)
   refine lq (.bool true) S (q_pickT' rfl hc33 rfl) fun a S => ?_
   refine lx_nil ?_
   obtain rfl := Option.some.inj hm
   exact ⟨S.sub ⟨rfl, rfl, trivial⟩, H⟩
  ·have hm := ite_f (eq_false_of_ne_true hc33) e32
   have hc33 : ((a0.length : Int) == (0 : Int)) = false := eq_false_of_ne_true hc33
   refine lx_q p0 S (want_b rfl rfl hc33) (by decide) (q_move rfl) (fun a S => ?_)
   refine lx_q (.int .i64 (a0.length : Int)) S (want_b rfl rfl hc33) (by decide) (q_lenSl rfl (h0).isSl rfl Tryz.underlying22) (fun a S => ?_)
   refine lx_q (.bool (decide ((12 : Int) < (a0.length : Int)))) S (want_b rfl rfl hc33) (by decide) (q_gtr rfl rfl) (fun a S => ?_)
   refine lq (.bool (decide ((12 : Int) < (a0.length : Int)))) S (q_pickF' rfl hc33 rfl) fun a S => ?_
   refine lx_nil ?_
   obtain rfl := Option.some.inj hm
   exact ⟨S.sub ⟨rfl, rfl, trivial⟩, H⟩
 ·rintro a w ⟨S, H⟩
  refine lq (.bool t31) S (q_move rfl) fun a S => ?_
  obtain ⟨t34, e35, hm⟩ := bind_some hm
  refine lx_cut 5 (fun a w => Slots a 53 [(0, p0), (17, (.bool t34))] ∧ Heap w0 [] w) ?_ ?_
  ·by_cases hc36 : t31 = true
   ·have hm := ite_t hc36 e35
    refine lx_skip S rfl rfl (isB_ne hc36) (by decide) (fun a S => ?_)
    refine lx_skip S rfl rfl (isB_ne hc36) (by decide) (fun a S => ?_)
    refine lx_skip S rfl rfl (isB_ne hc36) (by decide) (fun a S => ?_)
    refine lx_skip S rfl rfl (isB_ne hc36) (by decide) (fun a S => ?_)
    refine lq (.bool true) S (q_pickT' rfl hc36 rfl) fun a S => ?_
    refine lx_nil ?_
    obtain rfl := Option.some.inj hm
    exact ⟨S.sub ⟨rfl, rfl, trivial⟩, H⟩
   ·have hm := ite_f (eq_false_of_ne_true hc36) e35
    have hc36 : t31 = false := eq_false_of_ne_true hc36
    refine lx_q p0 S (want_b rfl rfl hc36) (by decide) (q_move rfl) (fun a S => ?_)
    obtain ⟨x37, e38, hm⟩ := bind_some hm
    obtain ⟨c39, h40, hat41⟩ := (h0).elem (idx_some e38).2
    obtain rfl := h40
    have hlt := lt_of_idx (idx_some e38).2
    refine lx_q (ePtr p0 ((0 : Int).toNat * 1)) S (want_b rfl rfl hc36) (by decide) (q_indexAddr rfl (h0).isSl rfl (idx_some e38).1 hlt Tryz.underlying22 Tryz.sizeOf9) (fun a S => ?_)
    refine lx_e (sv x37) S (want_b rfl rfl hc36) (by decide) rfl trivial (q_load1 rfl Tryz.isAgg9 (by rintro _ rfl; exact ((hat41 0 _ rfl).ext H.ext))) (fun a S => ?_)
    refine lx_q (.bool (x37 != ([116, 97, 117] : Str))) S (want_b rfl rfl hc36) (by decide) (q_sneq rfl rfl) (fun a S => ?_)
    refine lq (.bool (x37 != ([116, 97, 117] : Str))) S (q_pickF' rfl hc36 rfl) fun a S => ?_
    refine lx_nil ?_
    obtain rfl := Option.some.inj hm
    exact ⟨S.sub ⟨rfl, rfl, trivial⟩, H⟩
  ·rintro a w ⟨S, H⟩
   refine lx_nil (thenN ?_)
   refine cond_b S rfl (fun hc42 => ?_) (fun hc42 => ?_)
   ·have hm := ite_t hc42 hm
    refine wp_seq (region_plain ?_)
    refine lq (.bool false) S (q_assign rfl) fun a S => ?_
    refine lx_nil (thenN ?_)
    refine wp_ret (then_ret ?_)
    obtain rfl := Option.some.inj hm
    exact leave1 S rfl rfl ⟨rfl, H⟩
   ·have hm := ite_f hc42 hm
    refine wp_skip (thenN ?_)
    refine wp_seq (wp_seq (region_plain ?_))
    refine lq (.int .i64 (1 : Int)) S (q_assign rfl) fun a S => ?_
    refine lx_nil (thenN ?_)
    obtain ⟨res122, hit123, hk126⟩ := bind_some hm
    obtain ⟨f124, hf125, hit123⟩ := iter_name hit123
    refine block_loop (fun a w => Slots a 53 [] ∧ Heap w0 [] w ∧ res122 = .inl ()) ?_ ?_
    ·rintro a w ⟨S, H, rfl⟩
     have hm := ctl_inl hk126
     refine thenN ?_
     refine wp_seq (region_plain ?_)
     refine lq (.bool true) S (q_assign rfl) fun a S => ?_
     refine lx_nil (thenN ?_)
     refine wp_ret ?_
     obtain rfl := Option.some.inj hm
     exact leave1 S rfl rfl ⟨rfl, H⟩
    ·skip
     refine loop_ghost (fun n a w => ∃ (x82 : Int), Slots a 53 [(0, p0), (3, (.int .i64 x82))] ∧ Heap w0 [] w ∧ iter f124 n (x82) = some res122) _ ⟨(1 : Int), S.sub ⟨rfl, rfl, trivial⟩, H, hit123⟩ ?_
     rintro n a w ⟨x82, S, H, hit123⟩
     obtain ⟨m127, o128, rfl, hm, hc129⟩ := iter_step hit123
     rw [hf125] at hm
     refine wp_seq (wp_seq (region_plain ?_))
     refine lq (.int .i64 x82) S (q_move rfl) fun a S => ?_
     refine lq p0 S (q_move rfl) fun a S => ?_
     refine lq (.int .i64 (a0.length : Int)) S (q_lenSl rfl (h0).isSl rfl Tryz.underlying22) fun a S => ?_
     refine lq (.bool (decide (x82 < (a0.length : Int)))) S (q_lss rfl rfl) fun a S => ?_
     refine lx_nil (thenN ?_)
     refine cond_b S rfl (fun hc130 => ?_) (fun hc130 => ?_)
     ·have hm := ite_t hc130 hm
      refine wp_skip (thenN ?_)
      refine wp_seq ?_
      refine wp_block ?_
      refine wp_seq ?_
      refine region_drawG (fun w1 => Heap w0 [] w1) (fun i => [4].contains i) mixed (by kernel_rfl) (fun w132 he131 => ?_)
      have H := H.later he131
      refine ⟨H.sel [] (by decide), ?_⟩
      refine lq p0 S (q_move rfl) fun a S => ?_
      refine lq (.int .i64 x82) S (q_move rfl) fun a S => ?_
      obtain ⟨x133, e134, hm⟩ := bind_some hm
      obtain ⟨c135, h136, hat137⟩ := (h0).elem (idx_some e134).2
      obtain rfl := h136
      have hlt := lt_of_idx (idx_some e134).2
      refine lq (ePtr p0 (x82.toNat * 1)) S (q_indexAddr rfl (h0).isSl rfl (idx_some e134).1 hlt Tryz.underlying22 Tryz.sizeOf9) fun a S => ?_
      refine lq (sv x133) S (q_load1 rfl Tryz.isAgg9 (fun w1 hC => ((hat137 0 _ rfl).ext hC.ext))) fun a S => ?_
      obtain ⟨x140, e141, hm⟩ := bind_some hm
      refine lx_call (xs := [.tmp 27]) S trivial (by decide) rfl rfl Tryz.call53 ((spec_l01Label_ok  e141).mono ?_)
      rintro e w138 ⟨rfl, Hc139⟩
      have H := H.call0 Hc139
      refine ⟨_, rfl, H.sel [] (by decide), fun a S => ?_⟩
      refine lq (.bool (!x140)) S (q_not rfl) fun a S => ?_
      refine lq (.bool (!x140)) S (q_move rfl) fun a S => ?_
      obtain ⟨t143, e144, hm⟩ := bind_some hm
      refine lx_cut 6 (fun a w => Slots a 53 [(0, p0), (3, (.int .i64 x82)), (36, (.bool t143))] ∧ Heap w0 [] w) ?_ ?_
      ·by_cases hc145 : (!x140) = true
       ·have hm := ite_t hc145 e144
        refine lx_skip S rfl rfl (isB_ne hc145) (by decide) (fun a S => ?_)
        refine lx_skip S rfl rfl (isB_ne hc145) (by decide) (fun a S => ?_)
        refine lx_skip S rfl rfl (isB_ne hc145) (by decide) (fun a S => ?_)
        refine lx_skip S rfl rfl (isB_ne hc145) (by decide) (fun a S => ?_)
        refine lx_skip S rfl rfl (isB_ne hc145) (by decide) (fun a S => ?_)
        refine lq (.bool true) S (q_pickT' rfl hc145 rfl) fun a S => ?_
        refine lx_nil ?_
        obtain rfl := Option.some.inj hm
        exact ⟨S.sub ⟨rfl, rfl, rfl, trivial⟩, H⟩
       ·have hm := ite_f (eq_false_of_ne_true hc145) e144
        have hc145 : (!x140) = false := eq_false_of_ne_true hc145
        refine lx_q p0 S (want_b rfl rfl hc145) (by decide) (q_move rfl) (fun a S => ?_)
        refine lx_q (.int .i64 x82) S (want_b rfl rfl hc145) (by decide) (q_move rfl) (fun a S => ?_)
        obtain ⟨x146, e147, hm⟩ := bind_some hm
        obtain ⟨c148, h149, hat150⟩ := (h0).elem (idx_some e147).2
        obtain rfl := h149
        have hlt := lt_of_idx (idx_some e147).2
        refine lx_q (ePtr p0 (x82.toNat * 1)) S (want_b rfl rfl hc145) (by decide) (q_indexAddr rfl (h0).isSl rfl (idx_some e147).1 hlt Tryz.underlying22 Tryz.sizeOf9) (fun a S => ?_)
        refine lx_q (sv x146) S (want_b rfl rfl hc145) (by decide) (q_load1 rfl Tryz.isAgg9 (fun w1 hC => ((hat150 0 _ rfl).ext hC.ext))) (fun a S => ?_)
        refine lx_q (.bool (x146 == ([116, 97, 117] : Str))) S (want_b rfl rfl hc145) (by decide) (q_seql rfl rfl) (fun a S => ?_)
        refine lq (.bool (x146 == ([116, 97, 117] : Str))) S (q_pickF' rfl hc145 rfl) fun a S => ?_
        refine lx_nil ?_
        obtain rfl := Option.some.inj hm
        exact ⟨S.sub ⟨rfl, rfl, rfl, trivial⟩, H⟩
      ·rintro a w ⟨S, H⟩
       refine lq (.bool t143) S (q_move rfl) fun a S => ?_
       obtain ⟨t151, e152, hm⟩ := bind_some hm
       refine lx_cut 15 (fun a w => Slots a 53 [(0, p0), (3, (.int .i64 x82)), (52, (.bool t151))] ∧ Heap w0 [] w) ?_ ?_
       ·by_cases hc153 : t143 = true
        ·have hm := ite_t hc153 e152
         refine lx_skip S rfl rfl (isB_ne hc153) (by decide) (fun a S => ?_)
         refine lx_skip S rfl rfl (isB_ne hc153) (by decide) (fun a S => ?_)
         refine lx_skip S rfl rfl (isB_ne hc153) (by decide) (fun a S => ?_)
         refine lx_skip S rfl rfl rfl (by decide) (fun a S => ?_)
         refine lx_skip S rfl rfl rfl (by decide) (fun a S => ?_)
         refine lx_skip S rfl rfl rfl (by decide) (fun a S => ?_)
         refine lx_skip S rfl rfl rfl (by decide) (fun a S => ?_)
         refine lx_skip S rfl rfl rfl (by decide) (fun a S => ?_)
         refine lx_skip S rfl rfl rfl (by decide) (fun a S => ?_)
         refine lx_skip S rfl rfl rfl (by decide) (fun a S => ?_)
         refine lx_skip S rfl rfl rfl (by decide) (fun a S => ?_)
         refine lx_skip S rfl rfl rfl (by decide) (fun a S => ?_)
         refine lx_skip S rfl rfl rfl (by decide) (fun a S => ?_)
         refine lx_skip S rfl rfl (isB_ne hc153) (by decide) (fun a S => ?_)
         refine lq (.bool true) S (q_pickT' rfl hc153 rfl) fun a S => ?_
         refine lx_nil ?_
         obtain rfl := Option.some.inj hm
         exact ⟨S.sub ⟨rfl, rfl, rfl, trivial⟩, H⟩
        ·have hm := ite_f (eq_false_of_ne_true hc153) e152
         have hc153 : t143 = false := eq_false_of_ne_true hc153
         refine lx_q (.int .i64 x82) S (want_b rfl rfl hc153) (by decide) (q_move rfl) (fun a S => ?_)
         refine lx_q (.bool (decide ((1 : Int) < x82))) S (want_b rfl rfl hc153) (by decide) (q_gtr rfl rfl) (fun a S => ?_)
         refine lx_q (.bool (decide ((1 : Int) < x82))) S (want_b rfl rfl hc153) (by decide) (q_move rfl) (fun a S => ?_)
         obtain ⟨t154, e155, hm⟩ := bind_some hm
         refine lx_cut 11 (fun a w => Slots a 53 [(0, p0), (3, (.int .i64 x82)), (37, (.bool t143)), (51, (.bool t154))] ∧ Heap w0 [] w) ?_ ?_
         ·by_cases hc156 : (decide ((1 : Int) < x82)) = true
          ·have hm := ite_t hc156 e155
           refine lx_q p0 S (want_b rfl rfl hc156) (by decide) (q_move rfl) (fun a S => ?_)
           refine lx_q (.int .i64 x82) S (want_b rfl rfl hc156) (by decide) (q_move rfl) (fun a S => ?_)
           refine lx_q (.int .i64 (W (x82 - (1 : Int)))) S (want_b rfl rfl hc156) (by decide) (q_sub rfl rfl) (fun a S => ?_)
           obtain ⟨x157, e158, hm⟩ := bind_some hm
           obtain ⟨c159, h160, hat161⟩ := (h0).elem (idx_some e158).2
           obtain rfl := h160
           have hlt := lt_of_idx (idx_some e158).2
           refine lx_q (ePtr p0 ((W (x82 - (1 : Int))).toNat * 1)) S (want_b rfl rfl hc156) (by decide) (q_indexAddr rfl (h0).isSl rfl (idx_some e158).1 hlt Tryz.underlying22 Tryz.sizeOf9) (fun a S => ?_)
           refine lx_q (sv x157) S (want_b rfl rfl hc156) (by decide) (q_load1 rfl Tryz.isAgg9 (fun w1 hC => ((hat161 0 _ rfl).ext hC.ext))) (fun a S => ?_)
           refine lx_q p0 S (want_b rfl rfl hc156) (by decide) (q_move rfl) (fun a S => ?_)
           refine lx_q (.int .i64 x82) S (want_b rfl rfl hc156) (by decide) (q_move rfl) (fun a S => ?_)
           obtain ⟨x162, e163, hm⟩ := bind_some hm
           obtain ⟨c164, h165, hat166⟩ := (h0).elem (idx_some e163).2
           obtain rfl := h165
           have hlt := lt_of_idx (idx_some e163).2
           refine lx_q (ePtr p0 (x82.toNat * 1)) S (want_b rfl rfl hc156) (by decide) (q_indexAddr rfl (h0).isSl rfl (idx_some e163).1 hlt Tryz.underlying22 Tryz.sizeOf9) (fun a S => ?_)
           refine lx_q (sv x162) S (want_b rfl rfl hc156) (by decide) (q_load1 rfl Tryz.isAgg9 (fun w1 hC => ((hat166 0 _ rfl).ext hC.ext))) (fun a S => ?_)
           refine lx_q (.bool (!Op.bytesLess x157 x162)) S (want_b rfl rfl hc156) (by decide) (q_sgeq rfl rfl) (fun a S => ?_)
           refine lx_q (.bool (!Op.bytesLess x157 x162)) S (want_b rfl rfl hc153) (by decide) (q_pickT' rfl hc156 rfl) (fun a S => ?_)
           refine lx_nil ?_
           obtain rfl := Option.some.inj hm
           exact ⟨S.sub ⟨rfl, rfl, rfl, rfl, trivial⟩, H⟩
          ·have hm := ite_f (eq_false_of_ne_true hc156) e155
           have hc156 : (decide ((1 : Int) < x82)) = false := eq_false_of_ne_true hc156
           refine lx_skip S rfl rfl (isB_ne hc156) (by decide) (fun a S => ?_)
           refine lx_skip S rfl rfl (isB_ne hc156) (by decide) (fun a S => ?_)
           refine lx_skip S rfl rfl (isB_ne hc156) (by decide) (fun a S => ?_)
           refine lx_skip S rfl rfl (isB_ne hc156) (by decide) (fun a S => ?_)
           refine lx_skip S rfl rfl (isB_ne hc156) (by decide) (fun a S => ?_)
           refine lx_skip S rfl rfl (isB_ne hc156) (by decide) (fun a S => ?_)
           refine lx_skip S rfl rfl (isB_ne hc156) (by decide) (fun a S => ?_)
           refine lx_skip S rfl rfl (isB_ne hc156) (by decide) (fun a S => ?_)
           refine lx_skip S rfl rfl (isB_ne hc156) (by decide) (fun a S => ?_)
           refine lx_skip S rfl rfl (isB_ne hc156) (by decide) (fun a S => ?_)
           refine lx_q (.bool false) S (want_b rfl rfl hc153) (by decide) (q_pickF' rfl hc156 rfl) (fun a S => ?_)
           refine lx_nil ?_
           obtain rfl := Option.some.inj hm
           exact ⟨S.sub ⟨rfl, rfl, rfl, rfl, trivial⟩, H⟩
         ·rintro a w ⟨S, H⟩
          refine lq (.bool t154) S (q_pickF' rfl hc153 rfl) fun a S => ?_
          refine lx_nil ?_
          obtain rfl := Option.some.inj hm
          exact ⟨S.sub ⟨rfl, rfl, rfl, trivial⟩, H⟩
       ·rintro a w ⟨S, H⟩
        refine lx_nil (thenN ?_)
        refine cond_b S rfl (fun hc167 => ?_) (fun hc167 => ?_)
        ·have hm := ite_t hc167 hm
         refine wp_seq (region_plain ?_)
         refine lq (.bool false) S (q_assign rfl) fun a S => ?_
         refine lx_nil (thenN ?_)
         refine wp_ret (inBlock_ret ?_)
         refine then_ret ?_
         refine then_ret ?_
         refine inBlock_ret ?_
         refine then_ret ?_
         refine then_ret ?_
         obtain rfl := it_brk hm hc129
         have hm := ctl_inr hk126
         obtain rfl := Option.some.inj hm
         exact leave1 S rfl rfl ⟨rfl, H⟩
        ·have hm := ite_f hc167 hm
         refine wp_skip ?_
         refine inBlock_norm ?_
         refine thenN ?_
         refine region_plain ?_
         refine lq (.int .i64 x82) S (q_move rfl) fun a S => ?_
         refine lq (.int .i64 (W (x82 + (1 : Int)))) S (q_add rfl rfl) fun a S => ?_
         refine lq (.int .i64 (W (x82 + (1 : Int)))) S (q_assign rfl) fun a S => ?_
         refine lx_nil ?_
         exact ⟨m127, Nat.lt_succ_self _, (W (x82 + (1 : Int))), S.sub ⟨rfl, rfl, trivial⟩, H, it_cont hm hc129⟩
     ·have hm := ite_f hc130 hm
      refine wp_exit ?_
      refine then_exit ?_
      refine then_exit ?_
      refine inBlock_exit ?_
      obtain rfl := it_brk hm hc129
      exact ⟨S.sub trivial, H, rfl⟩

/-- spec.l11Less -/
def spec_l11Less_m (_ : Nat) (a0 : Timpl_Edge) (a1 : Timpl_Edge) : Option (Bool) :=
  (if (a0.1 != a1.1) = true then some ((decide (a0.1 < a1.1))) else (if (a0.2.1 != a1.2.1) = true then some ((decide (a0.2.1 < a1.2.1))) else some ((decide (a0.2.2 < a1.2.2)))))
set_option maxRecDepth 20000 in
theorem spec_l11Less_ok [dr : Dr] {w0 : World} {fuel : Nat} {p0 p1 : Value} {a0 : Timpl_Edge} {a1 : Timpl_Edge} {r : Bool} (h0 : Rd (rPtr Rimpl_Edge) w0 p0 a0) (h1 : Rd (rPtr Rimpl_Edge) w0 p1 a1) (hm : spec_l11Less_m fuel a0 a1 = some r) :
  Calls Tryz.prog 42 #[p0, p1] w0 fun e w => e = .returned (.bool r) ∧ Heap w0 [] w := by
 unfold spec_l11Less_m at hm
 have H := Heap.start w0
 obtain ⟨c31, h32, hat33⟩ := h0.ptr
 obtain ⟨c34, c35, rfl, h36, h37⟩ := h32
 obtain rfl := h36
 obtain ⟨c38, c39, rfl, h40, h41⟩ := h37
 obtain rfl := h40
 obtain rfl := h41
 obtain ⟨c42, h43, hat44⟩ := h1.ptr
 obtain ⟨c45, c46, rfl, h47, h48⟩ := h43
 obtain rfl := h47
 obtain ⟨c49, c50, rfl, h51, h52⟩ := h48
 obtain rfl := h51
 obtain rfl := h52
 refine enter (args := [p0, p1]) Tryz.func42 rfl 50 rfl (Nat.le_of_ble_eq_true rfl) (fun a S => ?_)
 refine wp_seq (region_plain ?_)
 refine lq (.bool false) S (q_assign rfl) fun a S => ?_
 refine lx_nil (thenN ?_)
 refine wp_seq ?_
 refine wp_seq ?_
 refine region_drawG (fun w1 => Heap w0 [] w1) (fun i => [].contains i) mixed (by kernel_rfl) (fun w54 he53 => ?_)
 have H := H.later he53
 refine ⟨H.sel [] (by decide), ?_⟩
 refine lq p0 S (q_move rfl) fun a S => ?_
 refine lq p0 S (q_nilCheck rfl ((hat33 0 _ rfl).isP)) fun a S => ?_
 refine lq (pAdd p0 0) S (q_fieldAddr' 0 2 rfl ((hat33 0 _ rfl).isP) Tryz.underlying48 rfl Tryz.sizeOf2) fun a S => ?_
 refine lq (.int .i64 a0.1) S (q_load1 rfl Tryz.isAgg2 (fun w1 hC => (At.of_add (m := 0) (j := 0) ((hat33 0 _ rfl).ext hC.ext)))) fun a S => ?_
 refine lq p1 S (q_move rfl) fun a S => ?_
 refine lq p1 S (q_nilCheck rfl ((hat44 0 _ rfl).isP)) fun a S => ?_
 refine lq (pAdd p1 0) S (q_fieldAddr' 0 2 rfl ((hat44 0 _ rfl).isP) Tryz.underlying48 rfl Tryz.sizeOf2) fun a S => ?_
 refine lq (.int .i64 a1.1) S (q_load1 rfl Tryz.isAgg2 (fun w1 hC => (At.of_add (m := 0) (j := 0) ((hat44 0 _ rfl).ext hC.ext)))) fun a S => ?_
 refine lq (.bool (a0.1 != a1.1)) S (q_neq rfl rfl) fun a S => ?_
 refine lx_nil (thenN ?_)
 refine cond_b S rfl (fun hc55 => ?_) (fun hc55 => ?_)
 ·have hm := ite_t hc55 hm
  refine wp_seq ?_
  refine region_drawG (fun w1 => Heap w0 [] w1) (fun i => [].contains i) mixed (by kernel_rfl) (fun w57 he56 => ?_)
  have H := H.later he56
  refine ⟨H.sel [] (by decide), ?_⟩
  refine lq p0 S (q_move rfl) fun a S => ?_
  refine lq p0 S (q_nilCheck rfl ((hat33 0 _ rfl).isP)) fun a S => ?_
  refine lq (pAdd p0 0) S (q_fieldAddr' 0 2 rfl ((hat33 0 _ rfl).isP) Tryz.underlying48 rfl Tryz.sizeOf2) fun a S => ?_
  refine lq (.int .i64 a0.1) S (q_load1 rfl Tryz.isAgg2 (fun w1 hC => (At.of_add (m := 0) (j := 0) ((hat33 0 _ rfl).ext hC.ext)))) fun a S => ?_
  refine lq p1 S (q_move rfl) fun a S => ?_
  refine lq p1 S (q_nilCheck rfl ((hat44 0 _ rfl).isP)) fun a S => ?_
  refine lq (pAdd p1 0) S (q_fieldAddr' 0 2 rfl ((hat44 0 _ rfl).isP) Tryz.underlying48 rfl Tryz.sizeOf2) fun a S => ?_
  refine lq (.int .i64 a1.1) S (q_load1 rfl Tryz.isAgg2 (fun w1 hC => (At.of_add (m := 0) (j := 0) ((hat44 0 _ rfl).ext hC.ext)))) fun a S => ?_
  refine lq (.bool (decide (a0.1 < a1.1))) S (q_lss rfl rfl) fun a S => ?_
  refine lq (.bool (decide (a0.1 < a1.1))) S (q_assign rfl) fun a S => ?_
  refine lx_nil (thenN ?_)
  refine wp_ret (then_ret ?_)
  obtain rfl := Option.some.inj hm
  exact leave1 S rfl rfl ⟨rfl, H⟩
 ·have hm := ite_f hc55 hm
  refine wp_skip (thenN ?_)
  refine wp_seq ?_
  refine wp_seq ?_
  refine region_drawG (fun w1 => Heap w0 [] w1) (fun i => [].contains i) mixed (by kernel_rfl) (fun w59 he58 => ?_)
  have H := H.later he58
  refine ⟨H.sel [] (by decide), ?_⟩
  refine lq p0 S (q_move rfl) fun a S => ?_
  refine lq p0 S (q_nilCheck rfl ((hat33 0 _ rfl).isP)) fun a S => ?_
  refine lq (pAdd p0 1) S (q_fieldAddr' 1 2 rfl ((hat33 0 _ rfl).isP) Tryz.underlying48 rfl Tryz.sizeOf2) fun a S => ?_
  refine lq (.int .i64 a0.2.1) S (q_load1 rfl Tryz.isAgg2 (fun w1 hC => (At.of_add (m := 1) (j := 0) ((hat33 1 _ rfl).ext hC.ext)))) fun a S => ?_
  refine lq p1 S (q_move rfl) fun a S => ?_
  refine lq p1 S (q_nilCheck rfl ((hat44 0 _ rfl).isP)) fun a S => ?_
  refine lq (pAdd p1 1) S (q_fieldAddr' 1 2 rfl ((hat44 0 _ rfl).isP) Tryz.underlying48 rfl Tryz.sizeOf2) fun a S => ?_
  refine lq (.int .i64 a1.2.1) S (q_load1 rfl Tryz.isAgg2 (fun w1 hC => (At.of_add (m := 1) (j := 0) ((hat44 1 _ rfl).ext hC.ext)))) fun a S => ?_
  refine lq (.bool (a0.2.1 != a1.2.1)) S (q_neq rfl rfl) fun a S => ?_
  refine lx_nil (thenN ?_)
  refine cond_b S rfl (fun hc60 => ?_) (fun hc60 => ?_)
  ·have hm := ite_t hc60 hm
   refine wp_seq ?_
   refine region_drawG (fun w1 => Heap w0 [] w1) (fun i => [].contains i) mixed (by kernel_rfl) (fun w62 he61 => ?_)
   have H := H.later he61
   refine ⟨H.sel [] (by decide), ?_⟩
   refine lq p0 S (q_move rfl) fun a S => ?_
   refine lq p0 S (q_nilCheck rfl ((hat33 0 _ rfl).isP)) fun a S => ?_
   refine lq (pAdd p0 1) S (q_fieldAddr' 1 2 rfl ((hat33 0 _ rfl).isP) Tryz.underlying48 rfl Tryz.sizeOf2) fun a S => ?_
   refine lq (.int .i64 a0.2.1) S (q_load1 rfl Tryz.isAgg2 (fun w1 hC => (At.of_add (m := 1) (j := 0) ((hat33 1 _ rfl).ext hC.ext)))) fun a S => ?_
   refine lq p1 S (q_move rfl) fun a S => ?_
   refine lq p1 S (q_nilCheck rfl ((hat44 0 _ rfl).isP)) fun a S => ?_
   refine lq (pAdd p1 1) S (q_fieldAddr' 1 2 rfl ((hat44 0 _ rfl).isP) Tryz.underlying48 rfl Tryz.sizeOf2) fun a S => ?_
   refine lq (.int .i64 a1.2.1) S (q_load1 rfl Tryz.isAgg2 (fun w1 hC => (At.of_add (m := 1) (j := 0) ((hat44 1 _ rfl).ext hC.ext)))) fun a S => ?_
   refine lq (.bool (decide (a0.2.1 < a1.2.1))) S (q_lss rfl rfl) fun a S => ?_
   refine lq (.bool (decide (a0.2.1 < a1.2.1))) S (q_assign rfl) fun a S => ?_
   refine lx_nil (thenN ?_)
   refine wp_ret (then_ret ?_)
   obtain rfl := Option.some.inj hm
   exact leave1 S rfl rfl ⟨rfl, H⟩
  ·have hm := ite_f hc60 hm
   refine wp_skip (thenN ?_)
   refine wp_seq ?_
   refine region_drawG (fun w1 => Heap w0 [] w1) (fun i => [].contains i) mixed (by kernel_rfl) (fun w64 he63 => ?_)
   have H := H.later he63
   refine ⟨H.sel [] (by decide), ?_⟩
   refine lq p0 S (q_move rfl) fun a S => ?_
   refine lq p0 S (q_nilCheck rfl ((hat33 0 _ rfl).isP)) fun a S => ?_
   refine lq (pAdd p0 2) S (q_fieldAddr' 2 2 rfl ((hat33 0 _ rfl).isP) Tryz.underlying48 rfl Tryz.sizeOf2) fun a S => ?_
   refine lq (.int .i64 a0.2.2) S (q_load1 rfl Tryz.isAgg2 (fun w1 hC => (At.of_add (m := 2) (j := 0) ((hat33 2 _ rfl).ext hC.ext)))) fun a S => ?_
   refine lq p1 S (q_move rfl) fun a S => ?_
   refine lq p1 S (q_nilCheck rfl ((hat44 0 _ rfl).isP)) fun a S => ?_
   refine lq (pAdd p1 2) S (q_fieldAddr' 2 2 rfl ((hat44 0 _ rfl).isP) Tryz.underlying48 rfl Tryz.sizeOf2) fun a S => ?_
   refine lq (.int .i64 a1.2.2) S (q_load1 rfl Tryz.isAgg2 (fun w1 hC => (At.of_add (m := 2) (j := 0) ((hat44 2 _ rfl).ext hC.ext)))) fun a S => ?_
   refine lq (.bool (decide (a0.2.2 < a1.2.2))) S (q_lss rfl rfl) fun a S => ?_
   refine lq (.bool (decide (a0.2.2 < a1.2.2))) S (q_assign rfl) fun a S => ?_
   refine lx_nil (thenN ?_)
   refine wp_ret ?_
   obtain rfl := Option.some.inj hm
   exact leave1 S rfl rfl ⟨rfl, H⟩
end Go.Proofs.YtlmopoaeekhmeaaGreatDoor
