/- The models of some functions and their walks (printed by a program of this repo). -/
import Derived.Test.YtepcckhcocjgaaaGreatDoorF0
import Derived.Test.YtepcckhcocjgaaaGreatDoorFS
import Derived.Test.YtepcckhcocjgaaaGreatDoorGxT
import Derived.Test.YtepcckhcocjgaaaGreatDoorGxY
namespace Go.Proofs.YtepcckhcocjgaaaGreatDoor
open Go.RowKit Go.Gx

/-- spec.l01Split -/
def spec_l01Split_m (fuel : Nat) (a0 : Str) (a1 : Int) : Option ((List Str)) :=
  (iter (fun (s : (List Str) × (Int) × (Int)) => (match s with | (xs60, x62, x63) => (if (decide (x63 < (a0.length : Int))) = true then join (κ := List Str → Int → Option (((List Str) × (Int) × (Int)) ⊕ (((List Str) × Int) ⊕ ((List Str))))) (fun (xs113 : List Str) (x115 : Int) => some (.inl (xs113, x115, (W (x63 + (1 : Int)))))) (fun K116 => (idx a0 x63).bind fun b118 => (if ((b118.toNat : Int) == a1) = true then (sub a0 x62 x63).bind fun xs121 => (app xs60 [xs121]).bind fun x126 => (K116 x126 (W (x63 + (1 : Int)))) else (K116 xs60 x62))) else some (.inr (.inl (xs60, x62)))) : Option (((List Str) × (Int) × (Int)) ⊕ (((List Str) × Int) ⊕ ((List Str)))))) fuel (([] : List Str), (0 : Int), (0 : Int))).bind fun res93 => ctl (β := (List Str) × Int) (ρ := (List Str)) (τ := (List Str)) res93 (fun (xs90, x92) => (sub a0 x92 (a0.length : Int)).bind fun xs98 => (app xs90 [xs98]).bind fun x103 => some (x103)) (fun q => some (q))
set_option maxRecDepth 20000 in
theorem spec_l01Split_ok {w0 : World} {fuel : Nat} {a0 : Str} {a1 : Int} {r : (List Str)} (hm : spec_l01Split_m fuel a0 a1 = some r) :
  Calls Tryz.prog 20 #[sv a0, .int .u8 a1] w0 fun e w => ∃ (v0 : Value), e = .returned (v0) ∧ Heap w0 [oA (rList rStr) v0 r] w := by
 unfold spec_l01Split_m at hm
 have H := Heap.start w0
 refine enter (args := [sv a0, .int .u8 a1]) Tryz.func20 rfl 35 rfl (Nat.le_of_ble_eq_true rfl) (fun a S => ?_)
 refine wp_seq (region_plain ?_)
 refine lq (.slice none 0 0) S (q_assign rfl) fun a S => ?_
 refine lx_nil (thenN ?_)
 refine wp_seq (region_plain ?_)
 refine lx_buildSlice0 (r := rStr) S trivial (by decide) rfl H Tryz.underlying28 Tryz.sizeOf9 (fun v31 w32 H => ⟨trivial, fun a S => ?_⟩)
 refine lq v31 S (q_assign rfl) fun a S => ?_
 refine lx_nil (thenN ?_)
 refine wp_seq (region_plain ?_)
 refine lq (.int .i64 (0 : Int)) S (q_assign rfl) fun a S => ?_
 refine lx_nil (thenN ?_)
 refine wp_seq (wp_seq (region_plain ?_))
 refine lq (.int .i64 (0 : Int)) S (q_assign rfl) fun a S => ?_
 refine lx_nil (thenN ?_)
 obtain ⟨res93, hit94, hk97⟩ := bind_some hm
 obtain ⟨f95, hf96, hit94⟩ := iter_name hit94
 refine block_loop (fun a w => ∃ (xs90 : List Str) (x92 : Int) (v89 : Value), Slots a 35 [(0, (sv a0)), (5, v89), (6, (.int .i64 x92))] ∧ Heap w0 [oA (rList rStr) v89 xs90] w ∧ res93 = .inl (xs90, x92)) ?_ ?_
 ·rintro a w ⟨xs90, x92, v89, S, H, rfl⟩
  have hm := ctl_inl hk97
  refine thenN ?_
  refine wp_seq (region_plain ?_)
  refine lq v89 S (q_move rfl) fun a S => ?_
  refine lq (sv a0) S (q_move rfl) fun a S => ?_
  refine lq (.int .i64 x92) S (q_move rfl) fun a S => ?_
  obtain ⟨xs98, e99, hm⟩ := bind_some hm
  obtain ⟨hsb, hse⟩ := sub_some e99
  replace hse := hse.symm
  subst hse
  refine lq (sv ((a0.take ((a0.length : Int)).toNat).drop (x92).toNat)) S (q_ssub (lo := (some (.tmp 31))) (hi := none) (l := x92) (h := (a0.length : Int)) rfl Tryz.underlying9 rfl rfl hsb.1 hsb.2.1 hsb.2.2) fun a S => ?_
  refine lx_buildSlice (r := rStr) (xs := [((a0.take ((a0.length : Int)).toNat).drop (x92).toNat)]) (ps := [(0, [(sv ((a0.take ((a0.length : Int)).toNat).drop (x92).toNat))])]) (cs := [(sv ((a0.take ((a0.length : Int)).toNat).drop (x92).toNat))]) (parts := [(0, .tmp 32)]) S trivial (by decide) rfl (H.put0 (A := eA) rfl) rfl Tryz.underlying28 Tryz.sizeOf9 Tryz.zeroValue9 (by decide) ⟨rfl, rfl, Nat.le_of_ble_eq_true rfl, trivial⟩ (by intro zs hz; exact fill_dense hz ⟨rfl, trivial⟩ rfl rfl) rfl (by decide) (fun w F hA => by cases (show F = [] from hA); exact ⟨_, _, [(sv ((a0.take ((a0.length : Int)).toNat).drop (x92).toNat))], _, rfl, rfl, ⟨rfl, rfl⟩, ⟨rfl, rfl⟩⟩) (fun v100 w101 H => ⟨trivial, fun a S => ?_⟩)
  obtain ⟨x103, e104, hm⟩ := bind_some hm
  obtain ⟨hle, hap⟩ := app_some e104
  replace hap := hap.symm
  subst hap
  have H : Heap w0 [oA (rList rStr) v100 [((a0.take ((a0.length : Int)).toNat).drop (x92).toNat)], oA (rList rStr) v89 xs90] w101 := H.front 0 rfl
  have H : Heap w0 [oA (rList rStr) v89 xs90, oA (rList rStr) v100 [((a0.take ((a0.length : Int)).toNat).drop (x92).toNat)]] w101 := H.front 1 rfl
  refine lx_appendOwn (r := rStr) S trivial (by decide) rfl H rfl rfl Tryz.underlying28 Tryz.ti9 rfl rfl rfl (Nat.le_of_ble_eq_true rfl) (by decide) hle (fun v105 w106 H => ⟨trivial, fun a S => ?_⟩)
  refine lq v105 S (q_assign rfl) fun a S => ?_
  refine lx_nil (thenN ?_)
  refine wp_ret ?_
  obtain rfl := Option.some.inj hm
  exact leave1 S rfl rfl ⟨v105, rfl, H⟩
 ·skip
  refine loop_ghost (fun n a w => ∃ (xs60 : List Str) (x62 : Int) (x63 : Int) (v59 : Value), Slots a 35 [(0, (sv a0)), (1, (.int .u8 a1)), (5, v59), (6, (.int .i64 x62)), (7, (.int .i64 x63))] ∧ Heap w0 [oA (rList rStr) v59 xs60] w ∧ iter f95 n (xs60, x62, x63) = some res93) _ ⟨([] : List Str), (0 : Int), (0 : Int), v31, S.sub ⟨rfl, rfl, rfl, rfl, rfl, trivial⟩, H, hit94⟩ ?_
  rintro n a w ⟨xs60, x62, x63, v59, S, H, hit94⟩
  obtain ⟨m108, o109, rfl, hm, hc110⟩ := iter_step hit94
  rw [hf96] at hm
  refine wp_seq (wp_seq (region_plain ?_))
  refine lq (.int .i64 x63) S (q_move rfl) fun a S => ?_
  refine lq (sv a0) S (q_move rfl) fun a S => ?_
  refine lq (.int .i64 (a0.length : Int)) S (q_lenStr rfl rfl Tryz.underlying9) fun a S => ?_
  refine lq (.bool (decide (x63 < (a0.length : Int)))) S (q_lss rfl rfl) fun a S => ?_
  refine lx_nil (thenN ?_)
  refine cond_b S rfl (fun hc111 => ?_) (fun hc111 => ?_)
  ·have hm := ite_t hc111 hm
   refine wp_skip (thenN ?_)
   obtain ⟨K116, hK117, hm⟩ := join_elim hm
   refine seq_cut (fun a w => ∃ (xs113 : List Str) (x115 : Int) (v112 : Value), Slots a 35 [(0, (sv a0)), (1, (.int .u8 a1)), (5, v112), (6, (.int .i64 x115)), (7, (.int .i64 x63))] ∧ Heap w0 [oA (rList rStr) v112 xs113] w ∧ K116 xs113 x115 = some o109) ?_ ?_
   ·rintro a w ⟨xs113, x115, v112, S, H, hm⟩
    subst hK117
    refine region_plain ?_
    refine lq (.int .i64 x63) S (q_move rfl) fun a S => ?_
    refine lq (.int .i64 (W (x63 + (1 : Int)))) S (q_add rfl rfl) fun a S => ?_
    refine lq (.int .i64 (W (x63 + (1 : Int)))) S (q_assign rfl) fun a S => ?_
    refine lx_nil ?_
    exact ⟨m108, Nat.lt_succ_self _, xs113, x115, (W (x63 + (1 : Int))), v112, S.sub ⟨rfl, rfl, rfl, rfl, rfl, trivial⟩, H, it_cont hm hc110⟩
   ·skip
    refine wp_block ?_
    refine wp_seq (region_plain ?_)
    refine lq (sv a0) S (q_move rfl) fun a S => ?_
    refine lq (.int .i64 x63) S (q_move rfl) fun a S => ?_
    obtain ⟨b118, e119, hm⟩ := bind_some hm
    refine lq (.int .u8 (b118.toNat : Int)) S (q_sidx rfl rfl Tryz.underlying9 e119) fun a S => ?_
    refine lq (.int .u8 a1) S (q_move rfl) fun a S => ?_
    refine lq (.bool ((b118.toNat : Int) == a1)) S (q_eql rfl rfl) fun a S => ?_
    refine lx_nil (thenN ?_)
    refine cond_b S rfl (fun hc120 => ?_) (fun hc120 => ?_)
    ·have hm := ite_t hc120 hm
     refine wp_seq (region_plain ?_)
     refine lq v59 S (q_move rfl) fun a S => ?_
     refine lq (sv a0) S (q_move rfl) fun a S => ?_
     refine lq (.int .i64 x62) S (q_move rfl) fun a S => ?_
     refine lq (.int .i64 x63) S (q_move rfl) fun a S => ?_
     obtain ⟨xs121, e122, hm⟩ := bind_some hm
     obtain ⟨hsb, hse⟩ := sub_some e122
     replace hse := hse.symm
     subst hse
     refine lq (sv ((a0.take (x63).toNat).drop (x62).toNat)) S (q_ssub (lo := (some (.tmp 22))) (hi := (some (.tmp 23))) (l := x62) (h := x63) rfl Tryz.underlying9 rfl rfl hsb.1 hsb.2.1 hsb.2.2) fun a S => ?_
     refine lx_buildSlice (r := rStr) (xs := [((a0.take (x63).toNat).drop (x62).toNat)]) (ps := [(0, [(sv ((a0.take (x63).toNat).drop (x62).toNat))])]) (cs := [(sv ((a0.take (x63).toNat).drop (x62).toNat))]) (parts := [(0, .tmp 24)]) S trivial (by decide) rfl (H.put0 (A := eA) rfl) rfl Tryz.underlying28 Tryz.sizeOf9 Tryz.zeroValue9 (by decide) ⟨rfl, rfl, Nat.le_of_ble_eq_true rfl, trivial⟩ (by intro zs hz; exact fill_dense hz ⟨rfl, trivial⟩ rfl rfl) rfl (by decide) (fun w F hA => by cases (show F = [] from hA); exact ⟨_, _, [(sv ((a0.take (x63).toNat).drop (x62).toNat))], _, rfl, rfl, ⟨rfl, rfl⟩, ⟨rfl, rfl⟩⟩) (fun v123 w124 H => ⟨trivial, fun a S => ?_⟩)
     obtain ⟨x126, e127, hm⟩ := bind_some hm
     obtain ⟨hle, hap⟩ := app_some e127
     replace hap := hap.symm
     subst hap
     have H : Heap w0 [oA (rList rStr) v123 [((a0.take (x63).toNat).drop (x62).toNat)], oA (rList rStr) v59 xs60] w124 := H.front 0 rfl
     have H : Heap w0 [oA (rList rStr) v59 xs60, oA (rList rStr) v123 [((a0.take (x63).toNat).drop (x62).toNat)]] w124 := H.front 1 rfl
     refine lx_appendOwn (r := rStr) S trivial (by decide) rfl H rfl rfl Tryz.underlying28 Tryz.ti9 rfl rfl rfl (Nat.le_of_ble_eq_true rfl) (by decide) hle (fun v128 w129 H => ⟨trivial, fun a S => ?_⟩)
     refine lq v128 S (q_assign rfl) fun a S => ?_
     refine lx_nil (thenN ?_)
     refine region_plain ?_
     refine lq (.int .i64 x63) S (q_move rfl) fun a S => ?_
     refine lq (.int .i64 (W (x63 + (1 : Int)))) S (q_add rfl rfl) fun a S => ?_
     refine lq (.int .i64 (W (x63 + (1 : Int)))) S (q_assign rfl) fun a S => ?_
     refine lx_nil ?_
     refine inBlock_norm ?_
     exact ⟨(xs60 ++ [((a0.take (x63).toNat).drop (x62).toNat)]), (W (x63 + (1 : Int))), v128, S.sub ⟨rfl, rfl, rfl, rfl, rfl, trivial⟩, H, hm⟩
    ·have hm := ite_f hc120 hm
     refine wp_skip ?_
     refine inBlock_norm ?_
     exact ⟨xs60, x62, v59, S.sub ⟨rfl, rfl, rfl, rfl, rfl, trivial⟩, H, hm⟩
  ·have hm := ite_f hc111 hm
   refine wp_exit ?_
   refine then_exit ?_
   refine then_exit ?_
   refine inBlock_exit ?_
   obtain rfl := it_brk hm hc110
   exact ⟨xs60, x62, v59, S.sub ⟨rfl, rfl, rfl, trivial⟩, H, rfl⟩

/-- spec.l01Digit -/
def spec_l01Digit_m (_ : Nat) (a0 : Int) : Option (Bool) :=
  (if (decide ((48 : Int) ≤ a0)) = true then some (decide (a0 ≤ (57 : Int))) else some false).bind fun t31 => some (t31)
set_option maxRecDepth 20000 in
theorem spec_l01Digit_ok {w0 : World} {fuel : Nat} {a0 : Int} {r : Bool} (hm : spec_l01Digit_m fuel a0 = some r) :
  Calls Tryz.prog 79 #[.int .u8 a0] w0 fun e w => e = .returned (.bool r) ∧ Heap w0 [] w := by
 unfold spec_l01Digit_m at hm
 have H := Heap.start w0
 refine enter (args := [.int .u8 a0]) Tryz.func79 rfl 9 rfl (Nat.le_of_ble_eq_true rfl) (fun a S => ?_)
 refine wp_seq (region_plain ?_)
 refine lq (.bool false) S (q_assign rfl) fun a S => ?_
 refine lx_nil (thenN ?_)
 refine wp_seq (region_plain ?_)
 refine lq (.int .u8 a0) S (q_move rfl) fun a S => ?_
 refine lq (.bool (decide ((48 : Int) ≤ a0))) S (q_geq rfl rfl) fun a S => ?_
 refine lq (.bool (decide ((48 : Int) ≤ a0))) S (q_move rfl) fun a S => ?_
 obtain ⟨t31, e32, hm⟩ := bind_some hm
 refine lx_cut 3 (fun a w => Slots a 9 [(8, (.bool t31))] ∧ Heap w0 [] w) ?_ ?_
 ·by_cases hc33 : (decide ((48 : Int) ≤ a0)) = true
  ·have hm := ite_t hc33 e32
   refine lx_q (.int .u8 a0) S (want_b rfl rfl hc33) (by decide) (q_move rfl) (fun a S => ?_)
   refine lx_q (.bool (decide (a0 ≤ (57 : Int)))) S (want_b rfl rfl hc33) (by decide) (q_leq rfl rfl) (fun a S => ?_)
   refine lq (.bool (decide (a0 ≤ (57 : Int)))) S (q_pickT' rfl hc33 rfl) fun a S => ?_
   refine lx_nil ?_
   obtain rfl := Option.some.inj hm
   exact ⟨S.sub ⟨rfl, trivial⟩, H⟩
  ·have hm := ite_f (eq_false_of_ne_true hc33) e32
   have hc33 : (decide ((48 : Int) ≤ a0)) = false := eq_false_of_ne_true hc33
   refine lx_skip S rfl rfl (isB_ne hc33) (by decide) (fun a S => ?_)
   refine lx_skip S rfl rfl (isB_ne hc33) (by decide) (fun a S => ?_)
   refine lq (.bool false) S (q_pickF' rfl hc33 rfl) fun a S => ?_
   refine lx_nil ?_
   obtain rfl := Option.some.inj hm
   exact ⟨S.sub ⟨rfl, trivial⟩, H⟩
 ·rintro a w ⟨S, H⟩
  refine lq (.bool t31) S (q_assign rfl) fun a S => ?_
  refine lx_nil (thenN ?_)
  refine wp_ret ?_
  obtain rfl := Option.some.inj hm
  exact leave1 S rfl rfl ⟨rfl, H⟩

/-- spec.l01Number -/
def spec_l01Number_m (fuel : Nat) (a0 : Str) : Option ((Int × Bool)) :=
  join (κ := Int → Option (Int × Bool)) (fun (x31 : Int) => (if ((a0.length : Int) == x31) = true then some true else some (decide ((18 : Int) < (W ((a0.length : Int) - x31))))).bind fun t34 => (if t34 = true then some true else (idx a0 x31).bind fun b40 => (if ((b40.toNat : Int) == (48 : Int)) = true then some (decide ((1 : Int) < (a0.length : Int))) else some false).bind fun t42 => some t42).bind fun t37 => (if t37 = true then some (((0 : Int), false)) else (iter (fun (s : (Int) × (Int)) => (match s with | (x59, x60) => (if (decide (x60 < (a0.length : Int))) = true then (idx a0 x60).bind fun b88 => (spec_l01Digit_m fuel (b88.toNat : Int)).bind fun x92 => (if (!x92) = true then some (.inr (.inr ((0 : Int), false))) else (idx a0 x60).bind fun b96 => some (.inl ((W ((W ((10 : Int) * x59)) + (W (IntKind.u8.wrap ((b96.toNat : Int) - (48 : Int)))))), (W (x60 + (1 : Int)))))) else some (.inr (.inl (x59)))) : Option (((Int) × (Int)) ⊕ ((Int) ⊕ ((Int × Bool)))))) fuel ((0 : Int), x31)).bind fun res75 => ctl (β := Int) (ρ := (Int × Bool)) (τ := (Int × Bool)) res75 (fun (x74) => join (κ := Int → Option (Int × Bool)) (fun (x80 : Int) => some ((x80, true))) (fun K81 => (if (x31 == (1 : Int)) = true then (K81 (W (0 - x74))) else (K81 x74)))) (fun q => some (q)))) (fun K32 => (if (decide ((0 : Int) < (a0.length : Int))) = true then (idx a0 (0 : Int)).bind fun b101 => some ((b101.toNat : Int) == (45 : Int)) else some false).bind fun t98 => (if t98 = true then (K32 (1 : Int)) else (K32 (0 : Int))))
set_option maxRecDepth 20000 in
theorem spec_l01Number_ok {w0 : World} {fuel : Nat} {a0 : Str} {r : (Int × Bool)} (hm : spec_l01Number_m fuel a0 = some r) :
  Calls Tryz.prog 51 #[sv a0] w0 fun e w => e = .returned (.tuple #[.int .i64 r.1, .bool r.2]) ∧ Heap w0 [] w := by
 unfold spec_l01Number_m at hm
 have H := Heap.start w0
 refine enter (args := [sv a0]) Tryz.func51 rfl 62 rfl (Nat.le_of_ble_eq_true rfl) (fun a S => ?_)
 refine wp_seq (region_plain ?_)
 refine lq (.int .i64 (0 : Int)) S (q_assign rfl) fun a S => ?_
 refine lq (.bool false) S (q_assign rfl) fun a S => ?_
 refine lx_nil (thenN ?_)
 refine wp_seq (region_plain ?_)
 refine lq (.int .i64 (0 : Int)) S (q_assign rfl) fun a S => ?_
 refine lx_nil (thenN ?_)
 obtain ⟨K32, hK33, hm⟩ := join_elim hm
 refine seq_cut (fun a w => ∃ (x31 : Int), Slots a 62 [(0, (sv a0)), (4, (.int .i64 x31))] ∧ Heap w0 [] w ∧ K32 x31 = some r) ?_ ?_
 ·rintro a w ⟨x31, S, H, hm⟩
  subst hK33
  refine wp_seq (wp_seq (region_plain ?_))
  refine lq (sv a0) S (q_move rfl) fun a S => ?_
  refine lq (.int .i64 (a0.length : Int)) S (q_lenStr rfl rfl Tryz.underlying9) fun a S => ?_
  refine lq (.int .i64 x31) S (q_move rfl) fun a S => ?_
  refine lq (.bool ((a0.length : Int) == x31)) S (q_eql rfl rfl) fun a S => ?_
  refine lq (.bool ((a0.length : Int) == x31)) S (q_move rfl) fun a S => ?_
  obtain ⟨t34, e35, hm⟩ := bind_some hm
  refine lx_cut 6 (fun a w => Slots a 62 [(0, (sv a0)), (4, (.int .i64 x31)), (25, (.bool t34))] ∧ Heap w0 [] w) ?_ ?_
  ·by_cases hc36 : ((a0.length : Int) == x31) = true
   ·have hm := ite_t hc36 e35
    refine lx_skip S rfl rfl (isB_ne hc36) (by decide) (fun a S => ?_)
    refine lx_skip S rfl rfl (isB_ne hc36) (by decide) (fun a S => ?_)
    refine lx_skip S rfl rfl (isB_ne hc36) (by decide) (fun a S => ?_)
    refine lx_skip S rfl rfl (isB_ne hc36) (by decide) (fun a S => ?_)
    refine lx_skip S rfl rfl (isB_ne hc36) (by decide) (fun a S => ?_)
    refine lq (.bool true) S (q_pickT' rfl hc36 rfl) fun a S => ?_
    refine lx_nil ?_
    obtain rfl := Option.some.inj hm
    exact ⟨S.sub ⟨rfl, rfl, rfl, trivial⟩, H⟩
   ·have hm := ite_f (eq_false_of_ne_true hc36) e35
    have hc36 : ((a0.length : Int) == x31) = false := eq_false_of_ne_true hc36
    refine lx_q (sv a0) S (want_b rfl rfl hc36) (by decide) (q_move rfl) (fun a S => ?_)
    refine lx_q (.int .i64 (a0.length : Int)) S (want_b rfl rfl hc36) (by decide) (q_lenStr rfl rfl Tryz.underlying9) (fun a S => ?_)
    refine lx_q (.int .i64 x31) S (want_b rfl rfl hc36) (by decide) (q_move rfl) (fun a S => ?_)
    refine lx_q (.int .i64 (W ((a0.length : Int) - x31))) S (want_b rfl rfl hc36) (by decide) (q_sub rfl rfl) (fun a S => ?_)
    refine lx_q (.bool (decide ((18 : Int) < (W ((a0.length : Int) - x31))))) S (want_b rfl rfl hc36) (by decide) (q_gtr rfl rfl) (fun a S => ?_)
    refine lq (.bool (decide ((18 : Int) < (W ((a0.length : Int) - x31))))) S (q_pickF' rfl hc36 rfl) fun a S => ?_
    refine lx_nil ?_
    obtain rfl := Option.some.inj hm
    exact ⟨S.sub ⟨rfl, rfl, rfl, trivial⟩, H⟩
  ·rintro a w ⟨S, H⟩
   refine lq (.bool t34) S (q_move rfl) fun a S => ?_
   obtain ⟨t37, e38, hm⟩ := bind_some hm
   refine lx_cut 10 (fun a w => Slots a 62 [(0, (sv a0)), (4, (.int .i64 x31)), (36, (.bool t37))] ∧ Heap w0 [] w) ?_ ?_
   ·by_cases hc39 : t34 = true
    ·have hm := ite_t hc39 e38
     refine lx_skip S rfl rfl (isB_ne hc39) (by decide) (fun a S => ?_)
     refine lx_skip S rfl rfl (isB_ne hc39) (by decide) (fun a S => ?_)
     refine lx_skip S rfl rfl (isB_ne hc39) (by decide) (fun a S => ?_)
     refine lx_skip S rfl rfl (isB_ne hc39) (by decide) (fun a S => ?_)
     refine lx_skip S rfl rfl (isB_ne hc39) (by decide) (fun a S => ?_)
     refine lx_skip S rfl rfl rfl (by decide) (fun a S => ?_)
     refine lx_skip S rfl rfl rfl (by decide) (fun a S => ?_)
     refine lx_skip S rfl rfl rfl (by decide) (fun a S => ?_)
     refine lx_skip S rfl rfl (isB_ne hc39) (by decide) (fun a S => ?_)
     refine lq (.bool true) S (q_pickT' rfl hc39 rfl) fun a S => ?_
     refine lx_nil ?_
     obtain rfl := Option.some.inj hm
     exact ⟨S.sub ⟨rfl, rfl, rfl, trivial⟩, H⟩
    ·have hm := ite_f (eq_false_of_ne_true hc39) e38
     have hc39 : t34 = false := eq_false_of_ne_true hc39
     refine lx_q (sv a0) S (want_b rfl rfl hc39) (by decide) (q_move rfl) (fun a S => ?_)
     refine lx_q (.int .i64 x31) S (want_b rfl rfl hc39) (by decide) (q_move rfl) (fun a S => ?_)
     obtain ⟨b40, e41, hm⟩ := bind_some hm
     refine lx_q (.int .u8 (b40.toNat : Int)) S (want_b rfl rfl hc39) (by decide) (q_sidx rfl rfl Tryz.underlying9 e41) (fun a S => ?_)
     refine lx_q (.bool ((b40.toNat : Int) == (48 : Int))) S (want_b rfl rfl hc39) (by decide) (q_eql rfl rfl) (fun a S => ?_)
     refine lx_q (.bool ((b40.toNat : Int) == (48 : Int))) S (want_b rfl rfl hc39) (by decide) (q_move rfl) (fun a S => ?_)
     obtain ⟨t42, e43, hm⟩ := bind_some hm
     refine lx_cut 4 (fun a w => Slots a 62 [(0, (sv a0)), (4, (.int .i64 x31)), (26, (.bool t34)), (35, (.bool t42))] ∧ Heap w0 [] w) ?_ ?_
     ·by_cases hc44 : ((b40.toNat : Int) == (48 : Int)) = true
      ·have hm := ite_t hc44 e43
       refine lx_q (sv a0) S (want_b rfl rfl hc44) (by decide) (q_move rfl) (fun a S => ?_)
       refine lx_q (.int .i64 (a0.length : Int)) S (want_b rfl rfl hc44) (by decide) (q_lenStr rfl rfl Tryz.underlying9) (fun a S => ?_)
       refine lx_q (.bool (decide ((1 : Int) < (a0.length : Int)))) S (want_b rfl rfl hc44) (by decide) (q_gtr rfl rfl) (fun a S => ?_)
       refine lx_q (.bool (decide ((1 : Int) < (a0.length : Int)))) S (want_b rfl rfl hc39) (by decide) (q_pickT' rfl hc44 rfl) (fun a S => ?_)
       refine lx_nil ?_
       obtain rfl := Option.some.inj hm
       exact ⟨S.sub ⟨rfl, rfl, rfl, rfl, trivial⟩, H⟩
      ·have hm := ite_f (eq_false_of_ne_true hc44) e43
       have hc44 : ((b40.toNat : Int) == (48 : Int)) = false := eq_false_of_ne_true hc44
       refine lx_skip S rfl rfl (isB_ne hc44) (by decide) (fun a S => ?_)
       refine lx_skip S rfl rfl (isB_ne hc44) (by decide) (fun a S => ?_)
       refine lx_skip S rfl rfl (isB_ne hc44) (by decide) (fun a S => ?_)
       refine lx_q (.bool false) S (want_b rfl rfl hc39) (by decide) (q_pickF' rfl hc44 rfl) (fun a S => ?_)
       refine lx_nil ?_
       obtain rfl := Option.some.inj hm
       exact ⟨S.sub ⟨rfl, rfl, rfl, rfl, trivial⟩, H⟩
     ·rintro a w ⟨S, H⟩
      refine lq (.bool t42) S (q_pickF' rfl hc39 rfl) fun a S => ?_
      refine lx_nil ?_
      obtain rfl := Option.some.inj hm
      exact ⟨S.sub ⟨rfl, rfl, rfl, trivial⟩, H⟩
   ·rintro a w ⟨S, H⟩
    refine lx_nil (thenN ?_)
    refine cond_b S rfl (fun hc45 => ?_) (fun hc45 => ?_)
    ·have hm := ite_t hc45 hm
     refine wp_seq (region_plain ?_)
     refine lq (.int .i64 (0 : Int)) S (q_assign rfl) fun a S => ?_
     refine lq (.bool false) S (q_assign rfl) fun a S => ?_
     refine lx_nil (thenN ?_)
     refine wp_ret (then_ret ?_)
     obtain rfl := Option.some.inj hm
     exact leave2 S rfl rfl rfl ⟨rfl, H⟩
    ·have hm := ite_f hc45 hm
     refine wp_skip (thenN ?_)
     refine wp_seq (region_plain ?_)
     refine lq (.int .i64 (0 : Int)) S (q_assign rfl) fun a S => ?_
     refine lx_nil (thenN ?_)
     refine wp_seq (wp_seq (region_plain ?_))
     refine lq (.int .i64 x31) S (q_move rfl) fun a S => ?_
     refine lq (.int .i64 x31) S (q_assign rfl) fun a S => ?_
     refine lx_nil (thenN ?_)
     obtain ⟨res75, hit76, hk79⟩ := bind_some hm
     obtain ⟨f77, hf78, hit76⟩ := iter_name hit76
     refine block_loop (fun a w => ∃ (x74 : Int), Slots a 62 [(4, (.int .i64 x31)), (5, (.int .i64 x74))] ∧ Heap w0 [] w ∧ res75 = .inl (x74)) ?_ ?_
     ·rintro a w ⟨x74, S, H, rfl⟩
      have hm := ctl_inl hk79
      refine thenN ?_
      obtain ⟨K81, hK82, hm⟩ := join_elim hm
      refine seq_cut (fun a w => ∃ (x80 : Int), Slots a 62 [(5, (.int .i64 x80))] ∧ Heap w0 [] w ∧ K81 x80 = some r) ?_ ?_
      ·rintro a w ⟨x80, S, H, hm⟩
       subst hK82
       refine wp_seq (region_plain ?_)
       refine lq (.int .i64 x80) S (q_move rfl) fun a S => ?_
       refine lq (.int .i64 x80) S (q_assign rfl) fun a S => ?_
       refine lq (.bool true) S (q_assign rfl) fun a S => ?_
       refine lx_nil (thenN ?_)
       refine wp_ret ?_
       obtain rfl := Option.some.inj hm
       exact leave2 S rfl rfl rfl ⟨rfl, H⟩
      ·skip
       refine wp_seq (region_plain ?_)
       refine lq (.int .i64 x31) S (q_move rfl) fun a S => ?_
       refine lq (.bool (x31 == (1 : Int))) S (q_eql rfl rfl) fun a S => ?_
       refine lx_nil (thenN ?_)
       refine cond_b S rfl (fun hc83 => ?_) (fun hc83 => ?_)
       ·have hm := ite_t hc83 hm
        refine region_plain ?_
        refine lq (.int .i64 x74) S (q_move rfl) fun a S => ?_
        refine lq (.int .i64 (W (0 - x74))) S (q_neg rfl) fun a S => ?_
        refine lq (.int .i64 (W (0 - x74))) S (q_assign rfl) fun a S => ?_
        refine lx_nil ?_
        exact ⟨(W (0 - x74)), S.sub ⟨rfl, trivial⟩, H, hm⟩
       ·have hm := ite_f hc83 hm
        refine wp_skip ?_
        exact ⟨x74, S.sub ⟨rfl, trivial⟩, H, hm⟩
     ·skip
      refine loop_ghost (fun n a w => ∃ (x59 : Int) (x60 : Int), Slots a 62 [(0, (sv a0)), (4, (.int .i64 x31)), (5, (.int .i64 x59)), (6, (.int .i64 x60))] ∧ Heap w0 [] w ∧ iter f77 n (x59, x60) = some res75) _ ⟨(0 : Int), x31, S.sub ⟨rfl, rfl, rfl, rfl, trivial⟩, H, hit76⟩ ?_
      rintro n a w ⟨x59, x60, S, H, hit76⟩
      obtain ⟨m84, o85, rfl, hm, hc86⟩ := iter_step hit76
      rw [hf78] at hm
      refine wp_seq (wp_seq (region_plain ?_))
      refine lq (.int .i64 x60) S (q_move rfl) fun a S => ?_
      refine lq (sv a0) S (q_move rfl) fun a S => ?_
      refine lq (.int .i64 (a0.length : Int)) S (q_lenStr rfl rfl Tryz.underlying9) fun a S => ?_
      refine lq (.bool (decide (x60 < (a0.length : Int)))) S (q_lss rfl rfl) fun a S => ?_
      refine lx_nil (thenN ?_)
      refine cond_b S rfl (fun hc87 => ?_) (fun hc87 => ?_)
      ·have hm := ite_t hc87 hm
       refine wp_skip (thenN ?_)
       refine wp_seq ?_
       refine wp_block ?_
       refine wp_seq (wp_seq (region_plain ?_))
       refine lq (sv a0) S (q_move rfl) fun a S => ?_
       refine lq (.int .i64 x60) S (q_move rfl) fun a S => ?_
       obtain ⟨b88, e89, hm⟩ := bind_some hm
       refine lq (.int .u8 (b88.toNat : Int)) S (q_sidx rfl rfl Tryz.underlying9 e89) fun a S => ?_
       obtain ⟨x92, e93, hm⟩ := bind_some hm
       refine lx_call (xs := [.tmp 46]) S trivial (by decide) rfl rfl Tryz.call79 ((spec_l01Digit_ok  e93).mono ?_)
       rintro e w90 ⟨rfl, Hc91⟩
       have H := H.call0 Hc91
       refine ⟨_, rfl, trivial, fun a S => ?_⟩
       refine lq (.bool (!x92)) S (q_not rfl) fun a S => ?_
       refine lx_nil (thenN ?_)
       refine cond_b S rfl (fun hc95 => ?_) (fun hc95 => ?_)
       ·have hm := ite_t hc95 hm
        refine wp_seq (region_plain ?_)
        refine lq (.int .i64 (0 : Int)) S (q_assign rfl) fun a S => ?_
        refine lq (.bool false) S (q_assign rfl) fun a S => ?_
        refine lx_nil (thenN ?_)
        refine wp_ret (then_ret ?_)
        refine inBlock_ret ?_
        refine then_ret ?_
        refine then_ret ?_
        refine inBlock_ret ?_
        refine then_ret ?_
        refine then_ret ?_
        obtain rfl := it_brk hm hc86
        have hm := ctl_inr hk79
        obtain rfl := Option.some.inj hm
        exact leave2 S rfl rfl rfl ⟨rfl, H⟩
       ·have hm := ite_f hc95 hm
        refine wp_skip (thenN ?_)
        refine region_plain ?_
        refine lq (.int .i64 x59) S (q_move rfl) fun a S => ?_
        refine lq (.int .i64 (W ((10 : Int) * x59))) S (q_mul rfl rfl) fun a S => ?_
        refine lq (sv a0) S (q_move rfl) fun a S => ?_
        refine lq (.int .i64 x60) S (q_move rfl) fun a S => ?_
        obtain ⟨b96, e97, hm⟩ := bind_some hm
        refine lq (.int .u8 (b96.toNat : Int)) S (q_sidx rfl rfl Tryz.underlying9 e97) fun a S => ?_
        refine lq (.int .u8 (IntKind.u8.wrap ((b96.toNat : Int) - (48 : Int)))) S (q_sub rfl rfl) fun a S => ?_
        refine lq (.int .i64 (W (IntKind.u8.wrap ((b96.toNat : Int) - (48 : Int))))) S (q_convInt rfl Tryz.underlying5 Tryz.underlying2) fun a S => ?_
        refine lq (.int .i64 (W ((W ((10 : Int) * x59)) + (W (IntKind.u8.wrap ((b96.toNat : Int) - (48 : Int))))))) S (q_add rfl rfl) fun a S => ?_
        refine lq (.int .i64 (W ((W ((10 : Int) * x59)) + (W (IntKind.u8.wrap ((b96.toNat : Int) - (48 : Int))))))) S (q_assign rfl) fun a S => ?_
        refine lx_nil ?_
        refine inBlock_norm ?_
        refine thenN ?_
        refine region_plain ?_
        refine lq (.int .i64 x60) S (q_move rfl) fun a S => ?_
        refine lq (.int .i64 (W (x60 + (1 : Int)))) S (q_add rfl rfl) fun a S => ?_
        refine lq (.int .i64 (W (x60 + (1 : Int)))) S (q_assign rfl) fun a S => ?_
        refine lx_nil ?_
        exact ⟨m84, Nat.lt_succ_self _, (W ((W ((10 : Int) * x59)) + (W (IntKind.u8.wrap ((b96.toNat : Int) - (48 : Int)))))), (W (x60 + (1 : Int))), S.sub ⟨rfl, rfl, rfl, rfl, trivial⟩, H, it_cont hm hc86⟩
      ·have hm := ite_f hc87 hm
       refine wp_exit ?_
       refine then_exit ?_
       refine then_exit ?_
       refine inBlock_exit ?_
       obtain rfl := it_brk hm hc86
       exact ⟨x59, S.sub ⟨rfl, rfl, trivial⟩, H, rfl⟩
 ·skip
  refine wp_seq (region_plain ?_)
  refine lq (sv a0) S (q_move rfl) fun a S => ?_
  refine lq (.int .i64 (a0.length : Int)) S (q_lenStr rfl rfl Tryz.underlying9) fun a S => ?_
  refine lq (.bool (decide ((0 : Int) < (a0.length : Int)))) S (q_gtr rfl rfl) fun a S => ?_
  refine lq (.bool (decide ((0 : Int) < (a0.length : Int)))) S (q_move rfl) fun a S => ?_
  obtain ⟨t98, e99, hm⟩ := bind_some hm
  refine lx_cut 4 (fun a w => Slots a 62 [(0, (sv a0)), (4, (.int .i64 (0 : Int))), (14, (.bool t98))] ∧ Heap w0 [] w) ?_ ?_
  ·by_cases hc100 : (decide ((0 : Int) < (a0.length : Int))) = true
   ·have hm := ite_t hc100 e99
    refine lx_q (sv a0) S (want_b rfl rfl hc100) (by decide) (q_move rfl) (fun a S => ?_)
    obtain ⟨b101, e102, hm⟩ := bind_some hm
    refine lx_q (.int .u8 (b101.toNat : Int)) S (want_b rfl rfl hc100) (by decide) (q_sidx rfl rfl Tryz.underlying9 e102) (fun a S => ?_)
    refine lx_q (.bool ((b101.toNat : Int) == (45 : Int))) S (want_b rfl rfl hc100) (by decide) (q_eql rfl rfl) (fun a S => ?_)
    refine lq (.bool ((b101.toNat : Int) == (45 : Int))) S (q_pickT' rfl hc100 rfl) fun a S => ?_
    refine lx_nil ?_
    obtain rfl := Option.some.inj hm
    exact ⟨S.sub ⟨rfl, rfl, rfl, trivial⟩, H⟩
   ·have hm := ite_f (eq_false_of_ne_true hc100) e99
    have hc100 : (decide ((0 : Int) < (a0.length : Int))) = false := eq_false_of_ne_true hc100
    refine lx_skip S rfl rfl (isB_ne hc100) (by decide) (fun a S => ?_)
    refine lx_skip S rfl rfl (isB_ne hc100) (by decide) (fun a S => ?_)
    refine lx_skip S rfl rfl (isB_ne hc100) (by decide) (fun a S => ?_)
    refine lq (.bool false) S (q_pickF' rfl hc100 rfl) fun a S => ?_
    refine lx_nil ?_
    obtain rfl := Option.some.inj hm
    exact ⟨S.sub ⟨rfl, rfl, rfl, trivial⟩, H⟩
  ·rintro a w ⟨S, H⟩
   refine lx_nil (thenN ?_)
   refine cond_b S rfl (fun hc103 => ?_) (fun hc103 => ?_)
   ·have hm := ite_t hc103 hm
    refine region_plain ?_
    refine lq (.int .i64 (1 : Int)) S (q_assign rfl) fun a S => ?_
    refine lx_nil ?_
    exact ⟨(1 : Int), S.sub ⟨rfl, rfl, trivial⟩, H, hm⟩
   ·have hm := ite_f hc103 hm
    refine wp_skip ?_
    exact ⟨(0 : Int), S.sub ⟨rfl, rfl, trivial⟩, H, hm⟩

/-- spec.l00In -/
def spec_l00In_m (_ : Nat) (a0 : Int) (a1 : Int) (a2 : Int) : Option (Bool) :=
  (if (decide (a1 ≤ a0)) = true then some (decide (a0 ≤ a2)) else some false).bind fun t31 => some (t31)
set_option maxRecDepth 20000 in
theorem spec_l00In_ok {w0 : World} {fuel : Nat} {a0 : Int} {a1 : Int} {a2 : Int} {r : Bool} (hm : spec_l00In_m fuel a0 a1 a2 = some r) :
  Calls Tryz.prog 52 #[.int .i64 a0, .int .i64 a1, .int .i64 a2] w0 fun e w => e = .returned (.bool r) ∧ Heap w0 [] w := by
 unfold spec_l00In_m at hm
 have H := Heap.start w0
 refine enter (args := [.int .i64 a0, .int .i64 a1, .int .i64 a2]) Tryz.func52 rfl 15 rfl (Nat.le_of_ble_eq_true rfl) (fun a S => ?_)
 refine wp_seq (region_plain ?_)
 refine lq (.bool false) S (q_assign rfl) fun a S => ?_
 refine lx_nil (thenN ?_)
 refine wp_seq (region_plain ?_)
 refine lq (.int .i64 a0) S (q_move rfl) fun a S => ?_
 refine lq (.int .i64 a1) S (q_move rfl) fun a S => ?_
 refine lq (.bool (decide (a1 ≤ a0))) S (q_geq rfl rfl) fun a S => ?_
 refine lq (.bool (decide (a1 ≤ a0))) S (q_move rfl) fun a S => ?_
 obtain ⟨t31, e32, hm⟩ := bind_some hm
 refine lx_cut 4 (fun a w => Slots a 15 [(14, (.bool t31))] ∧ Heap w0 [] w) ?_ ?_
 ·by_cases hc33 : (decide (a1 ≤ a0)) = true
  ·have hm := ite_t hc33 e32
   refine lx_q (.int .i64 a0) S (want_b rfl rfl hc33) (by decide) (q_move rfl) (fun a S => ?_)
   refine lx_q (.int .i64 a2) S (want_b rfl rfl hc33) (by decide) (q_move rfl) (fun a S => ?_)
   refine lx_q (.bool (decide (a0 ≤ a2))) S (want_b rfl rfl hc33) (by decide) (q_leq rfl rfl) (fun a S => ?_)
   refine lq (.bool (decide (a0 ≤ a2))) S (q_pickT' rfl hc33 rfl) fun a S => ?_
   refine lx_nil ?_
   obtain rfl := Option.some.inj hm
   exact ⟨S.sub ⟨rfl, trivial⟩, H⟩
  ·have hm := ite_f (eq_false_of_ne_true hc33) e32
   have hc33 : (decide (a1 ≤ a0)) = false := eq_false_of_ne_true hc33
   refine lx_skip S rfl rfl (isB_ne hc33) (by decide) (fun a S => ?_)
   refine lx_skip S rfl rfl (isB_ne hc33) (by decide) (fun a S => ?_)
   refine lx_skip S rfl rfl (isB_ne hc33) (by decide) (fun a S => ?_)
   refine lq (.bool false) S (q_pickF' rfl hc33 rfl) fun a S => ?_
   refine lx_nil ?_
   obtain rfl := Option.some.inj hm
   exact ⟨S.sub ⟨rfl, trivial⟩, H⟩
 ·rintro a w ⟨S, H⟩
  refine lq (.bool t31) S (q_assign rfl) fun a S => ?_
  refine lx_nil (thenN ?_)
  refine wp_ret ?_
  obtain rfl := Option.some.inj hm
  exact leave1 S rfl rfl ⟨rfl, H⟩

/-- impl.Decimal -/
def impl_Decimal_m (fuel : Nat) (a0 : Int) : Option (Str) :=
  (strconv_FormatInt_m fuel a0 (10 : Int)).bind fun x33 => some (x33)
set_option maxRecDepth 20000 in
theorem impl_Decimal_ok {w0 : World} {fuel : Nat} {a0 : Int} {r : Str} (hG : Glob Tryz.prog w0) (hm : impl_Decimal_m fuel a0 = some r) :
  Calls Tryz.prog 39 #[.int .i64 a0] w0 fun e w => e = .returned (sv r) ∧ Heap w0 [] w := by
 unfold impl_Decimal_m at hm
 have H := Heap.start w0
 refine enter (args := [.int .i64 a0]) Tryz.func39 rfl 5 rfl (Nat.le_of_ble_eq_true rfl) (fun a S => ?_)
 refine wp_seq (region_plain ?_)
 refine lq (sv ([] : Str)) S (q_assign rfl) fun a S => ?_
 refine lx_nil (thenN ?_)
 refine wp_seq (region_plain ?_)
 refine lq (.int .i64 a0) S (q_move rfl) fun a S => ?_
 obtain ⟨x33, e34, hm⟩ := bind_some hm
 refine lx_call (xs := [.tmp 3, .const (.int .i64 (10))]) S trivial (by decide) rfl rfl Tryz.call73 ((strconv_FormatInt_ok (hG.ext H.ext)   e34).mono ?_)
 rintro e w31 ⟨rfl, Hc32⟩
 have H := H.call0 Hc32
 refine ⟨_, rfl, trivial, fun a S => ?_⟩
 refine lq (sv x33) S (q_assign rfl) fun a S => ?_
 refine lx_nil (thenN ?_)
 refine wp_ret ?_
 obtain rfl := Option.some.inj hm
 exact leave1 S rfl rfl ⟨rfl, H⟩

/-- impl.ReadDecimal -/
def impl_ReadDecimal_m (fuel : Nat) (a0 : Str) : Option ((Int × Bool)) :=
  (strings_TrimPrefix_m fuel a0 ([45] : Str)).bind fun x33 => (if (decide ((18 : Int) < (x33.length : Int))) = true then some (((0 : Int), false)) else (strconv_ParseInt_m fuel a0 (10 : Int) (64 : Int)).bind fun x39 => (if x39.2 = true then some true else (impl_Decimal_m fuel x39.1).bind fun x49 => some (x49 != a0)).bind fun t44 => (if t44 = true then some (((0 : Int), false)) else some ((x39.1, true))))
set_option maxRecDepth 20000 in
theorem impl_ReadDecimal_ok {w0 : World} {fuel : Nat} {a0 : Str} {r : (Int × Bool)} (hG : GlobE Tryz.prog w0) (hm : impl_ReadDecimal_m fuel a0 = some r) :
  Calls Tryz.prog 75 #[sv a0] w0 fun e w => e = .returned (.tuple #[.int .i64 r.1, .bool r.2]) ∧ Heap w0 [] w := by
 unfold impl_ReadDecimal_m at hm
 have H := Heap.start w0
 refine enter (args := [sv a0]) Tryz.func75 rfl 24 rfl (Nat.le_of_ble_eq_true rfl) (fun a S => ?_)
 refine wp_seq (region_plain ?_)
 refine lq (.int .i64 (0 : Int)) S (q_assign rfl) fun a S => ?_
 refine lq (.bool false) S (q_assign rfl) fun a S => ?_
 refine lx_nil (thenN ?_)
 refine wp_seq (wp_seq (region_plain ?_))
 refine lq (sv a0) S (q_move rfl) fun a S => ?_
 obtain ⟨x33, e34, hm⟩ := bind_some hm
 refine lx_call (xs := [.tmp 6, .const (sv [45])]) S trivial (by decide) rfl rfl Tryz.call97 ((strings_TrimPrefix_ok   e34).mono ?_)
 rintro e w31 ⟨rfl, Hc32⟩
 have H := H.call0 Hc32
 refine ⟨_, rfl, trivial, fun a S => ?_⟩
 refine lq (.int .i64 (x33.length : Int)) S (q_lenStr rfl rfl Tryz.underlying9) fun a S => ?_
 refine lq (.bool (decide ((18 : Int) < (x33.length : Int)))) S (q_gtr rfl rfl) fun a S => ?_
 refine lx_nil (thenN ?_)
 refine cond_b S rfl (fun hc36 => ?_) (fun hc36 => ?_)
 ·have hm := ite_t hc36 hm
  refine wp_seq (region_plain ?_)
  refine lq (.int .i64 (0 : Int)) S (q_assign rfl) fun a S => ?_
  refine lq (.bool false) S (q_assign rfl) fun a S => ?_
  refine lx_nil (thenN ?_)
  refine wp_ret (then_ret ?_)
  obtain rfl := Option.some.inj hm
  exact leave2 S rfl rfl rfl ⟨rfl, H⟩
 ·have hm := ite_f hc36 hm
  refine wp_skip (thenN ?_)
  refine wp_seq (region_plain ?_)
  refine lq (sv a0) S (q_move rfl) fun a S => ?_
  obtain ⟨x39, e40, hm⟩ := bind_some hm
  refine lx_call (xs := [.tmp 11, .const (.int .i64 (10)), .const (.int .i64 (64))]) S trivial (by decide) rfl rfl Tryz.call98 ((strconv_ParseInt_ok (hG.ext H.ext)    e40).mono ?_)
  rintro e w37 ⟨ve41, rfl, he42, Hc38⟩
  have H := H.call0 Hc38
  refine ⟨_, rfl, trivial, fun a S => ?_⟩
  refine lq (.tuple #[(.int .i64 x39.1), ve41]) S (q_move rfl) fun a S => ?_
  refine lq (.int .i64 x39.1) S (q_extract rfl rfl) fun a S => ?_
  refine lq ve41 S (q_extract rfl rfl) fun a S => ?_
  refine lq (.int .i64 x39.1) S (q_assign rfl) fun a S => ?_
  refine lq ve41 S (q_assign rfl) fun a S => ?_
  refine lx_nil (thenN ?_)
  refine wp_seq (wp_seq (region_plain ?_))
  refine lq ve41 S (q_move rfl) fun a S => ?_
  refine lq (.bool x39.2) S (q_errneq rfl he42 Tryz.underlying111) fun a S => ?_
  refine lq (.bool x39.2) S (q_move rfl) fun a S => ?_
  obtain ⟨t44, e45, hm⟩ := bind_some hm
  refine lx_cut 5 (fun a w => Slots a 24 [(4, (.int .i64 x39.1)), (22, (.bool t44))] ∧ Heap w0 [] w) ?_ ?_
  ·by_cases hc46 : x39.2 = true
   ·have hm := ite_t hc46 e45
    refine lx_skip S rfl rfl (isB_ne hc46) (by decide) (fun a S => ?_)
    refine lx_skip S rfl rfl (isB_ne hc46) (by decide) (fun a S => ?_)
    refine lx_skip S rfl rfl (isB_ne hc46) (by decide) (fun a S => ?_)
    refine lx_skip S rfl rfl (isB_ne hc46) (by decide) (fun a S => ?_)
    refine lq (.bool true) S (q_pickT' rfl hc46 rfl) fun a S => ?_
    refine lx_nil ?_
    obtain rfl := Option.some.inj hm
    exact ⟨S.sub ⟨rfl, rfl, trivial⟩, H⟩
   ·have hm := ite_f (eq_false_of_ne_true hc46) e45
    have hc46 : x39.2 = false := eq_false_of_ne_true hc46
    refine lx_q (.int .i64 x39.1) S (want_b rfl rfl hc46) (by decide) (q_move rfl) (fun a S => ?_)
    obtain ⟨x49, e50, hm⟩ := bind_some hm
    refine lx_call (xs := [.tmp 18]) S (want_b rfl rfl hc46) (by decide) rfl rfl Tryz.call39 ((impl_Decimal_ok (hG.ext H.ext).toGlob  e50).mono ?_)
    rintro e w47 ⟨rfl, Hc48⟩
    have H := H.call0 Hc48
    refine ⟨_, rfl, trivial, fun a S => ?_⟩
    refine lx_q (sv a0) S (want_b rfl rfl hc46) (by decide) (q_move rfl) (fun a S => ?_)
    refine lx_q (.bool (x49 != a0)) S (want_b rfl rfl hc46) (by decide) (q_sneq rfl rfl) (fun a S => ?_)
    refine lq (.bool (x49 != a0)) S (q_pickF' rfl hc46 rfl) fun a S => ?_
    refine lx_nil ?_
    obtain rfl := Option.some.inj hm
    exact ⟨S.sub ⟨rfl, rfl, trivial⟩, H⟩
  ·rintro a w ⟨S, H⟩
   refine lx_nil (thenN ?_)
   refine cond_b S rfl (fun hc52 => ?_) (fun hc52 => ?_)
   ·have hm := ite_t hc52 hm
    refine wp_seq (region_plain ?_)
    refine lq (.int .i64 (0 : Int)) S (q_assign rfl) fun a S => ?_
    refine lq (.bool false) S (q_assign rfl) fun a S => ?_
    refine lx_nil (thenN ?_)
    refine wp_ret (then_ret ?_)
    obtain rfl := Option.some.inj hm
    exact leave2 S rfl rfl rfl ⟨rfl, H⟩
   ·have hm := ite_f hc52 hm
    refine wp_skip (thenN ?_)
    refine wp_seq (region_plain ?_)
    refine lq (.int .i64 x39.1) S (q_move rfl) fun a S => ?_
    refine lq (.int .i64 x39.1) S (q_assign rfl) fun a S => ?_
    refine lq (.bool true) S (q_assign rfl) fun a S => ?_
    refine lx_nil (thenN ?_)
    refine wp_ret ?_
    obtain rfl := Option.some.inj hm
    exact leave2 S rfl rfl rfl ⟨rfl, H⟩

/-- impl.readNumbers -/
def impl_readNumbers_m (fuel : Nat) (a0 : (List Str)) : Option (((List Int) × Bool)) :=
  (iter (fun (s : (List Int) × (Int)) => (match s with | (xs57, x59) => (if (decide (x59 < (a0.length : Int))) = true then (idx a0 x59).bind fun x97 => (impl_ReadDecimal_m fuel x97).bind fun x104 => (if (!x104.2) = true then some (.inr (.inr ([], false))) else (app xs57 [x104.1]).bind fun x112 => some (.inl (x112, (W (x59 + (1 : Int)))))) else some (.inr (.inl (xs57)))) : Option (((List Int) × (Int)) ⊕ (((List Int)) ⊕ (((List Int) × Bool)))))) fuel ([], (0 : Int))).bind fun res87 => ctl (β := (List Int)) (ρ := ((List Int) × Bool)) (τ := ((List Int) × Bool)) res87 (fun (xs85) => some ((xs85, true))) (fun q => some (q))
set_option maxRecDepth 20000 in
theorem impl_readNumbers_ok {w0 : World} {fuel : Nat} {p0 : Value} {a0 : (List Str)} {r : ((List Int) × Bool)} (hG : GlobE Tryz.prog w0) (h0 : Rd (rList rStr) w0 p0 a0) (hm : impl_readNumbers_m fuel a0 = some r) :
  Calls Tryz.prog 44 #[p0] w0 fun e w => ∃ (v0 : Value), e = .returned (.tuple #[v0, .bool r.2]) ∧ Heap w0 [oA (rList (rInt .i64)) v0 r.1] w := by
 unfold impl_readNumbers_m at hm
 have H := Heap.start w0
 refine enter (args := [p0]) Tryz.func44 rfl 28 rfl (Nat.le_of_ble_eq_true rfl) (fun a S => ?_)
 refine wp_seq (region_plain ?_)
 refine lq (.slice none 0 0) S (q_assign rfl) fun a S => ?_
 refine lq (.bool false) S (q_assign rfl) fun a S => ?_
 refine lx_nil (thenN ?_)
 refine wp_seq (region_plain ?_)
 refine lq (.slice none 0 0) S (q_assign rfl) fun a S => ?_
 refine lx_nil (thenN ?_)
 refine wp_seq (wp_seq (region_plain ?_))
 refine lq p0 S (q_move rfl) fun a S => ?_
 refine lq (.int .i64 (a0.length : Int)) S (q_lenSl rfl (h0).isSl rfl Tryz.underlying28) fun a S => ?_
 refine lq (.int .i64 (0 : Int)) S (q_move rfl) fun a S => ?_
 refine lx_nil (thenN ?_)
 obtain ⟨res87, hit88, hk91⟩ := bind_some hm
 obtain ⟨f89, hf90, hit88⟩ := iter_name hit88
 refine block_loop (fun a w => ∃ (xs85 : List Int) (v84 : Value), Slots a 28 [(4, v84)] ∧ Heap w0 [oA (rList (rInt .i64)) v84 xs85] w ∧ res87 = .inl (xs85)) ?_ ?_
 ·rintro a w ⟨xs85, v84, S, H, rfl⟩
  have hm := ctl_inl hk91
  refine thenN ?_
  refine wp_seq (region_plain ?_)
  refine lq v84 S (q_move rfl) fun a S => ?_
  refine lq v84 S (q_assign rfl) fun a S => ?_
  refine lq (.bool true) S (q_assign rfl) fun a S => ?_
  refine lx_nil (thenN ?_)
  refine wp_ret ?_
  obtain rfl := Option.some.inj hm
  exact leave2 S rfl rfl rfl ⟨v84, rfl, H⟩
 ·skip
  have H : Heap w0 [oA (rList (rInt .i64)) (.slice none 0 0) ([] : List Int)] w0 := H.nilList (rInt .i64)
  refine loop_ghost (fun n a w => ∃ (xs57 : List Int) (x59 : Int) (v56 : Value), Slots a 28 [(4, v56), (9, p0), (10, (.int .i64 (a0.length : Int))), (11, (.int .i64 x59))] ∧ Heap w0 [oA (rList (rInt .i64)) v56 xs57] w ∧ iter f89 n (xs57, x59) = some res87) _ ⟨[], (0 : Int), (.slice none 0 0), S.sub ⟨rfl, rfl, rfl, rfl, trivial⟩, H, hit88⟩ ?_
  rintro n a w ⟨xs57, x59, v56, S, H, hit88⟩
  obtain ⟨m93, o94, rfl, hm, hc95⟩ := iter_step hit88
  rw [hf90] at hm
  refine wp_seq (region_plain ?_)
  refine lq (.bool (decide (x59 < (a0.length : Int)))) S (q_lss rfl rfl) fun a S => ?_
  refine lx_nil (thenN ?_)
  refine wp_seq ?_
  refine cond_b S rfl (fun hc96 => ?_) (fun hc96 => ?_)
  ·have hm := ite_t hc96 hm
   refine wp_skip (thenN ?_)
   refine wp_seq ?_
   refine wp_block ?_
   refine wp_seq (region_plain ?_)
   obtain ⟨x97, e98, hm⟩ := bind_some hm
   obtain ⟨c99, h100, hat101⟩ := (h0).elem (idx_some e98).2
   obtain rfl := h100
   have hlt := lt_of_idx (idx_some e98).2
   refine lq (ePtr p0 (x59.toNat * 1)) S (q_indexAddr rfl (h0).isSl rfl (idx_some e98).1 hlt Tryz.underlying28 Tryz.sizeOf9) fun a S => ?_
   refine lx_e (sv x97) S trivial (by decide) rfl trivial (q_load1 rfl Tryz.isAgg9 (by rintro _ rfl; exact ((hat101 0 _ rfl).ext H.ext))) (fun a S => ?_)
   refine lq (sv x97) S (q_assign rfl) fun a S => ?_
   refine lx_nil (thenN ?_)
   refine wp_seq (region_plain ?_)
   refine lq (sv x97) S (q_move rfl) fun a S => ?_
   obtain ⟨x104, e105, hm⟩ := bind_some hm
   refine lx_call (xs := [.tmp 16]) S trivial (by decide) rfl rfl Tryz.call75 ((impl_ReadDecimal_ok (hG.ext H.ext)  e105).mono ?_)
   rintro e w102 ⟨rfl, Hc103⟩
   have H := H.call0 Hc103
   refine ⟨_, rfl, trivial, fun a S => ?_⟩
   refine lq (.tuple #[(.int .i64 x104.1), (.bool x104.2)]) S (q_move rfl) fun a S => ?_
   refine lq (.int .i64 x104.1) S (q_extract rfl rfl) fun a S => ?_
   refine lq (.bool x104.2) S (q_extract rfl rfl) fun a S => ?_
   refine lq (.int .i64 x104.1) S (q_assign rfl) fun a S => ?_
   refine lq (.bool x104.2) S (q_assign rfl) fun a S => ?_
   refine lx_nil (thenN ?_)
   refine wp_seq (wp_seq (region_plain ?_))
   refine lq (.bool x104.2) S (q_move rfl) fun a S => ?_
   refine lq (.bool (!x104.2)) S (q_not rfl) fun a S => ?_
   refine lx_nil (thenN ?_)
   refine cond_b S rfl (fun hc107 => ?_) (fun hc107 => ?_)
   ·have hm := ite_t hc107 hm
    refine wp_seq (region_plain ?_)
    refine lq (.slice none 0 0) S (q_assign rfl) fun a S => ?_
    refine lq (.bool false) S (q_assign rfl) fun a S => ?_
    refine lx_nil (thenN ?_)
    refine wp_ret (then_ret ?_)
    refine inBlock_ret ?_
    refine then_ret ?_
    refine then_ret ?_
    refine inBlock_ret ?_
    refine then_ret ?_
    refine then_ret ?_
    obtain rfl := it_brk hm hc95
    have hm := ctl_inr hk91
    obtain rfl := Option.some.inj hm
    have H : Heap w0 [oA (rList (rInt .i64)) (.slice none 0 0) ([] : List Int), oA (rList (rInt .i64)) v56 xs57] w102 := H.nilList (rInt .i64)
    have H : Heap w0 [oA (rList (rInt .i64)) (.slice none 0 0) ([] : List Int)] w102 := H.sel [0] (by decide)
    exact leave2 S rfl rfl rfl ⟨(.slice none 0 0), rfl, H⟩
   ·have hm := ite_f hc107 hm
    refine wp_skip (thenN ?_)
    refine region_plain ?_
    refine lq v56 S (q_move rfl) fun a S => ?_
    refine lq (.int .i64 x104.1) S (q_move rfl) fun a S => ?_
    refine lx_buildSlice (r := (rInt .i64)) (xs := [x104.1]) (ps := [(0, [(.int .i64 x104.1)])]) (cs := [(.int .i64 x104.1)]) (parts := [(0, .tmp 23)]) S trivial (by decide) rfl (H.put0 (A := eA) rfl) rfl Tryz.underlying44 Tryz.sizeOf2 Tryz.zeroValue2 (by decide) ⟨rfl, rfl, Nat.le_of_ble_eq_true rfl, trivial⟩ (by intro zs hz; exact fill_dense hz ⟨rfl, trivial⟩ rfl rfl) rfl (by decide) (fun w F hA => by cases (show F = [] from hA); exact ⟨_, _, [(.int .i64 x104.1)], _, rfl, rfl, ⟨rfl, rfl⟩, ⟨rfl, rfl⟩⟩) (fun v109 w110 H => ⟨trivial, fun a S => ?_⟩)
    obtain ⟨x112, e113, hm⟩ := bind_some hm
    obtain ⟨hle, hap⟩ := app_some e113
    replace hap := hap.symm
    subst hap
    have H : Heap w0 [oA (rList (rInt .i64)) v109 [x104.1], oA (rList (rInt .i64)) v56 xs57] w110 := H.front 0 rfl
    have H : Heap w0 [oA (rList (rInt .i64)) v56 xs57, oA (rList (rInt .i64)) v109 [x104.1]] w110 := H.front 1 rfl
    refine lx_appendOwn (r := (rInt .i64)) S trivial (by decide) rfl H rfl rfl Tryz.underlying44 Tryz.ti2 rfl rfl rfl (Nat.le_of_ble_eq_true rfl) (by decide) hle (fun v114 w115 H => ⟨trivial, fun a S => ?_⟩)
    refine lq v114 S (q_assign rfl) fun a S => ?_
    refine lx_nil ?_
    refine inBlock_norm ?_
    refine thenN ?_
    refine region_plain ?_
    refine lq (.int .i64 (W (x59 + (1 : Int)))) S (q_add rfl rfl) fun a S => ?_
    refine lq (.int .i64 (W (x59 + (1 : Int)))) S (q_move rfl) fun a S => ?_
    refine lx_nil ?_
    exact ⟨m93, Nat.lt_succ_self _, (xs57 ++ [x104.1]), (W (x59 + (1 : Int))), v114, S.sub ⟨rfl, rfl, rfl, rfl, trivial⟩, H, it_cont hm hc95⟩
  ·have hm := ite_f hc96 hm
   refine wp_exit ?_
   refine then_exit ?_
   refine then_exit ?_
   refine inBlock_exit ?_
   obtain rfl := it_brk hm hc95
   exact ⟨xs57, v56, S.sub ⟨rfl, trivial⟩, H, rfl⟩

/-- slices.IndexFunc[[]int64,int64] -/
def slices_IndexFunc__int64_int64_m (fuel : Nat) (a0 : (List Int)) (a1 : (Int → Option Bool)) : Option (Int) :=
  (iter (fun (s : (Int)) => (match s with | (x46) => (if (decide (x46 < (a0.length : Int))) = true then (idx a0 x46).bind fun x71 => (a1 x71).bind fun x80 => (if x80 = true then some (.inr (.inr x46)) else some (.inl ((W (x46 + (1 : Int)))))) else some (.inr (.inl ()))) : Option (((Int)) ⊕ ((Unit) ⊕ (Int))))) fuel ((0 : Int))).bind fun res62 => ctl (β := Unit) (ρ := Int) (τ := Int) res62 (fun _ => some ((-1 : Int))) (fun q => some (q))
set_option maxRecDepth 20000 in
theorem slices_IndexFunc__int64_int64_ok {w0 : World} {fuel : Nat} {p0 : Value} {a0 : (List Int)} {a1 : (Int → Option Bool)} {f1 : Nat} {fs1 cp1 : List Value} {r : Int} (h0 : Rd (rList (rInt .i64)) w0 p0 a0) (hcf1 : ∀ args w, (callFunc f1 args).run Tryz.prog w = .ok (.enter f1 args) w) (hf1 : ∀ {w : World} {x0_ : Int} {y : Bool}, Ext w0 w → a1 x0_ = some y → Calls Tryz.prog f1 (fs1 ++ ([.int .i64 x0_] : List Value) ++ cp1).toArray w fun e w' => e = .returned (.bool y) ∧ Heap w [] w') (hm : slices_IndexFunc__int64_int64_m fuel a0 a1 = some r) :
  Calls Tryz.prog 103 #[p0, .func (.func f1) fs1.toArray cp1.toArray] w0 fun e w => e = .returned (.int .i64 r) ∧ Heap w0 [] w := by
 unfold slices_IndexFunc__int64_int64_m at hm
 have H := Heap.start w0
 refine enter (args := [p0, .func (.func f1) fs1.toArray cp1.toArray]) Tryz.func103 rfl 19 rfl (Nat.le_of_ble_eq_true rfl) (fun a S => ?_)
 refine wp_seq (region_plain ?_)
 refine lq (.int .i64 (0 : Int)) S (q_assign rfl) fun a S => ?_
 refine lx_nil (thenN ?_)
 refine wp_seq (wp_seq (region_plain ?_))
 refine lq p0 S (q_move rfl) fun a S => ?_
 refine lq (.int .i64 (a0.length : Int)) S (q_lenSl rfl (h0).isSl rfl Tryz.underlying44) fun a S => ?_
 refine lq (.int .i64 (0 : Int)) S (q_move rfl) fun a S => ?_
 refine lx_nil (thenN ?_)
 obtain ⟨res62, hit63, hk66⟩ := bind_some hm
 obtain ⟨f64, hf65, hit63⟩ := iter_name hit63
 refine block_loop (fun a w => Slots a 19 [] ∧ Heap w0 [] w ∧ res62 = .inl ()) ?_ ?_
 ·rintro a w ⟨S, H, rfl⟩
  have hm := ctl_inl hk66
  refine thenN ?_
  refine wp_seq (region_plain ?_)
  refine lq (.int .i64 (-1 : Int)) S (q_assign rfl) fun a S => ?_
  refine lx_nil (thenN ?_)
  refine wp_ret ?_
  obtain rfl := Option.some.inj hm
  exact leave1 S rfl rfl ⟨rfl, H⟩
 ·skip
  refine loop_ghost (fun n a w => ∃ (x46 : Int), Slots a 19 [(0, p0), (1, (.func (.func f1) fs1.toArray cp1.toArray)), (7, (.int .i64 (a0.length : Int))), (8, (.int .i64 x46))] ∧ Heap w0 [] w ∧ iter f64 n (x46) = some res62) _ ⟨(0 : Int), S.sub ⟨rfl, rfl, rfl, rfl, trivial⟩, H, hit63⟩ ?_
  rintro n a w ⟨x46, S, H, hit63⟩
  obtain ⟨m67, o68, rfl, hm, hc69⟩ := iter_step hit63
  rw [hf65] at hm
  refine wp_seq (region_plain ?_)
  refine lq (.bool (decide (x46 < (a0.length : Int)))) S (q_lss rfl rfl) fun a S => ?_
  refine lx_nil (thenN ?_)
  refine wp_seq ?_
  refine cond_b S rfl (fun hc70 => ?_) (fun hc70 => ?_)
  ·have hm := ite_t hc70 hm
   refine wp_skip (thenN ?_)
   refine wp_seq ?_
   refine wp_block ?_
   refine wp_seq (region_plain ?_)
   refine lq (.int .i64 x46) S (q_move rfl) fun a S => ?_
   refine lq (.int .i64 x46) S (q_assign rfl) fun a S => ?_
   refine lx_nil (thenN ?_)
   refine wp_seq (region_plain ?_)
   refine lq (.func (.func f1) fs1.toArray cp1.toArray) S (q_move rfl) fun a S => ?_
   refine lq p0 S (q_move rfl) fun a S => ?_
   refine lq (.int .i64 x46) S (q_move rfl) fun a S => ?_
   obtain ⟨x71, e72, hm⟩ := bind_some hm
   obtain ⟨c73, h74, hat75⟩ := (h0).elem (idx_some e72).2
   obtain rfl := h74
   have hlt := lt_of_idx (idx_some e72).2
   refine lq (ePtr p0 (x46.toNat * 1)) S (q_indexAddr rfl (h0).isSl rfl (idx_some e72).1 hlt Tryz.underlying44 Tryz.sizeOf2) fun a S => ?_
   refine lx_e (.int .i64 x71) S trivial (by decide) rfl trivial (q_load1 rfl Tryz.isAgg2 (by rintro _ rfl; exact ((hat75 0 _ rfl).ext H.ext))) (fun a S => ?_)
   obtain ⟨x80, e81, hm⟩ := bind_some hm
   refine lx_callV (f := f1) (first := fs1) (cap := cp1) (xs := [.tmp 15]) S trivial (by decide) rfl rfl rfl hcf1 ((hf1 H.ext  e81).mono ?_)
   rintro e w78 ⟨rfl, Hc79⟩
   have H := H.call0 Hc79
   refine ⟨_, rfl, trivial, fun a S => ?_⟩
   refine lx_nil (thenN ?_)
   refine cond_b S rfl (fun hc83 => ?_) (fun hc83 => ?_)
   ·have hm := ite_t hc83 hm
    refine wp_seq (region_plain ?_)
    refine lq (.int .i64 x46) S (q_move rfl) fun a S => ?_
    refine lq (.int .i64 x46) S (q_assign rfl) fun a S => ?_
    refine lx_nil (thenN ?_)
    refine wp_ret (inBlock_ret ?_)
    refine then_ret ?_
    refine then_ret ?_
    refine inBlock_ret ?_
    refine then_ret ?_
    refine then_ret ?_
    obtain rfl := it_brk hm hc69
    have hm := ctl_inr hk66
    obtain rfl := Option.some.inj hm
    exact leave1 S rfl rfl ⟨rfl, H⟩
   ·have hm := ite_f hc83 hm
    refine wp_skip ?_
    refine inBlock_norm ?_
    refine thenN ?_
    refine region_plain ?_
    refine lq (.int .i64 (W (x46 + (1 : Int)))) S (q_add rfl rfl) fun a S => ?_
    refine lq (.int .i64 (W (x46 + (1 : Int)))) S (q_move rfl) fun a S => ?_
    refine lx_nil ?_
    exact ⟨m67, Nat.lt_succ_self _, (W (x46 + (1 : Int))), S.sub ⟨rfl, rfl, rfl, rfl, trivial⟩, H, it_cont hm hc69⟩
  ·have hm := ite_f hc70 hm
   refine wp_exit ?_
   refine then_exit ?_
   refine then_exit ?_
   refine inBlock_exit ?_
   obtain rfl := it_brk hm hc69
   exact ⟨S.sub trivial, H, rfl⟩

/-- slices.ContainsFunc[[]int64,int64] -/
def slices_ContainsFunc__int64_int64_m (fuel : Nat) (a0 : (List Int)) (a1 : (Int → Option Bool)) : Option (Bool) :=
  (slices_IndexFunc__int64_int64_m fuel a0 a1).bind fun x33 => some ((decide ((0 : Int) ≤ x33)))
set_option maxRecDepth 20000 in
theorem slices_ContainsFunc__int64_int64_ok {w0 : World} {fuel : Nat} {p0 : Value} {a0 : (List Int)} {a1 : (Int → Option Bool)} {f1 : Nat} {fs1 cp1 : List Value} {r : Bool} (h0 : Rd (rList (rInt .i64)) w0 p0 a0) (hcf1 : ∀ args w, (callFunc f1 args).run Tryz.prog w = .ok (.enter f1 args) w) (hf1 : ∀ {w : World} {x0_ : Int} {y : Bool}, Ext w0 w → a1 x0_ = some y → Calls Tryz.prog f1 (fs1 ++ ([.int .i64 x0_] : List Value) ++ cp1).toArray w fun e w' => e = .returned (.bool y) ∧ Heap w [] w') (hm : slices_ContainsFunc__int64_int64_m fuel a0 a1 = some r) :
  Calls Tryz.prog 83 #[p0, .func (.func f1) fs1.toArray cp1.toArray] w0 fun e w => e = .returned (.bool r) ∧ Heap w0 [] w := by
 unfold slices_ContainsFunc__int64_int64_m at hm
 have H := Heap.start w0
 refine enter (args := [p0, .func (.func f1) fs1.toArray cp1.toArray]) Tryz.func83 rfl 9 rfl (Nat.le_of_ble_eq_true rfl) (fun a S => ?_)
 refine wp_seq (region_plain ?_)
 refine lq (.bool false) S (q_assign rfl) fun a S => ?_
 refine lx_nil (thenN ?_)
 refine wp_seq (region_plain ?_)
 refine lq p0 S (q_move rfl) fun a S => ?_
 refine lq (.func (.func f1) fs1.toArray cp1.toArray) S (q_move rfl) fun a S => ?_
 obtain ⟨x33, e34, hm⟩ := bind_some hm
 refine lx_call (xs := [.tmp 5, .tmp 6]) S trivial (by decide) rfl rfl Tryz.call103 ((slices_IndexFunc__int64_int64_ok (f1 := f1) (fs1 := fs1) (cp1 := cp1) (a1 := a1) (H.arg h0) hcf1 (fun he  hm => hf1 ((H.ext).trans he)  hm) e34).mono ?_)
 rintro e w31 ⟨rfl, Hc32⟩
 have H := H.call0 Hc32
 refine ⟨_, rfl, trivial, fun a S => ?_⟩
 refine lq (.bool (decide ((0 : Int) ≤ x33))) S (q_geq rfl rfl) fun a S => ?_
 refine lq (.bool (decide ((0 : Int) ≤ x33))) S (q_assign rfl) fun a S => ?_
 refine lx_nil (thenN ?_)
 refine wp_ret ?_
 obtain rfl := Option.some.inj hm
 exact leave1 S rfl rfl ⟨rfl, H⟩

/-- impl.within -/
def impl_within_m (_ : Nat) (a0 : Int) (a1 : Int) (a2 : Int) : Option (Bool) :=
  (if (decide (a1 ≤ a0)) = true then some (decide (a0 ≤ a2)) else some false).bind fun t31 => some (t31)
set_option maxRecDepth 20000 in
theorem impl_within_ok {w0 : World} {fuel : Nat} {a0 : Int} {a1 : Int} {a2 : Int} {r : Bool} (hm : impl_within_m fuel a0 a1 a2 = some r) :
  Calls Tryz.prog 68 #[.int .i64 a0, .int .i64 a1, .int .i64 a2] w0 fun e w => e = .returned (.bool r) ∧ Heap w0 [] w := by
 unfold impl_within_m at hm
 have H := Heap.start w0
 refine enter (args := [.int .i64 a0, .int .i64 a1, .int .i64 a2]) Tryz.func68 rfl 15 rfl (Nat.le_of_ble_eq_true rfl) (fun a S => ?_)
 refine wp_seq (region_plain ?_)
 refine lq (.bool false) S (q_assign rfl) fun a S => ?_
 refine lx_nil (thenN ?_)
 refine wp_seq (region_plain ?_)
 refine lq (.int .i64 a0) S (q_move rfl) fun a S => ?_
 refine lq (.int .i64 a1) S (q_move rfl) fun a S => ?_
 refine lq (.bool (decide (a1 ≤ a0))) S (q_geq rfl rfl) fun a S => ?_
 refine lq (.bool (decide (a1 ≤ a0))) S (q_move rfl) fun a S => ?_
 obtain ⟨t31, e32, hm⟩ := bind_some hm
 refine lx_cut 4 (fun a w => Slots a 15 [(14, (.bool t31))] ∧ Heap w0 [] w) ?_ ?_
 ·by_cases hc33 : (decide (a1 ≤ a0)) = true
  ·have hm := ite_t hc33 e32
   refine lx_q (.int .i64 a0) S (want_b rfl rfl hc33) (by decide) (q_move rfl) (fun a S => ?_)
   refine lx_q (.int .i64 a2) S (want_b rfl rfl hc33) (by decide) (q_move rfl) (fun a S => ?_)
   refine lx_q (.bool (decide (a0 ≤ a2))) S (want_b rfl rfl hc33) (by decide) (q_leq rfl rfl) (fun a S => ?_)
   refine lq (.bool (decide (a0 ≤ a2))) S (q_pickT' rfl hc33 rfl) fun a S => ?_
   refine lx_nil ?_
   obtain rfl := Option.some.inj hm
   exact ⟨S.sub ⟨rfl, trivial⟩, H⟩
  ·have hm := ite_f (eq_false_of_ne_true hc33) e32
   have hc33 : (decide (a1 ≤ a0)) = false := eq_false_of_ne_true hc33
   refine lx_skip S rfl rfl (isB_ne hc33) (by decide) (fun a S => ?_)
   refine lx_skip S rfl rfl (isB_ne hc33) (by decide) (fun a S => ?_)
   refine lx_skip S rfl rfl (isB_ne hc33) (by decide) (fun a S => ?_)
   refine lq (.bool false) S (q_pickF' rfl hc33 rfl) fun a S => ?_
   refine lx_nil ?_
   obtain rfl := Option.some.inj hm
   exact ⟨S.sub ⟨rfl, trivial⟩, H⟩
 ·rintro a w ⟨S, H⟩
  refine lq (.bool t31) S (q_assign rfl) fun a S => ?_
  refine lx_nil (thenN ?_)
  refine wp_ret ?_
  obtain rfl := Option.some.inj hm
  exact leave1 S rfl rfl ⟨rfl, H⟩

/-- impl.index -/
def impl_index_m (fuel : Nat) (a0 : Int) (a1 : Int) : Option (Bool) :=
  (impl_within_m fuel a0 (0 : Int) (W (a1 - (1 : Int)))).bind fun x33 => some (x33)
set_option maxRecDepth 20000 in
theorem impl_index_ok {w0 : World} {fuel : Nat} {a0 : Int} {a1 : Int} {r : Bool} (hm : impl_index_m fuel a0 a1 = some r) :
  Calls Tryz.prog 71 #[.int .i64 a0, .int .i64 a1] w0 fun e w => e = .returned (.bool r) ∧ Heap w0 [] w := by
 unfold impl_index_m at hm
 have H := Heap.start w0
 refine enter (args := [.int .i64 a0, .int .i64 a1]) Tryz.func71 rfl 9 rfl (Nat.le_of_ble_eq_true rfl) (fun a S => ?_)
 refine wp_seq (region_plain ?_)
 refine lq (.bool false) S (q_assign rfl) fun a S => ?_
 refine lx_nil (thenN ?_)
 refine wp_seq (region_plain ?_)
 refine lq (.int .i64 a0) S (q_move rfl) fun a S => ?_
 refine lq (.int .i64 a1) S (q_move rfl) fun a S => ?_
 refine lq (.int .i64 (W (a1 - (1 : Int)))) S (q_sub rfl rfl) fun a S => ?_
 obtain ⟨x33, e34, hm⟩ := bind_some hm
 refine lx_call (xs := [.tmp 5, .const (.int .i64 (0)), .tmp 7]) S trivial (by decide) rfl rfl Tryz.call68 ((impl_within_ok    e34).mono ?_)
 rintro e w31 ⟨rfl, Hc32⟩
 have H := H.call0 Hc32
 refine ⟨_, rfl, trivial, fun a S => ?_⟩
 refine lq (.bool x33) S (q_assign rfl) fun a S => ?_
 refine lx_nil (thenN ?_)
 refine wp_ret ?_
 obtain rfl := Option.some.inj hm
 exact leave1 S rfl rfl ⟨rfl, H⟩

/-- impl.joined -/
def impl_joined_m (fuel : Nat) (a0 : (List Int)) (a1 : Str) : Option (Str) :=
  (mks (a0.length : Int) ([] : Str)).bind fun x31 => (iter (fun (s : (List Str) × (Int)) => (match s with | (xs53, x54) => (if (decide (x54 < (a0.length : Int))) = true then (idx a0 x54).bind fun x86 => (impl_Decimal_m fuel x86).bind fun x93 => (idx xs53 x54).bind fun _ => some (.inl ((xs53.set x54.toNat x93), (W (x54 + (1 : Int))))) else some (.inr (.inl (xs53)))) : Option (((List Str) × (Int)) ⊕ (((List Str)) ⊕ (Str))))) fuel (x31, (0 : Int))).bind fun res72 => ctl (β := (List Str)) (ρ := Str) (τ := Str) res72 (fun (xs71) => (strings_Join_m fuel xs71 a1).bind fun x79 => some (x79)) (fun q => some (q))
set_option maxRecDepth 20000 in
theorem impl_joined_ok {w0 : World} {fuel : Nat} {p0 : Value} {a0 : (List Int)} {a1 : Str} {r : Str} (hG : Glob Tryz.prog w0) (h0 : Rd (rList (rInt .i64)) w0 p0 a0) (hm : impl_joined_m fuel a0 a1 = some r) :
  Calls Tryz.prog 38 #[p0, sv a1] w0 fun e w => e = .returned (sv r) ∧ Heap w0 [] w := by
 unfold impl_joined_m at hm
 have H := Heap.start w0
 refine enter (args := [p0, sv a1]) Tryz.func38 rfl 27 rfl (Nat.le_of_ble_eq_true rfl) (fun a S => ?_)
 refine wp_seq (region_plain ?_)
 refine lq (sv ([] : Str)) S (q_assign rfl) fun a S => ?_
 refine lx_nil (thenN ?_)
 refine wp_seq (region_plain ?_)
 refine lq p0 S (q_move rfl) fun a S => ?_
 refine lq (.int .i64 (a0.length : Int)) S (q_lenSl rfl (h0).isSl rfl Tryz.underlying44) fun a S => ?_
 obtain ⟨x31, e32, hm⟩ := bind_some hm
 obtain ⟨m33, hn, hn2, rfl⟩ := mks_some e32
 refine lx_make (r := rStr) (z0 := ([] : Str)) (n := m33) S trivial (by decide) rfl H (by rw [← hn]; rfl) (by rw [← hn]; rfl) Tryz.underlying28 (Tryz.ti9) rfl rfl (Nat.le_of_ble_eq_true rfl) (fun w => ⟨rfl, rfl⟩) hn2 (by decide) (fun v34 w35 H => ⟨trivial, fun a S => ?_⟩)
 refine lq v34 S (q_assign rfl) fun a S => ?_
 refine lx_nil (thenN ?_)
 refine wp_seq (wp_seq (region_plain ?_))
 refine lq p0 S (q_move rfl) fun a S => ?_
 refine lq (.int .i64 (a0.length : Int)) S (q_lenSl rfl (h0).isSl rfl Tryz.underlying44) fun a S => ?_
 refine lq (.int .i64 (0 : Int)) S (q_move rfl) fun a S => ?_
 refine lx_nil (thenN ?_)
 obtain ⟨res72, hit73, hk76⟩ := bind_some hm
 obtain ⟨f74, hf75, hit73⟩ := iter_name hit73
 refine block_loop (fun a w => ∃ (xs71 : List Str), Slots a 27 [(1, (sv a1)), (5, v34)] ∧ Heap w0 [oA (rList rStr) v34 xs71] w ∧ res72 = .inl (xs71)) ?_ ?_
 ·rintro a w ⟨xs71, S, H, rfl⟩
  have hm := ctl_inl hk76
  refine thenN ?_
  refine wp_seq (region_plain ?_)
  refine lq v34 S (q_move rfl) fun a S => ?_
  refine lq (sv a1) S (q_move rfl) fun a S => ?_
  obtain ⟨x79, e80, hm⟩ := bind_some hm
  refine lx_call (xs := [.tmp 24, .tmp 25]) S trivial (by decide) rfl rfl Tryz.call62 ((strings_Join_ok (H.rdAt 0 rfl)  e80).mono ?_)
  rintro e w77 ⟨rfl, Hc78⟩
  have H := H.call0 Hc78
  refine ⟨_, rfl, trivial, fun a S => ?_⟩
  refine lq (sv x79) S (q_assign rfl) fun a S => ?_
  refine lx_nil (thenN ?_)
  refine wp_ret ?_
  obtain rfl := Option.some.inj hm
  have H : Heap w0 [] w77 := H.sel [] (by decide)
  exact leave1 S rfl rfl ⟨rfl, H⟩
 ·skip
  refine loop_ghost (fun n a w => ∃ (xs53 : List Str) (x54 : Int), Slots a 27 [(1, (sv a1)), (5, v34), (11, p0), (12, (.int .i64 (a0.length : Int))), (13, (.int .i64 x54))] ∧ Heap w0 [oA (rList rStr) v34 xs53] w ∧ iter f74 n (xs53, x54) = some res72) _ ⟨(List.replicate m33 ([] : Str)), (0 : Int), S.sub ⟨rfl, rfl, rfl, rfl, rfl, trivial⟩, H, hit73⟩ ?_
  rintro n a w ⟨xs53, x54, S, H, hit73⟩
  obtain ⟨m82, o83, rfl, hm, hc84⟩ := iter_step hit73
  rw [hf75] at hm
  refine wp_seq (region_plain ?_)
  refine lq (.bool (decide (x54 < (a0.length : Int)))) S (q_lss rfl rfl) fun a S => ?_
  refine lx_nil (thenN ?_)
  refine wp_seq ?_
  refine cond_b S rfl (fun hc85 => ?_) (fun hc85 => ?_)
  ·have hm := ite_t hc85 hm
   refine wp_skip (thenN ?_)
   refine wp_seq ?_
   refine wp_block ?_
   refine wp_seq (region_plain ?_)
   refine lq (.int .i64 x54) S (q_move rfl) fun a S => ?_
   obtain ⟨x86, e87, hm⟩ := bind_some hm
   obtain ⟨c88, h89, hat90⟩ := (h0).elem (idx_some e87).2
   obtain rfl := h89
   have hlt := lt_of_idx (idx_some e87).2
   refine lq (ePtr p0 (x54.toNat * 1)) S (q_indexAddr rfl (h0).isSl rfl (idx_some e87).1 hlt Tryz.underlying44 Tryz.sizeOf2) fun a S => ?_
   refine lx_e (.int .i64 x86) S trivial (by decide) rfl trivial (q_load1 rfl Tryz.isAgg2 (by rintro _ rfl; exact ((hat90 0 _ rfl).ext H.ext))) (fun a S => ?_)
   refine lq (.int .i64 x54) S (q_assign rfl) fun a S => ?_
   refine lq (.int .i64 x86) S (q_assign rfl) fun a S => ?_
   refine lx_nil (thenN ?_)
   refine region_plain ?_
   refine lq v34 S (q_move rfl) fun a S => ?_
   refine lq (.int .i64 x54) S (q_move rfl) fun a S => ?_
   refine lq (.int .i64 x86) S (q_move rfl) fun a S => ?_
   obtain ⟨x93, e94, hm⟩ := bind_some hm
   refine lx_call (xs := [.tmp 20]) S trivial (by decide) rfl rfl Tryz.call39 ((impl_Decimal_ok (hG.ext H.ext)  e94).mono ?_)
   rintro e w91 ⟨rfl, Hc92⟩
   have H := H.call0 Hc92
   refine ⟨_, rfl, trivial, fun a S => ?_⟩
   obtain ⟨x96, e97, hm⟩ := bind_some hm
   have hlt := lt_of_idx (idx_some e97).2
   refine lq (ePtr v34 (x54.toNat * 1)) S (q_indexAddr rfl (H.isSl 0 rfl) rfl (idx_some e97).1 hlt Tryz.underlying28 Tryz.sizeOf9) fun a S => ?_
   refine lx_storeElem (r := rStr) (us := [(sv x93)]) (off := 0) (e' := x93) S trivial rfl H.putE (ev_zero rfl) rfl (idx_some e97).2 rfl Tryz.sizeOf9 (Nat.le_of_ble_eq_true rfl) (List.forall_mem_cons.2 ⟨rfl, (fun _ h => nomatch h)⟩) (Upd.full rfl (fun w G hG => by cases (show G = [] from hG); exact ⟨rfl, rfl⟩)) (fun w98 H => ⟨trivial, fun a S => ?_⟩)
   refine lx_nil ?_
   refine inBlock_norm ?_
   refine thenN ?_
   refine region_plain ?_
   refine lq (.int .i64 (W (x54 + (1 : Int)))) S (q_add rfl rfl) fun a S => ?_
   refine lq (.int .i64 (W (x54 + (1 : Int)))) S (q_move rfl) fun a S => ?_
   refine lx_nil ?_
   exact ⟨m82, Nat.lt_succ_self _, (xs53.set x54.toNat x93), (W (x54 + (1 : Int))), S.sub ⟨rfl, rfl, rfl, rfl, rfl, trivial⟩, H, it_cont hm hc84⟩
  ·have hm := ite_f hc85 hm
   refine wp_exit ?_
   refine then_exit ?_
   refine then_exit ?_
   refine inBlock_exit ?_
   obtain rfl := it_brk hm hc84
   exact ⟨xs53, S.sub ⟨rfl, rfl, trivial⟩, H, rfl⟩
end Go.Proofs.YtepcckhcocjgaaaGreatDoor
