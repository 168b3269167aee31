/- The model of a statement and its walk (printed by a program of this repo). -/
import Derived.Test.YtepcckhcocjgaaaDoorF0
import Derived.Test.YtepcckhcocjgaaaDoorF1
import Derived.Test.YtepcckhcocjgaaaDoorF2
import Derived.Test.YtepcckhcocjgaaaDoorFS
import Derived.Test.YtepcckhcocjgaaaDoorGxT
import Derived.Test.YtepcckhcocjgaaaDoorGxY
namespace Go.Proofs.YtepcckhcocjgaaaDoor
open Go.RowKit Go.Gx

/-- spec.l01Split -/
def spec_l01Split_m (fuel : Nat) (a0 : Str) (a1 : Int) : Option ((List Str)) :=
  (iter (fun (s : (List Str) × (Int) × (Int)) => (match s with | (xs60, x62, x63) => (if (decide (x63 < (a0.length : Int))) = true then join (κ := List Str → Int → Option (((List Str) × (Int) × (Int)) ⊕ (((List Str) × Int) ⊕ ((List Str))))) (fun (xs113 : List Str) (x115 : Int) => some (.inl (xs113, x115, (W (x63 + (1 : Int)))))) (fun K116 => (idx a0 x63).bind fun b118 => (if ((b118.toNat : Int) == a1) = true then (sub a0 x62 x63).bind fun xs121 => (app xs60 [xs121]).bind fun x126 => (K116 x126 (W (x63 + (1 : Int)))) else (K116 xs60 x62))) else some (.inr (.inl (xs60, x62)))) : Option (((List Str) × (Int) × (Int)) ⊕ (((List Str) × Int) ⊕ ((List Str)))))) fuel (([] : List Str), (0 : Int), (0 : Int))).bind fun res93 => ctl (β := (List Str) × Int) (ρ := (List Str)) (τ := (List Str)) res93 (fun (xs90, x92) => (sub a0 x92 (a0.length : Int)).bind fun xs98 => (app xs90 [xs98]).bind fun x103 => some (x103)) (fun q => some (q))
set_option maxRecDepth 20000 in
theorem spec_l01Split_ok {w0 : World} {fuel : Nat} {a0 : Str} {a1 : Int} {r : (List Str)} (hm : spec_l01Split_m fuel a0 a1 = some r) :
  Calls Tryd.prog 39 #[sv a0, .int .u8 a1] w0 fun e w => ∃ (v0 : Value), e = .returned (v0) ∧ Heap w0 [oA (rList rStr) v0 r] w := by
 unfold spec_l01Split_m at hm
 have H := Heap.start w0
 refine enter (args := [sv a0, .int .u8 a1]) Tryd.func39 rfl 35 rfl (Nat.le_of_ble_eq_true rfl) (fun a S => ?_)
 refine wp_seq (region_plain ?_)
 refine lq (.slice none 0 0) S (q_assign rfl) fun a S => ?_
 refine lx_nil (thenN ?_)
 refine wp_seq (region_plain ?_)
 refine lx_buildSlice0 (r := rStr) S trivial (by decide) rfl H Tryd.underlying47 Tryd.sizeOf9 (fun v31 w32 H => ⟨trivial, fun a S => ?_⟩)
 refine lq v31 S (q_assign rfl) fun a S => ?_
 refine lx_nil (thenN ?_)
 refine wp_seq (region_plain ?_)
 refine lq (.int .i64 (0 : Int)) S (q_assign rfl) fun a S => ?_
 refine lx_nil (thenN ?_)
 refine wp_seq (wp_seq (region_plain ?_))
 refine lq (.int .i64 (0 : Int)) S (q_assign rfl) fun a S => ?_
 refine lx_nil (thenN ?_)
 obtain ⟨res93, hit94, hk97⟩ := bind_some hm
 obtain ⟨f95, hf96, hit94⟩ := iter_name hit94
 refine block_loop (fun a w => ∃ (xs90 : List Str) (x92 : Int) (v89 : Value), Slots a 35 [(0, (sv a0)), (5, v89), (6, (.int .i64 x92))] ∧ Heap w0 [oA (rList rStr) v89 xs90] w ∧ res93 = .inl (xs90, x92)) ?_ ?_
 ·rintro a w ⟨xs90, x92, v89, S, H, rfl⟩
  have hm := ctl_inl hk97
  refine thenN ?_
  refine wp_seq (region_plain ?_)
  refine lq v89 S (q_move rfl) fun a S => ?_
  refine lq (sv a0) S (q_move rfl) fun a S => ?_
  refine lq (.int .i64 x92) S (q_move rfl) fun a S => ?_
  obtain ⟨xs98, e99, hm⟩ := bind_some hm
  obtain ⟨hsb, hse⟩ := sub_some e99
  replace hse := hse.symm
  subst hse
  refine lq (sv ((a0.take ((a0.length : Int)).toNat).drop (x92).toNat)) S (q_ssub (lo := (some (.tmp 31))) (hi := none) (l := x92) (h := (a0.length : Int)) rfl Tryd.underlying9 rfl rfl hsb.1 hsb.2.1 hsb.2.2) fun a S => ?_
  refine lx_buildSlice (r := rStr) (xs := [((a0.take ((a0.length : Int)).toNat).drop (x92).toNat)]) (ps := [(0, [(sv ((a0.take ((a0.length : Int)).toNat).drop (x92).toNat))])]) (cs := [(sv ((a0.take ((a0.length : Int)).toNat).drop (x92).toNat))]) (parts := [(0, .tmp 32)]) S trivial (by decide) rfl (H.put0 (A := eA) rfl) rfl Tryd.underlying47 Tryd.sizeOf9 Tryd.zeroValue9 (by decide) ⟨rfl, rfl, Nat.le_of_ble_eq_true rfl, trivial⟩ (by intro zs hz; exact fill_dense hz ⟨rfl, trivial⟩ rfl rfl) rfl (by decide) (fun w F hA => by cases (show F = [] from hA); exact ⟨_, _, [(sv ((a0.take ((a0.length : Int)).toNat).drop (x92).toNat))], _, rfl, rfl, ⟨rfl, rfl⟩, ⟨rfl, rfl⟩⟩) (fun v100 w101 H => ⟨trivial, fun a S => ?_⟩)
  obtain ⟨x103, e104, hm⟩ := bind_some hm
  obtain ⟨hle, hap⟩ := app_some e104
  replace hap := hap.symm
  subst hap
  have H : Heap w0 [oA (rList rStr) v100 [((a0.take ((a0.length : Int)).toNat).drop (x92).toNat)], oA (rList rStr) v89 xs90] w101 := H.front 0 rfl
  have H : Heap w0 [oA (rList rStr) v89 xs90, oA (rList rStr) v100 [((a0.take ((a0.length : Int)).toNat).drop (x92).toNat)]] w101 := H.front 1 rfl
  refine lx_appendOwn (r := rStr) S trivial (by decide) rfl H rfl rfl Tryd.underlying47 Tryd.ti9 rfl rfl rfl (Nat.le_of_ble_eq_true rfl) (by decide) hle (fun v105 w106 H => ⟨trivial, fun a S => ?_⟩)
  refine lq v105 S (q_assign rfl) fun a S => ?_
  refine lx_nil (thenN ?_)
  refine wp_ret ?_
  obtain rfl := Option.some.inj hm
  exact leave1 S rfl rfl ⟨v105, rfl, H⟩
 ·skip
  refine loop_ghost (fun n a w => ∃ (xs60 : List Str) (x62 : Int) (x63 : Int) (v59 : Value), Slots a 35 [(0, (sv a0)), (1, (.int .u8 a1)), (5, v59), (6, (.int .i64 x62)), (7, (.int .i64 x63))] ∧ Heap w0 [oA (rList rStr) v59 xs60] w ∧ iter f95 n (xs60, x62, x63) = some res93) _ ⟨([] : List Str), (0 : Int), (0 : Int), v31, S.sub ⟨rfl, rfl, rfl, rfl, rfl, trivial⟩, H, hit94⟩ ?_
  rintro n a w ⟨xs60, x62, x63, v59, S, H, hit94⟩
  obtain ⟨m108, o109, rfl, hm, hc110⟩ := iter_step hit94
  rw [hf96] at hm
  refine wp_seq (wp_seq (region_plain ?_))
  refine lq (.int .i64 x63) S (q_move rfl) fun a S => ?_
  refine lq (sv a0) S (q_move rfl) fun a S => ?_
  refine lq (.int .i64 (a0.length : Int)) S (q_lenStr rfl rfl Tryd.underlying9) fun a S => ?_
  refine lq (.bool (decide (x63 < (a0.length : Int)))) S (q_lss rfl rfl) fun a S => ?_
  refine lx_nil (thenN ?_)
  refine cond_b S rfl (fun hc111 => ?_) (fun hc111 => ?_)
  ·have hm := ite_t hc111 hm
   refine wp_skip (thenN ?_)
   obtain ⟨K116, hK117, hm⟩ := join_elim hm
   refine seq_cut (fun a w => ∃ (xs113 : List Str) (x115 : Int) (v112 : Value), Slots a 35 [(0, (sv a0)), (1, (.int .u8 a1)), (5, v112), (6, (.int .i64 x115)), (7, (.int .i64 x63))] ∧ Heap w0 [oA (rList rStr) v112 xs113] w ∧ K116 xs113 x115 = some o109) ?_ ?_
   ·rintro a w ⟨xs113, x115, v112, S, H, hm⟩
    subst hK117
    refine region_plain ?_
    refine lq (.int .i64 x63) S (q_move rfl) fun a S => ?_
    refine lq (.int .i64 (W (x63 + (1 : Int)))) S (q_add rfl rfl) fun a S => ?_
    refine lq (.int .i64 (W (x63 + (1 : Int)))) S (q_assign rfl) fun a S => ?_
    refine lx_nil ?_
    exact ⟨m108, Nat.lt_succ_self _, xs113, x115, (W (x63 + (1 : Int))), v112, S.sub ⟨rfl, rfl, rfl, rfl, rfl, trivial⟩, H, it_cont hm hc110⟩
   ·skip
    refine wp_block ?_
    refine wp_seq (region_plain ?_)
    refine lq (sv a0) S (q_move rfl) fun a S => ?_
    refine lq (.int .i64 x63) S (q_move rfl) fun a S => ?_
    obtain ⟨b118, e119, hm⟩ := bind_some hm
    refine lq (.int .u8 (b118.toNat : Int)) S (q_sidx rfl rfl Tryd.underlying9 e119) fun a S => ?_
    refine lq (.int .u8 a1) S (q_move rfl) fun a S => ?_
    refine lq (.bool ((b118.toNat : Int) == a1)) S (q_eql rfl rfl) fun a S => ?_
    refine lx_nil (thenN ?_)
    refine cond_b S rfl (fun hc120 => ?_) (fun hc120 => ?_)
    ·have hm := ite_t hc120 hm
     refine wp_seq (region_plain ?_)
     refine lq v59 S (q_move rfl) fun a S => ?_
     refine lq (sv a0) S (q_move rfl) fun a S => ?_
     refine lq (.int .i64 x62) S (q_move rfl) fun a S => ?_
     refine lq (.int .i64 x63) S (q_move rfl) fun a S => ?_
     obtain ⟨xs121, e122, hm⟩ := bind_some hm
     obtain ⟨hsb, hse⟩ := sub_some e122
     replace hse := hse.symm
     subst hse
     refine lq (sv ((a0.take (x63).toNat).drop (x62).toNat)) S (q_ssub (lo := (some (.tmp 22))) (hi := (some (.tmp 23))) (l := x62) (h := x63) rfl Tryd.underlying9 rfl rfl hsb.1 hsb.2.1 hsb.2.2) fun a S => ?_
     refine lx_buildSlice (r := rStr) (xs := [((a0.take (x63).toNat).drop (x62).toNat)]) (ps := [(0, [(sv ((a0.take (x63).toNat).drop (x62).toNat))])]) (cs := [(sv ((a0.take (x63).toNat).drop (x62).toNat))]) (parts := [(0, .tmp 24)]) S trivial (by decide) rfl (H.put0 (A := eA) rfl) rfl Tryd.underlying47 Tryd.sizeOf9 Tryd.zeroValue9 (by decide) ⟨rfl, rfl, Nat.le_of_ble_eq_true rfl, trivial⟩ (by intro zs hz; exact fill_dense hz ⟨rfl, trivial⟩ rfl rfl) rfl (by decide) (fun w F hA => by cases (show F = [] from hA); exact ⟨_, _, [(sv ((a0.take (x63).toNat).drop (x62).toNat))], _, rfl, rfl, ⟨rfl, rfl⟩, ⟨rfl, rfl⟩⟩) (fun v123 w124 H => ⟨trivial, fun a S => ?_⟩)
     obtain ⟨x126, e127, hm⟩ := bind_some hm
     obtain ⟨hle, hap⟩ := app_some e127
     replace hap := hap.symm
     subst hap
     have H : Heap w0 [oA (rList rStr) v123 [((a0.take (x63).toNat).drop (x62).toNat)], oA (rList rStr) v59 xs60] w124 := H.front 0 rfl
     have H : Heap w0 [oA (rList rStr) v59 xs60, oA (rList rStr) v123 [((a0.take (x63).toNat).drop (x62).toNat)]] w124 := H.front 1 rfl
     refine lx_appendOwn (r := rStr) S trivial (by decide) rfl H rfl rfl Tryd.underlying47 Tryd.ti9 rfl rfl rfl (Nat.le_of_ble_eq_true rfl) (by decide) hle (fun v128 w129 H => ⟨trivial, fun a S => ?_⟩)
     refine lq v128 S (q_assign rfl) fun a S => ?_
     refine lx_nil (thenN ?_)
     refine region_plain ?_
     refine lq (.int .i64 x63) S (q_move rfl) fun a S => ?_
     refine lq (.int .i64 (W (x63 + (1 : Int)))) S (q_add rfl rfl) fun a S => ?_
     refine lq (.int .i64 (W (x63 + (1 : Int)))) S (q_assign rfl) fun a S => ?_
     refine lx_nil ?_
     refine inBlock_norm ?_
     exact ⟨(xs60 ++ [((a0.take (x63).toNat).drop (x62).toNat)]), (W (x63 + (1 : Int))), v128, S.sub ⟨rfl, rfl, rfl, rfl, rfl, trivial⟩, H, hm⟩
    ·have hm := ite_f hc120 hm
     refine wp_skip ?_
     refine inBlock_norm ?_
     exact ⟨xs60, x62, v59, S.sub ⟨rfl, rfl, rfl, rfl, rfl, trivial⟩, H, hm⟩
  ·have hm := ite_f hc111 hm
   refine wp_exit ?_
   refine then_exit ?_
   refine then_exit ?_
   refine inBlock_exit ?_
   obtain rfl := it_brk hm hc110
   exact ⟨xs60, x62, v59, S.sub ⟨rfl, rfl, rfl, trivial⟩, H, rfl⟩

/-- spec.l01Digit -/
def spec_l01Digit_m (_ : Nat) (a0 : Int) : Option (Bool) :=
  (if (decide ((48 : Int) ≤ a0)) = true then some (decide (a0 ≤ (57 : Int))) else some false).bind fun t31 => some (t31)
set_option maxRecDepth 20000 in
theorem spec_l01Digit_ok {w0 : World} {fuel : Nat} {a0 : Int} {r : Bool} (hm : spec_l01Digit_m fuel a0 = some r) :
  Calls Tryd.prog 75 #[.int .u8 a0] w0 fun e w => e = .returned (.bool r) ∧ Heap w0 [] w := by
 unfold spec_l01Digit_m at hm
 have H := Heap.start w0
 refine enter (args := [.int .u8 a0]) Tryd.func75 rfl 9 rfl (Nat.le_of_ble_eq_true rfl) (fun a S => ?_)
 refine wp_seq (region_plain ?_)
 refine lq (.bool false) S (q_assign rfl) fun a S => ?_
 refine lx_nil (thenN ?_)
 refine wp_seq (region_plain ?_)
 refine lq (.int .u8 a0) S (q_move rfl) fun a S => ?_
 refine lq (.bool (decide ((48 : Int) ≤ a0))) S (q_geq rfl rfl) fun a S => ?_
 refine lq (.bool (decide ((48 : Int) ≤ a0))) S (q_move rfl) fun a S => ?_
 obtain ⟨t31, e32, hm⟩ := bind_some hm
 refine lx_cut 3 (fun a w => Slots a 9 [(8, (.bool t31))] ∧ Heap w0 [] w) ?_ ?_
 ·by_cases hc33 : (decide ((48 : Int) ≤ a0)) = true
  ·have hm := ite_t hc33 e32
   refine lx_q (.int .u8 a0) S (want_b rfl rfl hc33) (by decide) (q_move rfl) (fun a S => ?_)
   refine lx_q (.bool (decide (a0 ≤ (57 : Int)))) S (want_b rfl rfl hc33) (by decide) (q_leq rfl rfl) (fun a S => ?_)
   refine lq (.bool (decide (a0 ≤ (57 : Int)))) S (q_pickT' rfl hc33 rfl) fun a S => ?_
   refine lx_nil ?_
   obtain rfl := Option.some.inj hm
   exact ⟨S.sub ⟨rfl, trivial⟩, H⟩
  ·have hm := ite_f (eq_false_of_ne_true hc33) e32
   have hc33 : (decide ((48 : Int) ≤ a0)) = false := eq_false_of_ne_true hc33
   refine lx_skip S rfl rfl (isB_ne hc33) (by decide) (fun a S => ?_)
   refine lx_skip S rfl rfl (isB_ne hc33) (by decide) (fun a S => ?_)
   refine lq (.bool false) S (q_pickF' rfl hc33 rfl) fun a S => ?_
   refine lx_nil ?_
   obtain rfl := Option.some.inj hm
   exact ⟨S.sub ⟨rfl, trivial⟩, H⟩
 ·rintro a w ⟨S, H⟩
  refine lq (.bool t31) S (q_assign rfl) fun a S => ?_
  refine lx_nil (thenN ?_)
  refine wp_ret ?_
  obtain rfl := Option.some.inj hm
  exact leave1 S rfl rfl ⟨rfl, H⟩

/-- spec.l01Number -/
def spec_l01Number_m (fuel : Nat) (a0 : Str) : Option ((Int × Bool)) :=
  join (κ := Int → Option (Int × Bool)) (fun (x31 : Int) => (if ((a0.length : Int) == x31) = true then some true else some (decide ((18 : Int) < (W ((a0.length : Int) - x31))))).bind fun t34 => (if t34 = true then some true else (idx a0 x31).bind fun b40 => (if ((b40.toNat : Int) == (48 : Int)) = true then some (decide ((1 : Int) < (a0.length : Int))) else some false).bind fun t42 => some t42).bind fun t37 => (if t37 = true then some (((0 : Int), false)) else (iter (fun (s : (Int) × (Int)) => (match s with | (x59, x60) => (if (decide (x60 < (a0.length : Int))) = true then (idx a0 x60).bind fun b88 => (spec_l01Digit_m fuel (b88.toNat : Int)).bind fun x92 => (if (!x92) = true then some (.inr (.inr ((0 : Int), false))) else (idx a0 x60).bind fun b96 => some (.inl ((W ((W ((10 : Int) * x59)) + (W (IntKind.u8.wrap ((b96.toNat : Int) - (48 : Int)))))), (W (x60 + (1 : Int)))))) else some (.inr (.inl (x59)))) : Option (((Int) × (Int)) ⊕ ((Int) ⊕ ((Int × Bool)))))) fuel ((0 : Int), x31)).bind fun res75 => ctl (β := Int) (ρ := (Int × Bool)) (τ := (Int × Bool)) res75 (fun (x74) => join (κ := Int → Option (Int × Bool)) (fun (x80 : Int) => some ((x80, true))) (fun K81 => (if (x31 == (1 : Int)) = true then (K81 (W (0 - x74))) else (K81 x74)))) (fun q => some (q)))) (fun K32 => (if (decide ((0 : Int) < (a0.length : Int))) = true then (idx a0 (0 : Int)).bind fun b101 => some ((b101.toNat : Int) == (45 : Int)) else some false).bind fun t98 => (if t98 = true then (K32 (1 : Int)) else (K32 (0 : Int))))
set_option maxRecDepth 20000 in
theorem spec_l01Number_ok {w0 : World} {fuel : Nat} {a0 : Str} {r : (Int × Bool)} (hm : spec_l01Number_m fuel a0 = some r) :
  Calls Tryd.prog 62 #[sv a0] w0 fun e w => e = .returned (.tuple #[.int .i64 r.1, .bool r.2]) ∧ Heap w0 [] w := by
 unfold spec_l01Number_m at hm
 have H := Heap.start w0
 refine enter (args := [sv a0]) Tryd.func62 rfl 62 rfl (Nat.le_of_ble_eq_true rfl) (fun a S => ?_)
 refine wp_seq (region_plain ?_)
 refine lq (.int .i64 (0 : Int)) S (q_assign rfl) fun a S => ?_
 refine lq (.bool false) S (q_assign rfl) fun a S => ?_
 refine lx_nil (thenN ?_)
 refine wp_seq (region_plain ?_)
 refine lq (.int .i64 (0 : Int)) S (q_assign rfl) fun a S => ?_
 refine lx_nil (thenN ?_)
 obtain ⟨K32, hK33, hm⟩ := join_elim hm
 refine seq_cut (fun a w => ∃ (x31 : Int), Slots a 62 [(0, (sv a0)), (4, (.int .i64 x31))] ∧ Heap w0 [] w ∧ K32 x31 = some r) ?_ ?_
 ·rintro a w ⟨x31, S, H, hm⟩
  subst hK33
  refine wp_seq (wp_seq (region_plain ?_))
  refine lq (sv a0) S (q_move rfl) fun a S => ?_
  refine lq (.int .i64 (a0.length : Int)) S (q_lenStr rfl rfl Tryd.underlying9) fun a S => ?_
  refine lq (.int .i64 x31) S (q_move rfl) fun a S => ?_
  refine lq (.bool ((a0.length : Int) == x31)) S (q_eql rfl rfl) fun a S => ?_
  refine lq (.bool ((a0.length : Int) == x31)) S (q_move rfl) fun a S => ?_
  obtain ⟨t34, e35, hm⟩ := bind_some hm
  refine lx_cut 6 (fun a w => Slots a 62 [(0, (sv a0)), (4, (.int .i64 x31)), (25, (.bool t34))] ∧ Heap w0 [] w) ?_ ?_
  ·by_cases hc36 : ((a0.length : Int) == x31) = true
   ·have hm := ite_t hc36 e35
    refine lx_skip S rfl rfl (isB_ne hc36) (by decide) (fun a S => ?_)
    refine lx_skip S rfl rfl (isB_ne hc36) (by decide) (fun a S => ?_)
    refine lx_skip S rfl rfl (isB_ne hc36) (by decide) (fun a S => ?_)
    refine lx_skip S rfl rfl (isB_ne hc36) (by decide) (fun a S => ?_)
    refine lx_skip S rfl rfl (isB_ne hc36) (by decide) (fun a S => ?_)
    refine lq (.bool true) S (q_pickT' rfl hc36 rfl) fun a S => ?_
    refine lx_nil ?_
    obtain rfl := Option.some.inj hm
    exact ⟨S.sub ⟨rfl, rfl, rfl, trivial⟩, H⟩
   ·have hm := ite_f (eq_false_of_ne_true hc36) e35
    have hc36 : ((a0.length : Int) == x31) = false := eq_false_of_ne_true hc36
    refine lx_q (sv a0) S (want_b rfl rfl hc36) (by decide) (q_move rfl) (fun a S => ?_)
    refine lx_q (.int .i64 (a0.length : Int)) S (want_b rfl rfl hc36) (by decide) (q_lenStr rfl rfl Tryd.underlying9) (fun a S => ?_)
    refine lx_q (.int .i64 x31) S (want_b rfl rfl hc36) (by decide) (q_move rfl) (fun a S => ?_)
    refine lx_q (.int .i64 (W ((a0.length : Int) - x31))) S (want_b rfl rfl hc36) (by decide) (q_sub rfl rfl) (fun a S => ?_)
    refine lx_q (.bool (decide ((18 : Int) < (W ((a0.length : Int) - x31))))) S (want_b rfl rfl hc36) (by decide) (q_gtr rfl rfl) (fun a S => ?_)
    refine lq (.bool (decide ((18 : Int) < (W ((a0.length : Int) - x31))))) S (q_pickF' rfl hc36 rfl) fun a S => ?_
    refine lx_nil ?_
    obtain rfl := Option.some.inj hm
    exact ⟨S.sub ⟨rfl, rfl, rfl, trivial⟩, H⟩
  ·rintro a w ⟨S, H⟩
   refine lq (.bool t34) S (q_move rfl) fun a S => ?_
   obtain ⟨t37, e38, hm⟩ := bind_some hm
   refine lx_cut 10 (fun a w => Slots a 62 [(0, (sv a0)), (4, (.int .i64 x31)), (36, (.bool t37))] ∧ Heap w0 [] w) ?_ ?_
   ·by_cases hc39 : t34 = true
    ·have hm := ite_t hc39 e38
     refine lx_skip S rfl rfl (isB_ne hc39) (by decide) (fun a S => ?_)
     refine lx_skip S rfl rfl (isB_ne hc39) (by decide) (fun a S => ?_)
     refine lx_skip S rfl rfl (isB_ne hc39) (by decide) (fun a S => ?_)
     refine lx_skip S rfl rfl (isB_ne hc39) (by decide) (fun a S => ?_)
     refine lx_skip S rfl rfl (isB_ne hc39) (by decide) (fun a S => ?_)
     refine lx_skip S rfl rfl rfl (by decide) (fun a S => ?_)
     refine lx_skip S rfl rfl rfl (by decide) (fun a S => ?_)
     refine lx_skip S rfl rfl rfl (by decide) (fun a S => ?_)
     refine lx_skip S rfl rfl (isB_ne hc39) (by decide) (fun a S => ?_)
     refine lq (.bool true) S (q_pickT' rfl hc39 rfl) fun a S => ?_
     refine lx_nil ?_
     obtain rfl := Option.some.inj hm
     exact ⟨S.sub ⟨rfl, rfl, rfl, trivial⟩, H⟩
    ·have hm := ite_f (eq_false_of_ne_true hc39) e38
     have hc39 : t34 = false := eq_false_of_ne_true hc39
     refine lx_q (sv a0) S (want_b rfl rfl hc39) (by decide) (q_move rfl) (fun a S => ?_)
     refine lx_q (.int .i64 x31) S (want_b rfl rfl hc39) (by decide) (q_move rfl) (fun a S => ?_)
     obtain ⟨b40, e41, hm⟩ := bind_some hm
     refine lx_q (.int .u8 (b40.toNat : Int)) S (want_b rfl rfl hc39) (by decide) (q_sidx rfl rfl Tryd.underlying9 e41) (fun a S => ?_)
     refine lx_q (.bool ((b40.toNat : Int) == (48 : Int))) S (want_b rfl rfl hc39) (by decide) (q_eql rfl rfl) (fun a S => ?_)
     refine lx_q (.bool ((b40.toNat : Int) == (48 : Int))) S (want_b rfl rfl hc39) (by decide) (q_move rfl) (fun a S => ?_)
     obtain ⟨t42, e43, hm⟩ := bind_some hm
     refine lx_cut 4 (fun a w => Slots a 62 [(0, (sv a0)), (4, (.int .i64 x31)), (26, (.bool t34)), (35, (.bool t42))] ∧ Heap w0 [] w) ?_ ?_
     ·by_cases hc44 : ((b40.toNat : Int) == (48 : Int)) = true
      ·have hm := ite_t hc44 e43
       refine lx_q (sv a0) S (want_b rfl rfl hc44) (by decide) (q_move rfl) (fun a S => ?_)
       refine lx_q (.int .i64 (a0.length : Int)) S (want_b rfl rfl hc44) (by decide) (q_lenStr rfl rfl Tryd.underlying9) (fun a S => ?_)
       refine lx_q (.bool (decide ((1 : Int) < (a0.length : Int)))) S (want_b rfl rfl hc44) (by decide) (q_gtr rfl rfl) (fun a S => ?_)
       refine lx_q (.bool (decide ((1 : Int) < (a0.length : Int)))) S (want_b rfl rfl hc39) (by decide) (q_pickT' rfl hc44 rfl) (fun a S => ?_)
       refine lx_nil ?_
       obtain rfl := Option.some.inj hm
       exact ⟨S.sub ⟨rfl, rfl, rfl, rfl, trivial⟩, H⟩
      ·have hm := ite_f (eq_false_of_ne_true hc44) e43
       have hc44 : ((b40.toNat : Int) == (48 : Int)) = false := eq_false_of_ne_true hc44
       refine lx_skip S rfl rfl (isB_ne hc44) (by decide) (fun a S => ?_)
       refine lx_skip S rfl rfl (isB_ne hc44) (by decide) (fun a S => ?_)
       refine lx_skip S rfl rfl (isB_ne hc44) (by decide) (fun a S => ?_)
       refine lx_q (.bool false) S (want_b rfl rfl hc39) (by decide) (q_pickF' rfl hc44 rfl) (fun a S => ?_)
       refine lx_nil ?_
       obtain rfl := Option.some.inj hm
       exact ⟨S.sub ⟨rfl, rfl, rfl, rfl, trivial⟩, H⟩
     ·rintro a w ⟨S, H⟩
      refine lq (.bool t42) S (q_pickF' rfl hc39 rfl) fun a S => ?_
      refine lx_nil ?_
      obtain rfl := Option.some.inj hm
      exact ⟨S.sub ⟨rfl, rfl, rfl, trivial⟩, H⟩
   ·rintro a w ⟨S, H⟩
    refine lx_nil (thenN ?_)
    refine cond_b S rfl (fun hc45 => ?_) (fun hc45 => ?_)
    ·have hm := ite_t hc45 hm
     refine wp_seq (region_plain ?_)
     refine lq (.int .i64 (0 : Int)) S (q_assign rfl) fun a S => ?_
     refine lq (.bool false) S (q_assign rfl) fun a S => ?_
     refine lx_nil (thenN ?_)
     refine wp_ret (then_ret ?_)
     obtain rfl := Option.some.inj hm
     exact leave2 S rfl rfl rfl ⟨rfl, H⟩
    ·have hm := ite_f hc45 hm
     refine wp_skip (thenN ?_)
     refine wp_seq (region_plain ?_)
     refine lq (.int .i64 (0 : Int)) S (q_assign rfl) fun a S => ?_
     refine lx_nil (thenN ?_)
     refine wp_seq (wp_seq (region_plain ?_))
     refine lq (.int .i64 x31) S (q_move rfl) fun a S => ?_
     refine lq (.int .i64 x31) S (q_assign rfl) fun a S => ?_
     refine lx_nil (thenN ?_)
     obtain ⟨res75, hit76, hk79⟩ := bind_some hm
     obtain ⟨f77, hf78, hit76⟩ := iter_name hit76
     refine block_loop (fun a w => ∃ (x74 : Int), Slots a 62 [(4, (.int .i64 x31)), (5, (.int .i64 x74))] ∧ Heap w0 [] w ∧ res75 = .inl (x74)) ?_ ?_
     ·rintro a w ⟨x74, S, H, rfl⟩
      have hm := ctl_inl hk79
      refine thenN ?_
      obtain ⟨K81, hK82, hm⟩ := join_elim hm
      refine seq_cut (fun a w => ∃ (x80 : Int), Slots a 62 [(5, (.int .i64 x80))] ∧ Heap w0 [] w ∧ K81 x80 = some r) ?_ ?_
      ·rintro a w ⟨x80, S, H, hm⟩
       subst hK82
       refine wp_seq (region_plain ?_)
       refine lq (.int .i64 x80) S (q_move rfl) fun a S => ?_
       refine lq (.int .i64 x80) S (q_assign rfl) fun a S => ?_
       refine lq (.bool true) S (q_assign rfl) fun a S => ?_
       refine lx_nil (thenN ?_)
       refine wp_ret ?_
       obtain rfl := Option.some.inj hm
       exact leave2 S rfl rfl rfl ⟨rfl, H⟩
      ·skip
       refine wp_seq (region_plain ?_)
       refine lq (.int .i64 x31) S (q_move rfl) fun a S => ?_
       refine lq (.bool (x31 == (1 : Int))) S (q_eql rfl rfl) fun a S => ?_
       refine lx_nil (thenN ?_)
       refine cond_b S rfl (fun hc83 => ?_) (fun hc83 => ?_)
       ·have hm := ite_t hc83 hm
        refine region_plain ?_
        refine lq (.int .i64 x74) S (q_move rfl) fun a S => ?_
        refine lq (.int .i64 (W (0 - x74))) S (q_neg rfl) fun a S => ?_
        refine lq (.int .i64 (W (0 - x74))) S (q_assign rfl) fun a S => ?_
        refine lx_nil ?_
        exact ⟨(W (0 - x74)), S.sub ⟨rfl, trivial⟩, H, hm⟩
       ·have hm := ite_f hc83 hm
        refine wp_skip ?_
        exact ⟨x74, S.sub ⟨rfl, trivial⟩, H, hm⟩
     ·skip
      refine loop_ghost (fun n a w => ∃ (x59 : Int) (x60 : Int), Slots a 62 [(0, (sv a0)), (4, (.int .i64 x31)), (5, (.int .i64 x59)), (6, (.int .i64 x60))] ∧ Heap w0 [] w ∧ iter f77 n (x59, x60) = some res75) _ ⟨(0 : Int), x31, S.sub ⟨rfl, rfl, rfl, rfl, trivial⟩, H, hit76⟩ ?_
      rintro n a w ⟨x59, x60, S, H, hit76⟩
      obtain ⟨m84, o85, rfl, hm, hc86⟩ := iter_step hit76
      rw [hf78] at hm
      refine wp_seq (wp_seq (region_plain ?_))
      refine lq (.int .i64 x60) S (q_move rfl) fun a S => ?_
      refine lq (sv a0) S (q_move rfl) fun a S => ?_
      refine lq (.int .i64 (a0.length : Int)) S (q_lenStr rfl rfl Tryd.underlying9) fun a S => ?_
      refine lq (.bool (decide (x60 < (a0.length : Int)))) S (q_lss rfl rfl) fun a S => ?_
      refine lx_nil (thenN ?_)
      refine cond_b S rfl (fun hc87 => ?_) (fun hc87 => ?_)
      ·have hm := ite_t hc87 hm
       refine wp_skip (thenN ?_)
       refine wp_seq ?_
       refine wp_block ?_
       refine wp_seq (wp_seq (region_plain ?_))
       refine lq (sv a0) S (q_move rfl) fun a S => ?_
       refine lq (.int .i64 x60) S (q_move rfl) fun a S => ?_
       obtain ⟨b88, e89, hm⟩ := bind_some hm
       refine lq (.int .u8 (b88.toNat : Int)) S (q_sidx rfl rfl Tryd.underlying9 e89) fun a S => ?_
       obtain ⟨x92, e93, hm⟩ := bind_some hm
       refine lx_call (xs := [.tmp 46]) S trivial (by decide) rfl rfl Tryd.call75 ((spec_l01Digit_ok  e93).mono ?_)
       rintro e w90 ⟨rfl, Hc91⟩
       have H := H.call0 Hc91
       refine ⟨_, rfl, trivial, fun a S => ?_⟩
       refine lq (.bool (!x92)) S (q_not rfl) fun a S => ?_
       refine lx_nil (thenN ?_)
       refine cond_b S rfl (fun hc95 => ?_) (fun hc95 => ?_)
       ·have hm := ite_t hc95 hm
        refine wp_seq (region_plain ?_)
        refine lq (.int .i64 (0 : Int)) S (q_assign rfl) fun a S => ?_
        refine lq (.bool false) S (q_assign rfl) fun a S => ?_
        refine lx_nil (thenN ?_)
        refine wp_ret (then_ret ?_)
        refine inBlock_ret ?_
        refine then_ret ?_
        refine then_ret ?_
        refine inBlock_ret ?_
        refine then_ret ?_
        refine then_ret ?_
        obtain rfl := it_brk hm hc86
        have hm := ctl_inr hk79
        obtain rfl := Option.some.inj hm
        exact leave2 S rfl rfl rfl ⟨rfl, H⟩
       ·have hm := ite_f hc95 hm
        refine wp_skip (thenN ?_)
        refine region_plain ?_
        refine lq (.int .i64 x59) S (q_move rfl) fun a S => ?_
        refine lq (.int .i64 (W ((10 : Int) * x59))) S (q_mul rfl rfl) fun a S => ?_
        refine lq (sv a0) S (q_move rfl) fun a S => ?_
        refine lq (.int .i64 x60) S (q_move rfl) fun a S => ?_
        obtain ⟨b96, e97, hm⟩ := bind_some hm
        refine lq (.int .u8 (b96.toNat : Int)) S (q_sidx rfl rfl Tryd.underlying9 e97) fun a S => ?_
        refine lq (.int .u8 (IntKind.u8.wrap ((b96.toNat : Int) - (48 : Int)))) S (q_sub rfl rfl) fun a S => ?_
        refine lq (.int .i64 (W (IntKind.u8.wrap ((b96.toNat : Int) - (48 : Int))))) S (q_convInt rfl Tryd.underlying5 Tryd.underlying2) fun a S => ?_
        refine lq (.int .i64 (W ((W ((10 : Int) * x59)) + (W (IntKind.u8.wrap ((b96.toNat : Int) - (48 : Int))))))) S (q_add rfl rfl) fun a S => ?_
        refine lq (.int .i64 (W ((W ((10 : Int) * x59)) + (W (IntKind.u8.wrap ((b96.toNat : Int) - (48 : Int))))))) S (q_assign rfl) fun a S => ?_
        refine lx_nil ?_
        refine inBlock_norm ?_
        refine thenN ?_
        refine region_plain ?_
        refine lq (.int .i64 x60) S (q_move rfl) fun a S => ?_
        refine lq (.int .i64 (W (x60 + (1 : Int)))) S (q_add rfl rfl) fun a S => ?_
        refine lq (.int .i64 (W (x60 + (1 : Int)))) S (q_assign rfl) fun a S => ?_
        refine lx_nil ?_
        exact ⟨m84, Nat.lt_succ_self _, (W ((W ((10 : Int) * x59)) + (W (IntKind.u8.wrap ((b96.toNat : Int) - (48 : Int)))))), (W (x60 + (1 : Int))), S.sub ⟨rfl, rfl, rfl, rfl, trivial⟩, H, it_cont hm hc86⟩
      ·have hm := ite_f hc87 hm
       refine wp_exit ?_
       refine then_exit ?_
       refine then_exit ?_
       refine inBlock_exit ?_
       obtain rfl := it_brk hm hc86
       exact ⟨x59, S.sub ⟨rfl, rfl, trivial⟩, H, rfl⟩
 ·skip
  refine wp_seq (region_plain ?_)
  refine lq (sv a0) S (q_move rfl) fun a S => ?_
  refine lq (.int .i64 (a0.length : Int)) S (q_lenStr rfl rfl Tryd.underlying9) fun a S => ?_
  refine lq (.bool (decide ((0 : Int) < (a0.length : Int)))) S (q_gtr rfl rfl) fun a S => ?_
  refine lq (.bool (decide ((0 : Int) < (a0.length : Int)))) S (q_move rfl) fun a S => ?_
  obtain ⟨t98, e99, hm⟩ := bind_some hm
  refine lx_cut 4 (fun a w => Slots a 62 [(0, (sv a0)), (4, (.int .i64 (0 : Int))), (14, (.bool t98))] ∧ Heap w0 [] w) ?_ ?_
  ·by_cases hc100 : (decide ((0 : Int) < (a0.length : Int))) = true
   ·have hm := ite_t hc100 e99
    refine lx_q (sv a0) S (want_b rfl rfl hc100) (by decide) (q_move rfl) (fun a S => ?_)
    obtain ⟨b101, e102, hm⟩ := bind_some hm
    refine lx_q (.int .u8 (b101.toNat : Int)) S (want_b rfl rfl hc100) (by decide) (q_sidx rfl rfl Tryd.underlying9 e102) (fun a S => ?_)
    refine lx_q (.bool ((b101.toNat : Int) == (45 : Int))) S (want_b rfl rfl hc100) (by decide) (q_eql rfl rfl) (fun a S => ?_)
    refine lq (.bool ((b101.toNat : Int) == (45 : Int))) S (q_pickT' rfl hc100 rfl) fun a S => ?_
    refine lx_nil ?_
    obtain rfl := Option.some.inj hm
    exact ⟨S.sub ⟨rfl, rfl, rfl, trivial⟩, H⟩
   ·have hm := ite_f (eq_false_of_ne_true hc100) e99
    have hc100 : (decide ((0 : Int) < (a0.length : Int))) = false := eq_false_of_ne_true hc100
    refine lx_skip S rfl rfl (isB_ne hc100) (by decide) (fun a S => ?_)
    refine lx_skip S rfl rfl (isB_ne hc100) (by decide) (fun a S => ?_)
    refine lx_skip S rfl rfl (isB_ne hc100) (by decide) (fun a S => ?_)
    refine lq (.bool false) S (q_pickF' rfl hc100 rfl) fun a S => ?_
    refine lx_nil ?_
    obtain rfl := Option.some.inj hm
    exact ⟨S.sub ⟨rfl, rfl, rfl, trivial⟩, H⟩
  ·rintro a w ⟨S, H⟩
   refine lx_nil (thenN ?_)
   refine cond_b S rfl (fun hc103 => ?_) (fun hc103 => ?_)
   ·have hm := ite_t hc103 hm
    refine region_plain ?_
    refine lq (.int .i64 (1 : Int)) S (q_assign rfl) fun a S => ?_
    refine lx_nil ?_
    exact ⟨(1 : Int), S.sub ⟨rfl, rfl, trivial⟩, H, hm⟩
   ·have hm := ite_f hc103 hm
    refine wp_skip ?_
    exact ⟨(0 : Int), S.sub ⟨rfl, rfl, trivial⟩, H, hm⟩

/-- spec.ReadList -/
def spec_ReadList_m (fuel : Nat) (a0 : Str) : Option (((List Int) × Bool)) :=
  (if (a0 == ([45] : Str)) = true then some ((([] : List Int), true)) else (spec_l01Split_m fuel a0 (44 : Int)).bind fun x37 => (if (decide ((64 : Int) < (x37.length : Int))) = true then some (([], false)) else (iter (fun (s : (List Int) × (Int)) => (match s with | (xs80, x82) => (if (decide (x82 < (x37.length : Int))) = true then (idx x37 x82).bind fun x127 => (spec_l01Number_m fuel x127).bind fun x134 => (if (!x134.2) = true then some true else (spec_l00In_m fuel x134.1 (-1000000000000 : Int) (1000000000000 : Int)).bind fun x142 => some (!x142)).bind fun t137 => (if t137 = true then some (.inr (.inr ([], false))) else (app xs80 [x134.1]).bind fun x150 => some (.inl (x150, (W (x82 + (1 : Int)))))) else some (.inr (.inl (xs80)))) : Option (((List Int) × (Int)) ⊕ (((List Int)) ⊕ (((List Int) × Bool)))))) fuel (([] : List Int), (0 : Int))).bind fun res118 => ctl (β := (List Int)) (ρ := ((List Int) × Bool)) (τ := ((List Int) × Bool)) res118 (fun (xs116) => some ((xs116, true))) (fun q => some (q))))
set_option maxRecDepth 20000 in
theorem spec_ReadList_ok {w0 : World} {fuel : Nat} {a0 : Str} {r : ((List Int) × Bool)} (hm : spec_ReadList_m fuel a0 = some r) :
  Calls Tryd.prog 40 #[sv a0] w0 fun e w => ∃ (v0 : Value), e = .returned (.tuple #[v0, .bool r.2]) ∧ Heap w0 [oA (rList (rInt .i64)) v0 r.1] w := by
 unfold spec_ReadList_m at hm
 have H := Heap.start w0
 refine enter (args := [sv a0]) Tryd.func40 rfl 44 rfl (Nat.le_of_ble_eq_true rfl) (fun a S => ?_)
 refine wp_seq (region_plain ?_)
 refine lq (.slice none 0 0) S (q_assign rfl) fun a S => ?_
 refine lq (.bool false) S (q_assign rfl) fun a S => ?_
 refine lx_nil (thenN ?_)
 refine wp_seq (wp_seq (region_plain ?_))
 refine lq (sv a0) S (q_move rfl) fun a S => ?_
 refine lq (.bool (a0 == ([45] : Str))) S (q_seql rfl rfl) fun a S => ?_
 refine lx_nil (thenN ?_)
 refine cond_b S rfl (fun hc31 => ?_) (fun hc31 => ?_)
 ·have hm := ite_t hc31 hm
  refine wp_seq (region_plain ?_)
  refine lx_buildSlice0 (r := (rInt .i64)) S trivial (by decide) rfl H Tryd.underlying48 Tryd.sizeOf2 (fun v32 w33 H => ⟨trivial, fun a S => ?_⟩)
  refine lq v32 S (q_assign rfl) fun a S => ?_
  refine lq (.bool true) S (q_assign rfl) fun a S => ?_
  refine lx_nil (thenN ?_)
  refine wp_ret (then_ret ?_)
  obtain rfl := Option.some.inj hm
  exact leave2 S rfl rfl rfl ⟨v32, rfl, H⟩
 ·have hm := ite_f hc31 hm
  refine wp_skip (thenN ?_)
  refine wp_seq (region_plain ?_)
  refine lq (sv a0) S (q_move rfl) fun a S => ?_
  obtain ⟨x37, e38, hm⟩ := bind_some hm
  refine lx_call (xs := [.tmp 12, .const (.int .u8 (44))]) S trivial (by decide) rfl rfl Tryd.call39 ((spec_l01Split_ok   e38).mono ?_)
  rintro e w35 ⟨v39, rfl, Hc36⟩
  have H := H.call1 Hc36
  refine ⟨_, rfl, trivial, fun a S => ?_⟩
  refine lq v39 S (q_assign rfl) fun a S => ?_
  refine lx_nil (thenN ?_)
  refine wp_seq (wp_seq (region_plain ?_))
  refine lq v39 S (q_move rfl) fun a S => ?_
  refine lq (.int .i64 (x37.length : Int)) S (q_lenSl rfl (H.isSl 0 rfl) rfl Tryd.underlying47) fun a S => ?_
  refine lq (.bool (decide ((64 : Int) < (x37.length : Int)))) S (q_gtr rfl rfl) fun a S => ?_
  refine lx_nil (thenN ?_)
  refine cond_b S rfl (fun hc42 => ?_) (fun hc42 => ?_)
  ·have hm := ite_t hc42 hm
   refine wp_seq (region_plain ?_)
   refine lq (.slice none 0 0) S (q_assign rfl) fun a S => ?_
   refine lq (.bool false) S (q_assign rfl) fun a S => ?_
   refine lx_nil (thenN ?_)
   refine wp_ret (then_ret ?_)
   obtain rfl := Option.some.inj hm
   have H : Heap w0 [oA (rList (rInt .i64)) (.slice none 0 0) ([] : List Int), oA (rList rStr) v39 x37] w35 := H.nilList (rInt .i64)
   have H : Heap w0 [oA (rList (rInt .i64)) (.slice none 0 0) ([] : List Int)] w35 := H.sel [0] (by decide)
   exact leave2 S rfl rfl rfl ⟨(.slice none 0 0), rfl, H⟩
  ·have hm := ite_f hc42 hm
   refine wp_skip (thenN ?_)
   refine wp_seq (region_plain ?_)
   refine lx_buildSlice0 (r := (rInt .i64)) S trivial (by decide) rfl H Tryd.underlying48 Tryd.sizeOf2 (fun v44 w45 H => ⟨trivial, fun a S => ?_⟩)
   refine lq v44 S (q_assign rfl) fun a S => ?_
   refine lx_nil (thenN ?_)
   refine wp_seq (wp_seq (region_plain ?_))
   refine lq (.int .i64 (0 : Int)) S (q_assign rfl) fun a S => ?_
   refine lx_nil (thenN ?_)
   obtain ⟨res118, hit119, hk122⟩ := bind_some hm
   obtain ⟨f120, hf121, hit119⟩ := iter_name hit119
   refine block_loop (fun a w => ∃ (xs116 : List Int) (v115 : Value), Slots a 44 [(5, v115)] ∧ Heap w0 [oA (rList (rInt .i64)) v115 xs116] w ∧ res118 = .inl (xs116)) ?_ ?_
   ·rintro a w ⟨xs116, v115, S, H, rfl⟩
    have hm := ctl_inl hk122
    refine thenN ?_
    refine wp_seq (region_plain ?_)
    refine lq v115 S (q_move rfl) fun a S => ?_
    refine lq v115 S (q_assign rfl) fun a S => ?_
    refine lq (.bool true) S (q_assign rfl) fun a S => ?_
    refine lx_nil (thenN ?_)
    refine wp_ret ?_
    obtain rfl := Option.some.inj hm
    exact leave2 S rfl rfl rfl ⟨v115, rfl, H⟩
   ·skip
    have H : Heap w0 [oA (rList rStr) v39 x37, oA (rList (rInt .i64)) v44 ([] : List Int)] w45 := H.front 1 rfl
    refine loop_ghost (fun n a w => ∃ (xs80 : List Int) (x82 : Int) (v79 : Value), Slots a 44 [(4, v39), (5, v79), (6, (.int .i64 x82))] ∧ Heap w0 [oA (rList rStr) v39 x37, oA (rList (rInt .i64)) v79 xs80] w ∧ iter f120 n (xs80, x82) = some res118) _ ⟨([] : List Int), (0 : Int), v44, S.sub ⟨rfl, rfl, rfl, trivial⟩, H, hit119⟩ ?_
    rintro n a w ⟨xs80, x82, v79, S, H, hit119⟩
    obtain ⟨m123, o124, rfl, hm, hc125⟩ := iter_step hit119
    rw [hf121] at hm
    refine wp_seq (wp_seq (region_plain ?_))
    refine lq (.int .i64 x82) S (q_move rfl) fun a S => ?_
    refine lq v39 S (q_move rfl) fun a S => ?_
    refine lq (.int .i64 (x37.length : Int)) S (q_lenSl rfl (H.isSl 0 rfl) rfl Tryd.underlying47) fun a S => ?_
    refine lq (.bool (decide (x82 < (x37.length : Int)))) S (q_lss rfl rfl) fun a S => ?_
    refine lx_nil (thenN ?_)
    refine cond_b S rfl (fun hc126 => ?_) (fun hc126 => ?_)
    ·have hm := ite_t hc126 hm
     refine wp_skip (thenN ?_)
     refine wp_seq ?_
     refine wp_block ?_
     refine wp_seq (region_plain ?_)
     refine lq v39 S (q_move rfl) fun a S => ?_
     refine lq (.int .i64 x82) S (q_move rfl) fun a S => ?_
     obtain ⟨x127, e128, hm⟩ := bind_some hm
     have hlt := lt_of_idx (idx_some e128).2
     refine lq (ePtr v39 (x82.toNat * 1)) S (q_indexAddr rfl (H.isSl 0 rfl) rfl (idx_some e128).1 hlt Tryd.underlying47 Tryd.sizeOf9) fun a S => ?_
     obtain ⟨c129, h130, hat131⟩ := (H.rdAt 0 rfl).elem (idx_some e128).2
     obtain rfl := h130
     refine lx_e (sv x127) S trivial (by decide) rfl trivial (q_load1 rfl Tryd.isAgg9 (by rintro _ rfl; exact (hat131 0 _ rfl))) (fun a S => ?_)
     obtain ⟨x134, e135, hm⟩ := bind_some hm
     refine lx_call (xs := [.tmp 28]) S trivial (by decide) rfl rfl Tryd.call62 ((spec_l01Number_ok  e135).mono ?_)
     rintro e w132 ⟨rfl, Hc133⟩
     have H := H.call0 Hc133
     refine ⟨_, rfl, trivial, fun a S => ?_⟩
     refine lq (.tuple #[(.int .i64 x134.1), (.bool x134.2)]) S (q_move rfl) fun a S => ?_
     refine lq (.int .i64 x134.1) S (q_extract rfl rfl) fun a S => ?_
     refine lq (.bool x134.2) S (q_extract rfl rfl) fun a S => ?_
     refine lq (.int .i64 x134.1) S (q_assign rfl) fun a S => ?_
     refine lq (.bool x134.2) S (q_assign rfl) fun a S => ?_
     refine lx_nil (thenN ?_)
     refine wp_seq (wp_seq (region_plain ?_))
     refine lq (.bool x134.2) S (q_move rfl) fun a S => ?_
     refine lq (.bool (!x134.2)) S (q_not rfl) fun a S => ?_
     refine lq (.bool (!x134.2)) S (q_move rfl) fun a S => ?_
     obtain ⟨t137, e138, hm⟩ := bind_some hm
     refine lx_cut 4 (fun a w => Slots a 44 [(4, v39), (5, v79), (6, (.int .i64 x82)), (7, (.int .i64 x134.1)), (38, (.bool t137))] ∧ Heap w0 [oA (rList rStr) v39 x37, oA (rList (rInt .i64)) v79 xs80] w) ?_ ?_
     ·by_cases hc139 : (!x134.2) = true
      ·have hm := ite_t hc139 e138
       refine lx_skip S rfl rfl (isB_ne hc139) (by decide) (fun a S => ?_)
       refine lx_skip S rfl rfl (isB_ne hc139) (by decide) (fun a S => ?_)
       refine lx_skip S rfl rfl (isB_ne hc139) (by decide) (fun a S => ?_)
       refine lq (.bool true) S (q_pickT' rfl hc139 rfl) fun a S => ?_
       refine lx_nil ?_
       obtain rfl := Option.some.inj hm
       exact ⟨S.sub ⟨rfl, rfl, rfl, rfl, rfl, trivial⟩, H⟩
      ·have hm := ite_f (eq_false_of_ne_true hc139) e138
       have hc139 : (!x134.2) = false := eq_false_of_ne_true hc139
       refine lx_q (.int .i64 x134.1) S (want_b rfl rfl hc139) (by decide) (q_move rfl) (fun a S => ?_)
       obtain ⟨x142, e143, hm⟩ := bind_some hm
       refine lx_call (xs := [.tmp 35, .const (.int .i64 (-1000000000000)), .const (.int .i64 (1000000000000))]) S (want_b rfl rfl hc139) (by decide) rfl rfl Tryd.call46 ((spec_l00In_ok    e143).mono ?_)
       rintro e w140 ⟨rfl, Hc141⟩
       have H := H.call0 Hc141
       refine ⟨_, rfl, trivial, fun a S => ?_⟩
       refine lx_q (.bool (!x142)) S (want_b rfl rfl hc139) (by decide) (q_not rfl) (fun a S => ?_)
       refine lq (.bool (!x142)) S (q_pickF' rfl hc139 rfl) fun a S => ?_
       refine lx_nil ?_
       obtain rfl := Option.some.inj hm
       exact ⟨S.sub ⟨rfl, rfl, rfl, rfl, rfl, trivial⟩, H⟩
     ·rintro a w ⟨S, H⟩
      refine lx_nil (thenN ?_)
      refine cond_b S rfl (fun hc145 => ?_) (fun hc145 => ?_)
      ·have hm := ite_t hc145 hm
       refine wp_seq (region_plain ?_)
       refine lq (.slice none 0 0) S (q_assign rfl) fun a S => ?_
       refine lq (.bool false) S (q_assign rfl) fun a S => ?_
       refine lx_nil (thenN ?_)
       refine wp_ret (then_ret ?_)
       refine inBlock_ret ?_
       refine then_ret ?_
       refine then_ret ?_
       refine inBlock_ret ?_
       refine then_ret ?_
       refine then_ret ?_
       obtain rfl := it_brk hm hc125
       have hm := ctl_inr hk122
       obtain rfl := Option.some.inj hm
       have H : Heap w0 [oA (rList (rInt .i64)) (.slice none 0 0) ([] : List Int), oA (rList rStr) v39 x37, oA (rList (rInt .i64)) v79 xs80] w := H.nilList (rInt .i64)
       have H : Heap w0 [oA (rList (rInt .i64)) (.slice none 0 0) ([] : List Int)] w := H.sel [0] (by decide)
       exact leave2 S rfl rfl rfl ⟨(.slice none 0 0), rfl, H⟩
      ·have hm := ite_f hc145 hm
       refine wp_skip (thenN ?_)
       refine region_plain ?_
       refine lq v79 S (q_move rfl) fun a S => ?_
       refine lq (.int .i64 x134.1) S (q_move rfl) fun a S => ?_
       refine lx_buildSlice (r := (rInt .i64)) (xs := [x134.1]) (ps := [(0, [(.int .i64 x134.1)])]) (cs := [(.int .i64 x134.1)]) (parts := [(0, .tmp 40)]) S trivial (by decide) rfl (H.put0 (A := eA) rfl) rfl Tryd.underlying48 Tryd.sizeOf2 Tryd.zeroValue2 (by decide) ⟨rfl, rfl, Nat.le_of_ble_eq_true rfl, trivial⟩ (by intro zs hz; exact fill_dense hz ⟨rfl, trivial⟩ rfl rfl) rfl (by decide) (fun w F hA => by cases (show F = [] from hA); exact ⟨_, _, [(.int .i64 x134.1)], _, rfl, rfl, ⟨rfl, rfl⟩, ⟨rfl, rfl⟩⟩) (fun v147 w148 H => ⟨trivial, fun a S => ?_⟩)
       obtain ⟨x150, e151, hm⟩ := bind_some hm
       obtain ⟨hle, hap⟩ := app_some e151
       replace hap := hap.symm
       subst hap
       have H : Heap w0 [oA (rList (rInt .i64)) v147 [x134.1], oA (rList rStr) v39 x37, oA (rList (rInt .i64)) v79 xs80] w148 := H.front 0 rfl
       have H : Heap w0 [oA (rList (rInt .i64)) v79 xs80, oA (rList (rInt .i64)) v147 [x134.1], oA (rList rStr) v39 x37] w148 := H.front 2 rfl
       refine lx_appendOwn (r := (rInt .i64)) S trivial (by decide) rfl H rfl rfl Tryd.underlying48 Tryd.ti2 rfl rfl rfl (Nat.le_of_ble_eq_true rfl) (by decide) hle (fun v152 w153 H => ⟨trivial, fun a S => ?_⟩)
       refine lq v152 S (q_assign rfl) fun a S => ?_
       refine lx_nil ?_
       refine inBlock_norm ?_
       refine thenN ?_
       refine region_plain ?_
       refine lq (.int .i64 x82) S (q_move rfl) fun a S => ?_
       refine lq (.int .i64 (W (x82 + (1 : Int)))) S (q_add rfl rfl) fun a S => ?_
       refine lq (.int .i64 (W (x82 + (1 : Int)))) S (q_assign rfl) fun a S => ?_
       refine lx_nil ?_
       have H : Heap w0 [oA (rList rStr) v39 x37, oA (rList (rInt .i64)) v152 (xs80 ++ [x134.1])] w153 := H.front 1 rfl
       exact ⟨m123, Nat.lt_succ_self _, (xs80 ++ [x134.1]), (W (x82 + (1 : Int))), v152, S.sub ⟨rfl, rfl, rfl, trivial⟩, H, it_cont hm hc125⟩
    ·have hm := ite_f hc126 hm
     refine wp_exit ?_
     refine then_exit ?_
     refine then_exit ?_
     refine inBlock_exit ?_
     obtain rfl := it_brk hm hc125
     have H : Heap w0 [oA (rList (rInt .i64)) v79 xs80] w := H.sel [1] (by decide)
     exact ⟨xs80, v79, S.sub ⟨rfl, trivial⟩, H, rfl⟩

/-- spec.ReadProof -/
def spec_ReadProof_m (fuel : Nat) (a0 : Str) : Option ((Timpl_Proof × Bool)) :=
  (spec_l01Split_m fuel a0 (10 : Int)).bind fun x36 => (idx x36 (0 : Int)).bind fun x41 => (if (decide ((121 : Int) < (x36.length : Int))) = true then some (((false, []), false)) else (iter (fun (s : (List (List Int)) × (Int)) => (match s with | (xs83, x85) => (if (decide (x85 < (x36.length : Int))) = true then (idx x36 x85).bind fun x144 => (spec_ReadList_m fuel x144).bind fun x151 => (if (!x151.2) = true then some (.inr (.inr ((false, []), false))) else (app xs83 [x151.1]).bind fun x162 => some (.inl (x162, (W (x85 + (1 : Int)))))) else some (.inr (.inl (xs83)))) : Option (((List (List Int)) × (Int)) ⊕ (((List (List Int))) ⊕ ((Timpl_Proof × Bool)))))) fuel ([], (1 : Int))).bind fun res117 => ctl (β := (List (List Int))) (ρ := (Timpl_Proof × Bool)) (τ := (Timpl_Proof × Bool)) res117 (fun (xs115) => (spec_l24Fits_m fuel ((x41 == ([116, 114, 117, 101] : Str)), xs115)).bind fun x124 => (if (!x124) = true then some true else (spec_l24Text_m fuel ((x41 == ([116, 114, 117, 101] : Str)), xs115)).bind fun x132 => some (x132 != a0)).bind fun t127 => (if t127 = true then some (((false, []), false)) else some ((((x41 == ([116, 114, 117, 101] : Str)), xs115), true)))) (fun q => some (q)))
set_option maxRecDepth 20000 in
theorem spec_ReadProof_ok {w0 : World} {fuel : Nat} {a0 : Str} {r : (Timpl_Proof × Bool)} (hm : spec_ReadProof_m fuel a0 = some r) :
  Calls Tryd.prog 16 #[sv a0] w0 fun e w => ∃ (v0 : Value), e = .returned (.tuple #[.agg #[.bool r.1.1, v0], .bool r.2]) ∧ Heap w0 [oA (rList (rList (rInt .i64))) v0 r.1.2] w := by
 unfold spec_ReadProof_m at hm
 have H := Heap.start w0
 refine enter (args := [sv a0]) Tryd.func16 rfl 52 rfl (Nat.le_of_ble_eq_true rfl) (fun a S => ?_)
 refine wp_seq (region_plain ?_)
 refine lx_alloc S trivial (by decide) rfl H Tryd.zeroValue27 rfl (fun b31 w32 H => ⟨trivial, fun a S => ?_⟩)
 refine lq (.bool false) S (q_assign rfl) fun a S => ?_
 refine lx_nil (thenN ?_)
 refine wp_seq (region_plain ?_)
 refine lq (sv a0) S (q_move rfl) fun a S => ?_
 obtain ⟨x36, e37, hm⟩ := bind_some hm
 refine lx_call (xs := [.tmp 9, .const (.int .u8 (10))]) S trivial (by decide) rfl rfl Tryd.call39 ((spec_l01Split_ok   e37).mono ?_)
 rintro e w34 ⟨v38, rfl, Hc35⟩
 have H := H.call1 Hc35
 refine ⟨_, rfl, trivial, fun a S => ?_⟩
 refine lq v38 S (q_assign rfl) fun a S => ?_
 refine lx_nil (thenN ?_)
 refine wp_seq (region_plain ?_)
 refine lq v38 S (q_move rfl) fun a S => ?_
 obtain ⟨x41, e42, hm⟩ := bind_some hm
 have hlt := lt_of_idx (idx_some e42).2
 refine lq (ePtr v38 ((0 : Int).toNat * 1)) S (q_indexAddr rfl (H.isSl 0 rfl) rfl (idx_some e42).1 hlt Tryd.underlying47 Tryd.sizeOf9) fun a S => ?_
 obtain ⟨c43, h44, hat45⟩ := (H.rdAt 0 rfl).elem (idx_some e42).2
 obtain rfl := h44
 refine lx_e (sv x41) S trivial (by decide) rfl trivial (q_load1 rfl Tryd.isAgg9 (by rintro _ rfl; exact (hat45 0 _ rfl))) (fun a S => ?_)
 refine lq (.bool (x41 == ([116, 114, 117, 101] : Str))) S (q_seql rfl rfl) fun a S => ?_
 refine lq (.agg #[(.bool (x41 == ([116, 114, 117, 101] : Str))), (.slice none 0 0)]) S (q_build (zs := [(.bool false), (.slice none 0 0)]) (szs := [1, 1]) (ps := [(0, [(.bool (x41 == ([116, 114, 117, 101] : Str)))])]) (parts := [(0, .tmp 14)]) rfl Tryd.underlying27 Tryd.zeroValue27 (fun w => by simp [Tryd.sizeOf22, Tryd.sizeOf4]) ⟨rfl, rfl, Nat.le_of_ble_eq_true rfl, trivial⟩ rfl) fun a S => ?_
 refine lx_alloc S trivial (by decide) rfl H Tryd.zeroValue27 rfl (fun b46 w47 H => ⟨trivial, fun a S => ?_⟩)
 refine lx_storeBox (o := 0) (i := 0) (us := [(.bool (x41 == ([116, 114, 117, 101] : Str))), (.slice none 0 0)]) (cs' := [(.bool (x41 == ([116, 114, 117, 101] : Str))), (.slice none 0 0)]) S trivial rfl H rfl rfl rfl rfl Tryd.sizeOf27 (Nat.le_of_ble_eq_true rfl) (List.forall_mem_cons.2 ⟨rfl, (List.forall_mem_cons.2 ⟨rfl, (fun _ h => nomatch h)⟩)⟩) rfl (fun w49 H => ⟨trivial, fun a S => ?_⟩)
 change Heap w0 [bA b46 [(.bool (x41 == ([116, 114, 117, 101] : Str))), (.slice none 0 0)] 27, oA (rList rStr) v38 x36, bA b31 [(.bool false), (.slice none 0 0)] 27] w49 at H
 refine lx_nil (thenN ?_)
 refine wp_seq (wp_seq (region_plain ?_))
 refine lq v38 S (q_move rfl) fun a S => ?_
 refine lq (.int .i64 (x36.length : Int)) S (q_lenSl rfl (H.isSl 1 rfl) rfl Tryd.underlying47) fun a S => ?_
 refine lq (.bool (decide ((121 : Int) < (x36.length : Int)))) S (q_gtr rfl rfl) fun a S => ?_
 refine lx_nil (thenN ?_)
 refine cond_b S rfl (fun hc50 => ?_) (fun hc50 => ?_)
 ·have hm := ite_t hc50 hm
  refine wp_seq (region_plain ?_)
  refine lq (.agg #[(.bool false), (.slice none 0 0)]) S (q_build (zs := [(.bool false), (.slice none 0 0)]) (szs := [1, 1]) (ps := []) (parts := []) rfl Tryd.underlying27 Tryd.zeroValue27 (fun w => by simp [Tryd.sizeOf22, Tryd.sizeOf4]) trivial rfl) fun a S => ?_
  refine lx_storeBox (o := 0) (i := 2) (us := [(.bool false), (.slice none 0 0)]) (cs' := [(.bool false), (.slice none 0 0)]) S trivial rfl H rfl rfl rfl rfl Tryd.sizeOf27 (Nat.le_of_ble_eq_true rfl) (List.forall_mem_cons.2 ⟨rfl, (List.forall_mem_cons.2 ⟨rfl, (fun _ h => nomatch h)⟩)⟩) rfl (fun w51 H => ⟨trivial, fun a S => ?_⟩)
  change Heap w0 [bA b46 [(.bool (x41 == ([116, 114, 117, 101] : Str))), (.slice none 0 0)] 27, oA (rList rStr) v38 x36, bA b31 [(.bool false), (.slice none 0 0)] 27] w51 at H
  refine lq (.bool false) S (q_assign rfl) fun a S => ?_
  refine lx_nil (thenN ?_)
  refine wp_ret ?_
  have hrv0 := RV.cellA (t := 27) (q := 2) (env := [(0, (sv a0)), (2, (bp b31)), (3, (.bool false)), (4, v38), (5, (bp b46)), (9, (sv a0)), (10, v38), (11, v38), (12, (ePtr v38 ((0 : Int).toNat * 1))), (13, (sv x41)), (14, (.bool (x41 == ([116, 114, 117, 101] : Str)))), (15, (.agg #[(.bool (x41 == ([116, 114, 117, 101] : Str))), (.slice none 0 0)])), (16, v38), (17, (.int .i64 (x36.length : Int))), (18, (.bool (decide ((121 : Int) < (x36.length : Int))))), (19, (.agg #[(.bool false), (.slice none 0 0)]))]) H (i := 2) rfl rfl Tryd.isAgg27 Tryd.sizeOf27
  have hrv1 : RV Tryd.prog _ w51 (.tmp 3) (.bool false) := (rfl : lk [(0, (sv a0)), (2, (bp b31)), (3, (.bool false)), (4, v38), (5, (bp b46)), (9, (sv a0)), (10, v38), (11, v38), (12, (ePtr v38 ((0 : Int).toNat * 1))), (13, (sv x41)), (14, (.bool (x41 == ([116, 114, 117, 101] : Str)))), (15, (.agg #[(.bool (x41 == ([116, 114, 117, 101] : Str))), (.slice none 0 0)])), (16, v38), (17, (.int .i64 (x36.length : Int))), (18, (.bool (decide ((121 : Int) < (x36.length : Int))))), (19, (.agg #[(.bool false), (.slice none 0 0)]))] 3 = some (.bool false))
  refine then_ret ?_
  obtain rfl := Option.some.inj hm
  have H : Heap w0 [oA (rList (rList (rInt .i64))) (.slice none 0 0) ([] : List (List Int)), bA b46 [(.bool (x41 == ([116, 114, 117, 101] : Str))), (.slice none 0 0)] 27, oA (rList rStr) v38 x36, bA b31 [(.bool false), (.slice none 0 0)] 27] w51 := H.nilList (rList (rInt .i64))
  have H : Heap w0 [oA (rList (rList (rInt .i64))) (.slice none 0 0) ([] : List (List Int))] w51 := H.sel [0] (by decide)
  exact leaveR2 S rfl hrv0 hrv1 ⟨(.slice none 0 0), rfl, H⟩
 ·have hm := ite_f hc50 hm
  refine wp_skip (thenN ?_)
  refine wp_seq (wp_seq (region_plain ?_))
  refine lq (.int .i64 (1 : Int)) S (q_assign rfl) fun a S => ?_
  refine lx_nil (thenN ?_)
  obtain ⟨res117, hit118, hk121⟩ := bind_some hm
  obtain ⟨f119, hf120, hit118⟩ := iter_name hit118
  refine block_loop (fun a w => ∃ (xs115 : List (List Int)) (v114 : Value), Slots a 52 [(0, (sv a0)), (2, (bp b31)), (5, (bp b46))] ∧ Heap w0 [bA b31 [(.bool false), (.slice none 0 0)] 27, bA b46 [(.bool (x41 == ([116, 114, 117, 101] : Str))), v114] 27, oA (rList (rList (rInt .i64))) v114 xs115] w ∧ res117 = .inl (xs115)) ?_ ?_
  ·rintro a w ⟨xs115, v114, S, H, rfl⟩
   have hm := ctl_inl hk121
   refine thenN ?_
   refine wp_seq (wp_seq (region_plain ?_))
   obtain ⟨x124, e125, hm⟩ := bind_some hm
   refine lx_call (xs := [.tmp 5]) S trivial (by decide) rfl rfl Tryd.call21 ((spec_l24Fits_ok (a0 := ((x41 == ([116, 114, 117, 101] : Str)), xs115)) (rdPtr_box H 1 rfl ⟨[(.bool (x41 == ([116, 114, 117, 101] : Str)))], [v114], rfl, rfl, ((H.rdAt 2 rfl)).list_rd⟩) e125).mono ?_)
   rintro e w122 ⟨rfl, Hc123⟩
   have H := H.call0 Hc123
   refine ⟨_, rfl, trivial, fun a S => ?_⟩
   refine lq (.bool (!x124)) S (q_not rfl) fun a S => ?_
   refine lq (.bool (!x124)) S (q_move rfl) fun a S => ?_
   obtain ⟨t127, e128, hm⟩ := bind_some hm
   refine lx_cut 4 (fun a w => Slots a 52 [(2, (bp b31)), (5, (bp b46)), (49, (.bool t127))] ∧ Heap w0 [bA b31 [(.bool false), (.slice none 0 0)] 27, bA b46 [(.bool (x41 == ([116, 114, 117, 101] : Str))), v114] 27, oA (rList (rList (rInt .i64))) v114 xs115] w) ?_ ?_
   ·by_cases hc129 : (!x124) = true
    ·have hm := ite_t hc129 e128
     refine lx_skip S rfl rfl (isB_ne hc129) (by decide) (fun a S => ?_)
     refine lx_skip S rfl rfl (isB_ne hc129) (by decide) (fun a S => ?_)
     refine lx_skip S rfl rfl (isB_ne hc129) (by decide) (fun a S => ?_)
     refine lq (.bool true) S (q_pickT' rfl hc129 rfl) fun a S => ?_
     refine lx_nil ?_
     obtain rfl := Option.some.inj hm
     exact ⟨S.sub ⟨rfl, rfl, rfl, trivial⟩, H⟩
    ·have hm := ite_f (eq_false_of_ne_true hc129) e128
     have hc129 : (!x124) = false := eq_false_of_ne_true hc129
     obtain ⟨x132, e133, hm⟩ := bind_some hm
     refine lx_call (xs := [.tmp 5]) S (want_b rfl rfl hc129) (by decide) rfl rfl Tryd.call22 ((spec_l24Text_ok (a0 := ((x41 == ([116, 114, 117, 101] : Str)), xs115)) (rdPtr_box H 1 rfl ⟨[(.bool (x41 == ([116, 114, 117, 101] : Str)))], [v114], rfl, rfl, ((H.rdAt 2 rfl)).list_rd⟩) e133).mono ?_)
     rintro e w130 ⟨rfl, Hc131⟩
     have H := H.call0 Hc131
     refine ⟨_, rfl, trivial, fun a S => ?_⟩
     refine lx_q (sv a0) S (want_b rfl rfl hc129) (by decide) (q_move rfl) (fun a S => ?_)
     refine lx_q (.bool (x132 != a0)) S (want_b rfl rfl hc129) (by decide) (q_sneq rfl rfl) (fun a S => ?_)
     refine lq (.bool (x132 != a0)) S (q_pickF' rfl hc129 rfl) fun a S => ?_
     refine lx_nil ?_
     obtain rfl := Option.some.inj hm
     exact ⟨S.sub ⟨rfl, rfl, rfl, trivial⟩, H⟩
   ·rintro a w ⟨S, H⟩
    refine lx_nil (thenN ?_)
    refine cond_b S rfl (fun hc135 => ?_) (fun hc135 => ?_)
    ·have hm := ite_t hc135 hm
     refine wp_seq (region_plain ?_)
     refine lq (.agg #[(.bool false), (.slice none 0 0)]) S (q_build (zs := [(.bool false), (.slice none 0 0)]) (szs := [1, 1]) (ps := []) (parts := []) rfl Tryd.underlying27 Tryd.zeroValue27 (fun w => by simp [Tryd.sizeOf22, Tryd.sizeOf4]) trivial rfl) fun a S => ?_
     refine lx_storeBox (o := 0) (i := 0) (us := [(.bool false), (.slice none 0 0)]) (cs' := [(.bool false), (.slice none 0 0)]) S trivial rfl H rfl rfl rfl rfl Tryd.sizeOf27 (Nat.le_of_ble_eq_true rfl) (List.forall_mem_cons.2 ⟨rfl, (List.forall_mem_cons.2 ⟨rfl, (fun _ h => nomatch h)⟩)⟩) rfl (fun w136 H => ⟨trivial, fun a S => ?_⟩)
     change Heap w0 [bA b31 [(.bool false), (.slice none 0 0)] 27, bA b46 [(.bool (x41 == ([116, 114, 117, 101] : Str))), v114] 27, oA (rList (rList (rInt .i64))) v114 xs115] w136 at H
     refine lq (.bool false) S (q_assign rfl) fun a S => ?_
     refine lx_nil (thenN ?_)
     refine wp_ret ?_
     have hrv0 := RV.cellA (t := 27) (q := 2) (env := [(2, (bp b31)), (3, (.bool false)), (5, (bp b46)), (49, (.bool t127)), (50, (.agg #[(.bool false), (.slice none 0 0)]))]) H (i := 0) rfl rfl Tryd.isAgg27 Tryd.sizeOf27
     have hrv1 : RV Tryd.prog _ w136 (.tmp 3) (.bool false) := (rfl : lk [(2, (bp b31)), (3, (.bool false)), (5, (bp b46)), (49, (.bool t127)), (50, (.agg #[(.bool false), (.slice none 0 0)]))] 3 = some (.bool false))
     refine then_ret ?_
     obtain rfl := Option.some.inj hm
     have H : Heap w0 [oA (rList (rList (rInt .i64))) (.slice none 0 0) ([] : List (List Int)), bA b31 [(.bool false), (.slice none 0 0)] 27, bA b46 [(.bool (x41 == ([116, 114, 117, 101] : Str))), v114] 27, oA (rList (rList (rInt .i64))) v114 xs115] w136 := H.nilList (rList (rInt .i64))
     have H : Heap w0 [oA (rList (rList (rInt .i64))) (.slice none 0 0) ([] : List (List Int))] w136 := H.sel [0] (by decide)
     exact leaveR2 S rfl hrv0 hrv1 ⟨(.slice none 0 0), rfl, H⟩
    ·have hm := ite_f hc135 hm
     refine wp_skip (thenN ?_)
     refine wp_seq (region_plain ?_)
     refine lx_e (.agg #[(.bool (x41 == ([116, 114, 117, 101] : Str))), v114]) S trivial (by decide) rfl trivial (q_loadA (cs := [(.bool (x41 == ([116, 114, 117, 101] : Str))), v114]) rfl (isP_bp _) Tryd.isAgg27 Tryd.sizeOf27 (by rintro _ rfl; exact (fun j u hu => boxAt (i := 1) H rfl hu))) (fun a S => ?_)
     refine lx_storeBox (o := 0) (i := 0) (us := [(.bool (x41 == ([116, 114, 117, 101] : Str))), v114]) (cs' := [(.bool (x41 == ([116, 114, 117, 101] : Str))), v114]) S trivial rfl H rfl rfl rfl rfl Tryd.sizeOf27 (Nat.le_of_ble_eq_true rfl) (List.forall_mem_cons.2 ⟨rfl, (List.forall_mem_cons.2 ⟨one_sl (H.isSl 2 rfl), (fun _ h => nomatch h)⟩)⟩) rfl (fun w138 H => ⟨trivial, fun a S => ?_⟩)
     change Heap w0 [bA b31 [(.bool (x41 == ([116, 114, 117, 101] : Str))), v114] 27, bA b46 [(.bool (x41 == ([116, 114, 117, 101] : Str))), v114] 27, oA (rList (rList (rInt .i64))) v114 xs115] w138 at H
     refine lq (.bool true) S (q_assign rfl) fun a S => ?_
     refine lx_nil (thenN ?_)
     refine wp_ret ?_
     have hrv0 := RV.cellA (t := 27) (q := 2) (env := [(2, (bp b31)), (3, (.bool true)), (5, (bp b46)), (49, (.bool t127)), (51, (.agg #[(.bool (x41 == ([116, 114, 117, 101] : Str))), v114]))]) H (i := 0) rfl rfl Tryd.isAgg27 Tryd.sizeOf27
     have hrv1 : RV Tryd.prog _ w138 (.tmp 3) (.bool true) := (rfl : lk [(2, (bp b31)), (3, (.bool true)), (5, (bp b46)), (49, (.bool t127)), (51, (.agg #[(.bool (x41 == ([116, 114, 117, 101] : Str))), v114]))] 3 = some (.bool true))
     obtain rfl := Option.some.inj hm
     have H : Heap w0 [oA (rList (rList (rInt .i64))) v114 xs115] w138 := H.sel [2] (by decide)
     exact leaveR2 S rfl hrv0 hrv1 ⟨v114, rfl, H⟩
  ·skip
   have H : Heap w0 [oA (rList (rList (rInt .i64))) (.slice none 0 0) ([] : List (List Int)), bA b46 [(.bool (x41 == ([116, 114, 117, 101] : Str))), (.slice none 0 0)] 27, oA (rList rStr) v38 x36, bA b31 [(.bool false), (.slice none 0 0)] 27] w49 := H.nilList (rList (rInt .i64))
   have H : Heap w0 [bA b46 [(.bool (x41 == ([116, 114, 117, 101] : Str))), (.slice none 0 0)] 27, oA (rList (rList (rInt .i64))) (.slice none 0 0) ([] : List (List Int)), oA (rList rStr) v38 x36, bA b31 [(.bool false), (.slice none 0 0)] 27] w49 := H.front 1 rfl
   have H : Heap w0 [oA (rList rStr) v38 x36, bA b46 [(.bool (x41 == ([116, 114, 117, 101] : Str))), (.slice none 0 0)] 27, oA (rList (rList (rInt .i64))) (.slice none 0 0) ([] : List (List Int)), bA b31 [(.bool false), (.slice none 0 0)] 27] w49 := H.front 2 rfl
   have H : Heap w0 [bA b31 [(.bool false), (.slice none 0 0)] 27, oA (rList rStr) v38 x36, bA b46 [(.bool (x41 == ([116, 114, 117, 101] : Str))), (.slice none 0 0)] 27, oA (rList (rList (rInt .i64))) (.slice none 0 0) ([] : List (List Int))] w49 := H.front 3 rfl
   refine loop_ghost (fun n a w => ∃ (xs83 : List (List Int)) (x85 : Int) (v82 : Value), Slots a 52 [(0, (sv a0)), (2, (bp b31)), (4, v38), (5, (bp b46)), (6, (.int .i64 x85))] ∧ Heap w0 [bA b31 [(.bool false), (.slice none 0 0)] 27, oA (rList rStr) v38 x36, bA b46 [(.bool (x41 == ([116, 114, 117, 101] : Str))), v82] 27, oA (rList (rList (rInt .i64))) v82 xs83] w ∧ iter f119 n (xs83, x85) = some res117) _ ⟨[], (1 : Int), (.slice none 0 0), S.sub ⟨rfl, rfl, rfl, rfl, rfl, trivial⟩, H, hit118⟩ ?_
   rintro n a w ⟨xs83, x85, v82, S, H, hit118⟩
   obtain ⟨m140, o141, rfl, hm, hc142⟩ := iter_step hit118
   rw [hf120] at hm
   refine wp_seq (wp_seq (region_plain ?_))
   refine lq (.int .i64 x85) S (q_move rfl) fun a S => ?_
   refine lq v38 S (q_move rfl) fun a S => ?_
   refine lq (.int .i64 (x36.length : Int)) S (q_lenSl rfl (H.isSl 1 rfl) rfl Tryd.underlying47) fun a S => ?_
   refine lq (.bool (decide (x85 < (x36.length : Int)))) S (q_lss rfl rfl) fun a S => ?_
   refine lx_nil (thenN ?_)
   refine cond_b S rfl (fun hc143 => ?_) (fun hc143 => ?_)
   ·have hm := ite_t hc143 hm
    refine wp_skip (thenN ?_)
    refine wp_seq ?_
    refine wp_block ?_
    refine wp_seq (region_plain ?_)
    refine lq v38 S (q_move rfl) fun a S => ?_
    refine lq (.int .i64 x85) S (q_move rfl) fun a S => ?_
    obtain ⟨x144, e145, hm⟩ := bind_some hm
    have hlt := lt_of_idx (idx_some e145).2
    refine lq (ePtr v38 (x85.toNat * 1)) S (q_indexAddr rfl (H.isSl 1 rfl) rfl (idx_some e145).1 hlt Tryd.underlying47 Tryd.sizeOf9) fun a S => ?_
    obtain ⟨c146, h147, hat148⟩ := (H.rdAt 1 rfl).elem (idx_some e145).2
    obtain rfl := h147
    refine lx_e (sv x144) S trivial (by decide) rfl trivial (q_load1 rfl Tryd.isAgg9 (by rintro _ rfl; exact (hat148 0 _ rfl))) (fun a S => ?_)
    obtain ⟨x151, e152, hm⟩ := bind_some hm
    refine lx_call (xs := [.tmp 30]) S trivial (by decide) rfl rfl Tryd.call40 ((spec_ReadList_ok  e152).mono ?_)
    rintro e w149 ⟨v153, rfl, Hc150⟩
    have H := H.call1 Hc150
    refine ⟨_, rfl, trivial, fun a S => ?_⟩
    refine lq (.tuple #[v153, (.bool x151.2)]) S (q_move rfl) fun a S => ?_
    refine lq v153 S (q_extract rfl rfl) fun a S => ?_
    refine lq (.bool x151.2) S (q_extract rfl rfl) fun a S => ?_
    refine lq v153 S (q_assign rfl) fun a S => ?_
    refine lq (.bool x151.2) S (q_assign rfl) fun a S => ?_
    refine lx_nil (thenN ?_)
    refine wp_seq (wp_seq (region_plain ?_))
    refine lq (.bool x151.2) S (q_move rfl) fun a S => ?_
    refine lq (.bool (!x151.2)) S (q_not rfl) fun a S => ?_
    refine lx_nil (thenN ?_)
    refine cond_b S rfl (fun hc156 => ?_) (fun hc156 => ?_)
    ·have hm := ite_t hc156 hm
     refine wp_seq (region_plain ?_)
     refine lq (.agg #[(.bool false), (.slice none 0 0)]) S (q_build (zs := [(.bool false), (.slice none 0 0)]) (szs := [1, 1]) (ps := []) (parts := []) rfl Tryd.underlying27 Tryd.zeroValue27 (fun w => by simp [Tryd.sizeOf22, Tryd.sizeOf4]) trivial rfl) fun a S => ?_
     refine lx_storeBox (o := 0) (i := 1) (us := [(.bool false), (.slice none 0 0)]) (cs' := [(.bool false), (.slice none 0 0)]) S trivial rfl H rfl rfl rfl rfl Tryd.sizeOf27 (Nat.le_of_ble_eq_true rfl) (List.forall_mem_cons.2 ⟨rfl, (List.forall_mem_cons.2 ⟨rfl, (fun _ h => nomatch h)⟩)⟩) rfl (fun w157 H => ⟨trivial, fun a S => ?_⟩)
     change Heap w0 [oA (rList (rInt .i64)) v153 x151.1, bA b31 [(.bool false), (.slice none 0 0)] 27, oA (rList rStr) v38 x36, bA b46 [(.bool (x41 == ([116, 114, 117, 101] : Str))), v82] 27, oA (rList (rList (rInt .i64))) v82 xs83] w157 at H
     refine lq (.bool false) S (q_assign rfl) fun a S => ?_
     refine lx_nil (thenN ?_)
     refine wp_ret ?_
     have hrv0 := RV.cellA (t := 27) (q := 2) (env := [(0, (sv a0)), (2, (bp b31)), (3, (.bool false)), (4, v38), (5, (bp b46)), (6, (.int .i64 x85)), (7, v153), (8, (.bool x151.2)), (20, (.int .i64 x85)), (21, v38), (22, (.int .i64 (x36.length : Int))), (23, (.bool (decide (x85 < (x36.length : Int))))), (26, (.tuple #[v153, (.bool x151.2)])), (27, v38), (28, (.int .i64 x85)), (29, (ePtr v38 (x85.toNat * 1))), (30, (sv x144)), (31, (.tuple #[v153, (.bool x151.2)])), (32, v153), (33, (.bool x151.2)), (34, (.bool x151.2)), (35, (.bool (!x151.2))), (36, (.agg #[(.bool false), (.slice none 0 0)]))]) H (i := 1) rfl rfl Tryd.isAgg27 Tryd.sizeOf27
     have hrv1 : RV Tryd.prog _ w157 (.tmp 3) (.bool false) := (rfl : lk [(0, (sv a0)), (2, (bp b31)), (3, (.bool false)), (4, v38), (5, (bp b46)), (6, (.int .i64 x85)), (7, v153), (8, (.bool x151.2)), (20, (.int .i64 x85)), (21, v38), (22, (.int .i64 (x36.length : Int))), (23, (.bool (decide (x85 < (x36.length : Int))))), (26, (.tuple #[v153, (.bool x151.2)])), (27, v38), (28, (.int .i64 x85)), (29, (ePtr v38 (x85.toNat * 1))), (30, (sv x144)), (31, (.tuple #[v153, (.bool x151.2)])), (32, v153), (33, (.bool x151.2)), (34, (.bool x151.2)), (35, (.bool (!x151.2))), (36, (.agg #[(.bool false), (.slice none 0 0)]))] 3 = some (.bool false))
     refine then_ret ?_
     refine inBlock_ret ?_
     refine then_ret ?_
     refine then_ret ?_
     refine inBlock_ret ?_
     refine then_ret ?_
     refine then_ret ?_
     obtain rfl := it_brk hm hc142
     have hm := ctl_inr hk121
     obtain rfl := Option.some.inj hm
     have H : Heap w0 [oA (rList (rList (rInt .i64))) (.slice none 0 0) ([] : List (List Int)), oA (rList (rInt .i64)) v153 x151.1, bA b31 [(.bool false), (.slice none 0 0)] 27, oA (rList rStr) v38 x36, bA b46 [(.bool (x41 == ([116, 114, 117, 101] : Str))), v82] 27, oA (rList (rList (rInt .i64))) v82 xs83] w157 := H.nilList (rList (rInt .i64))
     have H : Heap w0 [oA (rList (rList (rInt .i64))) (.slice none 0 0) ([] : List (List Int))] w157 := H.sel [0] (by decide)
     exact leaveR2 S rfl hrv0 hrv1 ⟨(.slice none 0 0), rfl, H⟩
    ·have hm := ite_f hc156 hm
     refine wp_skip (thenN ?_)
     refine region_plain ?_
     refine lq (pAdd (bp b46) 1) S (q_fieldAddr' 1 22 rfl (isP_bp _) Tryd.underlying27 rfl Tryd.sizeOf22) fun a S => ?_
     refine lx_e v82 S trivial (by decide) rfl trivial (q_load1 rfl Tryd.isAgg22 (by rintro _ rfl; exact (At.of_add (m := 1) (j := 0) (boxAt (i := 3) H rfl (j := 1) rfl)))) (fun a S => ?_)
     refine lq v153 S (q_move rfl) fun a S => ?_
     refine lx_buildSlice (r := (rList (rInt .i64))) (xs := [x151.1]) (ps := [(0, [v153])]) (cs := [v153]) (parts := [(0, .tmp 39)]) S trivial (by decide) rfl H rfl Tryd.underlying22 Tryd.sizeOf48 Tryd.zeroValue48 (by decide) ⟨rfl, (cells_sl (H.isSl 0 rfl)), Nat.le_of_ble_eq_true rfl, trivial⟩ (by intro zs hz; exact fill_dense hz ⟨rfl, trivial⟩ rfl rfl) rfl (by decide) (fun w F hA => ownL_one_mk (ownF (oA_list.1 hA))) (fun v159 w160 H => ⟨trivial, fun a S => ?_⟩)
     obtain ⟨x162, e163, hm⟩ := bind_some hm
     obtain ⟨hle, hap⟩ := app_some e163
     replace hap := hap.symm
     subst hap
     have H : Heap w0 [oA (rList (rList (rInt .i64))) v159 [x151.1], bA b31 [(.bool false), (.slice none 0 0)] 27, oA (rList rStr) v38 x36, bA b46 [(.bool (x41 == ([116, 114, 117, 101] : Str))), v82] 27, oA (rList (rList (rInt .i64))) v82 xs83] w160 := H.front 0 rfl
     have H : Heap w0 [oA (rList (rList (rInt .i64))) v82 xs83, oA (rList (rList (rInt .i64))) v159 [x151.1], bA b31 [(.bool false), (.slice none 0 0)] 27, oA (rList rStr) v38 x36, bA b46 [(.bool (x41 == ([116, 114, 117, 101] : Str))), v82] 27] w160 := H.front 4 rfl
     refine lx_appendOwn (r := (rList (rInt .i64))) S trivial (by decide) rfl H rfl rfl Tryd.underlying22 Tryd.ti48 rfl rfl rfl (Nat.le_of_ble_eq_true rfl) (by decide) hle (fun v164 w165 H => ⟨trivial, fun a S => ?_⟩)
     refine lq (pAdd (bp b46) 1) S (q_fieldAddr' 1 22 rfl (isP_bp _) Tryd.underlying27 rfl Tryd.sizeOf22) fun a S => ?_
     refine lx_storeBox (o := 1) (i := 3) (us := [v164]) (cs' := [(.bool (x41 == ([116, 114, 117, 101] : Str))), v164]) S trivial rfl H rfl rfl rfl (cells_sl (H.isSl 0 rfl)) Tryd.sizeOf22 (Nat.le_of_ble_eq_true rfl) (List.forall_mem_cons.2 ⟨one_sl (H.isSl 0 rfl), (fun _ h => nomatch h)⟩) rfl (fun w167 H => ⟨trivial, fun a S => ?_⟩)
     change Heap w0 [oA (rList (rList (rInt .i64))) v164 (xs83 ++ [x151.1]), bA b31 [(.bool false), (.slice none 0 0)] 27, oA (rList rStr) v38 x36, bA b46 [(.bool (x41 == ([116, 114, 117, 101] : Str))), v164] 27] w167 at H
     refine lx_nil ?_
     refine inBlock_norm ?_
     refine thenN ?_
     refine region_plain ?_
     refine lq (.int .i64 x85) S (q_move rfl) fun a S => ?_
     refine lq (.int .i64 (W (x85 + (1 : Int)))) S (q_add rfl rfl) fun a S => ?_
     refine lq (.int .i64 (W (x85 + (1 : Int)))) S (q_assign rfl) fun a S => ?_
     refine lx_nil ?_
     have H : Heap w0 [bA b46 [(.bool (x41 == ([116, 114, 117, 101] : Str))), v164] 27, oA (rList (rList (rInt .i64))) v164 (xs83 ++ [x151.1]), bA b31 [(.bool false), (.slice none 0 0)] 27, oA (rList rStr) v38 x36] w167 := H.front 3 rfl
     have H : Heap w0 [oA (rList rStr) v38 x36, bA b46 [(.bool (x41 == ([116, 114, 117, 101] : Str))), v164] 27, oA (rList (rList (rInt .i64))) v164 (xs83 ++ [x151.1]), bA b31 [(.bool false), (.slice none 0 0)] 27] w167 := H.front 3 rfl
     have H : Heap w0 [bA b31 [(.bool false), (.slice none 0 0)] 27, oA (rList rStr) v38 x36, bA b46 [(.bool (x41 == ([116, 114, 117, 101] : Str))), v164] 27, oA (rList (rList (rInt .i64))) v164 (xs83 ++ [x151.1])] w167 := H.front 3 rfl
     exact ⟨m140, Nat.lt_succ_self _, (xs83 ++ [x151.1]), (W (x85 + (1 : Int))), v164, S.sub ⟨rfl, rfl, rfl, rfl, rfl, trivial⟩, H, it_cont hm hc142⟩
   ·have hm := ite_f hc143 hm
    refine wp_exit ?_
    refine then_exit ?_
    refine then_exit ?_
    refine inBlock_exit ?_
    obtain rfl := it_brk hm hc142
    have H : Heap w0 [bA b31 [(.bool false), (.slice none 0 0)] 27, bA b46 [(.bool (x41 == ([116, 114, 117, 101] : Str))), v82] 27, oA (rList (rList (rInt .i64))) v82 xs83] w := H.sel [0, 2, 3] (by decide)
    exact ⟨xs83, v82, S.sub ⟨rfl, rfl, rfl, trivial⟩, H, rfl⟩

/-- impl.ReadDecimal -/
def impl_ReadDecimal_m (fuel : Nat) (a0 : Str) : Option ((Int × Bool)) :=
  (strings_TrimPrefix_m fuel a0 ([45] : Str)).bind fun x33 => (if (decide ((18 : Int) < (x33.length : Int))) = true then some (((0 : Int), false)) else (strconv_ParseInt_m fuel a0 (10 : Int) (64 : Int)).bind fun x39 => (if x39.2 = true then some true else (impl_Decimal_m fuel x39.1).bind fun x49 => some (x49 != a0)).bind fun t44 => (if t44 = true then some (((0 : Int), false)) else some ((x39.1, true))))
set_option maxRecDepth 20000 in
theorem impl_ReadDecimal_ok {w0 : World} {fuel : Nat} {a0 : Str} {r : (Int × Bool)} (hG : GlobE Tryd.prog w0) (hm : impl_ReadDecimal_m fuel a0 = some r) :
  Calls Tryd.prog 79 #[sv a0] w0 fun e w => e = .returned (.tuple #[.int .i64 r.1, .bool r.2]) ∧ Heap w0 [] w := by
 unfold impl_ReadDecimal_m at hm
 have H := Heap.start w0
 refine enter (args := [sv a0]) Tryd.func79 rfl 24 rfl (Nat.le_of_ble_eq_true rfl) (fun a S => ?_)
 refine wp_seq (region_plain ?_)
 refine lq (.int .i64 (0 : Int)) S (q_assign rfl) fun a S => ?_
 refine lq (.bool false) S (q_assign rfl) fun a S => ?_
 refine lx_nil (thenN ?_)
 refine wp_seq (wp_seq (region_plain ?_))
 refine lq (sv a0) S (q_move rfl) fun a S => ?_
 obtain ⟨x33, e34, hm⟩ := bind_some hm
 refine lx_call (xs := [.tmp 6, .const (sv [45])]) S trivial (by decide) rfl rfl Tryd.call87 ((strings_TrimPrefix_ok   e34).mono ?_)
 rintro e w31 ⟨rfl, Hc32⟩
 have H := H.call0 Hc32
 refine ⟨_, rfl, trivial, fun a S => ?_⟩
 refine lq (.int .i64 (x33.length : Int)) S (q_lenStr rfl rfl Tryd.underlying9) fun a S => ?_
 refine lq (.bool (decide ((18 : Int) < (x33.length : Int)))) S (q_gtr rfl rfl) fun a S => ?_
 refine lx_nil (thenN ?_)
 refine cond_b S rfl (fun hc36 => ?_) (fun hc36 => ?_)
 ·have hm := ite_t hc36 hm
  refine wp_seq (region_plain ?_)
  refine lq (.int .i64 (0 : Int)) S (q_assign rfl) fun a S => ?_
  refine lq (.bool false) S (q_assign rfl) fun a S => ?_
  refine lx_nil (thenN ?_)
  refine wp_ret (then_ret ?_)
  obtain rfl := Option.some.inj hm
  exact leave2 S rfl rfl rfl ⟨rfl, H⟩
 ·have hm := ite_f hc36 hm
  refine wp_skip (thenN ?_)
  refine wp_seq (region_plain ?_)
  refine lq (sv a0) S (q_move rfl) fun a S => ?_
  obtain ⟨x39, e40, hm⟩ := bind_some hm
  refine lx_call (xs := [.tmp 11, .const (.int .i64 (10)), .const (.int .i64 (64))]) S trivial (by decide) rfl rfl Tryd.call88 ((strconv_ParseInt_ok (hG.ext H.ext)    e40).mono ?_)
  rintro e w37 ⟨ve41, rfl, he42, Hc38⟩
  have H := H.call0 Hc38
  refine ⟨_, rfl, trivial, fun a S => ?_⟩
  refine lq (.tuple #[(.int .i64 x39.1), ve41]) S (q_move rfl) fun a S => ?_
  refine lq (.int .i64 x39.1) S (q_extract rfl rfl) fun a S => ?_
  refine lq ve41 S (q_extract rfl rfl) fun a S => ?_
  refine lq (.int .i64 x39.1) S (q_assign rfl) fun a S => ?_
  refine lq ve41 S (q_assign rfl) fun a S => ?_
  refine lx_nil (thenN ?_)
  refine wp_seq (wp_seq (region_plain ?_))
  refine lq ve41 S (q_move rfl) fun a S => ?_
  refine lq (.bool x39.2) S (q_errneq rfl he42 Tryd.underlying79) fun a S => ?_
  refine lq (.bool x39.2) S (q_move rfl) fun a S => ?_
  obtain ⟨t44, e45, hm⟩ := bind_some hm
  refine lx_cut 5 (fun a w => Slots a 24 [(4, (.int .i64 x39.1)), (22, (.bool t44))] ∧ Heap w0 [] w) ?_ ?_
  ·by_cases hc46 : x39.2 = true
   ·have hm := ite_t hc46 e45
    refine lx_skip S rfl rfl (isB_ne hc46) (by decide) (fun a S => ?_)
    refine lx_skip S rfl rfl (isB_ne hc46) (by decide) (fun a S => ?_)
    refine lx_skip S rfl rfl (isB_ne hc46) (by decide) (fun a S => ?_)
    refine lx_skip S rfl rfl (isB_ne hc46) (by decide) (fun a S => ?_)
    refine lq (.bool true) S (q_pickT' rfl hc46 rfl) fun a S => ?_
    refine lx_nil ?_
    obtain rfl := Option.some.inj hm
    exact ⟨S.sub ⟨rfl, rfl, trivial⟩, H⟩
   ·have hm := ite_f (eq_false_of_ne_true hc46) e45
    have hc46 : x39.2 = false := eq_false_of_ne_true hc46
    refine lx_q (.int .i64 x39.1) S (want_b rfl rfl hc46) (by decide) (q_move rfl) (fun a S => ?_)
    obtain ⟨x49, e50, hm⟩ := bind_some hm
    refine lx_call (xs := [.tmp 18]) S (want_b rfl rfl hc46) (by decide) rfl rfl Tryd.call69 ((impl_Decimal_ok (hG.ext H.ext).toGlob  e50).mono ?_)
    rintro e w47 ⟨rfl, Hc48⟩
    have H := H.call0 Hc48
    refine ⟨_, rfl, trivial, fun a S => ?_⟩
    refine lx_q (sv a0) S (want_b rfl rfl hc46) (by decide) (q_move rfl) (fun a S => ?_)
    refine lx_q (.bool (x49 != a0)) S (want_b rfl rfl hc46) (by decide) (q_sneq rfl rfl) (fun a S => ?_)
    refine lq (.bool (x49 != a0)) S (q_pickF' rfl hc46 rfl) fun a S => ?_
    refine lx_nil ?_
    obtain rfl := Option.some.inj hm
    exact ⟨S.sub ⟨rfl, rfl, trivial⟩, H⟩
  ·rintro a w ⟨S, H⟩
   refine lx_nil (thenN ?_)
   refine cond_b S rfl (fun hc52 => ?_) (fun hc52 => ?_)
   ·have hm := ite_t hc52 hm
    refine wp_seq (region_plain ?_)
    refine lq (.int .i64 (0 : Int)) S (q_assign rfl) fun a S => ?_
    refine lq (.bool false) S (q_assign rfl) fun a S => ?_
    refine lx_nil (thenN ?_)
    refine wp_ret (then_ret ?_)
    obtain rfl := Option.some.inj hm
    exact leave2 S rfl rfl rfl ⟨rfl, H⟩
   ·have hm := ite_f hc52 hm
    refine wp_skip (thenN ?_)
    refine wp_seq (region_plain ?_)
    refine lq (.int .i64 x39.1) S (q_move rfl) fun a S => ?_
    refine lq (.int .i64 x39.1) S (q_assign rfl) fun a S => ?_
    refine lq (.bool true) S (q_assign rfl) fun a S => ?_
    refine lx_nil (thenN ?_)
    refine wp_ret ?_
    obtain rfl := Option.some.inj hm
    exact leave2 S rfl rfl rfl ⟨rfl, H⟩

/-- impl.readNumbers -/
def impl_readNumbers_m (fuel : Nat) (a0 : (List Str)) : Option (((List Int) × Bool)) :=
  (iter (fun (s : (List Int) × (Int)) => (match s with | (xs57, x59) => (if (decide (x59 < (a0.length : Int))) = true then (idx a0 x59).bind fun x97 => (impl_ReadDecimal_m fuel x97).bind fun x104 => (if (!x104.2) = true then some (.inr (.inr ([], false))) else (app xs57 [x104.1]).bind fun x112 => some (.inl (x112, (W (x59 + (1 : Int)))))) else some (.inr (.inl (xs57)))) : Option (((List Int) × (Int)) ⊕ (((List Int)) ⊕ (((List Int) × Bool)))))) fuel ([], (0 : Int))).bind fun res87 => ctl (β := (List Int)) (ρ := ((List Int) × Bool)) (τ := ((List Int) × Bool)) res87 (fun (xs85) => some ((xs85, true))) (fun q => some (q))
set_option maxRecDepth 20000 in
theorem impl_readNumbers_ok {w0 : World} {fuel : Nat} {p0 : Value} {a0 : (List Str)} {r : ((List Int) × Bool)} (hG : GlobE Tryd.prog w0) (h0 : Rd (rList rStr) w0 p0 a0) (hm : impl_readNumbers_m fuel a0 = some r) :
  Calls Tryd.prog 64 #[p0] w0 fun e w => ∃ (v0 : Value), e = .returned (.tuple #[v0, .bool r.2]) ∧ Heap w0 [oA (rList (rInt .i64)) v0 r.1] w := by
 unfold impl_readNumbers_m at hm
 have H := Heap.start w0
 refine enter (args := [p0]) Tryd.func64 rfl 28 rfl (Nat.le_of_ble_eq_true rfl) (fun a S => ?_)
 refine wp_seq (region_plain ?_)
 refine lq (.slice none 0 0) S (q_assign rfl) fun a S => ?_
 refine lq (.bool false) S (q_assign rfl) fun a S => ?_
 refine lx_nil (thenN ?_)
 refine wp_seq (region_plain ?_)
 refine lq (.slice none 0 0) S (q_assign rfl) fun a S => ?_
 refine lx_nil (thenN ?_)
 refine wp_seq (wp_seq (region_plain ?_))
 refine lq p0 S (q_move rfl) fun a S => ?_
 refine lq (.int .i64 (a0.length : Int)) S (q_lenSl rfl (h0).isSl rfl Tryd.underlying47) fun a S => ?_
 refine lq (.int .i64 (0 : Int)) S (q_move rfl) fun a S => ?_
 refine lx_nil (thenN ?_)
 obtain ⟨res87, hit88, hk91⟩ := bind_some hm
 obtain ⟨f89, hf90, hit88⟩ := iter_name hit88
 refine block_loop (fun a w => ∃ (xs85 : List Int) (v84 : Value), Slots a 28 [(4, v84)] ∧ Heap w0 [oA (rList (rInt .i64)) v84 xs85] w ∧ res87 = .inl (xs85)) ?_ ?_
 ·rintro a w ⟨xs85, v84, S, H, rfl⟩
  have hm := ctl_inl hk91
  refine thenN ?_
  refine wp_seq (region_plain ?_)
  refine lq v84 S (q_move rfl) fun a S => ?_
  refine lq v84 S (q_assign rfl) fun a S => ?_
  refine lq (.bool true) S (q_assign rfl) fun a S => ?_
  refine lx_nil (thenN ?_)
  refine wp_ret ?_
  obtain rfl := Option.some.inj hm
  exact leave2 S rfl rfl rfl ⟨v84, rfl, H⟩
 ·skip
  have H : Heap w0 [oA (rList (rInt .i64)) (.slice none 0 0) ([] : List Int)] w0 := H.nilList (rInt .i64)
  refine loop_ghost (fun n a w => ∃ (xs57 : List Int) (x59 : Int) (v56 : Value), Slots a 28 [(4, v56), (9, p0), (10, (.int .i64 (a0.length : Int))), (11, (.int .i64 x59))] ∧ Heap w0 [oA (rList (rInt .i64)) v56 xs57] w ∧ iter f89 n (xs57, x59) = some res87) _ ⟨[], (0 : Int), (.slice none 0 0), S.sub ⟨rfl, rfl, rfl, rfl, trivial⟩, H, hit88⟩ ?_
  rintro n a w ⟨xs57, x59, v56, S, H, hit88⟩
  obtain ⟨m93, o94, rfl, hm, hc95⟩ := iter_step hit88
  rw [hf90] at hm
  refine wp_seq (region_plain ?_)
  refine lq (.bool (decide (x59 < (a0.length : Int)))) S (q_lss rfl rfl) fun a S => ?_
  refine lx_nil (thenN ?_)
  refine wp_seq ?_
  refine cond_b S rfl (fun hc96 => ?_) (fun hc96 => ?_)
  ·have hm := ite_t hc96 hm
   refine wp_skip (thenN ?_)
   refine wp_seq ?_
   refine wp_block ?_
   refine wp_seq (region_plain ?_)
   obtain ⟨x97, e98, hm⟩ := bind_some hm
   obtain ⟨c99, h100, hat101⟩ := (h0).elem (idx_some e98).2
   obtain rfl := h100
   have hlt := lt_of_idx (idx_some e98).2
   refine lq (ePtr p0 (x59.toNat * 1)) S (q_indexAddr rfl (h0).isSl rfl (idx_some e98).1 hlt Tryd.underlying47 Tryd.sizeOf9) fun a S => ?_
   refine lx_e (sv x97) S trivial (by decide) rfl trivial (q_load1 rfl Tryd.isAgg9 (by rintro _ rfl; exact ((hat101 0 _ rfl).ext H.ext))) (fun a S => ?_)
   refine lq (sv x97) S (q_assign rfl) fun a S => ?_
   refine lx_nil (thenN ?_)
   refine wp_seq (region_plain ?_)
   refine lq (sv x97) S (q_move rfl) fun a S => ?_
   obtain ⟨x104, e105, hm⟩ := bind_some hm
   refine lx_call (xs := [.tmp 16]) S trivial (by decide) rfl rfl Tryd.call79 ((impl_ReadDecimal_ok (hG.ext H.ext)  e105).mono ?_)
   rintro e w102 ⟨rfl, Hc103⟩
   have H := H.call0 Hc103
   refine ⟨_, rfl, trivial, fun a S => ?_⟩
   refine lq (.tuple #[(.int .i64 x104.1), (.bool x104.2)]) S (q_move rfl) fun a S => ?_
   refine lq (.int .i64 x104.1) S (q_extract rfl rfl) fun a S => ?_
   refine lq (.bool x104.2) S (q_extract rfl rfl) fun a S => ?_
   refine lq (.int .i64 x104.1) S (q_assign rfl) fun a S => ?_
   refine lq (.bool x104.2) S (q_assign rfl) fun a S => ?_
   refine lx_nil (thenN ?_)
   refine wp_seq (wp_seq (region_plain ?_))
   refine lq (.bool x104.2) S (q_move rfl) fun a S => ?_
   refine lq (.bool (!x104.2)) S (q_not rfl) fun a S => ?_
   refine lx_nil (thenN ?_)
   refine cond_b S rfl (fun hc107 => ?_) (fun hc107 => ?_)
   ·have hm := ite_t hc107 hm
    refine wp_seq (region_plain ?_)
    refine lq (.slice none 0 0) S (q_assign rfl) fun a S => ?_
    refine lq (.bool false) S (q_assign rfl) fun a S => ?_
    refine lx_nil (thenN ?_)
    refine wp_ret (then_ret ?_)
    refine inBlock_ret ?_
    refine then_ret ?_
    refine then_ret ?_
    refine inBlock_ret ?_
    refine then_ret ?_
    refine then_ret ?_
    obtain rfl := it_brk hm hc95
    have hm := ctl_inr hk91
    obtain rfl := Option.some.inj hm
    have H : Heap w0 [oA (rList (rInt .i64)) (.slice none 0 0) ([] : List Int), oA (rList (rInt .i64)) v56 xs57] w102 := H.nilList (rInt .i64)
    have H : Heap w0 [oA (rList (rInt .i64)) (.slice none 0 0) ([] : List Int)] w102 := H.sel [0] (by decide)
    exact leave2 S rfl rfl rfl ⟨(.slice none 0 0), rfl, H⟩
   ·have hm := ite_f hc107 hm
    refine wp_skip (thenN ?_)
    refine region_plain ?_
    refine lq v56 S (q_move rfl) fun a S => ?_
    refine lq (.int .i64 x104.1) S (q_move rfl) fun a S => ?_
    refine lx_buildSlice (r := (rInt .i64)) (xs := [x104.1]) (ps := [(0, [(.int .i64 x104.1)])]) (cs := [(.int .i64 x104.1)]) (parts := [(0, .tmp 23)]) S trivial (by decide) rfl (H.put0 (A := eA) rfl) rfl Tryd.underlying48 Tryd.sizeOf2 Tryd.zeroValue2 (by decide) ⟨rfl, rfl, Nat.le_of_ble_eq_true rfl, trivial⟩ (by intro zs hz; exact fill_dense hz ⟨rfl, trivial⟩ rfl rfl) rfl (by decide) (fun w F hA => by cases (show F = [] from hA); exact ⟨_, _, [(.int .i64 x104.1)], _, rfl, rfl, ⟨rfl, rfl⟩, ⟨rfl, rfl⟩⟩) (fun v109 w110 H => ⟨trivial, fun a S => ?_⟩)
    obtain ⟨x112, e113, hm⟩ := bind_some hm
    obtain ⟨hle, hap⟩ := app_some e113
    replace hap := hap.symm
    subst hap
    have H : Heap w0 [oA (rList (rInt .i64)) v109 [x104.1], oA (rList (rInt .i64)) v56 xs57] w110 := H.front 0 rfl
    have H : Heap w0 [oA (rList (rInt .i64)) v56 xs57, oA (rList (rInt .i64)) v109 [x104.1]] w110 := H.front 1 rfl
    refine lx_appendOwn (r := (rInt .i64)) S trivial (by decide) rfl H rfl rfl Tryd.underlying48 Tryd.ti2 rfl rfl rfl (Nat.le_of_ble_eq_true rfl) (by decide) hle (fun v114 w115 H => ⟨trivial, fun a S => ?_⟩)
    refine lq v114 S (q_assign rfl) fun a S => ?_
    refine lx_nil ?_
    refine inBlock_norm ?_
    refine thenN ?_
    refine region_plain ?_
    refine lq (.int .i64 (W (x59 + (1 : Int)))) S (q_add rfl rfl) fun a S => ?_
    refine lq (.int .i64 (W (x59 + (1 : Int)))) S (q_move rfl) fun a S => ?_
    refine lx_nil ?_
    exact ⟨m93, Nat.lt_succ_self _, (xs57 ++ [x104.1]), (W (x59 + (1 : Int))), v114, S.sub ⟨rfl, rfl, rfl, rfl, trivial⟩, H, it_cont hm hc95⟩
  ·have hm := ite_f hc96 hm
   refine wp_exit ?_
   refine then_exit ?_
   refine then_exit ?_
   refine inBlock_exit ?_
   obtain rfl := it_brk hm hc95
   exact ⟨xs57, v56, S.sub ⟨rfl, trivial⟩, H, rfl⟩

/-- impl.ReadList -/
def impl_ReadList_m (fuel : Nat) (a0 : Str) : Option (((List Int) × Bool)) :=
  (if (a0 == ([45] : Str)) = true then some (([], true)) else (strings_Split_m fuel a0 ([44] : Str)).bind fun x35 => (impl_readNumbers_m fuel x35).bind fun x42 => (if (!x42.2) = true then some true else (impl_listOk_m fuel x42.1).bind fun x52 => some (!x52)).bind fun t47 => (if t47 = true then some (([], false)) else some ((x42.1, true))))
set_option maxRecDepth 20000 in
theorem impl_ReadList_ok {w0 : World} {fuel : Nat} {a0 : Str} {r : ((List Int) × Bool)} (hG : GlobE Tryd.prog w0) (hm : impl_ReadList_m fuel a0 = some r) :
  Calls Tryd.prog 42 #[sv a0] w0 fun e w => ∃ (v0 : Value), e = .returned (.tuple #[v0, .bool r.2]) ∧ Heap w0 [oA (rList (rInt .i64)) v0 r.1] w := by
 unfold impl_ReadList_m at hm
 have H := Heap.start w0
 refine enter (args := [sv a0]) Tryd.func42 rfl 22 rfl (Nat.le_of_ble_eq_true rfl) (fun a S => ?_)
 refine wp_seq (region_plain ?_)
 refine lq (.slice none 0 0) S (q_assign rfl) fun a S => ?_
 refine lq (.bool false) S (q_assign rfl) fun a S => ?_
 refine lx_nil (thenN ?_)
 refine wp_seq (wp_seq (region_plain ?_))
 refine lq (sv a0) S (q_move rfl) fun a S => ?_
 refine lq (.bool (a0 == ([45] : Str))) S (q_seql rfl rfl) fun a S => ?_
 refine lx_nil (thenN ?_)
 refine cond_b S rfl (fun hc31 => ?_) (fun hc31 => ?_)
 ·have hm := ite_t hc31 hm
  refine wp_seq (region_plain ?_)
  refine lq (.slice none 0 0) S (q_assign rfl) fun a S => ?_
  refine lq (.bool true) S (q_assign rfl) fun a S => ?_
  refine lx_nil (thenN ?_)
  refine wp_ret (then_ret ?_)
  obtain rfl := Option.some.inj hm
  have H : Heap w0 [oA (rList (rInt .i64)) (.slice none 0 0) ([] : List Int)] w0 := H.nilList (rInt .i64)
  exact leave2 S rfl rfl rfl ⟨(.slice none 0 0), rfl, H⟩
 ·have hm := ite_f hc31 hm
  refine wp_skip (thenN ?_)
  refine wp_seq (region_plain ?_)
  refine lq (sv a0) S (q_move rfl) fun a S => ?_
  obtain ⟨x35, e36, hm⟩ := bind_some hm
  refine lx_call (xs := [.tmp 9, .const (sv [44])]) S trivial (by decide) rfl rfl Tryd.call41 ((strings_Split_ok (hG.ext H.ext).toGlob   e36).mono ?_)
  rintro e w33 ⟨v37, rfl, Hc34⟩
  have H := H.call1 Hc34
  refine ⟨_, rfl, trivial, fun a S => ?_⟩
  obtain ⟨x42, e43, hm⟩ := bind_some hm
  refine lx_call (xs := [.tmp 10]) S trivial (by decide) rfl rfl Tryd.call64 ((impl_readNumbers_ok (hG.ext H.ext) (H.rdAt 0 rfl) e43).mono ?_)
  rintro e w40 ⟨v44, rfl, Hc41⟩
  have H := H.call1 Hc41
  refine ⟨_, rfl, trivial, fun a S => ?_⟩
  refine lq (.tuple #[v44, (.bool x42.2)]) S (q_move rfl) fun a S => ?_
  refine lq v44 S (q_extract rfl rfl) fun a S => ?_
  refine lq (.bool x42.2) S (q_extract rfl rfl) fun a S => ?_
  refine lq v44 S (q_assign rfl) fun a S => ?_
  refine lq (.bool x42.2) S (q_assign rfl) fun a S => ?_
  refine lx_nil (thenN ?_)
  refine wp_seq (wp_seq (region_plain ?_))
  refine lq (.bool x42.2) S (q_move rfl) fun a S => ?_
  refine lq (.bool (!x42.2)) S (q_not rfl) fun a S => ?_
  refine lq (.bool (!x42.2)) S (q_move rfl) fun a S => ?_
  obtain ⟨t47, e48, hm⟩ := bind_some hm
  refine lx_cut 4 (fun a w => Slots a 22 [(4, v44), (20, (.bool t47))] ∧ Heap w0 [oA (rList (rInt .i64)) v44 x42.1] w) ?_ ?_
  ·by_cases hc49 : (!x42.2) = true
   ·have hm := ite_t hc49 e48
    refine lx_skip S rfl rfl (isB_ne hc49) (by decide) (fun a S => ?_)
    refine lx_skip S rfl rfl (isB_ne hc49) (by decide) (fun a S => ?_)
    refine lx_skip S rfl rfl (isB_ne hc49) (by decide) (fun a S => ?_)
    refine lq (.bool true) S (q_pickT' rfl hc49 rfl) fun a S => ?_
    refine lx_nil ?_
    obtain rfl := Option.some.inj hm
    have H := H.sel [0] (by decide)
    exact ⟨S.sub ⟨rfl, rfl, trivial⟩, H⟩
   ·have hm := ite_f (eq_false_of_ne_true hc49) e48
    have hc49 : (!x42.2) = false := eq_false_of_ne_true hc49
    refine lx_q v44 S (want_b rfl rfl hc49) (by decide) (q_move rfl) (fun a S => ?_)
    obtain ⟨x52, e53, hm⟩ := bind_some hm
    refine lx_call (xs := [.tmp 17]) S (want_b rfl rfl hc49) (by decide) rfl rfl Tryd.call50 ((impl_listOk_ok (H.rdAt 0 rfl) e53).mono ?_)
    rintro e w50 ⟨rfl, Hc51⟩
    have H := H.call0 Hc51
    refine ⟨_, rfl, trivial, fun a S => ?_⟩
    refine lx_q (.bool (!x52)) S (want_b rfl rfl hc49) (by decide) (q_not rfl) (fun a S => ?_)
    refine lq (.bool (!x52)) S (q_pickF' rfl hc49 rfl) fun a S => ?_
    refine lx_nil ?_
    obtain rfl := Option.some.inj hm
    have H := H.sel [0] (by decide)
    exact ⟨S.sub ⟨rfl, rfl, trivial⟩, H⟩
  ·rintro a w ⟨S, H⟩
   refine lx_nil (thenN ?_)
   refine cond_b S rfl (fun hc55 => ?_) (fun hc55 => ?_)
   ·have hm := ite_t hc55 hm
    refine wp_seq (region_plain ?_)
    refine lq (.slice none 0 0) S (q_assign rfl) fun a S => ?_
    refine lq (.bool false) S (q_assign rfl) fun a S => ?_
    refine lx_nil (thenN ?_)
    refine wp_ret (then_ret ?_)
    obtain rfl := Option.some.inj hm
    have H : Heap w0 [oA (rList (rInt .i64)) (.slice none 0 0) ([] : List Int), oA (rList (rInt .i64)) v44 x42.1] w := H.nilList (rInt .i64)
    have H : Heap w0 [oA (rList (rInt .i64)) (.slice none 0 0) ([] : List Int)] w := H.sel [0] (by decide)
    exact leave2 S rfl rfl rfl ⟨(.slice none 0 0), rfl, H⟩
   ·have hm := ite_f hc55 hm
    refine wp_skip (thenN ?_)
    refine wp_seq (region_plain ?_)
    refine lq v44 S (q_move rfl) fun a S => ?_
    refine lq v44 S (q_assign rfl) fun a S => ?_
    refine lq (.bool true) S (q_assign rfl) fun a S => ?_
    refine lx_nil (thenN ?_)
    refine wp_ret ?_
    obtain rfl := Option.some.inj hm
    exact leave2 S rfl rfl rfl ⟨v44, rfl, H⟩

/-- impl.ReadProof -/
def impl_ReadProof_m (fuel : Nat) (a0 : Str) : Option ((Timpl_Proof × Bool)) :=
  (strings_Split_m fuel a0 ([10] : Str)).bind fun x36 => (idx x36 (0 : Int)).bind fun x41 => (sub x36 (1 : Int) (x36.length : Int)).bind fun xs50 => (iter (fun (s : (List (List Int)) × (Int)) => (match s with | (xs82, x84) => (if (decide (x84 < (xs50.length : Int))) = true then (idx xs50 x84).bind fun x138 => (impl_ReadList_m fuel x138).bind fun x145 => (if (!x145.2) = true then some (.inr (.inr ((false, []), false))) else (app xs82 [x145.1]).bind fun x156 => some (.inl (x156, (W (x84 + (1 : Int)))))) else some (.inr (.inl (xs82)))) : Option (((List (List Int)) × (Int)) ⊕ (((List (List Int))) ⊕ ((Timpl_Proof × Bool)))))) fuel ([], (0 : Int))).bind fun res116 => ctl (β := (List (List Int))) (ρ := (Timpl_Proof × Bool)) (τ := (Timpl_Proof × Bool)) res116 (fun (xs114) => (impl_ProofText_m fuel ((x41 == ([116, 114, 117, 101] : Str)), xs114)).bind fun x123 => (if (x123 == ([] : Str)) = true then some true else some (x123 != a0)).bind fun t126 => (if t126 = true then some (((false, []), false)) else some ((((x41 == ([116, 114, 117, 101] : Str)), xs114), true)))) (fun q => some (q))
set_option maxRecDepth 20000 in
theorem impl_ReadProof_ok {w0 : World} {fuel : Nat} {a0 : Str} {r : (Timpl_Proof × Bool)} (hG : GlobE Tryd.prog w0) (hm : impl_ReadProof_m fuel a0 = some r) :
  Calls Tryd.prog 17 #[sv a0] w0 fun e w => ∃ (v0 : Value), e = .returned (.tuple #[.agg #[.bool r.1.1, v0], .bool r.2]) ∧ Heap w0 [oA (rList (rList (rInt .i64))) v0 r.1.2] w := by
 unfold impl_ReadProof_m at hm
 have H := Heap.start w0
 refine enter (args := [sv a0]) Tryd.func17 rfl 51 rfl (Nat.le_of_ble_eq_true rfl) (fun a S => ?_)
 refine wp_seq (region_plain ?_)
 refine lx_alloc S trivial (by decide) rfl H Tryd.zeroValue27 rfl (fun b31 w32 H => ⟨trivial, fun a S => ?_⟩)
 refine lq (.bool false) S (q_assign rfl) fun a S => ?_
 refine lx_nil (thenN ?_)
 refine wp_seq (region_plain ?_)
 refine lq (sv a0) S (q_move rfl) fun a S => ?_
 obtain ⟨x36, e37, hm⟩ := bind_some hm
 refine lx_call (xs := [.tmp 11, .const (sv [10])]) S trivial (by decide) rfl rfl Tryd.call41 ((strings_Split_ok (hG.ext H.ext).toGlob   e37).mono ?_)
 rintro e w34 ⟨v38, rfl, Hc35⟩
 have H := H.call1 Hc35
 refine ⟨_, rfl, trivial, fun a S => ?_⟩
 refine lq v38 S (q_assign rfl) fun a S => ?_
 refine lx_nil (thenN ?_)
 refine wp_seq (region_plain ?_)
 refine lq v38 S (q_move rfl) fun a S => ?_
 obtain ⟨x41, e42, hm⟩ := bind_some hm
 have hlt := lt_of_idx (idx_some e42).2
 refine lq (ePtr v38 ((0 : Int).toNat * 1)) S (q_indexAddr rfl (H.isSl 0 rfl) rfl (idx_some e42).1 hlt Tryd.underlying47 Tryd.sizeOf9) fun a S => ?_
 obtain ⟨c43, h44, hat45⟩ := (H.rdAt 0 rfl).elem (idx_some e42).2
 obtain rfl := h44
 refine lx_e (sv x41) S trivial (by decide) rfl trivial (q_load1 rfl Tryd.isAgg9 (by rintro _ rfl; exact (hat45 0 _ rfl))) (fun a S => ?_)
 refine lq (.bool (x41 == ([116, 114, 117, 101] : Str))) S (q_seql rfl rfl) fun a S => ?_
 refine lq (.agg #[(.bool (x41 == ([116, 114, 117, 101] : Str))), (.slice none 0 0)]) S (q_build (zs := [(.bool false), (.slice none 0 0)]) (szs := [1, 1]) (ps := [(0, [(.bool (x41 == ([116, 114, 117, 101] : Str)))])]) (parts := [(0, .tmp 16)]) rfl Tryd.underlying27 Tryd.zeroValue27 (fun w => by simp [Tryd.sizeOf22, Tryd.sizeOf4]) ⟨rfl, rfl, Nat.le_of_ble_eq_true rfl, trivial⟩ rfl) fun a S => ?_
 refine lx_alloc S trivial (by decide) rfl H Tryd.zeroValue27 rfl (fun b46 w47 H => ⟨trivial, fun a S => ?_⟩)
 refine lx_storeBox (o := 0) (i := 0) (us := [(.bool (x41 == ([116, 114, 117, 101] : Str))), (.slice none 0 0)]) (cs' := [(.bool (x41 == ([116, 114, 117, 101] : Str))), (.slice none 0 0)]) S trivial rfl H rfl rfl rfl rfl Tryd.sizeOf27 (Nat.le_of_ble_eq_true rfl) (List.forall_mem_cons.2 ⟨rfl, (List.forall_mem_cons.2 ⟨rfl, (fun _ h => nomatch h)⟩)⟩) rfl (fun w49 H => ⟨trivial, fun a S => ?_⟩)
 change Heap w0 [bA b46 [(.bool (x41 == ([116, 114, 117, 101] : Str))), (.slice none 0 0)] 27, oA (rList rStr) v38 x36, bA b31 [(.bool false), (.slice none 0 0)] 27] w49 at H
 refine lx_nil (thenN ?_)
 refine wp_seq (wp_seq (region_plain ?_))
 refine lq v38 S (q_move rfl) fun a S => ?_
 obtain ⟨xs50, e51, hm⟩ := bind_some hm
 have hsb := (sub_some e51).1
 refine lq (subV v38 ((1 : Int)).toNat ((x36.length : Int)).toNat 1) S (q_slice (lo := (some (.const (.int .i64 (1))))) (hi := none) (l := (1 : Int)) (h := (x36.length : Int)) (size := 1) rfl (H.isSl 1 rfl) Tryd.underlying47 Tryd.sizeOf9 rfl rfl hsb.1 hsb.2.1 hsb.2.2) fun a S => ?_
 have H : Heap w0 [oA (rList rStr) v38 x36, bA b46 [(.bool (x41 == ([116, 114, 117, 101] : Str))), (.slice none 0 0)] 27, bA b31 [(.bool false), (.slice none 0 0)] 27] w49 := H.front 1 rfl
 have H : Heap w0 [oA (rList rStr) (subV v38 ((1 : Int)).toNat ((x36.length : Int)).toNat 1) xs50, bA b46 [(.bool (x41 == ([116, 114, 117, 101] : Str))), (.slice none 0 0)] 27, bA b31 [(.bool false), (.slice none 0 0)] 27] w49 := H.cut e51
 refine lq (.int .i64 (xs50.length : Int)) S (q_lenSl rfl (H.isSl 0 rfl) rfl Tryd.underlying47) fun a S => ?_
 refine lq (.int .i64 (0 : Int)) S (q_move rfl) fun a S => ?_
 refine lx_nil (thenN ?_)
 obtain ⟨res116, hit117, hk120⟩ := bind_some hm
 obtain ⟨f118, hf119, hit117⟩ := iter_name hit117
 refine block_loop (fun a w => ∃ (xs114 : List (List Int)) (v113 : Value), Slots a 51 [(0, (sv a0)), (2, (bp b31)), (5, (bp b46))] ∧ Heap w0 [bA b31 [(.bool false), (.slice none 0 0)] 27, bA b46 [(.bool (x41 == ([116, 114, 117, 101] : Str))), v113] 27, oA (rList (rList (rInt .i64))) v113 xs114] w ∧ res116 = .inl (xs114)) ?_ ?_
 ·rintro a w ⟨xs114, v113, S, H, rfl⟩
  have hm := ctl_inl hk120
  refine thenN ?_
  refine wp_seq (wp_seq (region_plain ?_))
  refine lx_e (.agg #[(.bool (x41 == ([116, 114, 117, 101] : Str))), v113]) S trivial (by decide) rfl trivial (q_loadA (cs := [(.bool (x41 == ([116, 114, 117, 101] : Str))), v113]) rfl (isP_bp _) Tryd.isAgg27 Tryd.sizeOf27 (by rintro _ rfl; exact (fun j u hu => boxAt (i := 1) H rfl hu))) (fun a S => ?_)
  obtain ⟨x123, e124, hm⟩ := bind_some hm
  refine lx_call (xs := [.tmp 40]) S trivial (by decide) rfl rfl Tryd.call9 ((impl_ProofText_ok (a0 := ((x41 == ([116, 114, 117, 101] : Str)), xs114)) (hG.ext H.ext).toGlob ⟨[(.bool (x41 == ([116, 114, 117, 101] : Str))), v113], rfl, ⟨[(.bool (x41 == ([116, 114, 117, 101] : Str)))], [v113], rfl, rfl, ((H.rdAt 2 rfl)).list_rd⟩⟩ e124).mono ?_)
  rintro e w121 ⟨rfl, Hc122⟩
  have H := H.call0 Hc122
  refine ⟨_, rfl, trivial, fun a S => ?_⟩
  refine lq (sv x123) S (q_assign rfl) fun a S => ?_
  refine lx_nil (thenN ?_)
  refine wp_seq (region_plain ?_)
  refine lq (sv x123) S (q_move rfl) fun a S => ?_
  refine lq (.bool (x123 == ([] : Str))) S (q_seql rfl rfl) fun a S => ?_
  refine lq (.bool (x123 == ([] : Str))) S (q_move rfl) fun a S => ?_
  obtain ⟨t126, e127, hm⟩ := bind_some hm
  refine lx_cut 4 (fun a w => Slots a 51 [(2, (bp b31)), (5, (bp b46)), (48, (.bool t126))] ∧ Heap w0 [bA b31 [(.bool false), (.slice none 0 0)] 27, bA b46 [(.bool (x41 == ([116, 114, 117, 101] : Str))), v113] 27, oA (rList (rList (rInt .i64))) v113 xs114] w) ?_ ?_
  ·by_cases hc128 : (x123 == ([] : Str)) = true
   ·have hm := ite_t hc128 e127
    refine lx_skip S rfl rfl (isB_ne hc128) (by decide) (fun a S => ?_)
    refine lx_skip S rfl rfl (isB_ne hc128) (by decide) (fun a S => ?_)
    refine lx_skip S rfl rfl (isB_ne hc128) (by decide) (fun a S => ?_)
    refine lq (.bool true) S (q_pickT' rfl hc128 rfl) fun a S => ?_
    refine lx_nil ?_
    obtain rfl := Option.some.inj hm
    exact ⟨S.sub ⟨rfl, rfl, rfl, trivial⟩, H⟩
   ·have hm := ite_f (eq_false_of_ne_true hc128) e127
    have hc128 : (x123 == ([] : Str)) = false := eq_false_of_ne_true hc128
    refine lx_q (sv x123) S (want_b rfl rfl hc128) (by decide) (q_move rfl) (fun a S => ?_)
    refine lx_q (sv a0) S (want_b rfl rfl hc128) (by decide) (q_move rfl) (fun a S => ?_)
    refine lx_q (.bool (x123 != a0)) S (want_b rfl rfl hc128) (by decide) (q_sneq rfl rfl) (fun a S => ?_)
    refine lq (.bool (x123 != a0)) S (q_pickF' rfl hc128 rfl) fun a S => ?_
    refine lx_nil ?_
    obtain rfl := Option.some.inj hm
    exact ⟨S.sub ⟨rfl, rfl, rfl, trivial⟩, H⟩
  ·rintro a w ⟨S, H⟩
   refine lx_nil (thenN ?_)
   refine cond_b S rfl (fun hc129 => ?_) (fun hc129 => ?_)
   ·have hm := ite_t hc129 hm
    refine wp_seq (region_plain ?_)
    refine lq (.agg #[(.bool false), (.slice none 0 0)]) S (q_build (zs := [(.bool false), (.slice none 0 0)]) (szs := [1, 1]) (ps := []) (parts := []) rfl Tryd.underlying27 Tryd.zeroValue27 (fun w => by simp [Tryd.sizeOf22, Tryd.sizeOf4]) trivial rfl) fun a S => ?_
    refine lx_storeBox (o := 0) (i := 0) (us := [(.bool false), (.slice none 0 0)]) (cs' := [(.bool false), (.slice none 0 0)]) S trivial rfl H rfl rfl rfl rfl Tryd.sizeOf27 (Nat.le_of_ble_eq_true rfl) (List.forall_mem_cons.2 ⟨rfl, (List.forall_mem_cons.2 ⟨rfl, (fun _ h => nomatch h)⟩)⟩) rfl (fun w130 H => ⟨trivial, fun a S => ?_⟩)
    change Heap w0 [bA b31 [(.bool false), (.slice none 0 0)] 27, bA b46 [(.bool (x41 == ([116, 114, 117, 101] : Str))), v113] 27, oA (rList (rList (rInt .i64))) v113 xs114] w130 at H
    refine lq (.bool false) S (q_assign rfl) fun a S => ?_
    refine lx_nil (thenN ?_)
    refine wp_ret ?_
    have hrv0 := RV.cellA (t := 27) (q := 2) (env := [(2, (bp b31)), (3, (.bool false)), (5, (bp b46)), (48, (.bool t126)), (49, (.agg #[(.bool false), (.slice none 0 0)]))]) H (i := 0) rfl rfl Tryd.isAgg27 Tryd.sizeOf27
    have hrv1 : RV Tryd.prog _ w130 (.tmp 3) (.bool false) := (rfl : lk [(2, (bp b31)), (3, (.bool false)), (5, (bp b46)), (48, (.bool t126)), (49, (.agg #[(.bool false), (.slice none 0 0)]))] 3 = some (.bool false))
    refine then_ret ?_
    obtain rfl := Option.some.inj hm
    have H : Heap w0 [oA (rList (rList (rInt .i64))) (.slice none 0 0) ([] : List (List Int)), bA b31 [(.bool false), (.slice none 0 0)] 27, bA b46 [(.bool (x41 == ([116, 114, 117, 101] : Str))), v113] 27, oA (rList (rList (rInt .i64))) v113 xs114] w130 := H.nilList (rList (rInt .i64))
    have H : Heap w0 [oA (rList (rList (rInt .i64))) (.slice none 0 0) ([] : List (List Int))] w130 := H.sel [0] (by decide)
    exact leaveR2 S rfl hrv0 hrv1 ⟨(.slice none 0 0), rfl, H⟩
   ·have hm := ite_f hc129 hm
    refine wp_skip (thenN ?_)
    refine wp_seq (region_plain ?_)
    refine lx_e (.agg #[(.bool (x41 == ([116, 114, 117, 101] : Str))), v113]) S trivial (by decide) rfl trivial (q_loadA (cs := [(.bool (x41 == ([116, 114, 117, 101] : Str))), v113]) rfl (isP_bp _) Tryd.isAgg27 Tryd.sizeOf27 (by rintro _ rfl; exact (fun j u hu => boxAt (i := 1) H rfl hu))) (fun a S => ?_)
    refine lx_storeBox (o := 0) (i := 0) (us := [(.bool (x41 == ([116, 114, 117, 101] : Str))), v113]) (cs' := [(.bool (x41 == ([116, 114, 117, 101] : Str))), v113]) S trivial rfl H rfl rfl rfl rfl Tryd.sizeOf27 (Nat.le_of_ble_eq_true rfl) (List.forall_mem_cons.2 ⟨rfl, (List.forall_mem_cons.2 ⟨one_sl (H.isSl 2 rfl), (fun _ h => nomatch h)⟩)⟩) rfl (fun w132 H => ⟨trivial, fun a S => ?_⟩)
    change Heap w0 [bA b31 [(.bool (x41 == ([116, 114, 117, 101] : Str))), v113] 27, bA b46 [(.bool (x41 == ([116, 114, 117, 101] : Str))), v113] 27, oA (rList (rList (rInt .i64))) v113 xs114] w132 at H
    refine lq (.bool true) S (q_assign rfl) fun a S => ?_
    refine lx_nil (thenN ?_)
    refine wp_ret ?_
    have hrv0 := RV.cellA (t := 27) (q := 2) (env := [(2, (bp b31)), (3, (.bool true)), (5, (bp b46)), (48, (.bool t126)), (50, (.agg #[(.bool (x41 == ([116, 114, 117, 101] : Str))), v113]))]) H (i := 0) rfl rfl Tryd.isAgg27 Tryd.sizeOf27
    have hrv1 : RV Tryd.prog _ w132 (.tmp 3) (.bool true) := (rfl : lk [(2, (bp b31)), (3, (.bool true)), (5, (bp b46)), (48, (.bool t126)), (50, (.agg #[(.bool (x41 == ([116, 114, 117, 101] : Str))), v113]))] 3 = some (.bool true))
    obtain rfl := Option.some.inj hm
    have H : Heap w0 [oA (rList (rList (rInt .i64))) v113 xs114] w132 := H.sel [2] (by decide)
    exact leaveR2 S rfl hrv0 hrv1 ⟨v113, rfl, H⟩
 ·skip
  have H : Heap w0 [oA (rList (rList (rInt .i64))) (.slice none 0 0) ([] : List (List Int)), oA (rList rStr) (subV v38 ((1 : Int)).toNat ((x36.length : Int)).toNat 1) xs50, bA b46 [(.bool (x41 == ([116, 114, 117, 101] : Str))), (.slice none 0 0)] 27, bA b31 [(.bool false), (.slice none 0 0)] 27] w49 := H.nilList (rList (rInt .i64))
  have H : Heap w0 [oA (rList rStr) (subV v38 ((1 : Int)).toNat ((x36.length : Int)).toNat 1) xs50, oA (rList (rList (rInt .i64))) (.slice none 0 0) ([] : List (List Int)), bA b46 [(.bool (x41 == ([116, 114, 117, 101] : Str))), (.slice none 0 0)] 27, bA b31 [(.bool false), (.slice none 0 0)] 27] w49 := H.front 1 rfl
  have H : Heap w0 [oA (rList (rList (rInt .i64))) (.slice none 0 0) ([] : List (List Int)), oA (rList rStr) (subV v38 ((1 : Int)).toNat ((x36.length : Int)).toNat 1) xs50, bA b46 [(.bool (x41 == ([116, 114, 117, 101] : Str))), (.slice none 0 0)] 27, bA b31 [(.bool false), (.slice none 0 0)] 27] w49 := H.front 1 rfl
  have H : Heap w0 [bA b46 [(.bool (x41 == ([116, 114, 117, 101] : Str))), (.slice none 0 0)] 27, oA (rList (rList (rInt .i64))) (.slice none 0 0) ([] : List (List Int)), oA (rList rStr) (subV v38 ((1 : Int)).toNat ((x36.length : Int)).toNat 1) xs50, bA b31 [(.bool false), (.slice none 0 0)] 27] w49 := H.front 2 rfl
  have H : Heap w0 [bA b31 [(.bool false), (.slice none 0 0)] 27, bA b46 [(.bool (x41 == ([116, 114, 117, 101] : Str))), (.slice none 0 0)] 27, oA (rList (rList (rInt .i64))) (.slice none 0 0) ([] : List (List Int)), oA (rList rStr) (subV v38 ((1 : Int)).toNat ((x36.length : Int)).toNat 1) xs50] w49 := H.front 3 rfl
  refine loop_ghost (fun n a w => ∃ (xs82 : List (List Int)) (x84 : Int) (v81 : Value), Slots a 51 [(0, (sv a0)), (2, (bp b31)), (5, (bp b46)), (19, (subV v38 ((1 : Int)).toNat ((x36.length : Int)).toNat 1)), (20, (.int .i64 (xs50.length : Int))), (21, (.int .i64 x84))] ∧ Heap w0 [bA b31 [(.bool false), (.slice none 0 0)] 27, bA b46 [(.bool (x41 == ([116, 114, 117, 101] : Str))), v81] 27, oA (rList (rList (rInt .i64))) v81 xs82, oA (rList rStr) (subV v38 ((1 : Int)).toNat ((x36.length : Int)).toNat 1) xs50] w ∧ iter f118 n (xs82, x84) = some res116) _ ⟨[], (0 : Int), (.slice none 0 0), S.sub ⟨rfl, rfl, rfl, rfl, rfl, rfl, trivial⟩, H, hit117⟩ ?_
  rintro n a w ⟨xs82, x84, v81, S, H, hit117⟩
  obtain ⟨m134, o135, rfl, hm, hc136⟩ := iter_step hit117
  rw [hf119] at hm
  refine wp_seq (region_plain ?_)
  refine lq (.bool (decide (x84 < (xs50.length : Int)))) S (q_lss rfl rfl) fun a S => ?_
  refine lx_nil (thenN ?_)
  refine wp_seq ?_
  refine cond_b S rfl (fun hc137 => ?_) (fun hc137 => ?_)
  ·have hm := ite_t hc137 hm
   refine wp_skip (thenN ?_)
   refine wp_seq ?_
   refine wp_block ?_
   refine wp_seq (region_plain ?_)
   obtain ⟨x138, e139, hm⟩ := bind_some hm
   have hlt := lt_of_idx (idx_some e139).2
   refine lq (ePtr (subV v38 ((1 : Int)).toNat ((x36.length : Int)).toNat 1) (x84.toNat * 1)) S (q_indexAddr rfl (H.isSl 3 rfl) rfl (idx_some e139).1 hlt Tryd.underlying47 Tryd.sizeOf9) fun a S => ?_
   obtain ⟨c140, h141, hat142⟩ := (H.rdAt 3 rfl).elem (idx_some e139).2
   obtain rfl := h141
   refine lx_e (sv x138) S trivial (by decide) rfl trivial (q_load1 rfl Tryd.isAgg9 (by rintro _ rfl; exact (hat142 0 _ rfl))) (fun a S => ?_)
   refine lq (sv x138) S (q_assign rfl) fun a S => ?_
   refine lx_nil (thenN ?_)
   refine wp_seq (region_plain ?_)
   refine lq (sv x138) S (q_move rfl) fun a S => ?_
   obtain ⟨x145, e146, hm⟩ := bind_some hm
   refine lx_call (xs := [.tmp 26]) S trivial (by decide) rfl rfl Tryd.call42 ((impl_ReadList_ok (hG.ext H.ext)  e146).mono ?_)
   rintro e w143 ⟨v147, rfl, Hc144⟩
   have H := H.call1 Hc144
   refine ⟨_, rfl, trivial, fun a S => ?_⟩
   refine lq (.tuple #[v147, (.bool x145.2)]) S (q_move rfl) fun a S => ?_
   refine lq v147 S (q_extract rfl rfl) fun a S => ?_
   refine lq (.bool x145.2) S (q_extract rfl rfl) fun a S => ?_
   refine lq v147 S (q_assign rfl) fun a S => ?_
   refine lq (.bool x145.2) S (q_assign rfl) fun a S => ?_
   refine lx_nil (thenN ?_)
   refine wp_seq (wp_seq (region_plain ?_))
   refine lq (.bool x145.2) S (q_move rfl) fun a S => ?_
   refine lq (.bool (!x145.2)) S (q_not rfl) fun a S => ?_
   refine lx_nil (thenN ?_)
   refine cond_b S rfl (fun hc150 => ?_) (fun hc150 => ?_)
   ·have hm := ite_t hc150 hm
    refine wp_seq (region_plain ?_)
    refine lq (.agg #[(.bool false), (.slice none 0 0)]) S (q_build (zs := [(.bool false), (.slice none 0 0)]) (szs := [1, 1]) (ps := []) (parts := []) rfl Tryd.underlying27 Tryd.zeroValue27 (fun w => by simp [Tryd.sizeOf22, Tryd.sizeOf4]) trivial rfl) fun a S => ?_
    refine lx_storeBox (o := 0) (i := 1) (us := [(.bool false), (.slice none 0 0)]) (cs' := [(.bool false), (.slice none 0 0)]) S trivial rfl H rfl rfl rfl rfl Tryd.sizeOf27 (Nat.le_of_ble_eq_true rfl) (List.forall_mem_cons.2 ⟨rfl, (List.forall_mem_cons.2 ⟨rfl, (fun _ h => nomatch h)⟩)⟩) rfl (fun w151 H => ⟨trivial, fun a S => ?_⟩)
    change Heap w0 [oA (rList (rInt .i64)) v147 x145.1, bA b31 [(.bool false), (.slice none 0 0)] 27, bA b46 [(.bool (x41 == ([116, 114, 117, 101] : Str))), v81] 27, oA (rList (rList (rInt .i64))) v81 xs82, oA (rList rStr) (subV v38 ((1 : Int)).toNat ((x36.length : Int)).toNat 1) xs50] w151 at H
    refine lq (.bool false) S (q_assign rfl) fun a S => ?_
    refine lx_nil (thenN ?_)
    refine wp_ret ?_
    have hrv0 := RV.cellA (t := 27) (q := 2) (env := [(0, (sv a0)), (2, (bp b31)), (3, (.bool false)), (5, (bp b46)), (7, (sv x138)), (8, v147), (9, (.bool x145.2)), (19, (subV v38 ((1 : Int)).toNat ((x36.length : Int)).toNat 1)), (20, (.int .i64 (xs50.length : Int))), (21, (.int .i64 x84)), (22, (.bool (decide (x84 < (xs50.length : Int))))), (23, (ePtr (subV v38 ((1 : Int)).toNat ((x36.length : Int)).toNat 1) (x84.toNat * 1))), (24, (sv x138)), (25, (.tuple #[v147, (.bool x145.2)])), (26, (sv x138)), (27, (.tuple #[v147, (.bool x145.2)])), (28, v147), (29, (.bool x145.2)), (30, (.bool x145.2)), (31, (.bool (!x145.2))), (32, (.agg #[(.bool false), (.slice none 0 0)]))]) H (i := 1) rfl rfl Tryd.isAgg27 Tryd.sizeOf27
    have hrv1 : RV Tryd.prog _ w151 (.tmp 3) (.bool false) := (rfl : lk [(0, (sv a0)), (2, (bp b31)), (3, (.bool false)), (5, (bp b46)), (7, (sv x138)), (8, v147), (9, (.bool x145.2)), (19, (subV v38 ((1 : Int)).toNat ((x36.length : Int)).toNat 1)), (20, (.int .i64 (xs50.length : Int))), (21, (.int .i64 x84)), (22, (.bool (decide (x84 < (xs50.length : Int))))), (23, (ePtr (subV v38 ((1 : Int)).toNat ((x36.length : Int)).toNat 1) (x84.toNat * 1))), (24, (sv x138)), (25, (.tuple #[v147, (.bool x145.2)])), (26, (sv x138)), (27, (.tuple #[v147, (.bool x145.2)])), (28, v147), (29, (.bool x145.2)), (30, (.bool x145.2)), (31, (.bool (!x145.2))), (32, (.agg #[(.bool false), (.slice none 0 0)]))] 3 = some (.bool false))
    refine then_ret ?_
    refine inBlock_ret ?_
    refine then_ret ?_
    refine then_ret ?_
    refine inBlock_ret ?_
    refine then_ret ?_
    refine then_ret ?_
    obtain rfl := it_brk hm hc136
    have hm := ctl_inr hk120
    obtain rfl := Option.some.inj hm
    have H : Heap w0 [oA (rList (rList (rInt .i64))) (.slice none 0 0) ([] : List (List Int)), oA (rList (rInt .i64)) v147 x145.1, bA b31 [(.bool false), (.slice none 0 0)] 27, bA b46 [(.bool (x41 == ([116, 114, 117, 101] : Str))), v81] 27, oA (rList (rList (rInt .i64))) v81 xs82, oA (rList rStr) (subV v38 ((1 : Int)).toNat ((x36.length : Int)).toNat 1) xs50] w151 := H.nilList (rList (rInt .i64))
    have H : Heap w0 [oA (rList (rList (rInt .i64))) (.slice none 0 0) ([] : List (List Int))] w151 := H.sel [0] (by decide)
    exact leaveR2 S rfl hrv0 hrv1 ⟨(.slice none 0 0), rfl, H⟩
   ·have hm := ite_f hc150 hm
    refine wp_skip (thenN ?_)
    refine region_plain ?_
    refine lq (pAdd (bp b46) 1) S (q_fieldAddr' 1 22 rfl (isP_bp _) Tryd.underlying27 rfl Tryd.sizeOf22) fun a S => ?_
    refine lx_e v81 S trivial (by decide) rfl trivial (q_load1 rfl Tryd.isAgg22 (by rintro _ rfl; exact (At.of_add (m := 1) (j := 0) (boxAt (i := 2) H rfl (j := 1) rfl)))) (fun a S => ?_)
    refine lq v147 S (q_move rfl) fun a S => ?_
    refine lx_buildSlice (r := (rList (rInt .i64))) (xs := [x145.1]) (ps := [(0, [v147])]) (cs := [v147]) (parts := [(0, .tmp 35)]) S trivial (by decide) rfl H rfl Tryd.underlying22 Tryd.sizeOf48 Tryd.zeroValue48 (by decide) ⟨rfl, (cells_sl (H.isSl 0 rfl)), Nat.le_of_ble_eq_true rfl, trivial⟩ (by intro zs hz; exact fill_dense hz ⟨rfl, trivial⟩ rfl rfl) rfl (by decide) (fun w F hA => ownL_one_mk (ownF (oA_list.1 hA))) (fun v153 w154 H => ⟨trivial, fun a S => ?_⟩)
    obtain ⟨x156, e157, hm⟩ := bind_some hm
    obtain ⟨hle, hap⟩ := app_some e157
    replace hap := hap.symm
    subst hap
    have H : Heap w0 [oA (rList (rList (rInt .i64))) v153 [x145.1], bA b31 [(.bool false), (.slice none 0 0)] 27, bA b46 [(.bool (x41 == ([116, 114, 117, 101] : Str))), v81] 27, oA (rList (rList (rInt .i64))) v81 xs82, oA (rList rStr) (subV v38 ((1 : Int)).toNat ((x36.length : Int)).toNat 1) xs50] w154 := H.front 0 rfl
    have H : Heap w0 [oA (rList (rList (rInt .i64))) v81 xs82, oA (rList (rList (rInt .i64))) v153 [x145.1], bA b31 [(.bool false), (.slice none 0 0)] 27, bA b46 [(.bool (x41 == ([116, 114, 117, 101] : Str))), v81] 27, oA (rList rStr) (subV v38 ((1 : Int)).toNat ((x36.length : Int)).toNat 1) xs50] w154 := H.front 3 rfl
    refine lx_appendOwn (r := (rList (rInt .i64))) S trivial (by decide) rfl H rfl rfl Tryd.underlying22 Tryd.ti48 rfl rfl rfl (Nat.le_of_ble_eq_true rfl) (by decide) hle (fun v158 w159 H => ⟨trivial, fun a S => ?_⟩)
    refine lq (pAdd (bp b46) 1) S (q_fieldAddr' 1 22 rfl (isP_bp _) Tryd.underlying27 rfl Tryd.sizeOf22) fun a S => ?_
    refine lx_storeBox (o := 1) (i := 2) (us := [v158]) (cs' := [(.bool (x41 == ([116, 114, 117, 101] : Str))), v158]) S trivial rfl H rfl rfl rfl (cells_sl (H.isSl 0 rfl)) Tryd.sizeOf22 (Nat.le_of_ble_eq_true rfl) (List.forall_mem_cons.2 ⟨one_sl (H.isSl 0 rfl), (fun _ h => nomatch h)⟩) rfl (fun w161 H => ⟨trivial, fun a S => ?_⟩)
    change Heap w0 [oA (rList (rList (rInt .i64))) v158 (xs82 ++ [x145.1]), bA b31 [(.bool false), (.slice none 0 0)] 27, bA b46 [(.bool (x41 == ([116, 114, 117, 101] : Str))), v158] 27, oA (rList rStr) (subV v38 ((1 : Int)).toNat ((x36.length : Int)).toNat 1) xs50] w161 at H
    refine lx_nil ?_
    refine inBlock_norm ?_
    refine thenN ?_
    refine region_plain ?_
    refine lq (.int .i64 (W (x84 + (1 : Int)))) S (q_add rfl rfl) fun a S => ?_
    refine lq (.int .i64 (W (x84 + (1 : Int)))) S (q_move rfl) fun a S => ?_
    refine lx_nil ?_
    have H : Heap w0 [oA (rList rStr) (subV v38 ((1 : Int)).toNat ((x36.length : Int)).toNat 1) xs50, oA (rList (rList (rInt .i64))) v158 (xs82 ++ [x145.1]), bA b31 [(.bool false), (.slice none 0 0)] 27, bA b46 [(.bool (x41 == ([116, 114, 117, 101] : Str))), v158] 27] w161 := H.front 3 rfl
    have H : Heap w0 [oA (rList (rList (rInt .i64))) v158 (xs82 ++ [x145.1]), oA (rList rStr) (subV v38 ((1 : Int)).toNat ((x36.length : Int)).toNat 1) xs50, bA b31 [(.bool false), (.slice none 0 0)] 27, bA b46 [(.bool (x41 == ([116, 114, 117, 101] : Str))), v158] 27] w161 := H.front 1 rfl
    have H : Heap w0 [bA b46 [(.bool (x41 == ([116, 114, 117, 101] : Str))), v158] 27, oA (rList (rList (rInt .i64))) v158 (xs82 ++ [x145.1]), oA (rList rStr) (subV v38 ((1 : Int)).toNat ((x36.length : Int)).toNat 1) xs50, bA b31 [(.bool false), (.slice none 0 0)] 27] w161 := H.front 3 rfl
    have H : Heap w0 [bA b31 [(.bool false), (.slice none 0 0)] 27, bA b46 [(.bool (x41 == ([116, 114, 117, 101] : Str))), v158] 27, oA (rList (rList (rInt .i64))) v158 (xs82 ++ [x145.1]), oA (rList rStr) (subV v38 ((1 : Int)).toNat ((x36.length : Int)).toNat 1) xs50] w161 := H.front 3 rfl
    exact ⟨m134, Nat.lt_succ_self _, (xs82 ++ [x145.1]), (W (x84 + (1 : Int))), v158, S.sub ⟨rfl, rfl, rfl, rfl, rfl, rfl, trivial⟩, H, it_cont hm hc136⟩
  ·have hm := ite_f hc137 hm
   refine wp_exit ?_
   refine then_exit ?_
   refine then_exit ?_
   refine inBlock_exit ?_
   obtain rfl := it_brk hm hc136
   have H : Heap w0 [bA b31 [(.bool false), (.slice none 0 0)] 27, bA b46 [(.bool (x41 == ([116, 114, 117, 101] : Str))), v81] 27, oA (rList (rList (rInt .i64))) v81 xs82] w := H.sel [0, 1, 2] (by decide)
   exact ⟨xs82, v81, S.sub ⟨rfl, rfl, rfl, trivial⟩, H, rfl⟩

/-- laws.markInt64S -/
def laws_markInt64S_m (fuel : Nat) (a0 : (List Int)) (a1 : Int) : Option (Int × (List Int)) :=
  (iter (fun (s : (List Int) × (Int) × (Int)) => (match s with | (xs38, x39, x40) => (if (decide (x40 < (xs38.length : Int))) = true then (idx xs38 x40).bind fun _ => some (.inl ((xs38.set x40.toNat x39), (W (x39 + (1 : Int))), (W (x40 + (1 : Int))))) else some (.inr (.inl (x39, xs38)))) : Option (((List Int) × (Int) × (Int)) ⊕ ((Int × (List Int)) ⊕ (Int × (List Int)))))) fuel (a0, a1, (0 : Int))).bind fun res50 => ctl (β := Int × (List Int)) (ρ := Int × (List Int)) (τ := Int × (List Int)) res50 (fun (x48, xs49) => some ((x48, xs49))) (fun q => some (q))
set_option maxRecDepth 20000 in
theorem laws_markInt64S_ok {w0 : World} {fuel : Nat} {p0 : Value} {a0 : (List Int)} {a1 : Int} {w00 : World} {L : List Asrt} {r : Int × (List Int)} (H : Heap w00 (oA (rList (rInt .i64)) p0 a0 :: L) w0) (hm : laws_markInt64S_m fuel a0 a1 = some r) :
  Calls Tryd.prog 65 #[p0, .int .i64 a1] w0 fun e w => e = .returned (.int .i64 r.1) ∧ Heap w00 (oA (rList (rInt .i64)) p0 r.2 :: L) w := by
 unfold laws_markInt64S_m at hm
 refine enter (args := [p0, .int .i64 a1]) Tryd.func65 rfl 19 rfl (Nat.le_of_ble_eq_true rfl) (fun a S => ?_)
 refine wp_seq (region_plain ?_)
 refine lq (.int .i64 (0 : Int)) S (q_assign rfl) fun a S => ?_
 refine lx_nil (thenN ?_)
 refine wp_seq (wp_seq (region_plain ?_))
 refine lq (.int .i64 (0 : Int)) S (q_assign rfl) fun a S => ?_
 refine lx_nil (thenN ?_)
 obtain ⟨res50, hit51, hk54⟩ := bind_some hm
 obtain ⟨f52, hf53, hit51⟩ := iter_name hit51
 refine block_loop (fun a w => ∃ (x48 : Int) (xs49 : List Int), Slots a 19 [(1, (.int .i64 x48))] ∧ Heap w00 (oA (rList (rInt .i64)) p0 xs49 :: L) w ∧ res50 = .inl (x48, xs49)) ?_ ?_
 ·rintro a w ⟨x48, xs49, S, H, rfl⟩
  have hm := ctl_inl hk54
  refine thenN ?_
  refine wp_seq (region_plain ?_)
  refine lq (.int .i64 x48) S (q_move rfl) fun a S => ?_
  refine lq (.int .i64 x48) S (q_assign rfl) fun a S => ?_
  refine lx_nil (thenN ?_)
  refine wp_ret ?_
  obtain rfl := Option.some.inj hm
  exact leave1 S rfl rfl ⟨rfl, H⟩
 ·skip
  refine loop_ghost (fun n a w => ∃ (xs38 : List Int) (x39 : Int) (x40 : Int), Slots a 19 [(0, p0), (1, (.int .i64 x39)), (5, (.int .i64 x40))] ∧ Heap w00 (oA (rList (rInt .i64)) p0 xs38 :: L) w ∧ iter f52 n (xs38, x39, x40) = some res50) _ ⟨a0, a1, (0 : Int), S.sub ⟨rfl, rfl, rfl, trivial⟩, H, hit51⟩ ?_
  rintro n a w ⟨xs38, x39, x40, S, H, hit51⟩
  obtain ⟨m55, o56, rfl, hm, hc57⟩ := iter_step hit51
  rw [hf53] at hm
  refine wp_seq (wp_seq (region_plain ?_))
  refine lq (.int .i64 x40) S (q_move rfl) fun a S => ?_
  refine lq p0 S (q_move rfl) fun a S => ?_
  refine lq (.int .i64 (xs38.length : Int)) S (q_lenSl rfl (H.isSl 0 rfl) rfl Tryd.underlying48) fun a S => ?_
  refine lq (.bool (decide (x40 < (xs38.length : Int)))) S (q_lss rfl rfl) fun a S => ?_
  refine lx_nil (thenN ?_)
  refine cond_b S rfl (fun hc58 => ?_) (fun hc58 => ?_)
  ·have hm := ite_t hc58 hm
   refine wp_skip (thenN ?_)
   refine wp_seq ?_
   refine wp_block ?_
   refine wp_seq (region_plain ?_)
   refine lq p0 S (q_move rfl) fun a S => ?_
   refine lq (.int .i64 x40) S (q_move rfl) fun a S => ?_
   refine lq (.int .i64 x39) S (q_move rfl) fun a S => ?_
   obtain ⟨x59, e60, hm⟩ := bind_some hm
   have hlt := lt_of_idx (idx_some e60).2
   refine lq (ePtr p0 (x40.toNat * 1)) S (q_indexAddr rfl (H.isSl 0 rfl) rfl (idx_some e60).1 hlt Tryd.underlying48 Tryd.sizeOf2) fun a S => ?_
   refine lx_storeElem (r := (rInt .i64)) (us := [(.int .i64 x39)]) (off := 0) (e' := x39) S trivial rfl H.putE (ev_zero rfl) rfl (idx_some e60).2 rfl Tryd.sizeOf2 (Nat.le_of_ble_eq_true rfl) (List.forall_mem_cons.2 ⟨rfl, (fun _ h => nomatch h)⟩) (Upd.full rfl (fun w G hG => by cases (show G = [] from hG); exact ⟨rfl, rfl⟩)) (fun w61 H => ⟨trivial, fun a S => ?_⟩)
   refine lx_nil (thenN ?_)
   refine region_plain ?_
   refine lq (.int .i64 x39) S (q_move rfl) fun a S => ?_
   refine lq (.int .i64 (W (x39 + (1 : Int)))) S (q_add rfl rfl) fun a S => ?_
   refine lq (.int .i64 (W (x39 + (1 : Int)))) S (q_assign rfl) fun a S => ?_
   refine lx_nil ?_
   refine inBlock_norm ?_
   refine thenN ?_
   refine region_plain ?_
   refine lq (.int .i64 x40) S (q_move rfl) fun a S => ?_
   refine lq (.int .i64 (W (x40 + (1 : Int)))) S (q_add rfl rfl) fun a S => ?_
   refine lq (.int .i64 (W (x40 + (1 : Int)))) S (q_assign rfl) fun a S => ?_
   refine lx_nil ?_
   exact ⟨m55, Nat.lt_succ_self _, (xs38.set x40.toNat x39), (W (x39 + (1 : Int))), (W (x40 + (1 : Int))), S.sub ⟨rfl, rfl, rfl, trivial⟩, H, it_cont hm hc57⟩
  ·have hm := ite_f hc58 hm
   refine wp_exit ?_
   refine then_exit ?_
   refine then_exit ?_
   refine inBlock_exit ?_
   obtain rfl := it_brk hm hc57
   exact ⟨x39, xs38, S.sub ⟨rfl, trivial⟩, H, rfl⟩

/-- laws.markInt64SS -/
def laws_markInt64SS_m (fuel : Nat) (a0 : (List (List Int))) (a1 : Int) : Option (Int × (List (List Int))) :=
  (iter (fun (s : (List (List Int)) × (Int) × (Int)) => (match s with | (xs48, x49, x50) => (if (decide (x50 < (xs48.length : Int))) = true then (idx xs48 x50).bind fun x79 => (laws_markInt64S_m fuel x79 x49).bind fun x88 => some (.inl ((xs48.set x50.toNat x88.2), x88.1, (W (x50 + (1 : Int))))) else some (.inr (.inl (x49, xs48)))) : Option (((List (List Int)) × (Int) × (Int)) ⊕ ((Int × (List (List Int))) ⊕ (Int × (List (List Int))))))) fuel (a0, a1, (0 : Int))).bind fun res70 => ctl (β := Int × (List (List Int))) (ρ := Int × (List (List Int))) (τ := Int × (List (List Int))) res70 (fun (x68, xs69) => some ((x68, xs69))) (fun q => some (q))
set_option maxRecDepth 20000 in
theorem laws_markInt64SS_ok {w0 : World} {fuel : Nat} {p0 : Value} {a0 : (List (List Int))} {a1 : Int} {w00 : World} {L : List Asrt} {r : Int × (List (List Int))} (H : Heap w00 (oA (rList (rList (rInt .i64))) p0 a0 :: L) w0) (hm : laws_markInt64SS_m fuel a0 a1 = some r) :
  Calls Tryd.prog 43 #[p0, .int .i64 a1] w0 fun e w => e = .returned (.int .i64 r.1) ∧ Heap w00 (oA (rList (rList (rInt .i64))) p0 r.2 :: L) w := by
 unfold laws_markInt64SS_m at hm
 refine enter (args := [p0, .int .i64 a1]) Tryd.func43 rfl 19 rfl (Nat.le_of_ble_eq_true rfl) (fun a S => ?_)
 refine wp_seq (region_plain ?_)
 refine lq (.int .i64 (0 : Int)) S (q_assign rfl) fun a S => ?_
 refine lx_nil (thenN ?_)
 refine wp_seq (wp_seq (region_plain ?_))
 refine lq (.int .i64 (0 : Int)) S (q_assign rfl) fun a S => ?_
 refine lx_nil (thenN ?_)
 obtain ⟨res70, hit71, hk74⟩ := bind_some hm
 obtain ⟨f72, hf73, hit71⟩ := iter_name hit71
 refine block_loop (fun a w => ∃ (x68 : Int) (xs69 : List (List Int)), Slots a 19 [(1, (.int .i64 x68))] ∧ Heap w00 (oA (rList (rList (rInt .i64))) p0 xs69 :: L) w ∧ res70 = .inl (x68, xs69)) ?_ ?_
 ·rintro a w ⟨x68, xs69, S, H, rfl⟩
  have hm := ctl_inl hk74
  refine thenN ?_
  refine wp_seq (region_plain ?_)
  refine lq (.int .i64 x68) S (q_move rfl) fun a S => ?_
  refine lq (.int .i64 x68) S (q_assign rfl) fun a S => ?_
  refine lx_nil (thenN ?_)
  refine wp_ret ?_
  obtain rfl := Option.some.inj hm
  exact leave1 S rfl rfl ⟨rfl, H⟩
 ·skip
  refine loop_ghost (fun n a w => ∃ (xs48 : List (List Int)) (x49 : Int) (x50 : Int), Slots a 19 [(0, p0), (1, (.int .i64 x49)), (5, (.int .i64 x50))] ∧ Heap w00 (oA (rList (rList (rInt .i64))) p0 xs48 :: L) w ∧ iter f72 n (xs48, x49, x50) = some res70) _ ⟨a0, a1, (0 : Int), S.sub ⟨rfl, rfl, rfl, trivial⟩, H, hit71⟩ ?_
  rintro n a w ⟨xs48, x49, x50, S, H, hit71⟩
  obtain ⟨m75, o76, rfl, hm, hc77⟩ := iter_step hit71
  rw [hf73] at hm
  refine wp_seq (wp_seq (region_plain ?_))
  refine lq (.int .i64 x50) S (q_move rfl) fun a S => ?_
  refine lq p0 S (q_move rfl) fun a S => ?_
  refine lq (.int .i64 (xs48.length : Int)) S (q_lenSl rfl (H.isSl 0 rfl) rfl Tryd.underlying22) fun a S => ?_
  refine lq (.bool (decide (x50 < (xs48.length : Int)))) S (q_lss rfl rfl) fun a S => ?_
  refine lx_nil (thenN ?_)
  refine cond_b S rfl (fun hc78 => ?_) (fun hc78 => ?_)
  ·have hm := ite_t hc78 hm
   refine wp_skip (thenN ?_)
   refine wp_seq ?_
   refine wp_block ?_
   refine region_plain ?_
   refine lq p0 S (q_move rfl) fun a S => ?_
   refine lq (.int .i64 x50) S (q_move rfl) fun a S => ?_
   obtain ⟨x79, e80, hm⟩ := bind_some hm
   have hlt := lt_of_idx (idx_some e80).2
   refine lq (ePtr p0 (x50.toNat * 1)) S (q_indexAddr rfl (H.isSl 0 rfl) rfl (idx_some e80).1 hlt Tryd.underlying22 Tryd.sizeOf48) fun a S => ?_
   obtain ⟨c81, h82, hat83⟩ := (H.rdAt 0 rfl).elem (idx_some e80).2
   obtain ⟨v84, rfl, h85⟩ := rd_list h82
   refine lx_e v84 S trivial (by decide) rfl trivial (q_load1 rfl Tryd.isAgg48 (by rintro _ rfl; exact (hat83 0 _ rfl))) (fun a S => ?_)
   refine lq (.int .i64 x49) S (q_move rfl) fun a S => ?_
   obtain ⟨x88, e89, hm⟩ := bind_some hm
   obtain ⟨u90, hat91, H⟩ := H.lend (idx_some e80).2 (Lend.here)
   obtain rfl : v84 = u90 := At.eq (hat83 0 _ rfl) hat91
   refine lx_call (xs := [.tmp 15, .tmp 16]) S trivial (by decide) rfl rfl Tryd.call65 ((laws_markInt64S_ok H  e89).mono ?_)
   rintro e w86 ⟨rfl, H⟩
   have H : Heap w00 (oA (rList (rList (rInt .i64))) p0 (xs48.set x50.toNat x88.2) :: L) w86 := H.back
   refine ⟨_, rfl, trivial, fun a S => ?_⟩
   refine lq (.int .i64 x88.1) S (q_assign rfl) fun a S => ?_
   refine lx_nil ?_
   refine inBlock_norm ?_
   refine thenN ?_
   refine region_plain ?_
   refine lq (.int .i64 x50) S (q_move rfl) fun a S => ?_
   refine lq (.int .i64 (W (x50 + (1 : Int)))) S (q_add rfl rfl) fun a S => ?_
   refine lq (.int .i64 (W (x50 + (1 : Int)))) S (q_assign rfl) fun a S => ?_
   refine lx_nil ?_
   exact ⟨m75, Nat.lt_succ_self _, (xs48.set x50.toNat x88.2), x88.1, (W (x50 + (1 : Int))), S.sub ⟨rfl, rfl, rfl, trivial⟩, H, it_cont hm hc77⟩
  ·have hm := ite_f hc78 hm
   refine wp_exit ?_
   refine then_exit ?_
   refine then_exit ?_
   refine inBlock_exit ?_
   obtain rfl := it_brk hm hc77
   exact ⟨x49, xs48, S.sub ⟨rfl, trivial⟩, H, rfl⟩

/-- laws.markProof -/
def laws_markProof_m (fuel : Nat) (a0 : Timpl_Proof) (a1 : Int) : Option (Int × (List (List Int))) :=
  (laws_markInt64SS_m fuel a0.2 a1).bind fun x36 => some ((x36.1, x36.2))
set_option maxRecDepth 20000 in
theorem laws_markProof_ok {w0 : World} {fuel : Nat} {p0_0 : Value} {a0 : Timpl_Proof} {a1 : Int} {w00 : World} {L : List Asrt} {r : Int × (List (List Int))} (H : Heap w00 (oA (rList (rList (rInt .i64))) p0_0 a0.2 :: L) w0) (hm : laws_markProof_m fuel a0 a1 = some r) :
  Calls Tryd.prog 18 #[(.agg #[(.bool a0.1), p0_0]), .int .i64 a1] w0 fun e w => e = .returned (.int .i64 r.1) ∧ Heap w00 (oA (rList (rList (rInt .i64))) p0_0 r.2 :: L) w := by
 unfold laws_markProof_m at hm
 refine enter (args := [(.agg #[(.bool a0.1), p0_0]), .int .i64 a1]) Tryd.func18 rfl 10 rfl (Nat.le_of_ble_eq_true rfl) (fun a S => ?_)
 refine wp_seq (region_plain ?_)
 refine lx_box S trivial (by decide) rfl H rfl rfl (fun b31 w32 H => ⟨trivial, fun a S => ?_⟩)
 refine lq (.int .i64 (0 : Int)) S (q_assign rfl) fun a S => ?_
 refine lx_nil (thenN ?_)
 refine wp_seq (region_plain ?_)
 refine lq (pAdd (bp b31) 1) S (q_fieldAddr' 1 22 rfl (isP_bp _) Tryd.underlying27 rfl Tryd.sizeOf22) fun a S => ?_
 refine lx_e p0_0 S trivial (by decide) rfl trivial (q_load1 rfl Tryd.isAgg22 (by rintro _ rfl; exact (At.of_add (m := 1) (j := 0) (boxAt (i := 0) H rfl (j := 1) rfl)))) (fun a S => ?_)
 refine lq (.int .i64 a1) S (q_move rfl) fun a S => ?_
 obtain ⟨x36, e37, hm⟩ := bind_some hm
 have H : Heap w00 (oA (rList (rList (rInt .i64))) p0_0 a0.2 :: bA b31 [(.bool a0.1), p0_0] 27 :: L) w32 := H.front 1 rfl
 refine lx_call (xs := [.tmp 6, .tmp 7]) S trivial (by decide) rfl rfl Tryd.call43 ((laws_markInt64SS_ok H  e37).mono ?_)
 rintro e w34 ⟨rfl, H⟩
 refine ⟨_, rfl, trivial, fun a S => ?_⟩
 refine lq (.int .i64 x36.1) S (q_assign rfl) fun a S => ?_
 refine lx_nil (thenN ?_)
 refine wp_seq (region_plain ?_)
 refine lq (.int .i64 x36.1) S (q_move rfl) fun a S => ?_
 refine lq (.int .i64 x36.1) S (q_assign rfl) fun a S => ?_
 refine lx_nil (thenN ?_)
 refine wp_ret ?_
 obtain rfl := Option.some.inj hm
 have H : Heap w00 (oA (rList (rList (rInt .i64))) p0_0 x36.2 :: L) w34 := H.selT 2 [0] (by decide)
 exact leave1 S rfl rfl ⟨rfl, H⟩

/-- laws.heldInt64S -/
def laws_heldInt64S_m (fuel : Nat) (a0 : (List Int)) (a1 : Int) : Option (Int) :=
  (iter (fun (s : (Int) × (Int)) => (match s with | (x40, x41) => (if (decide (x41 < (a0.length : Int))) = true then (idx a0 x41).bind fun x61 => (if (x61 != x40) = true then some (.inr (.inr (-1 : Int))) else some (.inl ((W (x40 + (1 : Int))), (W (x41 + (1 : Int)))))) else some (.inr (.inl (x40)))) : Option (((Int) × (Int)) ⊕ ((Int) ⊕ (Int))))) fuel (a1, (0 : Int))).bind fun res52 => ctl (β := Int) (ρ := Int) (τ := Int) res52 (fun (x51) => some (x51)) (fun q => some (q))
set_option maxRecDepth 20000 in
theorem laws_heldInt64S_ok {w0 : World} {fuel : Nat} {p0 : Value} {a0 : (List Int)} {a1 : Int} {r : Int} (h0 : Rd (rList (rInt .i64)) w0 p0 a0) (hm : laws_heldInt64S_m fuel a0 a1 = some r) :
  Calls Tryd.prog 66 #[p0, .int .i64 a1] w0 fun e w => e = .returned (.int .i64 r) ∧ Heap w0 [] w := by
 unfold laws_heldInt64S_m at hm
 have H := Heap.start w0
 refine enter (args := [p0, .int .i64 a1]) Tryd.func66 rfl 21 rfl (Nat.le_of_ble_eq_true rfl) (fun a S => ?_)
 refine wp_seq (region_plain ?_)
 refine lq (.int .i64 (0 : Int)) S (q_assign rfl) fun a S => ?_
 refine lx_nil (thenN ?_)
 refine wp_seq (wp_seq (region_plain ?_))
 refine lq (.int .i64 (0 : Int)) S (q_assign rfl) fun a S => ?_
 refine lx_nil (thenN ?_)
 obtain ⟨res52, hit53, hk56⟩ := bind_some hm
 obtain ⟨f54, hf55, hit53⟩ := iter_name hit53
 refine block_loop (fun a w => ∃ (x51 : Int), Slots a 21 [(1, (.int .i64 x51))] ∧ Heap w0 [] w ∧ res52 = .inl (x51)) ?_ ?_
 ·rintro a w ⟨x51, S, H, rfl⟩
  have hm := ctl_inl hk56
  refine thenN ?_
  refine wp_seq (region_plain ?_)
  refine lq (.int .i64 x51) S (q_move rfl) fun a S => ?_
  refine lq (.int .i64 x51) S (q_assign rfl) fun a S => ?_
  refine lx_nil (thenN ?_)
  refine wp_ret ?_
  obtain rfl := Option.some.inj hm
  exact leave1 S rfl rfl ⟨rfl, H⟩
 ·skip
  refine loop_ghost (fun n a w => ∃ (x40 : Int) (x41 : Int), Slots a 21 [(0, p0), (1, (.int .i64 x40)), (5, (.int .i64 x41))] ∧ Heap w0 [] w ∧ iter f54 n (x40, x41) = some res52) _ ⟨a1, (0 : Int), S.sub ⟨rfl, rfl, rfl, trivial⟩, H, hit53⟩ ?_
  rintro n a w ⟨x40, x41, S, H, hit53⟩
  obtain ⟨m57, o58, rfl, hm, hc59⟩ := iter_step hit53
  rw [hf55] at hm
  refine wp_seq (wp_seq (region_plain ?_))
  refine lq (.int .i64 x41) S (q_move rfl) fun a S => ?_
  refine lq p0 S (q_move rfl) fun a S => ?_
  refine lq (.int .i64 (a0.length : Int)) S (q_lenSl rfl (h0).isSl rfl Tryd.underlying48) fun a S => ?_
  refine lq (.bool (decide (x41 < (a0.length : Int)))) S (q_lss rfl rfl) fun a S => ?_
  refine lx_nil (thenN ?_)
  refine cond_b S rfl (fun hc60 => ?_) (fun hc60 => ?_)
  ·have hm := ite_t hc60 hm
   refine wp_skip (thenN ?_)
   refine wp_seq ?_
   refine wp_block ?_
   refine wp_seq (wp_seq (region_plain ?_))
   refine lq p0 S (q_move rfl) fun a S => ?_
   refine lq (.int .i64 x41) S (q_move rfl) fun a S => ?_
   obtain ⟨x61, e62, hm⟩ := bind_some hm
   obtain ⟨c63, h64, hat65⟩ := (h0).elem (idx_some e62).2
   obtain rfl := h64
   have hlt := lt_of_idx (idx_some e62).2
   refine lq (ePtr p0 (x41.toNat * 1)) S (q_indexAddr rfl (h0).isSl rfl (idx_some e62).1 hlt Tryd.underlying48 Tryd.sizeOf2) fun a S => ?_
   refine lx_e (.int .i64 x61) S trivial (by decide) rfl trivial (q_load1 rfl Tryd.isAgg2 (by rintro _ rfl; exact ((hat65 0 _ rfl).ext H.ext))) (fun a S => ?_)
   refine lq (.int .i64 x40) S (q_move rfl) fun a S => ?_
   refine lq (.bool (x61 != x40)) S (q_neq rfl rfl) fun a S => ?_
   refine lx_nil (thenN ?_)
   refine cond_b S rfl (fun hc66 => ?_) (fun hc66 => ?_)
   ·have hm := ite_t hc66 hm
    refine wp_seq (region_plain ?_)
    refine lq (.int .i64 (-1 : Int)) S (q_assign rfl) fun a S => ?_
    refine lx_nil (thenN ?_)
    refine wp_ret (then_ret ?_)
    refine inBlock_ret ?_
    refine then_ret ?_
    refine then_ret ?_
    refine inBlock_ret ?_
    refine then_ret ?_
    refine then_ret ?_
    obtain rfl := it_brk hm hc59
    have hm := ctl_inr hk56
    obtain rfl := Option.some.inj hm
    exact leave1 S rfl rfl ⟨rfl, H⟩
   ·have hm := ite_f hc66 hm
    refine wp_skip (thenN ?_)
    refine region_plain ?_
    refine lq (.int .i64 x40) S (q_move rfl) fun a S => ?_
    refine lq (.int .i64 (W (x40 + (1 : Int)))) S (q_add rfl rfl) fun a S => ?_
    refine lq (.int .i64 (W (x40 + (1 : Int)))) S (q_assign rfl) fun a S => ?_
    refine lx_nil ?_
    refine inBlock_norm ?_
    refine thenN ?_
    refine region_plain ?_
    refine lq (.int .i64 x41) S (q_move rfl) fun a S => ?_
    refine lq (.int .i64 (W (x41 + (1 : Int)))) S (q_add rfl rfl) fun a S => ?_
    refine lq (.int .i64 (W (x41 + (1 : Int)))) S (q_assign rfl) fun a S => ?_
    refine lx_nil ?_
    exact ⟨m57, Nat.lt_succ_self _, (W (x40 + (1 : Int))), (W (x41 + (1 : Int))), S.sub ⟨rfl, rfl, rfl, trivial⟩, H, it_cont hm hc59⟩
  ·have hm := ite_f hc60 hm
   refine wp_exit ?_
   refine then_exit ?_
   refine then_exit ?_
   refine inBlock_exit ?_
   obtain rfl := it_brk hm hc59
   exact ⟨x40, S.sub ⟨rfl, trivial⟩, H, rfl⟩

/-- laws.heldInt64SS -/
def laws_heldInt64SS_m (fuel : Nat) (a0 : (List (List Int))) (a1 : Int) : Option (Int) :=
  (iter (fun (s : (Int) × (Int)) => (match s with | (x47, x48) => (if (decide (x48 < (a0.length : Int))) = true then (idx a0 x48).bind fun x75 => (laws_heldInt64S_m fuel x75 x47).bind fun x84 => (if (decide (x84 < (0 : Int))) = true then some (.inr (.inr (-1 : Int))) else some (.inl (x84, (W (x48 + (1 : Int)))))) else some (.inr (.inl (x47)))) : Option (((Int) × (Int)) ⊕ ((Int) ⊕ (Int))))) fuel (a1, (0 : Int))).bind fun res66 => ctl (β := Int) (ρ := Int) (τ := Int) res66 (fun (x65) => some (x65)) (fun q => some (q))
set_option maxRecDepth 20000 in
theorem laws_heldInt64SS_ok {w0 : World} {fuel : Nat} {p0 : Value} {a0 : (List (List Int))} {a1 : Int} {r : Int} (h0 : Rd (rList (rList (rInt .i64))) w0 p0 a0) (hm : laws_heldInt64SS_m fuel a0 a1 = some r) :
  Calls Tryd.prog 44 #[p0, .int .i64 a1] w0 fun e w => e = .returned (.int .i64 r) ∧ Heap w0 [] w := by
 unfold laws_heldInt64SS_m at hm
 have H := Heap.start w0
 refine enter (args := [p0, .int .i64 a1]) Tryd.func44 rfl 21 rfl (Nat.le_of_ble_eq_true rfl) (fun a S => ?_)
 refine wp_seq (region_plain ?_)
 refine lq (.int .i64 (0 : Int)) S (q_assign rfl) fun a S => ?_
 refine lx_nil (thenN ?_)
 refine wp_seq (wp_seq (region_plain ?_))
 refine lq (.int .i64 (0 : Int)) S (q_assign rfl) fun a S => ?_
 refine lx_nil (thenN ?_)
 obtain ⟨res66, hit67, hk70⟩ := bind_some hm
 obtain ⟨f68, hf69, hit67⟩ := iter_name hit67
 refine block_loop (fun a w => ∃ (x65 : Int), Slots a 21 [(1, (.int .i64 x65))] ∧ Heap w0 [] w ∧ res66 = .inl (x65)) ?_ ?_
 ·rintro a w ⟨x65, S, H, rfl⟩
  have hm := ctl_inl hk70
  refine thenN ?_
  refine wp_seq (region_plain ?_)
  refine lq (.int .i64 x65) S (q_move rfl) fun a S => ?_
  refine lq (.int .i64 x65) S (q_assign rfl) fun a S => ?_
  refine lx_nil (thenN ?_)
  refine wp_ret ?_
  obtain rfl := Option.some.inj hm
  exact leave1 S rfl rfl ⟨rfl, H⟩
 ·skip
  refine loop_ghost (fun n a w => ∃ (x47 : Int) (x48 : Int), Slots a 21 [(0, p0), (1, (.int .i64 x47)), (5, (.int .i64 x48))] ∧ Heap w0 [] w ∧ iter f68 n (x47, x48) = some res66) _ ⟨a1, (0 : Int), S.sub ⟨rfl, rfl, rfl, trivial⟩, H, hit67⟩ ?_
  rintro n a w ⟨x47, x48, S, H, hit67⟩
  obtain ⟨m71, o72, rfl, hm, hc73⟩ := iter_step hit67
  rw [hf69] at hm
  refine wp_seq (wp_seq (region_plain ?_))
  refine lq (.int .i64 x48) S (q_move rfl) fun a S => ?_
  refine lq p0 S (q_move rfl) fun a S => ?_
  refine lq (.int .i64 (a0.length : Int)) S (q_lenSl rfl (h0).isSl rfl Tryd.underlying22) fun a S => ?_
  refine lq (.bool (decide (x48 < (a0.length : Int)))) S (q_lss rfl rfl) fun a S => ?_
  refine lx_nil (thenN ?_)
  refine cond_b S rfl (fun hc74 => ?_) (fun hc74 => ?_)
  ·have hm := ite_t hc74 hm
   refine wp_skip (thenN ?_)
   refine wp_seq ?_
   refine wp_block ?_
   refine wp_seq (region_plain ?_)
   refine lq p0 S (q_move rfl) fun a S => ?_
   refine lq (.int .i64 x48) S (q_move rfl) fun a S => ?_
   obtain ⟨x75, e76, hm⟩ := bind_some hm
   obtain ⟨c77, h78, hat79⟩ := (h0).elem (idx_some e76).2
   obtain ⟨v80, rfl, h81⟩ := rd_list h78
   have hlt := lt_of_idx (idx_some e76).2
   refine lq (ePtr p0 (x48.toNat * 1)) S (q_indexAddr rfl (h0).isSl rfl (idx_some e76).1 hlt Tryd.underlying22 Tryd.sizeOf48) fun a S => ?_
   refine lx_e v80 S trivial (by decide) rfl trivial (q_load1 rfl Tryd.isAgg48 (by rintro _ rfl; exact ((hat79 0 _ rfl).ext H.ext))) (fun a S => ?_)
   refine lq (.int .i64 x47) S (q_move rfl) fun a S => ?_
   obtain ⟨x84, e85, hm⟩ := bind_some hm
   refine lx_call (xs := [.tmp 15, .tmp 16]) S trivial (by decide) rfl rfl Tryd.call66 ((laws_heldInt64S_ok (H.arg h81)  e85).mono ?_)
   rintro e w82 ⟨rfl, Hc83⟩
   have H := H.call0 Hc83
   refine ⟨_, rfl, trivial, fun a S => ?_⟩
   refine lq (.int .i64 x84) S (q_assign rfl) fun a S => ?_
   refine lx_nil (thenN ?_)
   refine wp_seq (region_plain ?_)
   refine lq (.int .i64 x84) S (q_move rfl) fun a S => ?_
   refine lq (.bool (decide (x84 < (0 : Int)))) S (q_lss rfl rfl) fun a S => ?_
   refine lx_nil (thenN ?_)
   refine cond_b S rfl (fun hc87 => ?_) (fun hc87 => ?_)
   ·have hm := ite_t hc87 hm
    refine wp_seq (region_plain ?_)
    refine lq (.int .i64 (-1 : Int)) S (q_assign rfl) fun a S => ?_
    refine lx_nil (thenN ?_)
    refine wp_ret (inBlock_ret ?_)
    refine then_ret ?_
    refine then_ret ?_
    refine inBlock_ret ?_
    refine then_ret ?_
    refine then_ret ?_
    obtain rfl := it_brk hm hc73
    have hm := ctl_inr hk70
    obtain rfl := Option.some.inj hm
    exact leave1 S rfl rfl ⟨rfl, H⟩
   ·have hm := ite_f hc87 hm
    refine wp_skip ?_
    refine inBlock_norm ?_
    refine thenN ?_
    refine region_plain ?_
    refine lq (.int .i64 x48) S (q_move rfl) fun a S => ?_
    refine lq (.int .i64 (W (x48 + (1 : Int)))) S (q_add rfl rfl) fun a S => ?_
    refine lq (.int .i64 (W (x48 + (1 : Int)))) S (q_assign rfl) fun a S => ?_
    refine lx_nil ?_
    exact ⟨m71, Nat.lt_succ_self _, x84, (W (x48 + (1 : Int))), S.sub ⟨rfl, rfl, rfl, trivial⟩, H, it_cont hm hc73⟩
  ·have hm := ite_f hc74 hm
   refine wp_exit ?_
   refine then_exit ?_
   refine then_exit ?_
   refine inBlock_exit ?_
   obtain rfl := it_brk hm hc73
   exact ⟨x47, S.sub ⟨rfl, trivial⟩, H, rfl⟩

/-- laws.heldProof -/
def laws_heldProof_m (fuel : Nat) (a0 : Timpl_Proof) (a1 : Int) : Option (Int) :=
  (laws_heldInt64SS_m fuel a0.2 a1).bind fun x44 => (if (decide (x44 < (0 : Int))) = true then some ((-1 : Int)) else some (x44))
set_option maxRecDepth 20000 in
theorem laws_heldProof_ok {w0 : World} {fuel : Nat} {p0 : Value} {a0 : Timpl_Proof} {a1 : Int} {r : Int} (h0 : Rd Rimpl_Proof w0 p0 a0) (hm : laws_heldProof_m fuel a0 a1 = some r) :
  Calls Tryd.prog 19 #[p0, .int .i64 a1] w0 fun e w => e = .returned (.int .i64 r) ∧ Heap w0 [] w := by
 unfold laws_heldProof_m at hm
 have H := Heap.start w0
 obtain ⟨c31, rfl, h32⟩ := h0
 obtain ⟨c35, c36, rfl, h37, h38⟩ := h32
 obtain rfl := h37
 obtain ⟨v33, rfl, h34⟩ := rd_list h38
 refine enter (args := [(.agg #[(.bool a0.1), v33]), .int .i64 a1]) Tryd.func19 rfl 12 rfl (Nat.le_of_ble_eq_true rfl) (fun a S => ?_)
 refine wp_seq (region_plain ?_)
 refine lx_box S trivial (by decide) rfl H rfl rfl (fun b39 w40 H => ⟨trivial, fun a S => ?_⟩)
 refine lq (.int .i64 (0 : Int)) S (q_assign rfl) fun a S => ?_
 refine lx_nil (thenN ?_)
 refine wp_seq (region_plain ?_)
 refine lq (pAdd (bp b39) 1) S (q_fieldAddr' 1 22 rfl (isP_bp _) Tryd.underlying27 rfl Tryd.sizeOf22) fun a S => ?_
 refine lx_e v33 S trivial (by decide) rfl trivial (q_load1 rfl Tryd.isAgg22 (by rintro _ rfl; exact (At.of_add (m := 1) (j := 0) (boxAt (i := 0) H rfl (j := 1) rfl)))) (fun a S => ?_)
 refine lq (.int .i64 a1) S (q_move rfl) fun a S => ?_
 obtain ⟨x44, e45, hm⟩ := bind_some hm
 refine lx_call (xs := [.tmp 6, .tmp 7]) S trivial (by decide) rfl rfl Tryd.call44 ((laws_heldInt64SS_ok (H.arg h34)  e45).mono ?_)
 rintro e w42 ⟨rfl, Hc43⟩
 have H := H.call0 Hc43
 refine ⟨_, rfl, trivial, fun a S => ?_⟩
 refine lq (.int .i64 x44) S (q_assign rfl) fun a S => ?_
 refine lx_nil (thenN ?_)
 refine wp_seq (wp_seq (region_plain ?_))
 refine lq (.int .i64 x44) S (q_move rfl) fun a S => ?_
 refine lq (.bool (decide (x44 < (0 : Int)))) S (q_lss rfl rfl) fun a S => ?_
 refine lx_nil (thenN ?_)
 refine cond_b S rfl (fun hc47 => ?_) (fun hc47 => ?_)
 ·have hm := ite_t hc47 hm
  refine wp_seq (region_plain ?_)
  refine lq (.int .i64 (-1 : Int)) S (q_assign rfl) fun a S => ?_
  refine lx_nil (thenN ?_)
  refine wp_ret (then_ret ?_)
  obtain rfl := Option.some.inj hm
  have H : Heap w0 [] w42 := H.sel [] (by decide)
  exact leave1 S rfl rfl ⟨rfl, H⟩
 ·have hm := ite_f hc47 hm
  refine wp_skip (thenN ?_)
  refine wp_seq (region_plain ?_)
  refine lq (.int .i64 x44) S (q_move rfl) fun a S => ?_
  refine lq (.int .i64 x44) S (q_assign rfl) fun a S => ?_
  refine lx_nil (thenN ?_)
  refine wp_ret ?_
  obtain rfl := Option.some.inj hm
  have H : Heap w0 [] w42 := H.sel [] (by decide)
  exact leave1 S rfl rfl ⟨rfl, H⟩

/-- laws.FnExactReadProof -/
def laws_FnExactReadProof_m (fuel : Nat) (a0 : Str) : Option (Bool) :=
  (if (decide ((1048576 : Int) < (a0.length : Int))) = true then some (true) else (spec_ReadProof_m fuel a0).bind fun x34 => (impl_ReadProof_m fuel a0).bind fun x45 => (laws_eqProof_m fuel (x45.1.1, x45.1.2) (x34.1.1, x34.1.2)).bind fun x56 => (if (!x56) = true then some true else some (x45.2 != x34.2)).bind fun t59 => (if t59 = true then some (false) else (laws_markProof_m fuel (x45.1.1, x45.1.2) (1 : Int)).bind fun x65 => (laws_heldProof_m fuel (x45.1.1, x65.2) (1 : Int)).bind fun x69 => (if (decide (x69 < (0 : Int))) = true then some (false) else (if (x69 != x65.1) = true then some (false) else (impl_ReadProof_m fuel a0).bind fun x76 => (laws_eqProof_m fuel (x76.1.1, x76.1.2) (x34.1.1, x34.1.2)).bind fun x87 => (if (!x87) = true then some true else some (x76.2 != x34.2)).bind fun t90 => (if t90 = true then some (false) else (laws_heldProof_m fuel (x45.1.1, x65.2) (1 : Int)).bind fun x96 => (if (decide (x96 < (0 : Int))) = true then some (false) else (if (x96 != x65.1) = true then some (false) else some (true))))))))
set_option maxRecDepth 20000 in
theorem laws_FnExactReadProof_ok {w0 : World} {fuel : Nat} {a0 : Str} {r : Bool} (hG : GlobE Tryd.prog w0) (hm : laws_FnExactReadProof_m fuel a0 = some r) :
  Calls Tryd.prog 5 #[sv a0] w0 fun e w => e = .returned (.bool r) ∧ Heap w0 [] w := by
 unfold laws_FnExactReadProof_m at hm
 have H := Heap.start w0
 refine enter (args := [sv a0]) Tryd.func5 rfl 66 rfl (Nat.le_of_ble_eq_true rfl) (fun a S => ?_)
 refine wp_seq (region_plain ?_)
 refine lq (.bool false) S (q_assign rfl) fun a S => ?_
 refine lx_nil (thenN ?_)
 refine wp_seq (wp_seq (region_plain ?_))
 refine lq (sv a0) S (q_move rfl) fun a S => ?_
 refine lq (.int .i64 (a0.length : Int)) S (q_lenStr rfl rfl Tryd.underlying9) fun a S => ?_
 refine lq (.bool (decide ((1048576 : Int) < (a0.length : Int)))) S (q_gtr rfl rfl) fun a S => ?_
 refine lx_nil (thenN ?_)
 refine cond_b S rfl (fun hc31 => ?_) (fun hc31 => ?_)
 ·have hm := ite_t hc31 hm
  refine wp_seq (region_plain ?_)
  refine lq (.bool true) S (q_assign rfl) fun a S => ?_
  refine lx_nil (thenN ?_)
  refine wp_ret (then_ret ?_)
  obtain rfl := Option.some.inj hm
  exact leave1 S rfl rfl ⟨rfl, H⟩
 ·have hm := ite_f hc31 hm
  refine wp_skip (thenN ?_)
  refine wp_seq (region_plain ?_)
  refine lq (sv a0) S (q_move rfl) fun a S => ?_
  obtain ⟨x34, e35, hm⟩ := bind_some hm
  refine lx_call (xs := [.tmp 15]) S trivial (by decide) rfl rfl Tryd.call16 ((spec_ReadProof_ok  e35).mono ?_)
  rintro e w32 ⟨v36, rfl, Hc33⟩
  have H := H.call1 Hc33
  refine ⟨_, rfl, trivial, fun a S => ?_⟩
  refine lq (.tuple #[(.agg #[(.bool x34.1.1), v36]), (.bool x34.2)]) S (q_move rfl) fun a S => ?_
  refine lq (.agg #[(.bool x34.1.1), v36]) S (q_extract rfl rfl) fun a S => ?_
  refine lq (.bool x34.2) S (q_extract rfl rfl) fun a S => ?_
  refine lx_alloc S trivial (by decide) rfl H Tryd.zeroValue27 rfl (fun b39 w40 H => ⟨trivial, fun a S => ?_⟩)
  refine lx_storeBox (o := 0) (i := 0) (us := [(.bool x34.1.1), v36]) (cs' := [(.bool x34.1.1), v36]) S trivial rfl H rfl rfl rfl rfl Tryd.sizeOf27 (Nat.le_of_ble_eq_true rfl) (List.forall_mem_cons.2 ⟨rfl, (List.forall_mem_cons.2 ⟨one_sl (H.isSl 1 rfl), (fun _ h => nomatch h)⟩)⟩) rfl (fun w42 H => ⟨trivial, fun a S => ?_⟩)
  change Heap w0 [bA b39 [(.bool x34.1.1), v36] 27, oA (rList (rList (rInt .i64))) v36 x34.1.2] w42 at H
  refine lq (.bool x34.2) S (q_assign rfl) fun a S => ?_
  refine lx_nil (thenN ?_)
  refine wp_seq (region_plain ?_)
  refine lq (sv a0) S (q_move rfl) fun a S => ?_
  obtain ⟨x45, e46, hm⟩ := bind_some hm
  refine lx_call (xs := [.tmp 20]) S trivial (by decide) rfl rfl Tryd.call17 ((impl_ReadProof_ok (hG.ext H.ext)  e46).mono ?_)
  rintro e w43 ⟨v47, rfl, Hc44⟩
  have H := H.call1 Hc44
  refine ⟨_, rfl, trivial, fun a S => ?_⟩
  refine lq (.tuple #[(.agg #[(.bool x45.1.1), v47]), (.bool x45.2)]) S (q_move rfl) fun a S => ?_
  refine lq (.agg #[(.bool x45.1.1), v47]) S (q_extract rfl rfl) fun a S => ?_
  refine lq (.bool x45.2) S (q_extract rfl rfl) fun a S => ?_
  refine lx_alloc S trivial (by decide) rfl H Tryd.zeroValue27 rfl (fun b50 w51 H => ⟨trivial, fun a S => ?_⟩)
  refine lx_storeBox (o := 0) (i := 0) (us := [(.bool x45.1.1), v47]) (cs' := [(.bool x45.1.1), v47]) S trivial rfl H rfl rfl rfl rfl Tryd.sizeOf27 (Nat.le_of_ble_eq_true rfl) (List.forall_mem_cons.2 ⟨rfl, (List.forall_mem_cons.2 ⟨one_sl (H.isSl 1 rfl), (fun _ h => nomatch h)⟩)⟩) rfl (fun w53 H => ⟨trivial, fun a S => ?_⟩)
  change Heap w0 [bA b50 [(.bool x45.1.1), v47] 27, oA (rList (rList (rInt .i64))) v47 x45.1.2, bA b39 [(.bool x34.1.1), v36] 27, oA (rList (rList (rInt .i64))) v36 x34.1.2] w53 at H
  refine lq (.bool x45.2) S (q_assign rfl) fun a S => ?_
  refine lx_nil (thenN ?_)
  refine wp_seq (wp_seq (region_plain ?_))
  refine lx_e (.agg #[(.bool x45.1.1), v47]) S trivial (by decide) rfl trivial (q_loadA (cs := [(.bool x45.1.1), v47]) rfl (isP_bp _) Tryd.isAgg27 Tryd.sizeOf27 (by rintro _ rfl; exact (fun j u hu => boxAt (i := 0) H rfl hu))) (fun a S => ?_)
  refine lx_e (.agg #[(.bool x34.1.1), v36]) S trivial (by decide) rfl trivial (q_loadA (cs := [(.bool x34.1.1), v36]) rfl (isP_bp _) Tryd.isAgg27 Tryd.sizeOf27 (by rintro _ rfl; exact (fun j u hu => boxAt (i := 2) H rfl hu))) (fun a S => ?_)
  obtain ⟨x56, e57, hm⟩ := bind_some hm
  refine lx_call (xs := [.tmp 24, .tmp 25]) S trivial (by decide) rfl rfl Tryd.call10 ((laws_eqProof_ok ⟨[(.bool x45.1.1), v47], rfl, ⟨[(.bool x45.1.1)], [v47], rfl, rfl, ((H.rdAt 1 rfl)).list_rd⟩⟩ ⟨[(.bool x34.1.1), v36], rfl, ⟨[(.bool x34.1.1)], [v36], rfl, rfl, ((H.rdAt 3 rfl)).list_rd⟩⟩ e57).mono ?_)
  rintro e w54 ⟨rfl, Hc55⟩
  have H := H.call0 Hc55
  refine ⟨_, rfl, trivial, fun a S => ?_⟩
  refine lq (.bool (!x56)) S (q_not rfl) fun a S => ?_
  refine lq (.bool (!x56)) S (q_move rfl) fun a S => ?_
  obtain ⟨t59, e60, hm⟩ := bind_some hm
  refine lx_cut 4 (fun a w => Slots a 66 [(0, (sv a0)), (3, (bp b39)), (4, (.bool x34.2)), (5, (bp b50)), (32, (.bool t59))] ∧ Heap w0 [bA b50 [(.bool x45.1.1), v47] 27, oA (rList (rList (rInt .i64))) v47 x45.1.2, bA b39 [(.bool x34.1.1), v36] 27, oA (rList (rList (rInt .i64))) v36 x34.1.2] w) ?_ ?_
  ·by_cases hc61 : (!x56) = true
   ·have hm := ite_t hc61 e60
    refine lx_skip S rfl rfl (isB_ne hc61) (by decide) (fun a S => ?_)
    refine lx_skip S rfl rfl (isB_ne hc61) (by decide) (fun a S => ?_)
    refine lx_skip S rfl rfl (isB_ne hc61) (by decide) (fun a S => ?_)
    refine lq (.bool true) S (q_pickT' rfl hc61 rfl) fun a S => ?_
    refine lx_nil ?_
    obtain rfl := Option.some.inj hm
    exact ⟨S.sub ⟨rfl, rfl, rfl, rfl, rfl, trivial⟩, H⟩
   ·have hm := ite_f (eq_false_of_ne_true hc61) e60
    have hc61 : (!x56) = false := eq_false_of_ne_true hc61
    refine lx_q (.bool x45.2) S (want_b rfl rfl hc61) (by decide) (q_move rfl) (fun a S => ?_)
    refine lx_q (.bool x34.2) S (want_b rfl rfl hc61) (by decide) (q_move rfl) (fun a S => ?_)
    refine lx_q (.bool (x45.2 != x34.2)) S (want_b rfl rfl hc61) (by decide) (q_bneq rfl rfl Tryd.underlying4) (fun a S => ?_)
    refine lq (.bool (x45.2 != x34.2)) S (q_pickF' rfl hc61 rfl) fun a S => ?_
    refine lx_nil ?_
    obtain rfl := Option.some.inj hm
    exact ⟨S.sub ⟨rfl, rfl, rfl, rfl, rfl, trivial⟩, H⟩
  ·rintro a w ⟨S, H⟩
   refine lx_nil (thenN ?_)
   refine cond_b S rfl (fun hc62 => ?_) (fun hc62 => ?_)
   ·have hm := ite_t hc62 hm
    refine wp_seq (region_plain ?_)
    refine lq (.bool false) S (q_assign rfl) fun a S => ?_
    refine lx_nil (thenN ?_)
    refine wp_ret (then_ret ?_)
    obtain rfl := Option.some.inj hm
    have H : Heap w0 [] w := H.sel [] (by decide)
    exact leave1 S rfl rfl ⟨rfl, H⟩
   ·have hm := ite_f hc62 hm
    refine wp_skip (thenN ?_)
    refine wp_seq (region_plain ?_)
    refine lq (.int .i64 (1 : Int)) S (q_assign rfl) fun a S => ?_
    refine lx_nil (thenN ?_)
    refine wp_seq (region_plain ?_)
    refine lx_e (.agg #[(.bool x45.1.1), v47]) S trivial (by decide) rfl trivial (q_loadA (cs := [(.bool x45.1.1), v47]) rfl (isP_bp _) Tryd.isAgg27 Tryd.sizeOf27 (by rintro _ rfl; exact (fun j u hu => boxAt (i := 0) H rfl hu))) (fun a S => ?_)
    refine lq (.int .i64 (1 : Int)) S (q_move rfl) fun a S => ?_
    obtain ⟨x65, e66, hm⟩ := bind_some hm
    have H : Heap w0 [oA (rList (rList (rInt .i64))) v47 x45.1.2, bA b50 [(.bool x45.1.1), v47] 27, bA b39 [(.bool x34.1.1), v36] 27, oA (rList (rList (rInt .i64))) v36 x34.1.2] w := H.front 1 rfl
    refine lx_call (xs := [.tmp 33, .tmp 34]) S trivial (by decide) rfl rfl Tryd.call18 ((laws_markProof_ok H  e66).mono ?_)
    rintro e w63 ⟨rfl, H⟩
    refine ⟨_, rfl, trivial, fun a S => ?_⟩
    refine lq (.int .i64 x65.1) S (q_assign rfl) fun a S => ?_
    refine lx_nil (thenN ?_)
    refine wp_seq (region_plain ?_)
    refine lq (.int .i64 (1 : Int)) S (q_assign rfl) fun a S => ?_
    refine lx_nil (thenN ?_)
    refine wp_seq (region_plain ?_)
    refine lx_e (.agg #[(.bool x45.1.1), v47]) S trivial (by decide) rfl trivial (q_loadA (cs := [(.bool x45.1.1), v47]) rfl (isP_bp _) Tryd.isAgg27 Tryd.sizeOf27 (by rintro _ rfl; exact (fun j u hu => boxAt (i := 1) H rfl hu))) (fun a S => ?_)
    refine lq (.int .i64 (1 : Int)) S (q_move rfl) fun a S => ?_
    obtain ⟨x69, e70, hm⟩ := bind_some hm
    refine lx_call (xs := [.tmp 36, .tmp 37]) S trivial (by decide) rfl rfl Tryd.call19 ((laws_heldProof_ok (a0 := (x45.1.1, x65.2)) ⟨[(.bool x45.1.1), v47], rfl, ⟨[(.bool x45.1.1)], [v47], rfl, rfl, ((H.rdAt 0 rfl)).list_rd⟩⟩  e70).mono ?_)
    rintro e w67 ⟨rfl, Hc68⟩
    have H := H.call0 Hc68
    refine ⟨_, rfl, trivial, fun a S => ?_⟩
    refine lq (.int .i64 x69) S (q_assign rfl) fun a S => ?_
    refine lx_nil (thenN ?_)
    refine wp_seq (wp_seq (region_plain ?_))
    refine lq (.int .i64 x69) S (q_move rfl) fun a S => ?_
    refine lq (.bool (decide (x69 < (0 : Int)))) S (q_lss rfl rfl) fun a S => ?_
    refine lx_nil (thenN ?_)
    refine cond_b S rfl (fun hc72 => ?_) (fun hc72 => ?_)
    ·have hm := ite_t hc72 hm
     refine wp_seq (region_plain ?_)
     refine lq (.bool false) S (q_assign rfl) fun a S => ?_
     refine lx_nil (thenN ?_)
     refine wp_ret (then_ret ?_)
     obtain rfl := Option.some.inj hm
     have H : Heap w0 [] w67 := H.sel [] (by decide)
     exact leave1 S rfl rfl ⟨rfl, H⟩
    ·have hm := ite_f hc72 hm
     refine wp_skip (thenN ?_)
     refine wp_seq (wp_seq (region_plain ?_))
     refine lq (.int .i64 x69) S (q_move rfl) fun a S => ?_
     refine lq (.int .i64 x65.1) S (q_move rfl) fun a S => ?_
     refine lq (.bool (x69 != x65.1)) S (q_neq rfl rfl) fun a S => ?_
     refine lx_nil (thenN ?_)
     refine cond_b S rfl (fun hc73 => ?_) (fun hc73 => ?_)
     ·have hm := ite_t hc73 hm
      refine wp_seq (region_plain ?_)
      refine lq (.bool false) S (q_assign rfl) fun a S => ?_
      refine lx_nil (thenN ?_)
      refine wp_ret (then_ret ?_)
      obtain rfl := Option.some.inj hm
      have H : Heap w0 [] w67 := H.sel [] (by decide)
      exact leave1 S rfl rfl ⟨rfl, H⟩
     ·have hm := ite_f hc73 hm
      refine wp_skip (thenN ?_)
      refine wp_seq (region_plain ?_)
      refine lq (sv a0) S (q_move rfl) fun a S => ?_
      obtain ⟨x76, e77, hm⟩ := bind_some hm
      refine lx_call (xs := [.tmp 45]) S trivial (by decide) rfl rfl Tryd.call17 ((impl_ReadProof_ok (hG.ext H.ext)  e77).mono ?_)
      rintro e w74 ⟨v78, rfl, Hc75⟩
      have H := H.call1 Hc75
      refine ⟨_, rfl, trivial, fun a S => ?_⟩
      refine lq (.tuple #[(.agg #[(.bool x76.1.1), v78]), (.bool x76.2)]) S (q_move rfl) fun a S => ?_
      refine lq (.agg #[(.bool x76.1.1), v78]) S (q_extract rfl rfl) fun a S => ?_
      refine lq (.bool x76.2) S (q_extract rfl rfl) fun a S => ?_
      refine lx_alloc S trivial (by decide) rfl H Tryd.zeroValue27 rfl (fun b81 w82 H => ⟨trivial, fun a S => ?_⟩)
      refine lx_storeBox (o := 0) (i := 0) (us := [(.bool x76.1.1), v78]) (cs' := [(.bool x76.1.1), v78]) S trivial rfl H rfl rfl rfl rfl Tryd.sizeOf27 (Nat.le_of_ble_eq_true rfl) (List.forall_mem_cons.2 ⟨rfl, (List.forall_mem_cons.2 ⟨one_sl (H.isSl 1 rfl), (fun _ h => nomatch h)⟩)⟩) rfl (fun w84 H => ⟨trivial, fun a S => ?_⟩)
      change Heap w0 [bA b81 [(.bool x76.1.1), v78] 27, oA (rList (rList (rInt .i64))) v78 x76.1.2, oA (rList (rList (rInt .i64))) v47 x65.2, bA b50 [(.bool x45.1.1), v47] 27, bA b39 [(.bool x34.1.1), v36] 27, oA (rList (rList (rInt .i64))) v36 x34.1.2] w84 at H
      refine lq (.bool x76.2) S (q_assign rfl) fun a S => ?_
      refine lx_nil (thenN ?_)
      refine wp_seq (wp_seq (region_plain ?_))
      refine lx_e (.agg #[(.bool x76.1.1), v78]) S trivial (by decide) rfl trivial (q_loadA (cs := [(.bool x76.1.1), v78]) rfl (isP_bp _) Tryd.isAgg27 Tryd.sizeOf27 (by rintro _ rfl; exact (fun j u hu => boxAt (i := 0) H rfl hu))) (fun a S => ?_)
      refine lx_e (.agg #[(.bool x34.1.1), v36]) S trivial (by decide) rfl trivial (q_loadA (cs := [(.bool x34.1.1), v36]) rfl (isP_bp _) Tryd.isAgg27 Tryd.sizeOf27 (by rintro _ rfl; exact (fun j u hu => boxAt (i := 4) H rfl hu))) (fun a S => ?_)
      obtain ⟨x87, e88, hm⟩ := bind_some hm
      refine lx_call (xs := [.tmp 49, .tmp 50]) S trivial (by decide) rfl rfl Tryd.call10 ((laws_eqProof_ok ⟨[(.bool x76.1.1), v78], rfl, ⟨[(.bool x76.1.1)], [v78], rfl, rfl, ((H.rdAt 1 rfl)).list_rd⟩⟩ ⟨[(.bool x34.1.1), v36], rfl, ⟨[(.bool x34.1.1)], [v36], rfl, rfl, ((H.rdAt 5 rfl)).list_rd⟩⟩ e88).mono ?_)
      rintro e w85 ⟨rfl, Hc86⟩
      have H := H.call0 Hc86
      refine ⟨_, rfl, trivial, fun a S => ?_⟩
      refine lq (.bool (!x87)) S (q_not rfl) fun a S => ?_
      refine lq (.bool (!x87)) S (q_move rfl) fun a S => ?_
      obtain ⟨t90, e91, hm⟩ := bind_some hm
      refine lx_cut 4 (fun a w => Slots a 66 [(5, (bp b50)), (7, (.int .i64 x65.1)), (57, (.bool t90))] ∧ Heap w0 [oA (rList (rList (rInt .i64))) v47 x65.2, bA b50 [(.bool x45.1.1), v47] 27] w) ?_ ?_
      ·by_cases hc92 : (!x87) = true
       ·have hm := ite_t hc92 e91
        refine lx_skip S rfl rfl (isB_ne hc92) (by decide) (fun a S => ?_)
        refine lx_skip S rfl rfl (isB_ne hc92) (by decide) (fun a S => ?_)
        refine lx_skip S rfl rfl (isB_ne hc92) (by decide) (fun a S => ?_)
        refine lq (.bool true) S (q_pickT' rfl hc92 rfl) fun a S => ?_
        refine lx_nil ?_
        obtain rfl := Option.some.inj hm
        have H := H.sel [2, 3] (by decide)
        exact ⟨S.sub ⟨rfl, rfl, rfl, trivial⟩, H⟩
       ·have hm := ite_f (eq_false_of_ne_true hc92) e91
        have hc92 : (!x87) = false := eq_false_of_ne_true hc92
        refine lx_q (.bool x76.2) S (want_b rfl rfl hc92) (by decide) (q_move rfl) (fun a S => ?_)
        refine lx_q (.bool x34.2) S (want_b rfl rfl hc92) (by decide) (q_move rfl) (fun a S => ?_)
        refine lx_q (.bool (x76.2 != x34.2)) S (want_b rfl rfl hc92) (by decide) (q_bneq rfl rfl Tryd.underlying4) (fun a S => ?_)
        refine lq (.bool (x76.2 != x34.2)) S (q_pickF' rfl hc92 rfl) fun a S => ?_
        refine lx_nil ?_
        obtain rfl := Option.some.inj hm
        have H := H.sel [2, 3] (by decide)
        exact ⟨S.sub ⟨rfl, rfl, rfl, trivial⟩, H⟩
      ·rintro a w ⟨S, H⟩
       refine lx_nil (thenN ?_)
       refine cond_b S rfl (fun hc93 => ?_) (fun hc93 => ?_)
       ·have hm := ite_t hc93 hm
        refine wp_seq (region_plain ?_)
        refine lq (.bool false) S (q_assign rfl) fun a S => ?_
        refine lx_nil (thenN ?_)
        refine wp_ret (then_ret ?_)
        obtain rfl := Option.some.inj hm
        have H : Heap w0 [] w := H.sel [] (by decide)
        exact leave1 S rfl rfl ⟨rfl, H⟩
       ·have hm := ite_f hc93 hm
        refine wp_skip (thenN ?_)
        refine wp_seq (region_plain ?_)
        refine lq (.int .i64 (1 : Int)) S (q_assign rfl) fun a S => ?_
        refine lx_nil (thenN ?_)
        refine wp_seq (region_plain ?_)
        refine lx_e (.agg #[(.bool x45.1.1), v47]) S trivial (by decide) rfl trivial (q_loadA (cs := [(.bool x45.1.1), v47]) rfl (isP_bp _) Tryd.isAgg27 Tryd.sizeOf27 (by rintro _ rfl; exact (fun j u hu => boxAt (i := 1) H rfl hu))) (fun a S => ?_)
        refine lq (.int .i64 (1 : Int)) S (q_move rfl) fun a S => ?_
        obtain ⟨x96, e97, hm⟩ := bind_some hm
        refine lx_call (xs := [.tmp 58, .tmp 59]) S trivial (by decide) rfl rfl Tryd.call19 ((laws_heldProof_ok (a0 := (x45.1.1, x65.2)) ⟨[(.bool x45.1.1), v47], rfl, ⟨[(.bool x45.1.1)], [v47], rfl, rfl, ((H.rdAt 0 rfl)).list_rd⟩⟩  e97).mono ?_)
        rintro e w94 ⟨rfl, Hc95⟩
        have H := H.call0 Hc95
        refine ⟨_, rfl, trivial, fun a S => ?_⟩
        refine lq (.int .i64 x96) S (q_assign rfl) fun a S => ?_
        refine lx_nil (thenN ?_)
        refine wp_seq (wp_seq (region_plain ?_))
        refine lq (.int .i64 x96) S (q_move rfl) fun a S => ?_
        refine lq (.bool (decide (x96 < (0 : Int)))) S (q_lss rfl rfl) fun a S => ?_
        refine lx_nil (thenN ?_)
        refine cond_b S rfl (fun hc99 => ?_) (fun hc99 => ?_)
        ·have hm := ite_t hc99 hm
         refine wp_seq (region_plain ?_)
         refine lq (.bool false) S (q_assign rfl) fun a S => ?_
         refine lx_nil (thenN ?_)
         refine wp_ret (then_ret ?_)
         obtain rfl := Option.some.inj hm
         have H : Heap w0 [] w94 := H.sel [] (by decide)
         exact leave1 S rfl rfl ⟨rfl, H⟩
        ·have hm := ite_f hc99 hm
         refine wp_skip (thenN ?_)
         refine wp_seq (wp_seq (region_plain ?_))
         refine lq (.int .i64 x96) S (q_move rfl) fun a S => ?_
         refine lq (.int .i64 x65.1) S (q_move rfl) fun a S => ?_
         refine lq (.bool (x96 != x65.1)) S (q_neq rfl rfl) fun a S => ?_
         refine lx_nil (thenN ?_)
         refine cond_b S rfl (fun hc100 => ?_) (fun hc100 => ?_)
         ·have hm := ite_t hc100 hm
          refine wp_seq (region_plain ?_)
          refine lq (.bool false) S (q_assign rfl) fun a S => ?_
          refine lx_nil (thenN ?_)
          refine wp_ret (then_ret ?_)
          obtain rfl := Option.some.inj hm
          have H : Heap w0 [] w94 := H.sel [] (by decide)
          exact leave1 S rfl rfl ⟨rfl, H⟩
         ·have hm := ite_f hc100 hm
          refine wp_skip (thenN ?_)
          refine wp_seq (region_plain ?_)
          refine lq (.bool true) S (q_assign rfl) fun a S => ?_
          refine lx_nil (thenN ?_)
          refine wp_ret ?_
          obtain rfl := Option.some.inj hm
          have H : Heap w0 [] w94 := H.sel [] (by decide)
          exact leave1 S rfl rfl ⟨rfl, H⟩
end Go.Proofs.YtepcckhcocjgaaaDoor
