/- The models of some functions and their walks (printed by a program of this repo). -/
import Derived.Test.YtldmecdkdoipdaaGreatDoorF0
import Derived.Test.YtldmecdkdoipdaaGreatDoorF1
import Derived.Test.YtldmecdkdoipdaaGreatDoorF2
import Derived.Test.YtldmecdkdoipdaaGreatDoorF3
import Derived.Test.YtldmecdkdoipdaaGreatDoorGxMx
import Derived.Test.YtldmecdkdoipdaaGreatDoorGxT
import Derived.Test.YtldmecdkdoipdaaGreatDoorGxTg
import Derived.Test.YtldmecdkdoipdaaGreatDoorGxY
namespace Go.Proofs.YtldmecdkdoipdaaGreatDoor
open Go.RowKit Go.Gx

/-- spec.l14Two -/
def spec_l14Two_m (fuel : Nat) (a0 : Timpl_Lts) (a1 : Int) (a2 : Int) : Option (Bool) :=
  (spec_l00In_m fuel a1 (0 : Int) (W (a0.1 - (1 : Int)))).bind fun x52 => (if x52 = true then (spec_l00In_m fuel a2 (0 : Int) (W (a0.1 - (1 : Int)))).bind fun x60 => some x60 else some false).bind fun t55 => some (t55)
set_option maxRecDepth 20000 in
theorem spec_l14Two_ok [dr : Dr] {w0 : World} {fuel : Nat} {p0 : Value} {a0 : Timpl_Lts} {a1 : Int} {a2 : Int} {r : Bool} (h0 : Rd (rPtr Rimpl_Lts) w0 p0 a0) (hm : spec_l14Two_m fuel a0 a1 a2 = some r) :
  Calls Tryz.prog 20 #[p0, .int .i64 a1, .int .i64 a2] w0 fun e w => e = .returned (.bool r) ∧ Heap w0 [] w := by
 unfold spec_l14Two_m at hm
 have H := Heap.start w0
 obtain ⟨c31, h32, hat33⟩ := h0.ptr
 obtain ⟨c38, c39, rfl, h40, h41⟩ := h32
 obtain rfl := h40
 obtain ⟨c42, c43, rfl, h44, h45⟩ := h41
 obtain rfl := h44
 obtain ⟨c46, c47, rfl, h48, h49⟩ := h45
 obtain ⟨v34, rfl, h35⟩ := rd_list h48
 obtain ⟨v36, rfl, h37⟩ := rd_list h49
 refine enter (args := [p0, .int .i64 a1, .int .i64 a2]) Tryz.func20 rfl 23 rfl (Nat.le_of_ble_eq_true rfl) (fun a S => ?_)
 refine wp_seq (region_plain ?_)
 refine lq (.bool false) S (q_assign rfl) fun a S => ?_
 refine lx_nil (thenN ?_)
 refine wp_seq (region_plain ?_)
 refine lq (.int .i64 a1) S (q_move rfl) fun a S => ?_
 refine lq p0 S (q_move rfl) fun a S => ?_
 refine lq p0 S (q_nilCheck rfl ((hat33 0 _ rfl).isP)) fun a S => ?_
 refine lq (pAdd p0 0) S (q_fieldAddr' 0 2 rfl ((hat33 0 _ rfl).isP) Tryz.underlying31 rfl Tryz.sizeOf2) fun a S => ?_
 refine lx_e (.int .i64 a0.1) S trivial (by decide) rfl trivial (q_load1 rfl Tryz.isAgg2 (by rintro _ rfl; exact (At.of_add (m := 0) (j := 0) ((hat33 0 _ rfl).ext H.ext)))) (fun a S => ?_)
 refine lq (.int .i64 (W (a0.1 - (1 : Int)))) S (q_sub rfl rfl) fun a S => ?_
 obtain ⟨x52, e53, hm⟩ := bind_some hm
 refine lx_call (xs := [.tmp 7, .const (.int .i64 (0)), .tmp 12]) S trivial (by decide) rfl rfl Tryz.call43 ((spec_l00In_ok    e53).mono ?_)
 rintro e w50 ⟨rfl, Hc51⟩
 have H := H.call0 Hc51
 refine ⟨_, rfl, trivial, fun a S => ?_⟩
 refine lq (.bool x52) S (q_move rfl) fun a S => ?_
 obtain ⟨t55, e56, hm⟩ := bind_some hm
 refine lx_cut 8 (fun a w => Slots a 23 [(22, (.bool t55))] ∧ Heap w0 [] w) ?_ ?_
 ·by_cases hc57 : x52 = true
  ·have hm := ite_t hc57 e56
   refine lx_q (.int .i64 a2) S (want_b rfl rfl hc57) (by decide) (q_move rfl) (fun a S => ?_)
   refine lx_q p0 S (want_b rfl rfl hc57) (by decide) (q_move rfl) (fun a S => ?_)
   refine lx_q p0 S (want_b rfl rfl hc57) (by decide) (q_nilCheck rfl ((hat33 0 _ rfl).isP)) (fun a S => ?_)
   refine lx_q (pAdd p0 0) S (want_b rfl rfl hc57) (by decide) (q_fieldAddr' 0 2 rfl ((hat33 0 _ rfl).isP) Tryz.underlying31 rfl Tryz.sizeOf2) (fun a S => ?_)
   refine lx_e (.int .i64 a0.1) S (want_b rfl rfl hc57) (by decide) rfl trivial (q_load1 rfl Tryz.isAgg2 (by rintro _ rfl; exact (At.of_add (m := 0) (j := 0) ((hat33 0 _ rfl).ext H.ext)))) (fun a S => ?_)
   refine lx_q (.int .i64 (W (a0.1 - (1 : Int)))) S (want_b rfl rfl hc57) (by decide) (q_sub rfl rfl) (fun a S => ?_)
   obtain ⟨x60, e61, hm⟩ := bind_some hm
   refine lx_call (xs := [.tmp 15, .const (.int .i64 (0)), .tmp 20]) S (want_b rfl rfl hc57) (by decide) rfl rfl Tryz.call43 ((spec_l00In_ok    e61).mono ?_)
   rintro e w58 ⟨rfl, Hc59⟩
   have H := H.call0 Hc59
   refine ⟨_, rfl, trivial, fun a S => ?_⟩
   refine lq (.bool x60) S (q_pickT' rfl hc57 rfl) fun a S => ?_
   refine lx_nil ?_
   obtain rfl := Option.some.inj hm
   exact ⟨S.sub ⟨rfl, trivial⟩, H⟩
  ·have hm := ite_f (eq_false_of_ne_true hc57) e56
   have hc57 : x52 = false := eq_false_of_ne_true hc57
   refine lx_skip S rfl rfl (isB_ne hc57) (by decide) (fun a S => ?_)
   refine lx_skip S rfl rfl (isB_ne hc57) (by decide) (fun a S => ?_)
   refine lx_skip S rfl rfl (isB_ne hc57) (by decide) (fun a S => ?_)
   refine lx_skip S rfl rfl (isB_ne hc57) (by decide) (fun a S => ?_)
   refine lx_skip S rfl rfl (isB_ne hc57) (by decide) (fun a S => ?_)
   refine lx_skip S rfl rfl (isB_ne hc57) (by decide) (fun a S => ?_)
   refine lx_skip S rfl rfl (isB_ne hc57) (by decide) (fun a S => ?_)
   refine lq (.bool false) S (q_pickF' rfl hc57 rfl) fun a S => ?_
   refine lx_nil ?_
   obtain rfl := Option.some.inj hm
   exact ⟨S.sub ⟨rfl, trivial⟩, H⟩
 ·rintro a w ⟨S, H⟩
  refine lq (.bool t55) S (q_assign rfl) fun a S => ?_
  refine lx_nil (thenN ?_)
  refine wp_ret ?_
  obtain rfl := Option.some.inj hm
  exact leave1 S rfl rfl ⟨rfl, H⟩

/-- spec.l14Covers -/
def spec_l14Covers_m (fuel : Nat) (a0 : Timpl_Lts) (a1 : (List Int)) (a2 : Int) (a3 : Int) : Option (Bool) :=
  (iter (fun (s : (Int)) => (match s with | (x345) => (if (decide (x345 < (a0.2.2.2.length : Int))) = true then join (κ := Option (((Int)) ⊕ ((Unit) ⊕ (Bool)))) (some (.inl ((W (x345 + (1 : Int)))))) (fun K650 => (idx a0.2.2.2 x345).bind fun x652 => (if (x652.1 != a2) = true then K650 else (iter (fun (s : (Bool) × (Int)) => (match s with | (x755, x756) => (if (decide (x756 < (a0.2.2.2.length : Int))) = true then some (!x755) else some false).bind fun t856 => (if t856 = true then (idx a0.2.2.2 x756).bind fun x862 => (if (x862.1 == a3) = true then (idx a0.2.2.2 x756).bind fun x878 => (idx a0.2.2.2 x345).bind fun x891 => some (x878.2.1 == x891.2.1) else some false).bind fun t875 => (if t875 = true then (idx a0.2.2.2 x756).bind fun x907 => (idx a1 x907.2.2).bind fun x920 => (idx a0.2.2.2 x345).bind fun x925 => (idx a1 x925.2.2).bind fun x938 => some (x920 == x938) else some false).bind fun t904 => some (.inl (t904, (W (x756 + (1 : Int))))) else some (.inr (.inl (x755)))) : Option (((Bool) × (Int)) ⊕ ((Bool) ⊕ (Bool))))) fuel (false, (0 : Int))).bind fun res847 => ctl (β := Bool) (ρ := Bool) (τ := (((Int)) ⊕ ((Unit) ⊕ (Bool)))) res847 (fun (x846) => (if (!x846) = true then some (.inr (.inr false)) else K650)) (fun q => some (.inr (.inr q))))) else some (.inr (.inl ()))) : Option (((Int)) ⊕ ((Unit) ⊕ (Bool))))) fuel ((0 : Int))).bind fun res641 => ctl (β := Unit) (ρ := Bool) (τ := Bool) res641 (fun _ => some (true)) (fun q => some (q))
set_option maxRecDepth 20000 in
theorem spec_l14Covers_ok [dr : Dr] {w0 : World} {fuel : Nat} {p0 p1 : Value} {a0 : Timpl_Lts} {a1 : (List Int)} {a2 : Int} {a3 : Int} {r : Bool} (h0 : Rd (rPtr Rimpl_Lts) w0 p0 a0) (h1 : Rd (rList (rInt .i64)) w0 p1 a1) (hm : spec_l14Covers_m fuel a0 a1 a2 a3 = some r) :
  Calls Tryz.prog 73 #[p0, p1, .int .i64 a2, .int .i64 a3] w0 fun e w => e = .returned (.bool r) ∧ Heap w0 [] w := by
 unfold spec_l14Covers_m at hm
 have H := Heap.start w0
 obtain ⟨c31, h32, hat33⟩ := h0.ptr
 obtain ⟨c38, c39, rfl, h40, h41⟩ := h32
 obtain rfl := h40
 obtain ⟨c42, c43, rfl, h44, h45⟩ := h41
 obtain rfl := h44
 obtain ⟨c46, c47, rfl, h48, h49⟩ := h45
 obtain ⟨v34, rfl, h35⟩ := rd_list h48
 obtain ⟨v36, rfl, h37⟩ := rd_list h49
 refine enter (args := [p0, p1, .int .i64 a2, .int .i64 a3]) Tryz.func73 rfl 100 rfl (Nat.le_of_ble_eq_true rfl) (fun a S => ?_)
 refine wp_seq (region_plain ?_)
 refine lq (.bool false) S (q_assign rfl) fun a S => ?_
 refine lx_nil (thenN ?_)
 refine wp_seq (wp_seq (region_plain ?_))
 refine lq (.int .i64 (0 : Int)) S (q_assign rfl) fun a S => ?_
 refine lx_nil (thenN ?_)
 obtain ⟨res641, hit642, hk645⟩ := bind_some hm
 obtain ⟨f643, hf644, hit642⟩ := iter_name hit642
 refine block_loop (fun a w => Slots a 100 [] ∧ Heap w0 [] w ∧ res641 = .inl ()) ?_ ?_
 ·rintro a w ⟨S, H, rfl⟩
  have hm := ctl_inl hk645
  refine thenN ?_
  refine wp_seq (region_plain ?_)
  refine lq (.bool true) S (q_assign rfl) fun a S => ?_
  refine lx_nil (thenN ?_)
  refine wp_ret ?_
  obtain rfl := Option.some.inj hm
  exact leave1 S rfl rfl ⟨rfl, H⟩
 ·skip
  refine loop_ghost (fun n a w => ∃ (x345 : Int), Slots a 100 [(0, p0), (1, p1), (2, (.int .i64 a2)), (3, (.int .i64 a3)), (9, (.int .i64 x345))] ∧ Heap w0 [] w ∧ iter f643 n (x345) = some res641) _ ⟨(0 : Int), S.sub ⟨rfl, rfl, rfl, rfl, rfl, trivial⟩, H, hit642⟩ ?_
  rintro n a w ⟨x345, S, H, hit642⟩
  obtain ⟨m646, o647, rfl, hm, hc648⟩ := iter_step hit642
  rw [hf644] at hm
  refine wp_seq (wp_seq (region_plain ?_))
  refine lq (.int .i64 x345) S (q_move rfl) fun a S => ?_
  refine lq p0 S (q_move rfl) fun a S => ?_
  refine lq p0 S (q_nilCheck rfl ((hat33 0 _ rfl).isP)) fun a S => ?_
  refine lq (pAdd p0 3) S (q_fieldAddr' 3 29 rfl ((hat33 0 _ rfl).isP) Tryz.underlying31 rfl Tryz.sizeOf29) fun a S => ?_
  refine lx_e v36 S trivial (by decide) rfl trivial (q_load1 rfl Tryz.isAgg29 (by rintro _ rfl; exact (At.of_add (m := 3) (j := 0) ((hat33 3 _ rfl).ext H.ext)))) (fun a S => ?_)
  refine lq (.int .i64 (a0.2.2.2.length : Int)) S (q_lenSl rfl (h37).isSl rfl Tryz.underlying29) fun a S => ?_
  refine lq (.bool (decide (x345 < (a0.2.2.2.length : Int)))) S (q_lss rfl rfl) fun a S => ?_
  refine lx_nil (thenN ?_)
  refine cond_b S rfl (fun hc649 => ?_) (fun hc649 => ?_)
  ·have hm := ite_t hc649 hm
   refine wp_skip (thenN ?_)
   obtain ⟨K650, hK651, hm⟩ := join_elim hm
   refine seq_cut (fun a w => Slots a 100 [(0, p0), (1, p1), (2, (.int .i64 a2)), (3, (.int .i64 a3)), (9, (.int .i64 x345))] ∧ Heap w0 [] w ∧ K650 = some o647) ?_ ?_
   ·rintro a w ⟨S, H, hm⟩
    subst hK651
    refine region_plain ?_
    refine lq (.int .i64 x345) S (q_move rfl) fun a S => ?_
    refine lq (.int .i64 (W (x345 + (1 : Int)))) S (q_add rfl rfl) fun a S => ?_
    refine lq (.int .i64 (W (x345 + (1 : Int)))) S (q_assign rfl) fun a S => ?_
    refine lx_nil ?_
    exact ⟨m646, Nat.lt_succ_self _, (W (x345 + (1 : Int))), S.sub ⟨rfl, rfl, rfl, rfl, rfl, trivial⟩, H, it_cont hm hc648⟩
   ·skip
    refine wp_block ?_
    refine wp_seq (wp_seq (region_plain ?_))
    refine lq p0 S (q_move rfl) fun a S => ?_
    refine lq p0 S (q_nilCheck rfl ((hat33 0 _ rfl).isP)) fun a S => ?_
    refine lq (pAdd p0 3) S (q_fieldAddr' 3 29 rfl ((hat33 0 _ rfl).isP) Tryz.underlying31 rfl Tryz.sizeOf29) fun a S => ?_
    refine lx_e v36 S trivial (by decide) rfl trivial (q_load1 rfl Tryz.isAgg29 (by rintro _ rfl; exact (At.of_add (m := 3) (j := 0) ((hat33 3 _ rfl).ext H.ext)))) (fun a S => ?_)
    refine lq (.int .i64 x345) S (q_move rfl) fun a S => ?_
    obtain ⟨x652, e653, hm⟩ := bind_some hm
    obtain ⟨c654, h655, hat656⟩ := (h37).elem (idx_some e653).2
    obtain ⟨c657, c658, rfl, h659, h660⟩ := h655
    obtain rfl := h659
    obtain ⟨c661, c662, rfl, h663, h664⟩ := h660
    obtain rfl := h663
    obtain rfl := h664
    have hlt := lt_of_idx (idx_some e653).2
    refine lq (ePtr v36 (x345.toNat * 3)) S (q_indexAddr rfl (h37).isSl rfl (idx_some e653).1 hlt Tryz.underlying29 Tryz.sizeOf68) fun a S => ?_
    refine lq (pAdd (ePtr v36 (x345.toNat * 3)) 0) S (q_fieldAddr' 0 2 rfl ((hat656 0 _ rfl).isP) Tryz.underlying68 rfl Tryz.sizeOf2) fun a S => ?_
    refine lx_e (.int .i64 x652.1) S trivial (by decide) rfl trivial (q_load1 rfl Tryz.isAgg2 (by rintro _ rfl; exact (At.of_add (m := 0) (j := 0) ((hat656 0 _ rfl).ext H.ext)))) (fun a S => ?_)
    refine lq (.int .i64 a2) S (q_move rfl) fun a S => ?_
    refine lq (.bool (x652.1 != a2)) S (q_neq rfl rfl) fun a S => ?_
    refine lx_nil (thenN ?_)
    refine cond_b S rfl (fun hc665 => ?_) (fun hc665 => ?_)
    ·have hm := ite_t hc665 hm
     refine wp_exit ?_
     refine then_exit ?_
     refine inBlock_exit ?_
     exact ⟨S.sub ⟨rfl, rfl, rfl, rfl, rfl, trivial⟩, H, hm⟩
    ·have hm := ite_f hc665 hm
     refine wp_skip (thenN ?_)
     refine wp_seq (region_plain ?_)
     refine lq (.bool false) S (q_assign rfl) fun a S => ?_
     refine lx_nil (thenN ?_)
     refine wp_seq (wp_seq (region_plain ?_))
     refine lq (.int .i64 (0 : Int)) S (q_assign rfl) fun a S => ?_
     refine lx_nil (thenN ?_)
     obtain ⟨res847, hit848, hk851⟩ := bind_some hm
     obtain ⟨f849, hf850, hit848⟩ := iter_name hit848
     refine block_loop (fun a w => ∃ (x846 : Bool), Slots a 100 [(0, p0), (1, p1), (2, (.int .i64 a2)), (3, (.int .i64 a3)), (9, (.int .i64 x345)), (10, (.bool x846))] ∧ Heap w0 [] w ∧ res847 = .inl (x846)) ?_ ?_
     ·rintro a w ⟨x846, S, H, rfl⟩
      have hm := ctl_inl hk851
      refine thenN ?_
      refine wp_seq (region_plain ?_)
      refine lq (.bool x846) S (q_move rfl) fun a S => ?_
      refine lq (.bool (!x846)) S (q_not rfl) fun a S => ?_
      refine lx_nil (thenN ?_)
      refine cond_b S rfl (fun hc852 => ?_) (fun hc852 => ?_)
      ·have hm := ite_t hc852 hm
       refine wp_seq (region_plain ?_)
       refine lq (.bool false) S (q_assign rfl) fun a S => ?_
       refine lx_nil (thenN ?_)
       refine wp_ret (inBlock_ret ?_)
       refine then_ret ?_
       refine then_ret ?_
       refine inBlock_ret ?_
       refine then_ret ?_
       refine then_ret ?_
       obtain rfl := it_brk hm hc648
       have hm := ctl_inr hk645
       obtain rfl := Option.some.inj hm
       exact leave1 S rfl rfl ⟨rfl, H⟩
      ·have hm := ite_f hc852 hm
       refine wp_skip ?_
       refine inBlock_norm ?_
       exact ⟨S.sub ⟨rfl, rfl, rfl, rfl, rfl, trivial⟩, H, hm⟩
     ·skip
      refine loop_ghost (fun n a w => ∃ (x755 : Bool) (x756 : Int), Slots a 100 [(0, p0), (1, p1), (2, (.int .i64 a2)), (3, (.int .i64 a3)), (9, (.int .i64 x345)), (10, (.bool x755)), (11, (.int .i64 x756))] ∧ Heap w0 [] w ∧ iter f849 n (x755, x756) = some res847) _ ⟨false, (0 : Int), S.sub ⟨rfl, rfl, rfl, rfl, rfl, rfl, rfl, trivial⟩, H, hit848⟩ ?_
      rintro n a w ⟨x755, x756, S, H, hit848⟩
      obtain ⟨m853, o854, rfl, hm, hc855⟩ := iter_step hit848
      rw [hf850] at hm
      refine wp_seq (wp_seq (region_plain ?_))
      refine lq (.int .i64 x756) S (q_move rfl) fun a S => ?_
      refine lq p0 S (q_move rfl) fun a S => ?_
      refine lq p0 S (q_nilCheck rfl ((hat33 0 _ rfl).isP)) fun a S => ?_
      refine lq (pAdd p0 3) S (q_fieldAddr' 3 29 rfl ((hat33 0 _ rfl).isP) Tryz.underlying31 rfl Tryz.sizeOf29) fun a S => ?_
      refine lx_e v36 S trivial (by decide) rfl trivial (q_load1 rfl Tryz.isAgg29 (by rintro _ rfl; exact (At.of_add (m := 3) (j := 0) ((hat33 3 _ rfl).ext H.ext)))) (fun a S => ?_)
      refine lq (.int .i64 (a0.2.2.2.length : Int)) S (q_lenSl rfl (h37).isSl rfl Tryz.underlying29) fun a S => ?_
      refine lq (.bool (decide (x756 < (a0.2.2.2.length : Int)))) S (q_lss rfl rfl) fun a S => ?_
      refine lq (.bool (decide (x756 < (a0.2.2.2.length : Int)))) S (q_move rfl) fun a S => ?_
      obtain ⟨t856, e857, hm⟩ := bind_some hm
      refine lx_cut 3 (fun a w => Slots a 100 [(0, p0), (1, p1), (2, (.int .i64 a2)), (3, (.int .i64 a3)), (9, (.int .i64 x345)), (10, (.bool x755)), (11, (.int .i64 x756)), (41, (.bool t856))] ∧ Heap w0 [] w) ?_ ?_
      ·by_cases hc858 : (decide (x756 < (a0.2.2.2.length : Int))) = true
       ·have hm := ite_t hc858 e857
        refine lx_q (.bool x755) S (want_b rfl rfl hc858) (by decide) (q_move rfl) (fun a S => ?_)
        refine lx_q (.bool (!x755)) S (want_b rfl rfl hc858) (by decide) (q_not rfl) (fun a S => ?_)
        refine lq (.bool (!x755)) S (q_pickT' rfl hc858 rfl) fun a S => ?_
        refine lx_nil ?_
        obtain rfl := Option.some.inj hm
        exact ⟨S.sub ⟨rfl, rfl, rfl, rfl, rfl, rfl, rfl, rfl, trivial⟩, H⟩
       ·have hm := ite_f (eq_false_of_ne_true hc858) e857
        have hc858 : (decide (x756 < (a0.2.2.2.length : Int))) = false := eq_false_of_ne_true hc858
        refine lx_skip S rfl rfl (isB_ne hc858) (by decide) (fun a S => ?_)
        refine lx_skip S rfl rfl (isB_ne hc858) (by decide) (fun a S => ?_)
        refine lq (.bool false) S (q_pickF' rfl hc858 rfl) fun a S => ?_
        refine lx_nil ?_
        obtain rfl := Option.some.inj hm
        exact ⟨S.sub ⟨rfl, rfl, rfl, rfl, rfl, rfl, rfl, rfl, trivial⟩, H⟩
      ·rintro a w ⟨S, H⟩
       refine lx_nil (thenN ?_)
       refine cond_b S rfl (fun hc859 => ?_) (fun hc859 => ?_)
       ·have hm := ite_t hc859 hm
        refine wp_skip (thenN ?_)
        refine wp_seq ?_
        refine wp_block ?_
        refine region_drawG (fun w1 => Heap w0 [] w1) (fun i => [].contains i) mixed (by kernel_rfl) (fun w861 he860 => ?_)
        have H := H.later he860
        refine ⟨H.sel [] (by decide), ?_⟩
        refine lq p0 S (q_move rfl) fun a S => ?_
        refine lq p0 S (q_nilCheck rfl ((hat33 0 _ rfl).isP)) fun a S => ?_
        refine lq (pAdd p0 3) S (q_fieldAddr' 3 29 rfl ((hat33 0 _ rfl).isP) Tryz.underlying31 rfl Tryz.sizeOf29) fun a S => ?_
        refine lq v36 S (q_load1 rfl Tryz.isAgg29 (fun w1 hC => (At.of_add (m := 3) (j := 0) ((hat33 3 _ rfl).ext hC.ext)))) fun a S => ?_
        refine lq (.int .i64 x756) S (q_move rfl) fun a S => ?_
        obtain ⟨x862, e863, hm⟩ := bind_some hm
        obtain ⟨c864, h865, hat866⟩ := (h37).elem (idx_some e863).2
        obtain ⟨c867, c868, rfl, h869, h870⟩ := h865
        obtain rfl := h869
        obtain ⟨c871, c872, rfl, h873, h874⟩ := h870
        obtain rfl := h873
        obtain rfl := h874
        have hlt := lt_of_idx (idx_some e863).2
        refine lq (ePtr v36 (x756.toNat * 3)) S (q_indexAddr rfl (h37).isSl rfl (idx_some e863).1 hlt Tryz.underlying29 Tryz.sizeOf68) fun a S => ?_
        refine lq (pAdd (ePtr v36 (x756.toNat * 3)) 0) S (q_fieldAddr' 0 2 rfl ((hat866 0 _ rfl).isP) Tryz.underlying68 rfl Tryz.sizeOf2) fun a S => ?_
        refine lq (.int .i64 x862.1) S (q_load1 rfl Tryz.isAgg2 (fun w1 hC => (At.of_add (m := 0) (j := 0) ((hat866 0 _ rfl).ext hC.ext)))) fun a S => ?_
        refine lq (.int .i64 a3) S (q_move rfl) fun a S => ?_
        refine lq (.bool (x862.1 == a3)) S (q_eql rfl rfl) fun a S => ?_
        refine lq (.bool (x862.1 == a3)) S (q_move rfl) fun a S => ?_
        obtain ⟨t875, e876, hm⟩ := bind_some hm
        refine lx_cut 18 (fun a w => Slots a 100 [(0, p0), (1, p1), (2, (.int .i64 a2)), (3, (.int .i64 a3)), (9, (.int .i64 x345)), (11, (.int .i64 x756)), (72, (.bool t875))] ∧ Heap w0 [] w) ?_ ?_
        ·by_cases hc877 : (x862.1 == a3) = true
         ·have hm := ite_t hc877 e876
          refine lx_q p0 S (want_b rfl rfl hc877) (by decide) (q_move rfl) (fun a S => ?_)
          refine lx_q p0 S (want_b rfl rfl hc877) (by decide) (q_nilCheck rfl ((hat33 0 _ rfl).isP)) (fun a S => ?_)
          refine lx_q (pAdd p0 3) S (want_b rfl rfl hc877) (by decide) (q_fieldAddr' 3 29 rfl ((hat33 0 _ rfl).isP) Tryz.underlying31 rfl Tryz.sizeOf29) (fun a S => ?_)
          refine lx_q v36 S (want_b rfl rfl hc877) (by decide) (q_load1 rfl Tryz.isAgg29 (fun w1 hC => (At.of_add (m := 3) (j := 0) ((hat33 3 _ rfl).ext hC.ext)))) (fun a S => ?_)
          refine lx_q (.int .i64 x756) S (want_b rfl rfl hc877) (by decide) (q_move rfl) (fun a S => ?_)
          obtain ⟨x878, e879, hm⟩ := bind_some hm
          obtain ⟨c880, h881, hat882⟩ := (h37).elem (idx_some e879).2
          obtain ⟨c883, c884, rfl, h885, h886⟩ := h881
          obtain rfl := h885
          obtain ⟨c887, c888, rfl, h889, h890⟩ := h886
          obtain rfl := h889
          obtain rfl := h890
          have hlt := lt_of_idx (idx_some e879).2
          refine lx_q (ePtr v36 (x756.toNat * 3)) S (want_b rfl rfl hc877) (by decide) (q_indexAddr rfl (h37).isSl rfl (idx_some e879).1 hlt Tryz.underlying29 Tryz.sizeOf68) (fun a S => ?_)
          refine lx_q (pAdd (ePtr v36 (x756.toNat * 3)) 1) S (want_b rfl rfl hc877) (by decide) (q_fieldAddr' 1 2 rfl ((hat882 0 _ rfl).isP) Tryz.underlying68 rfl Tryz.sizeOf2) (fun a S => ?_)
          refine lx_q (.int .i64 x878.2.1) S (want_b rfl rfl hc877) (by decide) (q_load1 rfl Tryz.isAgg2 (fun w1 hC => (At.of_add (m := 1) (j := 0) ((hat882 1 _ rfl).ext hC.ext)))) (fun a S => ?_)
          refine lx_q p0 S (want_b rfl rfl hc877) (by decide) (q_move rfl) (fun a S => ?_)
          refine lx_q p0 S (want_b rfl rfl hc877) (by decide) (q_nilCheck rfl ((hat33 0 _ rfl).isP)) (fun a S => ?_)
          refine lx_q (pAdd p0 3) S (want_b rfl rfl hc877) (by decide) (q_fieldAddr' 3 29 rfl ((hat33 0 _ rfl).isP) Tryz.underlying31 rfl Tryz.sizeOf29) (fun a S => ?_)
          refine lx_q v36 S (want_b rfl rfl hc877) (by decide) (q_load1 rfl Tryz.isAgg29 (fun w1 hC => (At.of_add (m := 3) (j := 0) ((hat33 3 _ rfl).ext hC.ext)))) (fun a S => ?_)
          refine lx_q (.int .i64 x345) S (want_b rfl rfl hc877) (by decide) (q_move rfl) (fun a S => ?_)
          obtain ⟨x891, e892, hm⟩ := bind_some hm
          obtain ⟨c893, h894, hat895⟩ := (h37).elem (idx_some e892).2
          obtain ⟨c896, c897, rfl, h898, h899⟩ := h894
          obtain rfl := h898
          obtain ⟨c900, c901, rfl, h902, h903⟩ := h899
          obtain rfl := h902
          obtain rfl := h903
          have hlt := lt_of_idx (idx_some e892).2
          refine lx_q (ePtr v36 (x345.toNat * 3)) S (want_b rfl rfl hc877) (by decide) (q_indexAddr rfl (h37).isSl rfl (idx_some e892).1 hlt Tryz.underlying29 Tryz.sizeOf68) (fun a S => ?_)
          refine lx_q (pAdd (ePtr v36 (x345.toNat * 3)) 1) S (want_b rfl rfl hc877) (by decide) (q_fieldAddr' 1 2 rfl ((hat895 0 _ rfl).isP) Tryz.underlying68 rfl Tryz.sizeOf2) (fun a S => ?_)
          refine lx_q (.int .i64 x891.2.1) S (want_b rfl rfl hc877) (by decide) (q_load1 rfl Tryz.isAgg2 (fun w1 hC => (At.of_add (m := 1) (j := 0) ((hat895 1 _ rfl).ext hC.ext)))) (fun a S => ?_)
          refine lx_q (.bool (x878.2.1 == x891.2.1)) S (want_b rfl rfl hc877) (by decide) (q_eql rfl rfl) (fun a S => ?_)
          refine lq (.bool (x878.2.1 == x891.2.1)) S (q_pickT' rfl hc877 rfl) fun a S => ?_
          refine lx_nil ?_
          obtain rfl := Option.some.inj hm
          exact ⟨S.sub ⟨rfl, rfl, rfl, rfl, rfl, rfl, rfl, trivial⟩, H⟩
         ·have hm := ite_f (eq_false_of_ne_true hc877) e876
          have hc877 : (x862.1 == a3) = false := eq_false_of_ne_true hc877
          refine lx_skip S rfl rfl (isB_ne hc877) (by decide) (fun a S => ?_)
          refine lx_skip S rfl rfl (isB_ne hc877) (by decide) (fun a S => ?_)
          refine lx_skip S rfl rfl (isB_ne hc877) (by decide) (fun a S => ?_)
          refine lx_skip S rfl rfl (isB_ne hc877) (by decide) (fun a S => ?_)
          refine lx_skip S rfl rfl (isB_ne hc877) (by decide) (fun a S => ?_)
          refine lx_skip S rfl rfl (isB_ne hc877) (by decide) (fun a S => ?_)
          refine lx_skip S rfl rfl (isB_ne hc877) (by decide) (fun a S => ?_)
          refine lx_skip S rfl rfl (isB_ne hc877) (by decide) (fun a S => ?_)
          refine lx_skip S rfl rfl (isB_ne hc877) (by decide) (fun a S => ?_)
          refine lx_skip S rfl rfl (isB_ne hc877) (by decide) (fun a S => ?_)
          refine lx_skip S rfl rfl (isB_ne hc877) (by decide) (fun a S => ?_)
          refine lx_skip S rfl rfl (isB_ne hc877) (by decide) (fun a S => ?_)
          refine lx_skip S rfl rfl (isB_ne hc877) (by decide) (fun a S => ?_)
          refine lx_skip S rfl rfl (isB_ne hc877) (by decide) (fun a S => ?_)
          refine lx_skip S rfl rfl (isB_ne hc877) (by decide) (fun a S => ?_)
          refine lx_skip S rfl rfl (isB_ne hc877) (by decide) (fun a S => ?_)
          refine lx_skip S rfl rfl (isB_ne hc877) (by decide) (fun a S => ?_)
          refine lq (.bool false) S (q_pickF' rfl hc877 rfl) fun a S => ?_
          refine lx_nil ?_
          obtain rfl := Option.some.inj hm
          exact ⟨S.sub ⟨rfl, rfl, rfl, rfl, rfl, rfl, rfl, trivial⟩, H⟩
        ·rintro a w ⟨S, H⟩
         refine lq (.bool t875) S (q_move rfl) fun a S => ?_
         obtain ⟨t904, e905, hm⟩ := bind_some hm
         refine lx_cut 24 (fun a w => Slots a 100 [(0, p0), (1, p1), (2, (.int .i64 a2)), (3, (.int .i64 a3)), (9, (.int .i64 x345)), (11, (.int .i64 x756)), (97, (.bool t904))] ∧ Heap w0 [] w) ?_ ?_
         ·by_cases hc906 : t875 = true
          ·have hm := ite_t hc906 e905
           refine lx_q p1 S (want_b rfl rfl hc906) (by decide) (q_move rfl) (fun a S => ?_)
           refine lx_q p0 S (want_b rfl rfl hc906) (by decide) (q_move rfl) (fun a S => ?_)
           refine lx_q p0 S (want_b rfl rfl hc906) (by decide) (q_nilCheck rfl ((hat33 0 _ rfl).isP)) (fun a S => ?_)
           refine lx_q (pAdd p0 3) S (want_b rfl rfl hc906) (by decide) (q_fieldAddr' 3 29 rfl ((hat33 0 _ rfl).isP) Tryz.underlying31 rfl Tryz.sizeOf29) (fun a S => ?_)
           refine lx_q v36 S (want_b rfl rfl hc906) (by decide) (q_load1 rfl Tryz.isAgg29 (fun w1 hC => (At.of_add (m := 3) (j := 0) ((hat33 3 _ rfl).ext hC.ext)))) (fun a S => ?_)
           refine lx_q (.int .i64 x756) S (want_b rfl rfl hc906) (by decide) (q_move rfl) (fun a S => ?_)
           obtain ⟨x907, e908, hm⟩ := bind_some hm
           obtain ⟨c909, h910, hat911⟩ := (h37).elem (idx_some e908).2
           obtain ⟨c912, c913, rfl, h914, h915⟩ := h910
           obtain rfl := h914
           obtain ⟨c916, c917, rfl, h918, h919⟩ := h915
           obtain rfl := h918
           obtain rfl := h919
           have hlt := lt_of_idx (idx_some e908).2
           refine lx_q (ePtr v36 (x756.toNat * 3)) S (want_b rfl rfl hc906) (by decide) (q_indexAddr rfl (h37).isSl rfl (idx_some e908).1 hlt Tryz.underlying29 Tryz.sizeOf68) (fun a S => ?_)
           refine lx_q (pAdd (ePtr v36 (x756.toNat * 3)) 2) S (want_b rfl rfl hc906) (by decide) (q_fieldAddr' 2 2 rfl ((hat911 0 _ rfl).isP) Tryz.underlying68 rfl Tryz.sizeOf2) (fun a S => ?_)
           refine lx_q (.int .i64 x907.2.2) S (want_b rfl rfl hc906) (by decide) (q_load1 rfl Tryz.isAgg2 (fun w1 hC => (At.of_add (m := 2) (j := 0) ((hat911 2 _ rfl).ext hC.ext)))) (fun a S => ?_)
           obtain ⟨x920, e921, hm⟩ := bind_some hm
           obtain ⟨c922, h923, hat924⟩ := (h1).elem (idx_some e921).2
           obtain rfl := h923
           have hlt := lt_of_idx (idx_some e921).2
           refine lx_q (ePtr p1 (x907.2.2.toNat * 1)) S (want_b rfl rfl hc906) (by decide) (q_indexAddr rfl (h1).isSl rfl (idx_some e921).1 hlt Tryz.underlying61 Tryz.sizeOf2) (fun a S => ?_)
           refine lx_q (.int .i64 x920) S (want_b rfl rfl hc906) (by decide) (q_load1 rfl Tryz.isAgg2 (fun w1 hC => ((hat924 0 _ rfl).ext hC.ext))) (fun a S => ?_)
           refine lx_q p1 S (want_b rfl rfl hc906) (by decide) (q_move rfl) (fun a S => ?_)
           refine lx_q p0 S (want_b rfl rfl hc906) (by decide) (q_move rfl) (fun a S => ?_)
           refine lx_q p0 S (want_b rfl rfl hc906) (by decide) (q_nilCheck rfl ((hat33 0 _ rfl).isP)) (fun a S => ?_)
           refine lx_q (pAdd p0 3) S (want_b rfl rfl hc906) (by decide) (q_fieldAddr' 3 29 rfl ((hat33 0 _ rfl).isP) Tryz.underlying31 rfl Tryz.sizeOf29) (fun a S => ?_)
           refine lx_q v36 S (want_b rfl rfl hc906) (by decide) (q_load1 rfl Tryz.isAgg29 (fun w1 hC => (At.of_add (m := 3) (j := 0) ((hat33 3 _ rfl).ext hC.ext)))) (fun a S => ?_)
           refine lx_q (.int .i64 x345) S (want_b rfl rfl hc906) (by decide) (q_move rfl) (fun a S => ?_)
           obtain ⟨x925, e926, hm⟩ := bind_some hm
           obtain ⟨c927, h928, hat929⟩ := (h37).elem (idx_some e926).2
           obtain ⟨c930, c931, rfl, h932, h933⟩ := h928
           obtain rfl := h932
           obtain ⟨c934, c935, rfl, h936, h937⟩ := h933
           obtain rfl := h936
           obtain rfl := h937
           have hlt := lt_of_idx (idx_some e926).2
           refine lx_q (ePtr v36 (x345.toNat * 3)) S (want_b rfl rfl hc906) (by decide) (q_indexAddr rfl (h37).isSl rfl (idx_some e926).1 hlt Tryz.underlying29 Tryz.sizeOf68) (fun a S => ?_)
           refine lx_q (pAdd (ePtr v36 (x345.toNat * 3)) 2) S (want_b rfl rfl hc906) (by decide) (q_fieldAddr' 2 2 rfl ((hat929 0 _ rfl).isP) Tryz.underlying68 rfl Tryz.sizeOf2) (fun a S => ?_)
           refine lx_q (.int .i64 x925.2.2) S (want_b rfl rfl hc906) (by decide) (q_load1 rfl Tryz.isAgg2 (fun w1 hC => (At.of_add (m := 2) (j := 0) ((hat929 2 _ rfl).ext hC.ext)))) (fun a S => ?_)
           obtain ⟨x938, e939, hm⟩ := bind_some hm
           obtain ⟨c940, h941, hat942⟩ := (h1).elem (idx_some e939).2
           obtain rfl := h941
           have hlt := lt_of_idx (idx_some e939).2
           refine lx_q (ePtr p1 (x925.2.2.toNat * 1)) S (want_b rfl rfl hc906) (by decide) (q_indexAddr rfl (h1).isSl rfl (idx_some e939).1 hlt Tryz.underlying61 Tryz.sizeOf2) (fun a S => ?_)
           refine lx_q (.int .i64 x938) S (want_b rfl rfl hc906) (by decide) (q_load1 rfl Tryz.isAgg2 (fun w1 hC => ((hat942 0 _ rfl).ext hC.ext))) (fun a S => ?_)
           refine lx_q (.bool (x920 == x938)) S (want_b rfl rfl hc906) (by decide) (q_eql rfl rfl) (fun a S => ?_)
           refine lq (.bool (x920 == x938)) S (q_pickT' rfl hc906 rfl) fun a S => ?_
           refine lx_nil ?_
           obtain rfl := Option.some.inj hm
           exact ⟨S.sub ⟨rfl, rfl, rfl, rfl, rfl, rfl, rfl, trivial⟩, H⟩
          ·have hm := ite_f (eq_false_of_ne_true hc906) e905
           have hc906 : t875 = false := eq_false_of_ne_true hc906
           refine lx_skip S rfl rfl (isB_ne hc906) (by decide) (fun a S => ?_)
           refine lx_skip S rfl rfl (isB_ne hc906) (by decide) (fun a S => ?_)
           refine lx_skip S rfl rfl (isB_ne hc906) (by decide) (fun a S => ?_)
           refine lx_skip S rfl rfl (isB_ne hc906) (by decide) (fun a S => ?_)
           refine lx_skip S rfl rfl (isB_ne hc906) (by decide) (fun a S => ?_)
           refine lx_skip S rfl rfl (isB_ne hc906) (by decide) (fun a S => ?_)
           refine lx_skip S rfl rfl (isB_ne hc906) (by decide) (fun a S => ?_)
           refine lx_skip S rfl rfl (isB_ne hc906) (by decide) (fun a S => ?_)
           refine lx_skip S rfl rfl (isB_ne hc906) (by decide) (fun a S => ?_)
           refine lx_skip S rfl rfl (isB_ne hc906) (by decide) (fun a S => ?_)
           refine lx_skip S rfl rfl (isB_ne hc906) (by decide) (fun a S => ?_)
           refine lx_skip S rfl rfl (isB_ne hc906) (by decide) (fun a S => ?_)
           refine lx_skip S rfl rfl (isB_ne hc906) (by decide) (fun a S => ?_)
           refine lx_skip S rfl rfl (isB_ne hc906) (by decide) (fun a S => ?_)
           refine lx_skip S rfl rfl (isB_ne hc906) (by decide) (fun a S => ?_)
           refine lx_skip S rfl rfl (isB_ne hc906) (by decide) (fun a S => ?_)
           refine lx_skip S rfl rfl (isB_ne hc906) (by decide) (fun a S => ?_)
           refine lx_skip S rfl rfl (isB_ne hc906) (by decide) (fun a S => ?_)
           refine lx_skip S rfl rfl (isB_ne hc906) (by decide) (fun a S => ?_)
           refine lx_skip S rfl rfl (isB_ne hc906) (by decide) (fun a S => ?_)
           refine lx_skip S rfl rfl (isB_ne hc906) (by decide) (fun a S => ?_)
           refine lx_skip S rfl rfl (isB_ne hc906) (by decide) (fun a S => ?_)
           refine lx_skip S rfl rfl (isB_ne hc906) (by decide) (fun a S => ?_)
           refine lq (.bool false) S (q_pickF' rfl hc906 rfl) fun a S => ?_
           refine lx_nil ?_
           obtain rfl := Option.some.inj hm
           exact ⟨S.sub ⟨rfl, rfl, rfl, rfl, rfl, rfl, rfl, trivial⟩, H⟩
         ·rintro a w ⟨S, H⟩
          refine lq (.bool t904) S (q_assign rfl) fun a S => ?_
          refine lx_nil ?_
          refine inBlock_norm ?_
          refine thenN ?_
          refine region_plain ?_
          refine lq (.int .i64 x756) S (q_move rfl) fun a S => ?_
          refine lq (.int .i64 (W (x756 + (1 : Int)))) S (q_add rfl rfl) fun a S => ?_
          refine lq (.int .i64 (W (x756 + (1 : Int)))) S (q_assign rfl) fun a S => ?_
          refine lx_nil ?_
          exact ⟨m853, Nat.lt_succ_self _, t904, (W (x756 + (1 : Int))), S.sub ⟨rfl, rfl, rfl, rfl, rfl, rfl, rfl, trivial⟩, H, it_cont hm hc855⟩
       ·have hm := ite_f hc859 hm
        refine wp_exit ?_
        refine then_exit ?_
        refine then_exit ?_
        refine inBlock_exit ?_
        obtain rfl := it_brk hm hc855
        exact ⟨x755, S.sub ⟨rfl, rfl, rfl, rfl, rfl, rfl, trivial⟩, H, rfl⟩
  ·have hm := ite_f hc649 hm
   refine wp_exit ?_
   refine then_exit ?_
   refine then_exit ?_
   refine inBlock_exit ?_
   obtain rfl := it_brk hm hc648
   exact ⟨S.sub trivial, H, rfl⟩

/-- spec.l02Norm -/
def spec_l02Norm_m (fuel : Nat) (a0 : (List Int)) : Option ((List Int)) :=
  (mks (a0.length : Int) (0 : Int)).bind fun x31 => (iter (fun (s : (List Int) × (Int) × (Int)) => (match s with | (xs111, x112, x113) => (if (decide (x113 < (a0.length : Int))) = true then join (κ := List Int → Int → Option (((List Int) × (Int) × (Int)) ⊕ (((List Int)) ⊕ ((List Int))))) (fun (xs198 : List Int) (x199 : Int) => some (.inl (xs198, x199, (W (x113 + (1 : Int)))))) (fun K200 => (iter (fun (s : (Int)) => (match s with | (x217) => (if (decide (x217 < x113)) = true then (idx a0 x217).bind fun x257 => (idx a0 x113).bind fun x262 => (if (x257 == x262) = true then some (.inr (.inl (x217))) else some (.inl ((W (x217 + (1 : Int)))))) else some (.inr (.inl ((-1 : Int))))) : Option (((Int)) ⊕ ((Int) ⊕ ((List Int)))))) fuel ((0 : Int))).bind fun res234 => ctl (β := Int) (ρ := (List Int)) (τ := (((List Int) × (Int) × (Int)) ⊕ (((List Int)) ⊕ ((List Int))))) res234 (fun (x233) => (if (decide ((0 : Int) ≤ x233)) = true then (idx xs111 x233).bind fun x240 => (idx xs111 x113).bind fun _ => (K200 (xs111.set x113.toNat x240) x112) else (idx xs111 x113).bind fun _ => (K200 (xs111.set x113.toNat x112) (W (x112 + (1 : Int)))))) (fun q => some (.inr (.inr q)))) else some (.inr (.inl (xs111)))) : Option (((List Int) × (Int) × (Int)) ⊕ (((List Int)) ⊕ ((List Int)))))) fuel (x31, (0 : Int), (0 : Int))).bind fun res189 => ctl (β := (List Int)) (ρ := (List Int)) (τ := (List Int)) res189 (fun (xs188) => some (xs188)) (fun q => some (q))
set_option maxRecDepth 20000 in
theorem spec_l02Norm_ok [dr : Dr] {w0 : World} {fuel : Nat} {p0 : Value} {a0 : (List Int)} {r : (List Int)} (h0 : Rd (rList (rInt .i64)) w0 p0 a0) (hm : spec_l02Norm_m fuel a0 = some r) :
  Calls Tryz.prog 74 #[p0] w0 fun e w => ∃ (v0 : Value), e = .returned (v0) ∧ Heap w0 [oA (rList (rInt .i64)) v0 r] w := by
 unfold spec_l02Norm_m at hm
 have H := Heap.start w0
 refine enter (args := [p0]) Tryz.func74 rfl 48 rfl (Nat.le_of_ble_eq_true rfl) (fun a S => ?_)
 refine wp_seq (region_plain ?_)
 refine lq (.slice none 0 0) S (q_assign rfl) fun a S => ?_
 refine lx_nil (thenN ?_)
 refine wp_seq (region_plain ?_)
 refine lq p0 S (q_move rfl) fun a S => ?_
 refine lq (.int .i64 (a0.length : Int)) S (q_lenSl rfl (h0).isSl rfl Tryz.underlying61) fun a S => ?_
 obtain ⟨x31, e32, hm⟩ := bind_some hm
 obtain ⟨m33, hn, hn2, rfl⟩ := mks_some e32
 refine lx_make (r := (rInt .i64)) (z0 := (0 : Int)) (n := m33) S trivial (by decide) rfl H (by rw [← hn]; rfl) (by rw [← hn]; rfl) Tryz.underlying61 (Tryz.ti2) rfl rfl (Nat.le_of_ble_eq_true rfl) (fun w => ⟨rfl, rfl⟩) hn2 (by decide) (fun v34 w35 H => ⟨trivial, fun a S => ?_⟩)
 refine lq v34 S (q_assign rfl) fun a S => ?_
 refine lx_nil (thenN ?_)
 refine wp_seq (region_plain ?_)
 refine lq (.int .i64 (0 : Int)) S (q_assign rfl) fun a S => ?_
 refine lx_nil (thenN ?_)
 refine wp_seq (wp_seq (region_plain ?_))
 refine lq (.int .i64 (0 : Int)) S (q_assign rfl) fun a S => ?_
 refine lx_nil (thenN ?_)
 obtain ⟨res189, hit190, hk193⟩ := bind_some hm
 obtain ⟨f191, hf192, hit190⟩ := iter_name hit190
 refine block_loop (fun a w => ∃ (xs188 : List Int), Slots a 48 [(3, v34)] ∧ Heap w0 [oA (rList (rInt .i64)) v34 xs188] w ∧ res189 = .inl (xs188)) ?_ ?_
 ·rintro a w ⟨xs188, S, H, rfl⟩
  have hm := ctl_inl hk193
  refine thenN ?_
  refine wp_seq (region_plain ?_)
  refine lq v34 S (q_move rfl) fun a S => ?_
  refine lq v34 S (q_assign rfl) fun a S => ?_
  refine lx_nil (thenN ?_)
  refine wp_ret ?_
  obtain rfl := Option.some.inj hm
  exact leave1 S rfl rfl ⟨v34, rfl, H⟩
 ·skip
  refine loop_ghost (fun n a w => ∃ (xs111 : List Int) (x112 : Int) (x113 : Int), Slots a 48 [(0, p0), (3, v34), (4, (.int .i64 x112)), (5, (.int .i64 x113))] ∧ Heap w0 [oA (rList (rInt .i64)) v34 xs111] w ∧ iter f191 n (xs111, x112, x113) = some res189) _ ⟨(List.replicate m33 (0 : Int)), (0 : Int), (0 : Int), S.sub ⟨rfl, rfl, rfl, rfl, trivial⟩, H, hit190⟩ ?_
  rintro n a w ⟨xs111, x112, x113, S, H, hit190⟩
  obtain ⟨m194, o195, rfl, hm, hc196⟩ := iter_step hit190
  rw [hf192] at hm
  refine wp_seq (wp_seq (region_plain ?_))
  refine lq (.int .i64 x113) S (q_move rfl) fun a S => ?_
  refine lq p0 S (q_move rfl) fun a S => ?_
  refine lq (.int .i64 (a0.length : Int)) S (q_lenSl rfl (h0).isSl rfl Tryz.underlying61) fun a S => ?_
  refine lq (.bool (decide (x113 < (a0.length : Int)))) S (q_lss rfl rfl) fun a S => ?_
  refine lx_nil (thenN ?_)
  refine cond_b S rfl (fun hc197 => ?_) (fun hc197 => ?_)
  ·have hm := ite_t hc197 hm
   refine wp_skip (thenN ?_)
   obtain ⟨K200, hK201, hm⟩ := join_elim hm
   refine seq_cut (fun a w => ∃ (xs198 : List Int) (x199 : Int), Slots a 48 [(0, p0), (3, v34), (4, (.int .i64 x199)), (5, (.int .i64 x113))] ∧ Heap w0 [oA (rList (rInt .i64)) v34 xs198] w ∧ K200 xs198 x199 = some o195) ?_ ?_
   ·rintro a w ⟨xs198, x199, S, H, hm⟩
    subst hK201
    refine region_plain ?_
    refine lq (.int .i64 x113) S (q_move rfl) fun a S => ?_
    refine lq (.int .i64 (W (x113 + (1 : Int)))) S (q_add rfl rfl) fun a S => ?_
    refine lq (.int .i64 (W (x113 + (1 : Int)))) S (q_assign rfl) fun a S => ?_
    refine lx_nil ?_
    exact ⟨m194, Nat.lt_succ_self _, xs198, x199, (W (x113 + (1 : Int))), S.sub ⟨rfl, rfl, rfl, rfl, trivial⟩, H, it_cont hm hc196⟩
   ·skip
    refine wp_block ?_
    refine wp_seq (region_plain ?_)
    refine lq (.int .i64 (-1 : Int)) S (q_assign rfl) fun a S => ?_
    refine lx_nil (thenN ?_)
    refine wp_seq (wp_seq (region_plain ?_))
    refine lq (.int .i64 (0 : Int)) S (q_assign rfl) fun a S => ?_
    refine lx_nil (thenN ?_)
    obtain ⟨res234, hit235, hk238⟩ := bind_some hm
    obtain ⟨f236, hf237, hit235⟩ := iter_name hit235
    refine block_loop (fun a w => ∃ (x233 : Int), Slots a 48 [(0, p0), (3, v34), (4, (.int .i64 x112)), (5, (.int .i64 x113)), (6, (.int .i64 x233))] ∧ Heap w0 [oA (rList (rInt .i64)) v34 xs111] w ∧ res234 = .inl (x233)) ?_ ?_
    ·rintro a w ⟨x233, S, H, rfl⟩
     have hm := ctl_inl hk238
     refine thenN ?_
     refine wp_seq (region_plain ?_)
     refine lq (.int .i64 x233) S (q_move rfl) fun a S => ?_
     refine lq (.bool (decide ((0 : Int) ≤ x233))) S (q_geq rfl rfl) fun a S => ?_
     refine lx_nil (thenN ?_)
     refine cond_b S rfl (fun hc239 => ?_) (fun hc239 => ?_)
     ·have hm := ite_t hc239 hm
      refine region_plain ?_
      refine lq v34 S (q_move rfl) fun a S => ?_
      refine lq (.int .i64 x113) S (q_move rfl) fun a S => ?_
      refine lq v34 S (q_move rfl) fun a S => ?_
      refine lq (.int .i64 x233) S (q_move rfl) fun a S => ?_
      obtain ⟨x240, e241, hm⟩ := bind_some hm
      have hlt := lt_of_idx (idx_some e241).2
      refine lq (ePtr v34 (x233.toNat * 1)) S (q_indexAddr rfl (H.isSl 0 rfl) rfl (idx_some e241).1 hlt Tryz.underlying61 Tryz.sizeOf2) fun a S => ?_
      obtain ⟨c242, h243, hat244⟩ := (H.rdAt 0 rfl).elem (idx_some e241).2
      obtain rfl := h243
      refine lx_e (.int .i64 x240) S trivial (by decide) rfl trivial (q_load1 rfl Tryz.isAgg2 (by rintro _ rfl; exact (hat244 0 _ rfl))) (fun a S => ?_)
      obtain ⟨x245, e246, hm⟩ := bind_some hm
      have hlt := lt_of_idx (idx_some e246).2
      refine lq (ePtr v34 (x113.toNat * 1)) S (q_indexAddr rfl (H.isSl 0 rfl) rfl (idx_some e246).1 hlt Tryz.underlying61 Tryz.sizeOf2) fun a S => ?_
      refine lx_storeElem (r := (rInt .i64)) (us := [(.int .i64 x240)]) (off := 0) (e' := x240) S trivial rfl H.putE (ev_zero rfl) rfl (idx_some e246).2 rfl Tryz.sizeOf2 (Nat.le_of_ble_eq_true rfl) (List.forall_mem_cons.2 ⟨rfl, (List.forall_mem_nil _)⟩) (Upd.full rfl (fun w G hG => by cases (show G = [] from hG); exact ⟨rfl, rfl⟩)) (fun w247 H => ⟨trivial, fun a S => ?_⟩)
      refine lx_nil ?_
      refine inBlock_norm ?_
      exact ⟨(xs111.set x113.toNat x240), x112, S.sub ⟨rfl, rfl, rfl, rfl, trivial⟩, H, hm⟩
     ·have hm := ite_f hc239 hm
      refine wp_seq (region_plain ?_)
      refine lq v34 S (q_move rfl) fun a S => ?_
      refine lq (.int .i64 x113) S (q_move rfl) fun a S => ?_
      refine lq (.int .i64 x112) S (q_move rfl) fun a S => ?_
      obtain ⟨x248, e249, hm⟩ := bind_some hm
      have hlt := lt_of_idx (idx_some e249).2
      refine lq (ePtr v34 (x113.toNat * 1)) S (q_indexAddr rfl (H.isSl 0 rfl) rfl (idx_some e249).1 hlt Tryz.underlying61 Tryz.sizeOf2) fun a S => ?_
      refine lx_storeElem (r := (rInt .i64)) (us := [(.int .i64 x112)]) (off := 0) (e' := x112) S trivial rfl H.putE (ev_zero rfl) rfl (idx_some e249).2 rfl Tryz.sizeOf2 (Nat.le_of_ble_eq_true rfl) (List.forall_mem_cons.2 ⟨rfl, (List.forall_mem_nil _)⟩) (Upd.full rfl (fun w G hG => by cases (show G = [] from hG); exact ⟨rfl, rfl⟩)) (fun w250 H => ⟨trivial, fun a S => ?_⟩)
      refine lx_nil (thenN ?_)
      refine region_plain ?_
      refine lq (.int .i64 x112) S (q_move rfl) fun a S => ?_
      refine lq (.int .i64 (W (x112 + (1 : Int)))) S (q_add rfl rfl) fun a S => ?_
      refine lq (.int .i64 (W (x112 + (1 : Int)))) S (q_assign rfl) fun a S => ?_
      refine lx_nil ?_
      refine inBlock_norm ?_
      exact ⟨(xs111.set x113.toNat x112), (W (x112 + (1 : Int))), S.sub ⟨rfl, rfl, rfl, rfl, trivial⟩, H, hm⟩
    ·skip
     refine loop_ghost (fun n a w => ∃ (x217 : Int), Slots a 48 [(0, p0), (3, v34), (4, (.int .i64 x112)), (5, (.int .i64 x113)), (6, (.int .i64 (-1 : Int))), (7, (.int .i64 x217))] ∧ Heap w0 [oA (rList (rInt .i64)) v34 xs111] w ∧ iter f236 n (x217) = some res234) _ ⟨(0 : Int), S.sub ⟨rfl, rfl, rfl, rfl, rfl, rfl, trivial⟩, H, hit235⟩ ?_
     rintro n a w ⟨x217, S, H, hit235⟩
     obtain ⟨m251, o252, rfl, hm, hc253⟩ := iter_step hit235
     rw [hf237] at hm
     refine wp_seq (wp_seq (region_plain ?_))
     refine lq (.int .i64 x217) S (q_move rfl) fun a S => ?_
     refine lq (.int .i64 x113) S (q_move rfl) fun a S => ?_
     refine lq (.bool (decide (x217 < x113))) S (q_lss rfl rfl) fun a S => ?_
     refine lx_nil (thenN ?_)
     refine cond_b S rfl (fun hc254 => ?_) (fun hc254 => ?_)
     ·have hm := ite_t hc254 hm
      refine wp_skip (thenN ?_)
      refine wp_seq ?_
      refine wp_block ?_
      refine wp_seq ?_
      refine region_drawG (fun w1 => Heap w0 [] w1) (fun i => [].contains i) mixed (by kernel_rfl) (fun w256 he255 => ?_)
      have H := H.later he255
      refine ⟨H.sel [] (by decide), ?_⟩
      refine lq p0 S (q_move rfl) fun a S => ?_
      refine lq (.int .i64 x217) S (q_move rfl) fun a S => ?_
      obtain ⟨x257, e258, hm⟩ := bind_some hm
      obtain ⟨c259, h260, hat261⟩ := (h0).elem (idx_some e258).2
      obtain rfl := h260
      have hlt := lt_of_idx (idx_some e258).2
      refine lq (ePtr p0 (x217.toNat * 1)) S (q_indexAddr rfl (h0).isSl rfl (idx_some e258).1 hlt Tryz.underlying61 Tryz.sizeOf2) fun a S => ?_
      refine lq (.int .i64 x257) S (q_load1 rfl Tryz.isAgg2 (fun w1 hC => ((hat261 0 _ rfl).ext hC.ext))) fun a S => ?_
      refine lq p0 S (q_move rfl) fun a S => ?_
      refine lq (.int .i64 x113) S (q_move rfl) fun a S => ?_
      obtain ⟨x262, e263, hm⟩ := bind_some hm
      obtain ⟨c264, h265, hat266⟩ := (h0).elem (idx_some e263).2
      obtain rfl := h265
      have hlt := lt_of_idx (idx_some e263).2
      refine lq (ePtr p0 (x113.toNat * 1)) S (q_indexAddr rfl (h0).isSl rfl (idx_some e263).1 hlt Tryz.underlying61 Tryz.sizeOf2) fun a S => ?_
      refine lq (.int .i64 x262) S (q_load1 rfl Tryz.isAgg2 (fun w1 hC => ((hat266 0 _ rfl).ext hC.ext))) fun a S => ?_
      refine lq (.bool (x257 == x262)) S (q_eql rfl rfl) fun a S => ?_
      refine lx_nil (thenN ?_)
      refine cond_b S rfl (fun hc267 => ?_) (fun hc267 => ?_)
      ·have hm := ite_t hc267 hm
       refine wp_seq (region_plain ?_)
       refine lq (.int .i64 x217) S (q_move rfl) fun a S => ?_
       refine lq (.int .i64 x217) S (q_assign rfl) fun a S => ?_
       refine lx_nil (thenN ?_)
       refine wp_exit ?_
       refine inBlock_other (by decide) ?_
       refine then_exit ?_
       refine then_exit ?_
       refine inBlock_exit ?_
       obtain rfl := it_brk hm hc253
       exact ⟨x217, S.sub ⟨rfl, rfl, rfl, rfl, rfl, trivial⟩, H, rfl⟩
      ·have hm := ite_f hc267 hm
       refine wp_skip ?_
       refine inBlock_norm ?_
       refine thenN ?_
       refine region_plain ?_
       refine lq (.int .i64 x217) S (q_move rfl) fun a S => ?_
       refine lq (.int .i64 (W (x217 + (1 : Int)))) S (q_add rfl rfl) fun a S => ?_
       refine lq (.int .i64 (W (x217 + (1 : Int)))) S (q_assign rfl) fun a S => ?_
       refine lx_nil ?_
       exact ⟨m251, Nat.lt_succ_self _, (W (x217 + (1 : Int))), S.sub ⟨rfl, rfl, rfl, rfl, rfl, rfl, trivial⟩, H, it_cont hm hc253⟩
     ·have hm := ite_f hc254 hm
      refine wp_exit ?_
      refine then_exit ?_
      refine then_exit ?_
      refine inBlock_exit ?_
      obtain rfl := it_brk hm hc253
      exact ⟨(-1 : Int), S.sub ⟨rfl, rfl, rfl, rfl, rfl, trivial⟩, H, rfl⟩
  ·have hm := ite_f hc197 hm
   refine wp_exit ?_
   refine then_exit ?_
   refine then_exit ?_
   refine inBlock_exit ?_
   obtain rfl := it_brk hm hc196
   exact ⟨xs111, S.sub ⟨rfl, trivial⟩, H, rfl⟩

/-- spec.l14Next -/
def spec_l14Next_m (fuel : Nat) (a0 : Timpl_Lts) (a1 : (List Int)) : Option ((List Int)) :=
  (mks a0.1 (0 : Int)).bind fun x50 => (iter (fun (s : (List Int) × (Int)) => (match s with | (xs143, x144) => (if (decide (x144 < a0.1)) = true then (idx xs143 x144).bind fun _ => (iter (fun (s : (Int)) => (match s with | (x276) => (if (decide (x276 < x144)) = true then (spec_l14Covers_m fuel a0 a1 x144 x276).bind fun x313 => (if x313 = true then (spec_l14Covers_m fuel a0 a1 x276 x144).bind fun x321 => some x321 else some false).bind fun t316 => (if t316 = true then (idx (xs143.set x144.toNat x144) x276).bind fun x325 => (idx (xs143.set x144.toNat x144) x144).bind fun _ => some (.inr (.inl (((xs143.set x144.toNat x144).set x144.toNat x325)))) else some (.inl ((W (x276 + (1 : Int)))))) else some (.inr (.inl ((xs143.set x144.toNat x144))))) : Option (((Int)) ⊕ (((List Int)) ⊕ ((List Int)))))) fuel ((0 : Int))).bind fun res302 => ctl (β := (List Int)) (ρ := (List Int)) (τ := (((List Int) × (Int)) ⊕ (((List Int)) ⊕ ((List Int))))) res302 (fun (xs301) => some (.inl (xs301, (W (x144 + (1 : Int)))))) (fun q => some (.inr (.inr q))) else some (.inr (.inl (xs143)))) : Option (((List Int) × (Int)) ⊕ (((List Int)) ⊕ ((List Int)))))) fuel (x50, (0 : Int))).bind fun res233 => ctl (β := (List Int)) (ρ := (List Int)) (τ := (List Int)) res233 (fun (xs232) => (spec_l02Norm_m fuel xs232).bind fun x240 => some (x240)) (fun q => some (q))
set_option maxRecDepth 20000 in
theorem spec_l14Next_ok [dr : Dr] {w0 : World} {fuel : Nat} {p0 p1 : Value} {a0 : Timpl_Lts} {a1 : (List Int)} {r : (List Int)} (h0 : Rd (rPtr Rimpl_Lts) w0 p0 a0) (h1 : Rd (rList (rInt .i64)) w0 p1 a1) (hm : spec_l14Next_m fuel a0 a1 = some r) :
  Calls Tryz.prog 46 #[p0, p1] w0 fun e w => ∃ (v0 : Value), e = .returned (v0) ∧ Heap w0 [oA (rList (rInt .i64)) v0 r] w := by
 unfold spec_l14Next_m at hm
 have H := Heap.start w0
 obtain ⟨c31, h32, hat33⟩ := h0.ptr
 obtain ⟨c38, c39, rfl, h40, h41⟩ := h32
 obtain rfl := h40
 obtain ⟨c42, c43, rfl, h44, h45⟩ := h41
 obtain rfl := h44
 obtain ⟨c46, c47, rfl, h48, h49⟩ := h45
 obtain ⟨v34, rfl, h35⟩ := rd_list h48
 obtain ⟨v36, rfl, h37⟩ := rd_list h49
 refine enter (args := [p0, p1]) Tryz.func46 rfl 51 rfl (Nat.le_of_ble_eq_true rfl) (fun a S => ?_)
 refine wp_seq (region_plain ?_)
 refine lq (.slice none 0 0) S (q_assign rfl) fun a S => ?_
 refine lx_nil (thenN ?_)
 refine wp_seq (region_plain ?_)
 refine lq p0 S (q_move rfl) fun a S => ?_
 refine lq p0 S (q_nilCheck rfl ((hat33 0 _ rfl).isP)) fun a S => ?_
 refine lq (pAdd p0 0) S (q_fieldAddr' 0 2 rfl ((hat33 0 _ rfl).isP) Tryz.underlying31 rfl Tryz.sizeOf2) fun a S => ?_
 refine lx_e (.int .i64 a0.1) S trivial (by decide) rfl trivial (q_load1 rfl Tryz.isAgg2 (by rintro _ rfl; exact (At.of_add (m := 0) (j := 0) ((hat33 0 _ rfl).ext H.ext)))) (fun a S => ?_)
 obtain ⟨x50, e51, hm⟩ := bind_some hm
 obtain ⟨m52, hn, hn2, rfl⟩ := mks_some e51
 refine lx_make (r := (rInt .i64)) (z0 := (0 : Int)) (n := m52) S trivial (by decide) rfl H (by rw [← hn]; rfl) (by rw [← hn]; rfl) Tryz.underlying61 (Tryz.ti2) rfl rfl (Nat.le_of_ble_eq_true rfl) (fun w => ⟨rfl, rfl⟩) hn2 (by decide) (fun v53 w54 H => ⟨trivial, fun a S => ?_⟩)
 refine lq v53 S (q_assign rfl) fun a S => ?_
 refine lx_nil (thenN ?_)
 refine wp_seq (wp_seq (region_plain ?_))
 refine lq (.int .i64 (0 : Int)) S (q_assign rfl) fun a S => ?_
 refine lx_nil (thenN ?_)
 obtain ⟨res233, hit234, hk237⟩ := bind_some hm
 obtain ⟨f235, hf236, hit234⟩ := iter_name hit234
 refine block_loop (fun a w => ∃ (xs232 : List Int), Slots a 51 [(5, v53)] ∧ Heap w0 [oA (rList (rInt .i64)) v53 xs232] w ∧ res233 = .inl (xs232)) ?_ ?_
 ·rintro a w ⟨xs232, S, H, rfl⟩
  have hm := ctl_inl hk237
  refine thenN ?_
  refine wp_seq (region_plain ?_)
  refine lq v53 S (q_move rfl) fun a S => ?_
  obtain ⟨x240, e241, hm⟩ := bind_some hm
  refine lx_call (xs := [.tmp 49]) S trivial (by decide) rfl rfl Tryz.call74 ((spec_l02Norm_ok (H.rdAt 0 rfl) e241).mono ?_)
  rintro e w238 ⟨v242, rfl, Hc239⟩
  have H := H.call1 Hc239
  refine ⟨_, rfl, trivial, fun a S => ?_⟩
  refine lq v242 S (q_assign rfl) fun a S => ?_
  refine lx_nil (thenN ?_)
  refine wp_ret ?_
  obtain rfl := Option.some.inj hm
  have H : Heap w0 [oA (rList (rInt .i64)) v242 x240] w238 := H.sel [0] (by decide)
  exact leave1 S rfl rfl ⟨v242, rfl, H⟩
 ·skip
  refine loop_ghost (fun n a w => ∃ (xs143 : List Int) (x144 : Int), Slots a 51 [(0, p0), (1, p1), (5, v53), (6, (.int .i64 x144))] ∧ Heap w0 [oA (rList (rInt .i64)) v53 xs143] w ∧ iter f235 n (xs143, x144) = some res233) _ ⟨(List.replicate m52 (0 : Int)), (0 : Int), S.sub ⟨rfl, rfl, rfl, rfl, trivial⟩, H, hit234⟩ ?_
  rintro n a w ⟨xs143, x144, S, H, hit234⟩
  obtain ⟨m245, o246, rfl, hm, hc247⟩ := iter_step hit234
  rw [hf236] at hm
  refine wp_seq (wp_seq (region_plain ?_))
  refine lq (.int .i64 x144) S (q_move rfl) fun a S => ?_
  refine lq p0 S (q_move rfl) fun a S => ?_
  refine lq p0 S (q_nilCheck rfl ((hat33 0 _ rfl).isP)) fun a S => ?_
  refine lq (pAdd p0 0) S (q_fieldAddr' 0 2 rfl ((hat33 0 _ rfl).isP) Tryz.underlying31 rfl Tryz.sizeOf2) fun a S => ?_
  refine lx_e (.int .i64 a0.1) S trivial (by decide) rfl trivial (q_load1 rfl Tryz.isAgg2 (by rintro _ rfl; exact (At.of_add (m := 0) (j := 0) ((hat33 0 _ rfl).ext H.ext)))) (fun a S => ?_)
  refine lq (.bool (decide (x144 < a0.1))) S (q_lss rfl rfl) fun a S => ?_
  refine lx_nil (thenN ?_)
  refine cond_b S rfl (fun hc248 => ?_) (fun hc248 => ?_)
  ·have hm := ite_t hc248 hm
   refine wp_skip (thenN ?_)
   refine wp_seq ?_
   refine wp_block ?_
   refine wp_seq (region_plain ?_)
   refine lq v53 S (q_move rfl) fun a S => ?_
   refine lq (.int .i64 x144) S (q_move rfl) fun a S => ?_
   refine lq (.int .i64 x144) S (q_move rfl) fun a S => ?_
   obtain ⟨x249, e250, hm⟩ := bind_some hm
   have hlt := lt_of_idx (idx_some e250).2
   refine lq (ePtr v53 (x144.toNat * 1)) S (q_indexAddr rfl (H.isSl 0 rfl) rfl (idx_some e250).1 hlt Tryz.underlying61 Tryz.sizeOf2) fun a S => ?_
   refine lx_storeElem (r := (rInt .i64)) (us := [(.int .i64 x144)]) (off := 0) (e' := x144) S trivial rfl H.putE (ev_zero rfl) rfl (idx_some e250).2 rfl Tryz.sizeOf2 (Nat.le_of_ble_eq_true rfl) (List.forall_mem_cons.2 ⟨rfl, (List.forall_mem_nil _)⟩) (Upd.full rfl (fun w G hG => by cases (show G = [] from hG); exact ⟨rfl, rfl⟩)) (fun w251 H => ⟨trivial, fun a S => ?_⟩)
   refine lx_nil (thenN ?_)
   refine wp_seq (region_plain ?_)
   refine lq (.int .i64 (0 : Int)) S (q_assign rfl) fun a S => ?_
   refine lx_nil (thenN ?_)
   obtain ⟨res302, hit303, hk306⟩ := bind_some hm
   obtain ⟨f304, hf305, hit303⟩ := iter_name hit303
   refine block_loop (fun a w => ∃ (xs301 : List Int), Slots a 51 [(0, p0), (1, p1), (5, v53), (6, (.int .i64 x144))] ∧ Heap w0 [oA (rList (rInt .i64)) v53 xs301] w ∧ res302 = .inl (xs301)) ?_ ?_
   ·rintro a w ⟨xs301, S, H, rfl⟩
    have hm := ctl_inl hk306
    refine inBlock_norm ?_
    refine thenN ?_
    refine region_plain ?_
    refine lq (.int .i64 x144) S (q_move rfl) fun a S => ?_
    refine lq (.int .i64 (W (x144 + (1 : Int)))) S (q_add rfl rfl) fun a S => ?_
    refine lq (.int .i64 (W (x144 + (1 : Int)))) S (q_assign rfl) fun a S => ?_
    refine lx_nil ?_
    exact ⟨m245, Nat.lt_succ_self _, xs301, (W (x144 + (1 : Int))), S.sub ⟨rfl, rfl, rfl, rfl, trivial⟩, H, it_cont hm hc247⟩
   ·skip
    refine loop_ghost (fun n a w => ∃ (x276 : Int), Slots a 51 [(0, p0), (1, p1), (5, v53), (6, (.int .i64 x144)), (7, (.int .i64 x276))] ∧ Heap w0 [oA (rList (rInt .i64)) v53 (xs143.set x144.toNat x144)] w ∧ iter f304 n (x276) = some res302) _ ⟨(0 : Int), S.sub ⟨rfl, rfl, rfl, rfl, rfl, trivial⟩, H, hit303⟩ ?_
    rintro n a w ⟨x276, S, H, hit303⟩
    obtain ⟨m307, o308, rfl, hm, hc309⟩ := iter_step hit303
    rw [hf305] at hm
    refine wp_seq (wp_seq (region_plain ?_))
    refine lq (.int .i64 x276) S (q_move rfl) fun a S => ?_
    refine lq (.int .i64 x144) S (q_move rfl) fun a S => ?_
    refine lq (.bool (decide (x276 < x144))) S (q_lss rfl rfl) fun a S => ?_
    refine lx_nil (thenN ?_)
    refine cond_b S rfl (fun hc310 => ?_) (fun hc310 => ?_)
    ·have hm := ite_t hc310 hm
     refine wp_skip (thenN ?_)
     refine wp_seq ?_
     refine wp_block ?_
     refine wp_seq (region_plain ?_)
     refine lq p0 S (q_move rfl) fun a S => ?_
     refine lq p1 S (q_move rfl) fun a S => ?_
     refine lq (.int .i64 x144) S (q_move rfl) fun a S => ?_
     refine lq (.int .i64 x276) S (q_move rfl) fun a S => ?_
     obtain ⟨x313, e314, hm⟩ := bind_some hm
     refine lx_call (xs := [.tmp 30, .tmp 31, .tmp 32, .tmp 33]) S trivial (by decide) rfl rfl Tryz.call73 ((spec_l14Covers_ok (H.arg h0) (H.arg h1)   e314).mono ?_)
     rintro e w311 ⟨rfl, Hc312⟩
     have H := H.call0 Hc312
     refine ⟨_, rfl, trivial, fun a S => ?_⟩
     refine lq (.bool x313) S (q_move rfl) fun a S => ?_
     obtain ⟨t316, e317, hm⟩ := bind_some hm
     refine lx_cut 6 (fun a w => Slots a 51 [(0, p0), (1, p1), (5, v53), (6, (.int .i64 x144)), (7, (.int .i64 x276)), (41, (.bool t316))] ∧ Heap w0 [oA (rList (rInt .i64)) v53 (xs143.set x144.toNat x144)] w) ?_ ?_
     ·by_cases hc318 : x313 = true
      ·have hm := ite_t hc318 e317
       refine lx_q p0 S (want_b rfl rfl hc318) (by decide) (q_move rfl) (fun a S => ?_)
       refine lx_q p1 S (want_b rfl rfl hc318) (by decide) (q_move rfl) (fun a S => ?_)
       refine lx_q (.int .i64 x276) S (want_b rfl rfl hc318) (by decide) (q_move rfl) (fun a S => ?_)
       refine lx_q (.int .i64 x144) S (want_b rfl rfl hc318) (by decide) (q_move rfl) (fun a S => ?_)
       obtain ⟨x321, e322, hm⟩ := bind_some hm
       refine lx_call (xs := [.tmp 36, .tmp 37, .tmp 38, .tmp 39]) S (want_b rfl rfl hc318) (by decide) rfl rfl Tryz.call73 ((spec_l14Covers_ok (H.arg h0) (H.arg h1)   e322).mono ?_)
       rintro e w319 ⟨rfl, Hc320⟩
       have H := H.call0 Hc320
       refine ⟨_, rfl, trivial, fun a S => ?_⟩
       refine lq (.bool x321) S (q_pickT' rfl hc318 rfl) fun a S => ?_
       refine lx_nil ?_
       obtain rfl := Option.some.inj hm
       exact ⟨S.sub ⟨rfl, rfl, rfl, rfl, rfl, rfl, trivial⟩, H⟩
      ·have hm := ite_f (eq_false_of_ne_true hc318) e317
       have hc318 : x313 = false := eq_false_of_ne_true hc318
       refine lx_skip S rfl rfl (isB_ne hc318) (by decide) (fun a S => ?_)
       refine lx_skip S rfl rfl (isB_ne hc318) (by decide) (fun a S => ?_)
       refine lx_skip S rfl rfl (isB_ne hc318) (by decide) (fun a S => ?_)
       refine lx_skip S rfl rfl (isB_ne hc318) (by decide) (fun a S => ?_)
       refine lx_skip S rfl rfl (isB_ne hc318) (by decide) (fun a S => ?_)
       refine lq (.bool false) S (q_pickF' rfl hc318 rfl) fun a S => ?_
       refine lx_nil ?_
       obtain rfl := Option.some.inj hm
       exact ⟨S.sub ⟨rfl, rfl, rfl, rfl, rfl, rfl, trivial⟩, H⟩
     ·rintro a w ⟨S, H⟩
      refine lx_nil (thenN ?_)
      refine cond_b S rfl (fun hc324 => ?_) (fun hc324 => ?_)
      ·have hm := ite_t hc324 hm
       refine wp_seq (region_plain ?_)
       refine lq v53 S (q_move rfl) fun a S => ?_
       refine lq (.int .i64 x144) S (q_move rfl) fun a S => ?_
       refine lq v53 S (q_move rfl) fun a S => ?_
       refine lq (.int .i64 x276) S (q_move rfl) fun a S => ?_
       obtain ⟨x325, e326, hm⟩ := bind_some hm
       have hlt := lt_of_idx (idx_some e326).2
       refine lq (ePtr v53 (x276.toNat * 1)) S (q_indexAddr rfl (H.isSl 0 rfl) rfl (idx_some e326).1 hlt Tryz.underlying61 Tryz.sizeOf2) fun a S => ?_
       obtain ⟨c327, h328, hat329⟩ := (H.rdAt 0 rfl).elem (idx_some e326).2
       obtain rfl := h328
       refine lx_e (.int .i64 x325) S trivial (by decide) rfl trivial (q_load1 rfl Tryz.isAgg2 (by rintro _ rfl; exact (hat329 0 _ rfl))) (fun a S => ?_)
       obtain ⟨x330, e331, hm⟩ := bind_some hm
       have hlt := lt_of_idx (idx_some e331).2
       refine lq (ePtr v53 (x144.toNat * 1)) S (q_indexAddr rfl (H.isSl 0 rfl) rfl (idx_some e331).1 hlt Tryz.underlying61 Tryz.sizeOf2) fun a S => ?_
       refine lx_storeElem (r := (rInt .i64)) (us := [(.int .i64 x325)]) (off := 0) (e' := x325) S trivial rfl H.putE (ev_zero rfl) rfl (idx_some e331).2 rfl Tryz.sizeOf2 (Nat.le_of_ble_eq_true rfl) (List.forall_mem_cons.2 ⟨rfl, (List.forall_mem_nil _)⟩) (Upd.full rfl (fun w G hG => by cases (show G = [] from hG); exact ⟨rfl, rfl⟩)) (fun w332 H => ⟨trivial, fun a S => ?_⟩)
       refine lx_nil (thenN ?_)
       refine wp_exit ?_
       refine inBlock_other (by decide) ?_
       refine then_exit ?_
       refine then_exit ?_
       refine inBlock_exit ?_
       obtain rfl := it_brk hm hc309
       exact ⟨((xs143.set x144.toNat x144).set x144.toNat x325), S.sub ⟨rfl, rfl, rfl, rfl, trivial⟩, H, rfl⟩
      ·have hm := ite_f hc324 hm
       refine wp_skip ?_
       refine inBlock_norm ?_
       refine thenN ?_
       refine region_plain ?_
       refine lq (.int .i64 x276) S (q_move rfl) fun a S => ?_
       refine lq (.int .i64 (W (x276 + (1 : Int)))) S (q_add rfl rfl) fun a S => ?_
       refine lq (.int .i64 (W (x276 + (1 : Int)))) S (q_assign rfl) fun a S => ?_
       refine lx_nil ?_
       exact ⟨m307, Nat.lt_succ_self _, (W (x276 + (1 : Int))), S.sub ⟨rfl, rfl, rfl, rfl, rfl, trivial⟩, H, it_cont hm hc309⟩
    ·have hm := ite_f hc310 hm
     refine wp_exit ?_
     refine then_exit ?_
     refine then_exit ?_
     refine inBlock_exit ?_
     obtain rfl := it_brk hm hc309
     exact ⟨(xs143.set x144.toNat x144), S.sub ⟨rfl, rfl, rfl, rfl, trivial⟩, H, rfl⟩
  ·have hm := ite_f hc248 hm
   refine wp_exit ?_
   refine then_exit ?_
   refine then_exit ?_
   refine inBlock_exit ?_
   obtain rfl := it_brk hm hc247
   exact ⟨xs143, S.sub ⟨rfl, trivial⟩, H, rfl⟩

/-- spec.l00Same -/
def spec_l00Same_m (fuel : Nat) (a0 : (List Int)) (a1 : (List Int)) : Option (Bool) :=
  (if ((a0.length : Int) != (a1.length : Int)) = true then some (false) else (iter (fun (s : (Int)) => (match s with | (x47) => (if (decide (x47 < (a0.length : Int))) = true then (idx a0 x47).bind fun x74 => (idx a1 x47).bind fun x79 => (if (x74 != x79) = true then some (.inr (.inr false)) else some (.inl ((W (x47 + (1 : Int)))))) else some (.inr (.inl ()))) : Option (((Int)) ⊕ ((Unit) ⊕ (Bool))))) fuel ((0 : Int))).bind fun res63 => ctl (β := Unit) (ρ := Bool) (τ := Bool) res63 (fun _ => some (true)) (fun q => some (q)))
set_option maxRecDepth 20000 in
theorem spec_l00Same_ok [dr : Dr] {w0 : World} {fuel : Nat} {p0 p1 : Value} {a0 : (List Int)} {a1 : (List Int)} {r : Bool} (h0 : Rd (rList (rInt .i64)) w0 p0 a0) (h1 : Rd (rList (rInt .i64)) w0 p1 a1) (hm : spec_l00Same_m fuel a0 a1 = some r) :
  Calls Tryz.prog 47 #[p0, p1] w0 fun e w => e = .returned (.bool r) ∧ Heap w0 [] w := by
 unfold spec_l00Same_m at hm
 have H := Heap.start w0
 refine enter (args := [p0, p1]) Tryz.func47 rfl 26 rfl (Nat.le_of_ble_eq_true rfl) (fun a S => ?_)
 refine wp_seq (region_plain ?_)
 refine lq (.bool false) S (q_assign rfl) fun a S => ?_
 refine lx_nil (thenN ?_)
 refine wp_seq (wp_seq (region_plain ?_))
 refine lq p0 S (q_move rfl) fun a S => ?_
 refine lq (.int .i64 (a0.length : Int)) S (q_lenSl rfl (h0).isSl rfl Tryz.underlying61) fun a S => ?_
 refine lq p1 S (q_move rfl) fun a S => ?_
 refine lq (.int .i64 (a1.length : Int)) S (q_lenSl rfl (h1).isSl rfl Tryz.underlying61) fun a S => ?_
 refine lq (.bool ((a0.length : Int) != (a1.length : Int))) S (q_neq rfl rfl) fun a S => ?_
 refine lx_nil (thenN ?_)
 refine cond_b S rfl (fun hc31 => ?_) (fun hc31 => ?_)
 ·have hm := ite_t hc31 hm
  refine wp_seq (region_plain ?_)
  refine lq (.bool false) S (q_assign rfl) fun a S => ?_
  refine lx_nil (thenN ?_)
  refine wp_ret (then_ret ?_)
  obtain rfl := Option.some.inj hm
  exact leave1 S rfl rfl ⟨rfl, H⟩
 ·have hm := ite_f hc31 hm
  refine wp_skip (thenN ?_)
  refine wp_seq (wp_seq (region_plain ?_))
  refine lq (.int .i64 (0 : Int)) S (q_assign rfl) fun a S => ?_
  refine lx_nil (thenN ?_)
  obtain ⟨res63, hit64, hk67⟩ := bind_some hm
  obtain ⟨f65, hf66, hit64⟩ := iter_name hit64
  refine block_loop (fun a w => Slots a 26 [] ∧ Heap w0 [] w ∧ res63 = .inl ()) ?_ ?_
  ·rintro a w ⟨S, H, rfl⟩
   have hm := ctl_inl hk67
   refine thenN ?_
   refine wp_seq (region_plain ?_)
   refine lq (.bool true) S (q_assign rfl) fun a S => ?_
   refine lx_nil (thenN ?_)
   refine wp_ret ?_
   obtain rfl := Option.some.inj hm
   exact leave1 S rfl rfl ⟨rfl, H⟩
  ·skip
   refine loop_ghost (fun n a w => ∃ (x47 : Int), Slots a 26 [(0, p0), (1, p1), (5, (.int .i64 x47))] ∧ Heap w0 [] w ∧ iter f65 n (x47) = some res63) _ ⟨(0 : Int), S.sub ⟨rfl, rfl, rfl, trivial⟩, H, hit64⟩ ?_
   rintro n a w ⟨x47, S, H, hit64⟩
   obtain ⟨m68, o69, rfl, hm, hc70⟩ := iter_step hit64
   rw [hf66] at hm
   refine wp_seq (wp_seq (region_plain ?_))
   refine lq (.int .i64 x47) S (q_move rfl) fun a S => ?_
   refine lq p0 S (q_move rfl) fun a S => ?_
   refine lq (.int .i64 (a0.length : Int)) S (q_lenSl rfl (h0).isSl rfl Tryz.underlying61) fun a S => ?_
   refine lq (.bool (decide (x47 < (a0.length : Int)))) S (q_lss rfl rfl) fun a S => ?_
   refine lx_nil (thenN ?_)
   refine cond_b S rfl (fun hc71 => ?_) (fun hc71 => ?_)
   ·have hm := ite_t hc71 hm
    refine wp_skip (thenN ?_)
    refine wp_seq ?_
    refine wp_block ?_
    refine wp_seq ?_
    refine region_drawG (fun w1 => Heap w0 [] w1) (fun i => [].contains i) mixed (by kernel_rfl) (fun w73 he72 => ?_)
    have H := H.later he72
    refine ⟨H.sel [] (by decide), ?_⟩
    refine lq p0 S (q_move rfl) fun a S => ?_
    refine lq (.int .i64 x47) S (q_move rfl) fun a S => ?_
    obtain ⟨x74, e75, hm⟩ := bind_some hm
    obtain ⟨c76, h77, hat78⟩ := (h0).elem (idx_some e75).2
    obtain rfl := h77
    have hlt := lt_of_idx (idx_some e75).2
    refine lq (ePtr p0 (x47.toNat * 1)) S (q_indexAddr rfl (h0).isSl rfl (idx_some e75).1 hlt Tryz.underlying61 Tryz.sizeOf2) fun a S => ?_
    refine lq (.int .i64 x74) S (q_load1 rfl Tryz.isAgg2 (fun w1 hC => ((hat78 0 _ rfl).ext hC.ext))) fun a S => ?_
    refine lq p1 S (q_move rfl) fun a S => ?_
    refine lq (.int .i64 x47) S (q_move rfl) fun a S => ?_
    obtain ⟨x79, e80, hm⟩ := bind_some hm
    obtain ⟨c81, h82, hat83⟩ := (h1).elem (idx_some e80).2
    obtain rfl := h82
    have hlt := lt_of_idx (idx_some e80).2
    refine lq (ePtr p1 (x47.toNat * 1)) S (q_indexAddr rfl (h1).isSl rfl (idx_some e80).1 hlt Tryz.underlying61 Tryz.sizeOf2) fun a S => ?_
    refine lq (.int .i64 x79) S (q_load1 rfl Tryz.isAgg2 (fun w1 hC => ((hat83 0 _ rfl).ext hC.ext))) fun a S => ?_
    refine lq (.bool (x74 != x79)) S (q_neq rfl rfl) fun a S => ?_
    refine lx_nil (thenN ?_)
    refine cond_b S rfl (fun hc84 => ?_) (fun hc84 => ?_)
    ·have hm := ite_t hc84 hm
     refine wp_seq (region_plain ?_)
     refine lq (.bool false) S (q_assign rfl) fun a S => ?_
     refine lx_nil (thenN ?_)
     refine wp_ret (inBlock_ret ?_)
     refine then_ret ?_
     refine then_ret ?_
     refine inBlock_ret ?_
     refine then_ret ?_
     refine then_ret ?_
     obtain rfl := it_brk hm hc70
     have hm := ctl_inr hk67
     obtain rfl := Option.some.inj hm
     exact leave1 S rfl rfl ⟨rfl, H⟩
    ·have hm := ite_f hc84 hm
     refine wp_skip ?_
     refine inBlock_norm ?_
     refine thenN ?_
     refine region_plain ?_
     refine lq (.int .i64 x47) S (q_move rfl) fun a S => ?_
     refine lq (.int .i64 (W (x47 + (1 : Int)))) S (q_add rfl rfl) fun a S => ?_
     refine lq (.int .i64 (W (x47 + (1 : Int)))) S (q_assign rfl) fun a S => ?_
     refine lx_nil ?_
     exact ⟨m68, Nat.lt_succ_self _, (W (x47 + (1 : Int))), S.sub ⟨rfl, rfl, rfl, trivial⟩, H, it_cont hm hc70⟩
   ·have hm := ite_f hc71 hm
    refine wp_exit ?_
    refine then_exit ?_
    refine then_exit ?_
    refine inBlock_exit ?_
    obtain rfl := it_brk hm hc70
    exact ⟨S.sub trivial, H, rfl⟩

/-- spec.l14Levels -/
def spec_l14Levels_m (fuel : Nat) (a0 : Timpl_Lts) : Option ((List (List Int))) :=
  (mks a0.1 (0 : Int)).bind fun x50 => (iter (fun (s : (List Int) × (List (List Int)) × (Int)) => (match s with | (xs101, xs104, x106) => (if (decide (x106 < a0.1)) = true then (spec_l14Next_m fuel a0 xs101).bind fun x156 => (spec_l00Same_m fuel x156 xs101).bind fun x163 => (if x163 = true then some (.inr (.inl (xs104))) else (app xs104 [x156]).bind fun x176 => some (.inl (x156, x176, (W (x106 + (1 : Int)))))) else some (.inr (.inl (xs104)))) : Option (((List Int) × (List (List Int)) × (Int)) ⊕ (((List (List Int))) ⊕ ((List (List Int))))))) fuel (x50, [x50], (0 : Int))).bind fun res145 => ctl (β := (List (List Int))) (ρ := (List (List Int))) (τ := (List (List Int))) res145 (fun (xs143) => some (xs143)) (fun q => some (q))
set_option maxRecDepth 20000 in
theorem spec_l14Levels_ok [dr : Dr] {w0 : World} {fuel : Nat} {p0 : Value} {a0 : Timpl_Lts} {r : (List (List Int))} (h0 : Rd (rPtr Rimpl_Lts) w0 p0 a0) (hm : spec_l14Levels_m fuel a0 = some r) :
  Calls Tryz.prog 22 #[p0] w0 fun e w => ∃ (v0 : Value), e = .returned (v0) ∧ Heap w0 [oA (rList (rList (rInt .i64))) v0 r] w := by
 unfold spec_l14Levels_m at hm
 have H := Heap.start w0
 obtain ⟨c31, h32, hat33⟩ := h0.ptr
 obtain ⟨c38, c39, rfl, h40, h41⟩ := h32
 obtain rfl := h40
 obtain ⟨c42, c43, rfl, h44, h45⟩ := h41
 obtain rfl := h44
 obtain ⟨c46, c47, rfl, h48, h49⟩ := h45
 obtain ⟨v34, rfl, h35⟩ := rd_list h48
 obtain ⟨v36, rfl, h37⟩ := rd_list h49
 refine enter (args := [p0]) Tryz.func22 rfl 34 rfl (Nat.le_of_ble_eq_true rfl) (fun a S => ?_)
 refine wp_seq (region_plain ?_)
 refine lq (.slice none 0 0) S (q_assign rfl) fun a S => ?_
 refine lx_nil (thenN ?_)
 refine wp_seq (region_plain ?_)
 refine lq p0 S (q_move rfl) fun a S => ?_
 refine lq p0 S (q_nilCheck rfl ((hat33 0 _ rfl).isP)) fun a S => ?_
 refine lq (pAdd p0 0) S (q_fieldAddr' 0 2 rfl ((hat33 0 _ rfl).isP) Tryz.underlying31 rfl Tryz.sizeOf2) fun a S => ?_
 refine lx_e (.int .i64 a0.1) S trivial (by decide) rfl trivial (q_load1 rfl Tryz.isAgg2 (by rintro _ rfl; exact (At.of_add (m := 0) (j := 0) ((hat33 0 _ rfl).ext H.ext)))) (fun a S => ?_)
 obtain ⟨x50, e51, hm⟩ := bind_some hm
 obtain ⟨m52, hn, hn2, rfl⟩ := mks_some e51
 refine lx_make (r := (rInt .i64)) (z0 := (0 : Int)) (n := m52) S trivial (by decide) rfl H (by rw [← hn]; rfl) (by rw [← hn]; rfl) Tryz.underlying61 (Tryz.ti2) rfl rfl (Nat.le_of_ble_eq_true rfl) (fun w => ⟨rfl, rfl⟩) hn2 (by decide) (fun v53 w54 H => ⟨trivial, fun a S => ?_⟩)
 refine lq v53 S (q_assign rfl) fun a S => ?_
 refine lx_nil (thenN ?_)
 refine wp_seq (region_plain ?_)
 refine lq v53 S (q_move rfl) fun a S => ?_
 refine lx_buildSlice (r := (rTg (rList (rInt .i64)))) (xs := [((List.replicate m52 (0 : Int)), v53)]) (ps := [(0, [v53])]) (cs := [v53]) (parts := [(0, .tmp 12)]) S trivial (by decide) rfl H rfl Tryz.underlying47 Tryz.sizeOf61 Tryz.zeroValue61 (by decide) ⟨rfl, (cells_sl (H.isSl 0 rfl)), Nat.le_of_ble_eq_true rfl, trivial⟩ (by intro zs hz; exact fill_dense hz ⟨rfl, trivial⟩ rfl rfl) rfl (by decide) (fun w F hA => ownL_one_mk (r := rTg (rList (rInt .i64))) ⟨oA_list.1 hA, rfl⟩) (fun v62 w63 H => ⟨trivial, fun a S => ?_⟩)
 refine lq v62 S (q_assign rfl) fun a S => ?_
 refine lx_nil (thenN ?_)
 refine wp_seq (wp_seq (region_plain ?_))
 refine lq (.int .i64 (0 : Int)) S (q_assign rfl) fun a S => ?_
 refine lx_nil (thenN ?_)
 obtain ⟨res145, hit146, hk149⟩ := bind_some hm
 obtain ⟨f147, hf148, hit146⟩ := iter_name hit146
 refine block_loop (fun a w => ∃ (xs143 : List (List Int)) (v142 : Value), Slots a 34 [(4, v142)] ∧ Heap w0 [oA (rList (rList (rInt .i64))) v142 xs143] w ∧ res145 = .inl (xs143)) ?_ ?_
 ·rintro a w ⟨xs143, v142, S, H, rfl⟩
  have hm := ctl_inl hk149
  refine thenN ?_
  refine wp_seq (region_plain ?_)
  refine lq v142 S (q_move rfl) fun a S => ?_
  refine lq v142 S (q_assign rfl) fun a S => ?_
  refine lx_nil (thenN ?_)
  refine wp_ret ?_
  obtain rfl := Option.some.inj hm
  exact leave1 S rfl rfl ⟨v142, rfl, H⟩
 ·skip
  refine loop_ghost (fun n a w => ∃ (T : List (List Int × Value)) (xs101 : List Int) (x106 : Int) (v100 : Value) (v103 : Value), Slots a 34 [(0, p0), (3, v100), (4, v103), (5, (.int .i64 x106))] ∧ Heap w0 [oA (rList (rTg (rList (rInt .i64)))) v103 T] w ∧ T[T.length - 1]? = some (xs101, v100) ∧ iter f147 n (xs101, T.map (·.1), x106) = some res145) _ ⟨[((List.replicate m52 (0 : Int)), v53)], (List.replicate m52 (0 : Int)), (0 : Int), v53, _, S.sub ⟨rfl, rfl, rfl, rfl, trivial⟩, H, rfl, hit146⟩ ?_
  rintro n a w ⟨T, xs101, x106, v100, v103, S, H, hlast, hit146⟩
  obtain ⟨m150, o151, rfl, hm, hc152⟩ := iter_step hit146
  rw [hf148] at hm
  refine wp_seq (wp_seq (region_plain ?_))
  refine lq (.int .i64 x106) S (q_move rfl) fun a S => ?_
  refine lq p0 S (q_move rfl) fun a S => ?_
  refine lq p0 S (q_nilCheck rfl ((hat33 0 _ rfl).isP)) fun a S => ?_
  refine lq (pAdd p0 0) S (q_fieldAddr' 0 2 rfl ((hat33 0 _ rfl).isP) Tryz.underlying31 rfl Tryz.sizeOf2) fun a S => ?_
  refine lx_e (.int .i64 a0.1) S trivial (by decide) rfl trivial (q_load1 rfl Tryz.isAgg2 (by rintro _ rfl; exact (At.of_add (m := 0) (j := 0) ((hat33 0 _ rfl).ext H.ext)))) (fun a S => ?_)
  refine lq (.bool (decide (x106 < a0.1))) S (q_lss rfl rfl) fun a S => ?_
  refine lx_nil (thenN ?_)
  refine cond_b S rfl (fun hc153 => ?_) (fun hc153 => ?_)
  ·have hm := ite_t hc153 hm
   refine wp_skip (thenN ?_)
   refine wp_seq ?_
   refine wp_block ?_
   refine wp_seq (region_plain ?_)
   refine lq p0 S (q_move rfl) fun a S => ?_
   refine lq v100 S (q_move rfl) fun a S => ?_
   obtain ⟨x156, e157, hm⟩ := bind_some hm
   refine lx_call (xs := [.tmp 22, .tmp 23]) S trivial (by decide) rfl rfl Tryz.call46 ((spec_l14Next_ok (H.arg h0) (rd_tg (H.rdAt 0 rfl) hlast rfl) e157).mono ?_)
   rintro e w154 ⟨v158, rfl, Hc155⟩
   have H := H.call1 Hc155
   refine ⟨_, rfl, trivial, fun a S => ?_⟩
   refine lq v158 S (q_assign rfl) fun a S => ?_
   refine lx_nil (thenN ?_)
   refine wp_seq (wp_seq (region_plain ?_))
   refine lq v158 S (q_move rfl) fun a S => ?_
   refine lq v100 S (q_move rfl) fun a S => ?_
   obtain ⟨x163, e164, hm⟩ := bind_some hm
   refine lx_call (xs := [.tmp 25, .tmp 26]) S trivial (by decide) rfl rfl Tryz.call47 ((spec_l00Same_ok (H.rdAt 0 rfl) (rd_tg (H.rdAt 1 rfl) hlast rfl) e164).mono ?_)
   rintro e w161 ⟨rfl, Hc162⟩
   have H := H.call0 Hc162
   refine ⟨_, rfl, trivial, fun a S => ?_⟩
   refine lx_nil (thenN ?_)
   refine cond_b S rfl (fun hc166 => ?_) (fun hc166 => ?_)
   ·have hm := ite_t hc166 hm
    refine wp_exit ?_
    refine then_exit ?_
    refine inBlock_other (by decide) ?_
    refine then_exit ?_
    refine then_exit ?_
    refine inBlock_exit ?_
    obtain rfl := it_brk hm hc152
    have H : Heap w0 [oA (rList (rList (rInt .i64))) v103 (T.map (·.1))] w161 := (H.sel [1] (by decide)).mine CvO.tg allO_tg
    exact ⟨T.map (·.1), v103, S.sub ⟨rfl, trivial⟩, H, rfl⟩
   ·have hm := ite_f hc166 hm
    refine wp_skip (thenN ?_)
    refine wp_seq (region_plain ?_)
    refine lq v103 S (q_move rfl) fun a S => ?_
    refine lq v158 S (q_move rfl) fun a S => ?_
    refine lx_buildSlice (r := (rTg (rList (rInt .i64)))) (xs := [(x156, v158)]) (ps := [(0, [v158])]) (cs := [v158]) (parts := [(0, .tmp 29)]) S trivial (by decide) rfl H rfl Tryz.underlying47 Tryz.sizeOf61 Tryz.zeroValue61 (by decide) ⟨rfl, (cells_sl (H.isSl 0 rfl)), Nat.le_of_ble_eq_true rfl, trivial⟩ (by intro zs hz; exact fill_dense hz ⟨rfl, trivial⟩ rfl rfl) rfl (by decide) (fun w F hA => ownL_one_mk (r := rTg (rList (rInt .i64))) ⟨oA_list.1 hA, rfl⟩) (fun v173 w174 H => ⟨trivial, fun a S => ?_⟩)
    obtain ⟨x176, e177, hm⟩ := bind_some hm
    obtain ⟨hle, hap⟩ := app_some e177
    replace hap := hap.symm
    subst hap
    rw [List.length_map] at hle
    have H : Heap w0 [oA (rList (rTg (rList (rInt .i64)))) v103 T, oA (rList (rTg (rList (rInt .i64)))) v173 [(x156, v158)]] w174 := H.front 1 rfl
    refine lx_appendOwn (r := (rTg (rList (rInt .i64)))) S trivial (by decide) rfl H rfl rfl Tryz.underlying47 Tryz.ti61 rfl rfl rfl (Nat.le_of_ble_eq_true rfl) (by decide) hle (fun v178 w179 H => ⟨trivial, fun a S => ?_⟩)
    refine lq v178 S (q_assign rfl) fun a S => ?_
    refine lx_nil (thenN ?_)
    refine region_plain ?_
    refine lq v158 S (q_move rfl) fun a S => ?_
    refine lq v158 S (q_assign rfl) fun a S => ?_
    refine lx_nil ?_
    refine inBlock_norm ?_
    refine thenN ?_
    refine region_plain ?_
    refine lq (.int .i64 x106) S (q_move rfl) fun a S => ?_
    refine lq (.int .i64 (W (x106 + (1 : Int)))) S (q_add rfl rfl) fun a S => ?_
    refine lq (.int .i64 (W (x106 + (1 : Int)))) S (q_assign rfl) fun a S => ?_
    refine lx_nil ?_
    exact ⟨m150, Nat.lt_succ_self _, T ++ [(x156, v158)], x156, (W (x106 + (1 : Int))), v158, v178, S.sub ⟨rfl, rfl, rfl, rfl, trivial⟩, H, by simp, by rw [List.map_append]; exact it_cont hm hc152⟩
  ·have hm := ite_f hc153 hm
   refine wp_exit ?_
   refine then_exit ?_
   refine then_exit ?_
   refine inBlock_exit ?_
   obtain rfl := it_brk hm hc152
   have H : Heap w0 [oA (rList (rList (rInt .i64))) v103 (T.map (·.1))] w := H.mine CvO.tg allO_tg
   exact ⟨T.map (·.1), v103, S.sub ⟨rfl, trivial⟩, H, rfl⟩


/-- spec.l14Apart -/
def spec_l14Apart_m (fuel : Nat) (a0 : (List (List Int))) (a1 : Int) (a2 : Int) : Option (Int) :=
  (iter (fun (s : (Int)) => (match s with | (x60) => (if (decide (x60 < (a0.length : Int))) = true then (idx a0 x60).bind fun x101 => (idx x101 a1).bind fun x108 => (idx a0 x60).bind fun x113 => (idx x113 a2).bind fun x120 => (if (x108 != x120) = true then some (.inr (.inr x60)) else some (.inl ((W (x60 + (1 : Int)))))) else some (.inr (.inl ()))) : Option (((Int)) ⊕ ((Unit) ⊕ (Int))))) fuel ((0 : Int))).bind fun res90 => ctl (β := Unit) (ρ := Int) (τ := Int) res90 (fun _ => some ((0 : Int))) (fun q => some (q))
set_option maxRecDepth 20000 in
theorem spec_l14Apart_ok [dr : Dr] {w0 : World} {fuel : Nat} {p0 : Value} {a0 : (List (List Int))} {a1 : Int} {a2 : Int} {r : Int} (h0 : Rd (rList (rList (rInt .i64))) w0 p0 a0) (hm : spec_l14Apart_m fuel a0 a1 a2 = some r) :
  Calls Tryz.prog 21 #[p0, .int .i64 a1, .int .i64 a2] w0 fun e w => e = .returned (.int .i64 r) ∧ Heap w0 [] w := by
 unfold spec_l14Apart_m at hm
 have H := Heap.start w0
 refine enter (args := [p0, .int .i64 a1, .int .i64 a2]) Tryz.func21 rfl 30 rfl (Nat.le_of_ble_eq_true rfl) (fun a S => ?_)
 refine wp_seq (region_plain ?_)
 refine lq (.int .i64 (0 : Int)) S (q_assign rfl) fun a S => ?_
 refine lx_nil (thenN ?_)
 refine wp_seq (wp_seq (region_plain ?_))
 refine lq (.int .i64 (0 : Int)) S (q_assign rfl) fun a S => ?_
 refine lx_nil (thenN ?_)
 obtain ⟨res90, hit91, hk94⟩ := bind_some hm
 obtain ⟨f92, hf93, hit91⟩ := iter_name hit91
 refine block_loop (fun a w => Slots a 30 [] ∧ Heap w0 [] w ∧ res90 = .inl ()) ?_ ?_
 ·rintro a w ⟨S, H, rfl⟩
  have hm := ctl_inl hk94
  refine thenN ?_
  refine wp_seq (region_plain ?_)
  refine lq (.int .i64 (0 : Int)) S (q_assign rfl) fun a S => ?_
  refine lx_nil (thenN ?_)
  refine wp_ret ?_
  obtain rfl := Option.some.inj hm
  exact leave1 S rfl rfl ⟨rfl, H⟩
 ·skip
  refine loop_ghost (fun n a w => ∃ (x60 : Int), Slots a 30 [(0, p0), (1, (.int .i64 a1)), (2, (.int .i64 a2)), (7, (.int .i64 x60))] ∧ Heap w0 [] w ∧ iter f92 n (x60) = some res90) _ ⟨(0 : Int), S.sub ⟨rfl, rfl, rfl, rfl, trivial⟩, H, hit91⟩ ?_
  rintro n a w ⟨x60, S, H, hit91⟩
  obtain ⟨m95, o96, rfl, hm, hc97⟩ := iter_step hit91
  rw [hf93] at hm
  refine wp_seq (wp_seq (region_plain ?_))
  refine lq (.int .i64 x60) S (q_move rfl) fun a S => ?_
  refine lq p0 S (q_move rfl) fun a S => ?_
  refine lq (.int .i64 (a0.length : Int)) S (q_lenSl rfl (h0).isSl rfl Tryz.underlying47) fun a S => ?_
  refine lq (.bool (decide (x60 < (a0.length : Int)))) S (q_lss rfl rfl) fun a S => ?_
  refine lx_nil (thenN ?_)
  refine cond_b S rfl (fun hc98 => ?_) (fun hc98 => ?_)
  ·have hm := ite_t hc98 hm
   refine wp_skip (thenN ?_)
   refine wp_seq ?_
   refine wp_block ?_
   refine wp_seq ?_
   refine region_drawG (fun w1 => Heap w0 [] w1) (fun i => [].contains i) mixed (by kernel_rfl) (fun w100 he99 => ?_)
   have H := H.later he99
   refine ⟨H.sel [] (by decide), ?_⟩
   refine lq p0 S (q_move rfl) fun a S => ?_
   refine lq (.int .i64 x60) S (q_move rfl) fun a S => ?_
   obtain ⟨x101, e102, hm⟩ := bind_some hm
   obtain ⟨c103, h104, hat105⟩ := (h0).elem (idx_some e102).2
   obtain ⟨v106, rfl, h107⟩ := rd_list h104
   have hlt := lt_of_idx (idx_some e102).2
   refine lq (ePtr p0 (x60.toNat * 1)) S (q_indexAddr rfl (h0).isSl rfl (idx_some e102).1 hlt Tryz.underlying47 Tryz.sizeOf61) fun a S => ?_
   refine lq v106 S (q_load1 rfl Tryz.isAgg61 (fun w1 hC => ((hat105 0 _ rfl).ext hC.ext))) fun a S => ?_
   refine lq (.int .i64 a1) S (q_move rfl) fun a S => ?_
   obtain ⟨x108, e109, hm⟩ := bind_some hm
   obtain ⟨c110, h111, hat112⟩ := (h107).elem (idx_some e109).2
   obtain rfl := h111
   have hlt := lt_of_idx (idx_some e109).2
   refine lq (ePtr v106 (a1.toNat * 1)) S (q_indexAddr rfl (h107).isSl rfl (idx_some e109).1 hlt Tryz.underlying61 Tryz.sizeOf2) fun a S => ?_
   refine lq (.int .i64 x108) S (q_load1 rfl Tryz.isAgg2 (fun w1 hC => ((hat112 0 _ rfl).ext hC.ext))) fun a S => ?_
   refine lq p0 S (q_move rfl) fun a S => ?_
   refine lq (.int .i64 x60) S (q_move rfl) fun a S => ?_
   obtain ⟨x113, e114, hm⟩ := bind_some hm
   obtain ⟨c115, h116, hat117⟩ := (h0).elem (idx_some e114).2
   obtain ⟨v118, rfl, h119⟩ := rd_list h116
   have hlt := lt_of_idx (idx_some e114).2
   refine lq (ePtr p0 (x60.toNat * 1)) S (q_indexAddr rfl (h0).isSl rfl (idx_some e114).1 hlt Tryz.underlying47 Tryz.sizeOf61) fun a S => ?_
   refine lq v118 S (q_load1 rfl Tryz.isAgg61 (fun w1 hC => ((hat117 0 _ rfl).ext hC.ext))) fun a S => ?_
   refine lq (.int .i64 a2) S (q_move rfl) fun a S => ?_
   obtain ⟨x120, e121, hm⟩ := bind_some hm
   obtain ⟨c122, h123, hat124⟩ := (h119).elem (idx_some e121).2
   obtain rfl := h123
   have hlt := lt_of_idx (idx_some e121).2
   refine lq (ePtr v118 (a2.toNat * 1)) S (q_indexAddr rfl (h119).isSl rfl (idx_some e121).1 hlt Tryz.underlying61 Tryz.sizeOf2) fun a S => ?_
   refine lq (.int .i64 x120) S (q_load1 rfl Tryz.isAgg2 (fun w1 hC => ((hat124 0 _ rfl).ext hC.ext))) fun a S => ?_
   refine lq (.bool (x108 != x120)) S (q_neq rfl rfl) fun a S => ?_
   refine lx_nil (thenN ?_)
   refine cond_b S rfl (fun hc125 => ?_) (fun hc125 => ?_)
   ·have hm := ite_t hc125 hm
    refine wp_seq (region_plain ?_)
    refine lq (.int .i64 x60) S (q_move rfl) fun a S => ?_
    refine lq (.int .i64 x60) S (q_assign rfl) fun a S => ?_
    refine lx_nil (thenN ?_)
    refine wp_ret (inBlock_ret ?_)
    refine then_ret ?_
    refine then_ret ?_
    refine inBlock_ret ?_
    refine then_ret ?_
    refine then_ret ?_
    obtain rfl := it_brk hm hc97
    have hm := ctl_inr hk94
    obtain rfl := Option.some.inj hm
    exact leave1 S rfl rfl ⟨rfl, H⟩
   ·have hm := ite_f hc125 hm
    refine wp_skip ?_
    refine inBlock_norm ?_
    refine thenN ?_
    refine region_plain ?_
    refine lq (.int .i64 x60) S (q_move rfl) fun a S => ?_
    refine lq (.int .i64 (W (x60 + (1 : Int)))) S (q_add rfl rfl) fun a S => ?_
    refine lq (.int .i64 (W (x60 + (1 : Int)))) S (q_assign rfl) fun a S => ?_
    refine lx_nil ?_
    exact ⟨m95, Nat.lt_succ_self _, (W (x60 + (1 : Int))), S.sub ⟨rfl, rfl, rfl, rfl, trivial⟩, H, it_cont hm hc97⟩
  ·have hm := ite_f hc98 hm
   refine wp_exit ?_
   refine then_exit ?_
   refine then_exit ?_
   refine inBlock_exit ?_
   obtain rfl := it_brk hm hc97
   exact ⟨S.sub trivial, H, rfl⟩

/-- spec.SeparationDepth -/
def spec_SeparationDepth_m (fuel : Nat) (a0 : Timpl_Lts) (a1 : Int) (a2 : Int) : Option ((Int × Int)) :=
  (spec_l11Is_m fuel (a0.1, a0.2.1, a0.2.2.1, a0.2.2.2)).bind fun x54 => (if (!x54) = true then some (((0 : Int), (1 : Int))) else (spec_l14Two_m fuel (a0.1, a0.2.1, a0.2.2.1, a0.2.2.2) a1 a2).bind fun x60 => (if (!x60) = true then some (((0 : Int), (2 : Int))) else (spec_l14Levels_m fuel (a0.1, a0.2.1, a0.2.2.1, a0.2.2.2)).bind fun x66 => (spec_l14Apart_m fuel x66 a1 a2).bind fun x73 => (if (x73 == (0 : Int)) = true then some (((0 : Int), (3 : Int))) else some ((x73, (0 : Int))))))
set_option maxRecDepth 20000 in
theorem spec_SeparationDepth_ok [dr : Dr] {w0 : World} {fuel : Nat} {p0 : Value} {a0 : Timpl_Lts} {a1 : Int} {a2 : Int} {r : (Int × Int)} (h0 : Rd Rimpl_Lts w0 p0 a0) (hm : spec_SeparationDepth_m fuel a0 a1 a2 = some r) :
  Calls Tryz.prog 7 #[p0, .int .i64 a1, .int .i64 a2] w0 fun e w => e = .returned (.tuple #[.int .i64 r.1, .int .i64 r.2]) ∧ Heap w0 [] w := by
 unfold spec_SeparationDepth_m at hm
 have H := Heap.start w0
 obtain ⟨c31, rfl, h32⟩ := h0
 obtain ⟨c37, c38, rfl, h39, h40⟩ := h32
 obtain rfl := h39
 obtain ⟨c41, c42, rfl, h43, h44⟩ := h40
 obtain rfl := h43
 obtain ⟨c45, c46, rfl, h47, h48⟩ := h44
 obtain ⟨v33, rfl, h34⟩ := rd_list h47
 obtain ⟨v35, rfl, h36⟩ := rd_list h48
 refine enter (args := [(.agg #[(.int .i64 a0.1), (.int .i64 a0.2.1), v33, v35]), .int .i64 a1, .int .i64 a2]) Tryz.func7 rfl 22 rfl (Nat.le_of_ble_eq_true rfl) (fun a S => ?_)
 refine wp_seq (region_plain ?_)
 refine lx_box S trivial (by decide) rfl H rfl rfl (fun b49 w50 H => ⟨trivial, fun a S => ?_⟩)
 refine lq (.int .i64 (0 : Int)) S (q_assign rfl) fun a S => ?_
 refine lq (.int .i64 (0 : Int)) S (q_assign rfl) fun a S => ?_
 refine lx_nil (thenN ?_)
 refine wp_seq (wp_seq (region_plain ?_))
 obtain ⟨x54, e55, hm⟩ := bind_some hm
 refine lx_call (xs := [.tmp 3]) S trivial (by decide) rfl rfl Tryz.call19 ((spec_l11Is_ok (rdPtr_box H 0 rfl ⟨[(.int .i64 a0.1)], [(.int .i64 a0.2.1), v33, v35], rfl, rfl, ⟨[(.int .i64 a0.2.1)], [v33, v35], rfl, rfl, ⟨[v33], [v35], rfl, ((H.arg h34)).list_rd, ((H.arg h36)).list_rd⟩⟩⟩) e55).mono ?_)
 rintro e w52 ⟨rfl, Hc53⟩
 have H := H.call0 Hc53
 refine ⟨_, rfl, trivial, fun a S => ?_⟩
 refine lq (.bool (!x54)) S (q_not rfl) fun a S => ?_
 refine lx_nil (thenN ?_)
 refine cond_b S rfl (fun hc57 => ?_) (fun hc57 => ?_)
 ·have hm := ite_t hc57 hm
  refine wp_seq (region_plain ?_)
  refine lq (.int .i64 (0 : Int)) S (q_assign rfl) fun a S => ?_
  refine lq (.int .i64 (1 : Int)) S (q_assign rfl) fun a S => ?_
  refine lx_nil (thenN ?_)
  refine wp_ret (then_ret ?_)
  obtain rfl := Option.some.inj hm
  have H : Heap w0 [] w52 := H.sel [] (by decide)
  exact leave2 S rfl rfl rfl ⟨rfl, H⟩
 ·have hm := ite_f hc57 hm
  refine wp_skip (thenN ?_)
  refine wp_seq (wp_seq (region_plain ?_))
  refine lq (.int .i64 a1) S (q_move rfl) fun a S => ?_
  refine lq (.int .i64 a2) S (q_move rfl) fun a S => ?_
  obtain ⟨x60, e61, hm⟩ := bind_some hm
  refine lx_call (xs := [.tmp 3, .tmp 11, .tmp 12]) S trivial (by decide) rfl rfl Tryz.call20 ((spec_l14Two_ok (rdPtr_box H 0 rfl ⟨[(.int .i64 a0.1)], [(.int .i64 a0.2.1), v33, v35], rfl, rfl, ⟨[(.int .i64 a0.2.1)], [v33, v35], rfl, rfl, ⟨[v33], [v35], rfl, ((H.arg h34)).list_rd, ((H.arg h36)).list_rd⟩⟩⟩)   e61).mono ?_)
  rintro e w58 ⟨rfl, Hc59⟩
  have H := H.call0 Hc59
  refine ⟨_, rfl, trivial, fun a S => ?_⟩
  refine lq (.bool (!x60)) S (q_not rfl) fun a S => ?_
  refine lx_nil (thenN ?_)
  refine cond_b S rfl (fun hc63 => ?_) (fun hc63 => ?_)
  ·have hm := ite_t hc63 hm
   refine wp_seq (region_plain ?_)
   refine lq (.int .i64 (0 : Int)) S (q_assign rfl) fun a S => ?_
   refine lq (.int .i64 (2 : Int)) S (q_assign rfl) fun a S => ?_
   refine lx_nil (thenN ?_)
   refine wp_ret (then_ret ?_)
   obtain rfl := Option.some.inj hm
   have H : Heap w0 [] w58 := H.sel [] (by decide)
   exact leave2 S rfl rfl rfl ⟨rfl, H⟩
  ·have hm := ite_f hc63 hm
   refine wp_skip (thenN ?_)
   refine wp_seq (region_plain ?_)
   obtain ⟨x66, e67, hm⟩ := bind_some hm
   refine lx_call (xs := [.tmp 3]) S trivial (by decide) rfl rfl Tryz.call22 ((spec_l14Levels_ok (rdPtr_box H 0 rfl ⟨[(.int .i64 a0.1)], [(.int .i64 a0.2.1), v33, v35], rfl, rfl, ⟨[(.int .i64 a0.2.1)], [v33, v35], rfl, rfl, ⟨[v33], [v35], rfl, ((H.arg h34)).list_rd, ((H.arg h36)).list_rd⟩⟩⟩) e67).mono ?_)
   rintro e w64 ⟨v68, rfl, Hc65⟩
   have H := H.call1 Hc65
   refine ⟨_, rfl, trivial, fun a S => ?_⟩
   refine lq (.int .i64 a1) S (q_move rfl) fun a S => ?_
   refine lq (.int .i64 a2) S (q_move rfl) fun a S => ?_
   obtain ⟨x73, e74, hm⟩ := bind_some hm
   refine lx_call (xs := [.tmp 15, .tmp 16, .tmp 17]) S trivial (by decide) rfl rfl Tryz.call21 ((spec_l14Apart_ok (H.rdAt 0 rfl)   e74).mono ?_)
   rintro e w71 ⟨rfl, Hc72⟩
   have H := H.call0 Hc72
   refine ⟨_, rfl, trivial, fun a S => ?_⟩
   refine lq (.int .i64 x73) S (q_assign rfl) fun a S => ?_
   refine lx_nil (thenN ?_)
   refine wp_seq (wp_seq (region_plain ?_))
   refine lq (.int .i64 x73) S (q_move rfl) fun a S => ?_
   refine lq (.bool (x73 == (0 : Int))) S (q_eql rfl rfl) fun a S => ?_
   refine lx_nil (thenN ?_)
   refine cond_b S rfl (fun hc76 => ?_) (fun hc76 => ?_)
   ·have hm := ite_t hc76 hm
    refine wp_seq (region_plain ?_)
    refine lq (.int .i64 (0 : Int)) S (q_assign rfl) fun a S => ?_
    refine lq (.int .i64 (3 : Int)) S (q_assign rfl) fun a S => ?_
    refine lx_nil (thenN ?_)
    refine wp_ret (then_ret ?_)
    obtain rfl := Option.some.inj hm
    have H : Heap w0 [] w71 := H.sel [] (by decide)
    exact leave2 S rfl rfl rfl ⟨rfl, H⟩
   ·have hm := ite_f hc76 hm
    refine wp_skip (thenN ?_)
    refine wp_seq (region_plain ?_)
    refine lq (.int .i64 x73) S (q_move rfl) fun a S => ?_
    refine lq (.int .i64 x73) S (q_assign rfl) fun a S => ?_
    refine lq (.int .i64 (0 : Int)) S (q_assign rfl) fun a S => ?_
    refine lx_nil (thenN ?_)
    refine wp_ret ?_
    obtain rfl := Option.some.inj hm
    have H : Heap w0 [] w71 := H.sel [] (by decide)
    exact leave2 S rfl rfl rfl ⟨rfl, H⟩

/-- impl.statesCode$1 -/
def impl_statesCode_1_m (fuel : Nat) (a0 : Int) (a1 : Timpl_Lts) : Option (Bool) :=
  (impl_Lts_isState_m fuel (a1.1, a1.2.1, a1.2.2.1, a1.2.2.2) a0).bind fun x52 => some ((!x52))
set_option maxRecDepth 20000 in
theorem impl_statesCode_1_ok [dr : Dr] {w0 : World} {fuel : Nat} {p1 : Value} {a0 : Int} {a1 : Timpl_Lts} {r : Bool} (h1 : Rd (rPtr Rimpl_Lts) w0 p1 a1) (hm : impl_statesCode_1_m fuel a0 a1 = some r) :
  Calls Tryz.prog 76 #[.int .i64 a0, p1] w0 fun e w => e = .returned (.bool r) ∧ Heap w0 [] w := by
 unfold impl_statesCode_1_m at hm
 have H := Heap.start w0
 obtain ⟨c31, h32, hat33⟩ := h1.ptr
 obtain ⟨c38, c39, rfl, h40, h41⟩ := h32
 obtain rfl := h40
 obtain ⟨c42, c43, rfl, h44, h45⟩ := h41
 obtain rfl := h44
 obtain ⟨c46, c47, rfl, h48, h49⟩ := h45
 obtain ⟨v34, rfl, h35⟩ := rd_list h48
 obtain ⟨v36, rfl, h37⟩ := rd_list h49
 refine enter (args := [.int .i64 a0, p1]) Tryz.func76 rfl 8 rfl (Nat.le_of_ble_eq_true rfl) (fun a S => ?_)
 refine wp_seq (region_plain ?_)
 refine lq (.bool false) S (q_assign rfl) fun a S => ?_
 refine lx_nil (thenN ?_)
 refine wp_seq (region_plain ?_)
 refine lx_e (.agg #[(.int .i64 a1.1), (.int .i64 a1.2.1), v34, v36]) S trivial (by decide) rfl trivial (q_loadA (cs := [(.int .i64 a1.1), (.int .i64 a1.2.1), v34, v36]) rfl ((hat33 0 _ rfl).isP) Tryz.isAgg31 Tryz.sizeOf31 (by rintro _ rfl; exact (fun j u hu => (hat33 j u hu).ext H.ext))) (fun a S => ?_)
 refine lq (.int .i64 a0) S (q_move rfl) fun a S => ?_
 obtain ⟨x52, e53, hm⟩ := bind_some hm
 refine lx_call (xs := [.tmp 4, .tmp 5]) S trivial (by decide) rfl rfl Tryz.call53 ((impl_Lts_isState_ok ⟨[(.int .i64 a1.1), (.int .i64 a1.2.1), v34, v36], rfl, ⟨[(.int .i64 a1.1)], [(.int .i64 a1.2.1), v34, v36], rfl, rfl, ⟨[(.int .i64 a1.2.1)], [v34, v36], rfl, rfl, ⟨[v34], [v36], rfl, ((H.arg h35)).list_rd, ((H.arg h37)).list_rd⟩⟩⟩⟩  e53).mono ?_)
 rintro e w50 ⟨rfl, Hc51⟩
 have H := H.call0 Hc51
 refine ⟨_, rfl, trivial, fun a S => ?_⟩
 refine lq (.bool (!x52)) S (q_not rfl) fun a S => ?_
 refine lq (.bool (!x52)) S (q_assign rfl) fun a S => ?_
 refine lx_nil (thenN ?_)
 refine wp_ret ?_
 obtain rfl := Option.some.inj hm
 exact leave1 S rfl rfl ⟨rfl, H⟩

/-- impl.statesCode -/
def impl_statesCode_m (fuel : Nat) (a0 : Timpl_Lts) (a1 : (List Int)) : Option (Int) :=
  (impl_ValidLts_m fuel (a0.1, a0.2.1, a0.2.2.1, a0.2.2.2)).bind fun x54 => (if (!x54) = true then some ((1 : Int)) else (slices_ContainsFunc__int64_int64_m fuel a1 (fun (z0 : Int) => impl_statesCode_1_m fuel z0 (a0.1, a0.2.1, a0.2.2.1, a0.2.2.2))).bind fun x60 => (if x60 = true then some ((2 : Int)) else some ((0 : Int))))
set_option maxRecDepth 20000 in
theorem impl_statesCode_ok {w0 : World} {fuel : Nat} {p0 p1 : Value} {a0 : Timpl_Lts} {a1 : (List Int)} {r : Int} (hG : GlobE Tryz.prog w0) (h0 : Rd Rimpl_Lts w0 p0 a0) (h1 : Rd (rList (rInt .i64)) w0 p1 a1) (hm : impl_statesCode_m fuel a0 a1 = some r) :
  Calls Tryz.prog 49 #[p0, p1] w0 fun e w => e = .returned (.int .i64 r) ∧ Heap w0 [] w := by
 unfold impl_statesCode_m at hm
 have H := Heap.start w0
 obtain ⟨c31, rfl, h32⟩ := h0
 obtain ⟨c37, c38, rfl, h39, h40⟩ := h32
 obtain rfl := h39
 obtain ⟨c41, c42, rfl, h43, h44⟩ := h40
 obtain rfl := h43
 obtain ⟨c45, c46, rfl, h47, h48⟩ := h44
 obtain ⟨v33, rfl, h34⟩ := rd_list h47
 obtain ⟨v35, rfl, h36⟩ := rd_list h48
 refine enter (args := [(.agg #[(.int .i64 a0.1), (.int .i64 a0.2.1), v33, v35]), p1]) Tryz.func49 rfl 13 rfl (Nat.le_of_ble_eq_true rfl) (fun a S => ?_)
 refine wp_seq (region_plain ?_)
 refine lx_box S trivial (by decide) rfl H rfl rfl (fun b49 w50 H => ⟨trivial, fun a S => ?_⟩)
 refine lq (.int .i64 (0 : Int)) S (q_assign rfl) fun a S => ?_
 refine lx_nil (thenN ?_)
 refine wp_seq ?_
 refine wp_block ?_
 refine wp_seq (region_plain ?_)
 refine lx_e (.agg #[(.int .i64 a0.1), (.int .i64 a0.2.1), v33, v35]) S trivial (by decide) rfl trivial (q_loadA (cs := [(.int .i64 a0.1), (.int .i64 a0.2.1), v33, v35]) rfl (isP_bp _) Tryz.isAgg31 Tryz.sizeOf31 (by rintro _ rfl; exact (fun j u hu => boxAt (i := 0) H rfl hu))) (fun a S => ?_)
 obtain ⟨x54, e55, hm⟩ := bind_some hm
 refine lx_call (xs := [.tmp 6]) S trivial (by decide) rfl rfl Tryz.call29 ((impl_ValidLts_ok (hG.ext H.ext) ⟨[(.int .i64 a0.1), (.int .i64 a0.2.1), v33, v35], rfl, ⟨[(.int .i64 a0.1)], [(.int .i64 a0.2.1), v33, v35], rfl, rfl, ⟨[(.int .i64 a0.2.1)], [v33, v35], rfl, rfl, ⟨[v33], [v35], rfl, ((H.arg h34)).list_rd, ((H.arg h36)).list_rd⟩⟩⟩⟩ e55).mono ?_)
 rintro e w52 ⟨rfl, Hc53⟩
 have H := H.call0 Hc53
 refine ⟨_, rfl, trivial, fun a S => ?_⟩
 refine lq (.bool (!x54)) S (q_not rfl) fun a S => ?_
 refine lq (.bool (!x54)) S (q_assign rfl) fun a S => ?_
 refine lx_nil (thenN ?_)
 refine cond_b S rfl (fun hc57 => ?_) (fun hc57 => ?_)
 ·have hm := ite_t hc57 hm
  refine wp_seq (region_plain ?_)
  refine lq (.int .i64 (1 : Int)) S (q_assign rfl) fun a S => ?_
  refine lx_nil (thenN ?_)
  refine wp_ret (inBlock_ret ?_)
  refine then_ret ?_
  obtain rfl := Option.some.inj hm
  have H : Heap w0 [] w52 := H.sel [] (by decide)
  exact leave1 S rfl rfl ⟨rfl, H⟩
 ·have hm := ite_f hc57 hm
  refine wp_seq (region_plain ?_)
  refine lq p1 S (q_move rfl) fun a S => ?_
  refine lq (.func (.func 76) #[] #[(bp b49)]) S (q_makeFunc (xs := []) (ys := [.tmp 2]) rfl rfl) fun a S => ?_
  obtain ⟨x60, e61, hm⟩ := bind_some hm
  have hcap62 : Rd (rPtr Rimpl_Lts) w52 (bp b49) (a0.1, a0.2.1, a0.2.2.1, a0.2.2.2) := (rdPtr_box H 0 rfl ⟨[(.int .i64 a0.1)], [(.int .i64 a0.2.1), v33, v35], rfl, rfl, ⟨[(.int .i64 a0.2.1)], [v33, v35], rfl, rfl, ⟨[v33], [v35], rfl, ((H.arg h34)).list_rd, ((H.arg h36)).list_rd⟩⟩⟩)
  refine lx_call (xs := [.tmp 10, .tmp 11]) S trivial (by decide) rfl rfl Tryz.call75 ((slices_ContainsFunc__int64_int64_ok (f1 := 76) (fs1 := ([] : List Value)) (cp1 := ([(bp b49)] : List Value)) (a1 := (fun (z0 : Int) => impl_statesCode_1_m fuel z0 (a0.1, a0.2.1, a0.2.2.1, a0.2.2.2))) (H.arg h1) Tryz.call76 (fun he  hm => impl_statesCode_1_ok   (hcap62.ext he) hm) e61).mono ?_)
  rintro e w58 ⟨rfl, Hc59⟩
  have H := H.call0 Hc59
  refine ⟨_, rfl, trivial, fun a S => ?_⟩
  refine lq (.bool x60) S (q_assign rfl) fun a S => ?_
  refine lx_nil (thenN ?_)
  refine cond_b S rfl (fun hc64 => ?_) (fun hc64 => ?_)
  ·have hm := ite_t hc64 hm
   refine wp_seq (region_plain ?_)
   refine lq (.int .i64 (2 : Int)) S (q_assign rfl) fun a S => ?_
   refine lx_nil (thenN ?_)
   refine wp_ret (inBlock_ret ?_)
   refine then_ret ?_
   obtain rfl := Option.some.inj hm
   have H : Heap w0 [] w58 := H.sel [] (by decide)
   exact leave1 S rfl rfl ⟨rfl, H⟩
  ·have hm := ite_f hc64 hm
   refine wp_skip ?_
   refine inBlock_norm ?_
   refine thenN ?_
   refine wp_seq (region_plain ?_)
   refine lq (.int .i64 (0 : Int)) S (q_assign rfl) fun a S => ?_
   refine lx_nil (thenN ?_)
   refine wp_ret ?_
   obtain rfl := Option.some.inj hm
   have H : Heap w0 [] w58 := H.sel [] (by decide)
   exact leave1 S rfl rfl ⟨rfl, H⟩

/-- slices.Equal[[]int64,int64] -/
def slices_Equal__int64_int64_m (fuel : Nat) (a0 : (List Int)) (a1 : (List Int)) : Option (Bool) :=
  (if ((a0.length : Int) != (a1.length : Int)) = true then some (false) else (iter (fun (s : (Int)) => (match s with | (x47) => (if (decide (x47 < (a0.length : Int))) = true then (idx a0 x47).bind fun x74 => (idx a1 x47).bind fun x79 => (if (x74 != x79) = true then some (.inr (.inr false)) else some (.inl ((W (x47 + (1 : Int)))))) else some (.inr (.inl ()))) : Option (((Int)) ⊕ ((Unit) ⊕ (Bool))))) fuel ((0 : Int))).bind fun res63 => ctl (β := Unit) (ρ := Bool) (τ := Bool) res63 (fun _ => some (true)) (fun q => some (q)))
set_option maxRecDepth 20000 in
theorem slices_Equal__int64_int64_ok [dr : Dr] {w0 : World} {fuel : Nat} {p0 p1 : Value} {a0 : (List Int)} {a1 : (List Int)} {r : Bool} (h0 : Rd (rList (rInt .i64)) w0 p0 a0) (h1 : Rd (rList (rInt .i64)) w0 p1 a1) (hm : slices_Equal__int64_int64_m fuel a0 a1 = some r) :
  Calls Tryz.prog 101 #[p0, p1] w0 fun e w => e = .returned (.bool r) ∧ Heap w0 [] w := by
 unfold slices_Equal__int64_int64_m at hm
 have H := Heap.start w0
 refine enter (args := [p0, p1]) Tryz.func101 rfl 26 rfl (Nat.le_of_ble_eq_true rfl) (fun a S => ?_)
 refine wp_seq (region_plain ?_)
 refine lq (.bool false) S (q_assign rfl) fun a S => ?_
 refine lx_nil (thenN ?_)
 refine wp_seq (wp_seq (region_plain ?_))
 refine lq p0 S (q_move rfl) fun a S => ?_
 refine lq (.int .i64 (a0.length : Int)) S (q_lenSl rfl (h0).isSl rfl Tryz.underlying61) fun a S => ?_
 refine lq p1 S (q_move rfl) fun a S => ?_
 refine lq (.int .i64 (a1.length : Int)) S (q_lenSl rfl (h1).isSl rfl Tryz.underlying61) fun a S => ?_
 refine lq (.bool ((a0.length : Int) != (a1.length : Int))) S (q_neq rfl rfl) fun a S => ?_
 refine lx_nil (thenN ?_)
 refine cond_b S rfl (fun hc31 => ?_) (fun hc31 => ?_)
 ·have hm := ite_t hc31 hm
  refine wp_seq (region_plain ?_)
  refine lq (.bool false) S (q_assign rfl) fun a S => ?_
  refine lx_nil (thenN ?_)
  refine wp_ret (then_ret ?_)
  obtain rfl := Option.some.inj hm
  exact leave1 S rfl rfl ⟨rfl, H⟩
 ·have hm := ite_f hc31 hm
  refine wp_skip (thenN ?_)
  refine wp_seq (wp_seq (region_plain ?_))
  refine lq p0 S (q_move rfl) fun a S => ?_
  refine lq (.int .i64 (a0.length : Int)) S (q_lenSl rfl (h0).isSl rfl Tryz.underlying61) fun a S => ?_
  refine lq (.int .i64 (0 : Int)) S (q_move rfl) fun a S => ?_
  refine lx_nil (thenN ?_)
  obtain ⟨res63, hit64, hk67⟩ := bind_some hm
  obtain ⟨f65, hf66, hit64⟩ := iter_name hit64
  refine block_loop (fun a w => Slots a 26 [] ∧ Heap w0 [] w ∧ res63 = .inl ()) ?_ ?_
  ·rintro a w ⟨S, H, rfl⟩
   have hm := ctl_inl hk67
   refine thenN ?_
   refine wp_seq (region_plain ?_)
   refine lq (.bool true) S (q_assign rfl) fun a S => ?_
   refine lx_nil (thenN ?_)
   refine wp_ret ?_
   obtain rfl := Option.some.inj hm
   exact leave1 S rfl rfl ⟨rfl, H⟩
  ·skip
   refine loop_ghost (fun n a w => ∃ (x47 : Int), Slots a 26 [(0, p0), (1, p1), (12, (.int .i64 (a0.length : Int))), (13, (.int .i64 x47))] ∧ Heap w0 [] w ∧ iter f65 n (x47) = some res63) _ ⟨(0 : Int), S.sub ⟨rfl, rfl, rfl, rfl, trivial⟩, H, hit64⟩ ?_
   rintro n a w ⟨x47, S, H, hit64⟩
   obtain ⟨m68, o69, rfl, hm, hc70⟩ := iter_step hit64
   rw [hf66] at hm
   refine wp_seq (region_plain ?_)
   refine lq (.bool (decide (x47 < (a0.length : Int)))) S (q_lss rfl rfl) fun a S => ?_
   refine lx_nil (thenN ?_)
   refine wp_seq ?_
   refine cond_b S rfl (fun hc71 => ?_) (fun hc71 => ?_)
   ·have hm := ite_t hc71 hm
    refine wp_skip (thenN ?_)
    refine wp_seq ?_
    refine wp_block ?_
    refine wp_seq (region_plain ?_)
    refine lq (.int .i64 x47) S (q_move rfl) fun a S => ?_
    refine lq (.int .i64 x47) S (q_assign rfl) fun a S => ?_
    refine lx_nil (thenN ?_)
    refine wp_seq ?_
    refine region_drawG (fun w1 => Heap w0 [] w1) (fun i => [].contains i) mixed (by kernel_rfl) (fun w73 he72 => ?_)
    have H := H.later he72
    refine ⟨H.sel [] (by decide), ?_⟩
    refine lq p0 S (q_move rfl) fun a S => ?_
    refine lq (.int .i64 x47) S (q_move rfl) fun a S => ?_
    obtain ⟨x74, e75, hm⟩ := bind_some hm
    obtain ⟨c76, h77, hat78⟩ := (h0).elem (idx_some e75).2
    obtain rfl := h77
    have hlt := lt_of_idx (idx_some e75).2
    refine lq (ePtr p0 (x47.toNat * 1)) S (q_indexAddr rfl (h0).isSl rfl (idx_some e75).1 hlt Tryz.underlying61 Tryz.sizeOf2) fun a S => ?_
    refine lq (.int .i64 x74) S (q_load1 rfl Tryz.isAgg2 (fun w1 hC => ((hat78 0 _ rfl).ext hC.ext))) fun a S => ?_
    refine lq p1 S (q_move rfl) fun a S => ?_
    refine lq (.int .i64 x47) S (q_move rfl) fun a S => ?_
    obtain ⟨x79, e80, hm⟩ := bind_some hm
    obtain ⟨c81, h82, hat83⟩ := (h1).elem (idx_some e80).2
    obtain rfl := h82
    have hlt := lt_of_idx (idx_some e80).2
    refine lq (ePtr p1 (x47.toNat * 1)) S (q_indexAddr rfl (h1).isSl rfl (idx_some e80).1 hlt Tryz.underlying61 Tryz.sizeOf2) fun a S => ?_
    refine lq (.int .i64 x79) S (q_load1 rfl Tryz.isAgg2 (fun w1 hC => ((hat83 0 _ rfl).ext hC.ext))) fun a S => ?_
    refine lq (.bool (x74 != x79)) S (q_neq rfl rfl) fun a S => ?_
    refine lx_nil (thenN ?_)
    refine cond_b S rfl (fun hc84 => ?_) (fun hc84 => ?_)
    ·have hm := ite_t hc84 hm
     refine wp_seq (region_plain ?_)
     refine lq (.bool false) S (q_assign rfl) fun a S => ?_
     refine lx_nil (thenN ?_)
     refine wp_ret (inBlock_ret ?_)
     refine then_ret ?_
     refine then_ret ?_
     refine inBlock_ret ?_
     refine then_ret ?_
     refine then_ret ?_
     obtain rfl := it_brk hm hc70
     have hm := ctl_inr hk67
     obtain rfl := Option.some.inj hm
     exact leave1 S rfl rfl ⟨rfl, H⟩
    ·have hm := ite_f hc84 hm
     refine wp_skip ?_
     refine inBlock_norm ?_
     refine thenN ?_
     refine region_plain ?_
     refine lq (.int .i64 (W (x47 + (1 : Int)))) S (q_add rfl rfl) fun a S => ?_
     refine lq (.int .i64 (W (x47 + (1 : Int)))) S (q_move rfl) fun a S => ?_
     refine lx_nil ?_
     exact ⟨m68, Nat.lt_succ_self _, (W (x47 + (1 : Int))), S.sub ⟨rfl, rfl, rfl, rfl, trivial⟩, H, it_cont hm hc70⟩
   ·have hm := ite_f hc71 hm
    refine wp_exit ?_
    refine then_exit ?_
    refine then_exit ?_
    refine inBlock_exit ?_
    obtain rfl := it_brk hm hc70
    exact ⟨S.sub trivial, H, rfl⟩

/-- impl.normalKeys$1 -/
def impl_normalKeys_1_m (fuel : Nat) (a0 : (List Int)) (a1 : (List Int)) : Option (Bool) :=
  (slices_Equal__int64_int64_m fuel a0 a1).bind fun x38 => some (x38)
set_option maxRecDepth 20000 in
theorem impl_normalKeys_1_ok [dr : Dr] {w0 : World} {fuel : Nat} {p0 p1 : Value} {a0 : (List Int)} {a1 : (List Int)} {r : Bool} (h0 : Rd (rList (rInt .i64)) w0 p0 a0) (h1 : Rd (rPtr (rList (rInt .i64))) w0 p1 a1) (hm : impl_normalKeys_1_m fuel a0 a1 = some r) :
  Calls Tryz.prog 124 #[p0, p1] w0 fun e w => e = .returned (.bool r) ∧ Heap w0 [] w := by
 unfold impl_normalKeys_1_m at hm
 have H := Heap.start w0
 obtain ⟨c31, h32, hat33⟩ := h1.ptr
 obtain ⟨v34, rfl, h35⟩ := rd_list h32
 refine enter (args := [p0, p1]) Tryz.func124 rfl 7 rfl (Nat.le_of_ble_eq_true rfl) (fun a S => ?_)
 refine wp_seq (region_plain ?_)
 refine lq (.bool false) S (q_assign rfl) fun a S => ?_
 refine lx_nil (thenN ?_)
 refine wp_seq (region_plain ?_)
 refine lq p0 S (q_move rfl) fun a S => ?_
 refine lx_e v34 S trivial (by decide) rfl trivial (q_load1 rfl Tryz.isAgg61 (by rintro _ rfl; exact ((hat33 0 _ rfl).ext H.ext))) (fun a S => ?_)
 obtain ⟨x38, e39, hm⟩ := bind_some hm
 refine lx_call (xs := [.tmp 4, .tmp 5]) S trivial (by decide) rfl rfl Tryz.call101 ((slices_Equal__int64_int64_ok (H.arg h0) (H.arg h35) e39).mono ?_)
 rintro e w36 ⟨rfl, Hc37⟩
 have H := H.call0 Hc37
 refine ⟨_, rfl, trivial, fun a S => ?_⟩
 refine lq (.bool x38) S (q_assign rfl) fun a S => ?_
 refine lx_nil (thenN ?_)
 refine wp_ret ?_
 obtain rfl := Option.some.inj hm
 exact leave1 S rfl rfl ⟨rfl, H⟩

/-- slices.IndexFunc[[][]int64,[]int64] -/
def slices_IndexFunc___int64__int64_m (fuel : Nat) (a0 : (List (List Int))) (a1 : ((List Int) → Option Bool)) : Option (Int) :=
  (iter (fun (s : (Int)) => (match s with | (x48) => (if (decide (x48 < (a0.length : Int))) = true then (idx a0 x48).bind fun x75 => (a1 x75).bind fun x86 => (if x86 = true then some (.inr (.inr x48)) else some (.inl ((W (x48 + (1 : Int)))))) else some (.inr (.inl ()))) : Option (((Int)) ⊕ ((Unit) ⊕ (Int))))) fuel ((0 : Int))).bind fun res66 => ctl (β := Unit) (ρ := Int) (τ := Int) res66 (fun _ => some ((-1 : Int))) (fun q => some (q))
set_option maxRecDepth 20000 in
theorem slices_IndexFunc___int64__int64_ok [dr : Dr] {w0 : World} {fuel : Nat} {p0 : Value} {a0 : (List (List Int))} {a1 : ((List Int) → Option Bool)} {f1 : Nat} {fs1 cp1 : List Value} {r : Int} (h0 : Rd (rList (rList (rInt .i64))) w0 p0 a0) (hcf1 : ∀ args w, (callFunc f1 args).run Tryz.prog w = .ok (.enter f1 args) w) (hf1 : ∀ {w : World} {x0_ : (List Int)} {v0_ : Value} {y : Bool}, Ext w0 w → Rd (rList (rInt .i64)) w v0_ x0_ → a1 x0_ = some y → Calls Tryz.prog f1 (fs1 ++ ([v0_] : List Value) ++ cp1).toArray w fun e w' => e = .returned (.bool y) ∧ Heap w [] w') (hm : slices_IndexFunc___int64__int64_m fuel a0 a1 = some r) :
  Calls Tryz.prog 77 #[p0, .func (.func f1) fs1.toArray cp1.toArray] w0 fun e w => e = .returned (.int .i64 r) ∧ Heap w0 [] w := by
 unfold slices_IndexFunc___int64__int64_m at hm
 have H := Heap.start w0
 refine enter (args := [p0, .func (.func f1) fs1.toArray cp1.toArray]) Tryz.func77 rfl 19 rfl (Nat.le_of_ble_eq_true rfl) (fun a S => ?_)
 refine wp_seq (region_plain ?_)
 refine lq (.int .i64 (0 : Int)) S (q_assign rfl) fun a S => ?_
 refine lx_nil (thenN ?_)
 refine wp_seq (wp_seq (region_plain ?_))
 refine lq p0 S (q_move rfl) fun a S => ?_
 refine lq (.int .i64 (a0.length : Int)) S (q_lenSl rfl (h0).isSl rfl Tryz.underlying47) fun a S => ?_
 refine lq (.int .i64 (0 : Int)) S (q_move rfl) fun a S => ?_
 refine lx_nil (thenN ?_)
 obtain ⟨res66, hit67, hk70⟩ := bind_some hm
 obtain ⟨f68, hf69, hit67⟩ := iter_name hit67
 refine block_loop (fun a w => Slots a 19 [] ∧ Heap w0 [] w ∧ res66 = .inl ()) ?_ ?_
 ·rintro a w ⟨S, H, rfl⟩
  have hm := ctl_inl hk70
  refine thenN ?_
  refine wp_seq (region_plain ?_)
  refine lq (.int .i64 (-1 : Int)) S (q_assign rfl) fun a S => ?_
  refine lx_nil (thenN ?_)
  refine wp_ret ?_
  obtain rfl := Option.some.inj hm
  exact leave1 S rfl rfl ⟨rfl, H⟩
 ·skip
  refine loop_ghost (fun n a w => ∃ (x48 : Int), Slots a 19 [(0, p0), (1, (.func (.func f1) fs1.toArray cp1.toArray)), (7, (.int .i64 (a0.length : Int))), (8, (.int .i64 x48))] ∧ Heap w0 [] w ∧ iter f68 n (x48) = some res66) _ ⟨(0 : Int), S.sub ⟨rfl, rfl, rfl, rfl, trivial⟩, H, hit67⟩ ?_
  rintro n a w ⟨x48, S, H, hit67⟩
  obtain ⟨m71, o72, rfl, hm, hc73⟩ := iter_step hit67
  rw [hf69] at hm
  refine wp_seq (region_plain ?_)
  refine lq (.bool (decide (x48 < (a0.length : Int)))) S (q_lss rfl rfl) fun a S => ?_
  refine lx_nil (thenN ?_)
  refine wp_seq ?_
  refine cond_b S rfl (fun hc74 => ?_) (fun hc74 => ?_)
  ·have hm := ite_t hc74 hm
   refine wp_skip (thenN ?_)
   refine wp_seq ?_
   refine wp_block ?_
   refine wp_seq (region_plain ?_)
   refine lq (.int .i64 x48) S (q_move rfl) fun a S => ?_
   refine lq (.int .i64 x48) S (q_assign rfl) fun a S => ?_
   refine lx_nil (thenN ?_)
   refine wp_seq (region_plain ?_)
   refine lq (.func (.func f1) fs1.toArray cp1.toArray) S (q_move rfl) fun a S => ?_
   refine lq p0 S (q_move rfl) fun a S => ?_
   refine lq (.int .i64 x48) S (q_move rfl) fun a S => ?_
   obtain ⟨x75, e76, hm⟩ := bind_some hm
   obtain ⟨c77, h78, hat79⟩ := (h0).elem (idx_some e76).2
   obtain ⟨v80, rfl, h81⟩ := rd_list h78
   have hlt := lt_of_idx (idx_some e76).2
   refine lq (ePtr p0 (x48.toNat * 1)) S (q_indexAddr rfl (h0).isSl rfl (idx_some e76).1 hlt Tryz.underlying47 Tryz.sizeOf61) fun a S => ?_
   refine lx_e v80 S trivial (by decide) rfl trivial (q_load1 rfl Tryz.isAgg61 (by rintro _ rfl; exact ((hat79 0 _ rfl).ext H.ext))) (fun a S => ?_)
   obtain ⟨x86, e87, hm⟩ := bind_some hm
   refine lx_callV (f := f1) (first := fs1) (cap := cp1) (xs := [.tmp 15]) S trivial (by decide) rfl rfl rfl hcf1 ((hf1 H.ext (H.arg h81) e87).mono ?_)
   rintro e w84 ⟨rfl, Hc85⟩
   have H := H.call0 Hc85
   refine ⟨_, rfl, trivial, fun a S => ?_⟩
   refine lx_nil (thenN ?_)
   refine cond_b S rfl (fun hc89 => ?_) (fun hc89 => ?_)
   ·have hm := ite_t hc89 hm
    refine wp_seq (region_plain ?_)
    refine lq (.int .i64 x48) S (q_move rfl) fun a S => ?_
    refine lq (.int .i64 x48) S (q_assign rfl) fun a S => ?_
    refine lx_nil (thenN ?_)
    refine wp_ret (inBlock_ret ?_)
    refine then_ret ?_
    refine then_ret ?_
    refine inBlock_ret ?_
    refine then_ret ?_
    refine then_ret ?_
    obtain rfl := it_brk hm hc73
    have hm := ctl_inr hk70
    obtain rfl := Option.some.inj hm
    exact leave1 S rfl rfl ⟨rfl, H⟩
   ·have hm := ite_f hc89 hm
    refine wp_skip ?_
    refine inBlock_norm ?_
    refine thenN ?_
    refine region_plain ?_
    refine lq (.int .i64 (W (x48 + (1 : Int)))) S (q_add rfl rfl) fun a S => ?_
    refine lq (.int .i64 (W (x48 + (1 : Int)))) S (q_move rfl) fun a S => ?_
    refine lx_nil ?_
    exact ⟨m71, Nat.lt_succ_self _, (W (x48 + (1 : Int))), S.sub ⟨rfl, rfl, rfl, rfl, trivial⟩, H, it_cont hm hc73⟩
  ·have hm := ite_f hc74 hm
   refine wp_exit ?_
   refine then_exit ?_
   refine then_exit ?_
   refine inBlock_exit ?_
   obtain rfl := it_brk hm hc73
   exact ⟨S.sub trivial, H, rfl⟩
end Go.Proofs.YtldmecdkdoipdaaGreatDoor
