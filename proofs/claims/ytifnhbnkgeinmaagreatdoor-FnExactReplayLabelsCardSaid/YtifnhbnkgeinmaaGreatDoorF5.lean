/- The models of some functions and their walks (printed by a program of this repo). -/
import Derived.Test.YtifnhbnkgeinmaaGreatDoorF0
import Derived.Test.YtifnhbnkgeinmaaGreatDoorF3
import Derived.Test.YtifnhbnkgeinmaaGreatDoorFS
import Derived.Test.YtifnhbnkgeinmaaGreatDoorGxT
import Derived.Test.YtifnhbnkgeinmaaGreatDoorGxY
namespace Go.Proofs.YtifnhbnkgeinmaaGreatDoor
open Go.RowKit Go.Gx

/-- spec.l00Has -/
def spec_l00Has_m (fuel : Nat) (a0 : (List Int)) (a1 : Int) : Option (Bool) :=
  (iter (fun (s : (Int)) => (match s with | (x39) => (if (decide (x39 < (a0.length : Int))) = true then (idx a0 x39).bind fun x57 => (if (x57 == a1) = true then some (.inr (.inr true)) else some (.inl ((W (x39 + (1 : Int)))))) else some (.inr (.inl ()))) : Option (((Int)) ⊕ ((Unit) ⊕ (Bool))))) fuel ((0 : Int))).bind fun res48 => ctl (β := Unit) (ρ := Bool) (τ := Bool) res48 (fun _ => some (false)) (fun q => some (q))
set_option maxRecDepth 20000 in
theorem spec_l00Has_ok {w0 : World} {fuel : Nat} {p0 : Value} {a0 : (List Int)} {a1 : Int} {r : Bool} (h0 : Rd (rList (rInt .i64)) w0 p0 a0) (hm : spec_l00Has_m fuel a0 a1 = some r) :
  Calls Tryz.prog 36 #[p0, .int .i64 a1] w0 fun e w => e = .returned (.bool r) ∧ Heap w0 [] w := by
 unfold spec_l00Has_m at hm
 have H := Heap.start w0
 refine enter (args := [p0, .int .i64 a1]) Tryz.func36 rfl 18 rfl (Nat.le_of_ble_eq_true rfl) (fun a S => ?_)
 refine wp_seq (region_plain ?_)
 refine lq (.bool false) S (q_assign rfl) fun a S => ?_
 refine lx_nil (thenN ?_)
 refine wp_seq (wp_seq (region_plain ?_))
 refine lq (.int .i64 (0 : Int)) S (q_assign rfl) fun a S => ?_
 refine lx_nil (thenN ?_)
 obtain ⟨res48, hit49, hk52⟩ := bind_some hm
 obtain ⟨f50, hf51, hit49⟩ := iter_name hit49
 refine block_loop (fun a w => Slots a 18 [] ∧ Heap w0 [] w ∧ res48 = .inl ()) ?_ ?_
 ·rintro a w ⟨S, H, rfl⟩
  have hm := ctl_inl hk52
  refine thenN ?_
  refine wp_seq (region_plain ?_)
  refine lq (.bool false) S (q_assign rfl) fun a S => ?_
  refine lx_nil (thenN ?_)
  refine wp_ret ?_
  obtain rfl := Option.some.inj hm
  exact leave1 S rfl rfl ⟨rfl, H⟩
 ·skip
  refine loop_ghost (fun n a w => ∃ (x39 : Int), Slots a 18 [(0, p0), (1, (.int .i64 a1)), (5, (.int .i64 x39))] ∧ Heap w0 [] w ∧ iter f50 n (x39) = some res48) _ ⟨(0 : Int), S.sub ⟨rfl, rfl, rfl, trivial⟩, H, hit49⟩ ?_
  rintro n a w ⟨x39, S, H, hit49⟩
  obtain ⟨m53, o54, rfl, hm, hc55⟩ := iter_step hit49
  rw [hf51] at hm
  refine wp_seq (wp_seq (region_plain ?_))
  refine lq (.int .i64 x39) S (q_move rfl) fun a S => ?_
  refine lq p0 S (q_move rfl) fun a S => ?_
  refine lq (.int .i64 (a0.length : Int)) S (q_lenSl rfl (h0).isSl rfl Tryz.underlying28) fun a S => ?_
  refine lq (.bool (decide (x39 < (a0.length : Int)))) S (q_lss rfl rfl) fun a S => ?_
  refine lx_nil (thenN ?_)
  refine cond_b S rfl (fun hc56 => ?_) (fun hc56 => ?_)
  ·have hm := ite_t hc56 hm
   refine wp_skip (thenN ?_)
   refine wp_seq ?_
   refine wp_block ?_
   refine wp_seq (region_plain ?_)
   refine lq p0 S (q_move rfl) fun a S => ?_
   refine lq (.int .i64 x39) S (q_move rfl) fun a S => ?_
   obtain ⟨x57, e58, hm⟩ := bind_some hm
   obtain ⟨c59, h60, hat61⟩ := (h0).elem (idx_some e58).2
   obtain rfl := h60
   have hlt := lt_of_idx (idx_some e58).2
   refine lq (ePtr p0 (x39.toNat * 1)) S (q_indexAddr rfl (h0).isSl rfl (idx_some e58).1 hlt Tryz.underlying28 Tryz.sizeOf2) fun a S => ?_
   refine lx_e (.int .i64 x57) S trivial (by decide) rfl trivial (q_load1 rfl Tryz.isAgg2 (by rintro _ rfl; exact ((hat61 0 _ rfl).ext H.ext))) (fun a S => ?_)
   refine lq (.int .i64 a1) S (q_move rfl) fun a S => ?_
   refine lq (.bool (x57 == a1)) S (q_eql rfl rfl) fun a S => ?_
   refine lx_nil (thenN ?_)
   refine cond_b S rfl (fun hc62 => ?_) (fun hc62 => ?_)
   ·have hm := ite_t hc62 hm
    refine wp_seq (region_plain ?_)
    refine lq (.bool true) S (q_assign rfl) fun a S => ?_
    refine lx_nil (thenN ?_)
    refine wp_ret (inBlock_ret ?_)
    refine then_ret ?_
    refine then_ret ?_
    refine inBlock_ret ?_
    refine then_ret ?_
    refine then_ret ?_
    obtain rfl := it_brk hm hc55
    have hm := ctl_inr hk52
    obtain rfl := Option.some.inj hm
    exact leave1 S rfl rfl ⟨rfl, H⟩
   ·have hm := ite_f hc62 hm
    refine wp_skip ?_
    refine inBlock_norm ?_
    refine thenN ?_
    refine region_plain ?_
    refine lq (.int .i64 x39) S (q_move rfl) fun a S => ?_
    refine lq (.int .i64 (W (x39 + (1 : Int)))) S (q_add rfl rfl) fun a S => ?_
    refine lq (.int .i64 (W (x39 + (1 : Int)))) S (q_assign rfl) fun a S => ?_
    refine lx_nil ?_
    exact ⟨m53, Nat.lt_succ_self _, (W (x39 + (1 : Int))), S.sub ⟨rfl, rfl, rfl, trivial⟩, H, it_cont hm hc55⟩
  ·have hm := ite_f hc56 hm
   refine wp_exit ?_
   refine then_exit ?_
   refine then_exit ?_
   refine inBlock_exit ?_
   obtain rfl := it_brk hm hc55
   exact ⟨S.sub trivial, H, rfl⟩

/-- slices.IndexFunc[[]string,string] -/
def slices_IndexFunc__string_string_m (fuel : Nat) (a0 : (List Str)) (a1 : (Str → Option Bool)) : Option (Int) :=
  (iter (fun (s : (Int)) => (match s with | (x46) => (if (decide (x46 < (a0.length : Int))) = true then (idx a0 x46).bind fun x71 => (a1 x71).bind fun x80 => (if x80 = true then some (.inr (.inr x46)) else some (.inl ((W (x46 + (1 : Int)))))) else some (.inr (.inl ()))) : Option (((Int)) ⊕ ((Unit) ⊕ (Int))))) fuel ((0 : Int))).bind fun res62 => ctl (β := Unit) (ρ := Int) (τ := Int) res62 (fun _ => some ((-1 : Int))) (fun q => some (q))
set_option maxRecDepth 20000 in
theorem slices_IndexFunc__string_string_ok {w0 : World} {fuel : Nat} {p0 : Value} {a0 : (List Str)} {a1 : (Str → Option Bool)} {f1 : Nat} {fs1 cp1 : List Value} {r : Int} (h0 : Rd (rList rStr) w0 p0 a0) (hcf1 : ∀ args w, (callFunc f1 args).run Tryz.prog w = .ok (.enter f1 args) w) (hf1 : ∀ {w : World} {x0_ : Str} {y : Bool}, Ext w0 w → a1 x0_ = some y → Calls Tryz.prog f1 (fs1 ++ ([sv x0_] : List Value) ++ cp1).toArray w fun e w' => e = .returned (.bool y) ∧ Heap w [] w') (hm : slices_IndexFunc__string_string_m fuel a0 a1 = some r) :
  Calls Tryz.prog 80 #[p0, .func (.func f1) fs1.toArray cp1.toArray] w0 fun e w => e = .returned (.int .i64 r) ∧ Heap w0 [] w := by
 unfold slices_IndexFunc__string_string_m at hm
 have H := Heap.start w0
 refine enter (args := [p0, .func (.func f1) fs1.toArray cp1.toArray]) Tryz.func80 rfl 19 rfl (Nat.le_of_ble_eq_true rfl) (fun a S => ?_)
 refine wp_seq (region_plain ?_)
 refine lq (.int .i64 (0 : Int)) S (q_assign rfl) fun a S => ?_
 refine lx_nil (thenN ?_)
 refine wp_seq (wp_seq (region_plain ?_))
 refine lq p0 S (q_move rfl) fun a S => ?_
 refine lq (.int .i64 (a0.length : Int)) S (q_lenSl rfl (h0).isSl rfl Tryz.underlying22) fun a S => ?_
 refine lq (.int .i64 (0 : Int)) S (q_move rfl) fun a S => ?_
 refine lx_nil (thenN ?_)
 obtain ⟨res62, hit63, hk66⟩ := bind_some hm
 obtain ⟨f64, hf65, hit63⟩ := iter_name hit63
 refine block_loop (fun a w => Slots a 19 [] ∧ Heap w0 [] w ∧ res62 = .inl ()) ?_ ?_
 ·rintro a w ⟨S, H, rfl⟩
  have hm := ctl_inl hk66
  refine thenN ?_
  refine wp_seq (region_plain ?_)
  refine lq (.int .i64 (-1 : Int)) S (q_assign rfl) fun a S => ?_
  refine lx_nil (thenN ?_)
  refine wp_ret ?_
  obtain rfl := Option.some.inj hm
  exact leave1 S rfl rfl ⟨rfl, H⟩
 ·skip
  refine loop_ghost (fun n a w => ∃ (x46 : Int), Slots a 19 [(0, p0), (1, (.func (.func f1) fs1.toArray cp1.toArray)), (7, (.int .i64 (a0.length : Int))), (8, (.int .i64 x46))] ∧ Heap w0 [] w ∧ iter f64 n (x46) = some res62) _ ⟨(0 : Int), S.sub ⟨rfl, rfl, rfl, rfl, trivial⟩, H, hit63⟩ ?_
  rintro n a w ⟨x46, S, H, hit63⟩
  obtain ⟨m67, o68, rfl, hm, hc69⟩ := iter_step hit63
  rw [hf65] at hm
  refine wp_seq (region_plain ?_)
  refine lq (.bool (decide (x46 < (a0.length : Int)))) S (q_lss rfl rfl) fun a S => ?_
  refine lx_nil (thenN ?_)
  refine wp_seq ?_
  refine cond_b S rfl (fun hc70 => ?_) (fun hc70 => ?_)
  ·have hm := ite_t hc70 hm
   refine wp_skip (thenN ?_)
   refine wp_seq ?_
   refine wp_block ?_
   refine wp_seq (region_plain ?_)
   refine lq (.int .i64 x46) S (q_move rfl) fun a S => ?_
   refine lq (.int .i64 x46) S (q_assign rfl) fun a S => ?_
   refine lx_nil (thenN ?_)
   refine wp_seq (region_plain ?_)
   refine lq (.func (.func f1) fs1.toArray cp1.toArray) S (q_move rfl) fun a S => ?_
   refine lq p0 S (q_move rfl) fun a S => ?_
   refine lq (.int .i64 x46) S (q_move rfl) fun a S => ?_
   obtain ⟨x71, e72, hm⟩ := bind_some hm
   obtain ⟨c73, h74, hat75⟩ := (h0).elem (idx_some e72).2
   obtain rfl := h74
   have hlt := lt_of_idx (idx_some e72).2
   refine lq (ePtr p0 (x46.toNat * 1)) S (q_indexAddr rfl (h0).isSl rfl (idx_some e72).1 hlt Tryz.underlying22 Tryz.sizeOf9) fun a S => ?_
   refine lx_e (sv x71) S trivial (by decide) rfl trivial (q_load1 rfl Tryz.isAgg9 (by rintro _ rfl; exact ((hat75 0 _ rfl).ext H.ext))) (fun a S => ?_)
   obtain ⟨x80, e81, hm⟩ := bind_some hm
   refine lx_callV (f := f1) (first := fs1) (cap := cp1) (xs := [.tmp 15]) S trivial (by decide) rfl rfl rfl hcf1 ((hf1 H.ext  e81).mono ?_)
   rintro e w78 ⟨rfl, Hc79⟩
   have H := H.call0 Hc79
   refine ⟨_, rfl, trivial, fun a S => ?_⟩
   refine lx_nil (thenN ?_)
   refine cond_b S rfl (fun hc83 => ?_) (fun hc83 => ?_)
   ·have hm := ite_t hc83 hm
    refine wp_seq (region_plain ?_)
    refine lq (.int .i64 x46) S (q_move rfl) fun a S => ?_
    refine lq (.int .i64 x46) S (q_assign rfl) fun a S => ?_
    refine lx_nil (thenN ?_)
    refine wp_ret (inBlock_ret ?_)
    refine then_ret ?_
    refine then_ret ?_
    refine inBlock_ret ?_
    refine then_ret ?_
    refine then_ret ?_
    obtain rfl := it_brk hm hc69
    have hm := ctl_inr hk66
    obtain rfl := Option.some.inj hm
    exact leave1 S rfl rfl ⟨rfl, H⟩
   ·have hm := ite_f hc83 hm
    refine wp_skip ?_
    refine inBlock_norm ?_
    refine thenN ?_
    refine region_plain ?_
    refine lq (.int .i64 (W (x46 + (1 : Int)))) S (q_add rfl rfl) fun a S => ?_
    refine lq (.int .i64 (W (x46 + (1 : Int)))) S (q_move rfl) fun a S => ?_
    refine lx_nil ?_
    exact ⟨m67, Nat.lt_succ_self _, (W (x46 + (1 : Int))), S.sub ⟨rfl, rfl, rfl, rfl, trivial⟩, H, it_cont hm hc69⟩
  ·have hm := ite_f hc70 hm
   refine wp_exit ?_
   refine then_exit ?_
   refine then_exit ?_
   refine inBlock_exit ?_
   obtain rfl := it_brk hm hc69
   exact ⟨S.sub trivial, H, rfl⟩

/-- slices.ContainsFunc[[]string,string] -/
def slices_ContainsFunc__string_string_m (fuel : Nat) (a0 : (List Str)) (a1 : (Str → Option Bool)) : Option (Bool) :=
  (slices_IndexFunc__string_string_m fuel a0 a1).bind fun x33 => some ((decide ((0 : Int) ≤ x33)))
set_option maxRecDepth 20000 in
theorem slices_ContainsFunc__string_string_ok {w0 : World} {fuel : Nat} {p0 : Value} {a0 : (List Str)} {a1 : (Str → Option Bool)} {f1 : Nat} {fs1 cp1 : List Value} {r : Bool} (h0 : Rd (rList rStr) w0 p0 a0) (hcf1 : ∀ args w, (callFunc f1 args).run Tryz.prog w = .ok (.enter f1 args) w) (hf1 : ∀ {w : World} {x0_ : Str} {y : Bool}, Ext w0 w → a1 x0_ = some y → Calls Tryz.prog f1 (fs1 ++ ([sv x0_] : List Value) ++ cp1).toArray w fun e w' => e = .returned (.bool y) ∧ Heap w [] w') (hm : slices_ContainsFunc__string_string_m fuel a0 a1 = some r) :
  Calls Tryz.prog 61 #[p0, .func (.func f1) fs1.toArray cp1.toArray] w0 fun e w => e = .returned (.bool r) ∧ Heap w0 [] w := by
 unfold slices_ContainsFunc__string_string_m at hm
 have H := Heap.start w0
 refine enter (args := [p0, .func (.func f1) fs1.toArray cp1.toArray]) Tryz.func61 rfl 9 rfl (Nat.le_of_ble_eq_true rfl) (fun a S => ?_)
 refine wp_seq (region_plain ?_)
 refine lq (.bool false) S (q_assign rfl) fun a S => ?_
 refine lx_nil (thenN ?_)
 refine wp_seq (region_plain ?_)
 refine lq p0 S (q_move rfl) fun a S => ?_
 refine lq (.func (.func f1) fs1.toArray cp1.toArray) S (q_move rfl) fun a S => ?_
 obtain ⟨x33, e34, hm⟩ := bind_some hm
 refine lx_call (xs := [.tmp 5, .tmp 6]) S trivial (by decide) rfl rfl Tryz.call80 ((slices_IndexFunc__string_string_ok (f1 := f1) (fs1 := fs1) (cp1 := cp1) (a1 := a1) (H.arg h0) hcf1 (fun he  hm => hf1 (H.ext.trans he)  hm) e34).mono ?_)
 rintro e w31 ⟨rfl, Hc32⟩
 have H := H.call0 Hc32
 refine ⟨_, rfl, trivial, fun a S => ?_⟩
 refine lq (.bool (decide ((0 : Int) ≤ x33))) S (q_geq rfl rfl) fun a S => ?_
 refine lq (.bool (decide ((0 : Int) ≤ x33))) S (q_assign rfl) fun a S => ?_
 refine lx_nil (thenN ?_)
 refine wp_ret ?_
 obtain rfl := Option.some.inj hm
 exact leave1 S rfl rfl ⟨rfl, H⟩

/-- impl.areLabels$1 -/
def impl_areLabels_1_m (fuel : Nat) (a0 : Str) : Option (Bool) :=
  (impl_IsLabel_m fuel a0).bind fun x33 => some ((!x33))
set_option maxRecDepth 20000 in
theorem impl_areLabels_1_ok {w0 : World} {fuel : Nat} {a0 : Str} {r : Bool} (hG : Glob Tryz.prog w0) (hm : impl_areLabels_1_m fuel a0 = some r) :
  Calls Tryz.prog 62 #[sv a0] w0 fun e w => e = .returned (.bool r) ∧ Heap w0 [] w := by
 unfold impl_areLabels_1_m at hm
 have H := Heap.start w0
 refine enter (args := [sv a0]) Tryz.func62 rfl 6 rfl (Nat.le_of_ble_eq_true rfl) (fun a S => ?_)
 refine wp_seq (region_plain ?_)
 refine lq (.bool false) S (q_assign rfl) fun a S => ?_
 refine lx_nil (thenN ?_)
 refine wp_seq (region_plain ?_)
 refine lq (sv a0) S (q_move rfl) fun a S => ?_
 obtain ⟨x33, e34, hm⟩ := bind_some hm
 refine lx_call (xs := [.tmp 3]) S trivial (by decide) rfl rfl Tryz.call54 ((impl_IsLabel_ok (hG.ext H.ext)  e34).mono ?_)
 rintro e w31 ⟨rfl, Hc32⟩
 have H := H.call0 Hc32
 refine ⟨_, rfl, trivial, fun a S => ?_⟩
 refine lq (.bool (!x33)) S (q_not rfl) fun a S => ?_
 refine lq (.bool (!x33)) S (q_assign rfl) fun a S => ?_
 refine lx_nil (thenN ?_)
 refine wp_ret ?_
 obtain rfl := Option.some.inj hm
 exact leave1 S rfl rfl ⟨rfl, H⟩

/-- impl.areLabels -/
def impl_areLabels_m (fuel : Nat) (a0 : (List Str)) : Option (Bool) :=
  (slices_ContainsFunc__string_string_m fuel a0 (fun (z0 : Str) => impl_areLabels_1_m fuel z0)).bind fun x33 => some ((!x33))
set_option maxRecDepth 20000 in
theorem impl_areLabels_ok {w0 : World} {fuel : Nat} {p0 : Value} {a0 : (List Str)} {r : Bool} (hG : Glob Tryz.prog w0) (h0 : Rd (rList rStr) w0 p0 a0) (hm : impl_areLabels_m fuel a0 = some r) :
  Calls Tryz.prog 38 #[p0] w0 fun e w => e = .returned (.bool r) ∧ Heap w0 [] w := by
 unfold impl_areLabels_m at hm
 have H := Heap.start w0
 refine enter (args := [p0]) Tryz.func38 rfl 6 rfl (Nat.le_of_ble_eq_true rfl) (fun a S => ?_)
 refine wp_seq (region_plain ?_)
 refine lq (.bool false) S (q_assign rfl) fun a S => ?_
 refine lx_nil (thenN ?_)
 refine wp_seq (region_plain ?_)
 refine lq p0 S (q_move rfl) fun a S => ?_
 obtain ⟨x33, e34, hm⟩ := bind_some hm
 refine lx_call (xs := [.tmp 3, .func 62]) S trivial (by decide) rfl rfl Tryz.call61 ((slices_ContainsFunc__string_string_ok (f1 := 62) (fs1 := ([] : List Value)) (cp1 := ([] : List Value)) (a1 := (fun (z0 : Str) => impl_areLabels_1_m fuel z0)) (H.arg h0) Tryz.call62 (fun he  hm => impl_areLabels_1_ok (hG.ext (H.ext.trans he))   hm) e34).mono ?_)
 rintro e w31 ⟨rfl, Hc32⟩
 have H := H.call0 Hc32
 refine ⟨_, rfl, trivial, fun a S => ?_⟩
 refine lq (.bool (!x33)) S (q_not rfl) fun a S => ?_
 refine lq (.bool (!x33)) S (q_assign rfl) fun a S => ?_
 refine lx_nil (thenN ?_)
 refine wp_ret ?_
 obtain rfl := Option.some.inj hm
 exact leave1 S rfl rfl ⟨rfl, H⟩

/-- slices.Index[[]int64,int64] -/
def slices_Index__int64_int64_m (fuel : Nat) (a0 : (List Int)) (a1 : Int) : Option (Int) :=
  (iter (fun (s : (Int)) => (match s with | (x39) => (if (decide (x39 < (a0.length : Int))) = true then (idx a0 x39).bind fun x57 => (if (a1 == x57) = true then some (.inr (.inr x39)) else some (.inl ((W (x39 + (1 : Int)))))) else some (.inr (.inl ()))) : Option (((Int)) ⊕ ((Unit) ⊕ (Int))))) fuel ((0 : Int))).bind fun res48 => ctl (β := Unit) (ρ := Int) (τ := Int) res48 (fun _ => some ((-1 : Int))) (fun q => some (q))
set_option maxRecDepth 20000 in
theorem slices_Index__int64_int64_ok {w0 : World} {fuel : Nat} {p0 : Value} {a0 : (List Int)} {a1 : Int} {r : Int} (h0 : Rd (rList (rInt .i64)) w0 p0 a0) (hm : slices_Index__int64_int64_m fuel a0 a1 = some r) :
  Calls Tryz.prog 81 #[p0, .int .i64 a1] w0 fun e w => e = .returned (.int .i64 r) ∧ Heap w0 [] w := by
 unfold slices_Index__int64_int64_m at hm
 have H := Heap.start w0
 refine enter (args := [p0, .int .i64 a1]) Tryz.func81 rfl 19 rfl (Nat.le_of_ble_eq_true rfl) (fun a S => ?_)
 refine wp_seq (region_plain ?_)
 refine lq (.int .i64 (0 : Int)) S (q_assign rfl) fun a S => ?_
 refine lx_nil (thenN ?_)
 refine wp_seq (wp_seq (region_plain ?_))
 refine lq p0 S (q_move rfl) fun a S => ?_
 refine lq (.int .i64 (a0.length : Int)) S (q_lenSl rfl (h0).isSl rfl Tryz.underlying28) fun a S => ?_
 refine lq (.int .i64 (0 : Int)) S (q_move rfl) fun a S => ?_
 refine lx_nil (thenN ?_)
 obtain ⟨res48, hit49, hk52⟩ := bind_some hm
 obtain ⟨f50, hf51, hit49⟩ := iter_name hit49
 refine block_loop (fun a w => Slots a 19 [] ∧ Heap w0 [] w ∧ res48 = .inl ()) ?_ ?_
 ·rintro a w ⟨S, H, rfl⟩
  have hm := ctl_inl hk52
  refine thenN ?_
  refine wp_seq (region_plain ?_)
  refine lq (.int .i64 (-1 : Int)) S (q_assign rfl) fun a S => ?_
  refine lx_nil (thenN ?_)
  refine wp_ret ?_
  obtain rfl := Option.some.inj hm
  exact leave1 S rfl rfl ⟨rfl, H⟩
 ·skip
  refine loop_ghost (fun n a w => ∃ (x39 : Int), Slots a 19 [(0, p0), (1, (.int .i64 a1)), (7, (.int .i64 (a0.length : Int))), (8, (.int .i64 x39))] ∧ Heap w0 [] w ∧ iter f50 n (x39) = some res48) _ ⟨(0 : Int), S.sub ⟨rfl, rfl, rfl, rfl, trivial⟩, H, hit49⟩ ?_
  rintro n a w ⟨x39, S, H, hit49⟩
  obtain ⟨m53, o54, rfl, hm, hc55⟩ := iter_step hit49
  rw [hf51] at hm
  refine wp_seq (region_plain ?_)
  refine lq (.bool (decide (x39 < (a0.length : Int)))) S (q_lss rfl rfl) fun a S => ?_
  refine lx_nil (thenN ?_)
  refine wp_seq ?_
  refine cond_b S rfl (fun hc56 => ?_) (fun hc56 => ?_)
  ·have hm := ite_t hc56 hm
   refine wp_skip (thenN ?_)
   refine wp_seq ?_
   refine wp_block ?_
   refine wp_seq (region_plain ?_)
   refine lq (.int .i64 x39) S (q_move rfl) fun a S => ?_
   refine lq (.int .i64 x39) S (q_assign rfl) fun a S => ?_
   refine lx_nil (thenN ?_)
   refine wp_seq (region_plain ?_)
   refine lq (.int .i64 a1) S (q_move rfl) fun a S => ?_
   refine lq p0 S (q_move rfl) fun a S => ?_
   refine lq (.int .i64 x39) S (q_move rfl) fun a S => ?_
   obtain ⟨x57, e58, hm⟩ := bind_some hm
   obtain ⟨c59, h60, hat61⟩ := (h0).elem (idx_some e58).2
   obtain rfl := h60
   have hlt := lt_of_idx (idx_some e58).2
   refine lq (ePtr p0 (x39.toNat * 1)) S (q_indexAddr rfl (h0).isSl rfl (idx_some e58).1 hlt Tryz.underlying28 Tryz.sizeOf2) fun a S => ?_
   refine lx_e (.int .i64 x57) S trivial (by decide) rfl trivial (q_load1 rfl Tryz.isAgg2 (by rintro _ rfl; exact ((hat61 0 _ rfl).ext H.ext))) (fun a S => ?_)
   refine lq (.bool (a1 == x57)) S (q_eql rfl rfl) fun a S => ?_
   refine lx_nil (thenN ?_)
   refine cond_b S rfl (fun hc62 => ?_) (fun hc62 => ?_)
   ·have hm := ite_t hc62 hm
    refine wp_seq (region_plain ?_)
    refine lq (.int .i64 x39) S (q_move rfl) fun a S => ?_
    refine lq (.int .i64 x39) S (q_assign rfl) fun a S => ?_
    refine lx_nil (thenN ?_)
    refine wp_ret (inBlock_ret ?_)
    refine then_ret ?_
    refine then_ret ?_
    refine inBlock_ret ?_
    refine then_ret ?_
    refine then_ret ?_
    obtain rfl := it_brk hm hc55
    have hm := ctl_inr hk52
    obtain rfl := Option.some.inj hm
    exact leave1 S rfl rfl ⟨rfl, H⟩
   ·have hm := ite_f hc62 hm
    refine wp_skip ?_
    refine inBlock_norm ?_
    refine thenN ?_
    refine region_plain ?_
    refine lq (.int .i64 (W (x39 + (1 : Int)))) S (q_add rfl rfl) fun a S => ?_
    refine lq (.int .i64 (W (x39 + (1 : Int)))) S (q_move rfl) fun a S => ?_
    refine lx_nil ?_
    exact ⟨m53, Nat.lt_succ_self _, (W (x39 + (1 : Int))), S.sub ⟨rfl, rfl, rfl, rfl, trivial⟩, H, it_cont hm hc55⟩
  ·have hm := ite_f hc56 hm
   refine wp_exit ?_
   refine then_exit ?_
   refine then_exit ?_
   refine inBlock_exit ?_
   obtain rfl := it_brk hm hc55
   exact ⟨S.sub trivial, H, rfl⟩

/-- slices.Contains[[]int64,int64] -/
def slices_Contains__int64_int64_m (fuel : Nat) (a0 : (List Int)) (a1 : Int) : Option (Bool) :=
  (slices_Index__int64_int64_m fuel a0 a1).bind fun x33 => some ((decide ((0 : Int) ≤ x33)))
set_option maxRecDepth 20000 in
theorem slices_Contains__int64_int64_ok {w0 : World} {fuel : Nat} {p0 : Value} {a0 : (List Int)} {a1 : Int} {r : Bool} (h0 : Rd (rList (rInt .i64)) w0 p0 a0) (hm : slices_Contains__int64_int64_m fuel a0 a1 = some r) :
  Calls Tryz.prog 63 #[p0, .int .i64 a1] w0 fun e w => e = .returned (.bool r) ∧ Heap w0 [] w := by
 unfold slices_Contains__int64_int64_m at hm
 have H := Heap.start w0
 refine enter (args := [p0, .int .i64 a1]) Tryz.func63 rfl 9 rfl (Nat.le_of_ble_eq_true rfl) (fun a S => ?_)
 refine wp_seq (region_plain ?_)
 refine lq (.bool false) S (q_assign rfl) fun a S => ?_
 refine lx_nil (thenN ?_)
 refine wp_seq (region_plain ?_)
 refine lq p0 S (q_move rfl) fun a S => ?_
 refine lq (.int .i64 a1) S (q_move rfl) fun a S => ?_
 obtain ⟨x33, e34, hm⟩ := bind_some hm
 refine lx_call (xs := [.tmp 5, .tmp 6]) S trivial (by decide) rfl rfl Tryz.call81 ((slices_Index__int64_int64_ok (H.arg h0)  e34).mono ?_)
 rintro e w31 ⟨rfl, Hc32⟩
 have H := H.call0 Hc32
 refine ⟨_, rfl, trivial, fun a S => ?_⟩
 refine lq (.bool (decide ((0 : Int) ≤ x33))) S (q_geq rfl rfl) fun a S => ?_
 refine lq (.bool (decide ((0 : Int) ≤ x33))) S (q_assign rfl) fun a S => ?_
 refine lx_nil (thenN ?_)
 refine wp_ret ?_
 obtain rfl := Option.some.inj hm
 exact leave1 S rfl rfl ⟨rfl, H⟩

/-- (impl.Lts).follow -/
def impl_Lts_follow_m (fuel : Nat) (a0 : Timpl_Lts) (a1 : (List Int)) (a2 : Str) : Option ((List Int)) :=
  (iter (fun (s : (List Int) × (Int)) => (match s with | (xs104, x106) => (if (decide (x106 < (a0.2.2.2.length : Int))) = true then join (κ := List Int → Option (((List Int) × (Int)) ⊕ (((List Int)) ⊕ ((List Int))))) (fun (xs180 : List Int) => some (.inl (xs180, (W (x106 + (1 : Int)))))) (fun K182 => (idx a0.2.2.2 x106).bind fun x184 => (idx a0.2.2.1 x184.2.1).bind fun x201 => (if (x201 == a2) = true then (slices_Contains__int64_int64_m fuel a1 x184.1).bind fun x211 => some x211 else some false).bind fun t206 => (if t206 = true then (app xs104 [x184.2.2]).bind fun x218 => (K182 x218) else (K182 xs104))) else some (.inr (.inl (xs104)))) : Option (((List Int) × (Int)) ⊕ (((List Int)) ⊕ ((List Int)))))) fuel ([], (0 : Int))).bind fun res159 => ctl (β := (List Int)) (ρ := (List Int)) (τ := (List Int)) res159 (fun (xs157) => (slices_Sort__int64_int64_m fuel xs157).bind fun x166 => (slices_Compact__int64_int64_m fuel x166).bind fun x170 => some (x170)) (fun q => some (q))
set_option maxRecDepth 20000 in
theorem impl_Lts_follow_ok {w0 : World} {fuel : Nat} {p0 p1 : Value} {a0 : Timpl_Lts} {a1 : (List Int)} {a2 : Str} {r : (List Int)} (h0 : Rd Rimpl_Lts w0 p0 a0) (h1 : Rd (rList (rInt .i64)) w0 p1 a1) (hm : impl_Lts_follow_m fuel a0 a1 a2 = some r) :
  Calls Tryz.prog 39 #[p0, p1, sv a2] w0 fun e w => ∃ (v0 : Value), e = .returned (v0) ∧ Heap w0 [oA (rList (rInt .i64)) v0 r] w := by
 unfold impl_Lts_follow_m at hm
 have H := Heap.start w0
 obtain ⟨c31, rfl, h32⟩ := h0
 obtain ⟨c37, c38, rfl, h39, h40⟩ := h32
 obtain rfl := h39
 obtain ⟨c41, c42, rfl, h43, h44⟩ := h40
 obtain rfl := h43
 obtain ⟨c45, c46, rfl, h47, h48⟩ := h44
 obtain ⟨v33, rfl, h34⟩ := rd_list h47
 obtain ⟨v35, rfl, h36⟩ := rd_list h48
 refine enter (args := [(.agg #[(.int .i64 a0.1), (.int .i64 a0.2.1), v33, v35]), p1, sv a2]) Tryz.func39 rfl 41 rfl (Nat.le_of_ble_eq_true rfl) (fun a S => ?_)
 refine wp_seq (region_plain ?_)
 refine lx_box S trivial (by decide) rfl H rfl rfl (fun b49 w50 H => ⟨trivial, fun a S => ?_⟩)
 refine lq (.slice none 0 0) S (q_assign rfl) fun a S => ?_
 refine lx_nil (thenN ?_)
 refine wp_seq (region_plain ?_)
 refine lq (.slice none 0 0) S (q_assign rfl) fun a S => ?_
 refine lx_nil (thenN ?_)
 refine wp_seq (wp_seq (region_plain ?_))
 refine lq (pAdd (bp b49) 3) S (q_fieldAddr' 3 31 rfl (isP_bp _) Tryz.underlying33 rfl Tryz.sizeOf31) fun a S => ?_
 refine lx_e v35 S trivial (by decide) rfl trivial (q_load1 rfl Tryz.isAgg31 (by rintro _ rfl; exact (At.of_add (m := 3) (j := 0) (boxAt (i := 0) H rfl (j := 3) rfl)))) (fun a S => ?_)
 refine lq (.int .i64 (a0.2.2.2.length : Int)) S (q_lenSl rfl (h36).isSl rfl Tryz.underlying31) fun a S => ?_
 refine lq (.int .i64 (0 : Int)) S (q_move rfl) fun a S => ?_
 refine lx_nil (thenN ?_)
 obtain ⟨res159, hit160, hk163⟩ := bind_some hm
 obtain ⟨f161, hf162, hit160⟩ := iter_name hit160
 refine block_loop (fun a w => ∃ (xs157 : List Int) (v156 : Value), Slots a 41 [(7, v156)] ∧ Heap w0 [oA (rList (rInt .i64)) v156 xs157] w ∧ res159 = .inl (xs157)) ?_ ?_
 ·rintro a w ⟨xs157, v156, S, H, rfl⟩
  have hm := ctl_inl hk163
  refine thenN ?_
  refine wp_seq (region_plain ?_)
  refine lq v156 S (q_move rfl) fun a S => ?_
  obtain ⟨x166, e167, hm⟩ := bind_some hm
  refine lx_call (xs := [.tmp 37]) S trivial (by decide) rfl rfl Tryz.call64 ((slices_Sort__int64_int64_ok H  e167).mono ?_)
  rintro e w164 ⟨rfl, H⟩
  refine ⟨_, rfl, trivial, fun a S => ?_⟩
  refine lx_nil (thenN ?_)
  refine wp_seq (region_plain ?_)
  refine lq v156 S (q_move rfl) fun a S => ?_
  obtain ⟨x170, e171, hm⟩ := bind_some hm
  refine lx_call (xs := [.tmp 39]) S trivial (by decide) rfl rfl Tryz.call65 ((slices_Compact__int64_int64_ok H  e171).mono ?_)
  rintro e w168 ⟨v172, rfl, H⟩
  refine ⟨_, rfl, trivial, fun a S => ?_⟩
  refine lq v172 S (q_assign rfl) fun a S => ?_
  refine lx_nil (thenN ?_)
  refine wp_ret ?_
  obtain rfl := Option.some.inj hm
  exact leave1 S rfl rfl ⟨v172, rfl, H⟩
 ·skip
  have H : Heap w0 [oA (rList (rInt .i64)) (.slice none 0 0) ([] : List Int), bA b49 [(.int .i64 a0.1), (.int .i64 a0.2.1), v33, v35] 33] w50 := H.nilList (rInt .i64)
  have H : Heap w0 [bA b49 [(.int .i64 a0.1), (.int .i64 a0.2.1), v33, v35] 33, oA (rList (rInt .i64)) (.slice none 0 0) ([] : List Int)] w50 := H.front 1 rfl
  refine loop_ghost (fun n a w => ∃ (xs104 : List Int) (x106 : Int) (v103 : Value), Slots a 41 [(1, p1), (2, (sv a2)), (3, (bp b49)), (7, v103), (11, v35), (12, (.int .i64 (a0.2.2.2.length : Int))), (13, (.int .i64 x106))] ∧ Heap w0 [bA b49 [(.int .i64 a0.1), (.int .i64 a0.2.1), v33, v35] 33, oA (rList (rInt .i64)) v103 xs104] w ∧ iter f161 n (xs104, x106) = some res159) _ ⟨[], (0 : Int), (.slice none 0 0), S.sub ⟨rfl, rfl, rfl, rfl, rfl, rfl, rfl, trivial⟩, H, hit160⟩ ?_
  rintro n a w ⟨xs104, x106, v103, S, H, hit160⟩
  obtain ⟨m175, o176, rfl, hm, hc177⟩ := iter_step hit160
  rw [hf162] at hm
  refine wp_seq (region_plain ?_)
  refine lq (.bool (decide (x106 < (a0.2.2.2.length : Int)))) S (q_lss rfl rfl) fun a S => ?_
  refine lx_nil (thenN ?_)
  refine wp_seq ?_
  refine cond_b S rfl (fun hc178 => ?_) (fun hc178 => ?_)
  ·have hm := ite_t hc178 hm
   refine wp_skip (thenN ?_)
   obtain ⟨K182, hK183, hm⟩ := join_elim hm
   refine seq_cut (fun a w => ∃ (xs180 : List Int) (v179 : Value), Slots a 41 [(1, p1), (2, (sv a2)), (3, (bp b49)), (7, v179), (11, v35), (12, (.int .i64 (a0.2.2.2.length : Int))), (13, (.int .i64 x106))] ∧ Heap w0 [bA b49 [(.int .i64 a0.1), (.int .i64 a0.2.1), v33, v35] 33, oA (rList (rInt .i64)) v179 xs180] w ∧ K182 xs180 = some o176) ?_ ?_
   ·rintro a w ⟨xs180, v179, S, H, hm⟩
    subst hK183
    refine region_plain ?_
    refine lq (.int .i64 (W (x106 + (1 : Int)))) S (q_add rfl rfl) fun a S => ?_
    refine lq (.int .i64 (W (x106 + (1 : Int)))) S (q_move rfl) fun a S => ?_
    refine lx_nil ?_
    exact ⟨m175, Nat.lt_succ_self _, xs180, (W (x106 + (1 : Int))), v179, S.sub ⟨rfl, rfl, rfl, rfl, rfl, rfl, rfl, trivial⟩, H, it_cont hm hc177⟩
   ·skip
    refine wp_block ?_
    refine wp_seq (region_plain ?_)
    obtain ⟨x184, e185, hm⟩ := bind_some hm
    obtain ⟨c186, h187, hat188⟩ := (h36).elem (idx_some e185).2
    obtain ⟨c189, c190, rfl, h191, h192⟩ := h187
    obtain rfl := h191
    obtain ⟨c193, c194, rfl, h195, h196⟩ := h192
    obtain rfl := h195
    obtain rfl := h196
    have hlt := lt_of_idx (idx_some e185).2
    refine lq (ePtr v35 (x106.toNat * 3)) S (q_indexAddr rfl (h36).isSl rfl (idx_some e185).1 hlt Tryz.underlying31 Tryz.sizeOf57) fun a S => ?_
    refine lx_e (.agg #[(.int .i64 x184.1), (.int .i64 x184.2.1), (.int .i64 x184.2.2)]) S trivial (by decide) rfl trivial (q_loadA (cs := [(.int .i64 x184.1), (.int .i64 x184.2.1), (.int .i64 x184.2.2)]) rfl ((hat188 0 _ rfl).isP) Tryz.isAgg57 Tryz.sizeOf57 (by rintro _ rfl; exact (fun j u hu => (hat188 j u hu).ext H.ext))) (fun a S => ?_)
    refine lx_alloc S trivial (by decide) rfl H Tryz.zeroValue57 rfl (fun b197 w198 H => ⟨trivial, fun a S => ?_⟩)
    refine lx_storeBox (o := 0) (i := 0) (us := [(.int .i64 x184.1), (.int .i64 x184.2.1), (.int .i64 x184.2.2)]) (cs' := [(.int .i64 x184.1), (.int .i64 x184.2.1), (.int .i64 x184.2.2)]) S trivial rfl H rfl rfl rfl rfl Tryz.sizeOf57 (Nat.le_of_ble_eq_true rfl) (List.forall_mem_cons.2 ⟨rfl, (List.forall_mem_cons.2 ⟨rfl, (List.forall_mem_cons.2 ⟨rfl, (fun _ h => nomatch h)⟩)⟩)⟩) rfl (fun w200 H => ⟨trivial, fun a S => ?_⟩)
    change Heap w0 [bA b197 [(.int .i64 x184.1), (.int .i64 x184.2.1), (.int .i64 x184.2.2)] 57, bA b49 [(.int .i64 a0.1), (.int .i64 a0.2.1), v33, v35] 33, oA (rList (rInt .i64)) v103 xs104] w200 at H
    refine lx_nil (thenN ?_)
    refine wp_seq (region_plain ?_)
    refine lq (pAdd (bp b49) 2) S (q_fieldAddr' 2 22 rfl (isP_bp _) Tryz.underlying33 rfl Tryz.sizeOf22) fun a S => ?_
    refine lx_e v33 S trivial (by decide) rfl trivial (q_load1 rfl Tryz.isAgg22 (by rintro _ rfl; exact (At.of_add (m := 2) (j := 0) (boxAt (i := 1) H rfl (j := 2) rfl)))) (fun a S => ?_)
    refine lq (pAdd (bp b197) 1) S (q_fieldAddr' 1 2 rfl (isP_bp _) Tryz.underlying57 rfl Tryz.sizeOf2) fun a S => ?_
    refine lx_e (.int .i64 x184.2.1) S trivial (by decide) rfl trivial (q_load1 rfl Tryz.isAgg2 (by rintro _ rfl; exact (At.of_add (m := 1) (j := 0) (boxAt (i := 0) H rfl (j := 1) rfl)))) (fun a S => ?_)
    obtain ⟨x201, e202, hm⟩ := bind_some hm
    obtain ⟨c203, h204, hat205⟩ := (h34).elem (idx_some e202).2
    obtain rfl := h204
    have hlt := lt_of_idx (idx_some e202).2
    refine lq (ePtr v33 (x184.2.1.toNat * 1)) S (q_indexAddr rfl (h34).isSl rfl (idx_some e202).1 hlt Tryz.underlying22 Tryz.sizeOf9) fun a S => ?_
    refine lx_e (sv x201) S trivial (by decide) rfl trivial (q_load1 rfl Tryz.isAgg9 (by rintro _ rfl; exact ((hat205 0 _ rfl).ext H.ext))) (fun a S => ?_)
    refine lq (sv a2) S (q_move rfl) fun a S => ?_
    refine lq (.bool (x201 == a2)) S (q_seql rfl rfl) fun a S => ?_
    refine lq (.bool (x201 == a2)) S (q_move rfl) fun a S => ?_
    obtain ⟨t206, e207, hm⟩ := bind_some hm
    refine lx_cut 5 (fun a w => Slots a 41 [(1, p1), (2, (sv a2)), (3, (bp b49)), (7, v103), (9, (bp b197)), (11, v35), (12, (.int .i64 (a0.2.2.2.length : Int))), (13, (.int .i64 x106)), (30, (.bool t206))] ∧ Heap w0 [bA b197 [(.int .i64 x184.1), (.int .i64 x184.2.1), (.int .i64 x184.2.2)] 57, bA b49 [(.int .i64 a0.1), (.int .i64 a0.2.1), v33, v35] 33, oA (rList (rInt .i64)) v103 xs104] w) ?_ ?_
    ·by_cases hc208 : (x201 == a2) = true
     ·have hm := ite_t hc208 e207
      refine lx_q p1 S (want_b rfl rfl hc208) (by decide) (q_move rfl) (fun a S => ?_)
      refine lx_q (pAdd (bp b197) 0) S (want_b rfl rfl hc208) (by decide) (q_fieldAddr' 0 2 rfl (isP_bp _) Tryz.underlying57 rfl Tryz.sizeOf2) (fun a S => ?_)
      refine lx_e (.int .i64 x184.1) S (want_b rfl rfl hc208) (by decide) rfl trivial (q_load1 rfl Tryz.isAgg2 (by rintro _ rfl; exact (At.of_add (m := 0) (j := 0) (boxAt (i := 0) H rfl (j := 0) rfl)))) (fun a S => ?_)
      obtain ⟨x211, e212, hm⟩ := bind_some hm
      refine lx_call (xs := [.tmp 26, .tmp 28]) S (want_b rfl rfl hc208) (by decide) rfl rfl Tryz.call63 ((slices_Contains__int64_int64_ok (H.arg h1)  e212).mono ?_)
      rintro e w209 ⟨rfl, Hc210⟩
      have H := H.call0 Hc210
      refine ⟨_, rfl, trivial, fun a S => ?_⟩
      refine lq (.bool x211) S (q_pickT' rfl hc208 rfl) fun a S => ?_
      refine lx_nil ?_
      obtain rfl := Option.some.inj hm
      exact ⟨S.sub ⟨rfl, rfl, rfl, rfl, rfl, rfl, rfl, rfl, rfl, trivial⟩, H⟩
     ·have hm := ite_f (eq_false_of_ne_true hc208) e207
      have hc208 : (x201 == a2) = false := eq_false_of_ne_true hc208
      refine lx_skip S rfl rfl (isB_ne hc208) (by decide) (fun a S => ?_)
      refine lx_skip S rfl rfl (isB_ne hc208) (by decide) (fun a S => ?_)
      refine lx_skip S rfl rfl (isB_ne hc208) (by decide) (fun a S => ?_)
      refine lx_skip S rfl rfl (isB_ne hc208) (by decide) (fun a S => ?_)
      refine lq (.bool false) S (q_pickF' rfl hc208 rfl) fun a S => ?_
      refine lx_nil ?_
      obtain rfl := Option.some.inj hm
      exact ⟨S.sub ⟨rfl, rfl, rfl, rfl, rfl, rfl, rfl, rfl, rfl, trivial⟩, H⟩
    ·rintro a w ⟨S, H⟩
     refine lx_nil (thenN ?_)
     refine cond_b S rfl (fun hc214 => ?_) (fun hc214 => ?_)
     ·have hm := ite_t hc214 hm
      refine region_plain ?_
      refine lq v103 S (q_move rfl) fun a S => ?_
      refine lq (pAdd (bp b197) 2) S (q_fieldAddr' 2 2 rfl (isP_bp _) Tryz.underlying57 rfl Tryz.sizeOf2) fun a S => ?_
      refine lx_e (.int .i64 x184.2.2) S trivial (by decide) rfl trivial (q_load1 rfl Tryz.isAgg2 (by rintro _ rfl; exact (At.of_add (m := 2) (j := 0) (boxAt (i := 0) H rfl (j := 2) rfl)))) (fun a S => ?_)
      refine lx_buildSlice (r := (rInt .i64)) (xs := [x184.2.2]) (ps := [(0, [(.int .i64 x184.2.2)])]) (cs := [(.int .i64 x184.2.2)]) (parts := [(0, .tmp 33)]) S trivial (by decide) rfl (H.put0 (A := eA) rfl) rfl Tryz.underlying28 Tryz.sizeOf2 Tryz.zeroValue2 (by decide) ⟨rfl, rfl, Nat.le_of_ble_eq_true rfl, trivial⟩ (by intro zs hz; exact fill_dense hz ⟨rfl, trivial⟩ rfl rfl) rfl (by decide) (fun w F hA => by cases (show F = [] from hA); exact ⟨_, _, [(.int .i64 x184.2.2)], _, rfl, rfl, ⟨rfl, rfl⟩, ⟨rfl, rfl⟩⟩) (fun v215 w216 H => ⟨trivial, fun a S => ?_⟩)
      obtain ⟨x218, e219, hm⟩ := bind_some hm
      obtain ⟨hle, hap⟩ := app_some e219
      replace hap := hap.symm
      subst hap
      have H : Heap w0 [oA (rList (rInt .i64)) v215 [x184.2.2], bA b197 [(.int .i64 x184.1), (.int .i64 x184.2.1), (.int .i64 x184.2.2)] 57, bA b49 [(.int .i64 a0.1), (.int .i64 a0.2.1), v33, v35] 33, oA (rList (rInt .i64)) v103 xs104] w216 := H.front 0 rfl
      have H : Heap w0 [oA (rList (rInt .i64)) v103 xs104, oA (rList (rInt .i64)) v215 [x184.2.2], bA b197 [(.int .i64 x184.1), (.int .i64 x184.2.1), (.int .i64 x184.2.2)] 57, bA b49 [(.int .i64 a0.1), (.int .i64 a0.2.1), v33, v35] 33] w216 := H.front 3 rfl
      refine lx_appendOwn (r := (rInt .i64)) S trivial (by decide) rfl H rfl rfl Tryz.underlying28 Tryz.ti2 rfl rfl rfl (by decide) (by decide) hle (fun v220 w221 H => ⟨trivial, fun a S => ?_⟩)
      refine lq v220 S (q_assign rfl) fun a S => ?_
      refine lx_nil ?_
      refine inBlock_norm ?_
      have H : Heap w0 [bA b49 [(.int .i64 a0.1), (.int .i64 a0.2.1), v33, v35] 33, oA (rList (rInt .i64)) v220 (xs104 ++ [x184.2.2]), bA b197 [(.int .i64 x184.1), (.int .i64 x184.2.1), (.int .i64 x184.2.2)] 57] w221 := H.front 2 rfl
      have H : Heap w0 [bA b49 [(.int .i64 a0.1), (.int .i64 a0.2.1), v33, v35] 33, oA (rList (rInt .i64)) v220 (xs104 ++ [x184.2.2])] w221 := H.sel [0, 1] (by decide)
      exact ⟨(xs104 ++ [x184.2.2]), v220, S.sub ⟨rfl, rfl, rfl, rfl, rfl, rfl, rfl, trivial⟩, H, hm⟩
     ·have hm := ite_f hc214 hm
      refine wp_skip ?_
      refine inBlock_norm ?_
      have H : Heap w0 [bA b49 [(.int .i64 a0.1), (.int .i64 a0.2.1), v33, v35] 33, oA (rList (rInt .i64)) v103 xs104] w := H.sel [1, 2] (by decide)
      exact ⟨xs104, v103, S.sub ⟨rfl, rfl, rfl, rfl, rfl, rfl, rfl, trivial⟩, H, hm⟩
  ·have hm := ite_f hc178 hm
   refine wp_exit ?_
   refine then_exit ?_
   refine then_exit ?_
   refine inBlock_exit ?_
   obtain rfl := it_brk hm hc177
   have H : Heap w0 [oA (rList (rInt .i64)) v103 xs104] w := H.sel [1] (by decide)
   exact ⟨xs104, v103, S.sub ⟨rfl, trivial⟩, H, rfl⟩

/-- laws.eqInt64S -/
def laws_eqInt64S_m (fuel : Nat) (a0 : (List Int)) (a1 : (List Int)) : Option (Bool) :=
  (if ((a0.length : Int) != (a1.length : Int)) = true then some (false) else (iter (fun (s : (Int)) => (match s with | (x47) => (if (decide (x47 < (a0.length : Int))) = true then (idx a0 x47).bind fun x74 => (idx a1 x47).bind fun x79 => (if (x74 != x79) = true then some (.inr (.inr false)) else some (.inl ((W (x47 + (1 : Int)))))) else some (.inr (.inl ()))) : Option (((Int)) ⊕ ((Unit) ⊕ (Bool))))) fuel ((0 : Int))).bind fun res63 => ctl (β := Unit) (ρ := Bool) (τ := Bool) res63 (fun _ => some (true)) (fun q => some (q)))
set_option maxRecDepth 20000 in
theorem laws_eqInt64S_ok {w0 : World} {fuel : Nat} {p0 p1 : Value} {a0 : (List Int)} {a1 : (List Int)} {r : Bool} (h0 : Rd (rList (rInt .i64)) w0 p0 a0) (h1 : Rd (rList (rInt .i64)) w0 p1 a1) (hm : laws_eqInt64S_m fuel a0 a1 = some r) :
  Calls Tryz.prog 12 #[p0, p1] w0 fun e w => e = .returned (.bool r) ∧ Heap w0 [] w := by
 unfold laws_eqInt64S_m at hm
 have H := Heap.start w0
 refine enter (args := [p0, p1]) Tryz.func12 rfl 26 rfl (Nat.le_of_ble_eq_true rfl) (fun a S => ?_)
 refine wp_seq (region_plain ?_)
 refine lq (.bool false) S (q_assign rfl) fun a S => ?_
 refine lx_nil (thenN ?_)
 refine wp_seq (wp_seq (region_plain ?_))
 refine lq p0 S (q_move rfl) fun a S => ?_
 refine lq (.int .i64 (a0.length : Int)) S (q_lenSl rfl (h0).isSl rfl Tryz.underlying28) fun a S => ?_
 refine lq p1 S (q_move rfl) fun a S => ?_
 refine lq (.int .i64 (a1.length : Int)) S (q_lenSl rfl (h1).isSl rfl Tryz.underlying28) fun a S => ?_
 refine lq (.bool ((a0.length : Int) != (a1.length : Int))) S (q_neq rfl rfl) fun a S => ?_
 refine lx_nil (thenN ?_)
 refine cond_b S rfl (fun hc31 => ?_) (fun hc31 => ?_)
 ·have hm := ite_t hc31 hm
  refine wp_seq (region_plain ?_)
  refine lq (.bool false) S (q_assign rfl) fun a S => ?_
  refine lx_nil (thenN ?_)
  refine wp_ret (then_ret ?_)
  obtain rfl := Option.some.inj hm
  exact leave1 S rfl rfl ⟨rfl, H⟩
 ·have hm := ite_f hc31 hm
  refine wp_skip (thenN ?_)
  refine wp_seq (wp_seq (region_plain ?_))
  refine lq (.int .i64 (0 : Int)) S (q_assign rfl) fun a S => ?_
  refine lx_nil (thenN ?_)
  obtain ⟨res63, hit64, hk67⟩ := bind_some hm
  obtain ⟨f65, hf66, hit64⟩ := iter_name hit64
  refine block_loop (fun a w => Slots a 26 [] ∧ Heap w0 [] w ∧ res63 = .inl ()) ?_ ?_
  ·rintro a w ⟨S, H, rfl⟩
   have hm := ctl_inl hk67
   refine thenN ?_
   refine wp_seq (region_plain ?_)
   refine lq (.bool true) S (q_assign rfl) fun a S => ?_
   refine lx_nil (thenN ?_)
   refine wp_ret ?_
   obtain rfl := Option.some.inj hm
   exact leave1 S rfl rfl ⟨rfl, H⟩
  ·skip
   refine loop_ghost (fun n a w => ∃ (x47 : Int), Slots a 26 [(0, p0), (1, p1), (5, (.int .i64 x47))] ∧ Heap w0 [] w ∧ iter f65 n (x47) = some res63) _ ⟨(0 : Int), S.sub ⟨rfl, rfl, rfl, trivial⟩, H, hit64⟩ ?_
   rintro n a w ⟨x47, S, H, hit64⟩
   obtain ⟨m68, o69, rfl, hm, hc70⟩ := iter_step hit64
   rw [hf66] at hm
   refine wp_seq (wp_seq (region_plain ?_))
   refine lq (.int .i64 x47) S (q_move rfl) fun a S => ?_
   refine lq p0 S (q_move rfl) fun a S => ?_
   refine lq (.int .i64 (a0.length : Int)) S (q_lenSl rfl (h0).isSl rfl Tryz.underlying28) fun a S => ?_
   refine lq (.bool (decide (x47 < (a0.length : Int)))) S (q_lss rfl rfl) fun a S => ?_
   refine lx_nil (thenN ?_)
   refine cond_b S rfl (fun hc71 => ?_) (fun hc71 => ?_)
   ·have hm := ite_t hc71 hm
    refine wp_skip (thenN ?_)
    refine wp_seq ?_
    refine wp_block ?_
    refine wp_seq ?_
    refine region_drawG (fun w1 => Heap w0 [] w1) (fun i => [].contains i) mixed (by kernel_rfl) (fun w73 he72 => ?_)
    have H := H.later he72
    refine ⟨H.sel [] (by decide), ?_⟩
    refine lq p0 S (q_move rfl) fun a S => ?_
    refine lq (.int .i64 x47) S (q_move rfl) fun a S => ?_
    obtain ⟨x74, e75, hm⟩ := bind_some hm
    obtain ⟨c76, h77, hat78⟩ := (h0).elem (idx_some e75).2
    obtain rfl := h77
    have hlt := lt_of_idx (idx_some e75).2
    refine lq (ePtr p0 (x47.toNat * 1)) S (q_indexAddr rfl (h0).isSl rfl (idx_some e75).1 hlt Tryz.underlying28 Tryz.sizeOf2) fun a S => ?_
    refine lq (.int .i64 x74) S (q_load1 rfl Tryz.isAgg2 (fun w1 hC => ((hat78 0 _ rfl).ext hC.ext))) fun a S => ?_
    refine lq p1 S (q_move rfl) fun a S => ?_
    refine lq (.int .i64 x47) S (q_move rfl) fun a S => ?_
    obtain ⟨x79, e80, hm⟩ := bind_some hm
    obtain ⟨c81, h82, hat83⟩ := (h1).elem (idx_some e80).2
    obtain rfl := h82
    have hlt := lt_of_idx (idx_some e80).2
    refine lq (ePtr p1 (x47.toNat * 1)) S (q_indexAddr rfl (h1).isSl rfl (idx_some e80).1 hlt Tryz.underlying28 Tryz.sizeOf2) fun a S => ?_
    refine lq (.int .i64 x79) S (q_load1 rfl Tryz.isAgg2 (fun w1 hC => ((hat83 0 _ rfl).ext hC.ext))) fun a S => ?_
    refine lq (.bool (x74 != x79)) S (q_neq rfl rfl) fun a S => ?_
    refine lx_nil (thenN ?_)
    refine cond_b S rfl (fun hc84 => ?_) (fun hc84 => ?_)
    ·have hm := ite_t hc84 hm
     refine wp_seq (region_plain ?_)
     refine lq (.bool false) S (q_assign rfl) fun a S => ?_
     refine lx_nil (thenN ?_)
     refine wp_ret (inBlock_ret ?_)
     refine then_ret ?_
     refine then_ret ?_
     refine inBlock_ret ?_
     refine then_ret ?_
     refine then_ret ?_
     obtain rfl := it_brk hm hc70
     have hm := ctl_inr hk67
     obtain rfl := Option.some.inj hm
     exact leave1 S rfl rfl ⟨rfl, H⟩
    ·have hm := ite_f hc84 hm
     refine wp_skip ?_
     refine inBlock_norm ?_
     refine thenN ?_
     refine region_plain ?_
     refine lq (.int .i64 x47) S (q_move rfl) fun a S => ?_
     refine lq (.int .i64 (W (x47 + (1 : Int)))) S (q_add rfl rfl) fun a S => ?_
     refine lq (.int .i64 (W (x47 + (1 : Int)))) S (q_assign rfl) fun a S => ?_
     refine lx_nil ?_
     exact ⟨m68, Nat.lt_succ_self _, (W (x47 + (1 : Int))), S.sub ⟨rfl, rfl, rfl, trivial⟩, H, it_cont hm hc70⟩
   ·have hm := ite_f hc71 hm
    refine wp_exit ?_
    refine then_exit ?_
    refine then_exit ?_
    refine inBlock_exit ?_
    obtain rfl := it_brk hm hc70
    exact ⟨S.sub trivial, H, rfl⟩

/-- laws.markInt64S -/
def laws_markInt64S_m (fuel : Nat) (a0 : (List Int)) (a1 : Int) : Option (Int × (List Int)) :=
  (iter (fun (s : (List Int) × (Int) × (Int)) => (match s with | (xs38, x39, x40) => (if (decide (x40 < (xs38.length : Int))) = true then (idx xs38 x40).bind fun _ => some (.inl ((xs38.set x40.toNat x39), (W (x39 + (1 : Int))), (W (x40 + (1 : Int))))) else some (.inr (.inl (x39, xs38)))) : Option (((List Int) × (Int) × (Int)) ⊕ ((Int × (List Int)) ⊕ (Int × (List Int)))))) fuel (a0, a1, (0 : Int))).bind fun res50 => ctl (β := Int × (List Int)) (ρ := Int × (List Int)) (τ := Int × (List Int)) res50 (fun (x48, xs49) => some ((x48, xs49))) (fun q => some (q))
set_option maxRecDepth 20000 in
theorem laws_markInt64S_ok {w0 : World} {fuel : Nat} {p0 : Value} {a0 : (List Int)} {a1 : Int} {w00 : World} {L : List Asrt} {r : Int × (List Int)} (H : Heap w00 (oA (rList (rInt .i64)) p0 a0 :: L) w0) (hm : laws_markInt64S_m fuel a0 a1 = some r) :
  Calls Tryz.prog 17 #[p0, .int .i64 a1] w0 fun e w => e = .returned (.int .i64 r.1) ∧ Heap w00 (oA (rList (rInt .i64)) p0 r.2 :: L) w := by
 unfold laws_markInt64S_m at hm
 refine enter (args := [p0, .int .i64 a1]) Tryz.func17 rfl 19 rfl (Nat.le_of_ble_eq_true rfl) (fun a S => ?_)
 refine wp_seq (region_plain ?_)
 refine lq (.int .i64 (0 : Int)) S (q_assign rfl) fun a S => ?_
 refine lx_nil (thenN ?_)
 refine wp_seq (wp_seq (region_plain ?_))
 refine lq (.int .i64 (0 : Int)) S (q_assign rfl) fun a S => ?_
 refine lx_nil (thenN ?_)
 obtain ⟨res50, hit51, hk54⟩ := bind_some hm
 obtain ⟨f52, hf53, hit51⟩ := iter_name hit51
 refine block_loop (fun a w => ∃ (x48 : Int) (xs49 : List Int), Slots a 19 [(1, (.int .i64 x48))] ∧ Heap w00 (oA (rList (rInt .i64)) p0 xs49 :: L) w ∧ res50 = .inl (x48, xs49)) ?_ ?_
 ·rintro a w ⟨x48, xs49, S, H, rfl⟩
  have hm := ctl_inl hk54
  refine thenN ?_
  refine wp_seq (region_plain ?_)
  refine lq (.int .i64 x48) S (q_move rfl) fun a S => ?_
  refine lq (.int .i64 x48) S (q_assign rfl) fun a S => ?_
  refine lx_nil (thenN ?_)
  refine wp_ret ?_
  obtain rfl := Option.some.inj hm
  exact leave1 S rfl rfl ⟨rfl, H⟩
 ·skip
  refine loop_ghost (fun n a w => ∃ (xs38 : List Int) (x39 : Int) (x40 : Int), Slots a 19 [(0, p0), (1, (.int .i64 x39)), (5, (.int .i64 x40))] ∧ Heap w00 (oA (rList (rInt .i64)) p0 xs38 :: L) w ∧ iter f52 n (xs38, x39, x40) = some res50) _ ⟨a0, a1, (0 : Int), S.sub ⟨rfl, rfl, rfl, trivial⟩, H, hit51⟩ ?_
  rintro n a w ⟨xs38, x39, x40, S, H, hit51⟩
  obtain ⟨m55, o56, rfl, hm, hc57⟩ := iter_step hit51
  rw [hf53] at hm
  refine wp_seq (wp_seq (region_plain ?_))
  refine lq (.int .i64 x40) S (q_move rfl) fun a S => ?_
  refine lq p0 S (q_move rfl) fun a S => ?_
  refine lq (.int .i64 (xs38.length : Int)) S (q_lenSl rfl (H.isSl 0 rfl) rfl Tryz.underlying28) fun a S => ?_
  refine lq (.bool (decide (x40 < (xs38.length : Int)))) S (q_lss rfl rfl) fun a S => ?_
  refine lx_nil (thenN ?_)
  refine cond_b S rfl (fun hc58 => ?_) (fun hc58 => ?_)
  ·have hm := ite_t hc58 hm
   refine wp_skip (thenN ?_)
   refine wp_seq ?_
   refine wp_block ?_
   refine wp_seq (region_plain ?_)
   refine lq p0 S (q_move rfl) fun a S => ?_
   refine lq (.int .i64 x40) S (q_move rfl) fun a S => ?_
   refine lq (.int .i64 x39) S (q_move rfl) fun a S => ?_
   obtain ⟨x59, e60, hm⟩ := bind_some hm
   have hlt := lt_of_idx (idx_some e60).2
   refine lq (ePtr p0 (x40.toNat * 1)) S (q_indexAddr rfl (H.isSl 0 rfl) rfl (idx_some e60).1 hlt Tryz.underlying28 Tryz.sizeOf2) fun a S => ?_
   refine lx_storeElem (r := (rInt .i64)) (us := [(.int .i64 x39)]) (off := 0) (e' := x39) S trivial rfl H.putE (ev_zero rfl) rfl (idx_some e60).2 rfl Tryz.sizeOf2 (Nat.le_of_ble_eq_true rfl) (List.forall_mem_cons.2 ⟨rfl, (fun _ h => nomatch h)⟩) (Upd.full rfl (fun w G hG => by cases (show G = [] from hG); exact ⟨rfl, rfl⟩)) (fun w61 H => ⟨trivial, fun a S => ?_⟩)
   refine lx_nil (thenN ?_)
   refine region_plain ?_
   refine lq (.int .i64 x39) S (q_move rfl) fun a S => ?_
   refine lq (.int .i64 (W (x39 + (1 : Int)))) S (q_add rfl rfl) fun a S => ?_
   refine lq (.int .i64 (W (x39 + (1 : Int)))) S (q_assign rfl) fun a S => ?_
   refine lx_nil ?_
   refine inBlock_norm ?_
   refine thenN ?_
   refine region_plain ?_
   refine lq (.int .i64 x40) S (q_move rfl) fun a S => ?_
   refine lq (.int .i64 (W (x40 + (1 : Int)))) S (q_add rfl rfl) fun a S => ?_
   refine lq (.int .i64 (W (x40 + (1 : Int)))) S (q_assign rfl) fun a S => ?_
   refine lx_nil ?_
   exact ⟨m55, Nat.lt_succ_self _, (xs38.set x40.toNat x39), (W (x39 + (1 : Int))), (W (x40 + (1 : Int))), S.sub ⟨rfl, rfl, rfl, trivial⟩, H, it_cont hm hc57⟩
  ·have hm := ite_f hc58 hm
   refine wp_exit ?_
   refine then_exit ?_
   refine then_exit ?_
   refine inBlock_exit ?_
   obtain rfl := it_brk hm hc57
   exact ⟨x39, xs38, S.sub ⟨rfl, trivial⟩, H, rfl⟩

/-- laws.heldInt64S -/
def laws_heldInt64S_m (fuel : Nat) (a0 : (List Int)) (a1 : Int) : Option (Int) :=
  (iter (fun (s : (Int) × (Int)) => (match s with | (x40, x41) => (if (decide (x41 < (a0.length : Int))) = true then (idx a0 x41).bind fun x61 => (if (x61 != x40) = true then some (.inr (.inr (-1 : Int))) else some (.inl ((W (x40 + (1 : Int))), (W (x41 + (1 : Int)))))) else some (.inr (.inl (x40)))) : Option (((Int) × (Int)) ⊕ ((Int) ⊕ (Int))))) fuel (a1, (0 : Int))).bind fun res52 => ctl (β := Int) (ρ := Int) (τ := Int) res52 (fun (x51) => some (x51)) (fun q => some (q))
set_option maxRecDepth 20000 in
theorem laws_heldInt64S_ok {w0 : World} {fuel : Nat} {p0 : Value} {a0 : (List Int)} {a1 : Int} {r : Int} (h0 : Rd (rList (rInt .i64)) w0 p0 a0) (hm : laws_heldInt64S_m fuel a0 a1 = some r) :
  Calls Tryz.prog 18 #[p0, .int .i64 a1] w0 fun e w => e = .returned (.int .i64 r) ∧ Heap w0 [] w := by
 unfold laws_heldInt64S_m at hm
 have H := Heap.start w0
 refine enter (args := [p0, .int .i64 a1]) Tryz.func18 rfl 21 rfl (Nat.le_of_ble_eq_true rfl) (fun a S => ?_)
 refine wp_seq (region_plain ?_)
 refine lq (.int .i64 (0 : Int)) S (q_assign rfl) fun a S => ?_
 refine lx_nil (thenN ?_)
 refine wp_seq (wp_seq (region_plain ?_))
 refine lq (.int .i64 (0 : Int)) S (q_assign rfl) fun a S => ?_
 refine lx_nil (thenN ?_)
 obtain ⟨res52, hit53, hk56⟩ := bind_some hm
 obtain ⟨f54, hf55, hit53⟩ := iter_name hit53
 refine block_loop (fun a w => ∃ (x51 : Int), Slots a 21 [(1, (.int .i64 x51))] ∧ Heap w0 [] w ∧ res52 = .inl (x51)) ?_ ?_
 ·rintro a w ⟨x51, S, H, rfl⟩
  have hm := ctl_inl hk56
  refine thenN ?_
  refine wp_seq (region_plain ?_)
  refine lq (.int .i64 x51) S (q_move rfl) fun a S => ?_
  refine lq (.int .i64 x51) S (q_assign rfl) fun a S => ?_
  refine lx_nil (thenN ?_)
  refine wp_ret ?_
  obtain rfl := Option.some.inj hm
  exact leave1 S rfl rfl ⟨rfl, H⟩
 ·skip
  refine loop_ghost (fun n a w => ∃ (x40 : Int) (x41 : Int), Slots a 21 [(0, p0), (1, (.int .i64 x40)), (5, (.int .i64 x41))] ∧ Heap w0 [] w ∧ iter f54 n (x40, x41) = some res52) _ ⟨a1, (0 : Int), S.sub ⟨rfl, rfl, rfl, trivial⟩, H, hit53⟩ ?_
  rintro n a w ⟨x40, x41, S, H, hit53⟩
  obtain ⟨m57, o58, rfl, hm, hc59⟩ := iter_step hit53
  rw [hf55] at hm
  refine wp_seq (wp_seq (region_plain ?_))
  refine lq (.int .i64 x41) S (q_move rfl) fun a S => ?_
  refine lq p0 S (q_move rfl) fun a S => ?_
  refine lq (.int .i64 (a0.length : Int)) S (q_lenSl rfl (h0).isSl rfl Tryz.underlying28) fun a S => ?_
  refine lq (.bool (decide (x41 < (a0.length : Int)))) S (q_lss rfl rfl) fun a S => ?_
  refine lx_nil (thenN ?_)
  refine cond_b S rfl (fun hc60 => ?_) (fun hc60 => ?_)
  ·have hm := ite_t hc60 hm
   refine wp_skip (thenN ?_)
   refine wp_seq ?_
   refine wp_block ?_
   refine wp_seq (wp_seq (region_plain ?_))
   refine lq p0 S (q_move rfl) fun a S => ?_
   refine lq (.int .i64 x41) S (q_move rfl) fun a S => ?_
   obtain ⟨x61, e62, hm⟩ := bind_some hm
   obtain ⟨c63, h64, hat65⟩ := (h0).elem (idx_some e62).2
   obtain rfl := h64
   have hlt := lt_of_idx (idx_some e62).2
   refine lq (ePtr p0 (x41.toNat * 1)) S (q_indexAddr rfl (h0).isSl rfl (idx_some e62).1 hlt Tryz.underlying28 Tryz.sizeOf2) fun a S => ?_
   refine lx_e (.int .i64 x61) S trivial (by decide) rfl trivial (q_load1 rfl Tryz.isAgg2 (by rintro _ rfl; exact ((hat65 0 _ rfl).ext H.ext))) (fun a S => ?_)
   refine lq (.int .i64 x40) S (q_move rfl) fun a S => ?_
   refine lq (.bool (x61 != x40)) S (q_neq rfl rfl) fun a S => ?_
   refine lx_nil (thenN ?_)
   refine cond_b S rfl (fun hc66 => ?_) (fun hc66 => ?_)
   ·have hm := ite_t hc66 hm
    refine wp_seq (region_plain ?_)
    refine lq (.int .i64 (-1 : Int)) S (q_assign rfl) fun a S => ?_
    refine lx_nil (thenN ?_)
    refine wp_ret (then_ret ?_)
    refine inBlock_ret ?_
    refine then_ret ?_
    refine then_ret ?_
    refine inBlock_ret ?_
    refine then_ret ?_
    refine then_ret ?_
    obtain rfl := it_brk hm hc59
    have hm := ctl_inr hk56
    obtain rfl := Option.some.inj hm
    exact leave1 S rfl rfl ⟨rfl, H⟩
   ·have hm := ite_f hc66 hm
    refine wp_skip (thenN ?_)
    refine region_plain ?_
    refine lq (.int .i64 x40) S (q_move rfl) fun a S => ?_
    refine lq (.int .i64 (W (x40 + (1 : Int)))) S (q_add rfl rfl) fun a S => ?_
    refine lq (.int .i64 (W (x40 + (1 : Int)))) S (q_assign rfl) fun a S => ?_
    refine lx_nil ?_
    refine inBlock_norm ?_
    refine thenN ?_
    refine region_plain ?_
    refine lq (.int .i64 x41) S (q_move rfl) fun a S => ?_
    refine lq (.int .i64 (W (x41 + (1 : Int)))) S (q_add rfl rfl) fun a S => ?_
    refine lq (.int .i64 (W (x41 + (1 : Int)))) S (q_assign rfl) fun a S => ?_
    refine lx_nil ?_
    exact ⟨m57, Nat.lt_succ_self _, (W (x40 + (1 : Int))), (W (x41 + (1 : Int))), S.sub ⟨rfl, rfl, rfl, trivial⟩, H, it_cont hm hc59⟩
  ·have hm := ite_f hc60 hm
   refine wp_exit ?_
   refine then_exit ?_
   refine then_exit ?_
   refine inBlock_exit ?_
   obtain rfl := it_brk hm hc59
   exact ⟨x40, S.sub ⟨rfl, trivial⟩, H, rfl⟩
end Go.Proofs.YtifnhbnkgeinmaaGreatDoor
