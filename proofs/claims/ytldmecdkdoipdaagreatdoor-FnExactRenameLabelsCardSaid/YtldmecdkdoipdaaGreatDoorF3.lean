/- The models of some functions and their walks (printed by a program of this repo). -/
import Derived.Test.YtldmecdkdoipdaaGreatDoorF0
import Derived.Test.YtldmecdkdoipdaaGreatDoorF2
import Derived.Test.YtldmecdkdoipdaaGreatDoorFS
import Derived.Test.YtldmecdkdoipdaaGreatDoorGxT
import Derived.Test.YtldmecdkdoipdaaGreatDoorGxY
namespace Go.Proofs.YtldmecdkdoipdaaGreatDoor
open Go.RowKit Go.Gx

/-- impl.IsAction -/
def impl_IsAction_m (fuel : Nat) (a0 : Str) : Option (Bool) :=
  (impl_IsName_m fuel a0).bind fun x33 => (if x33 = true then some (a0 != ([116, 97, 117] : Str)) else some false).bind fun t36 => some (t36)
set_option maxRecDepth 20000 in
theorem impl_IsAction_ok [dr : Dr] {w0 : World} {fuel : Nat} {a0 : Str} {r : Bool} (hm : impl_IsAction_m fuel a0 = some r) :
  Calls Tryz.prog 38 #[sv a0] w0 fun e w => e = .returned (.bool r) ∧ Heap w0 [] w := by
 unfold impl_IsAction_m at hm
 have H := Heap.start w0
 refine enter (args := [sv a0]) Tryz.func38 rfl 9 rfl (Nat.le_of_ble_eq_true rfl) (fun a S => ?_)
 refine wp_seq (region_plain ?_)
 refine lq (.bool false) S (q_assign rfl) fun a S => ?_
 refine lx_nil (thenN ?_)
 refine wp_seq (region_plain ?_)
 refine lq (sv a0) S (q_move rfl) fun a S => ?_
 obtain ⟨x33, e34, hm⟩ := bind_some hm
 refine lx_call (xs := [.tmp 3]) S trivial (by decide) rfl rfl Tryz.call66 ((impl_IsName_ok  e34).mono ?_)
 rintro e w31 ⟨rfl, Hc32⟩
 have H := H.call0 Hc32
 refine ⟨_, rfl, trivial, fun a S => ?_⟩
 refine lq (.bool x33) S (q_move rfl) fun a S => ?_
 obtain ⟨t36, e37, hm⟩ := bind_some hm
 refine lx_cut 3 (fun a w => Slots a 9 [(8, (.bool t36))] ∧ Heap w0 [] w) ?_ ?_
 ·by_cases hc38 : x33 = true
  ·have hm := ite_t hc38 e37
   refine lx_q (sv a0) S (want_b rfl rfl hc38) (by decide) (q_move rfl) (fun a S => ?_)
   refine lx_q (.bool (a0 != ([116, 97, 117] : Str))) S (want_b rfl rfl hc38) (by decide) (q_sneq rfl rfl) (fun a S => ?_)
   refine lq (.bool (a0 != ([116, 97, 117] : Str))) S (q_pickT' rfl hc38 rfl) fun a S => ?_
   refine lx_nil ?_
   obtain rfl := Option.some.inj hm
   exact ⟨S.sub ⟨rfl, trivial⟩, H⟩
  ·have hm := ite_f (eq_false_of_ne_true hc38) e37
   have hc38 : x33 = false := eq_false_of_ne_true hc38
   refine lx_skip S rfl rfl (isB_ne hc38) (by decide) (fun a S => ?_)
   refine lx_skip S rfl rfl (isB_ne hc38) (by decide) (fun a S => ?_)
   refine lq (.bool false) S (q_pickF' rfl hc38 rfl) fun a S => ?_
   refine lx_nil ?_
   obtain rfl := Option.some.inj hm
   exact ⟨S.sub ⟨rfl, trivial⟩, H⟩
 ·rintro a w ⟨S, H⟩
  refine lq (.bool t36) S (q_assign rfl) fun a S => ?_
  refine lx_nil (thenN ?_)
  refine wp_ret ?_
  obtain rfl := Option.some.inj hm
  exact leave1 S rfl rfl ⟨rfl, H⟩

/-- slices.IndexFunc[[]int64,int64] -/
def slices_IndexFunc__int64_int64_m (fuel : Nat) (a0 : (List Int)) (a1 : (Int → Option Bool)) : Option (Int) :=
  (iter (fun (s : (Int)) => (match s with | (x46) => (if (decide (x46 < (a0.length : Int))) = true then (idx a0 x46).bind fun x71 => (a1 x71).bind fun x80 => (if x80 = true then some (.inr (.inr x46)) else some (.inl ((W (x46 + (1 : Int)))))) else some (.inr (.inl ()))) : Option (((Int)) ⊕ ((Unit) ⊕ (Int))))) fuel ((0 : Int))).bind fun res62 => ctl (β := Unit) (ρ := Int) (τ := Int) res62 (fun _ => some ((-1 : Int))) (fun q => some (q))
set_option maxRecDepth 20000 in
theorem slices_IndexFunc__int64_int64_ok [dr : Dr] {w0 : World} {fuel : Nat} {p0 : Value} {a0 : (List Int)} {a1 : (Int → Option Bool)} {f1 : Nat} {fs1 cp1 : List Value} {r : Int} (h0 : Rd (rList (rInt .i64)) w0 p0 a0) (hcf1 : ∀ args w, (callFunc f1 args).run Tryz.prog w = .ok (.enter f1 args) w) (hf1 : ∀ {w : World} {x0_ : Int} {y : Bool}, Ext w0 w → a1 x0_ = some y → Calls Tryz.prog f1 (fs1 ++ ([.int .i64 x0_] : List Value) ++ cp1).toArray w fun e w' => e = .returned (.bool y) ∧ Heap w [] w') (hm : slices_IndexFunc__int64_int64_m fuel a0 a1 = some r) :
  Calls Tryz.prog 99 #[p0, .func (.func f1) fs1.toArray cp1.toArray] w0 fun e w => e = .returned (.int .i64 r) ∧ Heap w0 [] w := by
 unfold slices_IndexFunc__int64_int64_m at hm
 have H := Heap.start w0
 refine enter (args := [p0, .func (.func f1) fs1.toArray cp1.toArray]) Tryz.func99 rfl 19 rfl (Nat.le_of_ble_eq_true rfl) (fun a S => ?_)
 refine wp_seq (region_plain ?_)
 refine lq (.int .i64 (0 : Int)) S (q_assign rfl) fun a S => ?_
 refine lx_nil (thenN ?_)
 refine wp_seq (wp_seq (region_plain ?_))
 refine lq p0 S (q_move rfl) fun a S => ?_
 refine lq (.int .i64 (a0.length : Int)) S (q_lenSl rfl (h0).isSl rfl Tryz.underlying61) fun a S => ?_
 refine lq (.int .i64 (0 : Int)) S (q_move rfl) fun a S => ?_
 refine lx_nil (thenN ?_)
 obtain ⟨res62, hit63, hk66⟩ := bind_some hm
 obtain ⟨f64, hf65, hit63⟩ := iter_name hit63
 refine block_loop (fun a w => Slots a 19 [] ∧ Heap w0 [] w ∧ res62 = .inl ()) ?_ ?_
 ·rintro a w ⟨S, H, rfl⟩
  have hm := ctl_inl hk66
  refine thenN ?_
  refine wp_seq (region_plain ?_)
  refine lq (.int .i64 (-1 : Int)) S (q_assign rfl) fun a S => ?_
  refine lx_nil (thenN ?_)
  refine wp_ret ?_
  obtain rfl := Option.some.inj hm
  exact leave1 S rfl rfl ⟨rfl, H⟩
 ·skip
  refine loop_ghost (fun n a w => ∃ (x46 : Int), Slots a 19 [(0, p0), (1, (.func (.func f1) fs1.toArray cp1.toArray)), (7, (.int .i64 (a0.length : Int))), (8, (.int .i64 x46))] ∧ Heap w0 [] w ∧ iter f64 n (x46) = some res62) _ ⟨(0 : Int), S.sub ⟨rfl, rfl, rfl, rfl, trivial⟩, H, hit63⟩ ?_
  rintro n a w ⟨x46, S, H, hit63⟩
  obtain ⟨m67, o68, rfl, hm, hc69⟩ := iter_step hit63
  rw [hf65] at hm
  refine wp_seq (region_plain ?_)
  refine lq (.bool (decide (x46 < (a0.length : Int)))) S (q_lss rfl rfl) fun a S => ?_
  refine lx_nil (thenN ?_)
  refine wp_seq ?_
  refine cond_b S rfl (fun hc70 => ?_) (fun hc70 => ?_)
  ·have hm := ite_t hc70 hm
   refine wp_skip (thenN ?_)
   refine wp_seq ?_
   refine wp_block ?_
   refine wp_seq (region_plain ?_)
   refine lq (.int .i64 x46) S (q_move rfl) fun a S => ?_
   refine lq (.int .i64 x46) S (q_assign rfl) fun a S => ?_
   refine lx_nil (thenN ?_)
   refine wp_seq (region_plain ?_)
   refine lq (.func (.func f1) fs1.toArray cp1.toArray) S (q_move rfl) fun a S => ?_
   refine lq p0 S (q_move rfl) fun a S => ?_
   refine lq (.int .i64 x46) S (q_move rfl) fun a S => ?_
   obtain ⟨x71, e72, hm⟩ := bind_some hm
   obtain ⟨c73, h74, hat75⟩ := (h0).elem (idx_some e72).2
   obtain rfl := h74
   have hlt := lt_of_idx (idx_some e72).2
   refine lq (ePtr p0 (x46.toNat * 1)) S (q_indexAddr rfl (h0).isSl rfl (idx_some e72).1 hlt Tryz.underlying61 Tryz.sizeOf2) fun a S => ?_
   refine lx_e (.int .i64 x71) S trivial (by decide) rfl trivial (q_load1 rfl Tryz.isAgg2 (by rintro _ rfl; exact ((hat75 0 _ rfl).ext H.ext))) (fun a S => ?_)
   obtain ⟨x80, e81, hm⟩ := bind_some hm
   refine lx_callV (f := f1) (first := fs1) (cap := cp1) (xs := [.tmp 15]) S trivial (by decide) rfl rfl rfl hcf1 ((hf1 H.ext  e81).mono ?_)
   rintro e w78 ⟨rfl, Hc79⟩
   have H := H.call0 Hc79
   refine ⟨_, rfl, trivial, fun a S => ?_⟩
   refine lx_nil (thenN ?_)
   refine cond_b S rfl (fun hc83 => ?_) (fun hc83 => ?_)
   ·have hm := ite_t hc83 hm
    refine wp_seq (region_plain ?_)
    refine lq (.int .i64 x46) S (q_move rfl) fun a S => ?_
    refine lq (.int .i64 x46) S (q_assign rfl) fun a S => ?_
    refine lx_nil (thenN ?_)
    refine wp_ret (inBlock_ret ?_)
    refine then_ret ?_
    refine then_ret ?_
    refine inBlock_ret ?_
    refine then_ret ?_
    refine then_ret ?_
    obtain rfl := it_brk hm hc69
    have hm := ctl_inr hk66
    obtain rfl := Option.some.inj hm
    exact leave1 S rfl rfl ⟨rfl, H⟩
   ·have hm := ite_f hc83 hm
    refine wp_skip ?_
    refine inBlock_norm ?_
    refine thenN ?_
    refine region_plain ?_
    refine lq (.int .i64 (W (x46 + (1 : Int)))) S (q_add rfl rfl) fun a S => ?_
    refine lq (.int .i64 (W (x46 + (1 : Int)))) S (q_move rfl) fun a S => ?_
    refine lx_nil ?_
    exact ⟨m67, Nat.lt_succ_self _, (W (x46 + (1 : Int))), S.sub ⟨rfl, rfl, rfl, rfl, trivial⟩, H, it_cont hm hc69⟩
  ·have hm := ite_f hc70 hm
   refine wp_exit ?_
   refine then_exit ?_
   refine then_exit ?_
   refine inBlock_exit ?_
   obtain rfl := it_brk hm hc69
   exact ⟨S.sub trivial, H, rfl⟩

/-- slices.ContainsFunc[[]int64,int64] -/
def slices_ContainsFunc__int64_int64_m (fuel : Nat) (a0 : (List Int)) (a1 : (Int → Option Bool)) : Option (Bool) :=
  (slices_IndexFunc__int64_int64_m fuel a0 a1).bind fun x33 => some ((decide ((0 : Int) ≤ x33)))
set_option maxRecDepth 20000 in
theorem slices_ContainsFunc__int64_int64_ok [dr : Dr] {w0 : World} {fuel : Nat} {p0 : Value} {a0 : (List Int)} {a1 : (Int → Option Bool)} {f1 : Nat} {fs1 cp1 : List Value} {r : Bool} (h0 : Rd (rList (rInt .i64)) w0 p0 a0) (hcf1 : ∀ args w, (callFunc f1 args).run Tryz.prog w = .ok (.enter f1 args) w) (hf1 : ∀ {w : World} {x0_ : Int} {y : Bool}, Ext w0 w → a1 x0_ = some y → Calls Tryz.prog f1 (fs1 ++ ([.int .i64 x0_] : List Value) ++ cp1).toArray w fun e w' => e = .returned (.bool y) ∧ Heap w [] w') (hm : slices_ContainsFunc__int64_int64_m fuel a0 a1 = some r) :
  Calls Tryz.prog 75 #[p0, .func (.func f1) fs1.toArray cp1.toArray] w0 fun e w => e = .returned (.bool r) ∧ Heap w0 [] w := by
 unfold slices_ContainsFunc__int64_int64_m at hm
 have H := Heap.start w0
 refine enter (args := [p0, .func (.func f1) fs1.toArray cp1.toArray]) Tryz.func75 rfl 9 rfl (Nat.le_of_ble_eq_true rfl) (fun a S => ?_)
 refine wp_seq (region_plain ?_)
 refine lq (.bool false) S (q_assign rfl) fun a S => ?_
 refine lx_nil (thenN ?_)
 refine wp_seq (region_plain ?_)
 refine lq p0 S (q_move rfl) fun a S => ?_
 refine lq (.func (.func f1) fs1.toArray cp1.toArray) S (q_move rfl) fun a S => ?_
 obtain ⟨x33, e34, hm⟩ := bind_some hm
 refine lx_call (xs := [.tmp 5, .tmp 6]) S trivial (by decide) rfl rfl Tryz.call99 ((slices_IndexFunc__int64_int64_ok (f1 := f1) (fs1 := fs1) (cp1 := cp1) (a1 := a1) (H.arg h0) hcf1 (fun he  hm => hf1 ((H.ext).trans he)  hm) e34).mono ?_)
 rintro e w31 ⟨rfl, Hc32⟩
 have H := H.call0 Hc32
 refine ⟨_, rfl, trivial, fun a S => ?_⟩
 refine lq (.bool (decide ((0 : Int) ≤ x33))) S (q_geq rfl rfl) fun a S => ?_
 refine lq (.bool (decide ((0 : Int) ≤ x33))) S (q_assign rfl) fun a S => ?_
 refine lx_nil (thenN ?_)
 refine wp_ret ?_
 obtain rfl := Option.some.inj hm
 exact leave1 S rfl rfl ⟨rfl, H⟩

/-- impl.isValue -/
def impl_isValue_m (fuel : Nat) (a0 : Int) : Option (Bool) :=
  (impl_within_m fuel a0 (0 : Int) (63 : Int)).bind fun x33 => some (x33)
set_option maxRecDepth 20000 in
theorem impl_isValue_ok [dr : Dr] {w0 : World} {fuel : Nat} {a0 : Int} {r : Bool} (hm : impl_isValue_m fuel a0 = some r) :
  Calls Tryz.prog 119 #[.int .i64 a0] w0 fun e w => e = .returned (.bool r) ∧ Heap w0 [] w := by
 unfold impl_isValue_m at hm
 have H := Heap.start w0
 refine enter (args := [.int .i64 a0]) Tryz.func119 rfl 5 rfl (Nat.le_of_ble_eq_true rfl) (fun a S => ?_)
 refine wp_seq (region_plain ?_)
 refine lq (.bool false) S (q_assign rfl) fun a S => ?_
 refine lx_nil (thenN ?_)
 refine wp_seq (region_plain ?_)
 refine lq (.int .i64 a0) S (q_move rfl) fun a S => ?_
 obtain ⟨x33, e34, hm⟩ := bind_some hm
 refine lx_call (xs := [.tmp 3, .const (.int .i64 (0)), .const (.int .i64 (63))]) S trivial (by decide) rfl rfl Tryz.call52 ((impl_within_ok    e34).mono ?_)
 rintro e w31 ⟨rfl, Hc32⟩
 have H := H.call0 Hc32
 refine ⟨_, rfl, trivial, fun a S => ?_⟩
 refine lq (.bool x33) S (q_assign rfl) fun a S => ?_
 refine lx_nil (thenN ?_)
 refine wp_ret ?_
 obtain rfl := Option.some.inj hm
 exact leave1 S rfl rfl ⟨rfl, H⟩

/-- impl.areValues$1 -/
def impl_areValues_1_m (fuel : Nat) (a0 : Int) : Option (Bool) :=
  (impl_isValue_m fuel a0).bind fun x33 => some ((!x33))
set_option maxRecDepth 20000 in
theorem impl_areValues_1_ok [dr : Dr] {w0 : World} {fuel : Nat} {a0 : Int} {r : Bool} (hm : impl_areValues_1_m fuel a0 = some r) :
  Calls Tryz.prog 118 #[.int .i64 a0] w0 fun e w => e = .returned (.bool r) ∧ Heap w0 [] w := by
 unfold impl_areValues_1_m at hm
 have H := Heap.start w0
 refine enter (args := [.int .i64 a0]) Tryz.func118 rfl 6 rfl (Nat.le_of_ble_eq_true rfl) (fun a S => ?_)
 refine wp_seq (region_plain ?_)
 refine lq (.bool false) S (q_assign rfl) fun a S => ?_
 refine lx_nil (thenN ?_)
 refine wp_seq (region_plain ?_)
 refine lq (.int .i64 a0) S (q_move rfl) fun a S => ?_
 obtain ⟨x33, e34, hm⟩ := bind_some hm
 refine lx_call (xs := [.tmp 3]) S trivial (by decide) rfl rfl Tryz.call119 ((impl_isValue_ok  e34).mono ?_)
 rintro e w31 ⟨rfl, Hc32⟩
 have H := H.call0 Hc32
 refine ⟨_, rfl, trivial, fun a S => ?_⟩
 refine lq (.bool (!x33)) S (q_not rfl) fun a S => ?_
 refine lq (.bool (!x33)) S (q_assign rfl) fun a S => ?_
 refine lx_nil (thenN ?_)
 refine wp_ret ?_
 obtain rfl := Option.some.inj hm
 exact leave1 S rfl rfl ⟨rfl, H⟩

/-- impl.areValues -/
def impl_areValues_m (fuel : Nat) (a0 : (List Int)) : Option (Bool) :=
  (slices_ContainsFunc__int64_int64_m fuel a0 (fun (z0 : Int) => impl_areValues_1_m fuel z0)).bind fun x33 => some ((!x33))
set_option maxRecDepth 20000 in
theorem impl_areValues_ok [dr : Dr] {w0 : World} {fuel : Nat} {p0 : Value} {a0 : (List Int)} {r : Bool} (h0 : Rd (rList (rInt .i64)) w0 p0 a0) (hm : impl_areValues_m fuel a0 = some r) :
  Calls Tryz.prog 96 #[p0] w0 fun e w => e = .returned (.bool r) ∧ Heap w0 [] w := by
 unfold impl_areValues_m at hm
 have H := Heap.start w0
 refine enter (args := [p0]) Tryz.func96 rfl 6 rfl (Nat.le_of_ble_eq_true rfl) (fun a S => ?_)
 refine wp_seq (region_plain ?_)
 refine lq (.bool false) S (q_assign rfl) fun a S => ?_
 refine lx_nil (thenN ?_)
 refine wp_seq (region_plain ?_)
 refine lq p0 S (q_move rfl) fun a S => ?_
 obtain ⟨x33, e34, hm⟩ := bind_some hm
 refine lx_call (xs := [.tmp 3, .func 118]) S trivial (by decide) rfl rfl Tryz.call75 ((slices_ContainsFunc__int64_int64_ok (f1 := 118) (fs1 := ([] : List Value)) (cp1 := ([] : List Value)) (a1 := (fun (z0 : Int) => impl_areValues_1_m fuel z0)) (H.arg h0) Tryz.call118 (fun he  hm => impl_areValues_1_ok    hm) e34).mono ?_)
 rintro e w31 ⟨rfl, Hc32⟩
 have H := H.call0 Hc32
 refine ⟨_, rfl, trivial, fun a S => ?_⟩
 refine lq (.bool (!x33)) S (q_not rfl) fun a S => ?_
 refine lq (.bool (!x33)) S (q_assign rfl) fun a S => ?_
 refine lx_nil (thenN ?_)
 refine wp_ret ?_
 obtain rfl := Option.some.inj hm
 exact leave1 S rfl rfl ⟨rfl, H⟩

/-- impl.joined -/
def impl_joined_m (fuel : Nat) (a0 : (List Int)) (a1 : Str) : Option (Str) :=
  (mks (a0.length : Int) ([] : Str)).bind fun x31 => (iter (fun (s : (List Str) × (Int)) => (match s with | (xs53, x54) => (if (decide (x54 < (a0.length : Int))) = true then (idx a0 x54).bind fun x86 => (impl_Decimal_m fuel x86).bind fun x93 => (idx xs53 x54).bind fun _ => some (.inl ((xs53.set x54.toNat x93), (W (x54 + (1 : Int))))) else some (.inr (.inl (xs53)))) : Option (((List Str) × (Int)) ⊕ (((List Str)) ⊕ (Str))))) fuel (x31, (0 : Int))).bind fun res72 => ctl (β := (List Str)) (ρ := Str) (τ := Str) res72 (fun (xs71) => (strings_Join_m fuel xs71 a1).bind fun x79 => some (x79)) (fun q => some (q))
set_option maxRecDepth 20000 in
theorem impl_joined_ok {w0 : World} {fuel : Nat} {p0 : Value} {a0 : (List Int)} {a1 : Str} {r : Str} (hG : Glob Tryz.prog w0) (h0 : Rd (rList (rInt .i64)) w0 p0 a0) (hm : impl_joined_m fuel a0 a1 = some r) :
  Calls Tryz.prog 97 #[p0, sv a1] w0 fun e w => e = .returned (sv r) ∧ Heap w0 [] w := by
 unfold impl_joined_m at hm
 have H := Heap.start w0
 refine enter (args := [p0, sv a1]) Tryz.func97 rfl 27 rfl (Nat.le_of_ble_eq_true rfl) (fun a S => ?_)
 refine wp_seq (region_plain ?_)
 refine lq (sv ([] : Str)) S (q_assign rfl) fun a S => ?_
 refine lx_nil (thenN ?_)
 refine wp_seq (region_plain ?_)
 refine lq p0 S (q_move rfl) fun a S => ?_
 refine lq (.int .i64 (a0.length : Int)) S (q_lenSl rfl (h0).isSl rfl Tryz.underlying61) fun a S => ?_
 obtain ⟨x31, e32, hm⟩ := bind_some hm
 obtain ⟨m33, hn, hn2, rfl⟩ := mks_some e32
 refine lx_make (r := rStr) (z0 := ([] : Str)) (n := m33) S trivial (by decide) rfl H (by rw [← hn]; rfl) (by rw [← hn]; rfl) Tryz.underlying22 (Tryz.ti9) rfl rfl (Nat.le_of_ble_eq_true rfl) (fun w => ⟨rfl, rfl⟩) hn2 (by decide) (fun v34 w35 H => ⟨trivial, fun a S => ?_⟩)
 refine lq v34 S (q_assign rfl) fun a S => ?_
 refine lx_nil (thenN ?_)
 refine wp_seq (wp_seq (region_plain ?_))
 refine lq p0 S (q_move rfl) fun a S => ?_
 refine lq (.int .i64 (a0.length : Int)) S (q_lenSl rfl (h0).isSl rfl Tryz.underlying61) fun a S => ?_
 refine lq (.int .i64 (0 : Int)) S (q_move rfl) fun a S => ?_
 refine lx_nil (thenN ?_)
 obtain ⟨res72, hit73, hk76⟩ := bind_some hm
 obtain ⟨f74, hf75, hit73⟩ := iter_name hit73
 refine block_loop (fun a w => ∃ (xs71 : List Str), Slots a 27 [(1, (sv a1)), (5, v34)] ∧ Heap w0 [oA (rList rStr) v34 xs71] w ∧ res72 = .inl (xs71)) ?_ ?_
 ·rintro a w ⟨xs71, S, H, rfl⟩
  have hm := ctl_inl hk76
  refine thenN ?_
  refine wp_seq (region_plain ?_)
  refine lq v34 S (q_move rfl) fun a S => ?_
  refine lq (sv a1) S (q_move rfl) fun a S => ?_
  obtain ⟨x79, e80, hm⟩ := bind_some hm
  refine lx_call (xs := [.tmp 24, .tmp 25]) S trivial (by decide) rfl rfl Tryz.call120 ((strings_Join_ok (H.rdAt 0 rfl)  e80).mono ?_)
  rintro e w77 ⟨rfl, Hc78⟩
  have H := H.call0 Hc78
  refine ⟨_, rfl, trivial, fun a S => ?_⟩
  refine lq (sv x79) S (q_assign rfl) fun a S => ?_
  refine lx_nil (thenN ?_)
  refine wp_ret ?_
  obtain rfl := Option.some.inj hm
  have H : Heap w0 [] w77 := H.sel [] (by decide)
  exact leave1 S rfl rfl ⟨rfl, H⟩
 ·skip
  refine loop_ghost (fun n a w => ∃ (xs53 : List Str) (x54 : Int), Slots a 27 [(1, (sv a1)), (5, v34), (11, p0), (12, (.int .i64 (a0.length : Int))), (13, (.int .i64 x54))] ∧ Heap w0 [oA (rList rStr) v34 xs53] w ∧ iter f74 n (xs53, x54) = some res72) _ ⟨(List.replicate m33 ([] : Str)), (0 : Int), S.sub ⟨rfl, rfl, rfl, rfl, rfl, trivial⟩, H, hit73⟩ ?_
  rintro n a w ⟨xs53, x54, S, H, hit73⟩
  obtain ⟨m82, o83, rfl, hm, hc84⟩ := iter_step hit73
  rw [hf75] at hm
  refine wp_seq (region_plain ?_)
  refine lq (.bool (decide (x54 < (a0.length : Int)))) S (q_lss rfl rfl) fun a S => ?_
  refine lx_nil (thenN ?_)
  refine wp_seq ?_
  refine cond_b S rfl (fun hc85 => ?_) (fun hc85 => ?_)
  ·have hm := ite_t hc85 hm
   refine wp_skip (thenN ?_)
   refine wp_seq ?_
   refine wp_block ?_
   refine wp_seq (region_plain ?_)
   refine lq (.int .i64 x54) S (q_move rfl) fun a S => ?_
   obtain ⟨x86, e87, hm⟩ := bind_some hm
   obtain ⟨c88, h89, hat90⟩ := (h0).elem (idx_some e87).2
   obtain rfl := h89
   have hlt := lt_of_idx (idx_some e87).2
   refine lq (ePtr p0 (x54.toNat * 1)) S (q_indexAddr rfl (h0).isSl rfl (idx_some e87).1 hlt Tryz.underlying61 Tryz.sizeOf2) fun a S => ?_
   refine lx_e (.int .i64 x86) S trivial (by decide) rfl trivial (q_load1 rfl Tryz.isAgg2 (by rintro _ rfl; exact ((hat90 0 _ rfl).ext H.ext))) (fun a S => ?_)
   refine lq (.int .i64 x54) S (q_assign rfl) fun a S => ?_
   refine lq (.int .i64 x86) S (q_assign rfl) fun a S => ?_
   refine lx_nil (thenN ?_)
   refine region_plain ?_
   refine lq v34 S (q_move rfl) fun a S => ?_
   refine lq (.int .i64 x54) S (q_move rfl) fun a S => ?_
   refine lq (.int .i64 x86) S (q_move rfl) fun a S => ?_
   obtain ⟨x93, e94, hm⟩ := bind_some hm
   refine lx_call (xs := [.tmp 20]) S trivial (by decide) rfl rfl Tryz.call113 ((impl_Decimal_ok (hG.ext H.ext)  e94).mono ?_)
   rintro e w91 ⟨rfl, Hc92⟩
   have H := H.call0 Hc92
   refine ⟨_, rfl, trivial, fun a S => ?_⟩
   obtain ⟨x96, e97, hm⟩ := bind_some hm
   have hlt := lt_of_idx (idx_some e97).2
   refine lq (ePtr v34 (x54.toNat * 1)) S (q_indexAddr rfl (H.isSl 0 rfl) rfl (idx_some e97).1 hlt Tryz.underlying22 Tryz.sizeOf9) fun a S => ?_
   refine lx_storeElem (r := rStr) (us := [(sv x93)]) (off := 0) (e' := x93) S trivial rfl H.putE (ev_zero rfl) rfl (idx_some e97).2 rfl Tryz.sizeOf9 (Nat.le_of_ble_eq_true rfl) (List.forall_mem_cons.2 ⟨rfl, (List.forall_mem_nil _)⟩) (Upd.full rfl (fun w G hG => by cases (show G = [] from hG); exact ⟨rfl, rfl⟩)) (fun w98 H => ⟨trivial, fun a S => ?_⟩)
   refine lx_nil ?_
   refine inBlock_norm ?_
   refine thenN ?_
   refine region_plain ?_
   refine lq (.int .i64 (W (x54 + (1 : Int)))) S (q_add rfl rfl) fun a S => ?_
   refine lq (.int .i64 (W (x54 + (1 : Int)))) S (q_move rfl) fun a S => ?_
   refine lx_nil ?_
   exact ⟨m82, Nat.lt_succ_self _, (xs53.set x54.toNat x93), (W (x54 + (1 : Int))), S.sub ⟨rfl, rfl, rfl, rfl, rfl, trivial⟩, H, it_cont hm hc84⟩
  ·have hm := ite_f hc85 hm
   refine wp_exit ?_
   refine then_exit ?_
   refine then_exit ?_
   refine inBlock_exit ?_
   obtain rfl := it_brk hm hc84
   exact ⟨xs53, S.sub ⟨rfl, rfl, trivial⟩, H, rfl⟩

/-- impl.labelOf -/
def impl_labelOf_m (fuel : Nat) (a0 : Str) (a1 : (List Int)) : Option ((Str × Bool)) :=
  (if (a0 == ([116, 97, 117] : Str)) = true then some ((([116, 97, 117] : Str), ((a1.length : Int) == (0 : Int)))) else (impl_IsAction_m fuel a0).bind fun x34 => (if (!x34) = true then some true else some (decide ((2 : Int) < (a1.length : Int)))).bind fun t37 => (if t37 = true then some true else (impl_areValues_m fuel a1).bind fun x45 => some (!x45)).bind fun t40 => (if t40 = true then some ((([] : Str), false)) else (if ((a1.length : Int) == (0 : Int)) = true then some ((a0, true)) else (cat a0 ([40] : Str)).bind fun x50 => (impl_joined_m fuel a1 ([44] : Str)).bind fun x54 => (cat x50 x54).bind fun x57 => (cat x57 ([41] : Str)).bind fun x59 => some ((x59, true)))))
set_option maxRecDepth 20000 in
theorem impl_labelOf_ok {w0 : World} {fuel : Nat} {p1 : Value} {a0 : Str} {a1 : (List Int)} {r : (Str × Bool)} (hG : Glob Tryz.prog w0) (h1 : Rd (rList (rInt .i64)) w0 p1 a1) (hm : impl_labelOf_m fuel a0 a1 = some r) :
  Calls Tryz.prog 71 #[sv a0, p1] w0 fun e w => e = .returned (.tuple #[sv r.1, .bool r.2]) ∧ Heap w0 [] w := by
 unfold impl_labelOf_m at hm
 have H := Heap.start w0
 refine enter (args := [sv a0, p1]) Tryz.func71 rfl 37 rfl (Nat.le_of_ble_eq_true rfl) (fun a S => ?_)
 refine wp_seq (region_plain ?_)
 refine lq (sv ([] : Str)) S (q_assign rfl) fun a S => ?_
 refine lq (.bool false) S (q_assign rfl) fun a S => ?_
 refine lx_nil (thenN ?_)
 refine wp_seq ?_
 refine wp_block ?_
 refine wp_seq (region_plain ?_)
 refine lq (sv a0) S (q_move rfl) fun a S => ?_
 refine lq (.bool (a0 == ([116, 97, 117] : Str))) S (q_seql rfl rfl) fun a S => ?_
 refine lq (.bool (a0 == ([116, 97, 117] : Str))) S (q_assign rfl) fun a S => ?_
 refine lx_nil (thenN ?_)
 refine cond_b S rfl (fun hc31 => ?_) (fun hc31 => ?_)
 ·have hm := ite_t hc31 hm
  refine wp_seq (region_plain ?_)
  refine lq p1 S (q_move rfl) fun a S => ?_
  refine lq (.int .i64 (a1.length : Int)) S (q_lenSl rfl (h1).isSl rfl Tryz.underlying61) fun a S => ?_
  refine lq (.bool ((a1.length : Int) == (0 : Int))) S (q_eql rfl rfl) fun a S => ?_
  refine lq (sv ([116, 97, 117] : Str)) S (q_assign rfl) fun a S => ?_
  refine lq (.bool ((a1.length : Int) == (0 : Int))) S (q_assign rfl) fun a S => ?_
  refine lx_nil (thenN ?_)
  refine wp_ret (inBlock_ret ?_)
  refine then_ret ?_
  obtain rfl := Option.some.inj hm
  exact leave2 S rfl rfl rfl ⟨rfl, H⟩
 ·have hm := ite_f hc31 hm
  refine wp_seq (region_plain ?_)
  refine lq (sv a0) S (q_move rfl) fun a S => ?_
  obtain ⟨x34, e35, hm⟩ := bind_some hm
  refine lx_call (xs := [.tmp 13]) S trivial (by decide) rfl rfl Tryz.call38 ((impl_IsAction_ok  e35).mono ?_)
  rintro e w32 ⟨rfl, Hc33⟩
  have H := H.call0 Hc33
  refine ⟨_, rfl, trivial, fun a S => ?_⟩
  refine lq (.bool (!x34)) S (q_not rfl) fun a S => ?_
  refine lq (.bool (!x34)) S (q_move rfl) fun a S => ?_
  obtain ⟨t37, e38, hm⟩ := bind_some hm
  refine lx_cut 4 (fun a w => Slots a 37 [(0, (sv a0)), (1, p1), (20, (.bool t37))] ∧ Heap w0 [] w) ?_ ?_
  ·by_cases hc39 : (!x34) = true
   ·have hm := ite_t hc39 e38
    refine lx_skip S rfl rfl (isB_ne hc39) (by decide) (fun a S => ?_)
    refine lx_skip S rfl rfl (isB_ne hc39) (by decide) (fun a S => ?_)
    refine lx_skip S rfl rfl (isB_ne hc39) (by decide) (fun a S => ?_)
    refine lq (.bool true) S (q_pickT' rfl hc39 rfl) fun a S => ?_
    refine lx_nil ?_
    obtain rfl := Option.some.inj hm
    exact ⟨S.sub ⟨rfl, rfl, rfl, trivial⟩, H⟩
   ·have hm := ite_f (eq_false_of_ne_true hc39) e38
    have hc39 : (!x34) = false := eq_false_of_ne_true hc39
    refine lx_q p1 S (want_b rfl rfl hc39) (by decide) (q_move rfl) (fun a S => ?_)
    refine lx_q (.int .i64 (a1.length : Int)) S (want_b rfl rfl hc39) (by decide) (q_lenSl rfl (h1).isSl rfl Tryz.underlying61) (fun a S => ?_)
    refine lx_q (.bool (decide ((2 : Int) < (a1.length : Int)))) S (want_b rfl rfl hc39) (by decide) (q_gtr rfl rfl) (fun a S => ?_)
    refine lq (.bool (decide ((2 : Int) < (a1.length : Int)))) S (q_pickF' rfl hc39 rfl) fun a S => ?_
    refine lx_nil ?_
    obtain rfl := Option.some.inj hm
    exact ⟨S.sub ⟨rfl, rfl, rfl, trivial⟩, H⟩
  ·rintro a w ⟨S, H⟩
   refine lq (.bool t37) S (q_move rfl) fun a S => ?_
   obtain ⟨t40, e41, hm⟩ := bind_some hm
   refine lx_cut 4 (fun a w => Slots a 37 [(0, (sv a0)), (1, p1), (25, (.bool t40))] ∧ Heap w0 [] w) ?_ ?_
   ·by_cases hc42 : t37 = true
    ·have hm := ite_t hc42 e41
     refine lx_skip S rfl rfl (isB_ne hc42) (by decide) (fun a S => ?_)
     refine lx_skip S rfl rfl (isB_ne hc42) (by decide) (fun a S => ?_)
     refine lx_skip S rfl rfl (isB_ne hc42) (by decide) (fun a S => ?_)
     refine lq (.bool true) S (q_pickT' rfl hc42 rfl) fun a S => ?_
     refine lx_nil ?_
     obtain rfl := Option.some.inj hm
     exact ⟨S.sub ⟨rfl, rfl, rfl, trivial⟩, H⟩
    ·have hm := ite_f (eq_false_of_ne_true hc42) e41
     have hc42 : t37 = false := eq_false_of_ne_true hc42
     refine lx_q p1 S (want_b rfl rfl hc42) (by decide) (q_move rfl) (fun a S => ?_)
     obtain ⟨x45, e46, hm⟩ := bind_some hm
     refine lx_call (xs := [.tmp 22]) S (want_b rfl rfl hc42) (by decide) rfl rfl Tryz.call96 ((impl_areValues_ok (H.arg h1) e46).mono ?_)
     rintro e w43 ⟨rfl, Hc44⟩
     have H := H.call0 Hc44
     refine ⟨_, rfl, trivial, fun a S => ?_⟩
     refine lx_q (.bool (!x45)) S (want_b rfl rfl hc42) (by decide) (q_not rfl) (fun a S => ?_)
     refine lq (.bool (!x45)) S (q_pickF' rfl hc42 rfl) fun a S => ?_
     refine lx_nil ?_
     obtain rfl := Option.some.inj hm
     exact ⟨S.sub ⟨rfl, rfl, rfl, trivial⟩, H⟩
   ·rintro a w ⟨S, H⟩
    refine lq (.bool t40) S (q_assign rfl) fun a S => ?_
    refine lx_nil (thenN ?_)
    refine cond_b S rfl (fun hc48 => ?_) (fun hc48 => ?_)
    ·have hm := ite_t hc48 hm
     refine wp_seq (region_plain ?_)
     refine lq (sv ([] : Str)) S (q_assign rfl) fun a S => ?_
     refine lq (.bool false) S (q_assign rfl) fun a S => ?_
     refine lx_nil (thenN ?_)
     refine wp_ret (inBlock_ret ?_)
     refine then_ret ?_
     obtain rfl := Option.some.inj hm
     exact leave2 S rfl rfl rfl ⟨rfl, H⟩
    ·have hm := ite_f hc48 hm
     refine wp_seq (region_plain ?_)
     refine lq p1 S (q_move rfl) fun a S => ?_
     refine lq (.int .i64 (a1.length : Int)) S (q_lenSl rfl (h1).isSl rfl Tryz.underlying61) fun a S => ?_
     refine lq (.bool ((a1.length : Int) == (0 : Int))) S (q_eql rfl rfl) fun a S => ?_
     refine lq (.bool ((a1.length : Int) == (0 : Int))) S (q_assign rfl) fun a S => ?_
     refine lx_nil (thenN ?_)
     refine cond_b S rfl (fun hc49 => ?_) (fun hc49 => ?_)
     ·have hm := ite_t hc49 hm
      refine wp_seq (region_plain ?_)
      refine lq (sv a0) S (q_move rfl) fun a S => ?_
      refine lq (sv a0) S (q_assign rfl) fun a S => ?_
      refine lq (.bool true) S (q_assign rfl) fun a S => ?_
      refine lx_nil (thenN ?_)
      refine wp_ret (inBlock_ret ?_)
      refine then_ret ?_
      obtain rfl := Option.some.inj hm
      exact leave2 S rfl rfl rfl ⟨rfl, H⟩
     ·have hm := ite_f hc49 hm
      refine wp_skip ?_
      refine inBlock_norm ?_
      refine thenN ?_
      refine wp_seq (region_plain ?_)
      refine lq (sv a0) S (q_move rfl) fun a S => ?_
      obtain ⟨x50, e51, hm⟩ := bind_some hm
      obtain ⟨hle, hcat⟩ := cat_some e51
      subst hcat
      refine lq (sv (a0 ++ ([40] : Str))) S (q_cat rfl rfl hle) fun a S => ?_
      refine lq p1 S (q_move rfl) fun a S => ?_
      obtain ⟨x54, e55, hm⟩ := bind_some hm
      refine lx_call (xs := [.tmp 33, .const (sv [44])]) S trivial (by decide) rfl rfl Tryz.call97 ((impl_joined_ok (hG.ext H.ext) (H.arg h1)  e55).mono ?_)
      rintro e w52 ⟨rfl, Hc53⟩
      have H := H.call0 Hc53
      refine ⟨_, rfl, trivial, fun a S => ?_⟩
      obtain ⟨x57, e58, hm⟩ := bind_some hm
      obtain ⟨hle, hcat⟩ := cat_some e58
      subst hcat
      refine lq (sv ((a0 ++ ([40] : Str)) ++ x54)) S (q_cat rfl rfl hle) fun a S => ?_
      obtain ⟨x59, e60, hm⟩ := bind_some hm
      obtain ⟨hle, hcat⟩ := cat_some e60
      subst hcat
      refine lq (sv (((a0 ++ ([40] : Str)) ++ x54) ++ ([41] : Str))) S (q_cat rfl rfl hle) fun a S => ?_
      refine lq (sv (((a0 ++ ([40] : Str)) ++ x54) ++ ([41] : Str))) S (q_assign rfl) fun a S => ?_
      refine lq (.bool true) S (q_assign rfl) fun a S => ?_
      refine lx_nil (thenN ?_)
      refine wp_ret ?_
      obtain rfl := Option.some.inj hm
      exact leave2 S rfl rfl rfl ⟨rfl, H⟩

/-- impl.readLabel -/
def impl_readLabel_m (fuel : Nat) (a0 : Str) : Option ((Str × (List Int) × Bool)) :=
  (strings_Cut_m fuel a0 ([40] : Str)).bind fun x33 => join (κ := List Int → Option (Str × (List Int) × Bool)) (fun (xs37 : List Int) => (impl_labelOf_m fuel x33.1 xs37).bind fun x43 => (if (!x43.2) = true then some true else some (x43.1 != a0)).bind fun t46 => (if t46 = true then some ((([] : Str), [], false)) else some ((x33.1, xs37, true)))) (fun K39 => (if x33.2.2 = true then (strings_TrimSuffix_m fuel x33.2.1 ([41] : Str)).bind fun x54 => (strings_Split_m fuel x54 ([44] : Str)).bind fun x59 => (impl_readNumbers_m fuel x59).bind fun x66 => (if (!x66.2) = true then some ((([] : Str), [], false)) else (K39 x66.1)) else (K39 [])))
set_option maxRecDepth 20000 in
theorem impl_readLabel_ok {w0 : World} {fuel : Nat} {a0 : Str} {r : (Str × (List Int) × Bool)} (hG : GlobE Tryz.prog w0) (hm : impl_readLabel_m fuel a0 = some r) :
  Calls Tryz.prog 41 #[sv a0] w0 fun e w => ∃ (v0 : Value), e = .returned (.tuple #[sv r.1, v0, .bool r.2.2]) ∧ Heap w0 [oA (rList (rInt .i64)) v0 r.2.1] w := by
 unfold impl_readLabel_m at hm
 have H := Heap.start w0
 refine enter (args := [sv a0]) Tryz.func41 rfl 43 rfl (Nat.le_of_ble_eq_true rfl) (fun a S => ?_)
 refine wp_seq (region_plain ?_)
 refine lq (sv ([] : Str)) S (q_assign rfl) fun a S => ?_
 refine lq (.slice none 0 0) S (q_assign rfl) fun a S => ?_
 refine lq (.bool false) S (q_assign rfl) fun a S => ?_
 refine lx_nil (thenN ?_)
 refine wp_seq (region_plain ?_)
 refine lq (sv a0) S (q_move rfl) fun a S => ?_
 obtain ⟨x33, e34, hm⟩ := bind_some hm
 refine lx_call (xs := [.tmp 13, .const (sv [40])]) S trivial (by decide) rfl rfl Tryz.call67 ((strings_Cut_ok (hG.ext H.ext).toGlob   e34).mono ?_)
 rintro e w31 ⟨rfl, Hc32⟩
 have H := H.call0 Hc32
 refine ⟨_, rfl, trivial, fun a S => ?_⟩
 refine lq (.tuple #[(sv x33.1), (sv x33.2.1), (.bool x33.2.2)]) S (q_move rfl) fun a S => ?_
 refine lq (sv x33.1) S (q_extract rfl rfl) fun a S => ?_
 refine lq (sv x33.2.1) S (q_extract rfl rfl) fun a S => ?_
 refine lq (.bool x33.2.2) S (q_extract rfl rfl) fun a S => ?_
 refine lq (sv x33.1) S (q_assign rfl) fun a S => ?_
 refine lq (sv x33.2.1) S (q_assign rfl) fun a S => ?_
 refine lq (.bool x33.2.2) S (q_assign rfl) fun a S => ?_
 refine lx_nil (thenN ?_)
 refine wp_seq (region_plain ?_)
 refine lq (.slice none 0 0) S (q_assign rfl) fun a S => ?_
 refine lx_nil (thenN ?_)
 obtain ⟨K39, hK40, hm⟩ := join_elim hm
 refine seq_cut (fun a w => ∃ (xs37 : List Int) (v36 : Value), Slots a 43 [(0, (sv a0)), (5, (sv x33.1)), (8, v36)] ∧ Heap w0 [oA (rList (rInt .i64)) v36 xs37] w ∧ K39 xs37 = some r) ?_ ?_
 ·rintro a w ⟨xs37, v36, S, H, hm⟩
  subst hK40
  refine wp_seq (wp_seq (region_plain ?_))
  refine lq (sv x33.1) S (q_move rfl) fun a S => ?_
  refine lq v36 S (q_move rfl) fun a S => ?_
  obtain ⟨x43, e44, hm⟩ := bind_some hm
  refine lx_call (xs := [.tmp 29, .tmp 30]) S trivial (by decide) rfl rfl Tryz.call71 ((impl_labelOf_ok (hG.ext H.ext).toGlob  (H.rdAt 0 rfl) e44).mono ?_)
  rintro e w41 ⟨rfl, Hc42⟩
  have H := H.call0 Hc42
  refine ⟨_, rfl, trivial, fun a S => ?_⟩
  refine lq (.tuple #[(sv x43.1), (.bool x43.2)]) S (q_move rfl) fun a S => ?_
  refine lq (sv x43.1) S (q_extract rfl rfl) fun a S => ?_
  refine lq (.bool x43.2) S (q_extract rfl rfl) fun a S => ?_
  refine lq (sv x43.1) S (q_assign rfl) fun a S => ?_
  refine lq (.bool x43.2) S (q_assign rfl) fun a S => ?_
  refine lx_nil (thenN ?_)
  refine wp_seq (region_plain ?_)
  refine lq (.bool x43.2) S (q_move rfl) fun a S => ?_
  refine lq (.bool (!x43.2)) S (q_not rfl) fun a S => ?_
  refine lq (.bool (!x43.2)) S (q_move rfl) fun a S => ?_
  obtain ⟨t46, e47, hm⟩ := bind_some hm
  refine lx_cut 4 (fun a w => Slots a 43 [(5, (sv x33.1)), (8, v36), (40, (.bool t46))] ∧ Heap w0 [oA (rList (rInt .i64)) v36 xs37] w) ?_ ?_
  ·by_cases hc48 : (!x43.2) = true
   ·have hm := ite_t hc48 e47
    refine lx_skip S rfl rfl (isB_ne hc48) (by decide) (fun a S => ?_)
    refine lx_skip S rfl rfl (isB_ne hc48) (by decide) (fun a S => ?_)
    refine lx_skip S rfl rfl (isB_ne hc48) (by decide) (fun a S => ?_)
    refine lq (.bool true) S (q_pickT' rfl hc48 rfl) fun a S => ?_
    refine lx_nil ?_
    obtain rfl := Option.some.inj hm
    exact ⟨S.sub ⟨rfl, rfl, rfl, trivial⟩, H⟩
   ·have hm := ite_f (eq_false_of_ne_true hc48) e47
    have hc48 : (!x43.2) = false := eq_false_of_ne_true hc48
    refine lx_q (sv x43.1) S (want_b rfl rfl hc48) (by decide) (q_move rfl) (fun a S => ?_)
    refine lx_q (sv a0) S (want_b rfl rfl hc48) (by decide) (q_move rfl) (fun a S => ?_)
    refine lx_q (.bool (x43.1 != a0)) S (want_b rfl rfl hc48) (by decide) (q_sneq rfl rfl) (fun a S => ?_)
    refine lq (.bool (x43.1 != a0)) S (q_pickF' rfl hc48 rfl) fun a S => ?_
    refine lx_nil ?_
    obtain rfl := Option.some.inj hm
    exact ⟨S.sub ⟨rfl, rfl, rfl, trivial⟩, H⟩
  ·rintro a w ⟨S, H⟩
   refine lx_nil (thenN ?_)
   refine cond_b S rfl (fun hc49 => ?_) (fun hc49 => ?_)
   ·have hm := ite_t hc49 hm
    refine wp_seq (region_plain ?_)
    refine lq (sv ([] : Str)) S (q_assign rfl) fun a S => ?_
    refine lq (.slice none 0 0) S (q_assign rfl) fun a S => ?_
    refine lq (.bool false) S (q_assign rfl) fun a S => ?_
    refine lx_nil (thenN ?_)
    refine wp_ret (then_ret ?_)
    obtain rfl := Option.some.inj hm
    have H : Heap w0 [oA (rList (rInt .i64)) (.slice none 0 0) ([] : List Int), oA (rList (rInt .i64)) v36 xs37] w := H.nilList (rInt .i64)
    have H : Heap w0 [oA (rList (rInt .i64)) (.slice none 0 0) ([] : List Int)] w := H.sel [0] (by decide)
    exact leave3 S rfl rfl rfl rfl ⟨(.slice none 0 0), rfl, H⟩
   ·have hm := ite_f hc49 hm
    refine wp_skip (thenN ?_)
    refine wp_seq (region_plain ?_)
    refine lq (sv x33.1) S (q_move rfl) fun a S => ?_
    refine lq v36 S (q_move rfl) fun a S => ?_
    refine lq (sv x33.1) S (q_assign rfl) fun a S => ?_
    refine lq v36 S (q_assign rfl) fun a S => ?_
    refine lq (.bool true) S (q_assign rfl) fun a S => ?_
    refine lx_nil (thenN ?_)
    refine wp_ret ?_
    obtain rfl := Option.some.inj hm
    exact leave3 S rfl rfl rfl rfl ⟨v36, rfl, H⟩
 ·skip
  refine wp_seq (region_plain ?_)
  refine lq (.bool x33.2.2) S (q_move rfl) fun a S => ?_
  refine lx_nil (thenN ?_)
  refine cond_b S rfl (fun hc51 => ?_) (fun hc51 => ?_)
  ·have hm := ite_t hc51 hm
   refine wp_seq (region_plain ?_)
   refine lq (.bool false) S (q_assign rfl) fun a S => ?_
   refine lx_nil (thenN ?_)
   refine wp_seq (region_plain ?_)
   refine lq (sv x33.2.1) S (q_move rfl) fun a S => ?_
   obtain ⟨x54, e55, hm⟩ := bind_some hm
   refine lx_call (xs := [.tmp 20, .const (sv [41])]) S trivial (by decide) rfl rfl Tryz.call70 ((strings_TrimSuffix_ok   e55).mono ?_)
   rintro e w52 ⟨rfl, Hc53⟩
   have H := H.call0 Hc53
   refine ⟨_, rfl, trivial, fun a S => ?_⟩
   obtain ⟨x59, e60, hm⟩ := bind_some hm
   refine lx_call (xs := [.tmp 21, .const (sv [44])]) S trivial (by decide) rfl rfl Tryz.call69 ((strings_Split_ok (hG.ext H.ext).toGlob   e60).mono ?_)
   rintro e w57 ⟨v61, rfl, Hc58⟩
   have H := H.call1 Hc58
   refine ⟨_, rfl, trivial, fun a S => ?_⟩
   obtain ⟨x66, e67, hm⟩ := bind_some hm
   refine lx_call (xs := [.tmp 22]) S trivial (by decide) rfl rfl Tryz.call68 ((impl_readNumbers_ok (hG.ext H.ext) (H.rdAt 0 rfl) e67).mono ?_)
   rintro e w64 ⟨v68, rfl, Hc65⟩
   have H := H.call1 Hc65
   refine ⟨_, rfl, trivial, fun a S => ?_⟩
   refine lq (.tuple #[v68, (.bool x66.2)]) S (q_move rfl) fun a S => ?_
   refine lq v68 S (q_extract rfl rfl) fun a S => ?_
   refine lq (.bool x66.2) S (q_extract rfl rfl) fun a S => ?_
   refine lq v68 S (q_assign rfl) fun a S => ?_
   refine lq (.bool x66.2) S (q_assign rfl) fun a S => ?_
   refine lx_nil (thenN ?_)
   refine wp_seq (region_plain ?_)
   refine lq (.bool x66.2) S (q_move rfl) fun a S => ?_
   refine lq (.bool (!x66.2)) S (q_not rfl) fun a S => ?_
   refine lx_nil (thenN ?_)
   refine cond_b S rfl (fun hc71 => ?_) (fun hc71 => ?_)
   ·have hm := ite_t hc71 hm
    refine wp_seq (region_plain ?_)
    refine lq (sv ([] : Str)) S (q_assign rfl) fun a S => ?_
    refine lq (.slice none 0 0) S (q_assign rfl) fun a S => ?_
    refine lq (.bool false) S (q_assign rfl) fun a S => ?_
    refine lx_nil (thenN ?_)
    refine wp_ret (then_ret ?_)
    obtain rfl := Option.some.inj hm
    have H : Heap w0 [oA (rList (rInt .i64)) (.slice none 0 0) ([] : List Int), oA (rList (rInt .i64)) v68 x66.1, oA (rList rStr) v61 x59] w64 := H.nilList (rInt .i64)
    have H : Heap w0 [oA (rList (rInt .i64)) (.slice none 0 0) ([] : List Int)] w64 := H.sel [0] (by decide)
    exact leave3 S rfl rfl rfl rfl ⟨(.slice none 0 0), rfl, H⟩
   ·have hm := ite_f hc71 hm
    refine wp_skip ?_
    have H : Heap w0 [oA (rList (rInt .i64)) v68 x66.1] w64 := H.sel [0] (by decide)
    exact ⟨x66.1, v68, S.sub ⟨rfl, rfl, rfl, trivial⟩, H, hm⟩
  ·have hm := ite_f hc51 hm
   refine wp_skip ?_
   have H : Heap w0 [oA (rList (rInt .i64)) (.slice none 0 0) ([] : List Int)] w31 := H.nilList (rInt .i64)
   exact ⟨[], (.slice none 0 0), S.sub ⟨rfl, rfl, rfl, trivial⟩, H, hm⟩

/-- impl.IsLabel -/
def impl_IsLabel_m (fuel : Nat) (a0 : Str) : Option (Bool) :=
  (impl_readLabel_m fuel a0).bind fun x33 => some (x33.2.2)
set_option maxRecDepth 20000 in
theorem impl_IsLabel_ok {w0 : World} {fuel : Nat} {a0 : Str} {r : Bool} (hG : GlobE Tryz.prog w0) (hm : impl_IsLabel_m fuel a0 = some r) :
  Calls Tryz.prog 54 #[sv a0] w0 fun e w => e = .returned (.bool r) ∧ Heap w0 [] w := by
 unfold impl_IsLabel_m at hm
 have H := Heap.start w0
 refine enter (args := [sv a0]) Tryz.func54 rfl 13 rfl (Nat.le_of_ble_eq_true rfl) (fun a S => ?_)
 refine wp_seq (region_plain ?_)
 refine lq (.bool false) S (q_assign rfl) fun a S => ?_
 refine lx_nil (thenN ?_)
 refine wp_seq (region_plain ?_)
 refine lq (sv a0) S (q_move rfl) fun a S => ?_
 obtain ⟨x33, e34, hm⟩ := bind_some hm
 refine lx_call (xs := [.tmp 7]) S trivial (by decide) rfl rfl Tryz.call41 ((impl_readLabel_ok (hG.ext H.ext)  e34).mono ?_)
 rintro e w31 ⟨v35, rfl, Hc32⟩
 have H := H.call1 Hc32
 refine ⟨_, rfl, trivial, fun a S => ?_⟩
 refine lq (.tuple #[(sv x33.1), v35, (.bool x33.2.2)]) S (q_move rfl) fun a S => ?_
 refine lq (sv x33.1) S (q_extract rfl rfl) fun a S => ?_
 refine lq v35 S (q_extract rfl rfl) fun a S => ?_
 refine lq (.bool x33.2.2) S (q_extract rfl rfl) fun a S => ?_
 refine lq (sv x33.1) S (q_assign rfl) fun a S => ?_
 refine lq v35 S (q_assign rfl) fun a S => ?_
 refine lq (.bool x33.2.2) S (q_assign rfl) fun a S => ?_
 refine lx_nil (thenN ?_)
 refine wp_seq (region_plain ?_)
 refine lq (.bool x33.2.2) S (q_move rfl) fun a S => ?_
 refine lq (.bool x33.2.2) S (q_assign rfl) fun a S => ?_
 refine lx_nil (thenN ?_)
 refine wp_ret ?_
 obtain rfl := Option.some.inj hm
 have H : Heap w0 [] w31 := H.sel [] (by decide)
 exact leave1 S rfl rfl ⟨rfl, H⟩

/-- impl.index -/
def impl_index_m (fuel : Nat) (a0 : Int) (a1 : Int) : Option (Bool) :=
  (impl_within_m fuel a0 (0 : Int) (W (a1 - (1 : Int)))).bind fun x33 => some (x33)
set_option maxRecDepth 20000 in
theorem impl_index_ok [dr : Dr] {w0 : World} {fuel : Nat} {a0 : Int} {a1 : Int} {r : Bool} (hm : impl_index_m fuel a0 a1 = some r) :
  Calls Tryz.prog 55 #[.int .i64 a0, .int .i64 a1] w0 fun e w => e = .returned (.bool r) ∧ Heap w0 [] w := by
 unfold impl_index_m at hm
 have H := Heap.start w0
 refine enter (args := [.int .i64 a0, .int .i64 a1]) Tryz.func55 rfl 9 rfl (Nat.le_of_ble_eq_true rfl) (fun a S => ?_)
 refine wp_seq (region_plain ?_)
 refine lq (.bool false) S (q_assign rfl) fun a S => ?_
 refine lx_nil (thenN ?_)
 refine wp_seq (region_plain ?_)
 refine lq (.int .i64 a0) S (q_move rfl) fun a S => ?_
 refine lq (.int .i64 a1) S (q_move rfl) fun a S => ?_
 refine lq (.int .i64 (W (a1 - (1 : Int)))) S (q_sub rfl rfl) fun a S => ?_
 obtain ⟨x33, e34, hm⟩ := bind_some hm
 refine lx_call (xs := [.tmp 5, .const (.int .i64 (0)), .tmp 7]) S trivial (by decide) rfl rfl Tryz.call52 ((impl_within_ok    e34).mono ?_)
 rintro e w31 ⟨rfl, Hc32⟩
 have H := H.call0 Hc32
 refine ⟨_, rfl, trivial, fun a S => ?_⟩
 refine lq (.bool x33) S (q_assign rfl) fun a S => ?_
 refine lx_nil (thenN ?_)
 refine wp_ret ?_
 obtain rfl := Option.some.inj hm
 exact leave1 S rfl rfl ⟨rfl, H⟩

/-- cmp.isNaN[int64] -/
def cmp_isNaN_int64_m (_ : Nat) (a0 : Int) : Option (Bool) :=
  some ((a0 != a0))
set_option maxRecDepth 20000 in
theorem cmp_isNaN_int64_ok [dr : Dr] {w0 : World} {fuel : Nat} {a0 : Int} {r : Bool} (hm : cmp_isNaN_int64_m fuel a0 = some r) :
  Calls Tryz.prog 105 #[.int .i64 a0] w0 fun e w => e = .returned (.bool r) ∧ Heap w0 [] w := by
 unfold cmp_isNaN_int64_m at hm
 have H := Heap.start w0
 refine enter (args := [.int .i64 a0]) Tryz.func105 rfl 6 rfl (Nat.le_of_ble_eq_true rfl) (fun a S => ?_)
 refine wp_seq (region_plain ?_)
 refine lq (.bool false) S (q_assign rfl) fun a S => ?_
 refine lx_nil (thenN ?_)
 refine wp_seq (region_plain ?_)
 refine lq (.int .i64 a0) S (q_move rfl) fun a S => ?_
 refine lq (.int .i64 a0) S (q_move rfl) fun a S => ?_
 refine lq (.bool (a0 != a0)) S (q_neq rfl rfl) fun a S => ?_
 refine lq (.bool (a0 != a0)) S (q_assign rfl) fun a S => ?_
 refine lx_nil (thenN ?_)
 refine wp_ret ?_
 obtain rfl := Option.some.inj hm
 exact leave1 S rfl rfl ⟨rfl, H⟩

/-- cmp.Compare[int64] -/
def cmp_Compare_int64_m (fuel : Nat) (a0 : Int) (a1 : Int) : Option (Int) :=
  (cmp_isNaN_int64_m fuel a0).bind fun x33 => (cmp_isNaN_int64_m fuel a1).bind fun x38 => (if x33 = true then (if x38 = true then some ((0 : Int)) else some ((-1 : Int))) else (if x38 = true then some ((1 : Int)) else (if (decide (a0 < a1)) = true then some ((-1 : Int)) else (if (decide (a1 < a0)) = true then some ((1 : Int)) else some ((0 : Int))))))
set_option maxRecDepth 20000 in
theorem cmp_Compare_int64_ok [dr : Dr] {w0 : World} {fuel : Nat} {a0 : Int} {a1 : Int} {r : Int} (hm : cmp_Compare_int64_m fuel a0 a1 = some r) :
  Calls Tryz.prog 82 #[.int .i64 a0, .int .i64 a1] w0 fun e w => e = .returned (.int .i64 r) ∧ Heap w0 [] w := by
 unfold cmp_Compare_int64_m at hm
 have H := Heap.start w0
 refine enter (args := [.int .i64 a0, .int .i64 a1]) Tryz.func82 rfl 20 rfl (Nat.le_of_ble_eq_true rfl) (fun a S => ?_)
 refine wp_seq (region_plain ?_)
 refine lq (.int .i64 (0 : Int)) S (q_assign rfl) fun a S => ?_
 refine lx_nil (thenN ?_)
 refine wp_seq (region_plain ?_)
 refine lq (.int .i64 a0) S (q_move rfl) fun a S => ?_
 obtain ⟨x33, e34, hm⟩ := bind_some hm
 refine lx_call (xs := [.tmp 7]) S trivial (by decide) rfl rfl Tryz.call105 ((cmp_isNaN_int64_ok  e34).mono ?_)
 rintro e w31 ⟨rfl, Hc32⟩
 have H := H.call0 Hc32
 refine ⟨_, rfl, trivial, fun a S => ?_⟩
 refine lq (.bool x33) S (q_assign rfl) fun a S => ?_
 refine lx_nil (thenN ?_)
 refine wp_seq (region_plain ?_)
 refine lq (.int .i64 a1) S (q_move rfl) fun a S => ?_
 obtain ⟨x38, e39, hm⟩ := bind_some hm
 refine lx_call (xs := [.tmp 9]) S trivial (by decide) rfl rfl Tryz.call105 ((cmp_isNaN_int64_ok  e39).mono ?_)
 rintro e w36 ⟨rfl, Hc37⟩
 have H := H.call0 Hc37
 refine ⟨_, rfl, trivial, fun a S => ?_⟩
 refine lq (.bool x38) S (q_assign rfl) fun a S => ?_
 refine lx_nil (thenN ?_)
 refine wp_seq (wp_seq (region_plain ?_))
 refine lq (.bool x33) S (q_move rfl) fun a S => ?_
 refine lx_nil (thenN ?_)
 refine cond_b S rfl (fun hc41 => ?_) (fun hc41 => ?_)
 ·have hm := ite_t hc41 hm
  refine wp_seq (wp_seq (region_plain ?_))
  refine lq (.bool x38) S (q_move rfl) fun a S => ?_
  refine lx_nil (thenN ?_)
  refine cond_b S rfl (fun hc42 => ?_) (fun hc42 => ?_)
  ·have hm := ite_t hc42 hm
   refine wp_seq (region_plain ?_)
   refine lq (.int .i64 (0 : Int)) S (q_assign rfl) fun a S => ?_
   refine lx_nil (thenN ?_)
   refine wp_ret (then_ret ?_)
   refine then_ret ?_
   obtain rfl := Option.some.inj hm
   exact leave1 S rfl rfl ⟨rfl, H⟩
  ·have hm := ite_f hc42 hm
   refine wp_skip (thenN ?_)
   refine wp_seq (region_plain ?_)
   refine lq (.int .i64 (-1 : Int)) S (q_assign rfl) fun a S => ?_
   refine lx_nil (thenN ?_)
   refine wp_ret (then_ret ?_)
   obtain rfl := Option.some.inj hm
   exact leave1 S rfl rfl ⟨rfl, H⟩
 ·have hm := ite_f hc41 hm
  refine wp_skip (thenN ?_)
  refine wp_seq (wp_seq (region_plain ?_))
  refine lq (.bool x38) S (q_move rfl) fun a S => ?_
  refine lx_nil (thenN ?_)
  refine cond_b S rfl (fun hc43 => ?_) (fun hc43 => ?_)
  ·have hm := ite_t hc43 hm
   refine wp_seq (region_plain ?_)
   refine lq (.int .i64 (1 : Int)) S (q_assign rfl) fun a S => ?_
   refine lx_nil (thenN ?_)
   refine wp_ret (then_ret ?_)
   obtain rfl := Option.some.inj hm
   exact leave1 S rfl rfl ⟨rfl, H⟩
  ·have hm := ite_f hc43 hm
   refine wp_skip (thenN ?_)
   refine wp_seq (wp_seq (region_plain ?_))
   refine lq (.int .i64 a0) S (q_move rfl) fun a S => ?_
   refine lq (.int .i64 a1) S (q_move rfl) fun a S => ?_
   refine lq (.bool (decide (a0 < a1))) S (q_lss rfl rfl) fun a S => ?_
   refine lx_nil (thenN ?_)
   refine cond_b S rfl (fun hc44 => ?_) (fun hc44 => ?_)
   ·have hm := ite_t hc44 hm
    refine wp_seq (region_plain ?_)
    refine lq (.int .i64 (-1 : Int)) S (q_assign rfl) fun a S => ?_
    refine lx_nil (thenN ?_)
    refine wp_ret (then_ret ?_)
    obtain rfl := Option.some.inj hm
    exact leave1 S rfl rfl ⟨rfl, H⟩
   ·have hm := ite_f hc44 hm
    refine wp_skip (thenN ?_)
    refine wp_seq (wp_seq (region_plain ?_))
    refine lq (.int .i64 a0) S (q_move rfl) fun a S => ?_
    refine lq (.int .i64 a1) S (q_move rfl) fun a S => ?_
    refine lq (.bool (decide (a1 < a0))) S (q_gtr rfl rfl) fun a S => ?_
    refine lx_nil (thenN ?_)
    refine cond_b S rfl (fun hc45 => ?_) (fun hc45 => ?_)
    ·have hm := ite_t hc45 hm
     refine wp_seq (region_plain ?_)
     refine lq (.int .i64 (1 : Int)) S (q_assign rfl) fun a S => ?_
     refine lx_nil (thenN ?_)
     refine wp_ret (then_ret ?_)
     obtain rfl := Option.some.inj hm
     exact leave1 S rfl rfl ⟨rfl, H⟩
    ·have hm := ite_f hc45 hm
     refine wp_skip (thenN ?_)
     refine wp_seq (region_plain ?_)
     refine lq (.int .i64 (0 : Int)) S (q_assign rfl) fun a S => ?_
     refine lx_nil (thenN ?_)
     refine wp_ret ?_
     obtain rfl := Option.some.inj hm
     exact leave1 S rfl rfl ⟨rfl, H⟩

/-- cmp.Or[int] -/
def cmp_Or_int_m (fuel : Nat) (a0 : (List Int)) : Option (Int) :=
  (iter (fun (s : (Int)) => (match s with | (x39) => (if (decide (x39 < (a0.length : Int))) = true then (idx a0 x39).bind fun x57 => (if (x57 != (0 : Int)) = true then some (.inr (.inr x57)) else some (.inl ((W (x39 + (1 : Int)))))) else some (.inr (.inl ()))) : Option (((Int)) ⊕ ((Unit) ⊕ (Int))))) fuel ((0 : Int))).bind fun res48 => ctl (β := Unit) (ρ := Int) (τ := Int) res48 (fun _ => some ((0 : Int))) (fun q => some (q))
set_option maxRecDepth 20000 in
theorem cmp_Or_int_ok [dr : Dr] {w0 : World} {fuel : Nat} {p0 : Value} {a0 : (List Int)} {r : Int} (h0 : Rd (rList (rInt .i64)) w0 p0 a0) (hm : cmp_Or_int_m fuel a0 = some r) :
  Calls Tryz.prog 81 #[p0] w0 fun e w => e = .returned (.int .i64 r) ∧ Heap w0 [] w := by
 unfold cmp_Or_int_m at hm
 have H := Heap.start w0
 refine enter (args := [p0]) Tryz.func81 rfl 18 rfl (Nat.le_of_ble_eq_true rfl) (fun a S => ?_)
 refine wp_seq (region_plain ?_)
 refine lq (.int .i64 (0 : Int)) S (q_assign rfl) fun a S => ?_
 refine lx_nil (thenN ?_)
 refine wp_seq (region_plain ?_)
 refine lq (.int .i64 (0 : Int)) S (q_assign rfl) fun a S => ?_
 refine lx_nil (thenN ?_)
 refine wp_seq (wp_seq (region_plain ?_))
 refine lq p0 S (q_move rfl) fun a S => ?_
 refine lq (.int .i64 (a0.length : Int)) S (q_lenSl rfl (h0).isSl rfl Tryz.underlying123) fun a S => ?_
 refine lq (.int .i64 (0 : Int)) S (q_move rfl) fun a S => ?_
 refine lx_nil (thenN ?_)
 obtain ⟨res48, hit49, hk52⟩ := bind_some hm
 obtain ⟨f50, hf51, hit49⟩ := iter_name hit49
 refine block_loop (fun a w => Slots a 18 [(3, (.int .i64 (0 : Int)))] ∧ Heap w0 [] w ∧ res48 = .inl ()) ?_ ?_
 ·rintro a w ⟨S, H, rfl⟩
  have hm := ctl_inl hk52
  refine thenN ?_
  refine wp_seq (region_plain ?_)
  refine lq (.int .i64 (0 : Int)) S (q_move rfl) fun a S => ?_
  refine lq (.int .i64 (0 : Int)) S (q_assign rfl) fun a S => ?_
  refine lx_nil (thenN ?_)
  refine wp_ret ?_
  obtain rfl := Option.some.inj hm
  exact leave1 S rfl rfl ⟨rfl, H⟩
 ·skip
  refine loop_ghost (fun n a w => ∃ (x39 : Int), Slots a 18 [(3, (.int .i64 (0 : Int))), (6, p0), (7, (.int .i64 (a0.length : Int))), (8, (.int .i64 x39))] ∧ Heap w0 [] w ∧ iter f50 n (x39) = some res48) _ ⟨(0 : Int), S.sub ⟨rfl, rfl, rfl, rfl, trivial⟩, H, hit49⟩ ?_
  rintro n a w ⟨x39, S, H, hit49⟩
  obtain ⟨m53, o54, rfl, hm, hc55⟩ := iter_step hit49
  rw [hf51] at hm
  refine wp_seq (region_plain ?_)
  refine lq (.bool (decide (x39 < (a0.length : Int)))) S (q_lss rfl rfl) fun a S => ?_
  refine lx_nil (thenN ?_)
  refine wp_seq ?_
  refine cond_b S rfl (fun hc56 => ?_) (fun hc56 => ?_)
  ·have hm := ite_t hc56 hm
   refine wp_skip (thenN ?_)
   refine wp_seq ?_
   refine wp_block ?_
   refine wp_seq (region_plain ?_)
   obtain ⟨x57, e58, hm⟩ := bind_some hm
   obtain ⟨c59, h60, hat61⟩ := (h0).elem (idx_some e58).2
   obtain rfl := h60
   have hlt := lt_of_idx (idx_some e58).2
   refine lq (ePtr p0 (x39.toNat * 1)) S (q_indexAddr rfl (h0).isSl rfl (idx_some e58).1 hlt Tryz.underlying123 Tryz.sizeOf3) fun a S => ?_
   refine lx_e (.int .i64 x57) S trivial (by decide) rfl trivial (q_load1 rfl Tryz.isAgg3 (by rintro _ rfl; exact ((hat61 0 _ rfl).ext H.ext))) (fun a S => ?_)
   refine lq (.int .i64 x57) S (q_assign rfl) fun a S => ?_
   refine lx_nil (thenN ?_)
   refine wp_seq (region_plain ?_)
   refine lq (.int .i64 x57) S (q_move rfl) fun a S => ?_
   refine lq (.int .i64 (0 : Int)) S (q_move rfl) fun a S => ?_
   refine lq (.bool (x57 != (0 : Int))) S (q_neq rfl rfl) fun a S => ?_
   refine lx_nil (thenN ?_)
   refine cond_b S rfl (fun hc62 => ?_) (fun hc62 => ?_)
   ·have hm := ite_t hc62 hm
    refine wp_seq (region_plain ?_)
    refine lq (.int .i64 x57) S (q_move rfl) fun a S => ?_
    refine lq (.int .i64 x57) S (q_assign rfl) fun a S => ?_
    refine lx_nil (thenN ?_)
    refine wp_ret (inBlock_ret ?_)
    refine then_ret ?_
    refine then_ret ?_
    refine inBlock_ret ?_
    refine then_ret ?_
    refine then_ret ?_
    obtain rfl := it_brk hm hc55
    have hm := ctl_inr hk52
    obtain rfl := Option.some.inj hm
    exact leave1 S rfl rfl ⟨rfl, H⟩
   ·have hm := ite_f hc62 hm
    refine wp_skip ?_
    refine inBlock_norm ?_
    refine thenN ?_
    refine region_plain ?_
    refine lq (.int .i64 (W (x39 + (1 : Int)))) S (q_add rfl rfl) fun a S => ?_
    refine lq (.int .i64 (W (x39 + (1 : Int)))) S (q_move rfl) fun a S => ?_
    refine lx_nil ?_
    exact ⟨m53, Nat.lt_succ_self _, (W (x39 + (1 : Int))), S.sub ⟨rfl, rfl, rfl, rfl, trivial⟩, H, it_cont hm hc55⟩
  ·have hm := ite_f hc56 hm
   refine wp_exit ?_
   refine then_exit ?_
   refine then_exit ?_
   refine inBlock_exit ?_
   obtain rfl := it_brk hm hc55
   exact ⟨S.sub ⟨rfl, trivial⟩, H, rfl⟩

/-- impl.compareEdges -/
def impl_compareEdges_m (fuel : Nat) (a0 : Timpl_Edge) (a1 : Timpl_Edge) : Option (Int) :=
  (cmp_Compare_int64_m fuel a0.1 a1.1).bind fun x61 => (cmp_Compare_int64_m fuel a0.2.1 a1.2.1).bind fun x66 => (cmp_Compare_int64_m fuel a0.2.2 a1.2.2).bind fun x71 => (cmp_Or_int_m fuel [x61, x66, x71]).bind fun x79 => some (x79)
set_option maxRecDepth 20000 in
theorem impl_compareEdges_ok [dr : Dr] {w0 : World} {fuel : Nat} {p0 p1 : Value} {a0 : Timpl_Edge} {a1 : Timpl_Edge} {r : Int} (h0 : Rd Rimpl_Edge w0 p0 a0) (h1 : Rd Rimpl_Edge w0 p1 a1) (hm : impl_compareEdges_m fuel a0 a1 = some r) :
  Calls Tryz.prog 56 #[p0, p1] w0 fun e w => e = .returned (.int .i64 r) ∧ Heap w0 [] w := by
 unfold impl_compareEdges_m at hm
 have H := Heap.start w0
 obtain ⟨c31, rfl, h32⟩ := h0
 obtain ⟨c33, c34, rfl, h35, h36⟩ := h32
 obtain rfl := h35
 obtain ⟨c37, c38, rfl, h39, h40⟩ := h36
 obtain rfl := h39
 obtain rfl := h40
 obtain ⟨c41, rfl, h42⟩ := h1
 obtain ⟨c43, c44, rfl, h45, h46⟩ := h42
 obtain rfl := h45
 obtain ⟨c47, c48, rfl, h49, h50⟩ := h46
 obtain rfl := h49
 obtain rfl := h50
 refine enter (args := [(.agg #[(.int .i64 a0.1), (.int .i64 a0.2.1), (.int .i64 a0.2.2)]), (.agg #[(.int .i64 a1.1), (.int .i64 a1.2.1), (.int .i64 a1.2.2)])]) Tryz.func56 rfl 22 rfl (Nat.le_of_ble_eq_true rfl) (fun a S => ?_)
 refine wp_seq (region_plain ?_)
 refine lx_box S trivial (by decide) rfl H rfl rfl (fun b51 w52 H => ⟨trivial, fun a S => ?_⟩)
 refine lx_box S trivial (by decide) rfl H rfl rfl (fun b54 w55 H => ⟨trivial, fun a S => ?_⟩)
 refine lq (.int .i64 (0 : Int)) S (q_assign rfl) fun a S => ?_
 refine lx_nil (thenN ?_)
 refine wp_seq ?_
 refine region_drawG (fun w1 => Heap w0 [bA b54 [(.int .i64 a1.1), (.int .i64 a1.2.1), (.int .i64 a1.2.2)] 68, bA b51 [(.int .i64 a0.1), (.int .i64 a0.2.1), (.int .i64 a0.2.2)] 68] w1) (fun i => [4, 9, 14, 15, 16].contains i) mixed (by kernel_rfl) (fun w58 he57 => ?_)
 have H := H.later he57
 refine ⟨H.sel [0, 1] (by decide), ?_⟩
 refine lq (pAdd (bp b51) 0) S (q_fieldAddr' 0 2 rfl (isP_bp _) Tryz.underlying68 rfl Tryz.sizeOf2) fun a S => ?_
 refine lq (.int .i64 a0.1) S (q_load1 rfl Tryz.isAgg2 (fun w1 hC => (At.of_add (m := 0) (j := 0) (boxAt (i := 1) hC rfl (j := 0) rfl)))) fun a S => ?_
 refine lq (pAdd (bp b54) 0) S (q_fieldAddr' 0 2 rfl (isP_bp _) Tryz.underlying68 rfl Tryz.sizeOf2) fun a S => ?_
 refine lq (.int .i64 a1.1) S (q_load1 rfl Tryz.isAgg2 (fun w1 hC => (At.of_add (m := 0) (j := 0) (boxAt (i := 0) hC rfl (j := 0) rfl)))) fun a S => ?_
 obtain ⟨x61, e62, hm⟩ := bind_some hm
 refine lx_call (xs := [.tmp 6, .tmp 8]) S trivial (by decide) rfl rfl Tryz.call82 ((cmp_Compare_int64_ok   e62).mono ?_)
 rintro e w59 ⟨rfl, Hc60⟩
 have H := H.call0 Hc60
 refine ⟨_, rfl, H.sel [0, 1] (by decide), fun a S => ?_⟩
 refine lq (pAdd (bp b51) 1) S (q_fieldAddr' 1 2 rfl (isP_bp _) Tryz.underlying68 rfl Tryz.sizeOf2) fun a S => ?_
 refine lq (.int .i64 a0.2.1) S (q_load1 rfl Tryz.isAgg2 (fun w1 hC => (At.of_add (m := 1) (j := 0) (boxAt (i := 1) hC rfl (j := 1) rfl)))) fun a S => ?_
 refine lq (pAdd (bp b54) 1) S (q_fieldAddr' 1 2 rfl (isP_bp _) Tryz.underlying68 rfl Tryz.sizeOf2) fun a S => ?_
 refine lq (.int .i64 a1.2.1) S (q_load1 rfl Tryz.isAgg2 (fun w1 hC => (At.of_add (m := 1) (j := 0) (boxAt (i := 0) hC rfl (j := 1) rfl)))) fun a S => ?_
 obtain ⟨x66, e67, hm⟩ := bind_some hm
 refine lx_call (xs := [.tmp 11, .tmp 13]) S trivial (by decide) rfl rfl Tryz.call82 ((cmp_Compare_int64_ok   e67).mono ?_)
 rintro e w64 ⟨rfl, Hc65⟩
 have H := H.call0 Hc65
 refine ⟨_, rfl, H.sel [0, 1] (by decide), fun a S => ?_⟩
 refine lq (pAdd (bp b51) 2) S (q_fieldAddr' 2 2 rfl (isP_bp _) Tryz.underlying68 rfl Tryz.sizeOf2) fun a S => ?_
 refine lq (.int .i64 a0.2.2) S (q_load1 rfl Tryz.isAgg2 (fun w1 hC => (At.of_add (m := 2) (j := 0) (boxAt (i := 1) hC rfl (j := 2) rfl)))) fun a S => ?_
 refine lq (pAdd (bp b54) 2) S (q_fieldAddr' 2 2 rfl (isP_bp _) Tryz.underlying68 rfl Tryz.sizeOf2) fun a S => ?_
 refine lq (.int .i64 a1.2.2) S (q_load1 rfl Tryz.isAgg2 (fun w1 hC => (At.of_add (m := 2) (j := 0) (boxAt (i := 0) hC rfl (j := 2) rfl)))) fun a S => ?_
 obtain ⟨x71, e72, hm⟩ := bind_some hm
 refine lx_call (xs := [.tmp 16, .tmp 18]) S trivial (by decide) rfl rfl Tryz.call82 ((cmp_Compare_int64_ok   e72).mono ?_)
 rintro e w69 ⟨rfl, Hc70⟩
 have H := H.call0 Hc70
 refine ⟨_, rfl, H.sel [0, 1] (by decide), fun a S => ?_⟩
 refine lx_buildSlice (r := (rInt .i64)) (xs := [x61, x66, x71]) (ps := [(0, [(.int .i64 x61)]), (1, [(.int .i64 x66)]), (2, [(.int .i64 x71)])]) (cs := [(.int .i64 x61), (.int .i64 x66), (.int .i64 x71)]) (parts := [(0, .tmp 9), (1, .tmp 14), (2, .tmp 19)]) S trivial (by decide) rfl (H.put0 (A := eA) rfl) rfl Tryz.underlying123 Tryz.sizeOf3 Tryz.zeroValue3 (by decide) ⟨rfl, rfl, Nat.le_of_ble_eq_true rfl, ⟨rfl, rfl, Nat.le_of_ble_eq_true rfl, ⟨rfl, rfl, Nat.le_of_ble_eq_true rfl, trivial⟩⟩⟩ (by intro zs hz; exact fill_dense hz ⟨rfl, ⟨rfl, ⟨rfl, trivial⟩⟩⟩ rfl rfl) rfl (by decide) (fun w F hA => by cases (show F = [] from hA); exact ⟨_, _, [(.int .i64 x61)], _, rfl, rfl, ⟨rfl, rfl⟩, ⟨_, _, [(.int .i64 x66)], _, rfl, rfl, ⟨rfl, rfl⟩, ⟨_, _, [(.int .i64 x71)], _, rfl, rfl, ⟨rfl, rfl⟩, ⟨rfl, rfl⟩⟩⟩⟩) (fun v74 w75 H => ⟨H.sel [1, 2] (by decide), fun a S => ?_⟩)
 obtain ⟨x79, e80, hm⟩ := bind_some hm
 refine lx_call (xs := [.tmp 20]) S trivial (by decide) rfl rfl Tryz.call81 ((cmp_Or_int_ok (H.rdAt 0 rfl) e80).mono ?_)
 rintro e w77 ⟨rfl, Hc78⟩
 have H := H.call0 Hc78
 refine ⟨_, rfl, H.sel [1, 2] (by decide), fun a S => ?_⟩
 refine lq (.int .i64 x79) S (q_assign rfl) fun a S => ?_
 refine lx_nil (thenN ?_)
 refine wp_ret ?_
 obtain rfl := Option.some.inj hm
 have H : Heap w0 [] w77 := H.sel [] (by decide)
 exact leave1 S rfl rfl ⟨rfl, H⟩

/-- impl.ValidLts -/
def impl_ValidLts_m (fuel : Nat) (a0 : Timpl_Lts) : Option (Bool) :=
  (impl_within_m fuel a0.1 (1 : Int) (40 : Int)).bind fun x54 => (if (!x54) = true then some true else (impl_Lts_isState_m fuel (a0.1, a0.2.1, a0.2.2.1, a0.2.2.2) a0.2.1).bind fun x62 => some (!x62)).bind fun t57 => (if t57 = true then some true else (impl_within_m fuel (a0.2.2.1.length : Int) (1 : Int) (12 : Int)).bind fun x70 => some (!x70)).bind fun t65 => (if t65 = true then some true else some (decide ((300 : Int) < (a0.2.2.2.length : Int)))).bind fun t73 => (if t73 = true then some (false) else (iter (fun (s : (Int)) => (match s with | (x104) => (if (decide (x104 < (a0.2.2.1.length : Int))) = true then (idx a0.2.2.1 x104).bind fun x350 => (impl_IsLabel_m fuel x350).bind fun x357 => (if (!x357) = true then some true else some ((x350 == ([116, 97, 117] : Str)) != (x104 == (0 : Int)))).bind fun t360 => (if t360 = true then some true else (if (decide ((1 : Int) < x104)) = true then (idx a0.2.2.1 (W (x104 - (1 : Int)))).bind fun x369 => some (Op.bytesLess x350 x369 || x350 == x369) else some false).bind fun t366 => some t366).bind fun t363 => (if t363 = true then some (.inr (.inr false)) else some (.inl ((W (x104 + (1 : Int)))))) else some (.inr (.inl ()))) : Option (((Int)) ⊕ ((Unit) ⊕ (Bool))))) fuel ((0 : Int))).bind fun res132 => ctl (β := Unit) (ρ := Bool) (τ := Bool) res132 (fun _ => (iter (fun (s : (Int)) => (match s with | (x204) => (if (decide (x204 < (a0.2.2.2.length : Int))) = true then (idx a0.2.2.2 x204).bind fun x281 => (impl_Lts_isState_m fuel (a0.1, a0.2.1, a0.2.2.1, a0.2.2.2) x281.1).bind fun x302 => (if (!x302) = true then some true else (impl_Lts_isState_m fuel (a0.1, a0.2.1, a0.2.2.1, a0.2.2.2) x281.2.2).bind fun x310 => some (!x310)).bind fun t305 => (if t305 = true then some true else (impl_index_m fuel x281.2.1 (a0.2.2.1.length : Int)).bind fun x318 => some (!x318)).bind fun t313 => (if t313 = true then some true else (if (decide ((0 : Int) < x204)) = true then (idx a0.2.2.2 (W (x204 - (1 : Int)))).bind fun x327 => (impl_compareEdges_m fuel (x327.1, x327.2.1, x327.2.2) (x281.1, x281.2.1, x281.2.2)).bind fun x342 => some (decide ((0 : Int) ≤ x342)) else some false).bind fun t324 => some t324).bind fun t321 => (if t321 = true then some (.inr (.inr false)) else some (.inl ((W (x204 + (1 : Int)))))) else some (.inr (.inl ()))) : Option (((Int)) ⊕ ((Unit) ⊕ (Bool))))) fuel ((0 : Int))).bind fun res272 => ctl (β := Unit) (ρ := Bool) (τ := Bool) res272 (fun _ => some (true)) (fun q => some (q))) (fun q => some (q)))
set_option maxRecDepth 20000 in
theorem impl_ValidLts_ok {w0 : World} {fuel : Nat} {p0 : Value} {a0 : Timpl_Lts} {r : Bool} (hG : GlobE Tryz.prog w0) (h0 : Rd Rimpl_Lts w0 p0 a0) (hm : impl_ValidLts_m fuel a0 = some r) :
  Calls Tryz.prog 29 #[p0] w0 fun e w => e = .returned (.bool r) ∧ Heap w0 [] w := by
 unfold impl_ValidLts_m at hm
 have H := Heap.start w0
 obtain ⟨c31, rfl, h32⟩ := h0
 obtain ⟨c37, c38, rfl, h39, h40⟩ := h32
 obtain rfl := h39
 obtain ⟨c41, c42, rfl, h43, h44⟩ := h40
 obtain rfl := h43
 obtain ⟨c45, c46, rfl, h47, h48⟩ := h44
 obtain ⟨v33, rfl, h34⟩ := rd_list h47
 obtain ⟨v35, rfl, h36⟩ := rd_list h48
 refine enter (args := [(.agg #[(.int .i64 a0.1), (.int .i64 a0.2.1), v33, v35])]) Tryz.func29 rfl 109 rfl (Nat.le_of_ble_eq_true rfl) (fun a S => ?_)
 refine wp_seq (region_plain ?_)
 refine lx_box S trivial (by decide) rfl H rfl rfl (fun b49 w50 H => ⟨trivial, fun a S => ?_⟩)
 refine lq (.bool false) S (q_assign rfl) fun a S => ?_
 refine lx_nil (thenN ?_)
 refine wp_seq (wp_seq (region_plain ?_))
 refine lq (pAdd (bp b49) 0) S (q_fieldAddr' 0 2 rfl (isP_bp _) Tryz.underlying31 rfl Tryz.sizeOf2) fun a S => ?_
 refine lx_e (.int .i64 a0.1) S trivial (by decide) rfl trivial (q_load1 rfl Tryz.isAgg2 (by rintro _ rfl; exact (At.of_add (m := 0) (j := 0) (boxAt (i := 0) H rfl (j := 0) rfl)))) (fun a S => ?_)
 obtain ⟨x54, e55, hm⟩ := bind_some hm
 refine lx_call (xs := [.tmp 8, .const (.int .i64 (1)), .const (.int .i64 (40))]) S trivial (by decide) rfl rfl Tryz.call52 ((impl_within_ok    e55).mono ?_)
 rintro e w52 ⟨rfl, Hc53⟩
 have H := H.call0 Hc53
 refine ⟨_, rfl, trivial, fun a S => ?_⟩
 refine lq (.bool (!x54)) S (q_not rfl) fun a S => ?_
 refine lq (.bool (!x54)) S (q_move rfl) fun a S => ?_
 obtain ⟨t57, e58, hm⟩ := bind_some hm
 refine lx_cut 6 (fun a w => Slots a 109 [(1, (bp b49)), (17, (.bool t57))] ∧ Heap w0 [bA b49 [(.int .i64 a0.1), (.int .i64 a0.2.1), v33, v35] 31] w) ?_ ?_
 ·by_cases hc59 : (!x54) = true
  ·have hm := ite_t hc59 e58
   refine lx_skip S rfl rfl (isB_ne hc59) (by decide) (fun a S => ?_)
   refine lx_skip S rfl rfl (isB_ne hc59) (by decide) (fun a S => ?_)
   refine lx_skip S rfl rfl (isB_ne hc59) (by decide) (fun a S => ?_)
   refine lx_skip S rfl rfl (isB_ne hc59) (by decide) (fun a S => ?_)
   refine lx_skip S rfl rfl (isB_ne hc59) (by decide) (fun a S => ?_)
   refine lq (.bool true) S (q_pickT' rfl hc59 rfl) fun a S => ?_
   refine lx_nil ?_
   obtain rfl := Option.some.inj hm
   exact ⟨S.sub ⟨rfl, rfl, trivial⟩, H⟩
  ·have hm := ite_f (eq_false_of_ne_true hc59) e58
   have hc59 : (!x54) = false := eq_false_of_ne_true hc59
   refine lx_e (.agg #[(.int .i64 a0.1), (.int .i64 a0.2.1), v33, v35]) S (want_b rfl rfl hc59) (by decide) rfl trivial (q_loadA (cs := [(.int .i64 a0.1), (.int .i64 a0.2.1), v33, v35]) rfl (isP_bp _) Tryz.isAgg31 Tryz.sizeOf31 (by rintro _ rfl; exact (fun j u hu => boxAt (i := 0) H rfl hu))) (fun a S => ?_)
   refine lx_q (pAdd (bp b49) 1) S (want_b rfl rfl hc59) (by decide) (q_fieldAddr' 1 2 rfl (isP_bp _) Tryz.underlying31 rfl Tryz.sizeOf2) (fun a S => ?_)
   refine lx_e (.int .i64 a0.2.1) S (want_b rfl rfl hc59) (by decide) rfl trivial (q_load1 rfl Tryz.isAgg2 (by rintro _ rfl; exact (At.of_add (m := 1) (j := 0) (boxAt (i := 0) H rfl (j := 1) rfl)))) (fun a S => ?_)
   obtain ⟨x62, e63, hm⟩ := bind_some hm
   refine lx_call (xs := [.tmp 12, .tmp 14]) S (want_b rfl rfl hc59) (by decide) rfl rfl Tryz.call53 ((impl_Lts_isState_ok ⟨[(.int .i64 a0.1), (.int .i64 a0.2.1), v33, v35], rfl, ⟨[(.int .i64 a0.1)], [(.int .i64 a0.2.1), v33, v35], rfl, rfl, ⟨[(.int .i64 a0.2.1)], [v33, v35], rfl, rfl, ⟨[v33], [v35], rfl, ((H.arg h34)).list_rd, ((H.arg h36)).list_rd⟩⟩⟩⟩  e63).mono ?_)
   rintro e w60 ⟨rfl, Hc61⟩
   have H := H.call0 Hc61
   refine ⟨_, rfl, trivial, fun a S => ?_⟩
   refine lx_q (.bool (!x62)) S (want_b rfl rfl hc59) (by decide) (q_not rfl) (fun a S => ?_)
   refine lq (.bool (!x62)) S (q_pickF' rfl hc59 rfl) fun a S => ?_
   refine lx_nil ?_
   obtain rfl := Option.some.inj hm
   exact ⟨S.sub ⟨rfl, rfl, trivial⟩, H⟩
 ·rintro a w ⟨S, H⟩
  refine lq (.bool t57) S (q_move rfl) fun a S => ?_
  obtain ⟨t65, e66, hm⟩ := bind_some hm
  refine lx_cut 6 (fun a w => Slots a 109 [(1, (bp b49)), (24, (.bool t65))] ∧ Heap w0 [bA b49 [(.int .i64 a0.1), (.int .i64 a0.2.1), v33, v35] 31] w) ?_ ?_
  ·by_cases hc67 : t57 = true
   ·have hm := ite_t hc67 e66
    refine lx_skip S rfl rfl (isB_ne hc67) (by decide) (fun a S => ?_)
    refine lx_skip S rfl rfl (isB_ne hc67) (by decide) (fun a S => ?_)
    refine lx_skip S rfl rfl (isB_ne hc67) (by decide) (fun a S => ?_)
    refine lx_skip S rfl rfl (isB_ne hc67) (by decide) (fun a S => ?_)
    refine lx_skip S rfl rfl (isB_ne hc67) (by decide) (fun a S => ?_)
    refine lq (.bool true) S (q_pickT' rfl hc67 rfl) fun a S => ?_
    refine lx_nil ?_
    obtain rfl := Option.some.inj hm
    exact ⟨S.sub ⟨rfl, rfl, trivial⟩, H⟩
   ·have hm := ite_f (eq_false_of_ne_true hc67) e66
    have hc67 : t57 = false := eq_false_of_ne_true hc67
    refine lx_q (pAdd (bp b49) 2) S (want_b rfl rfl hc67) (by decide) (q_fieldAddr' 2 22 rfl (isP_bp _) Tryz.underlying31 rfl Tryz.sizeOf22) (fun a S => ?_)
    refine lx_e v33 S (want_b rfl rfl hc67) (by decide) rfl trivial (q_load1 rfl Tryz.isAgg22 (by rintro _ rfl; exact (At.of_add (m := 2) (j := 0) (boxAt (i := 0) H rfl (j := 2) rfl)))) (fun a S => ?_)
    refine lx_q (.int .i64 (a0.2.2.1.length : Int)) S (want_b rfl rfl hc67) (by decide) (q_lenSl rfl (h34).isSl rfl Tryz.underlying22) (fun a S => ?_)
    obtain ⟨x70, e71, hm⟩ := bind_some hm
    refine lx_call (xs := [.tmp 21, .const (.int .i64 (1)), .const (.int .i64 (12))]) S (want_b rfl rfl hc67) (by decide) rfl rfl Tryz.call52 ((impl_within_ok    e71).mono ?_)
    rintro e w68 ⟨rfl, Hc69⟩
    have H := H.call0 Hc69
    refine ⟨_, rfl, trivial, fun a S => ?_⟩
    refine lx_q (.bool (!x70)) S (want_b rfl rfl hc67) (by decide) (q_not rfl) (fun a S => ?_)
    refine lq (.bool (!x70)) S (q_pickF' rfl hc67 rfl) fun a S => ?_
    refine lx_nil ?_
    obtain rfl := Option.some.inj hm
    exact ⟨S.sub ⟨rfl, rfl, trivial⟩, H⟩
  ·rintro a w ⟨S, H⟩
   refine lq (.bool t65) S (q_move rfl) fun a S => ?_
   obtain ⟨t73, e74, hm⟩ := bind_some hm
   refine lx_cut 5 (fun a w => Slots a 109 [(1, (bp b49)), (30, (.bool t73))] ∧ Heap w0 [bA b49 [(.int .i64 a0.1), (.int .i64 a0.2.1), v33, v35] 31] w) ?_ ?_
   ·by_cases hc75 : t65 = true
    ·have hm := ite_t hc75 e74
     refine lx_skip S rfl rfl (isB_ne hc75) (by decide) (fun a S => ?_)
     refine lx_skip S rfl rfl (isB_ne hc75) (by decide) (fun a S => ?_)
     refine lx_skip S rfl rfl (isB_ne hc75) (by decide) (fun a S => ?_)
     refine lx_skip S rfl rfl (isB_ne hc75) (by decide) (fun a S => ?_)
     refine lq (.bool true) S (q_pickT' rfl hc75 rfl) fun a S => ?_
     refine lx_nil ?_
     obtain rfl := Option.some.inj hm
     exact ⟨S.sub ⟨rfl, rfl, trivial⟩, H⟩
    ·have hm := ite_f (eq_false_of_ne_true hc75) e74
     have hc75 : t65 = false := eq_false_of_ne_true hc75
     refine lx_q (pAdd (bp b49) 3) S (want_b rfl rfl hc75) (by decide) (q_fieldAddr' 3 29 rfl (isP_bp _) Tryz.underlying31 rfl Tryz.sizeOf29) (fun a S => ?_)
     refine lx_e v35 S (want_b rfl rfl hc75) (by decide) rfl trivial (q_load1 rfl Tryz.isAgg29 (by rintro _ rfl; exact (At.of_add (m := 3) (j := 0) (boxAt (i := 0) H rfl (j := 3) rfl)))) (fun a S => ?_)
     refine lx_q (.int .i64 (a0.2.2.2.length : Int)) S (want_b rfl rfl hc75) (by decide) (q_lenSl rfl (h36).isSl rfl Tryz.underlying29) (fun a S => ?_)
     refine lx_q (.bool (decide ((300 : Int) < (a0.2.2.2.length : Int)))) S (want_b rfl rfl hc75) (by decide) (q_gtr rfl rfl) (fun a S => ?_)
     refine lq (.bool (decide ((300 : Int) < (a0.2.2.2.length : Int)))) S (q_pickF' rfl hc75 rfl) fun a S => ?_
     refine lx_nil ?_
     obtain rfl := Option.some.inj hm
     exact ⟨S.sub ⟨rfl, rfl, trivial⟩, H⟩
   ·rintro a w ⟨S, H⟩
    refine lx_nil (thenN ?_)
    refine cond_b S rfl (fun hc76 => ?_) (fun hc76 => ?_)
    ·have hm := ite_t hc76 hm
     refine wp_seq (region_plain ?_)
     refine lq (.bool false) S (q_assign rfl) fun a S => ?_
     refine lx_nil (thenN ?_)
     refine wp_ret (then_ret ?_)
     obtain rfl := Option.some.inj hm
     have H : Heap w0 [] w := H.sel [] (by decide)
     exact leave1 S rfl rfl ⟨rfl, H⟩
    ·have hm := ite_f hc76 hm
     refine wp_skip (thenN ?_)
     refine wp_seq (wp_seq (region_plain ?_))
     refine lq (pAdd (bp b49) 2) S (q_fieldAddr' 2 22 rfl (isP_bp _) Tryz.underlying31 rfl Tryz.sizeOf22) fun a S => ?_
     refine lx_e v33 S trivial (by decide) rfl trivial (q_load1 rfl Tryz.isAgg22 (by rintro _ rfl; exact (At.of_add (m := 2) (j := 0) (boxAt (i := 0) H rfl (j := 2) rfl)))) (fun a S => ?_)
     refine lq (.int .i64 (a0.2.2.1.length : Int)) S (q_lenSl rfl (h34).isSl rfl Tryz.underlying22) fun a S => ?_
     refine lq (.int .i64 (0 : Int)) S (q_move rfl) fun a S => ?_
     refine lx_nil (thenN ?_)
     obtain ⟨res132, hit133, hk136⟩ := bind_some hm
     obtain ⟨f134, hf135, hit133⟩ := iter_name hit133
     refine block_loop (fun a w => Slots a 109 [(1, (bp b49))] ∧ Heap w0 [bA b49 [(.int .i64 a0.1), (.int .i64 a0.2.1), v33, v35] 31] w ∧ res132 = .inl ()) ?_ ?_
     ·rintro a w ⟨S, H, rfl⟩
      have hm := ctl_inl hk136
      refine thenN ?_
      refine wp_seq (wp_seq (region_plain ?_))
      refine lq (pAdd (bp b49) 3) S (q_fieldAddr' 3 29 rfl (isP_bp _) Tryz.underlying31 rfl Tryz.sizeOf29) fun a S => ?_
      refine lx_e v35 S trivial (by decide) rfl trivial (q_load1 rfl Tryz.isAgg29 (by rintro _ rfl; exact (At.of_add (m := 3) (j := 0) (boxAt (i := 0) H rfl (j := 3) rfl)))) (fun a S => ?_)
      refine lq (.int .i64 (a0.2.2.2.length : Int)) S (q_lenSl rfl (h36).isSl rfl Tryz.underlying29) fun a S => ?_
      refine lq (.int .i64 (0 : Int)) S (q_move rfl) fun a S => ?_
      refine lx_nil (thenN ?_)
      obtain ⟨res272, hit273, hk276⟩ := bind_some hm
      obtain ⟨f274, hf275, hit273⟩ := iter_name hit273
      refine block_loop (fun a w => Slots a 109 [] ∧ Heap w0 [] w ∧ res272 = .inl ()) ?_ ?_
      ·rintro a w ⟨S, H, rfl⟩
       have hm := ctl_inl hk276
       refine thenN ?_
       refine wp_seq (region_plain ?_)
       refine lq (.bool true) S (q_assign rfl) fun a S => ?_
       refine lx_nil (thenN ?_)
       refine wp_ret ?_
       obtain rfl := Option.some.inj hm
       exact leave1 S rfl rfl ⟨rfl, H⟩
      ·skip
       refine loop_ghost (fun n a w => ∃ (x204 : Int), Slots a 109 [(1, (bp b49)), (65, v35), (66, (.int .i64 (a0.2.2.2.length : Int))), (67, (.int .i64 x204))] ∧ Heap w0 [bA b49 [(.int .i64 a0.1), (.int .i64 a0.2.1), v33, v35] 31] w ∧ iter f274 n (x204) = some res272) _ ⟨(0 : Int), S.sub ⟨rfl, rfl, rfl, rfl, trivial⟩, H, hit273⟩ ?_
       rintro n a w ⟨x204, S, H, hit273⟩
       obtain ⟨m277, o278, rfl, hm, hc279⟩ := iter_step hit273
       rw [hf275] at hm
       refine wp_seq (region_plain ?_)
       refine lq (.bool (decide (x204 < (a0.2.2.2.length : Int)))) S (q_lss rfl rfl) fun a S => ?_
       refine lx_nil (thenN ?_)
       refine wp_seq ?_
       refine cond_b S rfl (fun hc280 => ?_) (fun hc280 => ?_)
       ·have hm := ite_t hc280 hm
        refine wp_skip (thenN ?_)
        refine wp_seq ?_
        refine wp_block ?_
        refine wp_seq (region_plain ?_)
        refine lq (.int .i64 x204) S (q_move rfl) fun a S => ?_
        obtain ⟨x281, e282, hm⟩ := bind_some hm
        obtain ⟨c283, h284, hat285⟩ := (h36).elem (idx_some e282).2
        obtain ⟨c286, c287, rfl, h288, h289⟩ := h284
        obtain rfl := h288
        obtain ⟨c290, c291, rfl, h292, h293⟩ := h289
        obtain rfl := h292
        obtain rfl := h293
        have hlt := lt_of_idx (idx_some e282).2
        refine lq (ePtr v35 (x204.toNat * 3)) S (q_indexAddr rfl (h36).isSl rfl (idx_some e282).1 hlt Tryz.underlying29 Tryz.sizeOf68) fun a S => ?_
        refine lx_e (.agg #[(.int .i64 x281.1), (.int .i64 x281.2.1), (.int .i64 x281.2.2)]) S trivial (by decide) rfl trivial (q_loadA (cs := [(.int .i64 x281.1), (.int .i64 x281.2.1), (.int .i64 x281.2.2)]) rfl ((hat285 0 _ rfl).isP) Tryz.isAgg68 Tryz.sizeOf68 (by rintro _ rfl; exact (fun j u hu => (hat285 j u hu).ext H.ext))) (fun a S => ?_)
        refine lx_alloc S trivial (by decide) rfl H Tryz.zeroValue68 rfl (fun b294 w295 H => ⟨trivial, fun a S => ?_⟩)
        refine lq (.int .i64 x204) S (q_assign rfl) fun a S => ?_
        refine lx_storeBox (o := 0) (i := 0) (us := [(.int .i64 x281.1), (.int .i64 x281.2.1), (.int .i64 x281.2.2)]) (cs' := [(.int .i64 x281.1), (.int .i64 x281.2.1), (.int .i64 x281.2.2)]) S trivial rfl H rfl rfl rfl rfl Tryz.sizeOf68 (Nat.le_of_ble_eq_true rfl) (List.forall_mem_cons.2 ⟨rfl, (List.forall_mem_cons.2 ⟨rfl, (List.forall_mem_cons.2 ⟨rfl, (List.forall_mem_nil _)⟩)⟩)⟩) rfl (fun w297 H => ⟨trivial, fun a S => ?_⟩)
        change Heap w0 [bA b294 [(.int .i64 x281.1), (.int .i64 x281.2.1), (.int .i64 x281.2.2)] 68, bA b49 [(.int .i64 a0.1), (.int .i64 a0.2.1), v33, v35] 31] w297 at H
        refine lx_nil (thenN ?_)
        refine wp_seq ?_
        refine region_drawG (fun w1 => Heap w0 [bA b294 [(.int .i64 x281.1), (.int .i64 x281.2.1), (.int .i64 x281.2.2)] 68, bA b49 [(.int .i64 a0.1), (.int .i64 a0.2.1), v33, v35] 31] w1) (fun i => [3, 9, 18, 32].contains i) mixed (by kernel_rfl) (fun w299 he298 => ?_)
        have H := H.later he298
        refine ⟨H.sel [0, 1] (by decide), ?_⟩
        refine lq (.agg #[(.int .i64 a0.1), (.int .i64 a0.2.1), v33, v35]) S (q_loadA (cs := [(.int .i64 a0.1), (.int .i64 a0.2.1), v33, v35]) rfl (isP_bp _) Tryz.isAgg31 Tryz.sizeOf31 (fun w1 hC => (fun j u hu => boxAt (i := 1) hC rfl hu))) fun a S => ?_
        refine lq (pAdd (bp b294) 0) S (q_fieldAddr' 0 2 rfl (isP_bp _) Tryz.underlying68 rfl Tryz.sizeOf2) fun a S => ?_
        refine lq (.int .i64 x281.1) S (q_load1 rfl Tryz.isAgg2 (fun w1 hC => (At.of_add (m := 0) (j := 0) (boxAt (i := 0) hC rfl (j := 0) rfl)))) fun a S => ?_
        obtain ⟨x302, e303, hm⟩ := bind_some hm
        refine lx_call (xs := [.tmp 72, .tmp 74]) S trivial (by decide) rfl rfl Tryz.call53 ((impl_Lts_isState_ok ⟨[(.int .i64 a0.1), (.int .i64 a0.2.1), v33, v35], rfl, ⟨[(.int .i64 a0.1)], [(.int .i64 a0.2.1), v33, v35], rfl, rfl, ⟨[(.int .i64 a0.2.1)], [v33, v35], rfl, rfl, ⟨[v33], [v35], rfl, ((H.arg h34)).list_rd, ((H.arg h36)).list_rd⟩⟩⟩⟩  e303).mono ?_)
        rintro e w300 ⟨rfl, Hc301⟩
        have H := H.call0 Hc301
        refine ⟨_, rfl, H.sel [0, 1] (by decide), fun a S => ?_⟩
        refine lq (.bool (!x302)) S (q_not rfl) fun a S => ?_
        refine lq (.bool (!x302)) S (q_move rfl) fun a S => ?_
        obtain ⟨t305, e306, hm⟩ := bind_some hm
        refine lx_cut 6 (fun a w => Slots a 109 [(1, (bp b49)), (5, (.int .i64 x204)), (6, (bp b294)), (65, v35), (66, (.int .i64 (a0.2.2.2.length : Int))), (67, (.int .i64 x204)), (83, (.bool t305))] ∧ Heap w0 [bA b294 [(.int .i64 x281.1), (.int .i64 x281.2.1), (.int .i64 x281.2.2)] 68, bA b49 [(.int .i64 a0.1), (.int .i64 a0.2.1), v33, v35] 31] w) ?_ ?_
        ·by_cases hc307 : (!x302) = true
         ·have hm := ite_t hc307 e306
          refine lx_skip S rfl rfl (isB_ne hc307) (by decide) (fun a S => ?_)
          refine lx_skip S rfl rfl (isB_ne hc307) (by decide) (fun a S => ?_)
          refine lx_skip S rfl rfl (isB_ne hc307) (by decide) (fun a S => ?_)
          refine lx_skip S rfl rfl (isB_ne hc307) (by decide) (fun a S => ?_)
          refine lx_skip S rfl rfl (isB_ne hc307) (by decide) (fun a S => ?_)
          refine lq (.bool true) S (q_pickT' rfl hc307 rfl) fun a S => ?_
          refine lx_nil ?_
          obtain rfl := Option.some.inj hm
          exact ⟨S.sub ⟨rfl, rfl, rfl, rfl, rfl, rfl, rfl, trivial⟩, H⟩
         ·have hm := ite_f (eq_false_of_ne_true hc307) e306
          have hc307 : (!x302) = false := eq_false_of_ne_true hc307
          refine lx_q (.agg #[(.int .i64 a0.1), (.int .i64 a0.2.1), v33, v35]) S (want_b rfl rfl hc307) (by decide) (q_loadA (cs := [(.int .i64 a0.1), (.int .i64 a0.2.1), v33, v35]) rfl (isP_bp _) Tryz.isAgg31 Tryz.sizeOf31 (fun w1 hC => (fun j u hu => boxAt (i := 1) hC rfl hu))) (fun a S => ?_)
          refine lx_q (pAdd (bp b294) 2) S (want_b rfl rfl hc307) (by decide) (q_fieldAddr' 2 2 rfl (isP_bp _) Tryz.underlying68 rfl Tryz.sizeOf2) (fun a S => ?_)
          refine lx_q (.int .i64 x281.2.2) S (want_b rfl rfl hc307) (by decide) (q_load1 rfl Tryz.isAgg2 (fun w1 hC => (At.of_add (m := 2) (j := 0) (boxAt (i := 0) hC rfl (j := 2) rfl)))) (fun a S => ?_)
          obtain ⟨x310, e311, hm⟩ := bind_some hm
          refine lx_call (xs := [.tmp 78, .tmp 80]) S (want_b rfl rfl hc307) (by decide) rfl rfl Tryz.call53 ((impl_Lts_isState_ok ⟨[(.int .i64 a0.1), (.int .i64 a0.2.1), v33, v35], rfl, ⟨[(.int .i64 a0.1)], [(.int .i64 a0.2.1), v33, v35], rfl, rfl, ⟨[(.int .i64 a0.2.1)], [v33, v35], rfl, rfl, ⟨[v33], [v35], rfl, ((H.arg h34)).list_rd, ((H.arg h36)).list_rd⟩⟩⟩⟩  e311).mono ?_)
          rintro e w308 ⟨rfl, Hc309⟩
          have H := H.call0 Hc309
          refine ⟨_, rfl, H.sel [0, 1] (by decide), fun a S => ?_⟩
          refine lx_q (.bool (!x310)) S (want_b rfl rfl hc307) (by decide) (q_not rfl) (fun a S => ?_)
          refine lq (.bool (!x310)) S (q_pickF' rfl hc307 rfl) fun a S => ?_
          refine lx_nil ?_
          obtain rfl := Option.some.inj hm
          exact ⟨S.sub ⟨rfl, rfl, rfl, rfl, rfl, rfl, rfl, trivial⟩, H⟩
        ·rintro a w ⟨S, H⟩
         refine lq (.bool t305) S (q_move rfl) fun a S => ?_
         obtain ⟨t313, e314, hm⟩ := bind_some hm
         refine lx_cut 8 (fun a w => Slots a 109 [(1, (bp b49)), (5, (.int .i64 x204)), (6, (bp b294)), (65, v35), (66, (.int .i64 (a0.2.2.2.length : Int))), (67, (.int .i64 x204)), (92, (.bool t313))] ∧ Heap w0 [bA b294 [(.int .i64 x281.1), (.int .i64 x281.2.1), (.int .i64 x281.2.2)] 68, bA b49 [(.int .i64 a0.1), (.int .i64 a0.2.1), v33, v35] 31] w) ?_ ?_
         ·by_cases hc315 : t305 = true
          ·have hm := ite_t hc315 e314
           refine lx_skip S rfl rfl (isB_ne hc315) (by decide) (fun a S => ?_)
           refine lx_skip S rfl rfl (isB_ne hc315) (by decide) (fun a S => ?_)
           refine lx_skip S rfl rfl (isB_ne hc315) (by decide) (fun a S => ?_)
           refine lx_skip S rfl rfl (isB_ne hc315) (by decide) (fun a S => ?_)
           refine lx_skip S rfl rfl (isB_ne hc315) (by decide) (fun a S => ?_)
           refine lx_skip S rfl rfl (isB_ne hc315) (by decide) (fun a S => ?_)
           refine lx_skip S rfl rfl (isB_ne hc315) (by decide) (fun a S => ?_)
           refine lq (.bool true) S (q_pickT' rfl hc315 rfl) fun a S => ?_
           refine lx_nil ?_
           obtain rfl := Option.some.inj hm
           exact ⟨S.sub ⟨rfl, rfl, rfl, rfl, rfl, rfl, rfl, trivial⟩, H⟩
          ·have hm := ite_f (eq_false_of_ne_true hc315) e314
           have hc315 : t305 = false := eq_false_of_ne_true hc315
           refine lx_q (pAdd (bp b294) 1) S (want_b rfl rfl hc315) (by decide) (q_fieldAddr' 1 2 rfl (isP_bp _) Tryz.underlying68 rfl Tryz.sizeOf2) (fun a S => ?_)
           refine lx_q (.int .i64 x281.2.1) S (want_b rfl rfl hc315) (by decide) (q_load1 rfl Tryz.isAgg2 (fun w1 hC => (At.of_add (m := 1) (j := 0) (boxAt (i := 0) hC rfl (j := 1) rfl)))) (fun a S => ?_)
           refine lx_q (pAdd (bp b49) 2) S (want_b rfl rfl hc315) (by decide) (q_fieldAddr' 2 22 rfl (isP_bp _) Tryz.underlying31 rfl Tryz.sizeOf22) (fun a S => ?_)
           refine lx_q v33 S (want_b rfl rfl hc315) (by decide) (q_load1 rfl Tryz.isAgg22 (fun w1 hC => (At.of_add (m := 2) (j := 0) (boxAt (i := 1) hC rfl (j := 2) rfl)))) (fun a S => ?_)
           refine lx_q (.int .i64 (a0.2.2.1.length : Int)) S (want_b rfl rfl hc315) (by decide) (q_lenSl rfl (h34).isSl rfl Tryz.underlying22) (fun a S => ?_)
           obtain ⟨x318, e319, hm⟩ := bind_some hm
           refine lx_call (xs := [.tmp 86, .tmp 89]) S (want_b rfl rfl hc315) (by decide) rfl rfl Tryz.call55 ((impl_index_ok   e319).mono ?_)
           rintro e w316 ⟨rfl, Hc317⟩
           have H := H.call0 Hc317
           refine ⟨_, rfl, H.sel [0, 1] (by decide), fun a S => ?_⟩
           refine lx_q (.bool (!x318)) S (want_b rfl rfl hc315) (by decide) (q_not rfl) (fun a S => ?_)
           refine lq (.bool (!x318)) S (q_pickF' rfl hc315 rfl) fun a S => ?_
           refine lx_nil ?_
           obtain rfl := Option.some.inj hm
           exact ⟨S.sub ⟨rfl, rfl, rfl, rfl, rfl, rfl, rfl, trivial⟩, H⟩
         ·rintro a w ⟨S, H⟩
          refine lq (.bool t313) S (q_move rfl) fun a S => ?_
          obtain ⟨t321, e322, hm⟩ := bind_some hm
          refine lx_cut 14 (fun a w => Slots a 109 [(1, (bp b49)), (65, v35), (66, (.int .i64 (a0.2.2.2.length : Int))), (67, (.int .i64 x204)), (107, (.bool t321))] ∧ Heap w0 [bA b49 [(.int .i64 a0.1), (.int .i64 a0.2.1), v33, v35] 31] w) ?_ ?_
          ·by_cases hc323 : t313 = true
           ·have hm := ite_t hc323 e322
            refine lx_skip S rfl rfl (isB_ne hc323) (by decide) (fun a S => ?_)
            refine lx_skip S rfl rfl (isB_ne hc323) (by decide) (fun a S => ?_)
            refine lx_skip S rfl rfl (isB_ne hc323) (by decide) (fun a S => ?_)
            refine lx_skip S rfl rfl rfl (by decide) (fun a S => ?_)
            refine lx_skip S rfl rfl rfl (by decide) (fun a S => ?_)
            refine lx_skip S rfl rfl rfl (by decide) (fun a S => ?_)
            refine lx_skip S rfl rfl rfl (by decide) (fun a S => ?_)
            refine lx_skip S rfl rfl rfl (by decide) (fun a S => ?_)
            refine lx_skip S rfl rfl rfl (by decide) (fun a S => ?_)
            refine lx_skip S rfl rfl rfl (by decide) (fun a S => ?_)
            refine lx_skip S rfl rfl rfl (by decide) (fun a S => ?_)
            refine lx_skip S rfl rfl rfl (by decide) (fun a S => ?_)
            refine lx_skip S rfl rfl (isB_ne hc323) (by decide) (fun a S => ?_)
            refine lq (.bool true) S (q_pickT' rfl hc323 rfl) fun a S => ?_
            refine lx_nil ?_
            obtain rfl := Option.some.inj hm
            have H := H.sel [1] (by decide)
            exact ⟨S.sub ⟨rfl, rfl, rfl, rfl, rfl, trivial⟩, H⟩
           ·have hm := ite_f (eq_false_of_ne_true hc323) e322
            have hc323 : t313 = false := eq_false_of_ne_true hc323
            refine lx_q (.int .i64 x204) S (want_b rfl rfl hc323) (by decide) (q_move rfl) (fun a S => ?_)
            refine lx_q (.bool (decide ((0 : Int) < x204))) S (want_b rfl rfl hc323) (by decide) (q_gtr rfl rfl) (fun a S => ?_)
            refine lx_q (.bool (decide ((0 : Int) < x204))) S (want_b rfl rfl hc323) (by decide) (q_move rfl) (fun a S => ?_)
            obtain ⟨t324, e325, hm⟩ := bind_some hm
            refine lx_cut 10 (fun a w => Slots a 109 [(1, (bp b49)), (65, v35), (66, (.int .i64 (a0.2.2.2.length : Int))), (67, (.int .i64 x204)), (93, (.bool t313)), (106, (.bool t324))] ∧ Heap w0 [bA b49 [(.int .i64 a0.1), (.int .i64 a0.2.1), v33, v35] 31] w) ?_ ?_
            ·by_cases hc326 : (decide ((0 : Int) < x204)) = true
             ·have hm := ite_t hc326 e325
              refine lx_q (pAdd (bp b49) 3) S (want_b rfl rfl hc326) (by decide) (q_fieldAddr' 3 29 rfl (isP_bp _) Tryz.underlying31 rfl Tryz.sizeOf29) (fun a S => ?_)
              refine lx_q v35 S (want_b rfl rfl hc326) (by decide) (q_load1 rfl Tryz.isAgg29 (fun w1 hC => (At.of_add (m := 3) (j := 0) (boxAt (i := 1) hC rfl (j := 3) rfl)))) (fun a S => ?_)
              refine lx_q (.int .i64 x204) S (want_b rfl rfl hc326) (by decide) (q_move rfl) (fun a S => ?_)
              refine lx_q (.int .i64 (W (x204 - (1 : Int)))) S (want_b rfl rfl hc326) (by decide) (q_sub rfl rfl) (fun a S => ?_)
              obtain ⟨x327, e328, hm⟩ := bind_some hm
              obtain ⟨c329, h330, hat331⟩ := (h36).elem (idx_some e328).2
              obtain ⟨c332, c333, rfl, h334, h335⟩ := h330
              obtain rfl := h334
              obtain ⟨c336, c337, rfl, h338, h339⟩ := h335
              obtain rfl := h338
              obtain rfl := h339
              have hlt := lt_of_idx (idx_some e328).2
              refine lx_q (ePtr v35 ((W (x204 - (1 : Int))).toNat * 3)) S (want_b rfl rfl hc326) (by decide) (q_indexAddr rfl (h36).isSl rfl (idx_some e328).1 hlt Tryz.underlying29 Tryz.sizeOf68) (fun a S => ?_)
              refine lx_q (.agg #[(.int .i64 x327.1), (.int .i64 x327.2.1), (.int .i64 x327.2.2)]) S (want_b rfl rfl hc326) (by decide) (q_loadA (cs := [(.int .i64 x327.1), (.int .i64 x327.2.1), (.int .i64 x327.2.2)]) rfl ((hat331 0 _ rfl).isP) Tryz.isAgg68 Tryz.sizeOf68 (fun w1 hC => (fun j u hu => (hat331 j u hu).ext hC.ext))) (fun a S => ?_)
              refine lx_q (.agg #[(.int .i64 x281.1), (.int .i64 x281.2.1), (.int .i64 x281.2.2)]) S (want_b rfl rfl hc326) (by decide) (q_loadA (cs := [(.int .i64 x281.1), (.int .i64 x281.2.1), (.int .i64 x281.2.2)]) rfl (isP_bp _) Tryz.isAgg68 Tryz.sizeOf68 (fun w1 hC => (fun j u hu => boxAt (i := 0) hC rfl hu))) (fun a S => ?_)
              obtain ⟨x342, e343, hm⟩ := bind_some hm
              refine lx_call (xs := [.tmp 102, .tmp 103]) S (want_b rfl rfl hc326) (by decide) rfl rfl Tryz.call56 ((impl_compareEdges_ok ⟨[(.int .i64 x327.1), (.int .i64 x327.2.1), (.int .i64 x327.2.2)], rfl, ⟨[(.int .i64 x327.1)], [(.int .i64 x327.2.1), (.int .i64 x327.2.2)], rfl, rfl, ⟨[(.int .i64 x327.2.1)], [(.int .i64 x327.2.2)], rfl, rfl, rfl⟩⟩⟩ ⟨[(.int .i64 x281.1), (.int .i64 x281.2.1), (.int .i64 x281.2.2)], rfl, ⟨[(.int .i64 x281.1)], [(.int .i64 x281.2.1), (.int .i64 x281.2.2)], rfl, rfl, ⟨[(.int .i64 x281.2.1)], [(.int .i64 x281.2.2)], rfl, rfl, rfl⟩⟩⟩ e343).mono ?_)
              rintro e w340 ⟨rfl, Hc341⟩
              have H := H.call0 Hc341
              refine ⟨_, rfl, H.sel [0, 1] (by decide), fun a S => ?_⟩
              refine lx_q (.bool (decide ((0 : Int) ≤ x342))) S (want_b rfl rfl hc326) (by decide) (q_geq rfl rfl) (fun a S => ?_)
              refine lx_q (.bool (decide ((0 : Int) ≤ x342))) S (want_b rfl rfl hc323) (by decide) (q_pickT' rfl hc326 rfl) (fun a S => ?_)
              refine lx_nil ?_
              obtain rfl := Option.some.inj hm
              have H := H.sel [1] (by decide)
              exact ⟨S.sub ⟨rfl, rfl, rfl, rfl, rfl, rfl, trivial⟩, H⟩
             ·have hm := ite_f (eq_false_of_ne_true hc326) e325
              have hc326 : (decide ((0 : Int) < x204)) = false := eq_false_of_ne_true hc326
              refine lx_skip S rfl rfl (isB_ne hc326) (by decide) (fun a S => ?_)
              refine lx_skip S rfl rfl (isB_ne hc326) (by decide) (fun a S => ?_)
              refine lx_skip S rfl rfl (isB_ne hc326) (by decide) (fun a S => ?_)
              refine lx_skip S rfl rfl (isB_ne hc326) (by decide) (fun a S => ?_)
              refine lx_skip S rfl rfl (isB_ne hc326) (by decide) (fun a S => ?_)
              refine lx_skip S rfl rfl (isB_ne hc326) (by decide) (fun a S => ?_)
              refine lx_skip S rfl rfl (isB_ne hc326) (by decide) (fun a S => ?_)
              refine lx_skip S rfl rfl (isB_ne hc326) (by decide) (fun a S => ?_)
              refine lx_skip S rfl rfl (isB_ne hc326) (by decide) (fun a S => ?_)
              refine lx_q (.bool false) S (want_b rfl rfl hc323) (by decide) (q_pickF' rfl hc326 rfl) (fun a S => ?_)
              refine lx_nil ?_
              obtain rfl := Option.some.inj hm
              have H := H.sel [1] (by decide)
              exact ⟨S.sub ⟨rfl, rfl, rfl, rfl, rfl, rfl, trivial⟩, H⟩
            ·rintro a w ⟨S, H⟩
             refine lq (.bool t324) S (q_pickF' rfl hc323 rfl) fun a S => ?_
             refine lx_nil ?_
             obtain rfl := Option.some.inj hm
             exact ⟨S.sub ⟨rfl, rfl, rfl, rfl, rfl, trivial⟩, H⟩
          ·rintro a w ⟨S, H⟩
           refine lx_nil (thenN ?_)
           refine cond_b S rfl (fun hc345 => ?_) (fun hc345 => ?_)
           ·have hm := ite_t hc345 hm
            refine wp_seq (region_plain ?_)
            refine lq (.bool false) S (q_assign rfl) fun a S => ?_
            refine lx_nil (thenN ?_)
            refine wp_ret (inBlock_ret ?_)
            refine then_ret ?_
            refine then_ret ?_
            refine inBlock_ret ?_
            refine then_ret ?_
            refine then_ret ?_
            obtain rfl := it_brk hm hc279
            have hm := ctl_inr hk276
            obtain rfl := Option.some.inj hm
            have H : Heap w0 [] w := H.sel [] (by decide)
            exact leave1 S rfl rfl ⟨rfl, H⟩
           ·have hm := ite_f hc345 hm
            refine wp_skip ?_
            refine inBlock_norm ?_
            refine thenN ?_
            refine region_plain ?_
            refine lq (.int .i64 (W (x204 + (1 : Int)))) S (q_add rfl rfl) fun a S => ?_
            refine lq (.int .i64 (W (x204 + (1 : Int)))) S (q_move rfl) fun a S => ?_
            refine lx_nil ?_
            exact ⟨m277, Nat.lt_succ_self _, (W (x204 + (1 : Int))), S.sub ⟨rfl, rfl, rfl, rfl, trivial⟩, H, it_cont hm hc279⟩
       ·have hm := ite_f hc280 hm
        refine wp_exit ?_
        refine then_exit ?_
        refine then_exit ?_
        refine inBlock_exit ?_
        obtain rfl := it_brk hm hc279
        have H : Heap w0 [] w := H.sel [] (by decide)
        exact ⟨S.sub trivial, H, rfl⟩
     ·skip
      refine loop_ghost (fun n a w => ∃ (x104 : Int), Slots a 109 [(1, (bp b49)), (32, v33), (33, (.int .i64 (a0.2.2.1.length : Int))), (34, (.int .i64 x104))] ∧ Heap w0 [bA b49 [(.int .i64 a0.1), (.int .i64 a0.2.1), v33, v35] 31] w ∧ iter f134 n (x104) = some res132) _ ⟨(0 : Int), S.sub ⟨rfl, rfl, rfl, rfl, trivial⟩, H, hit133⟩ ?_
      rintro n a w ⟨x104, S, H, hit133⟩
      obtain ⟨m346, o347, rfl, hm, hc348⟩ := iter_step hit133
      rw [hf135] at hm
      refine wp_seq (region_plain ?_)
      refine lq (.bool (decide (x104 < (a0.2.2.1.length : Int)))) S (q_lss rfl rfl) fun a S => ?_
      refine lx_nil (thenN ?_)
      refine wp_seq ?_
      refine cond_b S rfl (fun hc349 => ?_) (fun hc349 => ?_)
      ·have hm := ite_t hc349 hm
       refine wp_skip (thenN ?_)
       refine wp_seq ?_
       refine wp_block ?_
       refine wp_seq (region_plain ?_)
       refine lq (.int .i64 x104) S (q_move rfl) fun a S => ?_
       obtain ⟨x350, e351, hm⟩ := bind_some hm
       obtain ⟨c352, h353, hat354⟩ := (h34).elem (idx_some e351).2
       obtain rfl := h353
       have hlt := lt_of_idx (idx_some e351).2
       refine lq (ePtr v33 (x104.toNat * 1)) S (q_indexAddr rfl (h34).isSl rfl (idx_some e351).1 hlt Tryz.underlying22 Tryz.sizeOf9) fun a S => ?_
       refine lx_e (sv x350) S trivial (by decide) rfl trivial (q_load1 rfl Tryz.isAgg9 (by rintro _ rfl; exact ((hat354 0 _ rfl).ext H.ext))) (fun a S => ?_)
       refine lq (.int .i64 x104) S (q_assign rfl) fun a S => ?_
       refine lq (sv x350) S (q_assign rfl) fun a S => ?_
       refine lx_nil (thenN ?_)
       refine wp_seq (region_plain ?_)
       refine lq (sv x350) S (q_move rfl) fun a S => ?_
       obtain ⟨x357, e358, hm⟩ := bind_some hm
       refine lx_call (xs := [.tmp 39]) S trivial (by decide) rfl rfl Tryz.call54 ((impl_IsLabel_ok (hG.ext H.ext)  e358).mono ?_)
       rintro e w355 ⟨rfl, Hc356⟩
       have H := H.call0 Hc356
       refine ⟨_, rfl, trivial, fun a S => ?_⟩
       refine lq (.bool (!x357)) S (q_not rfl) fun a S => ?_
       refine lq (.bool (!x357)) S (q_move rfl) fun a S => ?_
       obtain ⟨t360, e361, hm⟩ := bind_some hm
       refine lx_cut 6 (fun a w => Slots a 109 [(1, (bp b49)), (3, (.int .i64 x104)), (4, (sv x350)), (32, v33), (33, (.int .i64 (a0.2.2.1.length : Int))), (34, (.int .i64 x104)), (48, (.bool t360))] ∧ Heap w0 [bA b49 [(.int .i64 a0.1), (.int .i64 a0.2.1), v33, v35] 31] w) ?_ ?_
       ·by_cases hc362 : (!x357) = true
        ·have hm := ite_t hc362 e361
         refine lx_skip S rfl rfl (isB_ne hc362) (by decide) (fun a S => ?_)
         refine lx_skip S rfl rfl (isB_ne hc362) (by decide) (fun a S => ?_)
         refine lx_skip S rfl rfl (isB_ne hc362) (by decide) (fun a S => ?_)
         refine lx_skip S rfl rfl (isB_ne hc362) (by decide) (fun a S => ?_)
         refine lx_skip S rfl rfl (isB_ne hc362) (by decide) (fun a S => ?_)
         refine lq (.bool true) S (q_pickT' rfl hc362 rfl) fun a S => ?_
         refine lx_nil ?_
         obtain rfl := Option.some.inj hm
         exact ⟨S.sub ⟨rfl, rfl, rfl, rfl, rfl, rfl, rfl, trivial⟩, H⟩
        ·have hm := ite_f (eq_false_of_ne_true hc362) e361
         have hc362 : (!x357) = false := eq_false_of_ne_true hc362
         refine lx_q (sv x350) S (want_b rfl rfl hc362) (by decide) (q_move rfl) (fun a S => ?_)
         refine lx_q (.bool (x350 == ([116, 97, 117] : Str))) S (want_b rfl rfl hc362) (by decide) (q_seql rfl rfl) (fun a S => ?_)
         refine lx_q (.int .i64 x104) S (want_b rfl rfl hc362) (by decide) (q_move rfl) (fun a S => ?_)
         refine lx_q (.bool (x104 == (0 : Int))) S (want_b rfl rfl hc362) (by decide) (q_eql rfl rfl) (fun a S => ?_)
         refine lx_q (.bool ((x350 == ([116, 97, 117] : Str)) != (x104 == (0 : Int)))) S (want_b rfl rfl hc362) (by decide) (q_bneq rfl rfl Tryz.underlying4) (fun a S => ?_)
         refine lq (.bool ((x350 == ([116, 97, 117] : Str)) != (x104 == (0 : Int)))) S (q_pickF' rfl hc362 rfl) fun a S => ?_
         refine lx_nil ?_
         obtain rfl := Option.some.inj hm
         exact ⟨S.sub ⟨rfl, rfl, rfl, rfl, rfl, rfl, rfl, trivial⟩, H⟩
       ·rintro a w ⟨S, H⟩
        refine lq (.bool t360) S (q_move rfl) fun a S => ?_
        obtain ⟨t363, e364, hm⟩ := bind_some hm
        refine lx_cut 13 (fun a w => Slots a 109 [(1, (bp b49)), (32, v33), (33, (.int .i64 (a0.2.2.1.length : Int))), (34, (.int .i64 x104)), (62, (.bool t363))] ∧ Heap w0 [bA b49 [(.int .i64 a0.1), (.int .i64 a0.2.1), v33, v35] 31] w) ?_ ?_
        ·by_cases hc365 : t360 = true
         ·have hm := ite_t hc365 e364
          refine lx_skip S rfl rfl (isB_ne hc365) (by decide) (fun a S => ?_)
          refine lx_skip S rfl rfl (isB_ne hc365) (by decide) (fun a S => ?_)
          refine lx_skip S rfl rfl (isB_ne hc365) (by decide) (fun a S => ?_)
          refine lx_skip S rfl rfl rfl (by decide) (fun a S => ?_)
          refine lx_skip S rfl rfl rfl (by decide) (fun a S => ?_)
          refine lx_skip S rfl rfl rfl (by decide) (fun a S => ?_)
          refine lx_skip S rfl rfl rfl (by decide) (fun a S => ?_)
          refine lx_skip S rfl rfl rfl (by decide) (fun a S => ?_)
          refine lx_skip S rfl rfl rfl (by decide) (fun a S => ?_)
          refine lx_skip S rfl rfl rfl (by decide) (fun a S => ?_)
          refine lx_skip S rfl rfl rfl (by decide) (fun a S => ?_)
          refine lx_skip S rfl rfl (isB_ne hc365) (by decide) (fun a S => ?_)
          refine lq (.bool true) S (q_pickT' rfl hc365 rfl) fun a S => ?_
          refine lx_nil ?_
          obtain rfl := Option.some.inj hm
          exact ⟨S.sub ⟨rfl, rfl, rfl, rfl, rfl, trivial⟩, H⟩
         ·have hm := ite_f (eq_false_of_ne_true hc365) e364
          have hc365 : t360 = false := eq_false_of_ne_true hc365
          refine lx_q (.int .i64 x104) S (want_b rfl rfl hc365) (by decide) (q_move rfl) (fun a S => ?_)
          refine lx_q (.bool (decide ((1 : Int) < x104))) S (want_b rfl rfl hc365) (by decide) (q_gtr rfl rfl) (fun a S => ?_)
          refine lx_q (.bool (decide ((1 : Int) < x104))) S (want_b rfl rfl hc365) (by decide) (q_move rfl) (fun a S => ?_)
          obtain ⟨t366, e367, hm⟩ := bind_some hm
          refine lx_cut 9 (fun a w => Slots a 109 [(1, (bp b49)), (32, v33), (33, (.int .i64 (a0.2.2.1.length : Int))), (34, (.int .i64 x104)), (49, (.bool t360)), (61, (.bool t366))] ∧ Heap w0 [bA b49 [(.int .i64 a0.1), (.int .i64 a0.2.1), v33, v35] 31] w) ?_ ?_
          ·by_cases hc368 : (decide ((1 : Int) < x104)) = true
           ·have hm := ite_t hc368 e367
            refine lx_q (sv x350) S (want_b rfl rfl hc368) (by decide) (q_move rfl) (fun a S => ?_)
            refine lx_q (pAdd (bp b49) 2) S (want_b rfl rfl hc368) (by decide) (q_fieldAddr' 2 22 rfl (isP_bp _) Tryz.underlying31 rfl Tryz.sizeOf22) (fun a S => ?_)
            refine lx_e v33 S (want_b rfl rfl hc368) (by decide) rfl trivial (q_load1 rfl Tryz.isAgg22 (by rintro _ rfl; exact (At.of_add (m := 2) (j := 0) (boxAt (i := 0) H rfl (j := 2) rfl)))) (fun a S => ?_)
            refine lx_q (.int .i64 x104) S (want_b rfl rfl hc368) (by decide) (q_move rfl) (fun a S => ?_)
            refine lx_q (.int .i64 (W (x104 - (1 : Int)))) S (want_b rfl rfl hc368) (by decide) (q_sub rfl rfl) (fun a S => ?_)
            obtain ⟨x369, e370, hm⟩ := bind_some hm
            obtain ⟨c371, h372, hat373⟩ := (h34).elem (idx_some e370).2
            obtain rfl := h372
            have hlt := lt_of_idx (idx_some e370).2
            refine lx_q (ePtr v33 ((W (x104 - (1 : Int))).toNat * 1)) S (want_b rfl rfl hc368) (by decide) (q_indexAddr rfl (h34).isSl rfl (idx_some e370).1 hlt Tryz.underlying22 Tryz.sizeOf9) (fun a S => ?_)
            refine lx_e (sv x369) S (want_b rfl rfl hc368) (by decide) rfl trivial (q_load1 rfl Tryz.isAgg9 (by rintro _ rfl; exact ((hat373 0 _ rfl).ext H.ext))) (fun a S => ?_)
            refine lx_q (.bool (Op.bytesLess x350 x369 || x350 == x369)) S (want_b rfl rfl hc368) (by decide) (q_sleq rfl rfl) (fun a S => ?_)
            refine lx_q (.bool (Op.bytesLess x350 x369 || x350 == x369)) S (want_b rfl rfl hc365) (by decide) (q_pickT' rfl hc368 rfl) (fun a S => ?_)
            refine lx_nil ?_
            obtain rfl := Option.some.inj hm
            exact ⟨S.sub ⟨rfl, rfl, rfl, rfl, rfl, rfl, trivial⟩, H⟩
           ·have hm := ite_f (eq_false_of_ne_true hc368) e367
            have hc368 : (decide ((1 : Int) < x104)) = false := eq_false_of_ne_true hc368
            refine lx_skip S rfl rfl (isB_ne hc368) (by decide) (fun a S => ?_)
            refine lx_skip S rfl rfl (isB_ne hc368) (by decide) (fun a S => ?_)
            refine lx_skip S rfl rfl (isB_ne hc368) (by decide) (fun a S => ?_)
            refine lx_skip S rfl rfl (isB_ne hc368) (by decide) (fun a S => ?_)
            refine lx_skip S rfl rfl (isB_ne hc368) (by decide) (fun a S => ?_)
            refine lx_skip S rfl rfl (isB_ne hc368) (by decide) (fun a S => ?_)
            refine lx_skip S rfl rfl (isB_ne hc368) (by decide) (fun a S => ?_)
            refine lx_skip S rfl rfl (isB_ne hc368) (by decide) (fun a S => ?_)
            refine lx_q (.bool false) S (want_b rfl rfl hc365) (by decide) (q_pickF' rfl hc368 rfl) (fun a S => ?_)
            refine lx_nil ?_
            obtain rfl := Option.some.inj hm
            exact ⟨S.sub ⟨rfl, rfl, rfl, rfl, rfl, rfl, trivial⟩, H⟩
          ·rintro a w ⟨S, H⟩
           refine lq (.bool t366) S (q_pickF' rfl hc365 rfl) fun a S => ?_
           refine lx_nil ?_
           obtain rfl := Option.some.inj hm
           exact ⟨S.sub ⟨rfl, rfl, rfl, rfl, rfl, trivial⟩, H⟩
        ·rintro a w ⟨S, H⟩
         refine lx_nil (thenN ?_)
         refine cond_b S rfl (fun hc374 => ?_) (fun hc374 => ?_)
         ·have hm := ite_t hc374 hm
          refine wp_seq (region_plain ?_)
          refine lq (.bool false) S (q_assign rfl) fun a S => ?_
          refine lx_nil (thenN ?_)
          refine wp_ret (inBlock_ret ?_)
          refine then_ret ?_
          refine then_ret ?_
          refine inBlock_ret ?_
          refine then_ret ?_
          refine then_ret ?_
          obtain rfl := it_brk hm hc348
          have hm := ctl_inr hk136
          obtain rfl := Option.some.inj hm
          have H : Heap w0 [] w := H.sel [] (by decide)
          exact leave1 S rfl rfl ⟨rfl, H⟩
         ·have hm := ite_f hc374 hm
          refine wp_skip ?_
          refine inBlock_norm ?_
          refine thenN ?_
          refine region_plain ?_
          refine lq (.int .i64 (W (x104 + (1 : Int)))) S (q_add rfl rfl) fun a S => ?_
          refine lq (.int .i64 (W (x104 + (1 : Int)))) S (q_move rfl) fun a S => ?_
          refine lx_nil ?_
          exact ⟨m346, Nat.lt_succ_self _, (W (x104 + (1 : Int))), S.sub ⟨rfl, rfl, rfl, rfl, trivial⟩, H, it_cont hm hc348⟩
      ·have hm := ite_f hc349 hm
       refine wp_exit ?_
       refine then_exit ?_
       refine then_exit ?_
       refine inBlock_exit ?_
       obtain rfl := it_brk hm hc348
       exact ⟨S.sub ⟨rfl, trivial⟩, H, rfl⟩

/-- laws.eqStringS -/
def laws_eqStringS_m (fuel : Nat) (a0 : (List Str)) (a1 : (List Str)) : Option (Bool) :=
  (if ((a0.length : Int) != (a1.length : Int)) = true then some (false) else (iter (fun (s : (Int)) => (match s with | (x47) => (if (decide (x47 < (a0.length : Int))) = true then (idx a0 x47).bind fun x74 => (idx a1 x47).bind fun x79 => (if (x74 != x79) = true then some (.inr (.inr false)) else some (.inl ((W (x47 + (1 : Int)))))) else some (.inr (.inl ()))) : Option (((Int)) ⊕ ((Unit) ⊕ (Bool))))) fuel ((0 : Int))).bind fun res63 => ctl (β := Unit) (ρ := Bool) (τ := Bool) res63 (fun _ => some (true)) (fun q => some (q)))
set_option maxRecDepth 20000 in
theorem laws_eqStringS_ok [dr : Dr] {w0 : World} {fuel : Nat} {p0 p1 : Value} {a0 : (List Str)} {a1 : (List Str)} {r : Bool} (h0 : Rd (rList rStr) w0 p0 a0) (h1 : Rd (rList rStr) w0 p1 a1) (hm : laws_eqStringS_m fuel a0 a1 = some r) :
  Calls Tryz.prog 26 #[p0, p1] w0 fun e w => e = .returned (.bool r) ∧ Heap w0 [] w := by
 unfold laws_eqStringS_m at hm
 have H := Heap.start w0
 refine enter (args := [p0, p1]) Tryz.func26 rfl 26 rfl (Nat.le_of_ble_eq_true rfl) (fun a S => ?_)
 refine wp_seq (region_plain ?_)
 refine lq (.bool false) S (q_assign rfl) fun a S => ?_
 refine lx_nil (thenN ?_)
 refine wp_seq (wp_seq (region_plain ?_))
 refine lq p0 S (q_move rfl) fun a S => ?_
 refine lq (.int .i64 (a0.length : Int)) S (q_lenSl rfl (h0).isSl rfl Tryz.underlying22) fun a S => ?_
 refine lq p1 S (q_move rfl) fun a S => ?_
 refine lq (.int .i64 (a1.length : Int)) S (q_lenSl rfl (h1).isSl rfl Tryz.underlying22) fun a S => ?_
 refine lq (.bool ((a0.length : Int) != (a1.length : Int))) S (q_neq rfl rfl) fun a S => ?_
 refine lx_nil (thenN ?_)
 refine cond_b S rfl (fun hc31 => ?_) (fun hc31 => ?_)
 ·have hm := ite_t hc31 hm
  refine wp_seq (region_plain ?_)
  refine lq (.bool false) S (q_assign rfl) fun a S => ?_
  refine lx_nil (thenN ?_)
  refine wp_ret (then_ret ?_)
  obtain rfl := Option.some.inj hm
  exact leave1 S rfl rfl ⟨rfl, H⟩
 ·have hm := ite_f hc31 hm
  refine wp_skip (thenN ?_)
  refine wp_seq (wp_seq (region_plain ?_))
  refine lq (.int .i64 (0 : Int)) S (q_assign rfl) fun a S => ?_
  refine lx_nil (thenN ?_)
  obtain ⟨res63, hit64, hk67⟩ := bind_some hm
  obtain ⟨f65, hf66, hit64⟩ := iter_name hit64
  refine block_loop (fun a w => Slots a 26 [] ∧ Heap w0 [] w ∧ res63 = .inl ()) ?_ ?_
  ·rintro a w ⟨S, H, rfl⟩
   have hm := ctl_inl hk67
   refine thenN ?_
   refine wp_seq (region_plain ?_)
   refine lq (.bool true) S (q_assign rfl) fun a S => ?_
   refine lx_nil (thenN ?_)
   refine wp_ret ?_
   obtain rfl := Option.some.inj hm
   exact leave1 S rfl rfl ⟨rfl, H⟩
  ·skip
   refine loop_ghost (fun n a w => ∃ (x47 : Int), Slots a 26 [(0, p0), (1, p1), (5, (.int .i64 x47))] ∧ Heap w0 [] w ∧ iter f65 n (x47) = some res63) _ ⟨(0 : Int), S.sub ⟨rfl, rfl, rfl, trivial⟩, H, hit64⟩ ?_
   rintro n a w ⟨x47, S, H, hit64⟩
   obtain ⟨m68, o69, rfl, hm, hc70⟩ := iter_step hit64
   rw [hf66] at hm
   refine wp_seq (wp_seq (region_plain ?_))
   refine lq (.int .i64 x47) S (q_move rfl) fun a S => ?_
   refine lq p0 S (q_move rfl) fun a S => ?_
   refine lq (.int .i64 (a0.length : Int)) S (q_lenSl rfl (h0).isSl rfl Tryz.underlying22) fun a S => ?_
   refine lq (.bool (decide (x47 < (a0.length : Int)))) S (q_lss rfl rfl) fun a S => ?_
   refine lx_nil (thenN ?_)
   refine cond_b S rfl (fun hc71 => ?_) (fun hc71 => ?_)
   ·have hm := ite_t hc71 hm
    refine wp_skip (thenN ?_)
    refine wp_seq ?_
    refine wp_block ?_
    refine wp_seq ?_
    refine region_drawG (fun w1 => Heap w0 [] w1) (fun i => [].contains i) mixed (by kernel_rfl) (fun w73 he72 => ?_)
    have H := H.later he72
    refine ⟨H.sel [] (by decide), ?_⟩
    refine lq p0 S (q_move rfl) fun a S => ?_
    refine lq (.int .i64 x47) S (q_move rfl) fun a S => ?_
    obtain ⟨x74, e75, hm⟩ := bind_some hm
    obtain ⟨c76, h77, hat78⟩ := (h0).elem (idx_some e75).2
    obtain rfl := h77
    have hlt := lt_of_idx (idx_some e75).2
    refine lq (ePtr p0 (x47.toNat * 1)) S (q_indexAddr rfl (h0).isSl rfl (idx_some e75).1 hlt Tryz.underlying22 Tryz.sizeOf9) fun a S => ?_
    refine lq (sv x74) S (q_load1 rfl Tryz.isAgg9 (fun w1 hC => ((hat78 0 _ rfl).ext hC.ext))) fun a S => ?_
    refine lq p1 S (q_move rfl) fun a S => ?_
    refine lq (.int .i64 x47) S (q_move rfl) fun a S => ?_
    obtain ⟨x79, e80, hm⟩ := bind_some hm
    obtain ⟨c81, h82, hat83⟩ := (h1).elem (idx_some e80).2
    obtain rfl := h82
    have hlt := lt_of_idx (idx_some e80).2
    refine lq (ePtr p1 (x47.toNat * 1)) S (q_indexAddr rfl (h1).isSl rfl (idx_some e80).1 hlt Tryz.underlying22 Tryz.sizeOf9) fun a S => ?_
    refine lq (sv x79) S (q_load1 rfl Tryz.isAgg9 (fun w1 hC => ((hat83 0 _ rfl).ext hC.ext))) fun a S => ?_
    refine lq (.bool (x74 != x79)) S (q_sneq rfl rfl) fun a S => ?_
    refine lx_nil (thenN ?_)
    refine cond_b S rfl (fun hc84 => ?_) (fun hc84 => ?_)
    ·have hm := ite_t hc84 hm
     refine wp_seq (region_plain ?_)
     refine lq (.bool false) S (q_assign rfl) fun a S => ?_
     refine lx_nil (thenN ?_)
     refine wp_ret (inBlock_ret ?_)
     refine then_ret ?_
     refine then_ret ?_
     refine inBlock_ret ?_
     refine then_ret ?_
     refine then_ret ?_
     obtain rfl := it_brk hm hc70
     have hm := ctl_inr hk67
     obtain rfl := Option.some.inj hm
     exact leave1 S rfl rfl ⟨rfl, H⟩
    ·have hm := ite_f hc84 hm
     refine wp_skip ?_
     refine inBlock_norm ?_
     refine thenN ?_
     refine region_plain ?_
     refine lq (.int .i64 x47) S (q_move rfl) fun a S => ?_
     refine lq (.int .i64 (W (x47 + (1 : Int)))) S (q_add rfl rfl) fun a S => ?_
     refine lq (.int .i64 (W (x47 + (1 : Int)))) S (q_assign rfl) fun a S => ?_
     refine lx_nil ?_
     exact ⟨m68, Nat.lt_succ_self _, (W (x47 + (1 : Int))), S.sub ⟨rfl, rfl, rfl, trivial⟩, H, it_cont hm hc70⟩
   ·have hm := ite_f hc71 hm
    refine wp_exit ?_
    refine then_exit ?_
    refine then_exit ?_
    refine inBlock_exit ?_
    obtain rfl := it_brk hm hc70
    exact ⟨S.sub trivial, H, rfl⟩
end Go.Proofs.YtldmecdkdoipdaaGreatDoor
