/- The model of a statement and its walk (printed by a program of this repo). -/
import Derived.Test.YtalcdoidimmdlaaGreatDoorF0
import Derived.Test.YtalcdoidimmdlaaGreatDoorF1
import Derived.Test.YtalcdoidimmdlaaGreatDoorF3
import Derived.Test.YtalcdoidimmdlaaGreatDoorF7
import Derived.Test.YtalcdoidimmdlaaGreatDoorGxT
import Derived.Test.YtalcdoidimmdlaaGreatDoorGxY
namespace Go.Proofs.YtalcdoidimmdlaaGreatDoor
open Go.RowKit Go.Gx

/-- spec.BinderOf -/
def spec_BinderOf_m (fuel : Nat) (a0 : (List Timpl_Node)) (a1 : Int) : Option ((Int × Int)) :=
  (spec_l19Ask_m fuel a0 a1).bind fun x33 => (if (x33 != (0 : Int)) = true then some (((0 : Int), x33)) else (idx a0 a1).bind fun x37 => (if (x37.1 != (6 : Int)) = true then some (((0 : Int), (3 : Int))) else (spec_l19Binder_m fuel a0 a1).bind fun x57 => some ((x57, (0 : Int)))))
set_option maxRecDepth 20000 in
theorem spec_BinderOf_ok {w0 : World} {fuel : Nat} {p0 : Value} {a0 : (List Timpl_Node)} {a1 : Int} {r : (Int × Int)} (h0 : Rd (rList Rimpl_Node) w0 p0 a0) (hm : spec_BinderOf_m fuel a0 a1 = some r) :
  Calls Tryz.prog 13 #[p0, .int .i64 a1] w0 fun e w => e = .returned (.tuple #[.int .i64 r.1, .int .i64 r.2]) ∧ Heap w0 [] w := by
 unfold spec_BinderOf_m at hm
 have H := Heap.start w0
 refine enter (args := [p0, .int .i64 a1]) Tryz.func13 rfl 22 rfl (Nat.le_of_ble_eq_true rfl) (fun a S => ?_)
 refine wp_seq (region_plain ?_)
 refine lq (.int .i64 (0 : Int)) S (q_assign rfl) fun a S => ?_
 refine lq (.int .i64 (0 : Int)) S (q_assign rfl) fun a S => ?_
 refine lx_nil (thenN ?_)
 refine wp_seq (region_plain ?_)
 refine lq p0 S (q_move rfl) fun a S => ?_
 refine lq (.int .i64 a1) S (q_move rfl) fun a S => ?_
 obtain ⟨x33, e34, hm⟩ := bind_some hm
 refine lx_call (xs := [.tmp 7, .tmp 8]) S trivial (by decide) rfl rfl Tryz.call30 ((spec_l19Ask_ok (H.arg h0)  e34).mono ?_)
 rintro e w31 ⟨rfl, Hc32⟩
 have H := H.call0 Hc32
 refine ⟨_, rfl, trivial, fun a S => ?_⟩
 refine lq (.int .i64 x33) S (q_assign rfl) fun a S => ?_
 refine lx_nil (thenN ?_)
 refine wp_seq (wp_seq (region_plain ?_))
 refine lq (.int .i64 x33) S (q_move rfl) fun a S => ?_
 refine lq (.bool (x33 != (0 : Int))) S (q_neq rfl rfl) fun a S => ?_
 refine lx_nil (thenN ?_)
 refine cond_b S rfl (fun hc36 => ?_) (fun hc36 => ?_)
 ·have hm := ite_t hc36 hm
  refine wp_seq (region_plain ?_)
  refine lq (.int .i64 x33) S (q_move rfl) fun a S => ?_
  refine lq (.int .i64 (0 : Int)) S (q_assign rfl) fun a S => ?_
  refine lq (.int .i64 x33) S (q_assign rfl) fun a S => ?_
  refine lx_nil (thenN ?_)
  refine wp_ret (then_ret ?_)
  obtain rfl := Option.some.inj hm
  exact leave2 S rfl rfl rfl ⟨rfl, H⟩
 ·have hm := ite_f hc36 hm
  refine wp_skip (thenN ?_)
  refine wp_seq (wp_seq (region_plain ?_))
  refine lq p0 S (q_move rfl) fun a S => ?_
  refine lq (.int .i64 a1) S (q_move rfl) fun a S => ?_
  obtain ⟨x37, e38, hm⟩ := bind_some hm
  obtain ⟨c39, h40, hat41⟩ := (h0).elem (idx_some e38).2
  obtain ⟨c42, c43, rfl, h44, h45⟩ := h40
  obtain rfl := h44
  obtain ⟨c46, c47, rfl, h48, h49⟩ := h45
  obtain rfl := h48
  obtain ⟨c50, c51, rfl, h52, h53⟩ := h49
  obtain rfl := h52
  obtain rfl := h53
  have hlt := lt_of_idx (idx_some e38).2
  refine lq (ePtr p0 (a1.toNat * 4)) S (q_indexAddr rfl (h0).isSl rfl (idx_some e38).1 hlt Tryz.underlying26 Tryz.sizeOf57) fun a S => ?_
  refine lq (pAdd (ePtr p0 (a1.toNat * 4)) 0) S (q_fieldAddr' 0 2 rfl ((hat41 0 _ rfl).isP) Tryz.underlying57 rfl Tryz.sizeOf2) fun a S => ?_
  refine lx_e (.int .i64 x37.1) S trivial (by decide) rfl trivial (q_load1 rfl Tryz.isAgg2 (by rintro _ rfl; exact (At.of_add (m := 0) (j := 0) ((hat41 0 _ rfl).ext H.ext)))) (fun a S => ?_)
  refine lq (.bool (x37.1 != (6 : Int))) S (q_neq rfl rfl) fun a S => ?_
  refine lx_nil (thenN ?_)
  refine cond_b S rfl (fun hc54 => ?_) (fun hc54 => ?_)
  ·have hm := ite_t hc54 hm
   refine wp_seq (region_plain ?_)
   refine lq (.int .i64 (0 : Int)) S (q_assign rfl) fun a S => ?_
   refine lq (.int .i64 (3 : Int)) S (q_assign rfl) fun a S => ?_
   refine lx_nil (thenN ?_)
   refine wp_ret (then_ret ?_)
   obtain rfl := Option.some.inj hm
   exact leave2 S rfl rfl rfl ⟨rfl, H⟩
  ·have hm := ite_f hc54 hm
   refine wp_skip (thenN ?_)
   refine wp_seq (region_plain ?_)
   refine lq p0 S (q_move rfl) fun a S => ?_
   refine lq (.int .i64 a1) S (q_move rfl) fun a S => ?_
   obtain ⟨x57, e58, hm⟩ := bind_some hm
   refine lx_call (xs := [.tmp 19, .tmp 20]) S trivial (by decide) rfl rfl Tryz.call36 ((spec_l19Binder_ok (H.arg h0)  e58).mono ?_)
   rintro e w55 ⟨rfl, Hc56⟩
   have H := H.call0 Hc56
   refine ⟨_, rfl, trivial, fun a S => ?_⟩
   refine lq (.int .i64 x57) S (q_assign rfl) fun a S => ?_
   refine lq (.int .i64 (0 : Int)) S (q_assign rfl) fun a S => ?_
   refine lx_nil (thenN ?_)
   refine wp_ret ?_
   obtain rfl := Option.some.inj hm
   exact leave2 S rfl rfl rfl ⟨rfl, H⟩

/-- impl.BinderOf -/
def impl_BinderOf_m (fuel : Nat) (a0 : (List Timpl_Node)) (a1 : Int) : Option ((Int × Int)) :=
  (impl_nodeCode_m fuel a0 a1).bind fun x33 => (if (x33 != (0 : Int)) = true then some (((0 : Int), x33)) else (idx a0 a1).bind fun x37 => (if (x37.1 != (6 : Int)) = true then some (((0 : Int), (3 : Int))) else (impl_binder_m fuel a0 a1).bind fun x57 => some ((x57, (0 : Int)))))
set_option maxRecDepth 20000 in
theorem impl_BinderOf_ok {w0 : World} {fuel : Nat} {p0 : Value} {a0 : (List Timpl_Node)} {a1 : Int} {r : (Int × Int)} (hG : GlobE Tryz.prog w0) (h0 : Rd (rList Rimpl_Node) w0 p0 a0) (hm : impl_BinderOf_m fuel a0 a1 = some r) :
  Calls Tryz.prog 14 #[p0, .int .i64 a1] w0 fun e w => e = .returned (.tuple #[.int .i64 r.1, .int .i64 r.2]) ∧ Heap w0 [] w := by
 unfold impl_BinderOf_m at hm
 have H := Heap.start w0
 refine enter (args := [p0, .int .i64 a1]) Tryz.func14 rfl 22 rfl (Nat.le_of_ble_eq_true rfl) (fun a S => ?_)
 refine wp_seq (region_plain ?_)
 refine lq (.int .i64 (0 : Int)) S (q_assign rfl) fun a S => ?_
 refine lq (.int .i64 (0 : Int)) S (q_assign rfl) fun a S => ?_
 refine lx_nil (thenN ?_)
 refine wp_seq (wp_seq (region_plain ?_))
 refine lq p0 S (q_move rfl) fun a S => ?_
 refine lq (.int .i64 a1) S (q_move rfl) fun a S => ?_
 obtain ⟨x33, e34, hm⟩ := bind_some hm
 refine lx_call (xs := [.tmp 7, .tmp 8]) S trivial (by decide) rfl rfl Tryz.call33 ((impl_nodeCode_ok (hG.ext H.ext) (H.arg h0)  e34).mono ?_)
 rintro e w31 ⟨rfl, Hc32⟩
 have H := H.call0 Hc32
 refine ⟨_, rfl, trivial, fun a S => ?_⟩
 refine lq (.int .i64 x33) S (q_assign rfl) fun a S => ?_
 refine lx_nil (thenN ?_)
 refine wp_seq (region_plain ?_)
 refine lq (.int .i64 x33) S (q_move rfl) fun a S => ?_
 refine lq (.bool (x33 != (0 : Int))) S (q_neq rfl rfl) fun a S => ?_
 refine lx_nil (thenN ?_)
 refine cond_b S rfl (fun hc36 => ?_) (fun hc36 => ?_)
 ·have hm := ite_t hc36 hm
  refine wp_seq (region_plain ?_)
  refine lq (.int .i64 x33) S (q_move rfl) fun a S => ?_
  refine lq (.int .i64 (0 : Int)) S (q_assign rfl) fun a S => ?_
  refine lq (.int .i64 x33) S (q_assign rfl) fun a S => ?_
  refine lx_nil (thenN ?_)
  refine wp_ret (then_ret ?_)
  obtain rfl := Option.some.inj hm
  exact leave2 S rfl rfl rfl ⟨rfl, H⟩
 ·have hm := ite_f hc36 hm
  refine wp_skip (thenN ?_)
  refine wp_seq (wp_seq (region_plain ?_))
  refine lq p0 S (q_move rfl) fun a S => ?_
  refine lq (.int .i64 a1) S (q_move rfl) fun a S => ?_
  obtain ⟨x37, e38, hm⟩ := bind_some hm
  obtain ⟨c39, h40, hat41⟩ := (h0).elem (idx_some e38).2
  obtain ⟨c42, c43, rfl, h44, h45⟩ := h40
  obtain rfl := h44
  obtain ⟨c46, c47, rfl, h48, h49⟩ := h45
  obtain rfl := h48
  obtain ⟨c50, c51, rfl, h52, h53⟩ := h49
  obtain rfl := h52
  obtain rfl := h53
  have hlt := lt_of_idx (idx_some e38).2
  refine lq (ePtr p0 (a1.toNat * 4)) S (q_indexAddr rfl (h0).isSl rfl (idx_some e38).1 hlt Tryz.underlying26 Tryz.sizeOf57) fun a S => ?_
  refine lq (pAdd (ePtr p0 (a1.toNat * 4)) 0) S (q_fieldAddr' 0 2 rfl ((hat41 0 _ rfl).isP) Tryz.underlying57 rfl Tryz.sizeOf2) fun a S => ?_
  refine lx_e (.int .i64 x37.1) S trivial (by decide) rfl trivial (q_load1 rfl Tryz.isAgg2 (by rintro _ rfl; exact (At.of_add (m := 0) (j := 0) ((hat41 0 _ rfl).ext H.ext)))) (fun a S => ?_)
  refine lq (.bool (x37.1 != (6 : Int))) S (q_neq rfl rfl) fun a S => ?_
  refine lx_nil (thenN ?_)
  refine cond_b S rfl (fun hc54 => ?_) (fun hc54 => ?_)
  ·have hm := ite_t hc54 hm
   refine wp_seq (region_plain ?_)
   refine lq (.int .i64 (0 : Int)) S (q_assign rfl) fun a S => ?_
   refine lq (.int .i64 (3 : Int)) S (q_assign rfl) fun a S => ?_
   refine lx_nil (thenN ?_)
   refine wp_ret (then_ret ?_)
   obtain rfl := Option.some.inj hm
   exact leave2 S rfl rfl rfl ⟨rfl, H⟩
  ·have hm := ite_f hc54 hm
   refine wp_skip (thenN ?_)
   refine wp_seq (region_plain ?_)
   refine lq p0 S (q_move rfl) fun a S => ?_
   refine lq (.int .i64 a1) S (q_move rfl) fun a S => ?_
   obtain ⟨x57, e58, hm⟩ := bind_some hm
   refine lx_call (xs := [.tmp 19, .tmp 20]) S trivial (by decide) rfl rfl Tryz.call37 ((impl_binder_ok (H.arg h0)  e58).mono ?_)
   rintro e w55 ⟨rfl, Hc56⟩
   have H := H.call0 Hc56
   refine ⟨_, rfl, trivial, fun a S => ?_⟩
   refine lq (.int .i64 x57) S (q_assign rfl) fun a S => ?_
   refine lq (.int .i64 (0 : Int)) S (q_assign rfl) fun a S => ?_
   refine lx_nil (thenN ?_)
   refine wp_ret ?_
   obtain rfl := Option.some.inj hm
   exact leave2 S rfl rfl rfl ⟨rfl, H⟩

/-- laws.FnExactBinderOf -/
def laws_FnExactBinderOf_m (fuel : Nat) (a0 : (List Tlaws_Node)) (a1 : Int) : Option (Bool) :=
  (laws_szNodeS_m fuel a0 (1048576 : Int)).bind fun x33 => (if (decide (x33 < (0 : Int))) = true then some (true) else (laws_toNodeS_m fuel a0).bind fun x39 => (spec_BinderOf_m fuel x39 a1).bind fun x46 => (laws_toNodeS_m fuel a0).bind fun x51 => (impl_BinderOf_m fuel x51 a1).bind fun x58 => (if (x58.1 != x46.1) = true then some true else some (x58.2 != x46.2)).bind fun t61 => (if t61 = true then some (false) else (laws_toNodeS_m fuel a0).bind fun x67 => (laws_eqNodeS_m fuel x51 x67).bind fun x74 => (if (!x74) = true then some (false) else some (true))))
set_option maxRecDepth 20000 in
theorem laws_FnExactBinderOf_ok {w0 : World} {fuel : Nat} {p0 : Value} {a0 : (List Tlaws_Node)} {a1 : Int} {r : Bool} (hG : GlobE Tryz.prog w0) (h0 : Rd (rList Rlaws_Node) w0 p0 a0) (hm : laws_FnExactBinderOf_m fuel a0 a1 = some r) :
  Calls Tryz.prog 4 #[p0, .int .i64 a1] w0 fun e w => e = .returned (.bool r) ∧ Heap w0 [] w := by
 unfold laws_FnExactBinderOf_m at hm
 have H := Heap.start w0
 refine enter (args := [p0, .int .i64 a1]) Tryz.func4 rfl 44 rfl (Nat.le_of_ble_eq_true rfl) (fun a S => ?_)
 refine wp_seq (region_plain ?_)
 refine lq (.bool false) S (q_assign rfl) fun a S => ?_
 refine lx_nil (thenN ?_)
 refine wp_seq (region_plain ?_)
 refine lq (.int .i64 (1048576 : Int)) S (q_assign rfl) fun a S => ?_
 refine lx_nil (thenN ?_)
 refine wp_seq (region_plain ?_)
 refine lq p0 S (q_move rfl) fun a S => ?_
 refine lq (.int .i64 (1048576 : Int)) S (q_move rfl) fun a S => ?_
 obtain ⟨x33, e34, hm⟩ := bind_some hm
 refine lx_call (xs := [.tmp 11, .tmp 12]) S trivial (by decide) rfl rfl Tryz.call8 ((laws_szNodeS_ok (H.arg h0)  e34).mono ?_)
 rintro e w31 ⟨rfl, Hc32⟩
 have H := H.call0 Hc32
 refine ⟨_, rfl, trivial, fun a S => ?_⟩
 refine lq (.int .i64 x33) S (q_assign rfl) fun a S => ?_
 refine lx_nil (thenN ?_)
 refine wp_seq (wp_seq (region_plain ?_))
 refine lq (.int .i64 x33) S (q_move rfl) fun a S => ?_
 refine lq (.bool (decide (x33 < (0 : Int)))) S (q_lss rfl rfl) fun a S => ?_
 refine lx_nil (thenN ?_)
 refine cond_b S rfl (fun hc36 => ?_) (fun hc36 => ?_)
 ·have hm := ite_t hc36 hm
  refine wp_seq (region_plain ?_)
  refine lq (.bool true) S (q_assign rfl) fun a S => ?_
  refine lx_nil (thenN ?_)
  refine wp_ret (then_ret ?_)
  obtain rfl := Option.some.inj hm
  exact leave1 S rfl rfl ⟨rfl, H⟩
 ·have hm := ite_f hc36 hm
  refine wp_skip (thenN ?_)
  refine wp_seq (region_plain ?_)
  refine lq p0 S (q_move rfl) fun a S => ?_
  obtain ⟨x39, e40, hm⟩ := bind_some hm
  refine lx_call (xs := [.tmp 17]) S trivial (by decide) rfl rfl Tryz.call10 ((laws_toNodeS_ok (H.arg h0) e40).mono ?_)
  rintro e w37 ⟨v41, rfl, Hc38⟩
  have H := H.call1 Hc38
  refine ⟨_, rfl, trivial, fun a S => ?_⟩
  refine lq (.int .i64 a1) S (q_move rfl) fun a S => ?_
  obtain ⟨x46, e47, hm⟩ := bind_some hm
  refine lx_call (xs := [.tmp 18, .tmp 19]) S trivial (by decide) rfl rfl Tryz.call13 ((spec_BinderOf_ok (H.rdAt 0 rfl)  e47).mono ?_)
  rintro e w44 ⟨rfl, Hc45⟩
  have H := H.call0 Hc45
  refine ⟨_, rfl, trivial, fun a S => ?_⟩
  refine lq (.tuple #[(.int .i64 x46.1), (.int .i64 x46.2)]) S (q_move rfl) fun a S => ?_
  refine lq (.int .i64 x46.1) S (q_extract rfl rfl) fun a S => ?_
  refine lq (.int .i64 x46.2) S (q_extract rfl rfl) fun a S => ?_
  refine lq (.int .i64 x46.1) S (q_assign rfl) fun a S => ?_
  refine lq (.int .i64 x46.2) S (q_assign rfl) fun a S => ?_
  refine lx_nil (thenN ?_)
  refine wp_seq (region_plain ?_)
  refine lq p0 S (q_move rfl) fun a S => ?_
  obtain ⟨x51, e52, hm⟩ := bind_some hm
  refine lx_call (xs := [.tmp 23]) S trivial (by decide) rfl rfl Tryz.call10 ((laws_toNodeS_ok (H.arg h0) e52).mono ?_)
  rintro e w49 ⟨v53, rfl, Hc50⟩
  have H := H.call1 Hc50
  refine ⟨_, rfl, trivial, fun a S => ?_⟩
  refine lq v53 S (q_assign rfl) fun a S => ?_
  refine lx_nil (thenN ?_)
  refine wp_seq (region_plain ?_)
  refine lq v53 S (q_move rfl) fun a S => ?_
  refine lq (.int .i64 a1) S (q_move rfl) fun a S => ?_
  obtain ⟨x58, e59, hm⟩ := bind_some hm
  refine lx_call (xs := [.tmp 26, .tmp 27]) S trivial (by decide) rfl rfl Tryz.call14 ((impl_BinderOf_ok (hG.ext H.ext) (H.rdAt 0 rfl)  e59).mono ?_)
  rintro e w56 ⟨rfl, Hc57⟩
  have H := H.call0 Hc57
  refine ⟨_, rfl, trivial, fun a S => ?_⟩
  refine lq (.tuple #[(.int .i64 x58.1), (.int .i64 x58.2)]) S (q_move rfl) fun a S => ?_
  refine lq (.int .i64 x58.1) S (q_extract rfl rfl) fun a S => ?_
  refine lq (.int .i64 x58.2) S (q_extract rfl rfl) fun a S => ?_
  refine lq (.int .i64 x58.1) S (q_assign rfl) fun a S => ?_
  refine lq (.int .i64 x58.2) S (q_assign rfl) fun a S => ?_
  refine lx_nil (thenN ?_)
  refine wp_seq (wp_seq (region_plain ?_))
  refine lq (.int .i64 x58.1) S (q_move rfl) fun a S => ?_
  refine lq (.int .i64 x46.1) S (q_move rfl) fun a S => ?_
  refine lq (.bool (x58.1 != x46.1)) S (q_neq rfl rfl) fun a S => ?_
  refine lq (.bool (x58.1 != x46.1)) S (q_move rfl) fun a S => ?_
  obtain ⟨t61, e62, hm⟩ := bind_some hm
  refine lx_cut 4 (fun a w => Slots a 44 [(0, p0), (8, v53), (38, (.bool t61))] ∧ Heap w0 [oA (rList Rimpl_Node) v53 x51] w) ?_ ?_
  ·by_cases hc63 : (x58.1 != x46.1) = true
   ·have hm := ite_t hc63 e62
    refine lx_skip S rfl rfl (isB_ne hc63) (by decide) (fun a S => ?_)
    refine lx_skip S rfl rfl (isB_ne hc63) (by decide) (fun a S => ?_)
    refine lx_skip S rfl rfl (isB_ne hc63) (by decide) (fun a S => ?_)
    refine lq (.bool true) S (q_pickT' rfl hc63 rfl) fun a S => ?_
    refine lx_nil ?_
    obtain rfl := Option.some.inj hm
    have H := H.sel [0] (by decide)
    exact ⟨S.sub ⟨rfl, rfl, rfl, trivial⟩, H⟩
   ·have hm := ite_f (eq_false_of_ne_true hc63) e62
    have hc63 : (x58.1 != x46.1) = false := eq_false_of_ne_true hc63
    refine lx_q (.int .i64 x58.2) S (want_b rfl rfl hc63) (by decide) (q_move rfl) (fun a S => ?_)
    refine lx_q (.int .i64 x46.2) S (want_b rfl rfl hc63) (by decide) (q_move rfl) (fun a S => ?_)
    refine lx_q (.bool (x58.2 != x46.2)) S (want_b rfl rfl hc63) (by decide) (q_neq rfl rfl) (fun a S => ?_)
    refine lq (.bool (x58.2 != x46.2)) S (q_pickF' rfl hc63 rfl) fun a S => ?_
    refine lx_nil ?_
    obtain rfl := Option.some.inj hm
    have H := H.sel [0] (by decide)
    exact ⟨S.sub ⟨rfl, rfl, rfl, trivial⟩, H⟩
  ·rintro a w ⟨S, H⟩
   refine lx_nil (thenN ?_)
   refine cond_b S rfl (fun hc64 => ?_) (fun hc64 => ?_)
   ·have hm := ite_t hc64 hm
    refine wp_seq (region_plain ?_)
    refine lq (.bool false) S (q_assign rfl) fun a S => ?_
    refine lx_nil (thenN ?_)
    refine wp_ret (then_ret ?_)
    obtain rfl := Option.some.inj hm
    have H : Heap w0 [] w := H.sel [] (by decide)
    exact leave1 S rfl rfl ⟨rfl, H⟩
   ·have hm := ite_f hc64 hm
    refine wp_skip (thenN ?_)
    refine wp_seq (wp_seq (region_plain ?_))
    refine lq v53 S (q_move rfl) fun a S => ?_
    refine lq p0 S (q_move rfl) fun a S => ?_
    obtain ⟨x67, e68, hm⟩ := bind_some hm
    refine lx_call (xs := [.tmp 40]) S trivial (by decide) rfl rfl Tryz.call10 ((laws_toNodeS_ok (H.arg h0) e68).mono ?_)
    rintro e w65 ⟨v69, rfl, Hc66⟩
    have H := H.call1 Hc66
    refine ⟨_, rfl, trivial, fun a S => ?_⟩
    obtain ⟨x74, e75, hm⟩ := bind_some hm
    refine lx_call (xs := [.tmp 39, .tmp 41]) S trivial (by decide) rfl rfl Tryz.call12 ((laws_eqNodeS_ok (H.rdAt 1 rfl) (H.rdAt 0 rfl) e75).mono ?_)
    rintro e w72 ⟨rfl, Hc73⟩
    have H := H.call0 Hc73
    refine ⟨_, rfl, trivial, fun a S => ?_⟩
    refine lq (.bool (!x74)) S (q_not rfl) fun a S => ?_
    refine lx_nil (thenN ?_)
    refine cond_b S rfl (fun hc77 => ?_) (fun hc77 => ?_)
    ·have hm := ite_t hc77 hm
     refine wp_seq (region_plain ?_)
     refine lq (.bool false) S (q_assign rfl) fun a S => ?_
     refine lx_nil (thenN ?_)
     refine wp_ret (then_ret ?_)
     obtain rfl := Option.some.inj hm
     have H : Heap w0 [] w72 := H.sel [] (by decide)
     exact leave1 S rfl rfl ⟨rfl, H⟩
    ·have hm := ite_f hc77 hm
     refine wp_skip (thenN ?_)
     refine wp_seq (region_plain ?_)
     refine lq (.bool true) S (q_assign rfl) fun a S => ?_
     refine lx_nil (thenN ?_)
     refine wp_ret ?_
     obtain rfl := Option.some.inj hm
     have H : Heap w0 [] w72 := H.sel [] (by decide)
     exact leave1 S rfl rfl ⟨rfl, H⟩
end Go.Proofs.YtalcdoidimmdlaaGreatDoor
