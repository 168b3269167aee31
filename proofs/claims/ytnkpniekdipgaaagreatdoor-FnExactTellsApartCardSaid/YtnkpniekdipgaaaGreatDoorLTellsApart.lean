/- The model of a statement and its walk (printed by a program of this repo). -/
import Derived.Test.YtnkpniekdipgaaaGreatDoorF0
import Derived.Test.YtnkpniekdipgaaaGreatDoorF1
import Derived.Test.YtnkpniekdipgaaaGreatDoorF2
import Derived.Test.YtnkpniekdipgaaaGreatDoorF3
import Derived.Test.YtnkpniekdipgaaaGreatDoorF4
import Derived.Test.YtnkpniekdipgaaaGreatDoorF6
import Derived.Test.YtnkpniekdipgaaaGreatDoorF7
import Derived.Test.YtnkpniekdipgaaaGreatDoorF8
import Derived.Test.YtnkpniekdipgaaaGreatDoorGxT
import Derived.Test.YtnkpniekdipgaaaGreatDoorGxY
namespace Go.Proofs.YtnkpniekdipgaaaGreatDoor
open Go.RowKit Go.Gx

/-- spec.l14Two -/
def spec_l14Two_m (fuel : Nat) (a0 : Timpl_Lts) (a1 : Int) (a2 : Int) : Option (Bool) :=
  (spec_l00In_m fuel a1 (0 : Int) (W (a0.1 - (1 : Int)))).bind fun x52 => (if x52 = true then (spec_l00In_m fuel a2 (0 : Int) (W (a0.1 - (1 : Int)))).bind fun x60 => some x60 else some false).bind fun t55 => some (t55)
set_option maxRecDepth 20000 in
theorem spec_l14Two_ok [dr : Dr] {w0 : World} {fuel : Nat} {p0 : Value} {a0 : Timpl_Lts} {a1 : Int} {a2 : Int} {r : Bool} (h0 : Rd (rPtr Rimpl_Lts) w0 p0 a0) (hm : spec_l14Two_m fuel a0 a1 a2 = some r) :
  Calls Tryz.prog 39 #[p0, .int .i64 a1, .int .i64 a2] w0 fun e w => e = .returned (.bool r) ∧ Heap w0 [] w := by
 unfold spec_l14Two_m at hm
 have H := Heap.start w0
 obtain ⟨c31, h32, hat33⟩ := h0.ptr
 obtain ⟨c38, c39, rfl, h40, h41⟩ := h32
 obtain rfl := h40
 obtain ⟨c42, c43, rfl, h44, h45⟩ := h41
 obtain rfl := h44
 obtain ⟨c46, c47, rfl, h48, h49⟩ := h45
 obtain ⟨v34, rfl, h35⟩ := rd_list h48
 obtain ⟨v36, rfl, h37⟩ := rd_list h49
 refine enter (args := [p0, .int .i64 a1, .int .i64 a2]) Tryz.func39 rfl 23 rfl (Nat.le_of_ble_eq_true rfl) (fun a S => ?_)
 refine wp_seq (region_plain ?_)
 refine lq (.bool false) S (q_assign rfl) fun a S => ?_
 refine lx_nil (thenN ?_)
 refine wp_seq (region_plain ?_)
 refine lq (.int .i64 a1) S (q_move rfl) fun a S => ?_
 refine lq p0 S (q_move rfl) fun a S => ?_
 refine lq p0 S (q_nilCheck rfl ((hat33 0 _ rfl).isP)) fun a S => ?_
 refine lq (pAdd p0 0) S (q_fieldAddr' 0 2 rfl ((hat33 0 _ rfl).isP) Tryz.underlying35 rfl Tryz.sizeOf2) fun a S => ?_
 refine lx_e (.int .i64 a0.1) S trivial (by decide) rfl trivial (q_load1 rfl Tryz.isAgg2 (by rintro _ rfl; exact (At.of_add (m := 0) (j := 0) ((hat33 0 _ rfl).ext H.ext)))) (fun a S => ?_)
 refine lq (.int .i64 (W (a0.1 - (1 : Int)))) S (q_sub rfl rfl) fun a S => ?_
 obtain ⟨x52, e53, hm⟩ := bind_some hm
 refine lx_call (xs := [.tmp 7, .const (.int .i64 (0)), .tmp 12]) S trivial (by decide) rfl rfl Tryz.call28 ((spec_l00In_ok    e53).mono ?_)
 rintro e w50 ⟨rfl, Hc51⟩
 have H := H.call0 Hc51
 refine ⟨_, rfl, trivial, fun a S => ?_⟩
 refine lq (.bool x52) S (q_move rfl) fun a S => ?_
 obtain ⟨t55, e56, hm⟩ := bind_some hm
 refine lx_cut 8 (fun a w => Slots a 23 [(22, (.bool t55))] ∧ Heap w0 [] w) ?_ ?_
 ·by_cases hc57 : x52 = true
  ·have hm := ite_t hc57 e56
   refine lx_q (.int .i64 a2) S (want_b rfl rfl hc57) (by decide) (q_move rfl) (fun a S => ?_)
   refine lx_q p0 S (want_b rfl rfl hc57) (by decide) (q_move rfl) (fun a S => ?_)
   refine lx_q p0 S (want_b rfl rfl hc57) (by decide) (q_nilCheck rfl ((hat33 0 _ rfl).isP)) (fun a S => ?_)
   refine lx_q (pAdd p0 0) S (want_b rfl rfl hc57) (by decide) (q_fieldAddr' 0 2 rfl ((hat33 0 _ rfl).isP) Tryz.underlying35 rfl Tryz.sizeOf2) (fun a S => ?_)
   refine lx_e (.int .i64 a0.1) S (want_b rfl rfl hc57) (by decide) rfl trivial (q_load1 rfl Tryz.isAgg2 (by rintro _ rfl; exact (At.of_add (m := 0) (j := 0) ((hat33 0 _ rfl).ext H.ext)))) (fun a S => ?_)
   refine lx_q (.int .i64 (W (a0.1 - (1 : Int)))) S (want_b rfl rfl hc57) (by decide) (q_sub rfl rfl) (fun a S => ?_)
   obtain ⟨x60, e61, hm⟩ := bind_some hm
   refine lx_call (xs := [.tmp 15, .const (.int .i64 (0)), .tmp 20]) S (want_b rfl rfl hc57) (by decide) rfl rfl Tryz.call28 ((spec_l00In_ok    e61).mono ?_)
   rintro e w58 ⟨rfl, Hc59⟩
   have H := H.call0 Hc59
   refine ⟨_, rfl, trivial, fun a S => ?_⟩
   refine lq (.bool x60) S (q_pickT' rfl hc57 rfl) fun a S => ?_
   refine lx_nil ?_
   obtain rfl := Option.some.inj hm
   exact ⟨S.sub ⟨rfl, trivial⟩, H⟩
  ·have hm := ite_f (eq_false_of_ne_true hc57) e56
   have hc57 : x52 = false := eq_false_of_ne_true hc57
   refine lx_skip S rfl rfl (isB_ne hc57) (by decide) (fun a S => ?_)
   refine lx_skip S rfl rfl (isB_ne hc57) (by decide) (fun a S => ?_)
   refine lx_skip S rfl rfl (isB_ne hc57) (by decide) (fun a S => ?_)
   refine lx_skip S rfl rfl (isB_ne hc57) (by decide) (fun a S => ?_)
   refine lx_skip S rfl rfl (isB_ne hc57) (by decide) (fun a S => ?_)
   refine lx_skip S rfl rfl (isB_ne hc57) (by decide) (fun a S => ?_)
   refine lx_skip S rfl rfl (isB_ne hc57) (by decide) (fun a S => ?_)
   refine lq (.bool false) S (q_pickF' rfl hc57 rfl) fun a S => ?_
   refine lx_nil ?_
   obtain rfl := Option.some.inj hm
   exact ⟨S.sub ⟨rfl, trivial⟩, H⟩
 ·rintro a w ⟨S, H⟩
  refine lq (.bool t55) S (q_assign rfl) fun a S => ?_
  refine lx_nil (thenN ?_)
  refine wp_ret ?_
  obtain rfl := Option.some.inj hm
  exact leave1 S rfl rfl ⟨rfl, H⟩

/-- spec.TellsApart -/
def spec_TellsApart_m (fuel : Nat) (a0 : (List Timpl_Node)) (a1 : Timpl_Lts) (a2 : Int) (a3 : Int) : Option ((Bool × Int)) :=
  (spec_l14Is_m fuel a0).bind fun x54 => (if (!x54) = true then some true else (spec_l11Is_m fuel (a1.1, a1.2.1, a1.2.2.1, a1.2.2.2)).bind fun x62 => some (!x62)).bind fun t57 => (if t57 = true then some ((false, (1 : Int))) else (spec_l14Two_m fuel (a1.1, a1.2.1, a1.2.2.1, a1.2.2.2) a2 a3).bind fun x68 => (if (!x68) = true then some ((false, (2 : Int))) else (spec_l14Holds_m fuel a0 (a1.1, a1.2.1, a1.2.2.1, a1.2.2.2)).bind fun x74 => (idx x74 a2).bind fun x79 => (if x79 = true then (idx x74 a3).bind fun x87 => some (!x87) else some false).bind fun t84 => some ((t84, (0 : Int)))))
set_option maxRecDepth 20000 in
theorem spec_TellsApart_ok [dr : Dr] {w0 : World} {fuel : Nat} {p0 p1 : Value} {a0 : (List Timpl_Node)} {a1 : Timpl_Lts} {a2 : Int} {a3 : Int} {r : (Bool × Int)} (h0 : Rd (rList Rimpl_Node) w0 p0 a0) (h1 : Rd Rimpl_Lts w0 p1 a1) (hm : spec_TellsApart_m fuel a0 a1 a2 a3 = some r) :
  Calls Tryz.prog 14 #[p0, p1, .int .i64 a2, .int .i64 a3] w0 fun e w => e = .returned (.tuple #[.bool r.1, .int .i64 r.2]) ∧ Heap w0 [] w := by
 unfold spec_TellsApart_m at hm
 have H := Heap.start w0
 obtain ⟨c31, rfl, h32⟩ := h1
 obtain ⟨c37, c38, rfl, h39, h40⟩ := h32
 obtain rfl := h39
 obtain ⟨c41, c42, rfl, h43, h44⟩ := h40
 obtain rfl := h43
 obtain ⟨c45, c46, rfl, h47, h48⟩ := h44
 obtain ⟨v33, rfl, h34⟩ := rd_list h47
 obtain ⟨v35, rfl, h36⟩ := rd_list h48
 refine enter (args := [p0, (.agg #[(.int .i64 a1.1), (.int .i64 a1.2.1), v33, v35]), .int .i64 a2, .int .i64 a3]) Tryz.func14 rfl 35 rfl (Nat.le_of_ble_eq_true rfl) (fun a S => ?_)
 refine wp_seq (region_plain ?_)
 refine lx_box S trivial (by decide) rfl H rfl rfl (fun b49 w50 H => ⟨trivial, fun a S => ?_⟩)
 refine lq (.bool false) S (q_assign rfl) fun a S => ?_
 refine lq (.int .i64 (0 : Int)) S (q_assign rfl) fun a S => ?_
 refine lx_nil (thenN ?_)
 refine wp_seq (wp_seq (region_plain ?_))
 refine lq p0 S (q_move rfl) fun a S => ?_
 obtain ⟨x54, e55, hm⟩ := bind_some hm
 refine lx_call (xs := [.tmp 11]) S trivial (by decide) rfl rfl Tryz.call26 ((spec_l14Is_ok (H.arg h0) e55).mono ?_)
 rintro e w52 ⟨rfl, Hc53⟩
 have H := H.call0 Hc53
 refine ⟨_, rfl, trivial, fun a S => ?_⟩
 refine lq (.bool (!x54)) S (q_not rfl) fun a S => ?_
 refine lq (.bool (!x54)) S (q_move rfl) fun a S => ?_
 obtain ⟨t57, e58, hm⟩ := bind_some hm
 refine lx_cut 3 (fun a w => Slots a 35 [(0, p0), (2, (.int .i64 a2)), (3, (.int .i64 a3)), (5, (bp b49)), (17, (.bool t57))] ∧ Heap w0 [bA b49 [(.int .i64 a1.1), (.int .i64 a1.2.1), v33, v35] 35] w) ?_ ?_
 ·by_cases hc59 : (!x54) = true
  ·have hm := ite_t hc59 e58
   refine lx_skip S rfl rfl (isB_ne hc59) (by decide) (fun a S => ?_)
   refine lx_skip S rfl rfl (isB_ne hc59) (by decide) (fun a S => ?_)
   refine lq (.bool true) S (q_pickT' rfl hc59 rfl) fun a S => ?_
   refine lx_nil ?_
   obtain rfl := Option.some.inj hm
   exact ⟨S.sub ⟨rfl, rfl, rfl, rfl, rfl, trivial⟩, H⟩
  ·have hm := ite_f (eq_false_of_ne_true hc59) e58
   have hc59 : (!x54) = false := eq_false_of_ne_true hc59
   obtain ⟨x62, e63, hm⟩ := bind_some hm
   refine lx_call (xs := [.tmp 5]) S (want_b rfl rfl hc59) (by decide) rfl rfl Tryz.call27 ((spec_l11Is_ok (rdPtr_box H 0 rfl ⟨[(.int .i64 a1.1)], [(.int .i64 a1.2.1), v33, v35], rfl, rfl, ⟨[(.int .i64 a1.2.1)], [v33, v35], rfl, rfl, ⟨[v33], [v35], rfl, ((H.arg h34)).list_rd, ((H.arg h36)).list_rd⟩⟩⟩) e63).mono ?_)
   rintro e w60 ⟨rfl, Hc61⟩
   have H := H.call0 Hc61
   refine ⟨_, rfl, trivial, fun a S => ?_⟩
   refine lx_q (.bool (!x62)) S (want_b rfl rfl hc59) (by decide) (q_not rfl) (fun a S => ?_)
   refine lq (.bool (!x62)) S (q_pickF' rfl hc59 rfl) fun a S => ?_
   refine lx_nil ?_
   obtain rfl := Option.some.inj hm
   exact ⟨S.sub ⟨rfl, rfl, rfl, rfl, rfl, trivial⟩, H⟩
 ·rintro a w ⟨S, H⟩
  refine lx_nil (thenN ?_)
  refine cond_b S rfl (fun hc65 => ?_) (fun hc65 => ?_)
  ·have hm := ite_t hc65 hm
   refine wp_seq (region_plain ?_)
   refine lq (.bool false) S (q_assign rfl) fun a S => ?_
   refine lq (.int .i64 (1 : Int)) S (q_assign rfl) fun a S => ?_
   refine lx_nil (thenN ?_)
   refine wp_ret (then_ret ?_)
   obtain rfl := Option.some.inj hm
   have H : Heap w0 [] w := H.sel [] (by decide)
   exact leave2 S rfl rfl rfl ⟨rfl, H⟩
  ·have hm := ite_f hc65 hm
   refine wp_skip (thenN ?_)
   refine wp_seq (wp_seq (region_plain ?_))
   refine lq (.int .i64 a2) S (q_move rfl) fun a S => ?_
   refine lq (.int .i64 a3) S (q_move rfl) fun a S => ?_
   obtain ⟨x68, e69, hm⟩ := bind_some hm
   refine lx_call (xs := [.tmp 5, .tmp 18, .tmp 19]) S trivial (by decide) rfl rfl Tryz.call39 ((spec_l14Two_ok (rdPtr_box H 0 rfl ⟨[(.int .i64 a1.1)], [(.int .i64 a1.2.1), v33, v35], rfl, rfl, ⟨[(.int .i64 a1.2.1)], [v33, v35], rfl, rfl, ⟨[v33], [v35], rfl, ((H.arg h34)).list_rd, ((H.arg h36)).list_rd⟩⟩⟩)   e69).mono ?_)
   rintro e w66 ⟨rfl, Hc67⟩
   have H := H.call0 Hc67
   refine ⟨_, rfl, trivial, fun a S => ?_⟩
   refine lq (.bool (!x68)) S (q_not rfl) fun a S => ?_
   refine lx_nil (thenN ?_)
   refine cond_b S rfl (fun hc71 => ?_) (fun hc71 => ?_)
   ·have hm := ite_t hc71 hm
    refine wp_seq (region_plain ?_)
    refine lq (.bool false) S (q_assign rfl) fun a S => ?_
    refine lq (.int .i64 (2 : Int)) S (q_assign rfl) fun a S => ?_
    refine lx_nil (thenN ?_)
    refine wp_ret (then_ret ?_)
    obtain rfl := Option.some.inj hm
    have H : Heap w0 [] w66 := H.sel [] (by decide)
    exact leave2 S rfl rfl rfl ⟨rfl, H⟩
   ·have hm := ite_f hc71 hm
    refine wp_skip (thenN ?_)
    refine wp_seq (region_plain ?_)
    refine lq p0 S (q_move rfl) fun a S => ?_
    obtain ⟨x74, e75, hm⟩ := bind_some hm
    refine lx_call (xs := [.tmp 22, .tmp 5]) S trivial (by decide) rfl rfl Tryz.call29 ((spec_l14Holds_ok (H.arg h0) (rdPtr_box H 0 rfl ⟨[(.int .i64 a1.1)], [(.int .i64 a1.2.1), v33, v35], rfl, rfl, ⟨[(.int .i64 a1.2.1)], [v33, v35], rfl, rfl, ⟨[v33], [v35], rfl, ((H.arg h34)).list_rd, ((H.arg h36)).list_rd⟩⟩⟩) e75).mono ?_)
    rintro e w72 ⟨v76, rfl, Hc73⟩
    have H := H.call1 Hc73
    refine ⟨_, rfl, trivial, fun a S => ?_⟩
    refine lq v76 S (q_assign rfl) fun a S => ?_
    refine lx_nil (thenN ?_)
    refine wp_seq (region_plain ?_)
    refine lq v76 S (q_move rfl) fun a S => ?_
    refine lq (.int .i64 a2) S (q_move rfl) fun a S => ?_
    obtain ⟨x79, e80, hm⟩ := bind_some hm
    have hlt := lt_of_idx (idx_some e80).2
    refine lq (ePtr v76 (a2.toNat * 1)) S (q_indexAddr rfl (H.isSl 0 rfl) rfl (idx_some e80).1 hlt Tryz.underlying59 Tryz.sizeOf4) fun a S => ?_
    obtain ⟨c81, h82, hat83⟩ := (H.rdAt 0 rfl).elem (idx_some e80).2
    obtain rfl := h82
    refine lx_e (.bool x79) S trivial (by decide) rfl trivial (q_load1 rfl Tryz.isAgg4 (by rintro _ rfl; exact (hat83 0 _ rfl))) (fun a S => ?_)
    refine lq (.bool x79) S (q_move rfl) fun a S => ?_
    obtain ⟨t84, e85, hm⟩ := bind_some hm
    refine lx_cut 6 (fun a w => Slots a 35 [(34, (.bool t84))] ∧ Heap w0 [] w) ?_ ?_
    ·by_cases hc86 : x79 = true
     ·have hm := ite_t hc86 e85
      refine lx_q v76 S (want_b rfl rfl hc86) (by decide) (q_move rfl) (fun a S => ?_)
      refine lx_q (.int .i64 a3) S (want_b rfl rfl hc86) (by decide) (q_move rfl) (fun a S => ?_)
      obtain ⟨x87, e88, hm⟩ := bind_some hm
      have hlt := lt_of_idx (idx_some e88).2
      refine lx_q (ePtr v76 (a3.toNat * 1)) S (want_b rfl rfl hc86) (by decide) (q_indexAddr rfl (H.isSl 0 rfl) rfl (idx_some e88).1 hlt Tryz.underlying59 Tryz.sizeOf4) (fun a S => ?_)
      obtain ⟨c89, h90, hat91⟩ := (H.rdAt 0 rfl).elem (idx_some e88).2
      obtain rfl := h90
      refine lx_e (.bool x87) S (want_b rfl rfl hc86) (by decide) rfl trivial (q_load1 rfl Tryz.isAgg4 (by rintro _ rfl; exact (hat91 0 _ rfl))) (fun a S => ?_)
      refine lx_q (.bool (!x87)) S (want_b rfl rfl hc86) (by decide) (q_not rfl) (fun a S => ?_)
      refine lq (.bool (!x87)) S (q_pickT' rfl hc86 rfl) fun a S => ?_
      refine lx_nil ?_
      obtain rfl := Option.some.inj hm
      have H := H.sel [] (by decide)
      exact ⟨S.sub ⟨rfl, trivial⟩, H⟩
     ·have hm := ite_f (eq_false_of_ne_true hc86) e85
      have hc86 : x79 = false := eq_false_of_ne_true hc86
      refine lx_skip S rfl rfl (isB_ne hc86) (by decide) (fun a S => ?_)
      refine lx_skip S rfl rfl (isB_ne hc86) (by decide) (fun a S => ?_)
      refine lx_skip S rfl rfl (isB_ne hc86) (by decide) (fun a S => ?_)
      refine lx_skip S rfl rfl (isB_ne hc86) (by decide) (fun a S => ?_)
      refine lx_skip S rfl rfl (isB_ne hc86) (by decide) (fun a S => ?_)
      refine lq (.bool false) S (q_pickF' rfl hc86 rfl) fun a S => ?_
      refine lx_nil ?_
      obtain rfl := Option.some.inj hm
      have H := H.sel [] (by decide)
      exact ⟨S.sub ⟨rfl, trivial⟩, H⟩
    ·rintro a w ⟨S, H⟩
     refine lq (.bool t84) S (q_assign rfl) fun a S => ?_
     refine lq (.int .i64 (0 : Int)) S (q_assign rfl) fun a S => ?_
     refine lx_nil (thenN ?_)
     refine wp_ret ?_
     obtain rfl := Option.some.inj hm
     exact leave2 S rfl rfl rfl ⟨rfl, H⟩

/-- impl.TellsApart -/
def impl_TellsApart_m (fuel : Nat) (a0 : (List Timpl_Node)) (a1 : Timpl_Lts) (a2 : Int) (a3 : Int) : Option ((Bool × Int)) :=
  (impl_modalCode_m fuel a0 (a1.1, a1.2.1, a1.2.2.1, a1.2.2.2) [a2, a3]).bind fun x57 => (if (x57 != (0 : Int)) = true then some ((false, x57)) else (impl_formulaOf_m fuel a0).bind fun x65 => (Pimpl_formula_where_m fuel x65 (a1.1, a1.2.1, a1.2.2.1, a1.2.2.2)).bind fun x72 => (idx x72 a2).bind fun x77 => (if x77 = true then (idx x72 a3).bind fun x85 => some (!x85) else some false).bind fun t82 => some ((t82, (0 : Int))))
set_option maxRecDepth 20000 in
theorem impl_TellsApart_ok {w0 : World} {fuel : Nat} {p0 p1 : Value} {a0 : (List Timpl_Node)} {a1 : Timpl_Lts} {a2 : Int} {a3 : Int} {r : (Bool × Int)} (hG : GlobE Tryz.prog w0) (h0 : Rd (rList Rimpl_Node) w0 p0 a0) (h1 : Rd Rimpl_Lts w0 p1 a1) (hm : impl_TellsApart_m fuel a0 a1 a2 a3 = some r) :
  Calls Tryz.prog 15 #[p0, p1, .int .i64 a2, .int .i64 a3] w0 fun e w => e = .returned (.tuple #[.bool r.1, .int .i64 r.2]) ∧ Heap w0 [] w := by
 unfold impl_TellsApart_m at hm
 have H := Heap.start w0
 obtain ⟨c31, rfl, h32⟩ := h1
 obtain ⟨c37, c38, rfl, h39, h40⟩ := h32
 obtain rfl := h39
 obtain ⟨c41, c42, rfl, h43, h44⟩ := h40
 obtain rfl := h43
 obtain ⟨c45, c46, rfl, h47, h48⟩ := h44
 obtain ⟨v33, rfl, h34⟩ := rd_list h47
 obtain ⟨v35, rfl, h36⟩ := rd_list h48
 refine enter (args := [p0, (.agg #[(.int .i64 a1.1), (.int .i64 a1.2.1), v33, v35]), .int .i64 a2, .int .i64 a3]) Tryz.func15 rfl 36 rfl (Nat.le_of_ble_eq_true rfl) (fun a S => ?_)
 refine wp_seq (region_plain ?_)
 refine lx_box S trivial (by decide) rfl H rfl rfl (fun b49 w50 H => ⟨trivial, fun a S => ?_⟩)
 refine lq (.bool false) S (q_assign rfl) fun a S => ?_
 refine lq (.int .i64 (0 : Int)) S (q_assign rfl) fun a S => ?_
 refine lx_nil (thenN ?_)
 refine wp_seq (wp_seq (region_plain ?_))
 refine lq p0 S (q_move rfl) fun a S => ?_
 refine lx_e (.agg #[(.int .i64 a1.1), (.int .i64 a1.2.1), v33, v35]) S trivial (by decide) rfl trivial (q_loadA (cs := [(.int .i64 a1.1), (.int .i64 a1.2.1), v33, v35]) rfl (isP_bp _) Tryz.isAgg35 Tryz.sizeOf35 (by rintro _ rfl; exact (fun j u hu => boxAt (i := 0) H rfl hu))) (fun a S => ?_)
 refine lq (.int .i64 a2) S (q_move rfl) fun a S => ?_
 refine lq (.int .i64 a3) S (q_move rfl) fun a S => ?_
 refine lx_buildSlice (r := (rInt .i64)) (xs := [a2, a3]) (ps := [(0, [(.int .i64 a2)]), (1, [(.int .i64 a3)])]) (cs := [(.int .i64 a2), (.int .i64 a3)]) (parts := [(0, .tmp 14), (1, .tmp 15)]) S trivial (by decide) rfl (H.put0 (A := eA) rfl) rfl Tryz.underlying42 Tryz.sizeOf2 Tryz.zeroValue2 (by decide) ⟨rfl, rfl, Nat.le_of_ble_eq_true rfl, ⟨rfl, rfl, Nat.le_of_ble_eq_true rfl, trivial⟩⟩ (by intro zs hz; exact fill_dense hz ⟨rfl, ⟨rfl, trivial⟩⟩ rfl rfl) rfl (by decide) (fun w F hA => by cases (show F = [] from hA); exact ⟨_, _, [(.int .i64 a2)], _, rfl, rfl, ⟨rfl, rfl⟩, ⟨_, _, [(.int .i64 a3)], _, rfl, rfl, ⟨rfl, rfl⟩, ⟨rfl, rfl⟩⟩⟩) (fun v52 w53 H => ⟨trivial, fun a S => ?_⟩)
 obtain ⟨x57, e58, hm⟩ := bind_some hm
 refine lx_call (xs := [.tmp 12, .tmp 13, .tmp 16]) S trivial (by decide) rfl rfl Tryz.call33 ((impl_modalCode_ok (hG.ext H.ext) (H.arg h0) ⟨[(.int .i64 a1.1), (.int .i64 a1.2.1), v33, v35], rfl, ⟨[(.int .i64 a1.1)], [(.int .i64 a1.2.1), v33, v35], rfl, rfl, ⟨[(.int .i64 a1.2.1)], [v33, v35], rfl, rfl, ⟨[v33], [v35], rfl, ((H.arg h34)).list_rd, ((H.arg h36)).list_rd⟩⟩⟩⟩ (H.rdAt 0 rfl) e58).mono ?_)
 rintro e w55 ⟨rfl, Hc56⟩
 have H := H.call0 Hc56
 refine ⟨_, rfl, trivial, fun a S => ?_⟩
 refine lq (.int .i64 x57) S (q_assign rfl) fun a S => ?_
 refine lx_nil (thenN ?_)
 refine wp_seq (region_plain ?_)
 refine lq (.int .i64 x57) S (q_move rfl) fun a S => ?_
 refine lq (.bool (x57 != (0 : Int))) S (q_neq rfl rfl) fun a S => ?_
 refine lx_nil (thenN ?_)
 refine cond_b S rfl (fun hc60 => ?_) (fun hc60 => ?_)
 ·have hm := ite_t hc60 hm
  refine wp_seq (region_plain ?_)
  refine lq (.int .i64 x57) S (q_move rfl) fun a S => ?_
  refine lq (.bool false) S (q_assign rfl) fun a S => ?_
  refine lq (.int .i64 x57) S (q_assign rfl) fun a S => ?_
  refine lx_nil (thenN ?_)
  refine wp_ret (then_ret ?_)
  obtain rfl := Option.some.inj hm
  have H : Heap w0 [] w55 := H.sel [] (by decide)
  exact leave2 S rfl rfl rfl ⟨rfl, H⟩
 ·have hm := ite_f hc60 hm
  refine wp_skip (thenN ?_)
  refine wp_seq ?_
  refine region_drawG (fun w1 => Heap w0 [bA b49 [(.int .i64 a1.1), (.int .i64 a1.2.1), v33, v35] 35] w1) (fun i => [1, 3].contains i) mixed (by kernel_rfl) (fun w62 he61 => ?_)
  have H := H.later he61
  refine ⟨H.sel [1] (by decide), ?_⟩
  refine lq p0 S (q_move rfl) fun a S => ?_
  obtain ⟨x65, e66, hm⟩ := bind_some hm
  refine lx_call (xs := [.tmp 21]) S trivial (by decide) rfl rfl Tryz.call34 ((impl_formulaOf_ok (H.arg h0) e66).mono ?_)
  rintro e w63 ⟨v67, rfl, Hc64⟩
  have H := H.call1 Hc64
  refine ⟨_, rfl, H.sel [2] (by decide), fun a S => ?_⟩
  refine lq (.agg #[(.int .i64 a1.1), (.int .i64 a1.2.1), v33, v35]) S (q_loadA (cs := [(.int .i64 a1.1), (.int .i64 a1.2.1), v33, v35]) rfl (isP_bp _) Tryz.isAgg35 Tryz.sizeOf35 (fun w1 hC => (fun j u hu => boxAt (i := 0) hC rfl hu))) fun a S => ?_
  obtain ⟨x72, e73, hm⟩ := bind_some hm
  refine lx_call (xs := [.tmp 22, .tmp 23]) S trivial (by decide) rfl rfl Tryz.call35 ((Pimpl_formula_where_ok (hG.ext H.ext) (H.rdAt 0 rfl) ⟨[(.int .i64 a1.1), (.int .i64 a1.2.1), v33, v35], rfl, ⟨[(.int .i64 a1.1)], [(.int .i64 a1.2.1), v33, v35], rfl, rfl, ⟨[(.int .i64 a1.2.1)], [v33, v35], rfl, rfl, ⟨[v33], [v35], rfl, ((H.arg h34)).list_rd, ((H.arg h36)).list_rd⟩⟩⟩⟩ e73).mono ?_)
  rintro e w70 ⟨v74, rfl, Hc71⟩
  have H := H.call1 Hc71
  refine ⟨_, rfl, H.sel [3] (by decide), fun a S => ?_⟩
  refine lq v74 S (q_assign rfl) fun a S => ?_
  refine lx_nil (thenN ?_)
  refine wp_seq (region_plain ?_)
  refine lq v74 S (q_move rfl) fun a S => ?_
  refine lq (.int .i64 a2) S (q_move rfl) fun a S => ?_
  obtain ⟨x77, e78, hm⟩ := bind_some hm
  have hlt := lt_of_idx (idx_some e78).2
  refine lq (ePtr v74 (a2.toNat * 1)) S (q_indexAddr rfl (H.isSl 0 rfl) rfl (idx_some e78).1 hlt Tryz.underlying59 Tryz.sizeOf4) fun a S => ?_
  obtain ⟨c79, h80, hat81⟩ := (H.rdAt 0 rfl).elem (idx_some e78).2
  obtain rfl := h80
  refine lx_e (.bool x77) S trivial (by decide) rfl trivial (q_load1 rfl Tryz.isAgg4 (by rintro _ rfl; exact (hat81 0 _ rfl))) (fun a S => ?_)
  refine lq (.bool x77) S (q_move rfl) fun a S => ?_
  obtain ⟨t82, e83, hm⟩ := bind_some hm
  refine lx_cut 6 (fun a w => Slots a 36 [(35, (.bool t82))] ∧ Heap w0 [] w) ?_ ?_
  ·by_cases hc84 : x77 = true
   ·have hm := ite_t hc84 e83
    refine lx_q v74 S (want_b rfl rfl hc84) (by decide) (q_move rfl) (fun a S => ?_)
    refine lx_q (.int .i64 a3) S (want_b rfl rfl hc84) (by decide) (q_move rfl) (fun a S => ?_)
    obtain ⟨x85, e86, hm⟩ := bind_some hm
    have hlt := lt_of_idx (idx_some e86).2
    refine lx_q (ePtr v74 (a3.toNat * 1)) S (want_b rfl rfl hc84) (by decide) (q_indexAddr rfl (H.isSl 0 rfl) rfl (idx_some e86).1 hlt Tryz.underlying59 Tryz.sizeOf4) (fun a S => ?_)
    obtain ⟨c87, h88, hat89⟩ := (H.rdAt 0 rfl).elem (idx_some e86).2
    obtain rfl := h88
    refine lx_e (.bool x85) S (want_b rfl rfl hc84) (by decide) rfl trivial (q_load1 rfl Tryz.isAgg4 (by rintro _ rfl; exact (hat89 0 _ rfl))) (fun a S => ?_)
    refine lx_q (.bool (!x85)) S (want_b rfl rfl hc84) (by decide) (q_not rfl) (fun a S => ?_)
    refine lq (.bool (!x85)) S (q_pickT' rfl hc84 rfl) fun a S => ?_
    refine lx_nil ?_
    obtain rfl := Option.some.inj hm
    have H := H.sel [] (by decide)
    exact ⟨S.sub ⟨rfl, trivial⟩, H⟩
   ·have hm := ite_f (eq_false_of_ne_true hc84) e83
    have hc84 : x77 = false := eq_false_of_ne_true hc84
    refine lx_skip S rfl rfl (isB_ne hc84) (by decide) (fun a S => ?_)
    refine lx_skip S rfl rfl (isB_ne hc84) (by decide) (fun a S => ?_)
    refine lx_skip S rfl rfl (isB_ne hc84) (by decide) (fun a S => ?_)
    refine lx_skip S rfl rfl (isB_ne hc84) (by decide) (fun a S => ?_)
    refine lx_skip S rfl rfl (isB_ne hc84) (by decide) (fun a S => ?_)
    refine lq (.bool false) S (q_pickF' rfl hc84 rfl) fun a S => ?_
    refine lx_nil ?_
    obtain rfl := Option.some.inj hm
    have H := H.sel [] (by decide)
    exact ⟨S.sub ⟨rfl, trivial⟩, H⟩
  ·rintro a w ⟨S, H⟩
   refine lq (.bool t82) S (q_assign rfl) fun a S => ?_
   refine lq (.int .i64 (0 : Int)) S (q_assign rfl) fun a S => ?_
   refine lx_nil (thenN ?_)
   refine wp_ret ?_
   obtain rfl := Option.some.inj hm
   exact leave2 S rfl rfl rfl ⟨rfl, H⟩

/-- laws.FnExactTellsApart -/
def laws_FnExactTellsApart_m (fuel : Nat) (a0 : (List Tlaws_Node)) (a1 : Tlaws_Lts) (a2 : Int) (a3 : Int) : Option (Bool) :=
  (laws_szNodeS_m fuel a0 (1048576 : Int)).bind fun x54 => (if (decide (x54 < (0 : Int))) = true then some (true) else (laws_szLts_m fuel (a1.1, a1.2.1, a1.2.2.1, a1.2.2.2) x54).bind fun x60 => (if (decide (x60 < (0 : Int))) = true then some (true) else (laws_toNodeS_m fuel a0).bind fun x68 => (laws_toLts_m fuel (a1.1, a1.2.1, a1.2.2.1, a1.2.2.2)).bind fun x75 => (spec_TellsApart_m fuel x68 (x75.1, x75.2.1, x75.2.2.1, x75.2.2.2) a2 a3).bind fun x84 => (laws_toNodeS_m fuel a0).bind fun x89 => (laws_toLts_m fuel (a1.1, a1.2.1, a1.2.2.1, a1.2.2.2)).bind fun x96 => (impl_TellsApart_m fuel x89 (x96.1, x96.2.1, x96.2.2.1, x96.2.2.2) a2 a3).bind fun x109 => (if (x109.1 != x84.1) = true then some true else some (x109.2 != x84.2)).bind fun t112 => (if t112 = true then some (false) else (laws_toNodeS_m fuel a0).bind fun x118 => (laws_eqNodeS_m fuel x89 x118).bind fun x125 => (if (!x125) = true then some (false) else (laws_toLts_m fuel (a1.1, a1.2.1, a1.2.2.1, a1.2.2.2)).bind fun x133 => (laws_eqLts_m fuel (x96.1, x96.2.1, x96.2.2.1, x96.2.2.2) (x133.1, x133.2.1, x133.2.2.1, x133.2.2.2)).bind fun x142 => (if (!x142) = true then some (false) else some (true))))))
set_option maxRecDepth 20000 in
theorem laws_FnExactTellsApart_ok {w0 : World} {fuel : Nat} {p0 p1 : Value} {a0 : (List Tlaws_Node)} {a1 : Tlaws_Lts} {a2 : Int} {a3 : Int} {r : Bool} (hG : GlobE Tryz.prog w0) (h0 : Rd (rList Rlaws_Node) w0 p0 a0) (h1 : Rd Rlaws_Lts w0 p1 a1) (hm : laws_FnExactTellsApart_m fuel a0 a1 a2 a3 = some r) :
  Calls Tryz.prog 4 #[p0, p1, .int .i64 a2, .int .i64 a3] w0 fun e w => e = .returned (.bool r) ∧ Heap w0 [] w := by
 unfold laws_FnExactTellsApart_m at hm
 have H := Heap.start w0
 obtain ⟨c31, rfl, h32⟩ := h1
 obtain ⟨c37, c38, rfl, h39, h40⟩ := h32
 obtain rfl := h39
 obtain ⟨c41, c42, rfl, h43, h44⟩ := h40
 obtain rfl := h43
 obtain ⟨c45, c46, rfl, h47, h48⟩ := h44
 obtain ⟨v33, rfl, h34⟩ := rd_list h47
 obtain ⟨v35, rfl, h36⟩ := rd_list h48
 refine enter (args := [p0, (.agg #[(.int .i64 a1.1), (.int .i64 a1.2.1), v33, v35]), .int .i64 a2, .int .i64 a3]) Tryz.func4 rfl 66 rfl (Nat.le_of_ble_eq_true rfl) (fun a S => ?_)
 refine wp_seq (region_plain ?_)
 refine lx_box S trivial (by decide) rfl H rfl rfl (fun b49 w50 H => ⟨trivial, fun a S => ?_⟩)
 refine lq (.bool false) S (q_assign rfl) fun a S => ?_
 refine lx_nil (thenN ?_)
 refine wp_seq (region_plain ?_)
 refine lq (.int .i64 (1048576 : Int)) S (q_assign rfl) fun a S => ?_
 refine lx_nil (thenN ?_)
 refine wp_seq (region_plain ?_)
 refine lq p0 S (q_move rfl) fun a S => ?_
 refine lq (.int .i64 (1048576 : Int)) S (q_move rfl) fun a S => ?_
 obtain ⟨x54, e55, hm⟩ := bind_some hm
 refine lx_call (xs := [.tmp 16, .tmp 17]) S trivial (by decide) rfl rfl Tryz.call6 ((laws_szNodeS_ok (H.arg h0)  e55).mono ?_)
 rintro e w52 ⟨rfl, Hc53⟩
 have H := H.call0 Hc53
 refine ⟨_, rfl, trivial, fun a S => ?_⟩
 refine lq (.int .i64 x54) S (q_assign rfl) fun a S => ?_
 refine lx_nil (thenN ?_)
 refine wp_seq (wp_seq (region_plain ?_))
 refine lq (.int .i64 x54) S (q_move rfl) fun a S => ?_
 refine lq (.bool (decide (x54 < (0 : Int)))) S (q_lss rfl rfl) fun a S => ?_
 refine lx_nil (thenN ?_)
 refine cond_b S rfl (fun hc57 => ?_) (fun hc57 => ?_)
 ·have hm := ite_t hc57 hm
  refine wp_seq (region_plain ?_)
  refine lq (.bool true) S (q_assign rfl) fun a S => ?_
  refine lx_nil (thenN ?_)
  refine wp_ret (then_ret ?_)
  obtain rfl := Option.some.inj hm
  have H : Heap w0 [] w52 := H.sel [] (by decide)
  exact leave1 S rfl rfl ⟨rfl, H⟩
 ·have hm := ite_f hc57 hm
  refine wp_skip (thenN ?_)
  refine wp_seq (region_plain ?_)
  refine lx_e (.agg #[(.int .i64 a1.1), (.int .i64 a1.2.1), v33, v35]) S trivial (by decide) rfl trivial (q_loadA (cs := [(.int .i64 a1.1), (.int .i64 a1.2.1), v33, v35]) rfl (isP_bp _) Tryz.isAgg26 Tryz.sizeOf26 (by rintro _ rfl; exact (fun j u hu => boxAt (i := 0) H rfl hu))) (fun a S => ?_)
  refine lq (.int .i64 x54) S (q_move rfl) fun a S => ?_
  obtain ⟨x60, e61, hm⟩ := bind_some hm
  refine lx_call (xs := [.tmp 21, .tmp 22]) S trivial (by decide) rfl rfl Tryz.call7 ((laws_szLts_ok ⟨[(.int .i64 a1.1), (.int .i64 a1.2.1), v33, v35], rfl, ⟨[(.int .i64 a1.1)], [(.int .i64 a1.2.1), v33, v35], rfl, rfl, ⟨[(.int .i64 a1.2.1)], [v33, v35], rfl, rfl, ⟨[v33], [v35], rfl, ((H.arg h34)).list_rd, ((H.arg h36)).list_rd⟩⟩⟩⟩  e61).mono ?_)
  rintro e w58 ⟨rfl, Hc59⟩
  have H := H.call0 Hc59
  refine ⟨_, rfl, trivial, fun a S => ?_⟩
  refine lq (.int .i64 x60) S (q_assign rfl) fun a S => ?_
  refine lx_nil (thenN ?_)
  refine wp_seq (wp_seq (region_plain ?_))
  refine lq (.int .i64 x60) S (q_move rfl) fun a S => ?_
  refine lq (.bool (decide (x60 < (0 : Int)))) S (q_lss rfl rfl) fun a S => ?_
  refine lx_nil (thenN ?_)
  refine cond_b S rfl (fun hc63 => ?_) (fun hc63 => ?_)
  ·have hm := ite_t hc63 hm
   refine wp_seq (region_plain ?_)
   refine lq (.bool true) S (q_assign rfl) fun a S => ?_
   refine lx_nil (thenN ?_)
   refine wp_ret (then_ret ?_)
   obtain rfl := Option.some.inj hm
   have H : Heap w0 [] w58 := H.sel [] (by decide)
   exact leave1 S rfl rfl ⟨rfl, H⟩
  ·have hm := ite_f hc63 hm
   refine wp_skip (thenN ?_)
   refine wp_seq ?_
   refine region_drawG (fun w1 => Heap w0 [bA b49 [(.int .i64 a1.1), (.int .i64 a1.2.1), v33, v35] 26] w1) (fun i => [1, 3, 6].contains i) mixed (by kernel_rfl) (fun w65 he64 => ?_)
   have H := H.later he64
   refine ⟨H.sel [0] (by decide), ?_⟩
   refine lq p0 S (q_move rfl) fun a S => ?_
   obtain ⟨x68, e69, hm⟩ := bind_some hm
   refine lx_call (xs := [.tmp 27]) S trivial (by decide) rfl rfl Tryz.call9 ((laws_toNodeS_ok (H.arg h0) e69).mono ?_)
   rintro e w66 ⟨v70, rfl, Hc67⟩
   have H := H.call1 Hc67
   refine ⟨_, rfl, H.sel [1] (by decide), fun a S => ?_⟩
   refine lq (.agg #[(.int .i64 a1.1), (.int .i64 a1.2.1), v33, v35]) S (q_loadA (cs := [(.int .i64 a1.1), (.int .i64 a1.2.1), v33, v35]) rfl (isP_bp _) Tryz.isAgg26 Tryz.sizeOf26 (fun w1 hC => (fun j u hu => boxAt (i := 0) hC rfl hu))) fun a S => ?_
   obtain ⟨x75, e76, hm⟩ := bind_some hm
   refine lx_call (xs := [.tmp 29]) S trivial (by decide) rfl rfl Tryz.call10 ((laws_toLts_ok ⟨[(.int .i64 a1.1), (.int .i64 a1.2.1), v33, v35], rfl, ⟨[(.int .i64 a1.1)], [(.int .i64 a1.2.1), v33, v35], rfl, rfl, ⟨[(.int .i64 a1.2.1)], [v33, v35], rfl, rfl, ⟨[v33], [v35], rfl, ((H.arg h34)).list_rd, ((H.arg h36)).list_rd⟩⟩⟩⟩ e76).mono ?_)
   rintro e w73 ⟨v77, v78, rfl, Hc74⟩
   have H := H.call2 Hc74
   refine ⟨_, rfl, H.sel [3] (by decide), fun a S => ?_⟩
   refine lq (.int .i64 a2) S (q_move rfl) fun a S => ?_
   refine lq (.int .i64 a3) S (q_move rfl) fun a S => ?_
   obtain ⟨x84, e85, hm⟩ := bind_some hm
   refine lx_call (xs := [.tmp 28, .tmp 30, .tmp 31, .tmp 32]) S trivial (by decide) rfl rfl Tryz.call14 ((spec_TellsApart_ok (H.rdAt 2 rfl) ⟨[(.int .i64 x75.1), (.int .i64 x75.2.1), v77, v78], rfl, ⟨[(.int .i64 x75.1)], [(.int .i64 x75.2.1), v77, v78], rfl, rfl, ⟨[(.int .i64 x75.2.1)], [v77, v78], rfl, rfl, ⟨[v77], [v78], rfl, ((H.rdAt 0 rfl)).list_rd, ((H.rdAt 1 rfl)).list_rd⟩⟩⟩⟩   e85).mono ?_)
   rintro e w82 ⟨rfl, Hc83⟩
   have H := H.call0 Hc83
   refine ⟨_, rfl, H.sel [3] (by decide), fun a S => ?_⟩
   refine lq (.tuple #[(.bool x84.1), (.int .i64 x84.2)]) S (q_move rfl) fun a S => ?_
   refine lq (.bool x84.1) S (q_extract rfl rfl) fun a S => ?_
   refine lq (.int .i64 x84.2) S (q_extract rfl rfl) fun a S => ?_
   refine lq (.bool x84.1) S (q_assign rfl) fun a S => ?_
   refine lq (.int .i64 x84.2) S (q_assign rfl) fun a S => ?_
   refine lx_nil (thenN ?_)
   refine wp_seq (region_plain ?_)
   refine lq p0 S (q_move rfl) fun a S => ?_
   obtain ⟨x89, e90, hm⟩ := bind_some hm
   refine lx_call (xs := [.tmp 36]) S trivial (by decide) rfl rfl Tryz.call9 ((laws_toNodeS_ok (H.arg h0) e90).mono ?_)
   rintro e w87 ⟨v91, rfl, Hc88⟩
   have H := H.call1 Hc88
   refine ⟨_, rfl, trivial, fun a S => ?_⟩
   refine lq v91 S (q_assign rfl) fun a S => ?_
   refine lx_nil (thenN ?_)
   refine wp_seq (region_plain ?_)
   refine lx_e (.agg #[(.int .i64 a1.1), (.int .i64 a1.2.1), v33, v35]) S trivial (by decide) rfl trivial (q_loadA (cs := [(.int .i64 a1.1), (.int .i64 a1.2.1), v33, v35]) rfl (isP_bp _) Tryz.isAgg26 Tryz.sizeOf26 (by rintro _ rfl; exact (fun j u hu => boxAt (i := 4) H rfl hu))) (fun a S => ?_)
   obtain ⟨x96, e97, hm⟩ := bind_some hm
   refine lx_call (xs := [.tmp 38]) S trivial (by decide) rfl rfl Tryz.call10 ((laws_toLts_ok ⟨[(.int .i64 a1.1), (.int .i64 a1.2.1), v33, v35], rfl, ⟨[(.int .i64 a1.1)], [(.int .i64 a1.2.1), v33, v35], rfl, rfl, ⟨[(.int .i64 a1.2.1)], [v33, v35], rfl, rfl, ⟨[v33], [v35], rfl, ((H.arg h34)).list_rd, ((H.arg h36)).list_rd⟩⟩⟩⟩ e97).mono ?_)
   rintro e w94 ⟨v98, v99, rfl, Hc95⟩
   have H := H.call2 Hc95
   refine ⟨_, rfl, trivial, fun a S => ?_⟩
   refine lx_alloc S trivial (by decide) rfl H Tryz.zeroValue35 rfl (fun b103 w104 H => ⟨trivial, fun a S => ?_⟩)
   refine lx_storeBox (o := 0) (i := 0) (us := [(.int .i64 x96.1), (.int .i64 x96.2.1), v98, v99]) (cs' := [(.int .i64 x96.1), (.int .i64 x96.2.1), v98, v99]) S trivial rfl H rfl rfl rfl rfl Tryz.sizeOf35 (Nat.le_of_ble_eq_true rfl) (List.forall_mem_cons.2 ⟨rfl, (List.forall_mem_cons.2 ⟨rfl, (List.forall_mem_cons.2 ⟨one_sl (H.isSl 1 rfl), (List.forall_mem_cons.2 ⟨one_sl (H.isSl 2 rfl), (List.forall_mem_nil _)⟩)⟩)⟩)⟩) rfl (fun w106 H => ⟨trivial, fun a S => ?_⟩)
   change Heap w0 [bA b103 [(.int .i64 x96.1), (.int .i64 x96.2.1), v98, v99] 35, oA (rList rStr) v98 x96.2.2.1, oA (rList Rimpl_Edge) v99 x96.2.2.2, oA (rList Rimpl_Node) v91 x89, oA (rList rStr) v77 x75.2.2.1, oA (rList Rimpl_Edge) v78 x75.2.2.2, oA (rList Rimpl_Node) v70 x68, bA b49 [(.int .i64 a1.1), (.int .i64 a1.2.1), v33, v35] 26] w106 at H
   refine lx_nil (thenN ?_)
   refine wp_seq (region_plain ?_)
   refine lq v91 S (q_move rfl) fun a S => ?_
   refine lx_e (.agg #[(.int .i64 x96.1), (.int .i64 x96.2.1), v98, v99]) S trivial (by decide) rfl trivial (q_loadA (cs := [(.int .i64 x96.1), (.int .i64 x96.2.1), v98, v99]) rfl (isP_bp _) Tryz.isAgg35 Tryz.sizeOf35 (by rintro _ rfl; exact (fun j u hu => boxAt (i := 0) H rfl hu))) (fun a S => ?_)
   refine lq (.int .i64 a2) S (q_move rfl) fun a S => ?_
   refine lq (.int .i64 a3) S (q_move rfl) fun a S => ?_
   obtain ⟨x109, e110, hm⟩ := bind_some hm
   refine lx_call (xs := [.tmp 41, .tmp 42, .tmp 43, .tmp 44]) S trivial (by decide) rfl rfl Tryz.call15 ((impl_TellsApart_ok (hG.ext H.ext) (H.rdAt 3 rfl) ⟨[(.int .i64 x96.1), (.int .i64 x96.2.1), v98, v99], rfl, ⟨[(.int .i64 x96.1)], [(.int .i64 x96.2.1), v98, v99], rfl, rfl, ⟨[(.int .i64 x96.2.1)], [v98, v99], rfl, rfl, ⟨[v98], [v99], rfl, ((H.rdAt 1 rfl)).list_rd, ((H.rdAt 2 rfl)).list_rd⟩⟩⟩⟩   e110).mono ?_)
   rintro e w107 ⟨rfl, Hc108⟩
   have H := H.call0 Hc108
   refine ⟨_, rfl, trivial, fun a S => ?_⟩
   refine lq (.tuple #[(.bool x109.1), (.int .i64 x109.2)]) S (q_move rfl) fun a S => ?_
   refine lq (.bool x109.1) S (q_extract rfl rfl) fun a S => ?_
   refine lq (.int .i64 x109.2) S (q_extract rfl rfl) fun a S => ?_
   refine lq (.bool x109.1) S (q_assign rfl) fun a S => ?_
   refine lq (.int .i64 x109.2) S (q_assign rfl) fun a S => ?_
   refine lx_nil (thenN ?_)
   refine wp_seq (wp_seq (region_plain ?_))
   refine lq (.bool x109.1) S (q_move rfl) fun a S => ?_
   refine lq (.bool x84.1) S (q_move rfl) fun a S => ?_
   refine lq (.bool (x109.1 != x84.1)) S (q_bneq rfl rfl Tryz.underlying4) fun a S => ?_
   refine lq (.bool (x109.1 != x84.1)) S (q_move rfl) fun a S => ?_
   obtain ⟨t112, e113, hm⟩ := bind_some hm
   refine lx_cut 4 (fun a w => Slots a 66 [(0, p0), (5, (bp b49)), (12, v91), (13, (bp b103)), (55, (.bool t112))] ∧ Heap w0 [bA b103 [(.int .i64 x96.1), (.int .i64 x96.2.1), v98, v99] 35, oA (rList rStr) v98 x96.2.2.1, oA (rList Rimpl_Edge) v99 x96.2.2.2, oA (rList Rimpl_Node) v91 x89, bA b49 [(.int .i64 a1.1), (.int .i64 a1.2.1), v33, v35] 26] w) ?_ ?_
   ·by_cases hc114 : (x109.1 != x84.1) = true
    ·have hm := ite_t hc114 e113
     refine lx_skip S rfl rfl (isB_ne hc114) (by decide) (fun a S => ?_)
     refine lx_skip S rfl rfl (isB_ne hc114) (by decide) (fun a S => ?_)
     refine lx_skip S rfl rfl (isB_ne hc114) (by decide) (fun a S => ?_)
     refine lq (.bool true) S (q_pickT' rfl hc114 rfl) fun a S => ?_
     refine lx_nil ?_
     obtain rfl := Option.some.inj hm
     have H := H.sel [0, 1, 2, 3, 7] (by decide)
     exact ⟨S.sub ⟨rfl, rfl, rfl, rfl, rfl, trivial⟩, H⟩
    ·have hm := ite_f (eq_false_of_ne_true hc114) e113
     have hc114 : (x109.1 != x84.1) = false := eq_false_of_ne_true hc114
     refine lx_q (.int .i64 x109.2) S (want_b rfl rfl hc114) (by decide) (q_move rfl) (fun a S => ?_)
     refine lx_q (.int .i64 x84.2) S (want_b rfl rfl hc114) (by decide) (q_move rfl) (fun a S => ?_)
     refine lx_q (.bool (x109.2 != x84.2)) S (want_b rfl rfl hc114) (by decide) (q_neq rfl rfl) (fun a S => ?_)
     refine lq (.bool (x109.2 != x84.2)) S (q_pickF' rfl hc114 rfl) fun a S => ?_
     refine lx_nil ?_
     obtain rfl := Option.some.inj hm
     have H := H.sel [0, 1, 2, 3, 7] (by decide)
     exact ⟨S.sub ⟨rfl, rfl, rfl, rfl, rfl, trivial⟩, H⟩
   ·rintro a w ⟨S, H⟩
    refine lx_nil (thenN ?_)
    refine cond_b S rfl (fun hc115 => ?_) (fun hc115 => ?_)
    ·have hm := ite_t hc115 hm
     refine wp_seq (region_plain ?_)
     refine lq (.bool false) S (q_assign rfl) fun a S => ?_
     refine lx_nil (thenN ?_)
     refine wp_ret (then_ret ?_)
     obtain rfl := Option.some.inj hm
     have H : Heap w0 [] w := H.sel [] (by decide)
     exact leave1 S rfl rfl ⟨rfl, H⟩
    ·have hm := ite_f hc115 hm
     refine wp_skip (thenN ?_)
     refine wp_seq (wp_seq (region_plain ?_))
     refine lq v91 S (q_move rfl) fun a S => ?_
     refine lq p0 S (q_move rfl) fun a S => ?_
     obtain ⟨x118, e119, hm⟩ := bind_some hm
     refine lx_call (xs := [.tmp 57]) S trivial (by decide) rfl rfl Tryz.call9 ((laws_toNodeS_ok (H.arg h0) e119).mono ?_)
     rintro e w116 ⟨v120, rfl, Hc117⟩
     have H := H.call1 Hc117
     refine ⟨_, rfl, trivial, fun a S => ?_⟩
     obtain ⟨x125, e126, hm⟩ := bind_some hm
     refine lx_call (xs := [.tmp 56, .tmp 58]) S trivial (by decide) rfl rfl Tryz.call12 ((laws_eqNodeS_ok (H.rdAt 4 rfl) (H.rdAt 0 rfl) e126).mono ?_)
     rintro e w123 ⟨rfl, Hc124⟩
     have H := H.call0 Hc124
     refine ⟨_, rfl, trivial, fun a S => ?_⟩
     refine lq (.bool (!x125)) S (q_not rfl) fun a S => ?_
     refine lx_nil (thenN ?_)
     refine cond_b S rfl (fun hc128 => ?_) (fun hc128 => ?_)
     ·have hm := ite_t hc128 hm
      refine wp_seq (region_plain ?_)
      refine lq (.bool false) S (q_assign rfl) fun a S => ?_
      refine lx_nil (thenN ?_)
      refine wp_ret (then_ret ?_)
      obtain rfl := Option.some.inj hm
      have H : Heap w0 [] w123 := H.sel [] (by decide)
      exact leave1 S rfl rfl ⟨rfl, H⟩
     ·have hm := ite_f hc128 hm
      refine wp_skip (thenN ?_)
      refine wp_seq ?_
      refine wp_seq ?_
      refine region_drawG (fun w1 => Heap w0 [bA b103 [(.int .i64 x96.1), (.int .i64 x96.2.1), v98, v99] 35, bA b49 [(.int .i64 a1.1), (.int .i64 a1.2.1), v33, v35] 26] w1) (fun i => [2, 3].contains i) mixed (by kernel_rfl) (fun w130 he129 => ?_)
      have H := H.later he129
      refine ⟨H.sel [1, 5] (by decide), ?_⟩
      refine lq (.agg #[(.int .i64 x96.1), (.int .i64 x96.2.1), v98, v99]) S (q_loadA (cs := [(.int .i64 x96.1), (.int .i64 x96.2.1), v98, v99]) rfl (isP_bp _) Tryz.isAgg35 Tryz.sizeOf35 (fun w1 hC => (fun j u hu => boxAt (i := 0) hC rfl hu))) fun a S => ?_
      refine lq (.agg #[(.int .i64 a1.1), (.int .i64 a1.2.1), v33, v35]) S (q_loadA (cs := [(.int .i64 a1.1), (.int .i64 a1.2.1), v33, v35]) rfl (isP_bp _) Tryz.isAgg26 Tryz.sizeOf26 (fun w1 hC => (fun j u hu => boxAt (i := 1) hC rfl hu))) fun a S => ?_
      obtain ⟨x133, e134, hm⟩ := bind_some hm
      refine lx_call (xs := [.tmp 62]) S trivial (by decide) rfl rfl Tryz.call10 ((laws_toLts_ok ⟨[(.int .i64 a1.1), (.int .i64 a1.2.1), v33, v35], rfl, ⟨[(.int .i64 a1.1)], [(.int .i64 a1.2.1), v33, v35], rfl, rfl, ⟨[(.int .i64 a1.2.1)], [v33, v35], rfl, rfl, ⟨[v33], [v35], rfl, ((H.arg h34)).list_rd, ((H.arg h36)).list_rd⟩⟩⟩⟩ e134).mono ?_)
      rintro e w131 ⟨v135, v136, rfl, Hc132⟩
      have H := H.call2 Hc132
      refine ⟨_, rfl, H.sel [3, 7] (by decide), fun a S => ?_⟩
      obtain ⟨x142, e143, hm⟩ := bind_some hm
      refine lx_call (xs := [.tmp 61, .tmp 63]) S trivial (by decide) rfl rfl Tryz.call13 ((laws_eqLts_ok ⟨[(.int .i64 x96.1), (.int .i64 x96.2.1), v98, v99], rfl, ⟨[(.int .i64 x96.1)], [(.int .i64 x96.2.1), v98, v99], rfl, rfl, ⟨[(.int .i64 x96.2.1)], [v98, v99], rfl, rfl, ⟨[v98], [v99], rfl, ((H.rdAt 4 rfl)).list_rd, ((H.rdAt 5 rfl)).list_rd⟩⟩⟩⟩ ⟨[(.int .i64 x133.1), (.int .i64 x133.2.1), v135, v136], rfl, ⟨[(.int .i64 x133.1)], [(.int .i64 x133.2.1), v135, v136], rfl, rfl, ⟨[(.int .i64 x133.2.1)], [v135, v136], rfl, rfl, ⟨[v135], [v136], rfl, ((H.rdAt 0 rfl)).list_rd, ((H.rdAt 1 rfl)).list_rd⟩⟩⟩⟩ e143).mono ?_)
      rintro e w140 ⟨rfl, Hc141⟩
      have H := H.call0 Hc141
      refine ⟨_, rfl, H.sel [3, 7] (by decide), fun a S => ?_⟩
      refine lq (.bool (!x142)) S (q_not rfl) fun a S => ?_
      refine lx_nil (thenN ?_)
      refine cond_b S rfl (fun hc145 => ?_) (fun hc145 => ?_)
      ·have hm := ite_t hc145 hm
       refine wp_seq (region_plain ?_)
       refine lq (.bool false) S (q_assign rfl) fun a S => ?_
       refine lx_nil (thenN ?_)
       refine wp_ret (then_ret ?_)
       obtain rfl := Option.some.inj hm
       have H : Heap w0 [] w140 := H.sel [] (by decide)
       exact leave1 S rfl rfl ⟨rfl, H⟩
      ·have hm := ite_f hc145 hm
       refine wp_skip (thenN ?_)
       refine wp_seq (region_plain ?_)
       refine lq (.bool true) S (q_assign rfl) fun a S => ?_
       refine lx_nil (thenN ?_)
       refine wp_ret ?_
       obtain rfl := Option.some.inj hm
       have H : Heap w0 [] w140 := H.sel [] (by decide)
       exact leave1 S rfl rfl ⟨rfl, H⟩
end Go.Proofs.YtnkpniekdipgaaaGreatDoor
