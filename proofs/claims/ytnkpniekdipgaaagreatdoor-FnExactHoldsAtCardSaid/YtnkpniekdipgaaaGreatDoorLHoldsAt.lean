/- The model of a statement and its walk (printed by a program of this repo). -/
import Derived.Test.YtnkpniekdipgaaaGreatDoorF0
import Derived.Test.YtnkpniekdipgaaaGreatDoorF1
import Derived.Test.YtnkpniekdipgaaaGreatDoorF2
import Derived.Test.YtnkpniekdipgaaaGreatDoorF3
import Derived.Test.YtnkpniekdipgaaaGreatDoorF4
import Derived.Test.YtnkpniekdipgaaaGreatDoorF6
import Derived.Test.YtnkpniekdipgaaaGreatDoorF7
import Derived.Test.YtnkpniekdipgaaaGreatDoorF8
import Derived.Test.YtnkpniekdipgaaaGreatDoorGxT
import Derived.Test.YtnkpniekdipgaaaGreatDoorGxY
namespace Go.Proofs.YtnkpniekdipgaaaGreatDoor
open Go.RowKit Go.Gx

/-- spec.HoldsAt -/
def spec_HoldsAt_m (fuel : Nat) (a0 : (List Timpl_Node)) (a1 : Timpl_Lts) (a2 : Int) : Option ((Bool × Int)) :=
  (spec_l14Is_m fuel a0).bind fun x54 => (if (!x54) = true then some true else (spec_l11Is_m fuel (a1.1, a1.2.1, a1.2.2.1, a1.2.2.2)).bind fun x62 => some (!x62)).bind fun t57 => (if t57 = true then some ((false, (1 : Int))) else (spec_l00In_m fuel a2 (0 : Int) (W (a1.1 - (1 : Int)))).bind fun x68 => (if (!x68) = true then some ((false, (2 : Int))) else (spec_l14Holds_m fuel a0 (a1.1, a1.2.1, a1.2.2.1, a1.2.2.2)).bind fun x74 => (idx x74 a2).bind fun x79 => some ((x79, (0 : Int)))))
set_option maxRecDepth 20000 in
theorem spec_HoldsAt_ok [dr : Dr] {w0 : World} {fuel : Nat} {p0 p1 : Value} {a0 : (List Timpl_Node)} {a1 : Timpl_Lts} {a2 : Int} {r : (Bool × Int)} (h0 : Rd (rList Rimpl_Node) w0 p0 a0) (h1 : Rd Rimpl_Lts w0 p1 a1) (hm : spec_HoldsAt_m fuel a0 a1 a2 = some r) :
  Calls Tryz.prog 8 #[p0, p1, .int .i64 a2] w0 fun e w => e = .returned (.tuple #[.bool r.1, .int .i64 r.2]) ∧ Heap w0 [] w := by
 unfold spec_HoldsAt_m at hm
 have H := Heap.start w0
 obtain ⟨c31, rfl, h32⟩ := h1
 obtain ⟨c37, c38, rfl, h39, h40⟩ := h32
 obtain rfl := h39
 obtain ⟨c41, c42, rfl, h43, h44⟩ := h40
 obtain rfl := h43
 obtain ⟨c45, c46, rfl, h47, h48⟩ := h44
 obtain ⟨v33, rfl, h34⟩ := rd_list h47
 obtain ⟨v35, rfl, h36⟩ := rd_list h48
 refine enter (args := [p0, (.agg #[(.int .i64 a1.1), (.int .i64 a1.2.1), v33, v35]), .int .i64 a2]) Tryz.func8 rfl 26 rfl (Nat.le_of_ble_eq_true rfl) (fun a S => ?_)
 refine wp_seq (region_plain ?_)
 refine lx_box S trivial (by decide) rfl H rfl rfl (fun b49 w50 H => ⟨trivial, fun a S => ?_⟩)
 refine lq (.bool false) S (q_assign rfl) fun a S => ?_
 refine lq (.int .i64 (0 : Int)) S (q_assign rfl) fun a S => ?_
 refine lx_nil (thenN ?_)
 refine wp_seq (wp_seq (region_plain ?_))
 refine lq p0 S (q_move rfl) fun a S => ?_
 obtain ⟨x54, e55, hm⟩ := bind_some hm
 refine lx_call (xs := [.tmp 8]) S trivial (by decide) rfl rfl Tryz.call26 ((spec_l14Is_ok (H.arg h0) e55).mono ?_)
 rintro e w52 ⟨rfl, Hc53⟩
 have H := H.call0 Hc53
 refine ⟨_, rfl, trivial, fun a S => ?_⟩
 refine lq (.bool (!x54)) S (q_not rfl) fun a S => ?_
 refine lq (.bool (!x54)) S (q_move rfl) fun a S => ?_
 obtain ⟨t57, e58, hm⟩ := bind_some hm
 refine lx_cut 3 (fun a w => Slots a 26 [(0, p0), (2, (.int .i64 a2)), (4, (bp b49)), (14, (.bool t57))] ∧ Heap w0 [bA b49 [(.int .i64 a1.1), (.int .i64 a1.2.1), v33, v35] 35] w) ?_ ?_
 ·by_cases hc59 : (!x54) = true
  ·have hm := ite_t hc59 e58
   refine lx_skip S rfl rfl (isB_ne hc59) (by decide) (fun a S => ?_)
   refine lx_skip S rfl rfl (isB_ne hc59) (by decide) (fun a S => ?_)
   refine lq (.bool true) S (q_pickT' rfl hc59 rfl) fun a S => ?_
   refine lx_nil ?_
   obtain rfl := Option.some.inj hm
   exact ⟨S.sub ⟨rfl, rfl, rfl, rfl, trivial⟩, H⟩
  ·have hm := ite_f (eq_false_of_ne_true hc59) e58
   have hc59 : (!x54) = false := eq_false_of_ne_true hc59
   obtain ⟨x62, e63, hm⟩ := bind_some hm
   refine lx_call (xs := [.tmp 4]) S (want_b rfl rfl hc59) (by decide) rfl rfl Tryz.call27 ((spec_l11Is_ok (rdPtr_box H 0 rfl ⟨[(.int .i64 a1.1)], [(.int .i64 a1.2.1), v33, v35], rfl, rfl, ⟨[(.int .i64 a1.2.1)], [v33, v35], rfl, rfl, ⟨[v33], [v35], rfl, ((H.arg h34)).list_rd, ((H.arg h36)).list_rd⟩⟩⟩) e63).mono ?_)
   rintro e w60 ⟨rfl, Hc61⟩
   have H := H.call0 Hc61
   refine ⟨_, rfl, trivial, fun a S => ?_⟩
   refine lx_q (.bool (!x62)) S (want_b rfl rfl hc59) (by decide) (q_not rfl) (fun a S => ?_)
   refine lq (.bool (!x62)) S (q_pickF' rfl hc59 rfl) fun a S => ?_
   refine lx_nil ?_
   obtain rfl := Option.some.inj hm
   exact ⟨S.sub ⟨rfl, rfl, rfl, rfl, trivial⟩, H⟩
 ·rintro a w ⟨S, H⟩
  refine lx_nil (thenN ?_)
  refine cond_b S rfl (fun hc65 => ?_) (fun hc65 => ?_)
  ·have hm := ite_t hc65 hm
   refine wp_seq (region_plain ?_)
   refine lq (.bool false) S (q_assign rfl) fun a S => ?_
   refine lq (.int .i64 (1 : Int)) S (q_assign rfl) fun a S => ?_
   refine lx_nil (thenN ?_)
   refine wp_ret (then_ret ?_)
   obtain rfl := Option.some.inj hm
   have H : Heap w0 [] w := H.sel [] (by decide)
   exact leave2 S rfl rfl rfl ⟨rfl, H⟩
  ·have hm := ite_f hc65 hm
   refine wp_skip (thenN ?_)
   refine wp_seq (wp_seq (region_plain ?_))
   refine lq (.int .i64 a2) S (q_move rfl) fun a S => ?_
   refine lq (pAdd (bp b49) 0) S (q_fieldAddr' 0 2 rfl (isP_bp _) Tryz.underlying35 rfl Tryz.sizeOf2) fun a S => ?_
   refine lx_e (.int .i64 a1.1) S trivial (by decide) rfl trivial (q_load1 rfl Tryz.isAgg2 (by rintro _ rfl; exact (At.of_add (m := 0) (j := 0) (boxAt (i := 0) H rfl (j := 0) rfl)))) (fun a S => ?_)
   refine lq (.int .i64 (W (a1.1 - (1 : Int)))) S (q_sub rfl rfl) fun a S => ?_
   obtain ⟨x68, e69, hm⟩ := bind_some hm
   refine lx_call (xs := [.tmp 15, .const (.int .i64 (0)), .tmp 18]) S trivial (by decide) rfl rfl Tryz.call28 ((spec_l00In_ok    e69).mono ?_)
   rintro e w66 ⟨rfl, Hc67⟩
   have H := H.call0 Hc67
   refine ⟨_, rfl, trivial, fun a S => ?_⟩
   refine lq (.bool (!x68)) S (q_not rfl) fun a S => ?_
   refine lx_nil (thenN ?_)
   refine cond_b S rfl (fun hc71 => ?_) (fun hc71 => ?_)
   ·have hm := ite_t hc71 hm
    refine wp_seq (region_plain ?_)
    refine lq (.bool false) S (q_assign rfl) fun a S => ?_
    refine lq (.int .i64 (2 : Int)) S (q_assign rfl) fun a S => ?_
    refine lx_nil (thenN ?_)
    refine wp_ret (then_ret ?_)
    obtain rfl := Option.some.inj hm
    have H : Heap w0 [] w66 := H.sel [] (by decide)
    exact leave2 S rfl rfl rfl ⟨rfl, H⟩
   ·have hm := ite_f hc71 hm
    refine wp_skip (thenN ?_)
    refine wp_seq (region_plain ?_)
    refine lq p0 S (q_move rfl) fun a S => ?_
    obtain ⟨x74, e75, hm⟩ := bind_some hm
    refine lx_call (xs := [.tmp 21, .tmp 4]) S trivial (by decide) rfl rfl Tryz.call29 ((spec_l14Holds_ok (H.arg h0) (rdPtr_box H 0 rfl ⟨[(.int .i64 a1.1)], [(.int .i64 a1.2.1), v33, v35], rfl, rfl, ⟨[(.int .i64 a1.2.1)], [v33, v35], rfl, rfl, ⟨[v33], [v35], rfl, ((H.arg h34)).list_rd, ((H.arg h36)).list_rd⟩⟩⟩) e75).mono ?_)
    rintro e w72 ⟨v76, rfl, Hc73⟩
    have H := H.call1 Hc73
    refine ⟨_, rfl, trivial, fun a S => ?_⟩
    refine lq (.int .i64 a2) S (q_move rfl) fun a S => ?_
    obtain ⟨x79, e80, hm⟩ := bind_some hm
    have hlt := lt_of_idx (idx_some e80).2
    refine lq (ePtr v76 (a2.toNat * 1)) S (q_indexAddr rfl (H.isSl 0 rfl) rfl (idx_some e80).1 hlt Tryz.underlying59 Tryz.sizeOf4) fun a S => ?_
    obtain ⟨c81, h82, hat83⟩ := (H.rdAt 0 rfl).elem (idx_some e80).2
    obtain rfl := h82
    refine lx_e (.bool x79) S trivial (by decide) rfl trivial (q_load1 rfl Tryz.isAgg4 (by rintro _ rfl; exact (hat83 0 _ rfl))) (fun a S => ?_)
    refine lq (.bool x79) S (q_assign rfl) fun a S => ?_
    refine lq (.int .i64 (0 : Int)) S (q_assign rfl) fun a S => ?_
    refine lx_nil (thenN ?_)
    refine wp_ret ?_
    obtain rfl := Option.some.inj hm
    have H : Heap w0 [] w72 := H.sel [] (by decide)
    exact leave2 S rfl rfl rfl ⟨rfl, H⟩

/-- impl.HoldsAt -/
def impl_HoldsAt_m (fuel : Nat) (a0 : (List Timpl_Node)) (a1 : Timpl_Lts) (a2 : Int) : Option ((Bool × Int)) :=
  (impl_modalCode_m fuel a0 (a1.1, a1.2.1, a1.2.2.1, a1.2.2.2) [a2]).bind fun x57 => (if (x57 != (0 : Int)) = true then some ((false, x57)) else (impl_formulaOf_m fuel a0).bind fun x65 => (Pimpl_formula_where_m fuel x65 (a1.1, a1.2.1, a1.2.2.1, a1.2.2.2)).bind fun x72 => (idx x72 a2).bind fun x77 => some ((x77, (0 : Int))))
set_option maxRecDepth 20000 in
theorem impl_HoldsAt_ok {w0 : World} {fuel : Nat} {p0 p1 : Value} {a0 : (List Timpl_Node)} {a1 : Timpl_Lts} {a2 : Int} {r : (Bool × Int)} (hG : GlobE Tryz.prog w0) (h0 : Rd (rList Rimpl_Node) w0 p0 a0) (h1 : Rd Rimpl_Lts w0 p1 a1) (hm : impl_HoldsAt_m fuel a0 a1 a2 = some r) :
  Calls Tryz.prog 11 #[p0, p1, .int .i64 a2] w0 fun e w => e = .returned (.tuple #[.bool r.1, .int .i64 r.2]) ∧ Heap w0 [] w := by
 unfold impl_HoldsAt_m at hm
 have H := Heap.start w0
 obtain ⟨c31, rfl, h32⟩ := h1
 obtain ⟨c37, c38, rfl, h39, h40⟩ := h32
 obtain rfl := h39
 obtain ⟨c41, c42, rfl, h43, h44⟩ := h40
 obtain rfl := h43
 obtain ⟨c45, c46, rfl, h47, h48⟩ := h44
 obtain ⟨v33, rfl, h34⟩ := rd_list h47
 obtain ⟨v35, rfl, h36⟩ := rd_list h48
 refine enter (args := [p0, (.agg #[(.int .i64 a1.1), (.int .i64 a1.2.1), v33, v35]), .int .i64 a2]) Tryz.func11 rfl 24 rfl (Nat.le_of_ble_eq_true rfl) (fun a S => ?_)
 refine wp_seq (region_plain ?_)
 refine lx_box S trivial (by decide) rfl H rfl rfl (fun b49 w50 H => ⟨trivial, fun a S => ?_⟩)
 refine lq (.bool false) S (q_assign rfl) fun a S => ?_
 refine lq (.int .i64 (0 : Int)) S (q_assign rfl) fun a S => ?_
 refine lx_nil (thenN ?_)
 refine wp_seq (wp_seq (region_plain ?_))
 refine lq p0 S (q_move rfl) fun a S => ?_
 refine lx_e (.agg #[(.int .i64 a1.1), (.int .i64 a1.2.1), v33, v35]) S trivial (by decide) rfl trivial (q_loadA (cs := [(.int .i64 a1.1), (.int .i64 a1.2.1), v33, v35]) rfl (isP_bp _) Tryz.isAgg35 Tryz.sizeOf35 (by rintro _ rfl; exact (fun j u hu => boxAt (i := 0) H rfl hu))) (fun a S => ?_)
 refine lq (.int .i64 a2) S (q_move rfl) fun a S => ?_
 refine lx_buildSlice (r := (rInt .i64)) (xs := [a2]) (ps := [(0, [(.int .i64 a2)])]) (cs := [(.int .i64 a2)]) (parts := [(0, .tmp 11)]) S trivial (by decide) rfl (H.put0 (A := eA) rfl) rfl Tryz.underlying42 Tryz.sizeOf2 Tryz.zeroValue2 (by decide) ⟨rfl, rfl, Nat.le_of_ble_eq_true rfl, trivial⟩ (by intro zs hz; exact fill_dense hz ⟨rfl, trivial⟩ rfl rfl) rfl (by decide) (fun w F hA => by cases (show F = [] from hA); exact ⟨_, _, [(.int .i64 a2)], _, rfl, rfl, ⟨rfl, rfl⟩, ⟨rfl, rfl⟩⟩) (fun v52 w53 H => ⟨trivial, fun a S => ?_⟩)
 obtain ⟨x57, e58, hm⟩ := bind_some hm
 refine lx_call (xs := [.tmp 9, .tmp 10, .tmp 12]) S trivial (by decide) rfl rfl Tryz.call33 ((impl_modalCode_ok (hG.ext H.ext) (H.arg h0) ⟨[(.int .i64 a1.1), (.int .i64 a1.2.1), v33, v35], rfl, ⟨[(.int .i64 a1.1)], [(.int .i64 a1.2.1), v33, v35], rfl, rfl, ⟨[(.int .i64 a1.2.1)], [v33, v35], rfl, rfl, ⟨[v33], [v35], rfl, ((H.arg h34)).list_rd, ((H.arg h36)).list_rd⟩⟩⟩⟩ (H.rdAt 0 rfl) e58).mono ?_)
 rintro e w55 ⟨rfl, Hc56⟩
 have H := H.call0 Hc56
 refine ⟨_, rfl, trivial, fun a S => ?_⟩
 refine lq (.int .i64 x57) S (q_assign rfl) fun a S => ?_
 refine lx_nil (thenN ?_)
 refine wp_seq (region_plain ?_)
 refine lq (.int .i64 x57) S (q_move rfl) fun a S => ?_
 refine lq (.bool (x57 != (0 : Int))) S (q_neq rfl rfl) fun a S => ?_
 refine lx_nil (thenN ?_)
 refine cond_b S rfl (fun hc60 => ?_) (fun hc60 => ?_)
 ·have hm := ite_t hc60 hm
  refine wp_seq (region_plain ?_)
  refine lq (.int .i64 x57) S (q_move rfl) fun a S => ?_
  refine lq (.bool false) S (q_assign rfl) fun a S => ?_
  refine lq (.int .i64 x57) S (q_assign rfl) fun a S => ?_
  refine lx_nil (thenN ?_)
  refine wp_ret (then_ret ?_)
  obtain rfl := Option.some.inj hm
  have H : Heap w0 [] w55 := H.sel [] (by decide)
  exact leave2 S rfl rfl rfl ⟨rfl, H⟩
 ·have hm := ite_f hc60 hm
  refine wp_skip (thenN ?_)
  refine wp_seq ?_
  refine region_drawG (fun w1 => Heap w0 [bA b49 [(.int .i64 a1.1), (.int .i64 a1.2.1), v33, v35] 35] w1) (fun i => [1, 3, 6].contains i) mixed (by kernel_rfl) (fun w62 he61 => ?_)
  have H := H.later he61
  refine ⟨H.sel [1] (by decide), ?_⟩
  refine lq p0 S (q_move rfl) fun a S => ?_
  obtain ⟨x65, e66, hm⟩ := bind_some hm
  refine lx_call (xs := [.tmp 17]) S trivial (by decide) rfl rfl Tryz.call34 ((impl_formulaOf_ok (H.arg h0) e66).mono ?_)
  rintro e w63 ⟨v67, rfl, Hc64⟩
  have H := H.call1 Hc64
  refine ⟨_, rfl, H.sel [2] (by decide), fun a S => ?_⟩
  refine lq (.agg #[(.int .i64 a1.1), (.int .i64 a1.2.1), v33, v35]) S (q_loadA (cs := [(.int .i64 a1.1), (.int .i64 a1.2.1), v33, v35]) rfl (isP_bp _) Tryz.isAgg35 Tryz.sizeOf35 (fun w1 hC => (fun j u hu => boxAt (i := 0) hC rfl hu))) fun a S => ?_
  obtain ⟨x72, e73, hm⟩ := bind_some hm
  refine lx_call (xs := [.tmp 18, .tmp 19]) S trivial (by decide) rfl rfl Tryz.call35 ((Pimpl_formula_where_ok (hG.ext H.ext) (H.rdAt 0 rfl) ⟨[(.int .i64 a1.1), (.int .i64 a1.2.1), v33, v35], rfl, ⟨[(.int .i64 a1.1)], [(.int .i64 a1.2.1), v33, v35], rfl, rfl, ⟨[(.int .i64 a1.2.1)], [v33, v35], rfl, rfl, ⟨[v33], [v35], rfl, ((H.arg h34)).list_rd, ((H.arg h36)).list_rd⟩⟩⟩⟩ e73).mono ?_)
  rintro e w70 ⟨v74, rfl, Hc71⟩
  have H := H.call1 Hc71
  refine ⟨_, rfl, H.sel [3] (by decide), fun a S => ?_⟩
  refine lq (.int .i64 a2) S (q_move rfl) fun a S => ?_
  obtain ⟨x77, e78, hm⟩ := bind_some hm
  have hlt := lt_of_idx (idx_some e78).2
  refine lq (ePtr v74 (a2.toNat * 1)) S (q_indexAddr rfl (H.isSl 0 rfl) rfl (idx_some e78).1 hlt Tryz.underlying59 Tryz.sizeOf4) fun a S => ?_
  obtain ⟨c79, h80, hat81⟩ := (H.rdAt 0 rfl).elem (idx_some e78).2
  obtain rfl := h80
  refine lx_e (.bool x77) S trivial (by decide) rfl (H.sel [3] (by decide)) (q_load1 rfl Tryz.isAgg4 (by rintro _ rfl; exact (hat81 0 _ rfl))) (fun a S => ?_)
  refine lq (.bool x77) S (q_assign rfl) fun a S => ?_
  refine lq (.int .i64 (0 : Int)) S (q_assign rfl) fun a S => ?_
  refine lx_nil (thenN ?_)
  refine wp_ret ?_
  obtain rfl := Option.some.inj hm
  have H : Heap w0 [] w70 := H.sel [] (by decide)
  exact leave2 S rfl rfl rfl ⟨rfl, H⟩

/-- laws.FnExactHoldsAt -/
def laws_FnExactHoldsAt_m (fuel : Nat) (a0 : (List Tlaws_Node)) (a1 : Tlaws_Lts) (a2 : Int) : Option (Bool) :=
  (laws_szNodeS_m fuel a0 (1048576 : Int)).bind fun x54 => (if (decide (x54 < (0 : Int))) = true then some (true) else (laws_szLts_m fuel (a1.1, a1.2.1, a1.2.2.1, a1.2.2.2) x54).bind fun x60 => (if (decide (x60 < (0 : Int))) = true then some (true) else (laws_toNodeS_m fuel a0).bind fun x68 => (laws_toLts_m fuel (a1.1, a1.2.1, a1.2.2.1, a1.2.2.2)).bind fun x75 => (spec_HoldsAt_m fuel x68 (x75.1, x75.2.1, x75.2.2.1, x75.2.2.2) a2).bind fun x84 => (laws_toNodeS_m fuel a0).bind fun x89 => (laws_toLts_m fuel (a1.1, a1.2.1, a1.2.2.1, a1.2.2.2)).bind fun x96 => (impl_HoldsAt_m fuel x89 (x96.1, x96.2.1, x96.2.2.1, x96.2.2.2) a2).bind fun x109 => (if (x109.1 != x84.1) = true then some true else some (x109.2 != x84.2)).bind fun t112 => (if t112 = true then some (false) else (laws_toNodeS_m fuel a0).bind fun x118 => (laws_eqNodeS_m fuel x89 x118).bind fun x125 => (if (!x125) = true then some (false) else (laws_toLts_m fuel (a1.1, a1.2.1, a1.2.2.1, a1.2.2.2)).bind fun x133 => (laws_eqLts_m fuel (x96.1, x96.2.1, x96.2.2.1, x96.2.2.2) (x133.1, x133.2.1, x133.2.2.1, x133.2.2.2)).bind fun x142 => (if (!x142) = true then some (false) else some (true))))))
set_option maxRecDepth 20000 in
theorem laws_FnExactHoldsAt_ok {w0 : World} {fuel : Nat} {p0 p1 : Value} {a0 : (List Tlaws_Node)} {a1 : Tlaws_Lts} {a2 : Int} {r : Bool} (hG : GlobE Tryz.prog w0) (h0 : Rd (rList Rlaws_Node) w0 p0 a0) (h1 : Rd Rlaws_Lts w0 p1 a1) (hm : laws_FnExactHoldsAt_m fuel a0 a1 a2 = some r) :
  Calls Tryz.prog 3 #[p0, p1, .int .i64 a2] w0 fun e w => e = .returned (.bool r) ∧ Heap w0 [] w := by
 unfold laws_FnExactHoldsAt_m at hm
 have H := Heap.start w0
 obtain ⟨c31, rfl, h32⟩ := h1
 obtain ⟨c37, c38, rfl, h39, h40⟩ := h32
 obtain rfl := h39
 obtain ⟨c41, c42, rfl, h43, h44⟩ := h40
 obtain rfl := h43
 obtain ⟨c45, c46, rfl, h47, h48⟩ := h44
 obtain ⟨v33, rfl, h34⟩ := rd_list h47
 obtain ⟨v35, rfl, h36⟩ := rd_list h48
 refine enter (args := [p0, (.agg #[(.int .i64 a1.1), (.int .i64 a1.2.1), v33, v35]), .int .i64 a2]) Tryz.func3 rfl 62 rfl (Nat.le_of_ble_eq_true rfl) (fun a S => ?_)
 refine wp_seq (region_plain ?_)
 refine lx_box S trivial (by decide) rfl H rfl rfl (fun b49 w50 H => ⟨trivial, fun a S => ?_⟩)
 refine lq (.bool false) S (q_assign rfl) fun a S => ?_
 refine lx_nil (thenN ?_)
 refine wp_seq (region_plain ?_)
 refine lq (.int .i64 (1048576 : Int)) S (q_assign rfl) fun a S => ?_
 refine lx_nil (thenN ?_)
 refine wp_seq (region_plain ?_)
 refine lq p0 S (q_move rfl) fun a S => ?_
 refine lq (.int .i64 (1048576 : Int)) S (q_move rfl) fun a S => ?_
 obtain ⟨x54, e55, hm⟩ := bind_some hm
 refine lx_call (xs := [.tmp 14, .tmp 15]) S trivial (by decide) rfl rfl Tryz.call6 ((laws_szNodeS_ok (H.arg h0)  e55).mono ?_)
 rintro e w52 ⟨rfl, Hc53⟩
 have H := H.call0 Hc53
 refine ⟨_, rfl, trivial, fun a S => ?_⟩
 refine lq (.int .i64 x54) S (q_assign rfl) fun a S => ?_
 refine lx_nil (thenN ?_)
 refine wp_seq (wp_seq (region_plain ?_))
 refine lq (.int .i64 x54) S (q_move rfl) fun a S => ?_
 refine lq (.bool (decide (x54 < (0 : Int)))) S (q_lss rfl rfl) fun a S => ?_
 refine lx_nil (thenN ?_)
 refine cond_b S rfl (fun hc57 => ?_) (fun hc57 => ?_)
 ·have hm := ite_t hc57 hm
  refine wp_seq (region_plain ?_)
  refine lq (.bool true) S (q_assign rfl) fun a S => ?_
  refine lx_nil (thenN ?_)
  refine wp_ret (then_ret ?_)
  obtain rfl := Option.some.inj hm
  have H : Heap w0 [] w52 := H.sel [] (by decide)
  exact leave1 S rfl rfl ⟨rfl, H⟩
 ·have hm := ite_f hc57 hm
  refine wp_skip (thenN ?_)
  refine wp_seq (region_plain ?_)
  refine lx_e (.agg #[(.int .i64 a1.1), (.int .i64 a1.2.1), v33, v35]) S trivial (by decide) rfl trivial (q_loadA (cs := [(.int .i64 a1.1), (.int .i64 a1.2.1), v33, v35]) rfl (isP_bp _) Tryz.isAgg26 Tryz.sizeOf26 (by rintro _ rfl; exact (fun j u hu => boxAt (i := 0) H rfl hu))) (fun a S => ?_)
  refine lq (.int .i64 x54) S (q_move rfl) fun a S => ?_
  obtain ⟨x60, e61, hm⟩ := bind_some hm
  refine lx_call (xs := [.tmp 19, .tmp 20]) S trivial (by decide) rfl rfl Tryz.call7 ((laws_szLts_ok ⟨[(.int .i64 a1.1), (.int .i64 a1.2.1), v33, v35], rfl, ⟨[(.int .i64 a1.1)], [(.int .i64 a1.2.1), v33, v35], rfl, rfl, ⟨[(.int .i64 a1.2.1)], [v33, v35], rfl, rfl, ⟨[v33], [v35], rfl, ((H.arg h34)).list_rd, ((H.arg h36)).list_rd⟩⟩⟩⟩  e61).mono ?_)
  rintro e w58 ⟨rfl, Hc59⟩
  have H := H.call0 Hc59
  refine ⟨_, rfl, trivial, fun a S => ?_⟩
  refine lq (.int .i64 x60) S (q_assign rfl) fun a S => ?_
  refine lx_nil (thenN ?_)
  refine wp_seq (wp_seq (region_plain ?_))
  refine lq (.int .i64 x60) S (q_move rfl) fun a S => ?_
  refine lq (.bool (decide (x60 < (0 : Int)))) S (q_lss rfl rfl) fun a S => ?_
  refine lx_nil (thenN ?_)
  refine cond_b S rfl (fun hc63 => ?_) (fun hc63 => ?_)
  ·have hm := ite_t hc63 hm
   refine wp_seq (region_plain ?_)
   refine lq (.bool true) S (q_assign rfl) fun a S => ?_
   refine lx_nil (thenN ?_)
   refine wp_ret (then_ret ?_)
   obtain rfl := Option.some.inj hm
   have H : Heap w0 [] w58 := H.sel [] (by decide)
   exact leave1 S rfl rfl ⟨rfl, H⟩
  ·have hm := ite_f hc63 hm
   refine wp_skip (thenN ?_)
   refine wp_seq ?_
   refine region_drawG (fun w1 => Heap w0 [bA b49 [(.int .i64 a1.1), (.int .i64 a1.2.1), v33, v35] 26] w1) (fun i => [1, 3, 5].contains i) mixed (by kernel_rfl) (fun w65 he64 => ?_)
   have H := H.later he64
   refine ⟨H.sel [0] (by decide), ?_⟩
   refine lq p0 S (q_move rfl) fun a S => ?_
   obtain ⟨x68, e69, hm⟩ := bind_some hm
   refine lx_call (xs := [.tmp 25]) S trivial (by decide) rfl rfl Tryz.call9 ((laws_toNodeS_ok (H.arg h0) e69).mono ?_)
   rintro e w66 ⟨v70, rfl, Hc67⟩
   have H := H.call1 Hc67
   refine ⟨_, rfl, H.sel [1] (by decide), fun a S => ?_⟩
   refine lq (.agg #[(.int .i64 a1.1), (.int .i64 a1.2.1), v33, v35]) S (q_loadA (cs := [(.int .i64 a1.1), (.int .i64 a1.2.1), v33, v35]) rfl (isP_bp _) Tryz.isAgg26 Tryz.sizeOf26 (fun w1 hC => (fun j u hu => boxAt (i := 0) hC rfl hu))) fun a S => ?_
   obtain ⟨x75, e76, hm⟩ := bind_some hm
   refine lx_call (xs := [.tmp 27]) S trivial (by decide) rfl rfl Tryz.call10 ((laws_toLts_ok ⟨[(.int .i64 a1.1), (.int .i64 a1.2.1), v33, v35], rfl, ⟨[(.int .i64 a1.1)], [(.int .i64 a1.2.1), v33, v35], rfl, rfl, ⟨[(.int .i64 a1.2.1)], [v33, v35], rfl, rfl, ⟨[v33], [v35], rfl, ((H.arg h34)).list_rd, ((H.arg h36)).list_rd⟩⟩⟩⟩ e76).mono ?_)
   rintro e w73 ⟨v77, v78, rfl, Hc74⟩
   have H := H.call2 Hc74
   refine ⟨_, rfl, H.sel [3] (by decide), fun a S => ?_⟩
   refine lq (.int .i64 a2) S (q_move rfl) fun a S => ?_
   obtain ⟨x84, e85, hm⟩ := bind_some hm
   refine lx_call (xs := [.tmp 26, .tmp 28, .tmp 29]) S trivial (by decide) rfl rfl Tryz.call8 ((spec_HoldsAt_ok (H.rdAt 2 rfl) ⟨[(.int .i64 x75.1), (.int .i64 x75.2.1), v77, v78], rfl, ⟨[(.int .i64 x75.1)], [(.int .i64 x75.2.1), v77, v78], rfl, rfl, ⟨[(.int .i64 x75.2.1)], [v77, v78], rfl, rfl, ⟨[v77], [v78], rfl, ((H.rdAt 0 rfl)).list_rd, ((H.rdAt 1 rfl)).list_rd⟩⟩⟩⟩  e85).mono ?_)
   rintro e w82 ⟨rfl, Hc83⟩
   have H := H.call0 Hc83
   refine ⟨_, rfl, H.sel [3] (by decide), fun a S => ?_⟩
   refine lq (.tuple #[(.bool x84.1), (.int .i64 x84.2)]) S (q_move rfl) fun a S => ?_
   refine lq (.bool x84.1) S (q_extract rfl rfl) fun a S => ?_
   refine lq (.int .i64 x84.2) S (q_extract rfl rfl) fun a S => ?_
   refine lq (.bool x84.1) S (q_assign rfl) fun a S => ?_
   refine lq (.int .i64 x84.2) S (q_assign rfl) fun a S => ?_
   refine lx_nil (thenN ?_)
   refine wp_seq (region_plain ?_)
   refine lq p0 S (q_move rfl) fun a S => ?_
   obtain ⟨x89, e90, hm⟩ := bind_some hm
   refine lx_call (xs := [.tmp 33]) S trivial (by decide) rfl rfl Tryz.call9 ((laws_toNodeS_ok (H.arg h0) e90).mono ?_)
   rintro e w87 ⟨v91, rfl, Hc88⟩
   have H := H.call1 Hc88
   refine ⟨_, rfl, trivial, fun a S => ?_⟩
   refine lq v91 S (q_assign rfl) fun a S => ?_
   refine lx_nil (thenN ?_)
   refine wp_seq (region_plain ?_)
   refine lx_e (.agg #[(.int .i64 a1.1), (.int .i64 a1.2.1), v33, v35]) S trivial (by decide) rfl trivial (q_loadA (cs := [(.int .i64 a1.1), (.int .i64 a1.2.1), v33, v35]) rfl (isP_bp _) Tryz.isAgg26 Tryz.sizeOf26 (by rintro _ rfl; exact (fun j u hu => boxAt (i := 4) H rfl hu))) (fun a S => ?_)
   obtain ⟨x96, e97, hm⟩ := bind_some hm
   refine lx_call (xs := [.tmp 35]) S trivial (by decide) rfl rfl Tryz.call10 ((laws_toLts_ok ⟨[(.int .i64 a1.1), (.int .i64 a1.2.1), v33, v35], rfl, ⟨[(.int .i64 a1.1)], [(.int .i64 a1.2.1), v33, v35], rfl, rfl, ⟨[(.int .i64 a1.2.1)], [v33, v35], rfl, rfl, ⟨[v33], [v35], rfl, ((H.arg h34)).list_rd, ((H.arg h36)).list_rd⟩⟩⟩⟩ e97).mono ?_)
   rintro e w94 ⟨v98, v99, rfl, Hc95⟩
   have H := H.call2 Hc95
   refine ⟨_, rfl, trivial, fun a S => ?_⟩
   refine lx_alloc S trivial (by decide) rfl H Tryz.zeroValue35 rfl (fun b103 w104 H => ⟨trivial, fun a S => ?_⟩)
   refine lx_storeBox (o := 0) (i := 0) (us := [(.int .i64 x96.1), (.int .i64 x96.2.1), v98, v99]) (cs' := [(.int .i64 x96.1), (.int .i64 x96.2.1), v98, v99]) S trivial rfl H rfl rfl rfl rfl Tryz.sizeOf35 (Nat.le_of_ble_eq_true rfl) (List.forall_mem_cons.2 ⟨rfl, (List.forall_mem_cons.2 ⟨rfl, (List.forall_mem_cons.2 ⟨one_sl (H.isSl 1 rfl), (List.forall_mem_cons.2 ⟨one_sl (H.isSl 2 rfl), (List.forall_mem_nil _)⟩)⟩)⟩)⟩) rfl (fun w106 H => ⟨trivial, fun a S => ?_⟩)
   change Heap w0 [bA b103 [(.int .i64 x96.1), (.int .i64 x96.2.1), v98, v99] 35, oA (rList rStr) v98 x96.2.2.1, oA (rList Rimpl_Edge) v99 x96.2.2.2, oA (rList Rimpl_Node) v91 x89, oA (rList rStr) v77 x75.2.2.1, oA (rList Rimpl_Edge) v78 x75.2.2.2, oA (rList Rimpl_Node) v70 x68, bA b49 [(.int .i64 a1.1), (.int .i64 a1.2.1), v33, v35] 26] w106 at H
   refine lx_nil (thenN ?_)
   refine wp_seq (region_plain ?_)
   refine lq v91 S (q_move rfl) fun a S => ?_
   refine lx_e (.agg #[(.int .i64 x96.1), (.int .i64 x96.2.1), v98, v99]) S trivial (by decide) rfl trivial (q_loadA (cs := [(.int .i64 x96.1), (.int .i64 x96.2.1), v98, v99]) rfl (isP_bp _) Tryz.isAgg35 Tryz.sizeOf35 (by rintro _ rfl; exact (fun j u hu => boxAt (i := 0) H rfl hu))) (fun a S => ?_)
   refine lq (.int .i64 a2) S (q_move rfl) fun a S => ?_
   obtain ⟨x109, e110, hm⟩ := bind_some hm
   refine lx_call (xs := [.tmp 38, .tmp 39, .tmp 40]) S trivial (by decide) rfl rfl Tryz.call11 ((impl_HoldsAt_ok (hG.ext H.ext) (H.rdAt 3 rfl) ⟨[(.int .i64 x96.1), (.int .i64 x96.2.1), v98, v99], rfl, ⟨[(.int .i64 x96.1)], [(.int .i64 x96.2.1), v98, v99], rfl, rfl, ⟨[(.int .i64 x96.2.1)], [v98, v99], rfl, rfl, ⟨[v98], [v99], rfl, ((H.rdAt 1 rfl)).list_rd, ((H.rdAt 2 rfl)).list_rd⟩⟩⟩⟩  e110).mono ?_)
   rintro e w107 ⟨rfl, Hc108⟩
   have H := H.call0 Hc108
   refine ⟨_, rfl, trivial, fun a S => ?_⟩
   refine lq (.tuple #[(.bool x109.1), (.int .i64 x109.2)]) S (q_move rfl) fun a S => ?_
   refine lq (.bool x109.1) S (q_extract rfl rfl) fun a S => ?_
   refine lq (.int .i64 x109.2) S (q_extract rfl rfl) fun a S => ?_
   refine lq (.bool x109.1) S (q_assign rfl) fun a S => ?_
   refine lq (.int .i64 x109.2) S (q_assign rfl) fun a S => ?_
   refine lx_nil (thenN ?_)
   refine wp_seq (wp_seq (region_plain ?_))
   refine lq (.bool x109.1) S (q_move rfl) fun a S => ?_
   refine lq (.bool x84.1) S (q_move rfl) fun a S => ?_
   refine lq (.bool (x109.1 != x84.1)) S (q_bneq rfl rfl Tryz.underlying4) fun a S => ?_
   refine lq (.bool (x109.1 != x84.1)) S (q_move rfl) fun a S => ?_
   obtain ⟨t112, e113, hm⟩ := bind_some hm
   refine lx_cut 4 (fun a w => Slots a 62 [(0, p0), (4, (bp b49)), (10, v91), (11, (bp b103)), (51, (.bool t112))] ∧ Heap w0 [bA b103 [(.int .i64 x96.1), (.int .i64 x96.2.1), v98, v99] 35, oA (rList rStr) v98 x96.2.2.1, oA (rList Rimpl_Edge) v99 x96.2.2.2, oA (rList Rimpl_Node) v91 x89, bA b49 [(.int .i64 a1.1), (.int .i64 a1.2.1), v33, v35] 26] w) ?_ ?_
   ·by_cases hc114 : (x109.1 != x84.1) = true
    ·have hm := ite_t hc114 e113
     refine lx_skip S rfl rfl (isB_ne hc114) (by decide) (fun a S => ?_)
     refine lx_skip S rfl rfl (isB_ne hc114) (by decide) (fun a S => ?_)
     refine lx_skip S rfl rfl (isB_ne hc114) (by decide) (fun a S => ?_)
     refine lq (.bool true) S (q_pickT' rfl hc114 rfl) fun a S => ?_
     refine lx_nil ?_
     obtain rfl := Option.some.inj hm
     have H := H.sel [0, 1, 2, 3, 7] (by decide)
     exact ⟨S.sub ⟨rfl, rfl, rfl, rfl, rfl, trivial⟩, H⟩
    ·have hm := ite_f (eq_false_of_ne_true hc114) e113
     have hc114 : (x109.1 != x84.1) = false := eq_false_of_ne_true hc114
     refine lx_q (.int .i64 x109.2) S (want_b rfl rfl hc114) (by decide) (q_move rfl) (fun a S => ?_)
     refine lx_q (.int .i64 x84.2) S (want_b rfl rfl hc114) (by decide) (q_move rfl) (fun a S => ?_)
     refine lx_q (.bool (x109.2 != x84.2)) S (want_b rfl rfl hc114) (by decide) (q_neq rfl rfl) (fun a S => ?_)
     refine lq (.bool (x109.2 != x84.2)) S (q_pickF' rfl hc114 rfl) fun a S => ?_
     refine lx_nil ?_
     obtain rfl := Option.some.inj hm
     have H := H.sel [0, 1, 2, 3, 7] (by decide)
     exact ⟨S.sub ⟨rfl, rfl, rfl, rfl, rfl, trivial⟩, H⟩
   ·rintro a w ⟨S, H⟩
    refine lx_nil (thenN ?_)
    refine cond_b S rfl (fun hc115 => ?_) (fun hc115 => ?_)
    ·have hm := ite_t hc115 hm
     refine wp_seq (region_plain ?_)
     refine lq (.bool false) S (q_assign rfl) fun a S => ?_
     refine lx_nil (thenN ?_)
     refine wp_ret (then_ret ?_)
     obtain rfl := Option.some.inj hm
     have H : Heap w0 [] w := H.sel [] (by decide)
     exact leave1 S rfl rfl ⟨rfl, H⟩
    ·have hm := ite_f hc115 hm
     refine wp_skip (thenN ?_)
     refine wp_seq (wp_seq (region_plain ?_))
     refine lq v91 S (q_move rfl) fun a S => ?_
     refine lq p0 S (q_move rfl) fun a S => ?_
     obtain ⟨x118, e119, hm⟩ := bind_some hm
     refine lx_call (xs := [.tmp 53]) S trivial (by decide) rfl rfl Tryz.call9 ((laws_toNodeS_ok (H.arg h0) e119).mono ?_)
     rintro e w116 ⟨v120, rfl, Hc117⟩
     have H := H.call1 Hc117
     refine ⟨_, rfl, trivial, fun a S => ?_⟩
     obtain ⟨x125, e126, hm⟩ := bind_some hm
     refine lx_call (xs := [.tmp 52, .tmp 54]) S trivial (by decide) rfl rfl Tryz.call12 ((laws_eqNodeS_ok (H.rdAt 4 rfl) (H.rdAt 0 rfl) e126).mono ?_)
     rintro e w123 ⟨rfl, Hc124⟩
     have H := H.call0 Hc124
     refine ⟨_, rfl, trivial, fun a S => ?_⟩
     refine lq (.bool (!x125)) S (q_not rfl) fun a S => ?_
     refine lx_nil (thenN ?_)
     refine cond_b S rfl (fun hc128 => ?_) (fun hc128 => ?_)
     ·have hm := ite_t hc128 hm
      refine wp_seq (region_plain ?_)
      refine lq (.bool false) S (q_assign rfl) fun a S => ?_
      refine lx_nil (thenN ?_)
      refine wp_ret (then_ret ?_)
      obtain rfl := Option.some.inj hm
      have H : Heap w0 [] w123 := H.sel [] (by decide)
      exact leave1 S rfl rfl ⟨rfl, H⟩
     ·have hm := ite_f hc128 hm
      refine wp_skip (thenN ?_)
      refine wp_seq ?_
      refine wp_seq ?_
      refine region_drawG (fun w1 => Heap w0 [bA b103 [(.int .i64 x96.1), (.int .i64 x96.2.1), v98, v99] 35, bA b49 [(.int .i64 a1.1), (.int .i64 a1.2.1), v33, v35] 26] w1) (fun i => [2, 3].contains i) mixed (by kernel_rfl) (fun w130 he129 => ?_)
      have H := H.later he129
      refine ⟨H.sel [1, 5] (by decide), ?_⟩
      refine lq (.agg #[(.int .i64 x96.1), (.int .i64 x96.2.1), v98, v99]) S (q_loadA (cs := [(.int .i64 x96.1), (.int .i64 x96.2.1), v98, v99]) rfl (isP_bp _) Tryz.isAgg35 Tryz.sizeOf35 (fun w1 hC => (fun j u hu => boxAt (i := 0) hC rfl hu))) fun a S => ?_
      refine lq (.agg #[(.int .i64 a1.1), (.int .i64 a1.2.1), v33, v35]) S (q_loadA (cs := [(.int .i64 a1.1), (.int .i64 a1.2.1), v33, v35]) rfl (isP_bp _) Tryz.isAgg26 Tryz.sizeOf26 (fun w1 hC => (fun j u hu => boxAt (i := 1) hC rfl hu))) fun a S => ?_
      obtain ⟨x133, e134, hm⟩ := bind_some hm
      refine lx_call (xs := [.tmp 58]) S trivial (by decide) rfl rfl Tryz.call10 ((laws_toLts_ok ⟨[(.int .i64 a1.1), (.int .i64 a1.2.1), v33, v35], rfl, ⟨[(.int .i64 a1.1)], [(.int .i64 a1.2.1), v33, v35], rfl, rfl, ⟨[(.int .i64 a1.2.1)], [v33, v35], rfl, rfl, ⟨[v33], [v35], rfl, ((H.arg h34)).list_rd, ((H.arg h36)).list_rd⟩⟩⟩⟩ e134).mono ?_)
      rintro e w131 ⟨v135, v136, rfl, Hc132⟩
      have H := H.call2 Hc132
      refine ⟨_, rfl, H.sel [3, 7] (by decide), fun a S => ?_⟩
      obtain ⟨x142, e143, hm⟩ := bind_some hm
      refine lx_call (xs := [.tmp 57, .tmp 59]) S trivial (by decide) rfl rfl Tryz.call13 ((laws_eqLts_ok ⟨[(.int .i64 x96.1), (.int .i64 x96.2.1), v98, v99], rfl, ⟨[(.int .i64 x96.1)], [(.int .i64 x96.2.1), v98, v99], rfl, rfl, ⟨[(.int .i64 x96.2.1)], [v98, v99], rfl, rfl, ⟨[v98], [v99], rfl, ((H.rdAt 4 rfl)).list_rd, ((H.rdAt 5 rfl)).list_rd⟩⟩⟩⟩ ⟨[(.int .i64 x133.1), (.int .i64 x133.2.1), v135, v136], rfl, ⟨[(.int .i64 x133.1)], [(.int .i64 x133.2.1), v135, v136], rfl, rfl, ⟨[(.int .i64 x133.2.1)], [v135, v136], rfl, rfl, ⟨[v135], [v136], rfl, ((H.rdAt 0 rfl)).list_rd, ((H.rdAt 1 rfl)).list_rd⟩⟩⟩⟩ e143).mono ?_)
      rintro e w140 ⟨rfl, Hc141⟩
      have H := H.call0 Hc141
      refine ⟨_, rfl, H.sel [3, 7] (by decide), fun a S => ?_⟩
      refine lq (.bool (!x142)) S (q_not rfl) fun a S => ?_
      refine lx_nil (thenN ?_)
      refine cond_b S rfl (fun hc145 => ?_) (fun hc145 => ?_)
      ·have hm := ite_t hc145 hm
       refine wp_seq (region_plain ?_)
       refine lq (.bool false) S (q_assign rfl) fun a S => ?_
       refine lx_nil (thenN ?_)
       refine wp_ret (then_ret ?_)
       obtain rfl := Option.some.inj hm
       have H : Heap w0 [] w140 := H.sel [] (by decide)
       exact leave1 S rfl rfl ⟨rfl, H⟩
      ·have hm := ite_f hc145 hm
       refine wp_skip (thenN ?_)
       refine wp_seq (region_plain ?_)
       refine lq (.bool true) S (q_assign rfl) fun a S => ?_
       refine lx_nil (thenN ?_)
       refine wp_ret ?_
       obtain rfl := Option.some.inj hm
       have H : Heap w0 [] w140 := H.sel [] (by decide)
       exact leave1 S rfl rfl ⟨rfl, H⟩
end Go.Proofs.YtnkpniekdipgaaaGreatDoor
