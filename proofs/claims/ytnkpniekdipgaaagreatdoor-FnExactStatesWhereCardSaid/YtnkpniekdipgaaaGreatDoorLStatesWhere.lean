/- The model of a statement and its walk (printed by a program of this repo). -/
import Derived.Test.YtnkpniekdipgaaaGreatDoorF0
import Derived.Test.YtnkpniekdipgaaaGreatDoorF1
import Derived.Test.YtnkpniekdipgaaaGreatDoorF2
import Derived.Test.YtnkpniekdipgaaaGreatDoorF3
import Derived.Test.YtnkpniekdipgaaaGreatDoorF4
import Derived.Test.YtnkpniekdipgaaaGreatDoorF5
import Derived.Test.YtnkpniekdipgaaaGreatDoorF6
import Derived.Test.YtnkpniekdipgaaaGreatDoorF7
import Derived.Test.YtnkpniekdipgaaaGreatDoorGxT
import Derived.Test.YtnkpniekdipgaaaGreatDoorGxY
namespace Go.Proofs.YtnkpniekdipgaaaGreatDoor
open Go.RowKit Go.Gx

/-- spec.l14List -/
def spec_l14List_m (fuel : Nat) (a0 : (List Bool)) : Option ((List Int)) :=
  (iter (fun (s : (List Int) × (Int)) => (match s with | (xs59, x61) => (if (decide (x61 < (a0.length : Int))) = true then join (κ := List Int → Option (((List Int) × (Int)) ⊕ (((List Int)) ⊕ ((List Int))))) (fun (xs99 : List Int) => some (.inl (xs99, (W (x61 + (1 : Int)))))) (fun K101 => (idx a0 x61).bind fun x103 => (if x103 = true then (app xs59 [x61]).bind fun x112 => (K101 x112) else (K101 xs59))) else some (.inr (.inl (xs59)))) : Option (((List Int) × (Int)) ⊕ (((List Int)) ⊕ ((List Int)))))) fuel (([] : List Int), (0 : Int))).bind fun res89 => ctl (β := (List Int)) (ρ := (List Int)) (τ := (List Int)) res89 (fun (xs87) => some (xs87)) (fun q => some (q))
set_option maxRecDepth 20000 in
theorem spec_l14List_ok [dr : Dr] {w0 : World} {fuel : Nat} {p0 : Value} {a0 : (List Bool)} {r : (List Int)} (h0 : Rd (rList rBool) w0 p0 a0) (hm : spec_l14List_m fuel a0 = some r) :
  Calls Tryz.prog 40 #[p0] w0 fun e w => ∃ (v0 : Value), e = .returned (v0) ∧ Heap w0 [oA (rList (rInt .i64)) v0 r] w := by
 unfold spec_l14List_m at hm
 have H := Heap.start w0
 refine enter (args := [p0]) Tryz.func40 rfl 21 rfl (Nat.le_of_ble_eq_true rfl) (fun a S => ?_)
 refine wp_seq (region_plain ?_)
 refine lq (.slice none 0 0) S (q_assign rfl) fun a S => ?_
 refine lx_nil (thenN ?_)
 refine wp_seq (region_plain ?_)
 refine lx_buildSlice0 (r := (rInt .i64)) S trivial (by decide) rfl H Tryz.underlying42 Tryz.sizeOf2 (fun v31 w32 H => ⟨trivial, fun a S => ?_⟩)
 refine lq v31 S (q_assign rfl) fun a S => ?_
 refine lx_nil (thenN ?_)
 refine wp_seq (wp_seq (region_plain ?_))
 refine lq (.int .i64 (0 : Int)) S (q_assign rfl) fun a S => ?_
 refine lx_nil (thenN ?_)
 obtain ⟨res89, hit90, hk93⟩ := bind_some hm
 obtain ⟨f91, hf92, hit90⟩ := iter_name hit90
 refine block_loop (fun a w => ∃ (xs87 : List Int) (v86 : Value), Slots a 21 [(3, v86)] ∧ Heap w0 [oA (rList (rInt .i64)) v86 xs87] w ∧ res89 = .inl (xs87)) ?_ ?_
 ·rintro a w ⟨xs87, v86, S, H, rfl⟩
  have hm := ctl_inl hk93
  refine thenN ?_
  refine wp_seq (region_plain ?_)
  refine lq v86 S (q_move rfl) fun a S => ?_
  refine lq v86 S (q_assign rfl) fun a S => ?_
  refine lx_nil (thenN ?_)
  refine wp_ret ?_
  obtain rfl := Option.some.inj hm
  exact leave1 S rfl rfl ⟨v86, rfl, H⟩
 ·skip
  refine loop_ghost (fun n a w => ∃ (xs59 : List Int) (x61 : Int) (v58 : Value), Slots a 21 [(0, p0), (3, v58), (4, (.int .i64 x61))] ∧ Heap w0 [oA (rList (rInt .i64)) v58 xs59] w ∧ iter f91 n (xs59, x61) = some res89) _ ⟨([] : List Int), (0 : Int), v31, S.sub ⟨rfl, rfl, rfl, trivial⟩, H, hit90⟩ ?_
  rintro n a w ⟨xs59, x61, v58, S, H, hit90⟩
  obtain ⟨m94, o95, rfl, hm, hc96⟩ := iter_step hit90
  rw [hf92] at hm
  refine wp_seq (wp_seq (region_plain ?_))
  refine lq (.int .i64 x61) S (q_move rfl) fun a S => ?_
  refine lq p0 S (q_move rfl) fun a S => ?_
  refine lq (.int .i64 (a0.length : Int)) S (q_lenSl rfl (h0).isSl rfl Tryz.underlying59) fun a S => ?_
  refine lq (.bool (decide (x61 < (a0.length : Int)))) S (q_lss rfl rfl) fun a S => ?_
  refine lx_nil (thenN ?_)
  refine cond_b S rfl (fun hc97 => ?_) (fun hc97 => ?_)
  ·have hm := ite_t hc97 hm
   refine wp_skip (thenN ?_)
   obtain ⟨K101, hK102, hm⟩ := join_elim hm
   refine seq_cut (fun a w => ∃ (xs99 : List Int) (v98 : Value), Slots a 21 [(0, p0), (3, v98), (4, (.int .i64 x61))] ∧ Heap w0 [oA (rList (rInt .i64)) v98 xs99] w ∧ K101 xs99 = some o95) ?_ ?_
   ·rintro a w ⟨xs99, v98, S, H, hm⟩
    subst hK102
    refine region_plain ?_
    refine lq (.int .i64 x61) S (q_move rfl) fun a S => ?_
    refine lq (.int .i64 (W (x61 + (1 : Int)))) S (q_add rfl rfl) fun a S => ?_
    refine lq (.int .i64 (W (x61 + (1 : Int)))) S (q_assign rfl) fun a S => ?_
    refine lx_nil ?_
    exact ⟨m94, Nat.lt_succ_self _, xs99, (W (x61 + (1 : Int))), v98, S.sub ⟨rfl, rfl, rfl, trivial⟩, H, it_cont hm hc96⟩
   ·skip
    refine wp_block ?_
    refine wp_seq (region_plain ?_)
    refine lq p0 S (q_move rfl) fun a S => ?_
    refine lq (.int .i64 x61) S (q_move rfl) fun a S => ?_
    obtain ⟨x103, e104, hm⟩ := bind_some hm
    obtain ⟨c105, h106, hat107⟩ := (h0).elem (idx_some e104).2
    obtain rfl := h106
    have hlt := lt_of_idx (idx_some e104).2
    refine lq (ePtr p0 (x61.toNat * 1)) S (q_indexAddr rfl (h0).isSl rfl (idx_some e104).1 hlt Tryz.underlying59 Tryz.sizeOf4) fun a S => ?_
    refine lx_e (.bool x103) S trivial (by decide) rfl trivial (q_load1 rfl Tryz.isAgg4 (by rintro _ rfl; exact ((hat107 0 _ rfl).ext H.ext))) (fun a S => ?_)
    refine lx_nil (thenN ?_)
    refine cond_b S rfl (fun hc108 => ?_) (fun hc108 => ?_)
    ·have hm := ite_t hc108 hm
     refine region_plain ?_
     refine lq v58 S (q_move rfl) fun a S => ?_
     refine lq (.int .i64 x61) S (q_move rfl) fun a S => ?_
     refine lx_buildSlice (r := (rInt .i64)) (xs := [x61]) (ps := [(0, [(.int .i64 x61)])]) (cs := [(.int .i64 x61)]) (parts := [(0, .tmp 17)]) S trivial (by decide) rfl (H.put0 (A := eA) rfl) rfl Tryz.underlying42 Tryz.sizeOf2 Tryz.zeroValue2 (by decide) ⟨rfl, rfl, Nat.le_of_ble_eq_true rfl, trivial⟩ (by intro zs hz; exact fill_dense hz ⟨rfl, trivial⟩ rfl rfl) rfl (by decide) (fun w F hA => by cases (show F = [] from hA); exact ⟨_, _, [(.int .i64 x61)], _, rfl, rfl, ⟨rfl, rfl⟩, ⟨rfl, rfl⟩⟩) (fun v109 w110 H => ⟨trivial, fun a S => ?_⟩)
     obtain ⟨x112, e113, hm⟩ := bind_some hm
     obtain ⟨hle, hap⟩ := app_some e113
     replace hap := hap.symm
     subst hap
     have H : Heap w0 [oA (rList (rInt .i64)) v109 [x61], oA (rList (rInt .i64)) v58 xs59] w110 := H.front 0 rfl
     have H : Heap w0 [oA (rList (rInt .i64)) v58 xs59, oA (rList (rInt .i64)) v109 [x61]] w110 := H.front 1 rfl
     refine lx_appendOwn (r := (rInt .i64)) S trivial (by decide) rfl H rfl rfl Tryz.underlying42 Tryz.ti2 rfl rfl rfl (Nat.le_of_ble_eq_true rfl) (by decide) hle (fun v114 w115 H => ⟨trivial, fun a S => ?_⟩)
     refine lq v114 S (q_assign rfl) fun a S => ?_
     refine lx_nil ?_
     refine inBlock_norm ?_
     exact ⟨(xs59 ++ [x61]), v114, S.sub ⟨rfl, rfl, rfl, trivial⟩, H, hm⟩
    ·have hm := ite_f hc108 hm
     refine wp_skip ?_
     refine inBlock_norm ?_
     exact ⟨xs59, v58, S.sub ⟨rfl, rfl, rfl, trivial⟩, H, hm⟩
  ·have hm := ite_f hc97 hm
   refine wp_exit ?_
   refine then_exit ?_
   refine then_exit ?_
   refine inBlock_exit ?_
   obtain rfl := it_brk hm hc96
   exact ⟨xs59, v58, S.sub ⟨rfl, trivial⟩, H, rfl⟩

/-- spec.StatesWhere -/
def spec_StatesWhere_m (fuel : Nat) (a0 : (List Timpl_Node)) (a1 : Timpl_Lts) : Option (((List Int) × Int)) :=
  (spec_l14Is_m fuel a0).bind fun x54 => (if (!x54) = true then some true else (spec_l11Is_m fuel (a1.1, a1.2.1, a1.2.2.1, a1.2.2.2)).bind fun x62 => some (!x62)).bind fun t57 => (if t57 = true then some (([], (1 : Int))) else (spec_l14Holds_m fuel a0 (a1.1, a1.2.1, a1.2.2.1, a1.2.2.2)).bind fun x69 => (spec_l14List_m fuel x69).bind fun x76 => some ((x76, (0 : Int))))
set_option maxRecDepth 20000 in
theorem spec_StatesWhere_ok [dr : Dr] {w0 : World} {fuel : Nat} {p0 p1 : Value} {a0 : (List Timpl_Node)} {a1 : Timpl_Lts} {r : ((List Int) × Int)} (h0 : Rd (rList Rimpl_Node) w0 p0 a0) (h1 : Rd Rimpl_Lts w0 p1 a1) (hm : spec_StatesWhere_m fuel a0 a1 = some r) :
  Calls Tryz.prog 16 #[p0, p1] w0 fun e w => ∃ (v0 : Value), e = .returned (.tuple #[v0, .int .i64 r.2]) ∧ Heap w0 [oA (rList (rInt .i64)) v0 r.1] w := by
 unfold spec_StatesWhere_m at hm
 have H := Heap.start w0
 obtain ⟨c31, rfl, h32⟩ := h1
 obtain ⟨c37, c38, rfl, h39, h40⟩ := h32
 obtain rfl := h39
 obtain ⟨c41, c42, rfl, h43, h44⟩ := h40
 obtain rfl := h43
 obtain ⟨c45, c46, rfl, h47, h48⟩ := h44
 obtain ⟨v33, rfl, h34⟩ := rd_list h47
 obtain ⟨v35, rfl, h36⟩ := rd_list h48
 refine enter (args := [p0, (.agg #[(.int .i64 a1.1), (.int .i64 a1.2.1), v33, v35])]) Tryz.func16 rfl 16 rfl (Nat.le_of_ble_eq_true rfl) (fun a S => ?_)
 refine wp_seq (region_plain ?_)
 refine lx_box S trivial (by decide) rfl H rfl rfl (fun b49 w50 H => ⟨trivial, fun a S => ?_⟩)
 refine lq (.slice none 0 0) S (q_assign rfl) fun a S => ?_
 refine lq (.int .i64 (0 : Int)) S (q_assign rfl) fun a S => ?_
 refine lx_nil (thenN ?_)
 refine wp_seq (wp_seq (region_plain ?_))
 refine lq p0 S (q_move rfl) fun a S => ?_
 obtain ⟨x54, e55, hm⟩ := bind_some hm
 refine lx_call (xs := [.tmp 6]) S trivial (by decide) rfl rfl Tryz.call26 ((spec_l14Is_ok (H.arg h0) e55).mono ?_)
 rintro e w52 ⟨rfl, Hc53⟩
 have H := H.call0 Hc53
 refine ⟨_, rfl, trivial, fun a S => ?_⟩
 refine lq (.bool (!x54)) S (q_not rfl) fun a S => ?_
 refine lq (.bool (!x54)) S (q_move rfl) fun a S => ?_
 obtain ⟨t57, e58, hm⟩ := bind_some hm
 refine lx_cut 3 (fun a w => Slots a 16 [(0, p0), (3, (bp b49)), (12, (.bool t57))] ∧ Heap w0 [bA b49 [(.int .i64 a1.1), (.int .i64 a1.2.1), v33, v35] 35] w) ?_ ?_
 ·by_cases hc59 : (!x54) = true
  ·have hm := ite_t hc59 e58
   refine lx_skip S rfl rfl (isB_ne hc59) (by decide) (fun a S => ?_)
   refine lx_skip S rfl rfl (isB_ne hc59) (by decide) (fun a S => ?_)
   refine lq (.bool true) S (q_pickT' rfl hc59 rfl) fun a S => ?_
   refine lx_nil ?_
   obtain rfl := Option.some.inj hm
   exact ⟨S.sub ⟨rfl, rfl, rfl, trivial⟩, H⟩
  ·have hm := ite_f (eq_false_of_ne_true hc59) e58
   have hc59 : (!x54) = false := eq_false_of_ne_true hc59
   obtain ⟨x62, e63, hm⟩ := bind_some hm
   refine lx_call (xs := [.tmp 3]) S (want_b rfl rfl hc59) (by decide) rfl rfl Tryz.call27 ((spec_l11Is_ok (rdPtr_box H 0 rfl ⟨[(.int .i64 a1.1)], [(.int .i64 a1.2.1), v33, v35], rfl, rfl, ⟨[(.int .i64 a1.2.1)], [v33, v35], rfl, rfl, ⟨[v33], [v35], rfl, ((H.arg h34)).list_rd, ((H.arg h36)).list_rd⟩⟩⟩) e63).mono ?_)
   rintro e w60 ⟨rfl, Hc61⟩
   have H := H.call0 Hc61
   refine ⟨_, rfl, trivial, fun a S => ?_⟩
   refine lx_q (.bool (!x62)) S (want_b rfl rfl hc59) (by decide) (q_not rfl) (fun a S => ?_)
   refine lq (.bool (!x62)) S (q_pickF' rfl hc59 rfl) fun a S => ?_
   refine lx_nil ?_
   obtain rfl := Option.some.inj hm
   exact ⟨S.sub ⟨rfl, rfl, rfl, trivial⟩, H⟩
 ·rintro a w ⟨S, H⟩
  refine lx_nil (thenN ?_)
  refine cond_b S rfl (fun hc65 => ?_) (fun hc65 => ?_)
  ·have hm := ite_t hc65 hm
   refine wp_seq (region_plain ?_)
   refine lq (.slice none 0 0) S (q_assign rfl) fun a S => ?_
   refine lq (.int .i64 (1 : Int)) S (q_assign rfl) fun a S => ?_
   refine lx_nil (thenN ?_)
   refine wp_ret (then_ret ?_)
   obtain rfl := Option.some.inj hm
   have H : Heap w0 [oA (rList (rInt .i64)) (.slice none 0 0) ([] : List Int), bA b49 [(.int .i64 a1.1), (.int .i64 a1.2.1), v33, v35] 35] w := H.nilList (rInt .i64)
   have H : Heap w0 [oA (rList (rInt .i64)) (.slice none 0 0) ([] : List Int)] w := H.sel [0] (by decide)
   exact leave2 S rfl rfl rfl ⟨(.slice none 0 0), rfl, H⟩
  ·have hm := ite_f hc65 hm
   refine wp_skip (thenN ?_)
   refine wp_seq (region_plain ?_)
   refine lq p0 S (q_move rfl) fun a S => ?_
   obtain ⟨x69, e70, hm⟩ := bind_some hm
   refine lx_call (xs := [.tmp 13, .tmp 3]) S trivial (by decide) rfl rfl Tryz.call29 ((spec_l14Holds_ok (H.arg h0) (rdPtr_box H 0 rfl ⟨[(.int .i64 a1.1)], [(.int .i64 a1.2.1), v33, v35], rfl, rfl, ⟨[(.int .i64 a1.2.1)], [v33, v35], rfl, rfl, ⟨[v33], [v35], rfl, ((H.arg h34)).list_rd, ((H.arg h36)).list_rd⟩⟩⟩) e70).mono ?_)
   rintro e w67 ⟨v71, rfl, Hc68⟩
   have H := H.call1 Hc68
   refine ⟨_, rfl, trivial, fun a S => ?_⟩
   obtain ⟨x76, e77, hm⟩ := bind_some hm
   refine lx_call (xs := [.tmp 14]) S trivial (by decide) rfl rfl Tryz.call40 ((spec_l14List_ok (H.rdAt 0 rfl) e77).mono ?_)
   rintro e w74 ⟨v78, rfl, Hc75⟩
   have H := H.call1 Hc75
   refine ⟨_, rfl, trivial, fun a S => ?_⟩
   refine lq v78 S (q_assign rfl) fun a S => ?_
   refine lq (.int .i64 (0 : Int)) S (q_assign rfl) fun a S => ?_
   refine lx_nil (thenN ?_)
   refine wp_ret ?_
   obtain rfl := Option.some.inj hm
   have H : Heap w0 [oA (rList (rInt .i64)) v78 x76] w74 := H.sel [0] (by decide)
   exact leave2 S rfl rfl rfl ⟨v78, rfl, H⟩

/-- impl.trueAt -/
def impl_trueAt_m (fuel : Nat) (a0 : (List Bool)) : Option ((List Int)) :=
  (iter (fun (s : (List Int) × (Int)) => (match s with | (xs58, x60) => (if (decide (x60 < (a0.length : Int))) = true then join (κ := List Int → Option (((List Int) × (Int)) ⊕ (((List Int)) ⊕ ((List Int))))) (fun (xs99 : List Int) => some (.inl (xs99, (W (x60 + (1 : Int)))))) (fun K101 => (idx a0 x60).bind fun x103 => (if x103 = true then (app xs58 [x60]).bind fun x112 => (K101 x112) else (K101 xs58))) else some (.inr (.inl (xs58)))) : Option (((List Int) × (Int)) ⊕ (((List Int)) ⊕ ((List Int)))))) fuel ([], (0 : Int))).bind fun res88 => ctl (β := (List Int)) (ρ := (List Int)) (τ := (List Int)) res88 (fun (xs86) => some (xs86)) (fun q => some (q))
set_option maxRecDepth 20000 in
theorem impl_trueAt_ok [dr : Dr] {w0 : World} {fuel : Nat} {p0 : Value} {a0 : (List Bool)} {r : (List Int)} (h0 : Rd (rList rBool) w0 p0 a0) (hm : impl_trueAt_m fuel a0 = some r) :
  Calls Tryz.prog 43 #[p0] w0 fun e w => ∃ (v0 : Value), e = .returned (v0) ∧ Heap w0 [oA (rList (rInt .i64)) v0 r] w := by
 unfold impl_trueAt_m at hm
 have H := Heap.start w0
 refine enter (args := [p0]) Tryz.func43 rfl 20 rfl (Nat.le_of_ble_eq_true rfl) (fun a S => ?_)
 refine wp_seq (region_plain ?_)
 refine lq (.slice none 0 0) S (q_assign rfl) fun a S => ?_
 refine lx_nil (thenN ?_)
 refine wp_seq (region_plain ?_)
 refine lq (.slice none 0 0) S (q_assign rfl) fun a S => ?_
 refine lx_nil (thenN ?_)
 refine wp_seq (wp_seq (region_plain ?_))
 refine lq p0 S (q_move rfl) fun a S => ?_
 refine lq (.int .i64 (a0.length : Int)) S (q_lenSl rfl (h0).isSl rfl Tryz.underlying59) fun a S => ?_
 refine lq (.int .i64 (0 : Int)) S (q_move rfl) fun a S => ?_
 refine lx_nil (thenN ?_)
 obtain ⟨res88, hit89, hk92⟩ := bind_some hm
 obtain ⟨f90, hf91, hit89⟩ := iter_name hit89
 refine block_loop (fun a w => ∃ (xs86 : List Int) (v85 : Value), Slots a 20 [(3, v85)] ∧ Heap w0 [oA (rList (rInt .i64)) v85 xs86] w ∧ res88 = .inl (xs86)) ?_ ?_
 ·rintro a w ⟨xs86, v85, S, H, rfl⟩
  have hm := ctl_inl hk92
  refine thenN ?_
  refine wp_seq (region_plain ?_)
  refine lq v85 S (q_move rfl) fun a S => ?_
  refine lq v85 S (q_assign rfl) fun a S => ?_
  refine lx_nil (thenN ?_)
  refine wp_ret ?_
  obtain rfl := Option.some.inj hm
  exact leave1 S rfl rfl ⟨v85, rfl, H⟩
 ·skip
  have H : Heap w0 [oA (rList (rInt .i64)) (.slice none 0 0) ([] : List Int)] w0 := H.nilList (rInt .i64)
  refine loop_ghost (fun n a w => ∃ (xs58 : List Int) (x60 : Int) (v57 : Value), Slots a 20 [(3, v57), (6, p0), (7, (.int .i64 (a0.length : Int))), (8, (.int .i64 x60))] ∧ Heap w0 [oA (rList (rInt .i64)) v57 xs58] w ∧ iter f90 n (xs58, x60) = some res88) _ ⟨[], (0 : Int), (.slice none 0 0), S.sub ⟨rfl, rfl, rfl, rfl, trivial⟩, H, hit89⟩ ?_
  rintro n a w ⟨xs58, x60, v57, S, H, hit89⟩
  obtain ⟨m94, o95, rfl, hm, hc96⟩ := iter_step hit89
  rw [hf91] at hm
  refine wp_seq (region_plain ?_)
  refine lq (.bool (decide (x60 < (a0.length : Int)))) S (q_lss rfl rfl) fun a S => ?_
  refine lx_nil (thenN ?_)
  refine wp_seq ?_
  refine cond_b S rfl (fun hc97 => ?_) (fun hc97 => ?_)
  ·have hm := ite_t hc97 hm
   refine wp_skip (thenN ?_)
   obtain ⟨K101, hK102, hm⟩ := join_elim hm
   refine seq_cut (fun a w => ∃ (xs99 : List Int) (v98 : Value), Slots a 20 [(3, v98), (6, p0), (7, (.int .i64 (a0.length : Int))), (8, (.int .i64 x60))] ∧ Heap w0 [oA (rList (rInt .i64)) v98 xs99] w ∧ K101 xs99 = some o95) ?_ ?_
   ·rintro a w ⟨xs99, v98, S, H, hm⟩
    subst hK102
    refine region_plain ?_
    refine lq (.int .i64 (W (x60 + (1 : Int)))) S (q_add rfl rfl) fun a S => ?_
    refine lq (.int .i64 (W (x60 + (1 : Int)))) S (q_move rfl) fun a S => ?_
    refine lx_nil ?_
    exact ⟨m94, Nat.lt_succ_self _, xs99, (W (x60 + (1 : Int))), v98, S.sub ⟨rfl, rfl, rfl, rfl, trivial⟩, H, it_cont hm hc96⟩
   ·skip
    refine wp_block ?_
    refine wp_seq (region_plain ?_)
    refine lq (.int .i64 x60) S (q_move rfl) fun a S => ?_
    obtain ⟨x103, e104, hm⟩ := bind_some hm
    obtain ⟨c105, h106, hat107⟩ := (h0).elem (idx_some e104).2
    obtain rfl := h106
    have hlt := lt_of_idx (idx_some e104).2
    refine lq (ePtr p0 (x60.toNat * 1)) S (q_indexAddr rfl (h0).isSl rfl (idx_some e104).1 hlt Tryz.underlying59 Tryz.sizeOf4) fun a S => ?_
    refine lx_e (.bool x103) S trivial (by decide) rfl trivial (q_load1 rfl Tryz.isAgg4 (by rintro _ rfl; exact ((hat107 0 _ rfl).ext H.ext))) (fun a S => ?_)
    refine lq (.int .i64 x60) S (q_assign rfl) fun a S => ?_
    refine lq (.bool x103) S (q_assign rfl) fun a S => ?_
    refine lx_nil (thenN ?_)
    refine wp_seq (region_plain ?_)
    refine lq (.bool x103) S (q_move rfl) fun a S => ?_
    refine lx_nil (thenN ?_)
    refine cond_b S rfl (fun hc108 => ?_) (fun hc108 => ?_)
    ·have hm := ite_t hc108 hm
     refine region_plain ?_
     refine lq v57 S (q_move rfl) fun a S => ?_
     refine lq (.int .i64 x60) S (q_move rfl) fun a S => ?_
     refine lx_buildSlice (r := (rInt .i64)) (xs := [x60]) (ps := [(0, [(.int .i64 x60)])]) (cs := [(.int .i64 x60)]) (parts := [(0, .tmp 15)]) S trivial (by decide) rfl (H.put0 (A := eA) rfl) rfl Tryz.underlying42 Tryz.sizeOf2 Tryz.zeroValue2 (by decide) ⟨rfl, rfl, Nat.le_of_ble_eq_true rfl, trivial⟩ (by intro zs hz; exact fill_dense hz ⟨rfl, trivial⟩ rfl rfl) rfl (by decide) (fun w F hA => by cases (show F = [] from hA); exact ⟨_, _, [(.int .i64 x60)], _, rfl, rfl, ⟨rfl, rfl⟩, ⟨rfl, rfl⟩⟩) (fun v109 w110 H => ⟨trivial, fun a S => ?_⟩)
     obtain ⟨x112, e113, hm⟩ := bind_some hm
     obtain ⟨hle, hap⟩ := app_some e113
     replace hap := hap.symm
     subst hap
     have H : Heap w0 [oA (rList (rInt .i64)) v109 [x60], oA (rList (rInt .i64)) v57 xs58] w110 := H.front 0 rfl
     have H : Heap w0 [oA (rList (rInt .i64)) v57 xs58, oA (rList (rInt .i64)) v109 [x60]] w110 := H.front 1 rfl
     refine lx_appendOwn (r := (rInt .i64)) S trivial (by decide) rfl H rfl rfl Tryz.underlying42 Tryz.ti2 rfl rfl rfl (Nat.le_of_ble_eq_true rfl) (by decide) hle (fun v114 w115 H => ⟨trivial, fun a S => ?_⟩)
     refine lq v114 S (q_assign rfl) fun a S => ?_
     refine lx_nil ?_
     refine inBlock_norm ?_
     exact ⟨(xs58 ++ [x60]), v114, S.sub ⟨rfl, rfl, rfl, rfl, trivial⟩, H, hm⟩
    ·have hm := ite_f hc108 hm
     refine wp_skip ?_
     refine inBlock_norm ?_
     exact ⟨xs58, v57, S.sub ⟨rfl, rfl, rfl, rfl, trivial⟩, H, hm⟩
  ·have hm := ite_f hc97 hm
   refine wp_exit ?_
   refine then_exit ?_
   refine then_exit ?_
   refine inBlock_exit ?_
   obtain rfl := it_brk hm hc96
   exact ⟨xs58, v57, S.sub ⟨rfl, trivial⟩, H, rfl⟩

/-- impl.StatesWhere -/
def impl_StatesWhere_m (fuel : Nat) (a0 : (List Timpl_Node)) (a1 : Timpl_Lts) : Option (((List Int) × Int)) :=
  (impl_ValidModal_m fuel a0).bind fun x54 => (if (!x54) = true then some true else (impl_ValidLts_m fuel (a1.1, a1.2.1, a1.2.2.1, a1.2.2.2)).bind fun x62 => some (!x62)).bind fun t57 => (if t57 = true then some (([], (1 : Int))) else (impl_formulaOf_m fuel a0).bind fun x71 => (Pimpl_formula_where_m fuel x71 (a1.1, a1.2.1, a1.2.2.1, a1.2.2.2)).bind fun x78 => (impl_trueAt_m fuel x78).bind fun x85 => some ((x85, (0 : Int))))
set_option maxRecDepth 20000 in
theorem impl_StatesWhere_ok {w0 : World} {fuel : Nat} {p0 p1 : Value} {a0 : (List Timpl_Node)} {a1 : Timpl_Lts} {r : ((List Int) × Int)} (hG : GlobE Tryz.prog w0) (h0 : Rd (rList Rimpl_Node) w0 p0 a0) (h1 : Rd Rimpl_Lts w0 p1 a1) (hm : impl_StatesWhere_m fuel a0 a1 = some r) :
  Calls Tryz.prog 17 #[p0, p1] w0 fun e w => ∃ (v0 : Value), e = .returned (.tuple #[v0, .int .i64 r.2]) ∧ Heap w0 [oA (rList (rInt .i64)) v0 r.1] w := by
 unfold impl_StatesWhere_m at hm
 have H := Heap.start w0
 obtain ⟨c31, rfl, h32⟩ := h1
 obtain ⟨c37, c38, rfl, h39, h40⟩ := h32
 obtain rfl := h39
 obtain ⟨c41, c42, rfl, h43, h44⟩ := h40
 obtain rfl := h43
 obtain ⟨c45, c46, rfl, h47, h48⟩ := h44
 obtain ⟨v33, rfl, h34⟩ := rd_list h47
 obtain ⟨v35, rfl, h36⟩ := rd_list h48
 refine enter (args := [p0, (.agg #[(.int .i64 a1.1), (.int .i64 a1.2.1), v33, v35])]) Tryz.func17 rfl 19 rfl (Nat.le_of_ble_eq_true rfl) (fun a S => ?_)
 refine wp_seq (region_plain ?_)
 refine lx_box S trivial (by decide) rfl H rfl rfl (fun b49 w50 H => ⟨trivial, fun a S => ?_⟩)
 refine lq (.slice none 0 0) S (q_assign rfl) fun a S => ?_
 refine lq (.int .i64 (0 : Int)) S (q_assign rfl) fun a S => ?_
 refine lx_nil (thenN ?_)
 refine wp_seq (wp_seq (region_plain ?_))
 refine lq p0 S (q_move rfl) fun a S => ?_
 obtain ⟨x54, e55, hm⟩ := bind_some hm
 refine lx_call (xs := [.tmp 6]) S trivial (by decide) rfl rfl Tryz.call41 ((impl_ValidModal_ok (hG.ext H.ext) (H.arg h0) e55).mono ?_)
 rintro e w52 ⟨rfl, Hc53⟩
 have H := H.call0 Hc53
 refine ⟨_, rfl, trivial, fun a S => ?_⟩
 refine lq (.bool (!x54)) S (q_not rfl) fun a S => ?_
 refine lq (.bool (!x54)) S (q_move rfl) fun a S => ?_
 obtain ⟨t57, e58, hm⟩ := bind_some hm
 refine lx_cut 4 (fun a w => Slots a 19 [(0, p0), (3, (bp b49)), (13, (.bool t57))] ∧ Heap w0 [bA b49 [(.int .i64 a1.1), (.int .i64 a1.2.1), v33, v35] 35] w) ?_ ?_
 ·by_cases hc59 : (!x54) = true
  ·have hm := ite_t hc59 e58
   refine lx_skip S rfl rfl (isB_ne hc59) (by decide) (fun a S => ?_)
   refine lx_skip S rfl rfl (isB_ne hc59) (by decide) (fun a S => ?_)
   refine lx_skip S rfl rfl (isB_ne hc59) (by decide) (fun a S => ?_)
   refine lq (.bool true) S (q_pickT' rfl hc59 rfl) fun a S => ?_
   refine lx_nil ?_
   obtain rfl := Option.some.inj hm
   exact ⟨S.sub ⟨rfl, rfl, rfl, trivial⟩, H⟩
  ·have hm := ite_f (eq_false_of_ne_true hc59) e58
   have hc59 : (!x54) = false := eq_false_of_ne_true hc59
   refine lx_e (.agg #[(.int .i64 a1.1), (.int .i64 a1.2.1), v33, v35]) S (want_b rfl rfl hc59) (by decide) rfl trivial (q_loadA (cs := [(.int .i64 a1.1), (.int .i64 a1.2.1), v33, v35]) rfl (isP_bp _) Tryz.isAgg35 Tryz.sizeOf35 (by rintro _ rfl; exact (fun j u hu => boxAt (i := 0) H rfl hu))) (fun a S => ?_)
   obtain ⟨x62, e63, hm⟩ := bind_some hm
   refine lx_call (xs := [.tmp 10]) S (want_b rfl rfl hc59) (by decide) rfl rfl Tryz.call42 ((impl_ValidLts_ok (hG.ext H.ext) ⟨[(.int .i64 a1.1), (.int .i64 a1.2.1), v33, v35], rfl, ⟨[(.int .i64 a1.1)], [(.int .i64 a1.2.1), v33, v35], rfl, rfl, ⟨[(.int .i64 a1.2.1)], [v33, v35], rfl, rfl, ⟨[v33], [v35], rfl, ((H.arg h34)).list_rd, ((H.arg h36)).list_rd⟩⟩⟩⟩ e63).mono ?_)
   rintro e w60 ⟨rfl, Hc61⟩
   have H := H.call0 Hc61
   refine ⟨_, rfl, trivial, fun a S => ?_⟩
   refine lx_q (.bool (!x62)) S (want_b rfl rfl hc59) (by decide) (q_not rfl) (fun a S => ?_)
   refine lq (.bool (!x62)) S (q_pickF' rfl hc59 rfl) fun a S => ?_
   refine lx_nil ?_
   obtain rfl := Option.some.inj hm
   exact ⟨S.sub ⟨rfl, rfl, rfl, trivial⟩, H⟩
 ·rintro a w ⟨S, H⟩
  refine lx_nil (thenN ?_)
  refine cond_b S rfl (fun hc65 => ?_) (fun hc65 => ?_)
  ·have hm := ite_t hc65 hm
   refine wp_seq (region_plain ?_)
   refine lq (.slice none 0 0) S (q_assign rfl) fun a S => ?_
   refine lq (.int .i64 (1 : Int)) S (q_assign rfl) fun a S => ?_
   refine lx_nil (thenN ?_)
   refine wp_ret (then_ret ?_)
   obtain rfl := Option.some.inj hm
   have H : Heap w0 [oA (rList (rInt .i64)) (.slice none 0 0) ([] : List Int), bA b49 [(.int .i64 a1.1), (.int .i64 a1.2.1), v33, v35] 35] w := H.nilList (rInt .i64)
   have H : Heap w0 [oA (rList (rInt .i64)) (.slice none 0 0) ([] : List Int)] w := H.sel [0] (by decide)
   exact leave2 S rfl rfl rfl ⟨(.slice none 0 0), rfl, H⟩
  ·have hm := ite_f hc65 hm
   refine wp_skip (thenN ?_)
   refine wp_seq ?_
   refine region_drawG (fun w1 => Heap w0 [bA b49 [(.int .i64 a1.1), (.int .i64 a1.2.1), v33, v35] 35] w1) (fun i => [1, 3, 4].contains i) mixed (by kernel_rfl) (fun w68 he67 => ?_)
   have H := H.later he67
   refine ⟨H.sel [0] (by decide), ?_⟩
   refine lq p0 S (q_move rfl) fun a S => ?_
   obtain ⟨x71, e72, hm⟩ := bind_some hm
   refine lx_call (xs := [.tmp 14]) S trivial (by decide) rfl rfl Tryz.call34 ((impl_formulaOf_ok (H.arg h0) e72).mono ?_)
   rintro e w69 ⟨v73, rfl, Hc70⟩
   have H := H.call1 Hc70
   refine ⟨_, rfl, H.sel [1] (by decide), fun a S => ?_⟩
   refine lq (.agg #[(.int .i64 a1.1), (.int .i64 a1.2.1), v33, v35]) S (q_loadA (cs := [(.int .i64 a1.1), (.int .i64 a1.2.1), v33, v35]) rfl (isP_bp _) Tryz.isAgg35 Tryz.sizeOf35 (fun w1 hC => (fun j u hu => boxAt (i := 0) hC rfl hu))) fun a S => ?_
   obtain ⟨x78, e79, hm⟩ := bind_some hm
   refine lx_call (xs := [.tmp 15, .tmp 16]) S trivial (by decide) rfl rfl Tryz.call35 ((Pimpl_formula_where_ok (hG.ext H.ext) (H.rdAt 0 rfl) ⟨[(.int .i64 a1.1), (.int .i64 a1.2.1), v33, v35], rfl, ⟨[(.int .i64 a1.1)], [(.int .i64 a1.2.1), v33, v35], rfl, rfl, ⟨[(.int .i64 a1.2.1)], [v33, v35], rfl, rfl, ⟨[v33], [v35], rfl, ((H.arg h34)).list_rd, ((H.arg h36)).list_rd⟩⟩⟩⟩ e79).mono ?_)
   rintro e w76 ⟨v80, rfl, Hc77⟩
   have H := H.call1 Hc77
   refine ⟨_, rfl, H.sel [2] (by decide), fun a S => ?_⟩
   obtain ⟨x85, e86, hm⟩ := bind_some hm
   refine lx_call (xs := [.tmp 17]) S trivial (by decide) rfl rfl Tryz.call43 ((impl_trueAt_ok (H.rdAt 0 rfl) e86).mono ?_)
   rintro e w83 ⟨v87, rfl, Hc84⟩
   have H := H.call1 Hc84
   refine ⟨_, rfl, H.sel [3] (by decide), fun a S => ?_⟩
   refine lq v87 S (q_assign rfl) fun a S => ?_
   refine lq (.int .i64 (0 : Int)) S (q_assign rfl) fun a S => ?_
   refine lx_nil (thenN ?_)
   refine wp_ret ?_
   obtain rfl := Option.some.inj hm
   have H : Heap w0 [oA (rList (rInt .i64)) v87 x85] w83 := H.sel [0] (by decide)
   exact leave2 S rfl rfl rfl ⟨v87, rfl, H⟩

/-- laws.eqInt64S -/
def laws_eqInt64S_m (fuel : Nat) (a0 : (List Int)) (a1 : (List Int)) : Option (Bool) :=
  (if ((a0.length : Int) != (a1.length : Int)) = true then some (false) else (iter (fun (s : (Int)) => (match s with | (x47) => (if (decide (x47 < (a0.length : Int))) = true then (idx a0 x47).bind fun x74 => (idx a1 x47).bind fun x79 => (if (x74 != x79) = true then some (.inr (.inr false)) else some (.inl ((W (x47 + (1 : Int)))))) else some (.inr (.inl ()))) : Option (((Int)) ⊕ ((Unit) ⊕ (Bool))))) fuel ((0 : Int))).bind fun res63 => ctl (β := Unit) (ρ := Bool) (τ := Bool) res63 (fun _ => some (true)) (fun q => some (q)))
set_option maxRecDepth 20000 in
theorem laws_eqInt64S_ok [dr : Dr] {w0 : World} {fuel : Nat} {p0 p1 : Value} {a0 : (List Int)} {a1 : (List Int)} {r : Bool} (h0 : Rd (rList (rInt .i64)) w0 p0 a0) (h1 : Rd (rList (rInt .i64)) w0 p1 a1) (hm : laws_eqInt64S_m fuel a0 a1 = some r) :
  Calls Tryz.prog 18 #[p0, p1] w0 fun e w => e = .returned (.bool r) ∧ Heap w0 [] w := by
 unfold laws_eqInt64S_m at hm
 have H := Heap.start w0
 refine enter (args := [p0, p1]) Tryz.func18 rfl 26 rfl (Nat.le_of_ble_eq_true rfl) (fun a S => ?_)
 refine wp_seq (region_plain ?_)
 refine lq (.bool false) S (q_assign rfl) fun a S => ?_
 refine lx_nil (thenN ?_)
 refine wp_seq (wp_seq (region_plain ?_))
 refine lq p0 S (q_move rfl) fun a S => ?_
 refine lq (.int .i64 (a0.length : Int)) S (q_lenSl rfl (h0).isSl rfl Tryz.underlying42) fun a S => ?_
 refine lq p1 S (q_move rfl) fun a S => ?_
 refine lq (.int .i64 (a1.length : Int)) S (q_lenSl rfl (h1).isSl rfl Tryz.underlying42) fun a S => ?_
 refine lq (.bool ((a0.length : Int) != (a1.length : Int))) S (q_neq rfl rfl) fun a S => ?_
 refine lx_nil (thenN ?_)
 refine cond_b S rfl (fun hc31 => ?_) (fun hc31 => ?_)
 ·have hm := ite_t hc31 hm
  refine wp_seq (region_plain ?_)
  refine lq (.bool false) S (q_assign rfl) fun a S => ?_
  refine lx_nil (thenN ?_)
  refine wp_ret (then_ret ?_)
  obtain rfl := Option.some.inj hm
  exact leave1 S rfl rfl ⟨rfl, H⟩
 ·have hm := ite_f hc31 hm
  refine wp_skip (thenN ?_)
  refine wp_seq (wp_seq (region_plain ?_))
  refine lq (.int .i64 (0 : Int)) S (q_assign rfl) fun a S => ?_
  refine lx_nil (thenN ?_)
  obtain ⟨res63, hit64, hk67⟩ := bind_some hm
  obtain ⟨f65, hf66, hit64⟩ := iter_name hit64
  refine block_loop (fun a w => Slots a 26 [] ∧ Heap w0 [] w ∧ res63 = .inl ()) ?_ ?_
  ·rintro a w ⟨S, H, rfl⟩
   have hm := ctl_inl hk67
   refine thenN ?_
   refine wp_seq (region_plain ?_)
   refine lq (.bool true) S (q_assign rfl) fun a S => ?_
   refine lx_nil (thenN ?_)
   refine wp_ret ?_
   obtain rfl := Option.some.inj hm
   exact leave1 S rfl rfl ⟨rfl, H⟩
  ·skip
   refine loop_ghost (fun n a w => ∃ (x47 : Int), Slots a 26 [(0, p0), (1, p1), (5, (.int .i64 x47))] ∧ Heap w0 [] w ∧ iter f65 n (x47) = some res63) _ ⟨(0 : Int), S.sub ⟨rfl, rfl, rfl, trivial⟩, H, hit64⟩ ?_
   rintro n a w ⟨x47, S, H, hit64⟩
   obtain ⟨m68, o69, rfl, hm, hc70⟩ := iter_step hit64
   rw [hf66] at hm
   refine wp_seq (wp_seq (region_plain ?_))
   refine lq (.int .i64 x47) S (q_move rfl) fun a S => ?_
   refine lq p0 S (q_move rfl) fun a S => ?_
   refine lq (.int .i64 (a0.length : Int)) S (q_lenSl rfl (h0).isSl rfl Tryz.underlying42) fun a S => ?_
   refine lq (.bool (decide (x47 < (a0.length : Int)))) S (q_lss rfl rfl) fun a S => ?_
   refine lx_nil (thenN ?_)
   refine cond_b S rfl (fun hc71 => ?_) (fun hc71 => ?_)
   ·have hm := ite_t hc71 hm
    refine wp_skip (thenN ?_)
    refine wp_seq ?_
    refine wp_block ?_
    refine wp_seq ?_
    refine region_drawG (fun w1 => Heap w0 [] w1) (fun i => [].contains i) mixed (by kernel_rfl) (fun w73 he72 => ?_)
    have H := H.later he72
    refine ⟨H.sel [] (by decide), ?_⟩
    refine lq p0 S (q_move rfl) fun a S => ?_
    refine lq (.int .i64 x47) S (q_move rfl) fun a S => ?_
    obtain ⟨x74, e75, hm⟩ := bind_some hm
    obtain ⟨c76, h77, hat78⟩ := (h0).elem (idx_some e75).2
    obtain rfl := h77
    have hlt := lt_of_idx (idx_some e75).2
    refine lq (ePtr p0 (x47.toNat * 1)) S (q_indexAddr rfl (h0).isSl rfl (idx_some e75).1 hlt Tryz.underlying42 Tryz.sizeOf2) fun a S => ?_
    refine lq (.int .i64 x74) S (q_load1 rfl Tryz.isAgg2 (fun w1 hC => ((hat78 0 _ rfl).ext hC.ext))) fun a S => ?_
    refine lq p1 S (q_move rfl) fun a S => ?_
    refine lq (.int .i64 x47) S (q_move rfl) fun a S => ?_
    obtain ⟨x79, e80, hm⟩ := bind_some hm
    obtain ⟨c81, h82, hat83⟩ := (h1).elem (idx_some e80).2
    obtain rfl := h82
    have hlt := lt_of_idx (idx_some e80).2
    refine lq (ePtr p1 (x47.toNat * 1)) S (q_indexAddr rfl (h1).isSl rfl (idx_some e80).1 hlt Tryz.underlying42 Tryz.sizeOf2) fun a S => ?_
    refine lq (.int .i64 x79) S (q_load1 rfl Tryz.isAgg2 (fun w1 hC => ((hat83 0 _ rfl).ext hC.ext))) fun a S => ?_
    refine lq (.bool (x74 != x79)) S (q_neq rfl rfl) fun a S => ?_
    refine lx_nil (thenN ?_)
    refine cond_b S rfl (fun hc84 => ?_) (fun hc84 => ?_)
    ·have hm := ite_t hc84 hm
     refine wp_seq (region_plain ?_)
     refine lq (.bool false) S (q_assign rfl) fun a S => ?_
     refine lx_nil (thenN ?_)
     refine wp_ret (inBlock_ret ?_)
     refine then_ret ?_
     refine then_ret ?_
     refine inBlock_ret ?_
     refine then_ret ?_
     refine then_ret ?_
     obtain rfl := it_brk hm hc70
     have hm := ctl_inr hk67
     obtain rfl := Option.some.inj hm
     exact leave1 S rfl rfl ⟨rfl, H⟩
    ·have hm := ite_f hc84 hm
     refine wp_skip ?_
     refine inBlock_norm ?_
     refine thenN ?_
     refine region_plain ?_
     refine lq (.int .i64 x47) S (q_move rfl) fun a S => ?_
     refine lq (.int .i64 (W (x47 + (1 : Int)))) S (q_add rfl rfl) fun a S => ?_
     refine lq (.int .i64 (W (x47 + (1 : Int)))) S (q_assign rfl) fun a S => ?_
     refine lx_nil ?_
     exact ⟨m68, Nat.lt_succ_self _, (W (x47 + (1 : Int))), S.sub ⟨rfl, rfl, rfl, trivial⟩, H, it_cont hm hc70⟩
   ·have hm := ite_f hc71 hm
    refine wp_exit ?_
    refine then_exit ?_
    refine then_exit ?_
    refine inBlock_exit ?_
    obtain rfl := it_brk hm hc70
    exact ⟨S.sub trivial, H, rfl⟩

/-- laws.markText -/
def laws_markText_m (fuel : Nat) (a0 : Int) : Option (Str) :=
  (if (decide (a0 ≤ (0 : Int))) = true then some (([109, 48] : Str)) else (iter (fun (s : (Int) × (Str)) => (match s with | (x40, x41) => (if (decide ((0 : Int) < x40)) = true then (cat (bstr [(IntKind.u8.wrap (W ((48 : Int) + (x40.tmod (10 : Int)))))]) x41).bind fun x65 => some (.inl ((W (x40.tdiv (10 : Int))), x65)) else some (.inr (.inl (x41)))) : Option (((Int) × (Str)) ⊕ ((Str) ⊕ (Str))))) fuel (a0, ([] : Str))).bind fun res51 => ctl (β := Str) (ρ := Str) (τ := Str) res51 (fun (x50) => (cat ([109] : Str) x50).bind fun x56 => some (x56)) (fun q => some (q)))
set_option maxRecDepth 20000 in
theorem laws_markText_ok [dr : Dr] {w0 : World} {fuel : Nat} {a0 : Int} {r : Str} (hm : laws_markText_m fuel a0 = some r) :
  Calls Tryz.prog 44 #[.int .i64 a0] w0 fun e w => e = .returned (sv r) ∧ Heap w0 [] w := by
 unfold laws_markText_m at hm
 have H := Heap.start w0
 refine enter (args := [.int .i64 a0]) Tryz.func44 rfl 20 rfl (Nat.le_of_ble_eq_true rfl) (fun a S => ?_)
 refine wp_seq (region_plain ?_)
 refine lq (sv ([] : Str)) S (q_assign rfl) fun a S => ?_
 refine lx_nil (thenN ?_)
 refine wp_seq (wp_seq (region_plain ?_))
 refine lq (.int .i64 a0) S (q_move rfl) fun a S => ?_
 refine lq (.bool (decide (a0 ≤ (0 : Int)))) S (q_leq rfl rfl) fun a S => ?_
 refine lx_nil (thenN ?_)
 refine cond_b S rfl (fun hc31 => ?_) (fun hc31 => ?_)
 ·have hm := ite_t hc31 hm
  refine wp_seq (region_plain ?_)
  refine lq (sv ([109, 48] : Str)) S (q_assign rfl) fun a S => ?_
  refine lx_nil (thenN ?_)
  refine wp_ret (then_ret ?_)
  obtain rfl := Option.some.inj hm
  exact leave1 S rfl rfl ⟨rfl, H⟩
 ·have hm := ite_f hc31 hm
  refine wp_skip (thenN ?_)
  refine wp_seq (region_plain ?_)
  refine lq (sv ([] : Str)) S (q_assign rfl) fun a S => ?_
  refine lx_nil (thenN ?_)
  refine wp_seq ?_
  obtain ⟨res51, hit52, hk55⟩ := bind_some hm
  obtain ⟨f53, hf54, hit52⟩ := iter_name hit52
  refine block_loop (fun a w => ∃ (x50 : Str), Slots a 20 [(3, (sv x50))] ∧ Heap w0 [] w ∧ res51 = .inl (x50)) ?_ ?_
  ·rintro a w ⟨x50, S, H, rfl⟩
   have hm := ctl_inl hk55
   refine thenN ?_
   refine wp_seq (region_plain ?_)
   refine lq (sv x50) S (q_move rfl) fun a S => ?_
   obtain ⟨x56, e57, hm⟩ := bind_some hm
   obtain ⟨hle, hcat⟩ := cat_some e57
   subst hcat
   refine lq (sv (([109] : Str) ++ x50)) S (q_cat rfl rfl hle) fun a S => ?_
   refine lq (sv (([109] : Str) ++ x50)) S (q_assign rfl) fun a S => ?_
   refine lx_nil (thenN ?_)
   refine wp_ret ?_
   obtain rfl := Option.some.inj hm
   exact leave1 S rfl rfl ⟨rfl, H⟩
  ·skip
   refine loop_ghost (fun n a w => ∃ (x40 : Int) (x41 : Str), Slots a 20 [(0, (.int .i64 x40)), (3, (sv x41))] ∧ Heap w0 [] w ∧ iter f53 n (x40, x41) = some res51) _ ⟨a0, ([] : Str), S.sub ⟨rfl, rfl, trivial⟩, H, hit52⟩ ?_
   rintro n a w ⟨x40, x41, S, H, hit52⟩
   obtain ⟨m58, o59, rfl, hm, hc60⟩ := iter_step hit52
   rw [hf54] at hm
   refine wp_seq (wp_seq (region_plain ?_))
   refine lq (.int .i64 x40) S (q_move rfl) fun a S => ?_
   refine lq (.bool (decide ((0 : Int) < x40))) S (q_gtr rfl rfl) fun a S => ?_
   refine lx_nil (thenN ?_)
   refine cond_b S rfl (fun hc61 => ?_) (fun hc61 => ?_)
   ·have hm := ite_t hc61 hm
    refine wp_skip (thenN ?_)
    refine wp_block ?_
    refine wp_seq (region_plain ?_)
    refine lq (.int .i64 x40) S (q_move rfl) fun a S => ?_
    refine lq (.int .i64 (x40.tmod (10 : Int))) S (q_rem rfl rfl (show (10 : Int) ≠ 0 from by decide)) fun a S => ?_
    refine lq (.int .i64 (W ((48 : Int) + (x40.tmod (10 : Int))))) S (q_add rfl rfl) fun a S => ?_
    refine lq (.int .u8 (IntKind.u8.wrap (W ((48 : Int) + (x40.tmod (10 : Int)))))) S (q_convInt rfl Tryz.underlying3 Tryz.underlying5) fun a S => ?_
    refine lx_buildSlice (r := (rInt .u8)) (xs := [(IntKind.u8.wrap (W ((48 : Int) + (x40.tmod (10 : Int)))))]) (ps := [(0, [(.int .u8 (IntKind.u8.wrap (W ((48 : Int) + (x40.tmod (10 : Int))))))])]) (cs := [(.int .u8 (IntKind.u8.wrap (W ((48 : Int) + (x40.tmod (10 : Int))))))]) (parts := [(0, .tmp 11)]) S trivial (by decide) rfl (H.put0 (A := eA) rfl) rfl Tryz.underlying104 Tryz.sizeOf5 Tryz.zeroValue5 (by decide) ⟨rfl, rfl, Nat.le_of_ble_eq_true rfl, trivial⟩ (by intro zs hz; exact fill_dense hz ⟨rfl, trivial⟩ rfl rfl) rfl (by decide) (fun w F hA => by cases (show F = [] from hA); exact ⟨_, _, [(.int .u8 (IntKind.u8.wrap (W ((48 : Int) + (x40.tmod (10 : Int))))))], _, rfl, rfl, ⟨rfl, rfl⟩, ⟨rfl, rfl⟩⟩) (fun v62 w63 H => ⟨trivial, fun a S => ?_⟩)
    refine lx_e (sv (bstr [(IntKind.u8.wrap (W ((48 : Int) + (x40.tmod (10 : Int)))))])) S trivial (by decide) rfl trivial (q_bstr rfl Tryz.underlying104 Tryz.underlying9 Tryz.underlying5 (by rintro _ rfl; exact (H.rdAt 0 rfl))) (fun a S => ?_)
    refine lq (sv x41) S (q_move rfl) fun a S => ?_
    obtain ⟨x65, e66, hm⟩ := bind_some hm
    obtain ⟨hle, hcat⟩ := cat_some e66
    subst hcat
    refine lq (sv ((bstr [(IntKind.u8.wrap (W ((48 : Int) + (x40.tmod (10 : Int)))))]) ++ x41)) S (q_cat rfl rfl hle) fun a S => ?_
    refine lq (sv ((bstr [(IntKind.u8.wrap (W ((48 : Int) + (x40.tmod (10 : Int)))))]) ++ x41)) S (q_assign rfl) fun a S => ?_
    refine lx_nil (thenN ?_)
    refine region_plain ?_
    refine lq (.int .i64 x40) S (q_move rfl) fun a S => ?_
    refine lq (.int .i64 (W (x40.tdiv (10 : Int)))) S (q_quo rfl rfl (show (10 : Int) ≠ 0 from by decide)) fun a S => ?_
    refine lq (.int .i64 (W (x40.tdiv (10 : Int)))) S (q_assign rfl) fun a S => ?_
    refine lx_nil ?_
    refine inBlock_norm ?_
    have H : Heap w0 [] w63 := H.sel [] (by decide)
    exact ⟨m58, Nat.lt_succ_self _, (W (x40.tdiv (10 : Int))), ((bstr [(IntKind.u8.wrap (W ((48 : Int) + (x40.tmod (10 : Int)))))]) ++ x41), S.sub ⟨rfl, rfl, trivial⟩, H, it_cont hm hc60⟩
   ·have hm := ite_f hc61 hm
    refine wp_exit ?_
    refine then_exit ?_
    refine then_exit ?_
    refine inBlock_exit ?_
    obtain rfl := it_brk hm hc60
    exact ⟨x41, S.sub ⟨rfl, trivial⟩, H, rfl⟩

/-- laws.markNodeS -/
def laws_markNodeS_m (fuel : Nat) (a0 : (List Timpl_Node)) (a1 : Int) : Option (Int × (List Timpl_Node)) :=
  (iter (fun (s : (List Timpl_Node) × (Int) × (Int)) => (match s with | (xs52, x53, x54) => (if (decide (x54 < (xs52.length : Int))) = true then (idx xs52 x54).bind fun x87 => (idx (xs52.set x54.toNat (x53, x87.2.1, x87.2.2.1, x87.2.2.2)) x54).bind fun x90 => (laws_markText_m fuel (W ((W (x53 + (1 : Int))) + (1 : Int)))).bind fun x95 => (idx ((xs52.set x54.toNat (x53, x87.2.1, x87.2.2.1, x87.2.2.2)).set x54.toNat (x90.1, (W (x53 + (1 : Int))), x90.2.2.1, x90.2.2.2)) x54).bind fun x98 => (idx (((xs52.set x54.toNat (x53, x87.2.1, x87.2.2.1, x87.2.2.2)).set x54.toNat (x90.1, (W (x53 + (1 : Int))), x90.2.2.1, x90.2.2.2)).set x54.toNat (x98.1, x98.2.1, x95, x98.2.2.2)) x54).bind fun x101 => some (.inl (((((xs52.set x54.toNat (x53, x87.2.1, x87.2.2.1, x87.2.2.2)).set x54.toNat (x90.1, (W (x53 + (1 : Int))), x90.2.2.1, x90.2.2.2)).set x54.toNat (x98.1, x98.2.1, x95, x98.2.2.2)).set x54.toNat (x101.1, x101.2.1, x101.2.2.1, (((W ((W ((W (x53 + (1 : Int))) + (1 : Int))) + (1 : Int))).tmod (3 : Int)) == (0 : Int)))), (W ((W ((W ((W (x53 + (1 : Int))) + (1 : Int))) + (1 : Int))) + (1 : Int))), (W (x54 + (1 : Int))))) else some (.inr (.inl (x53, xs52)))) : Option (((List Timpl_Node) × (Int) × (Int)) ⊕ ((Int × (List Timpl_Node)) ⊕ (Int × (List Timpl_Node)))))) fuel (a0, a1, (0 : Int))).bind fun res78 => ctl (β := Int × (List Timpl_Node)) (ρ := Int × (List Timpl_Node)) (τ := Int × (List Timpl_Node)) res78 (fun (x76, xs77) => some ((x76, xs77))) (fun q => some (q))
set_option maxRecDepth 20000 in
theorem laws_markNodeS_ok [dr : Dr] {w0 : World} {fuel : Nat} {p0 : Value} {a0 : (List Timpl_Node)} {a1 : Int} {w00 : World} {L : List Asrt} {r : Int × (List Timpl_Node)} (H : Heap w00 (oA (rList Rimpl_Node) p0 a0 :: L) w0) (hm : laws_markNodeS_m fuel a0 a1 = some r) :
  Calls Tryz.prog 19 #[p0, .int .i64 a1] w0 fun e w => e = .returned (.int .i64 r.1) ∧ Heap w00 (oA (rList Rimpl_Node) p0 r.2 :: L) w := by
 unfold laws_markNodeS_m at hm
 refine enter (args := [p0, .int .i64 a1]) Tryz.func19 rfl 44 rfl (Nat.le_of_ble_eq_true rfl) (fun a S => ?_)
 refine wp_seq (region_plain ?_)
 refine lq (.int .i64 (0 : Int)) S (q_assign rfl) fun a S => ?_
 refine lx_nil (thenN ?_)
 refine wp_seq (wp_seq (region_plain ?_))
 refine lq (.int .i64 (0 : Int)) S (q_assign rfl) fun a S => ?_
 refine lx_nil (thenN ?_)
 obtain ⟨res78, hit79, hk82⟩ := bind_some hm
 obtain ⟨f80, hf81, hit79⟩ := iter_name hit79
 refine block_loop (fun a w => ∃ (x76 : Int) (xs77 : List Timpl_Node), Slots a 44 [(1, (.int .i64 x76))] ∧ Heap w00 (oA (rList Rimpl_Node) p0 xs77 :: L) w ∧ res78 = .inl (x76, xs77)) ?_ ?_
 ·rintro a w ⟨x76, xs77, S, H, rfl⟩
  have hm := ctl_inl hk82
  refine thenN ?_
  refine wp_seq (region_plain ?_)
  refine lq (.int .i64 x76) S (q_move rfl) fun a S => ?_
  refine lq (.int .i64 x76) S (q_assign rfl) fun a S => ?_
  refine lx_nil (thenN ?_)
  refine wp_ret ?_
  obtain rfl := Option.some.inj hm
  exact leave1 S rfl rfl ⟨rfl, H⟩
 ·skip
  refine loop_ghost (fun n a w => ∃ (xs52 : List Timpl_Node) (x53 : Int) (x54 : Int), Slots a 44 [(0, p0), (1, (.int .i64 x53)), (5, (.int .i64 x54))] ∧ Heap w00 (oA (rList Rimpl_Node) p0 xs52 :: L) w ∧ iter f80 n (xs52, x53, x54) = some res78) _ ⟨a0, a1, (0 : Int), S.sub ⟨rfl, rfl, rfl, trivial⟩, H, hit79⟩ ?_
  rintro n a w ⟨xs52, x53, x54, S, H, hit79⟩
  obtain ⟨m83, o84, rfl, hm, hc85⟩ := iter_step hit79
  rw [hf81] at hm
  refine wp_seq (wp_seq (region_plain ?_))
  refine lq (.int .i64 x54) S (q_move rfl) fun a S => ?_
  refine lq p0 S (q_move rfl) fun a S => ?_
  refine lq (.int .i64 (xs52.length : Int)) S (q_lenSl rfl (H.isSl 0 rfl) rfl Tryz.underlying31) fun a S => ?_
  refine lq (.bool (decide (x54 < (xs52.length : Int)))) S (q_lss rfl rfl) fun a S => ?_
  refine lx_nil (thenN ?_)
  refine cond_b S rfl (fun hc86 => ?_) (fun hc86 => ?_)
  ·have hm := ite_t hc86 hm
   refine wp_skip (thenN ?_)
   refine wp_seq ?_
   refine wp_block ?_
   refine wp_seq (region_plain ?_)
   refine lq p0 S (q_move rfl) fun a S => ?_
   refine lq (.int .i64 x54) S (q_move rfl) fun a S => ?_
   refine lq (.int .i64 x53) S (q_move rfl) fun a S => ?_
   obtain ⟨x87, e88, hm⟩ := bind_some hm
   have hlt := lt_of_idx (idx_some e88).2
   refine lq (ePtr p0 (x54.toNat * 4)) S (q_indexAddr rfl (H.isSl 0 rfl) rfl (idx_some e88).1 hlt Tryz.underlying31 Tryz.sizeOf61) fun a S => ?_
   refine lq (pAdd (ePtr p0 (x54.toNat * 4)) 0) S (q_fieldAddr' 0 2 rfl (((H.isSl 0 rfl)).ptr (lt_of_idx (idx_some e88).2) _) Tryz.underlying61 rfl Tryz.sizeOf2) fun a S => ?_
   refine lx_storeElem (r := Rimpl_Node) (us := [(.int .i64 x53)]) (off := 0) (e' := (x53, x87.2.1, x87.2.2.1, x87.2.2.2)) S trivial rfl H.putE rfl rfl (idx_some e88).2 rfl Tryz.sizeOf2 (Nat.le_of_ble_eq_true rfl) (List.forall_mem_cons.2 ⟨rfl, (List.forall_mem_nil _)⟩) (Upd.fst (off := 0) (Nat.le_of_ble_eq_true rfl) (Upd.full rfl (fun w G hG => by cases (show G = [] from hG); exact ⟨rfl, rfl⟩))) (fun w89 H => ⟨trivial, fun a S => ?_⟩)
   refine lx_nil (thenN ?_)
   refine wp_seq (region_plain ?_)
   refine lq (.int .i64 x53) S (q_move rfl) fun a S => ?_
   refine lq (.int .i64 (W (x53 + (1 : Int)))) S (q_add rfl rfl) fun a S => ?_
   refine lq (.int .i64 (W (x53 + (1 : Int)))) S (q_assign rfl) fun a S => ?_
   refine lx_nil (thenN ?_)
   refine wp_seq (region_plain ?_)
   refine lq p0 S (q_move rfl) fun a S => ?_
   refine lq (.int .i64 x54) S (q_move rfl) fun a S => ?_
   refine lq (.int .i64 (W (x53 + (1 : Int)))) S (q_move rfl) fun a S => ?_
   obtain ⟨x90, e91, hm⟩ := bind_some hm
   have hlt := lt_of_idx (idx_some e91).2
   refine lq (ePtr p0 (x54.toNat * 4)) S (q_indexAddr rfl (H.isSl 0 rfl) rfl (idx_some e91).1 hlt Tryz.underlying31 Tryz.sizeOf61) fun a S => ?_
   refine lq (pAdd (ePtr p0 (x54.toNat * 4)) 1) S (q_fieldAddr' 1 2 rfl (((H.isSl 0 rfl)).ptr (lt_of_idx (idx_some e91).2) _) Tryz.underlying61 rfl Tryz.sizeOf2) fun a S => ?_
   refine lx_storeElem (r := Rimpl_Node) (us := [(.int .i64 (W (x53 + (1 : Int))))]) (off := 1) (e' := (x90.1, (W (x53 + (1 : Int))), x90.2.2.1, x90.2.2.2)) S trivial rfl H.putE rfl rfl (idx_some e91).2 rfl Tryz.sizeOf2 (Nat.le_of_ble_eq_true rfl) (List.forall_mem_cons.2 ⟨rfl, (List.forall_mem_nil _)⟩) (Upd.snd (off := 0) (Upd.fst (off := 0) (Nat.le_of_ble_eq_true rfl) (Upd.full rfl (fun w G hG => by cases (show G = [] from hG); exact ⟨rfl, rfl⟩)))) (fun w92 H => ⟨trivial, fun a S => ?_⟩)
   refine lx_nil (thenN ?_)
   refine wp_seq (region_plain ?_)
   refine lq (.int .i64 (W (x53 + (1 : Int)))) S (q_move rfl) fun a S => ?_
   refine lq (.int .i64 (W ((W (x53 + (1 : Int))) + (1 : Int)))) S (q_add rfl rfl) fun a S => ?_
   refine lq (.int .i64 (W ((W (x53 + (1 : Int))) + (1 : Int)))) S (q_assign rfl) fun a S => ?_
   refine lx_nil (thenN ?_)
   refine wp_seq (region_plain ?_)
   refine lq p0 S (q_move rfl) fun a S => ?_
   refine lq (.int .i64 x54) S (q_move rfl) fun a S => ?_
   refine lq (.int .i64 (W ((W (x53 + (1 : Int))) + (1 : Int)))) S (q_move rfl) fun a S => ?_
   obtain ⟨x95, e96, hm⟩ := bind_some hm
   refine lx_call (xs := [.tmp 28]) S trivial (by decide) rfl rfl Tryz.call44 ((laws_markText_ok  e96).mono ?_)
   rintro e w93 ⟨rfl, Hc94⟩
   have H := H.call0 Hc94
   refine ⟨_, rfl, trivial, fun a S => ?_⟩
   obtain ⟨x98, e99, hm⟩ := bind_some hm
   have hlt := lt_of_idx (idx_some e99).2
   refine lq (ePtr p0 (x54.toNat * 4)) S (q_indexAddr rfl (H.isSl 0 rfl) rfl (idx_some e99).1 hlt Tryz.underlying31 Tryz.sizeOf61) fun a S => ?_
   refine lq (pAdd (ePtr p0 (x54.toNat * 4)) 2) S (q_fieldAddr' 2 9 rfl (((H.isSl 0 rfl)).ptr (lt_of_idx (idx_some e99).2) _) Tryz.underlying61 rfl Tryz.sizeOf9) fun a S => ?_
   refine lx_storeElem (r := Rimpl_Node) (us := [(sv x95)]) (off := 2) (e' := (x98.1, x98.2.1, x95, x98.2.2.2)) S trivial rfl H.putE rfl rfl (idx_some e99).2 rfl Tryz.sizeOf9 (Nat.le_of_ble_eq_true rfl) (List.forall_mem_cons.2 ⟨rfl, (List.forall_mem_nil _)⟩) (Upd.snd (off := 1) (Upd.snd (off := 0) (Upd.fst (off := 0) (Nat.le_of_ble_eq_true rfl) (Upd.full rfl (fun w G hG => by cases (show G = [] from hG); exact ⟨rfl, rfl⟩))))) (fun w100 H => ⟨trivial, fun a S => ?_⟩)
   refine lx_nil (thenN ?_)
   refine wp_seq (region_plain ?_)
   refine lq (.int .i64 (W ((W (x53 + (1 : Int))) + (1 : Int)))) S (q_move rfl) fun a S => ?_
   refine lq (.int .i64 (W ((W ((W (x53 + (1 : Int))) + (1 : Int))) + (1 : Int)))) S (q_add rfl rfl) fun a S => ?_
   refine lq (.int .i64 (W ((W ((W (x53 + (1 : Int))) + (1 : Int))) + (1 : Int)))) S (q_assign rfl) fun a S => ?_
   refine lx_nil (thenN ?_)
   refine wp_seq (region_plain ?_)
   refine lq p0 S (q_move rfl) fun a S => ?_
   refine lq (.int .i64 x54) S (q_move rfl) fun a S => ?_
   refine lq (.int .i64 (W ((W ((W (x53 + (1 : Int))) + (1 : Int))) + (1 : Int)))) S (q_move rfl) fun a S => ?_
   refine lq (.int .i64 ((W ((W ((W (x53 + (1 : Int))) + (1 : Int))) + (1 : Int))).tmod (3 : Int))) S (q_rem rfl rfl (show (3 : Int) ≠ 0 from by decide)) fun a S => ?_
   refine lq (.bool (((W ((W ((W (x53 + (1 : Int))) + (1 : Int))) + (1 : Int))).tmod (3 : Int)) == (0 : Int))) S (q_eql rfl rfl) fun a S => ?_
   obtain ⟨x101, e102, hm⟩ := bind_some hm
   have hlt := lt_of_idx (idx_some e102).2
   refine lq (ePtr p0 (x54.toNat * 4)) S (q_indexAddr rfl (H.isSl 0 rfl) rfl (idx_some e102).1 hlt Tryz.underlying31 Tryz.sizeOf61) fun a S => ?_
   refine lq (pAdd (ePtr p0 (x54.toNat * 4)) 3) S (q_fieldAddr' 3 4 rfl (((H.isSl 0 rfl)).ptr (lt_of_idx (idx_some e102).2) _) Tryz.underlying61 rfl Tryz.sizeOf4) fun a S => ?_
   refine lx_storeElem (r := Rimpl_Node) (us := [(.bool (((W ((W ((W (x53 + (1 : Int))) + (1 : Int))) + (1 : Int))).tmod (3 : Int)) == (0 : Int)))]) (off := 3) (e' := (x101.1, x101.2.1, x101.2.2.1, (((W ((W ((W (x53 + (1 : Int))) + (1 : Int))) + (1 : Int))).tmod (3 : Int)) == (0 : Int)))) S trivial rfl H.putE rfl rfl (idx_some e102).2 rfl Tryz.sizeOf4 (Nat.le_of_ble_eq_true rfl) (List.forall_mem_cons.2 ⟨rfl, (List.forall_mem_nil _)⟩) (Upd.snd (off := 2) (Upd.snd (off := 1) (Upd.snd (off := 0) (Upd.full rfl (fun w G hG => by cases (show G = [] from hG); exact ⟨rfl, rfl⟩))))) (fun w103 H => ⟨trivial, fun a S => ?_⟩)
   refine lx_nil (thenN ?_)
   refine region_plain ?_
   refine lq (.int .i64 (W ((W ((W (x53 + (1 : Int))) + (1 : Int))) + (1 : Int)))) S (q_move rfl) fun a S => ?_
   refine lq (.int .i64 (W ((W ((W ((W (x53 + (1 : Int))) + (1 : Int))) + (1 : Int))) + (1 : Int)))) S (q_add rfl rfl) fun a S => ?_
   refine lq (.int .i64 (W ((W ((W ((W (x53 + (1 : Int))) + (1 : Int))) + (1 : Int))) + (1 : Int)))) S (q_assign rfl) fun a S => ?_
   refine lx_nil ?_
   refine inBlock_norm ?_
   refine thenN ?_
   refine region_plain ?_
   refine lq (.int .i64 x54) S (q_move rfl) fun a S => ?_
   refine lq (.int .i64 (W (x54 + (1 : Int)))) S (q_add rfl rfl) fun a S => ?_
   refine lq (.int .i64 (W (x54 + (1 : Int)))) S (q_assign rfl) fun a S => ?_
   refine lx_nil ?_
   exact ⟨m83, Nat.lt_succ_self _, ((((xs52.set x54.toNat (x53, x87.2.1, x87.2.2.1, x87.2.2.2)).set x54.toNat (x90.1, (W (x53 + (1 : Int))), x90.2.2.1, x90.2.2.2)).set x54.toNat (x98.1, x98.2.1, x95, x98.2.2.2)).set x54.toNat (x101.1, x101.2.1, x101.2.2.1, (((W ((W ((W (x53 + (1 : Int))) + (1 : Int))) + (1 : Int))).tmod (3 : Int)) == (0 : Int)))), (W ((W ((W ((W (x53 + (1 : Int))) + (1 : Int))) + (1 : Int))) + (1 : Int))), (W (x54 + (1 : Int))), S.sub ⟨rfl, rfl, rfl, trivial⟩, H, it_cont hm hc85⟩
  ·have hm := ite_f hc86 hm
   refine wp_exit ?_
   refine then_exit ?_
   refine then_exit ?_
   refine inBlock_exit ?_
   obtain rfl := it_brk hm hc85
   exact ⟨x53, xs52, S.sub ⟨rfl, trivial⟩, H, rfl⟩

/-- laws.markStringS -/
def laws_markStringS_m (fuel : Nat) (a0 : (List Str)) (a1 : Int) : Option (Int × (List Str)) :=
  (iter (fun (s : (List Str) × (Int) × (Int)) => (match s with | (xs43, x44, x45) => (if (decide (x45 < (xs43.length : Int))) = true then (laws_markText_m fuel x44).bind fun x71 => (idx xs43 x45).bind fun _ => some (.inl ((xs43.set x45.toNat x71), (W (x44 + (1 : Int))), (W (x45 + (1 : Int))))) else some (.inr (.inl (x44, xs43)))) : Option (((List Str) × (Int) × (Int)) ⊕ ((Int × (List Str)) ⊕ (Int × (List Str)))))) fuel (a0, a1, (0 : Int))).bind fun res60 => ctl (β := Int × (List Str)) (ρ := Int × (List Str)) (τ := Int × (List Str)) res60 (fun (x58, xs59) => some ((x58, xs59))) (fun q => some (q))
set_option maxRecDepth 20000 in
theorem laws_markStringS_ok [dr : Dr] {w0 : World} {fuel : Nat} {p0 : Value} {a0 : (List Str)} {a1 : Int} {w00 : World} {L : List Asrt} {r : Int × (List Str)} (H : Heap w00 (oA (rList rStr) p0 a0 :: L) w0) (hm : laws_markStringS_m fuel a0 a1 = some r) :
  Calls Tryz.prog 45 #[p0, .int .i64 a1] w0 fun e w => e = .returned (.int .i64 r.1) ∧ Heap w00 (oA (rList rStr) p0 r.2 :: L) w := by
 unfold laws_markStringS_m at hm
 refine enter (args := [p0, .int .i64 a1]) Tryz.func45 rfl 20 rfl (Nat.le_of_ble_eq_true rfl) (fun a S => ?_)
 refine wp_seq (region_plain ?_)
 refine lq (.int .i64 (0 : Int)) S (q_assign rfl) fun a S => ?_
 refine lx_nil (thenN ?_)
 refine wp_seq (wp_seq (region_plain ?_))
 refine lq (.int .i64 (0 : Int)) S (q_assign rfl) fun a S => ?_
 refine lx_nil (thenN ?_)
 obtain ⟨res60, hit61, hk64⟩ := bind_some hm
 obtain ⟨f62, hf63, hit61⟩ := iter_name hit61
 refine block_loop (fun a w => ∃ (x58 : Int) (xs59 : List Str), Slots a 20 [(1, (.int .i64 x58))] ∧ Heap w00 (oA (rList rStr) p0 xs59 :: L) w ∧ res60 = .inl (x58, xs59)) ?_ ?_
 ·rintro a w ⟨x58, xs59, S, H, rfl⟩
  have hm := ctl_inl hk64
  refine thenN ?_
  refine wp_seq (region_plain ?_)
  refine lq (.int .i64 x58) S (q_move rfl) fun a S => ?_
  refine lq (.int .i64 x58) S (q_assign rfl) fun a S => ?_
  refine lx_nil (thenN ?_)
  refine wp_ret ?_
  obtain rfl := Option.some.inj hm
  exact leave1 S rfl rfl ⟨rfl, H⟩
 ·skip
  refine loop_ghost (fun n a w => ∃ (xs43 : List Str) (x44 : Int) (x45 : Int), Slots a 20 [(0, p0), (1, (.int .i64 x44)), (5, (.int .i64 x45))] ∧ Heap w00 (oA (rList rStr) p0 xs43 :: L) w ∧ iter f62 n (xs43, x44, x45) = some res60) _ ⟨a0, a1, (0 : Int), S.sub ⟨rfl, rfl, rfl, trivial⟩, H, hit61⟩ ?_
  rintro n a w ⟨xs43, x44, x45, S, H, hit61⟩
  obtain ⟨m65, o66, rfl, hm, hc67⟩ := iter_step hit61
  rw [hf63] at hm
  refine wp_seq (wp_seq (region_plain ?_))
  refine lq (.int .i64 x45) S (q_move rfl) fun a S => ?_
  refine lq p0 S (q_move rfl) fun a S => ?_
  refine lq (.int .i64 (xs43.length : Int)) S (q_lenSl rfl (H.isSl 0 rfl) rfl Tryz.underlying23) fun a S => ?_
  refine lq (.bool (decide (x45 < (xs43.length : Int)))) S (q_lss rfl rfl) fun a S => ?_
  refine lx_nil (thenN ?_)
  refine cond_b S rfl (fun hc68 => ?_) (fun hc68 => ?_)
  ·have hm := ite_t hc68 hm
   refine wp_skip (thenN ?_)
   refine wp_seq ?_
   refine wp_block ?_
   refine wp_seq (region_plain ?_)
   refine lq p0 S (q_move rfl) fun a S => ?_
   refine lq (.int .i64 x45) S (q_move rfl) fun a S => ?_
   refine lq (.int .i64 x44) S (q_move rfl) fun a S => ?_
   obtain ⟨x71, e72, hm⟩ := bind_some hm
   refine lx_call (xs := [.tmp 14]) S trivial (by decide) rfl rfl Tryz.call44 ((laws_markText_ok  e72).mono ?_)
   rintro e w69 ⟨rfl, Hc70⟩
   have H := H.call0 Hc70
   refine ⟨_, rfl, trivial, fun a S => ?_⟩
   obtain ⟨x74, e75, hm⟩ := bind_some hm
   have hlt := lt_of_idx (idx_some e75).2
   refine lq (ePtr p0 (x45.toNat * 1)) S (q_indexAddr rfl (H.isSl 0 rfl) rfl (idx_some e75).1 hlt Tryz.underlying23 Tryz.sizeOf9) fun a S => ?_
   refine lx_storeElem (r := rStr) (us := [(sv x71)]) (off := 0) (e' := x71) S trivial rfl H.putE (ev_zero rfl) rfl (idx_some e75).2 rfl Tryz.sizeOf9 (Nat.le_of_ble_eq_true rfl) (List.forall_mem_cons.2 ⟨rfl, (List.forall_mem_nil _)⟩) (Upd.full rfl (fun w G hG => by cases (show G = [] from hG); exact ⟨rfl, rfl⟩)) (fun w76 H => ⟨trivial, fun a S => ?_⟩)
   refine lx_nil (thenN ?_)
   refine region_plain ?_
   refine lq (.int .i64 x44) S (q_move rfl) fun a S => ?_
   refine lq (.int .i64 (W (x44 + (1 : Int)))) S (q_add rfl rfl) fun a S => ?_
   refine lq (.int .i64 (W (x44 + (1 : Int)))) S (q_assign rfl) fun a S => ?_
   refine lx_nil ?_
   refine inBlock_norm ?_
   refine thenN ?_
   refine region_plain ?_
   refine lq (.int .i64 x45) S (q_move rfl) fun a S => ?_
   refine lq (.int .i64 (W (x45 + (1 : Int)))) S (q_add rfl rfl) fun a S => ?_
   refine lq (.int .i64 (W (x45 + (1 : Int)))) S (q_assign rfl) fun a S => ?_
   refine lx_nil ?_
   exact ⟨m65, Nat.lt_succ_self _, (xs43.set x45.toNat x71), (W (x44 + (1 : Int))), (W (x45 + (1 : Int))), S.sub ⟨rfl, rfl, rfl, trivial⟩, H, it_cont hm hc67⟩
  ·have hm := ite_f hc68 hm
   refine wp_exit ?_
   refine then_exit ?_
   refine then_exit ?_
   refine inBlock_exit ?_
   obtain rfl := it_brk hm hc67
   exact ⟨x44, xs43, S.sub ⟨rfl, trivial⟩, H, rfl⟩

/-- laws.markEdgeS -/
def laws_markEdgeS_m (fuel : Nat) (a0 : (List Timpl_Edge)) (a1 : Int) : Option (Int × (List Timpl_Edge)) :=
  (iter (fun (s : (List Timpl_Edge) × (Int) × (Int)) => (match s with | (xs44, x45, x46) => (if (decide (x46 < (xs44.length : Int))) = true then (idx xs44 x46).bind fun x71 => (idx (xs44.set x46.toNat (x45, x71.2.1, x71.2.2)) x46).bind fun x74 => (idx ((xs44.set x46.toNat (x45, x71.2.1, x71.2.2)).set x46.toNat (x74.1, (W (x45 + (1 : Int))), x74.2.2)) x46).bind fun x77 => some (.inl ((((xs44.set x46.toNat (x45, x71.2.1, x71.2.2)).set x46.toNat (x74.1, (W (x45 + (1 : Int))), x74.2.2)).set x46.toNat (x77.1, x77.2.1, (W ((W (x45 + (1 : Int))) + (1 : Int))))), (W ((W ((W (x45 + (1 : Int))) + (1 : Int))) + (1 : Int))), (W (x46 + (1 : Int))))) else some (.inr (.inl (x45, xs44)))) : Option (((List Timpl_Edge) × (Int) × (Int)) ⊕ ((Int × (List Timpl_Edge)) ⊕ (Int × (List Timpl_Edge)))))) fuel (a0, a1, (0 : Int))).bind fun res62 => ctl (β := Int × (List Timpl_Edge)) (ρ := Int × (List Timpl_Edge)) (τ := Int × (List Timpl_Edge)) res62 (fun (x60, xs61) => some ((x60, xs61))) (fun q => some (q))
set_option maxRecDepth 20000 in
theorem laws_markEdgeS_ok [dr : Dr] {w0 : World} {fuel : Nat} {p0 : Value} {a0 : (List Timpl_Edge)} {a1 : Int} {w00 : World} {L : List Asrt} {r : Int × (List Timpl_Edge)} (H : Heap w00 (oA (rList Rimpl_Edge) p0 a0 :: L) w0) (hm : laws_markEdgeS_m fuel a0 a1 = some r) :
  Calls Tryz.prog 46 #[p0, .int .i64 a1] w0 fun e w => e = .returned (.int .i64 r.1) ∧ Heap w00 (oA (rList Rimpl_Edge) p0 r.2 :: L) w := by
 unfold laws_markEdgeS_m at hm
 refine enter (args := [p0, .int .i64 a1]) Tryz.func46 rfl 34 rfl (Nat.le_of_ble_eq_true rfl) (fun a S => ?_)
 refine wp_seq (region_plain ?_)
 refine lq (.int .i64 (0 : Int)) S (q_assign rfl) fun a S => ?_
 refine lx_nil (thenN ?_)
 refine wp_seq (wp_seq (region_plain ?_))
 refine lq (.int .i64 (0 : Int)) S (q_assign rfl) fun a S => ?_
 refine lx_nil (thenN ?_)
 obtain ⟨res62, hit63, hk66⟩ := bind_some hm
 obtain ⟨f64, hf65, hit63⟩ := iter_name hit63
 refine block_loop (fun a w => ∃ (x60 : Int) (xs61 : List Timpl_Edge), Slots a 34 [(1, (.int .i64 x60))] ∧ Heap w00 (oA (rList Rimpl_Edge) p0 xs61 :: L) w ∧ res62 = .inl (x60, xs61)) ?_ ?_
 ·rintro a w ⟨x60, xs61, S, H, rfl⟩
  have hm := ctl_inl hk66
  refine thenN ?_
  refine wp_seq (region_plain ?_)
  refine lq (.int .i64 x60) S (q_move rfl) fun a S => ?_
  refine lq (.int .i64 x60) S (q_assign rfl) fun a S => ?_
  refine lx_nil (thenN ?_)
  refine wp_ret ?_
  obtain rfl := Option.some.inj hm
  exact leave1 S rfl rfl ⟨rfl, H⟩
 ·skip
  refine loop_ghost (fun n a w => ∃ (xs44 : List Timpl_Edge) (x45 : Int) (x46 : Int), Slots a 34 [(0, p0), (1, (.int .i64 x45)), (5, (.int .i64 x46))] ∧ Heap w00 (oA (rList Rimpl_Edge) p0 xs44 :: L) w ∧ iter f64 n (xs44, x45, x46) = some res62) _ ⟨a0, a1, (0 : Int), S.sub ⟨rfl, rfl, rfl, trivial⟩, H, hit63⟩ ?_
  rintro n a w ⟨xs44, x45, x46, S, H, hit63⟩
  obtain ⟨m67, o68, rfl, hm, hc69⟩ := iter_step hit63
  rw [hf65] at hm
  refine wp_seq (wp_seq (region_plain ?_))
  refine lq (.int .i64 x46) S (q_move rfl) fun a S => ?_
  refine lq p0 S (q_move rfl) fun a S => ?_
  refine lq (.int .i64 (xs44.length : Int)) S (q_lenSl rfl (H.isSl 0 rfl) rfl Tryz.underlying33) fun a S => ?_
  refine lq (.bool (decide (x46 < (xs44.length : Int)))) S (q_lss rfl rfl) fun a S => ?_
  refine lx_nil (thenN ?_)
  refine cond_b S rfl (fun hc70 => ?_) (fun hc70 => ?_)
  ·have hm := ite_t hc70 hm
   refine wp_skip (thenN ?_)
   refine wp_seq ?_
   refine wp_block ?_
   refine wp_seq (region_plain ?_)
   refine lq p0 S (q_move rfl) fun a S => ?_
   refine lq (.int .i64 x46) S (q_move rfl) fun a S => ?_
   refine lq (.int .i64 x45) S (q_move rfl) fun a S => ?_
   obtain ⟨x71, e72, hm⟩ := bind_some hm
   have hlt := lt_of_idx (idx_some e72).2
   refine lq (ePtr p0 (x46.toNat * 3)) S (q_indexAddr rfl (H.isSl 0 rfl) rfl (idx_some e72).1 hlt Tryz.underlying33 Tryz.sizeOf80) fun a S => ?_
   refine lq (pAdd (ePtr p0 (x46.toNat * 3)) 0) S (q_fieldAddr' 0 2 rfl (((H.isSl 0 rfl)).ptr (lt_of_idx (idx_some e72).2) _) Tryz.underlying80 rfl Tryz.sizeOf2) fun a S => ?_
   refine lx_storeElem (r := Rimpl_Edge) (us := [(.int .i64 x45)]) (off := 0) (e' := (x45, x71.2.1, x71.2.2)) S trivial rfl H.putE rfl rfl (idx_some e72).2 rfl Tryz.sizeOf2 (Nat.le_of_ble_eq_true rfl) (List.forall_mem_cons.2 ⟨rfl, (List.forall_mem_nil _)⟩) (Upd.fst (off := 0) (Nat.le_of_ble_eq_true rfl) (Upd.full rfl (fun w G hG => by cases (show G = [] from hG); exact ⟨rfl, rfl⟩))) (fun w73 H => ⟨trivial, fun a S => ?_⟩)
   refine lx_nil (thenN ?_)
   refine wp_seq (region_plain ?_)
   refine lq (.int .i64 x45) S (q_move rfl) fun a S => ?_
   refine lq (.int .i64 (W (x45 + (1 : Int)))) S (q_add rfl rfl) fun a S => ?_
   refine lq (.int .i64 (W (x45 + (1 : Int)))) S (q_assign rfl) fun a S => ?_
   refine lx_nil (thenN ?_)
   refine wp_seq (region_plain ?_)
   refine lq p0 S (q_move rfl) fun a S => ?_
   refine lq (.int .i64 x46) S (q_move rfl) fun a S => ?_
   refine lq (.int .i64 (W (x45 + (1 : Int)))) S (q_move rfl) fun a S => ?_
   obtain ⟨x74, e75, hm⟩ := bind_some hm
   have hlt := lt_of_idx (idx_some e75).2
   refine lq (ePtr p0 (x46.toNat * 3)) S (q_indexAddr rfl (H.isSl 0 rfl) rfl (idx_some e75).1 hlt Tryz.underlying33 Tryz.sizeOf80) fun a S => ?_
   refine lq (pAdd (ePtr p0 (x46.toNat * 3)) 1) S (q_fieldAddr' 1 2 rfl (((H.isSl 0 rfl)).ptr (lt_of_idx (idx_some e75).2) _) Tryz.underlying80 rfl Tryz.sizeOf2) fun a S => ?_
   refine lx_storeElem (r := Rimpl_Edge) (us := [(.int .i64 (W (x45 + (1 : Int))))]) (off := 1) (e' := (x74.1, (W (x45 + (1 : Int))), x74.2.2)) S trivial rfl H.putE rfl rfl (idx_some e75).2 rfl Tryz.sizeOf2 (Nat.le_of_ble_eq_true rfl) (List.forall_mem_cons.2 ⟨rfl, (List.forall_mem_nil _)⟩) (Upd.snd (off := 0) (Upd.fst (off := 0) (Nat.le_of_ble_eq_true rfl) (Upd.full rfl (fun w G hG => by cases (show G = [] from hG); exact ⟨rfl, rfl⟩)))) (fun w76 H => ⟨trivial, fun a S => ?_⟩)
   refine lx_nil (thenN ?_)
   refine wp_seq (region_plain ?_)
   refine lq (.int .i64 (W (x45 + (1 : Int)))) S (q_move rfl) fun a S => ?_
   refine lq (.int .i64 (W ((W (x45 + (1 : Int))) + (1 : Int)))) S (q_add rfl rfl) fun a S => ?_
   refine lq (.int .i64 (W ((W (x45 + (1 : Int))) + (1 : Int)))) S (q_assign rfl) fun a S => ?_
   refine lx_nil (thenN ?_)
   refine wp_seq (region_plain ?_)
   refine lq p0 S (q_move rfl) fun a S => ?_
   refine lq (.int .i64 x46) S (q_move rfl) fun a S => ?_
   refine lq (.int .i64 (W ((W (x45 + (1 : Int))) + (1 : Int)))) S (q_move rfl) fun a S => ?_
   obtain ⟨x77, e78, hm⟩ := bind_some hm
   have hlt := lt_of_idx (idx_some e78).2
   refine lq (ePtr p0 (x46.toNat * 3)) S (q_indexAddr rfl (H.isSl 0 rfl) rfl (idx_some e78).1 hlt Tryz.underlying33 Tryz.sizeOf80) fun a S => ?_
   refine lq (pAdd (ePtr p0 (x46.toNat * 3)) 2) S (q_fieldAddr' 2 2 rfl (((H.isSl 0 rfl)).ptr (lt_of_idx (idx_some e78).2) _) Tryz.underlying80 rfl Tryz.sizeOf2) fun a S => ?_
   refine lx_storeElem (r := Rimpl_Edge) (us := [(.int .i64 (W ((W (x45 + (1 : Int))) + (1 : Int))))]) (off := 2) (e' := (x77.1, x77.2.1, (W ((W (x45 + (1 : Int))) + (1 : Int))))) S trivial rfl H.putE rfl rfl (idx_some e78).2 rfl Tryz.sizeOf2 (Nat.le_of_ble_eq_true rfl) (List.forall_mem_cons.2 ⟨rfl, (List.forall_mem_nil _)⟩) (Upd.snd (off := 1) (Upd.snd (off := 0) (Upd.full rfl (fun w G hG => by cases (show G = [] from hG); exact ⟨rfl, rfl⟩)))) (fun w79 H => ⟨trivial, fun a S => ?_⟩)
   refine lx_nil (thenN ?_)
   refine region_plain ?_
   refine lq (.int .i64 (W ((W (x45 + (1 : Int))) + (1 : Int)))) S (q_move rfl) fun a S => ?_
   refine lq (.int .i64 (W ((W ((W (x45 + (1 : Int))) + (1 : Int))) + (1 : Int)))) S (q_add rfl rfl) fun a S => ?_
   refine lq (.int .i64 (W ((W ((W (x45 + (1 : Int))) + (1 : Int))) + (1 : Int)))) S (q_assign rfl) fun a S => ?_
   refine lx_nil ?_
   refine inBlock_norm ?_
   refine thenN ?_
   refine region_plain ?_
   refine lq (.int .i64 x46) S (q_move rfl) fun a S => ?_
   refine lq (.int .i64 (W (x46 + (1 : Int)))) S (q_add rfl rfl) fun a S => ?_
   refine lq (.int .i64 (W (x46 + (1 : Int)))) S (q_assign rfl) fun a S => ?_
   refine lx_nil ?_
   exact ⟨m67, Nat.lt_succ_self _, (((xs44.set x46.toNat (x45, x71.2.1, x71.2.2)).set x46.toNat (x74.1, (W (x45 + (1 : Int))), x74.2.2)).set x46.toNat (x77.1, x77.2.1, (W ((W (x45 + (1 : Int))) + (1 : Int))))), (W ((W ((W (x45 + (1 : Int))) + (1 : Int))) + (1 : Int))), (W (x46 + (1 : Int))), S.sub ⟨rfl, rfl, rfl, trivial⟩, H, it_cont hm hc69⟩
  ·have hm := ite_f hc70 hm
   refine wp_exit ?_
   refine then_exit ?_
   refine then_exit ?_
   refine inBlock_exit ?_
   obtain rfl := it_brk hm hc69
   exact ⟨x45, xs44, S.sub ⟨rfl, trivial⟩, H, rfl⟩

/-- laws.markLts -/
def laws_markLts_m (fuel : Nat) (a0 : Timpl_Lts) (a1 : Int) : Option (Int × (List Str) × (List Timpl_Edge)) :=
  (laws_markStringS_m fuel a0.2.2.1 a1).bind fun x36 => (laws_markEdgeS_m fuel a0.2.2.2 x36.1).bind fun x40 => some ((x40.1, x36.2, x40.2))
set_option maxRecDepth 20000 in
theorem laws_markLts_ok [dr : Dr] {w0 : World} {fuel : Nat} {p0_0 p0_1 : Value} {a0 : Timpl_Lts} {a1 : Int} {w00 : World} {L : List Asrt} {r : Int × (List Str) × (List Timpl_Edge)} (H : Heap w00 (oA (rList rStr) p0_0 a0.2.2.1 :: oA (rList Rimpl_Edge) p0_1 a0.2.2.2 :: L) w0) (hm : laws_markLts_m fuel a0 a1 = some r) :
  Calls Tryz.prog 20 #[(.agg #[(.int .i64 a0.1), (.int .i64 a0.2.1), p0_0, p0_1]), .int .i64 a1] w0 fun e w => e = .returned (.int .i64 r.1) ∧ Heap w00 (oA (rList rStr) p0_0 r.2.1 :: oA (rList Rimpl_Edge) p0_1 r.2.2 :: L) w := by
 unfold laws_markLts_m at hm
 refine enter (args := [(.agg #[(.int .i64 a0.1), (.int .i64 a0.2.1), p0_0, p0_1]), .int .i64 a1]) Tryz.func20 rfl 14 rfl (Nat.le_of_ble_eq_true rfl) (fun a S => ?_)
 refine wp_seq (region_plain ?_)
 refine lx_box S trivial (by decide) rfl H rfl rfl (fun b31 w32 H => ⟨trivial, fun a S => ?_⟩)
 refine lq (.int .i64 (0 : Int)) S (q_assign rfl) fun a S => ?_
 refine lx_nil (thenN ?_)
 refine wp_seq (region_plain ?_)
 refine lq (pAdd (bp b31) 2) S (q_fieldAddr' 2 23 rfl (isP_bp _) Tryz.underlying35 rfl Tryz.sizeOf23) fun a S => ?_
 refine lx_e p0_0 S trivial (by decide) rfl trivial (q_load1 rfl Tryz.isAgg23 (by rintro _ rfl; exact (At.of_add (m := 2) (j := 0) (boxAt (i := 0) H rfl (j := 2) rfl)))) (fun a S => ?_)
 refine lq (.int .i64 a1) S (q_move rfl) fun a S => ?_
 obtain ⟨x36, e37, hm⟩ := bind_some hm
 have H : Heap w00 (oA (rList rStr) p0_0 a0.2.2.1 :: bA b31 [(.int .i64 a0.1), (.int .i64 a0.2.1), p0_0, p0_1] 35 :: oA (rList Rimpl_Edge) p0_1 a0.2.2.2 :: L) w32 := H.front 1 rfl
 refine lx_call (xs := [.tmp 6, .tmp 7]) S trivial (by decide) rfl rfl Tryz.call45 ((laws_markStringS_ok H  e37).mono ?_)
 rintro e w34 ⟨rfl, H⟩
 refine ⟨_, rfl, trivial, fun a S => ?_⟩
 refine lq (.int .i64 x36.1) S (q_assign rfl) fun a S => ?_
 refine lx_nil (thenN ?_)
 refine wp_seq (region_plain ?_)
 refine lq (pAdd (bp b31) 3) S (q_fieldAddr' 3 33 rfl (isP_bp _) Tryz.underlying35 rfl Tryz.sizeOf33) fun a S => ?_
 refine lx_e p0_1 S trivial (by decide) rfl trivial (q_load1 rfl Tryz.isAgg33 (by rintro _ rfl; exact (At.of_add (m := 3) (j := 0) (boxAt (i := 1) H rfl (j := 3) rfl)))) (fun a S => ?_)
 refine lq (.int .i64 x36.1) S (q_move rfl) fun a S => ?_
 obtain ⟨x40, e41, hm⟩ := bind_some hm
 have H : Heap w00 (oA (rList Rimpl_Edge) p0_1 a0.2.2.2 :: oA (rList rStr) p0_0 x36.2 :: bA b31 [(.int .i64 a0.1), (.int .i64 a0.2.1), p0_0, p0_1] 35 :: L) w34 := H.front 2 rfl
 refine lx_call (xs := [.tmp 10, .tmp 11]) S trivial (by decide) rfl rfl Tryz.call46 ((laws_markEdgeS_ok H  e41).mono ?_)
 rintro e w38 ⟨rfl, H⟩
 refine ⟨_, rfl, trivial, fun a S => ?_⟩
 refine lq (.int .i64 x40.1) S (q_assign rfl) fun a S => ?_
 refine lx_nil (thenN ?_)
 refine wp_seq (region_plain ?_)
 refine lq (.int .i64 x40.1) S (q_move rfl) fun a S => ?_
 refine lq (.int .i64 x40.1) S (q_assign rfl) fun a S => ?_
 refine lx_nil (thenN ?_)
 refine wp_ret ?_
 obtain rfl := Option.some.inj hm
 have H : Heap w00 (oA (rList rStr) p0_0 x36.2 :: oA (rList Rimpl_Edge) p0_1 x40.2 :: bA b31 [(.int .i64 a0.1), (.int .i64 a0.2.1), p0_0, p0_1] 35 :: L) w38 := H.front 1 rfl
 have H : Heap w00 (oA (rList rStr) p0_0 x36.2 :: oA (rList Rimpl_Edge) p0_1 x40.2 :: L) w38 := H.selT 3 [0, 1] (by decide)
 exact leave1 S rfl rfl ⟨rfl, H⟩

/-- laws.markInt64S -/
def laws_markInt64S_m (fuel : Nat) (a0 : (List Int)) (a1 : Int) : Option (Int × (List Int)) :=
  (iter (fun (s : (List Int) × (Int) × (Int)) => (match s with | (xs38, x39, x40) => (if (decide (x40 < (xs38.length : Int))) = true then (idx xs38 x40).bind fun _ => some (.inl ((xs38.set x40.toNat x39), (W (x39 + (1 : Int))), (W (x40 + (1 : Int))))) else some (.inr (.inl (x39, xs38)))) : Option (((List Int) × (Int) × (Int)) ⊕ ((Int × (List Int)) ⊕ (Int × (List Int)))))) fuel (a0, a1, (0 : Int))).bind fun res50 => ctl (β := Int × (List Int)) (ρ := Int × (List Int)) (τ := Int × (List Int)) res50 (fun (x48, xs49) => some ((x48, xs49))) (fun q => some (q))
set_option maxRecDepth 20000 in
theorem laws_markInt64S_ok [dr : Dr] {w0 : World} {fuel : Nat} {p0 : Value} {a0 : (List Int)} {a1 : Int} {w00 : World} {L : List Asrt} {r : Int × (List Int)} (H : Heap w00 (oA (rList (rInt .i64)) p0 a0 :: L) w0) (hm : laws_markInt64S_m fuel a0 a1 = some r) :
  Calls Tryz.prog 21 #[p0, .int .i64 a1] w0 fun e w => e = .returned (.int .i64 r.1) ∧ Heap w00 (oA (rList (rInt .i64)) p0 r.2 :: L) w := by
 unfold laws_markInt64S_m at hm
 refine enter (args := [p0, .int .i64 a1]) Tryz.func21 rfl 19 rfl (Nat.le_of_ble_eq_true rfl) (fun a S => ?_)
 refine wp_seq (region_plain ?_)
 refine lq (.int .i64 (0 : Int)) S (q_assign rfl) fun a S => ?_
 refine lx_nil (thenN ?_)
 refine wp_seq (wp_seq (region_plain ?_))
 refine lq (.int .i64 (0 : Int)) S (q_assign rfl) fun a S => ?_
 refine lx_nil (thenN ?_)
 obtain ⟨res50, hit51, hk54⟩ := bind_some hm
 obtain ⟨f52, hf53, hit51⟩ := iter_name hit51
 refine block_loop (fun a w => ∃ (x48 : Int) (xs49 : List Int), Slots a 19 [(1, (.int .i64 x48))] ∧ Heap w00 (oA (rList (rInt .i64)) p0 xs49 :: L) w ∧ res50 = .inl (x48, xs49)) ?_ ?_
 ·rintro a w ⟨x48, xs49, S, H, rfl⟩
  have hm := ctl_inl hk54
  refine thenN ?_
  refine wp_seq (region_plain ?_)
  refine lq (.int .i64 x48) S (q_move rfl) fun a S => ?_
  refine lq (.int .i64 x48) S (q_assign rfl) fun a S => ?_
  refine lx_nil (thenN ?_)
  refine wp_ret ?_
  obtain rfl := Option.some.inj hm
  exact leave1 S rfl rfl ⟨rfl, H⟩
 ·skip
  refine loop_ghost (fun n a w => ∃ (xs38 : List Int) (x39 : Int) (x40 : Int), Slots a 19 [(0, p0), (1, (.int .i64 x39)), (5, (.int .i64 x40))] ∧ Heap w00 (oA (rList (rInt .i64)) p0 xs38 :: L) w ∧ iter f52 n (xs38, x39, x40) = some res50) _ ⟨a0, a1, (0 : Int), S.sub ⟨rfl, rfl, rfl, trivial⟩, H, hit51⟩ ?_
  rintro n a w ⟨xs38, x39, x40, S, H, hit51⟩
  obtain ⟨m55, o56, rfl, hm, hc57⟩ := iter_step hit51
  rw [hf53] at hm
  refine wp_seq (wp_seq (region_plain ?_))
  refine lq (.int .i64 x40) S (q_move rfl) fun a S => ?_
  refine lq p0 S (q_move rfl) fun a S => ?_
  refine lq (.int .i64 (xs38.length : Int)) S (q_lenSl rfl (H.isSl 0 rfl) rfl Tryz.underlying42) fun a S => ?_
  refine lq (.bool (decide (x40 < (xs38.length : Int)))) S (q_lss rfl rfl) fun a S => ?_
  refine lx_nil (thenN ?_)
  refine cond_b S rfl (fun hc58 => ?_) (fun hc58 => ?_)
  ·have hm := ite_t hc58 hm
   refine wp_skip (thenN ?_)
   refine wp_seq ?_
   refine wp_block ?_
   refine wp_seq (region_plain ?_)
   refine lq p0 S (q_move rfl) fun a S => ?_
   refine lq (.int .i64 x40) S (q_move rfl) fun a S => ?_
   refine lq (.int .i64 x39) S (q_move rfl) fun a S => ?_
   obtain ⟨x59, e60, hm⟩ := bind_some hm
   have hlt := lt_of_idx (idx_some e60).2
   refine lq (ePtr p0 (x40.toNat * 1)) S (q_indexAddr rfl (H.isSl 0 rfl) rfl (idx_some e60).1 hlt Tryz.underlying42 Tryz.sizeOf2) fun a S => ?_
   refine lx_storeElem (r := (rInt .i64)) (us := [(.int .i64 x39)]) (off := 0) (e' := x39) S trivial rfl H.putE (ev_zero rfl) rfl (idx_some e60).2 rfl Tryz.sizeOf2 (Nat.le_of_ble_eq_true rfl) (List.forall_mem_cons.2 ⟨rfl, (List.forall_mem_nil _)⟩) (Upd.full rfl (fun w G hG => by cases (show G = [] from hG); exact ⟨rfl, rfl⟩)) (fun w61 H => ⟨trivial, fun a S => ?_⟩)
   refine lx_nil (thenN ?_)
   refine region_plain ?_
   refine lq (.int .i64 x39) S (q_move rfl) fun a S => ?_
   refine lq (.int .i64 (W (x39 + (1 : Int)))) S (q_add rfl rfl) fun a S => ?_
   refine lq (.int .i64 (W (x39 + (1 : Int)))) S (q_assign rfl) fun a S => ?_
   refine lx_nil ?_
   refine inBlock_norm ?_
   refine thenN ?_
   refine region_plain ?_
   refine lq (.int .i64 x40) S (q_move rfl) fun a S => ?_
   refine lq (.int .i64 (W (x40 + (1 : Int)))) S (q_add rfl rfl) fun a S => ?_
   refine lq (.int .i64 (W (x40 + (1 : Int)))) S (q_assign rfl) fun a S => ?_
   refine lx_nil ?_
   exact ⟨m55, Nat.lt_succ_self _, (xs38.set x40.toNat x39), (W (x39 + (1 : Int))), (W (x40 + (1 : Int))), S.sub ⟨rfl, rfl, rfl, trivial⟩, H, it_cont hm hc57⟩
  ·have hm := ite_f hc58 hm
   refine wp_exit ?_
   refine then_exit ?_
   refine then_exit ?_
   refine inBlock_exit ?_
   obtain rfl := it_brk hm hc57
   exact ⟨x39, xs38, S.sub ⟨rfl, trivial⟩, H, rfl⟩

/-- laws.heldInt64S -/
def laws_heldInt64S_m (fuel : Nat) (a0 : (List Int)) (a1 : Int) : Option (Int) :=
  (iter (fun (s : (Int) × (Int)) => (match s with | (x40, x41) => (if (decide (x41 < (a0.length : Int))) = true then (idx a0 x41).bind fun x61 => (if (x61 != x40) = true then some (.inr (.inr (-1 : Int))) else some (.inl ((W (x40 + (1 : Int))), (W (x41 + (1 : Int)))))) else some (.inr (.inl (x40)))) : Option (((Int) × (Int)) ⊕ ((Int) ⊕ (Int))))) fuel (a1, (0 : Int))).bind fun res52 => ctl (β := Int) (ρ := Int) (τ := Int) res52 (fun (x51) => some (x51)) (fun q => some (q))
set_option maxRecDepth 20000 in
theorem laws_heldInt64S_ok [dr : Dr] {w0 : World} {fuel : Nat} {p0 : Value} {a0 : (List Int)} {a1 : Int} {r : Int} (h0 : Rd (rList (rInt .i64)) w0 p0 a0) (hm : laws_heldInt64S_m fuel a0 a1 = some r) :
  Calls Tryz.prog 22 #[p0, .int .i64 a1] w0 fun e w => e = .returned (.int .i64 r) ∧ Heap w0 [] w := by
 unfold laws_heldInt64S_m at hm
 have H := Heap.start w0
 refine enter (args := [p0, .int .i64 a1]) Tryz.func22 rfl 21 rfl (Nat.le_of_ble_eq_true rfl) (fun a S => ?_)
 refine wp_seq (region_plain ?_)
 refine lq (.int .i64 (0 : Int)) S (q_assign rfl) fun a S => ?_
 refine lx_nil (thenN ?_)
 refine wp_seq (wp_seq (region_plain ?_))
 refine lq (.int .i64 (0 : Int)) S (q_assign rfl) fun a S => ?_
 refine lx_nil (thenN ?_)
 obtain ⟨res52, hit53, hk56⟩ := bind_some hm
 obtain ⟨f54, hf55, hit53⟩ := iter_name hit53
 refine block_loop (fun a w => ∃ (x51 : Int), Slots a 21 [(1, (.int .i64 x51))] ∧ Heap w0 [] w ∧ res52 = .inl (x51)) ?_ ?_
 ·rintro a w ⟨x51, S, H, rfl⟩
  have hm := ctl_inl hk56
  refine thenN ?_
  refine wp_seq (region_plain ?_)
  refine lq (.int .i64 x51) S (q_move rfl) fun a S => ?_
  refine lq (.int .i64 x51) S (q_assign rfl) fun a S => ?_
  refine lx_nil (thenN ?_)
  refine wp_ret ?_
  obtain rfl := Option.some.inj hm
  exact leave1 S rfl rfl ⟨rfl, H⟩
 ·skip
  refine loop_ghost (fun n a w => ∃ (x40 : Int) (x41 : Int), Slots a 21 [(0, p0), (1, (.int .i64 x40)), (5, (.int .i64 x41))] ∧ Heap w0 [] w ∧ iter f54 n (x40, x41) = some res52) _ ⟨a1, (0 : Int), S.sub ⟨rfl, rfl, rfl, trivial⟩, H, hit53⟩ ?_
  rintro n a w ⟨x40, x41, S, H, hit53⟩
  obtain ⟨m57, o58, rfl, hm, hc59⟩ := iter_step hit53
  rw [hf55] at hm
  refine wp_seq (wp_seq (region_plain ?_))
  refine lq (.int .i64 x41) S (q_move rfl) fun a S => ?_
  refine lq p0 S (q_move rfl) fun a S => ?_
  refine lq (.int .i64 (a0.length : Int)) S (q_lenSl rfl (h0).isSl rfl Tryz.underlying42) fun a S => ?_
  refine lq (.bool (decide (x41 < (a0.length : Int)))) S (q_lss rfl rfl) fun a S => ?_
  refine lx_nil (thenN ?_)
  refine cond_b S rfl (fun hc60 => ?_) (fun hc60 => ?_)
  ·have hm := ite_t hc60 hm
   refine wp_skip (thenN ?_)
   refine wp_seq ?_
   refine wp_block ?_
   refine wp_seq (wp_seq (region_plain ?_))
   refine lq p0 S (q_move rfl) fun a S => ?_
   refine lq (.int .i64 x41) S (q_move rfl) fun a S => ?_
   obtain ⟨x61, e62, hm⟩ := bind_some hm
   obtain ⟨c63, h64, hat65⟩ := (h0).elem (idx_some e62).2
   obtain rfl := h64
   have hlt := lt_of_idx (idx_some e62).2
   refine lq (ePtr p0 (x41.toNat * 1)) S (q_indexAddr rfl (h0).isSl rfl (idx_some e62).1 hlt Tryz.underlying42 Tryz.sizeOf2) fun a S => ?_
   refine lx_e (.int .i64 x61) S trivial (by decide) rfl trivial (q_load1 rfl Tryz.isAgg2 (by rintro _ rfl; exact ((hat65 0 _ rfl).ext H.ext))) (fun a S => ?_)
   refine lq (.int .i64 x40) S (q_move rfl) fun a S => ?_
   refine lq (.bool (x61 != x40)) S (q_neq rfl rfl) fun a S => ?_
   refine lx_nil (thenN ?_)
   refine cond_b S rfl (fun hc66 => ?_) (fun hc66 => ?_)
   ·have hm := ite_t hc66 hm
    refine wp_seq (region_plain ?_)
    refine lq (.int .i64 (-1 : Int)) S (q_assign rfl) fun a S => ?_
    refine lx_nil (thenN ?_)
    refine wp_ret (then_ret ?_)
    refine inBlock_ret ?_
    refine then_ret ?_
    refine then_ret ?_
    refine inBlock_ret ?_
    refine then_ret ?_
    refine then_ret ?_
    obtain rfl := it_brk hm hc59
    have hm := ctl_inr hk56
    obtain rfl := Option.some.inj hm
    exact leave1 S rfl rfl ⟨rfl, H⟩
   ·have hm := ite_f hc66 hm
    refine wp_skip (thenN ?_)
    refine region_plain ?_
    refine lq (.int .i64 x40) S (q_move rfl) fun a S => ?_
    refine lq (.int .i64 (W (x40 + (1 : Int)))) S (q_add rfl rfl) fun a S => ?_
    refine lq (.int .i64 (W (x40 + (1 : Int)))) S (q_assign rfl) fun a S => ?_
    refine lx_nil ?_
    refine inBlock_norm ?_
    refine thenN ?_
    refine region_plain ?_
    refine lq (.int .i64 x41) S (q_move rfl) fun a S => ?_
    refine lq (.int .i64 (W (x41 + (1 : Int)))) S (q_add rfl rfl) fun a S => ?_
    refine lq (.int .i64 (W (x41 + (1 : Int)))) S (q_assign rfl) fun a S => ?_
    refine lx_nil ?_
    exact ⟨m57, Nat.lt_succ_self _, (W (x40 + (1 : Int))), (W (x41 + (1 : Int))), S.sub ⟨rfl, rfl, rfl, trivial⟩, H, it_cont hm hc59⟩
  ·have hm := ite_f hc60 hm
   refine wp_exit ?_
   refine then_exit ?_
   refine then_exit ?_
   refine inBlock_exit ?_
   obtain rfl := it_brk hm hc59
   exact ⟨x40, S.sub ⟨rfl, trivial⟩, H, rfl⟩

/-- laws.FnExactStatesWhere -/
def laws_FnExactStatesWhere_m (fuel : Nat) (a0 : (List Tlaws_Node)) (a1 : Tlaws_Lts) : Option (Bool) :=
  (laws_szNodeS_m fuel a0 (1048576 : Int)).bind fun x54 => (if (decide (x54 < (0 : Int))) = true then some (true) else (laws_szLts_m fuel (a1.1, a1.2.1, a1.2.2.1, a1.2.2.2) x54).bind fun x60 => (if (decide (x60 < (0 : Int))) = true then some (true) else (laws_toNodeS_m fuel a0).bind fun x68 => (laws_toLts_m fuel (a1.1, a1.2.1, a1.2.2.1, a1.2.2.2)).bind fun x75 => (spec_StatesWhere_m fuel x68 (x75.1, x75.2.1, x75.2.2.1, x75.2.2.2)).bind fun x84 => (laws_toNodeS_m fuel a0).bind fun x91 => (laws_toLts_m fuel (a1.1, a1.2.1, a1.2.2.1, a1.2.2.2)).bind fun x98 => (impl_StatesWhere_m fuel x91 (x98.1, x98.2.1, x98.2.2.1, x98.2.2.2)).bind fun x111 => (laws_eqInt64S_m fuel x111.1 x84.1).bind fun x118 => (if (!x118) = true then some true else some (x111.2 != x84.2)).bind fun t121 => (if t121 = true then some (false) else (laws_toNodeS_m fuel a0).bind fun x127 => (laws_eqNodeS_m fuel x91 x127).bind fun x134 => (if (!x134) = true then some (false) else (laws_toLts_m fuel (a1.1, a1.2.1, a1.2.2.1, a1.2.2.2)).bind fun x142 => (laws_eqLts_m fuel (x98.1, x98.2.1, x98.2.2.1, x98.2.2.2) (x142.1, x142.2.1, x142.2.2.1, x142.2.2.2)).bind fun x151 => (if (!x151) = true then some (false) else (laws_markNodeS_m fuel x91 (1 : Int)).bind fun x157 => (laws_markLts_m fuel (x98.1, x98.2.1, x98.2.2.1, x98.2.2.2) x157.1).bind fun x161 => (if (decide (x161.1 < (0 : Int))) = true then some true else (laws_eqInt64S_m fuel x111.1 x84.1).bind fun x168 => some (!x168)).bind fun t163 => (if t163 = true then some true else some (x111.2 != x84.2)).bind fun t171 => (if t171 = true then some (false) else (laws_markInt64S_m fuel x111.1 (1 : Int)).bind fun x177 => (laws_heldInt64S_m fuel x177.2 (1 : Int)).bind fun x181 => (if (decide (x181 < (0 : Int))) = true then some (false) else (if (x181 != x177.1) = true then some (false) else (laws_toNodeS_m fuel a0).bind fun x190 => (laws_toLts_m fuel (a1.1, a1.2.1, a1.2.2.1, a1.2.2.2)).bind fun x197 => (impl_StatesWhere_m fuel x190 (x197.1, x197.2.1, x197.2.2.1, x197.2.2.2)).bind fun x206 => (laws_eqInt64S_m fuel x206.1 x84.1).bind fun x213 => (if (!x213) = true then some true else some (x206.2 != x84.2)).bind fun t216 => (if t216 = true then some (false) else (laws_heldInt64S_m fuel x177.2 (1 : Int)).bind fun x222 => (if (decide (x222 < (0 : Int))) = true then some (false) else (if (x222 != x177.1) = true then some (false) else some (true))))))))))))
set_option maxRecDepth 20000 in
theorem laws_FnExactStatesWhere_ok {w0 : World} {fuel : Nat} {p0 p1 : Value} {a0 : (List Tlaws_Node)} {a1 : Tlaws_Lts} {r : Bool} (hG : GlobE Tryz.prog w0) (h0 : Rd (rList Rlaws_Node) w0 p0 a0) (h1 : Rd Rlaws_Lts w0 p1 a1) (hm : laws_FnExactStatesWhere_m fuel a0 a1 = some r) :
  Calls Tryz.prog 5 #[p0, p1] w0 fun e w => e = .returned (.bool r) ∧ Heap w0 [] w := by
 unfold laws_FnExactStatesWhere_m at hm
 have H := Heap.start w0
 obtain ⟨c31, rfl, h32⟩ := h1
 obtain ⟨c37, c38, rfl, h39, h40⟩ := h32
 obtain rfl := h39
 obtain ⟨c41, c42, rfl, h43, h44⟩ := h40
 obtain rfl := h43
 obtain ⟨c45, c46, rfl, h47, h48⟩ := h44
 obtain ⟨v33, rfl, h34⟩ := rd_list h47
 obtain ⟨v35, rfl, h36⟩ := rd_list h48
 refine enter (args := [p0, (.agg #[(.int .i64 a1.1), (.int .i64 a1.2.1), v33, v35])]) Tryz.func5 rfl 119 rfl (Nat.le_of_ble_eq_true rfl) (fun a S => ?_)
 refine wp_seq (region_plain ?_)
 refine lx_box S trivial (by decide) rfl H rfl rfl (fun b49 w50 H => ⟨trivial, fun a S => ?_⟩)
 refine lq (.bool false) S (q_assign rfl) fun a S => ?_
 refine lx_nil (thenN ?_)
 refine wp_seq (region_plain ?_)
 refine lq (.int .i64 (1048576 : Int)) S (q_assign rfl) fun a S => ?_
 refine lx_nil (thenN ?_)
 refine wp_seq (region_plain ?_)
 refine lq p0 S (q_move rfl) fun a S => ?_
 refine lq (.int .i64 (1048576 : Int)) S (q_move rfl) fun a S => ?_
 obtain ⟨x54, e55, hm⟩ := bind_some hm
 refine lx_call (xs := [.tmp 17, .tmp 18]) S trivial (by decide) rfl rfl Tryz.call6 ((laws_szNodeS_ok (H.arg h0)  e55).mono ?_)
 rintro e w52 ⟨rfl, Hc53⟩
 have H := H.call0 Hc53
 refine ⟨_, rfl, trivial, fun a S => ?_⟩
 refine lq (.int .i64 x54) S (q_assign rfl) fun a S => ?_
 refine lx_nil (thenN ?_)
 refine wp_seq (wp_seq (region_plain ?_))
 refine lq (.int .i64 x54) S (q_move rfl) fun a S => ?_
 refine lq (.bool (decide (x54 < (0 : Int)))) S (q_lss rfl rfl) fun a S => ?_
 refine lx_nil (thenN ?_)
 refine cond_b S rfl (fun hc57 => ?_) (fun hc57 => ?_)
 ·have hm := ite_t hc57 hm
  refine wp_seq (region_plain ?_)
  refine lq (.bool true) S (q_assign rfl) fun a S => ?_
  refine lx_nil (thenN ?_)
  refine wp_ret (then_ret ?_)
  obtain rfl := Option.some.inj hm
  have H : Heap w0 [] w52 := H.sel [] (by decide)
  exact leave1 S rfl rfl ⟨rfl, H⟩
 ·have hm := ite_f hc57 hm
  refine wp_skip (thenN ?_)
  refine wp_seq (region_plain ?_)
  refine lx_e (.agg #[(.int .i64 a1.1), (.int .i64 a1.2.1), v33, v35]) S trivial (by decide) rfl trivial (q_loadA (cs := [(.int .i64 a1.1), (.int .i64 a1.2.1), v33, v35]) rfl (isP_bp _) Tryz.isAgg26 Tryz.sizeOf26 (by rintro _ rfl; exact (fun j u hu => boxAt (i := 0) H rfl hu))) (fun a S => ?_)
  refine lq (.int .i64 x54) S (q_move rfl) fun a S => ?_
  obtain ⟨x60, e61, hm⟩ := bind_some hm
  refine lx_call (xs := [.tmp 22, .tmp 23]) S trivial (by decide) rfl rfl Tryz.call7 ((laws_szLts_ok ⟨[(.int .i64 a1.1), (.int .i64 a1.2.1), v33, v35], rfl, ⟨[(.int .i64 a1.1)], [(.int .i64 a1.2.1), v33, v35], rfl, rfl, ⟨[(.int .i64 a1.2.1)], [v33, v35], rfl, rfl, ⟨[v33], [v35], rfl, ((H.arg h34)).list_rd, ((H.arg h36)).list_rd⟩⟩⟩⟩  e61).mono ?_)
  rintro e w58 ⟨rfl, Hc59⟩
  have H := H.call0 Hc59
  refine ⟨_, rfl, trivial, fun a S => ?_⟩
  refine lq (.int .i64 x60) S (q_assign rfl) fun a S => ?_
  refine lx_nil (thenN ?_)
  refine wp_seq (wp_seq (region_plain ?_))
  refine lq (.int .i64 x60) S (q_move rfl) fun a S => ?_
  refine lq (.bool (decide (x60 < (0 : Int)))) S (q_lss rfl rfl) fun a S => ?_
  refine lx_nil (thenN ?_)
  refine cond_b S rfl (fun hc63 => ?_) (fun hc63 => ?_)
  ·have hm := ite_t hc63 hm
   refine wp_seq (region_plain ?_)
   refine lq (.bool true) S (q_assign rfl) fun a S => ?_
   refine lx_nil (thenN ?_)
   refine wp_ret (then_ret ?_)
   obtain rfl := Option.some.inj hm
   have H : Heap w0 [] w58 := H.sel [] (by decide)
   exact leave1 S rfl rfl ⟨rfl, H⟩
  ·have hm := ite_f hc63 hm
   refine wp_skip (thenN ?_)
   refine wp_seq ?_
   refine region_drawG (fun w1 => Heap w0 [bA b49 [(.int .i64 a1.1), (.int .i64 a1.2.1), v33, v35] 26] w1) (fun i => [1, 3, 4].contains i) mixed (by kernel_rfl) (fun w65 he64 => ?_)
   have H := H.later he64
   refine ⟨H.sel [0] (by decide), ?_⟩
   refine lq p0 S (q_move rfl) fun a S => ?_
   obtain ⟨x68, e69, hm⟩ := bind_some hm
   refine lx_call (xs := [.tmp 28]) S trivial (by decide) rfl rfl Tryz.call9 ((laws_toNodeS_ok (H.arg h0) e69).mono ?_)
   rintro e w66 ⟨v70, rfl, Hc67⟩
   have H := H.call1 Hc67
   refine ⟨_, rfl, H.sel [1] (by decide), fun a S => ?_⟩
   refine lq (.agg #[(.int .i64 a1.1), (.int .i64 a1.2.1), v33, v35]) S (q_loadA (cs := [(.int .i64 a1.1), (.int .i64 a1.2.1), v33, v35]) rfl (isP_bp _) Tryz.isAgg26 Tryz.sizeOf26 (fun w1 hC => (fun j u hu => boxAt (i := 0) hC rfl hu))) fun a S => ?_
   obtain ⟨x75, e76, hm⟩ := bind_some hm
   refine lx_call (xs := [.tmp 30]) S trivial (by decide) rfl rfl Tryz.call10 ((laws_toLts_ok ⟨[(.int .i64 a1.1), (.int .i64 a1.2.1), v33, v35], rfl, ⟨[(.int .i64 a1.1)], [(.int .i64 a1.2.1), v33, v35], rfl, rfl, ⟨[(.int .i64 a1.2.1)], [v33, v35], rfl, rfl, ⟨[v33], [v35], rfl, ((H.arg h34)).list_rd, ((H.arg h36)).list_rd⟩⟩⟩⟩ e76).mono ?_)
   rintro e w73 ⟨v77, v78, rfl, Hc74⟩
   have H := H.call2 Hc74
   refine ⟨_, rfl, H.sel [3] (by decide), fun a S => ?_⟩
   obtain ⟨x84, e85, hm⟩ := bind_some hm
   refine lx_call (xs := [.tmp 29, .tmp 31]) S trivial (by decide) rfl rfl Tryz.call16 ((spec_StatesWhere_ok (H.rdAt 2 rfl) ⟨[(.int .i64 x75.1), (.int .i64 x75.2.1), v77, v78], rfl, ⟨[(.int .i64 x75.1)], [(.int .i64 x75.2.1), v77, v78], rfl, rfl, ⟨[(.int .i64 x75.2.1)], [v77, v78], rfl, rfl, ⟨[v77], [v78], rfl, ((H.rdAt 0 rfl)).list_rd, ((H.rdAt 1 rfl)).list_rd⟩⟩⟩⟩ e85).mono ?_)
   rintro e w82 ⟨v86, rfl, Hc83⟩
   have H := H.call1 Hc83
   refine ⟨_, rfl, H.sel [4] (by decide), fun a S => ?_⟩
   refine lq (.tuple #[v86, (.int .i64 x84.2)]) S (q_move rfl) fun a S => ?_
   refine lq v86 S (q_extract rfl rfl) fun a S => ?_
   refine lq (.int .i64 x84.2) S (q_extract rfl rfl) fun a S => ?_
   refine lq v86 S (q_assign rfl) fun a S => ?_
   refine lq (.int .i64 x84.2) S (q_assign rfl) fun a S => ?_
   refine lx_nil (thenN ?_)
   refine wp_seq (region_plain ?_)
   refine lq p0 S (q_move rfl) fun a S => ?_
   obtain ⟨x91, e92, hm⟩ := bind_some hm
   refine lx_call (xs := [.tmp 35]) S trivial (by decide) rfl rfl Tryz.call9 ((laws_toNodeS_ok (H.arg h0) e92).mono ?_)
   rintro e w89 ⟨v93, rfl, Hc90⟩
   have H := H.call1 Hc90
   refine ⟨_, rfl, trivial, fun a S => ?_⟩
   refine lq v93 S (q_assign rfl) fun a S => ?_
   refine lx_nil (thenN ?_)
   refine wp_seq (region_plain ?_)
   refine lx_e (.agg #[(.int .i64 a1.1), (.int .i64 a1.2.1), v33, v35]) S trivial (by decide) rfl trivial (q_loadA (cs := [(.int .i64 a1.1), (.int .i64 a1.2.1), v33, v35]) rfl (isP_bp _) Tryz.isAgg26 Tryz.sizeOf26 (by rintro _ rfl; exact (fun j u hu => boxAt (i := 5) H rfl hu))) (fun a S => ?_)
   obtain ⟨x98, e99, hm⟩ := bind_some hm
   refine lx_call (xs := [.tmp 37]) S trivial (by decide) rfl rfl Tryz.call10 ((laws_toLts_ok ⟨[(.int .i64 a1.1), (.int .i64 a1.2.1), v33, v35], rfl, ⟨[(.int .i64 a1.1)], [(.int .i64 a1.2.1), v33, v35], rfl, rfl, ⟨[(.int .i64 a1.2.1)], [v33, v35], rfl, rfl, ⟨[v33], [v35], rfl, ((H.arg h34)).list_rd, ((H.arg h36)).list_rd⟩⟩⟩⟩ e99).mono ?_)
   rintro e w96 ⟨v100, v101, rfl, Hc97⟩
   have H := H.call2 Hc97
   refine ⟨_, rfl, trivial, fun a S => ?_⟩
   refine lx_alloc S trivial (by decide) rfl H Tryz.zeroValue35 rfl (fun b105 w106 H => ⟨trivial, fun a S => ?_⟩)
   refine lx_storeBox (o := 0) (i := 0) (us := [(.int .i64 x98.1), (.int .i64 x98.2.1), v100, v101]) (cs' := [(.int .i64 x98.1), (.int .i64 x98.2.1), v100, v101]) S trivial rfl H rfl rfl rfl rfl Tryz.sizeOf35 (Nat.le_of_ble_eq_true rfl) (List.forall_mem_cons.2 ⟨rfl, (List.forall_mem_cons.2 ⟨rfl, (List.forall_mem_cons.2 ⟨one_sl (H.isSl 1 rfl), (List.forall_mem_cons.2 ⟨one_sl (H.isSl 2 rfl), (List.forall_mem_nil _)⟩)⟩)⟩)⟩) rfl (fun w108 H => ⟨trivial, fun a S => ?_⟩)
   change Heap w0 [bA b105 [(.int .i64 x98.1), (.int .i64 x98.2.1), v100, v101] 35, oA (rList rStr) v100 x98.2.2.1, oA (rList Rimpl_Edge) v101 x98.2.2.2, oA (rList Rimpl_Node) v93 x91, oA (rList (rInt .i64)) v86 x84.1, oA (rList rStr) v77 x75.2.2.1, oA (rList Rimpl_Edge) v78 x75.2.2.2, oA (rList Rimpl_Node) v70 x68, bA b49 [(.int .i64 a1.1), (.int .i64 a1.2.1), v33, v35] 26] w108 at H
   refine lx_nil (thenN ?_)
   refine wp_seq (region_plain ?_)
   refine lq v93 S (q_move rfl) fun a S => ?_
   refine lx_e (.agg #[(.int .i64 x98.1), (.int .i64 x98.2.1), v100, v101]) S trivial (by decide) rfl trivial (q_loadA (cs := [(.int .i64 x98.1), (.int .i64 x98.2.1), v100, v101]) rfl (isP_bp _) Tryz.isAgg35 Tryz.sizeOf35 (by rintro _ rfl; exact (fun j u hu => boxAt (i := 0) H rfl hu))) (fun a S => ?_)
   obtain ⟨x111, e112, hm⟩ := bind_some hm
   refine lx_call (xs := [.tmp 40, .tmp 41]) S trivial (by decide) rfl rfl Tryz.call17 ((impl_StatesWhere_ok (hG.ext H.ext) (H.rdAt 3 rfl) ⟨[(.int .i64 x98.1), (.int .i64 x98.2.1), v100, v101], rfl, ⟨[(.int .i64 x98.1)], [(.int .i64 x98.2.1), v100, v101], rfl, rfl, ⟨[(.int .i64 x98.2.1)], [v100, v101], rfl, rfl, ⟨[v100], [v101], rfl, ((H.rdAt 1 rfl)).list_rd, ((H.rdAt 2 rfl)).list_rd⟩⟩⟩⟩ e112).mono ?_)
   rintro e w109 ⟨v113, rfl, Hc110⟩
   have H := H.call1 Hc110
   refine ⟨_, rfl, trivial, fun a S => ?_⟩
   refine lq (.tuple #[v113, (.int .i64 x111.2)]) S (q_move rfl) fun a S => ?_
   refine lq v113 S (q_extract rfl rfl) fun a S => ?_
   refine lq (.int .i64 x111.2) S (q_extract rfl rfl) fun a S => ?_
   refine lq v113 S (q_assign rfl) fun a S => ?_
   refine lq (.int .i64 x111.2) S (q_assign rfl) fun a S => ?_
   refine lx_nil (thenN ?_)
   refine wp_seq (wp_seq (region_plain ?_))
   refine lq v113 S (q_move rfl) fun a S => ?_
   refine lq v86 S (q_move rfl) fun a S => ?_
   obtain ⟨x118, e119, hm⟩ := bind_some hm
   refine lx_call (xs := [.tmp 45, .tmp 46]) S trivial (by decide) rfl rfl Tryz.call18 ((laws_eqInt64S_ok (H.rdAt 0 rfl) (H.rdAt 5 rfl) e119).mono ?_)
   rintro e w116 ⟨rfl, Hc117⟩
   have H := H.call0 Hc117
   refine ⟨_, rfl, trivial, fun a S => ?_⟩
   refine lq (.bool (!x118)) S (q_not rfl) fun a S => ?_
   refine lq (.bool (!x118)) S (q_move rfl) fun a S => ?_
   obtain ⟨t121, e122, hm⟩ := bind_some hm
   refine lx_cut 4 (fun a w => Slots a 119 [(0, p0), (3, (bp b49)), (6, v86), (7, (.int .i64 x84.2)), (8, v93), (9, (bp b105)), (10, v113), (11, (.int .i64 x111.2)), (53, (.bool t121))] ∧ Heap w0 [oA (rList (rInt .i64)) v113 x111.1, bA b105 [(.int .i64 x98.1), (.int .i64 x98.2.1), v100, v101] 35, oA (rList rStr) v100 x98.2.2.1, oA (rList Rimpl_Edge) v101 x98.2.2.2, oA (rList Rimpl_Node) v93 x91, oA (rList (rInt .i64)) v86 x84.1, bA b49 [(.int .i64 a1.1), (.int .i64 a1.2.1), v33, v35] 26] w) ?_ ?_
   ·by_cases hc123 : (!x118) = true
    ·have hm := ite_t hc123 e122
     refine lx_skip S rfl rfl (isB_ne hc123) (by decide) (fun a S => ?_)
     refine lx_skip S rfl rfl (isB_ne hc123) (by decide) (fun a S => ?_)
     refine lx_skip S rfl rfl (isB_ne hc123) (by decide) (fun a S => ?_)
     refine lq (.bool true) S (q_pickT' rfl hc123 rfl) fun a S => ?_
     refine lx_nil ?_
     obtain rfl := Option.some.inj hm
     have H := H.sel [0, 1, 2, 3, 4, 5, 9] (by decide)
     exact ⟨S.sub ⟨rfl, rfl, rfl, rfl, rfl, rfl, rfl, rfl, rfl, trivial⟩, H⟩
    ·have hm := ite_f (eq_false_of_ne_true hc123) e122
     have hc123 : (!x118) = false := eq_false_of_ne_true hc123
     refine lx_q (.int .i64 x111.2) S (want_b rfl rfl hc123) (by decide) (q_move rfl) (fun a S => ?_)
     refine lx_q (.int .i64 x84.2) S (want_b rfl rfl hc123) (by decide) (q_move rfl) (fun a S => ?_)
     refine lx_q (.bool (x111.2 != x84.2)) S (want_b rfl rfl hc123) (by decide) (q_neq rfl rfl) (fun a S => ?_)
     refine lq (.bool (x111.2 != x84.2)) S (q_pickF' rfl hc123 rfl) fun a S => ?_
     refine lx_nil ?_
     obtain rfl := Option.some.inj hm
     have H := H.sel [0, 1, 2, 3, 4, 5, 9] (by decide)
     exact ⟨S.sub ⟨rfl, rfl, rfl, rfl, rfl, rfl, rfl, rfl, rfl, trivial⟩, H⟩
   ·rintro a w ⟨S, H⟩
    refine lx_nil (thenN ?_)
    refine cond_b S rfl (fun hc124 => ?_) (fun hc124 => ?_)
    ·have hm := ite_t hc124 hm
     refine wp_seq (region_plain ?_)
     refine lq (.bool false) S (q_assign rfl) fun a S => ?_
     refine lx_nil (thenN ?_)
     refine wp_ret (then_ret ?_)
     obtain rfl := Option.some.inj hm
     have H : Heap w0 [] w := H.sel [] (by decide)
     exact leave1 S rfl rfl ⟨rfl, H⟩
    ·have hm := ite_f hc124 hm
     refine wp_skip (thenN ?_)
     refine wp_seq (wp_seq (region_plain ?_))
     refine lq v93 S (q_move rfl) fun a S => ?_
     refine lq p0 S (q_move rfl) fun a S => ?_
     obtain ⟨x127, e128, hm⟩ := bind_some hm
     refine lx_call (xs := [.tmp 55]) S trivial (by decide) rfl rfl Tryz.call9 ((laws_toNodeS_ok (H.arg h0) e128).mono ?_)
     rintro e w125 ⟨v129, rfl, Hc126⟩
     have H := H.call1 Hc126
     refine ⟨_, rfl, trivial, fun a S => ?_⟩
     obtain ⟨x134, e135, hm⟩ := bind_some hm
     refine lx_call (xs := [.tmp 54, .tmp 56]) S trivial (by decide) rfl rfl Tryz.call12 ((laws_eqNodeS_ok (H.rdAt 5 rfl) (H.rdAt 0 rfl) e135).mono ?_)
     rintro e w132 ⟨rfl, Hc133⟩
     have H := H.call0 Hc133
     refine ⟨_, rfl, trivial, fun a S => ?_⟩
     refine lq (.bool (!x134)) S (q_not rfl) fun a S => ?_
     refine lx_nil (thenN ?_)
     refine cond_b S rfl (fun hc137 => ?_) (fun hc137 => ?_)
     ·have hm := ite_t hc137 hm
      refine wp_seq (region_plain ?_)
      refine lq (.bool false) S (q_assign rfl) fun a S => ?_
      refine lx_nil (thenN ?_)
      refine wp_ret (then_ret ?_)
      obtain rfl := Option.some.inj hm
      have H : Heap w0 [] w132 := H.sel [] (by decide)
      exact leave1 S rfl rfl ⟨rfl, H⟩
     ·have hm := ite_f hc137 hm
      refine wp_skip (thenN ?_)
      refine wp_seq ?_
      refine wp_seq ?_
      refine region_drawG (fun w1 => Heap w0 [bA b105 [(.int .i64 x98.1), (.int .i64 x98.2.1), v100, v101] 35, bA b49 [(.int .i64 a1.1), (.int .i64 a1.2.1), v33, v35] 26] w1) (fun i => [2, 3].contains i) mixed (by kernel_rfl) (fun w139 he138 => ?_)
      have H := H.later he138
      refine ⟨H.sel [2, 7] (by decide), ?_⟩
      refine lq (.agg #[(.int .i64 x98.1), (.int .i64 x98.2.1), v100, v101]) S (q_loadA (cs := [(.int .i64 x98.1), (.int .i64 x98.2.1), v100, v101]) rfl (isP_bp _) Tryz.isAgg35 Tryz.sizeOf35 (fun w1 hC => (fun j u hu => boxAt (i := 0) hC rfl hu))) fun a S => ?_
      refine lq (.agg #[(.int .i64 a1.1), (.int .i64 a1.2.1), v33, v35]) S (q_loadA (cs := [(.int .i64 a1.1), (.int .i64 a1.2.1), v33, v35]) rfl (isP_bp _) Tryz.isAgg26 Tryz.sizeOf26 (fun w1 hC => (fun j u hu => boxAt (i := 1) hC rfl hu))) fun a S => ?_
      obtain ⟨x142, e143, hm⟩ := bind_some hm
      refine lx_call (xs := [.tmp 60]) S trivial (by decide) rfl rfl Tryz.call10 ((laws_toLts_ok ⟨[(.int .i64 a1.1), (.int .i64 a1.2.1), v33, v35], rfl, ⟨[(.int .i64 a1.1)], [(.int .i64 a1.2.1), v33, v35], rfl, rfl, ⟨[(.int .i64 a1.2.1)], [v33, v35], rfl, rfl, ⟨[v33], [v35], rfl, ((H.arg h34)).list_rd, ((H.arg h36)).list_rd⟩⟩⟩⟩ e143).mono ?_)
      rintro e w140 ⟨v144, v145, rfl, Hc141⟩
      have H := H.call2 Hc141
      refine ⟨_, rfl, H.sel [4, 9] (by decide), fun a S => ?_⟩
      obtain ⟨x151, e152, hm⟩ := bind_some hm
      refine lx_call (xs := [.tmp 59, .tmp 61]) S trivial (by decide) rfl rfl Tryz.call13 ((laws_eqLts_ok ⟨[(.int .i64 x98.1), (.int .i64 x98.2.1), v100, v101], rfl, ⟨[(.int .i64 x98.1)], [(.int .i64 x98.2.1), v100, v101], rfl, rfl, ⟨[(.int .i64 x98.2.1)], [v100, v101], rfl, rfl, ⟨[v100], [v101], rfl, ((H.rdAt 5 rfl)).list_rd, ((H.rdAt 6 rfl)).list_rd⟩⟩⟩⟩ ⟨[(.int .i64 x142.1), (.int .i64 x142.2.1), v144, v145], rfl, ⟨[(.int .i64 x142.1)], [(.int .i64 x142.2.1), v144, v145], rfl, rfl, ⟨[(.int .i64 x142.2.1)], [v144, v145], rfl, rfl, ⟨[v144], [v145], rfl, ((H.rdAt 0 rfl)).list_rd, ((H.rdAt 1 rfl)).list_rd⟩⟩⟩⟩ e152).mono ?_)
      rintro e w149 ⟨rfl, Hc150⟩
      have H := H.call0 Hc150
      refine ⟨_, rfl, H.sel [4, 9] (by decide), fun a S => ?_⟩
      refine lq (.bool (!x151)) S (q_not rfl) fun a S => ?_
      refine lx_nil (thenN ?_)
      refine cond_b S rfl (fun hc154 => ?_) (fun hc154 => ?_)
      ·have hm := ite_t hc154 hm
       refine wp_seq (region_plain ?_)
       refine lq (.bool false) S (q_assign rfl) fun a S => ?_
       refine lx_nil (thenN ?_)
       refine wp_ret (then_ret ?_)
       obtain rfl := Option.some.inj hm
       have H : Heap w0 [] w149 := H.sel [] (by decide)
       exact leave1 S rfl rfl ⟨rfl, H⟩
      ·have hm := ite_f hc154 hm
       refine wp_skip (thenN ?_)
       refine wp_seq (region_plain ?_)
       refine lq (.int .i64 (1 : Int)) S (q_assign rfl) fun a S => ?_
       refine lx_nil (thenN ?_)
       refine wp_seq (region_plain ?_)
       refine lq v93 S (q_move rfl) fun a S => ?_
       refine lq (.int .i64 (1 : Int)) S (q_move rfl) fun a S => ?_
       obtain ⟨x157, e158, hm⟩ := bind_some hm
       have H : Heap w0 [oA (rList Rimpl_Node) v93 x91, oA (rList rStr) v144 x142.2.2.1, oA (rList Rimpl_Edge) v145 x142.2.2.2, oA (rList Rimpl_Node) v129 x127, oA (rList (rInt .i64)) v113 x111.1, bA b105 [(.int .i64 x98.1), (.int .i64 x98.2.1), v100, v101] 35, oA (rList rStr) v100 x98.2.2.1, oA (rList Rimpl_Edge) v101 x98.2.2.2, oA (rList (rInt .i64)) v86 x84.1, bA b49 [(.int .i64 a1.1), (.int .i64 a1.2.1), v33, v35] 26] w149 := H.front 7 rfl
       refine lx_call (xs := [.tmp 64, .tmp 65]) S trivial (by decide) rfl rfl Tryz.call19 ((laws_markNodeS_ok H  e158).mono ?_)
       rintro e w155 ⟨rfl, H⟩
       refine ⟨_, rfl, trivial, fun a S => ?_⟩
       refine lq (.int .i64 x157.1) S (q_assign rfl) fun a S => ?_
       refine lx_nil (thenN ?_)
       refine wp_seq (region_plain ?_)
       refine lx_e (.agg #[(.int .i64 x98.1), (.int .i64 x98.2.1), v100, v101]) S trivial (by decide) rfl trivial (q_loadA (cs := [(.int .i64 x98.1), (.int .i64 x98.2.1), v100, v101]) rfl (isP_bp _) Tryz.isAgg35 Tryz.sizeOf35 (by rintro _ rfl; exact (fun j u hu => boxAt (i := 5) H rfl hu))) (fun a S => ?_)
       refine lq (.int .i64 x157.1) S (q_move rfl) fun a S => ?_
       obtain ⟨x161, e162, hm⟩ := bind_some hm
       have H : Heap w0 [oA (rList Rimpl_Edge) v101 x98.2.2.2, oA (rList Rimpl_Node) v93 x157.2, oA (rList rStr) v144 x142.2.2.1, oA (rList Rimpl_Edge) v145 x142.2.2.2, oA (rList Rimpl_Node) v129 x127, oA (rList (rInt .i64)) v113 x111.1, bA b105 [(.int .i64 x98.1), (.int .i64 x98.2.1), v100, v101] 35, oA (rList rStr) v100 x98.2.2.1, oA (rList (rInt .i64)) v86 x84.1, bA b49 [(.int .i64 a1.1), (.int .i64 a1.2.1), v33, v35] 26] w155 := H.front 7 rfl
       have H : Heap w0 [oA (rList rStr) v100 x98.2.2.1, oA (rList Rimpl_Edge) v101 x98.2.2.2, oA (rList Rimpl_Node) v93 x157.2, oA (rList rStr) v144 x142.2.2.1, oA (rList Rimpl_Edge) v145 x142.2.2.2, oA (rList Rimpl_Node) v129 x127, oA (rList (rInt .i64)) v113 x111.1, bA b105 [(.int .i64 x98.1), (.int .i64 x98.2.1), v100, v101] 35, oA (rList (rInt .i64)) v86 x84.1, bA b49 [(.int .i64 a1.1), (.int .i64 a1.2.1), v33, v35] 26] w155 := H.front 7 rfl
       refine lx_call (xs := [.tmp 67, .tmp 68]) S trivial (by decide) rfl rfl Tryz.call20 ((laws_markLts_ok H  e162).mono ?_)
       rintro e w159 ⟨rfl, H⟩
       refine ⟨_, rfl, trivial, fun a S => ?_⟩
       refine lq (.int .i64 x161.1) S (q_assign rfl) fun a S => ?_
       refine lx_nil (thenN ?_)
       refine wp_seq (wp_seq (region_plain ?_))
       refine lq (.int .i64 x161.1) S (q_move rfl) fun a S => ?_
       refine lq (.bool (decide (x161.1 < (0 : Int)))) S (q_lss rfl rfl) fun a S => ?_
       refine lq (.bool (decide (x161.1 < (0 : Int)))) S (q_move rfl) fun a S => ?_
       obtain ⟨t163, e164, hm⟩ := bind_some hm
       refine lx_cut 5 (fun a w => Slots a 119 [(0, p0), (3, (bp b49)), (6, v86), (7, (.int .i64 x84.2)), (10, v113), (11, (.int .i64 x111.2)), (77, (.bool t163))] ∧ Heap w0 [oA (rList (rInt .i64)) v113 x111.1, oA (rList (rInt .i64)) v86 x84.1, bA b49 [(.int .i64 a1.1), (.int .i64 a1.2.1), v33, v35] 26] w) ?_ ?_
       ·by_cases hc165 : (decide (x161.1 < (0 : Int))) = true
        ·have hm := ite_t hc165 e164
         refine lx_skip S rfl rfl (isB_ne hc165) (by decide) (fun a S => ?_)
         refine lx_skip S rfl rfl (isB_ne hc165) (by decide) (fun a S => ?_)
         refine lx_skip S rfl rfl (isB_ne hc165) (by decide) (fun a S => ?_)
         refine lx_skip S rfl rfl (isB_ne hc165) (by decide) (fun a S => ?_)
         refine lq (.bool true) S (q_pickT' rfl hc165 rfl) fun a S => ?_
         refine lx_nil ?_
         obtain rfl := Option.some.inj hm
         have H := H.sel [6, 8, 9] (by decide)
         exact ⟨S.sub ⟨rfl, rfl, rfl, rfl, rfl, rfl, rfl, trivial⟩, H⟩
        ·have hm := ite_f (eq_false_of_ne_true hc165) e164
         have hc165 : (decide (x161.1 < (0 : Int))) = false := eq_false_of_ne_true hc165
         refine lx_q v113 S (want_b rfl rfl hc165) (by decide) (q_move rfl) (fun a S => ?_)
         refine lx_q v86 S (want_b rfl rfl hc165) (by decide) (q_move rfl) (fun a S => ?_)
         obtain ⟨x168, e169, hm⟩ := bind_some hm
         refine lx_call (xs := [.tmp 73, .tmp 74]) S (want_b rfl rfl hc165) (by decide) rfl rfl Tryz.call18 ((laws_eqInt64S_ok (H.rdAt 6 rfl) (H.rdAt 8 rfl) e169).mono ?_)
         rintro e w166 ⟨rfl, Hc167⟩
         have H := H.call0 Hc167
         refine ⟨_, rfl, trivial, fun a S => ?_⟩
         refine lx_q (.bool (!x168)) S (want_b rfl rfl hc165) (by decide) (q_not rfl) (fun a S => ?_)
         refine lq (.bool (!x168)) S (q_pickF' rfl hc165 rfl) fun a S => ?_
         refine lx_nil ?_
         obtain rfl := Option.some.inj hm
         have H := H.sel [6, 8, 9] (by decide)
         exact ⟨S.sub ⟨rfl, rfl, rfl, rfl, rfl, rfl, rfl, trivial⟩, H⟩
       ·rintro a w ⟨S, H⟩
        refine lq (.bool t163) S (q_move rfl) fun a S => ?_
        obtain ⟨t171, e172, hm⟩ := bind_some hm
        refine lx_cut 4 (fun a w => Slots a 119 [(0, p0), (3, (bp b49)), (6, v86), (7, (.int .i64 x84.2)), (10, v113), (82, (.bool t171))] ∧ Heap w0 [oA (rList (rInt .i64)) v113 x111.1, oA (rList (rInt .i64)) v86 x84.1, bA b49 [(.int .i64 a1.1), (.int .i64 a1.2.1), v33, v35] 26] w) ?_ ?_
        ·by_cases hc173 : t163 = true
         ·have hm := ite_t hc173 e172
          refine lx_skip S rfl rfl (isB_ne hc173) (by decide) (fun a S => ?_)
          refine lx_skip S rfl rfl (isB_ne hc173) (by decide) (fun a S => ?_)
          refine lx_skip S rfl rfl (isB_ne hc173) (by decide) (fun a S => ?_)
          refine lq (.bool true) S (q_pickT' rfl hc173 rfl) fun a S => ?_
          refine lx_nil ?_
          obtain rfl := Option.some.inj hm
          exact ⟨S.sub ⟨rfl, rfl, rfl, rfl, rfl, rfl, trivial⟩, H⟩
         ·have hm := ite_f (eq_false_of_ne_true hc173) e172
          have hc173 : t163 = false := eq_false_of_ne_true hc173
          refine lx_q (.int .i64 x111.2) S (want_b rfl rfl hc173) (by decide) (q_move rfl) (fun a S => ?_)
          refine lx_q (.int .i64 x84.2) S (want_b rfl rfl hc173) (by decide) (q_move rfl) (fun a S => ?_)
          refine lx_q (.bool (x111.2 != x84.2)) S (want_b rfl rfl hc173) (by decide) (q_neq rfl rfl) (fun a S => ?_)
          refine lq (.bool (x111.2 != x84.2)) S (q_pickF' rfl hc173 rfl) fun a S => ?_
          refine lx_nil ?_
          obtain rfl := Option.some.inj hm
          exact ⟨S.sub ⟨rfl, rfl, rfl, rfl, rfl, rfl, trivial⟩, H⟩
        ·rintro a w ⟨S, H⟩
         refine lx_nil (thenN ?_)
         refine cond_b S rfl (fun hc174 => ?_) (fun hc174 => ?_)
         ·have hm := ite_t hc174 hm
          refine wp_seq (region_plain ?_)
          refine lq (.bool false) S (q_assign rfl) fun a S => ?_
          refine lx_nil (thenN ?_)
          refine wp_ret (then_ret ?_)
          obtain rfl := Option.some.inj hm
          have H : Heap w0 [] w := H.sel [] (by decide)
          exact leave1 S rfl rfl ⟨rfl, H⟩
         ·have hm := ite_f hc174 hm
          refine wp_skip (thenN ?_)
          refine wp_seq (region_plain ?_)
          refine lq (.int .i64 (1 : Int)) S (q_assign rfl) fun a S => ?_
          refine lx_nil (thenN ?_)
          refine wp_seq (region_plain ?_)
          refine lq v113 S (q_move rfl) fun a S => ?_
          refine lq (.int .i64 (1 : Int)) S (q_move rfl) fun a S => ?_
          obtain ⟨x177, e178, hm⟩ := bind_some hm
          refine lx_call (xs := [.tmp 83, .tmp 84]) S trivial (by decide) rfl rfl Tryz.call21 ((laws_markInt64S_ok H  e178).mono ?_)
          rintro e w175 ⟨rfl, H⟩
          refine ⟨_, rfl, trivial, fun a S => ?_⟩
          refine lq (.int .i64 x177.1) S (q_assign rfl) fun a S => ?_
          refine lx_nil (thenN ?_)
          refine wp_seq (region_plain ?_)
          refine lq (.int .i64 (1 : Int)) S (q_assign rfl) fun a S => ?_
          refine lx_nil (thenN ?_)
          refine wp_seq (region_plain ?_)
          refine lq v113 S (q_move rfl) fun a S => ?_
          refine lq (.int .i64 (1 : Int)) S (q_move rfl) fun a S => ?_
          obtain ⟨x181, e182, hm⟩ := bind_some hm
          refine lx_call (xs := [.tmp 86, .tmp 87]) S trivial (by decide) rfl rfl Tryz.call22 ((laws_heldInt64S_ok (H.rdAt 0 rfl)  e182).mono ?_)
          rintro e w179 ⟨rfl, Hc180⟩
          have H := H.call0 Hc180
          refine ⟨_, rfl, trivial, fun a S => ?_⟩
          refine lq (.int .i64 x181) S (q_assign rfl) fun a S => ?_
          refine lx_nil (thenN ?_)
          refine wp_seq (wp_seq (region_plain ?_))
          refine lq (.int .i64 x181) S (q_move rfl) fun a S => ?_
          refine lq (.bool (decide (x181 < (0 : Int)))) S (q_lss rfl rfl) fun a S => ?_
          refine lx_nil (thenN ?_)
          refine cond_b S rfl (fun hc184 => ?_) (fun hc184 => ?_)
          ·have hm := ite_t hc184 hm
           refine wp_seq (region_plain ?_)
           refine lq (.bool false) S (q_assign rfl) fun a S => ?_
           refine lx_nil (thenN ?_)
           refine wp_ret (then_ret ?_)
           obtain rfl := Option.some.inj hm
           have H : Heap w0 [] w179 := H.sel [] (by decide)
           exact leave1 S rfl rfl ⟨rfl, H⟩
          ·have hm := ite_f hc184 hm
           refine wp_skip (thenN ?_)
           refine wp_seq (wp_seq (region_plain ?_))
           refine lq (.int .i64 x181) S (q_move rfl) fun a S => ?_
           refine lq (.int .i64 x177.1) S (q_move rfl) fun a S => ?_
           refine lq (.bool (x181 != x177.1)) S (q_neq rfl rfl) fun a S => ?_
           refine lx_nil (thenN ?_)
           refine cond_b S rfl (fun hc185 => ?_) (fun hc185 => ?_)
           ·have hm := ite_t hc185 hm
            refine wp_seq (region_plain ?_)
            refine lq (.bool false) S (q_assign rfl) fun a S => ?_
            refine lx_nil (thenN ?_)
            refine wp_ret (then_ret ?_)
            obtain rfl := Option.some.inj hm
            have H : Heap w0 [] w179 := H.sel [] (by decide)
            exact leave1 S rfl rfl ⟨rfl, H⟩
           ·have hm := ite_f hc185 hm
            refine wp_skip (thenN ?_)
            refine wp_seq ?_
            refine region_drawG (fun w1 => Heap w0 [bA b49 [(.int .i64 a1.1), (.int .i64 a1.2.1), v33, v35] 26] w1) (fun i => [1, 3, 4].contains i) mixed (by kernel_rfl) (fun w187 he186 => ?_)
            have H := H.later he186
            refine ⟨H.sel [2] (by decide), ?_⟩
            refine lq p0 S (q_move rfl) fun a S => ?_
            obtain ⟨x190, e191, hm⟩ := bind_some hm
            refine lx_call (xs := [.tmp 95]) S trivial (by decide) rfl rfl Tryz.call9 ((laws_toNodeS_ok (H.arg h0) e191).mono ?_)
            rintro e w188 ⟨v192, rfl, Hc189⟩
            have H := H.call1 Hc189
            refine ⟨_, rfl, H.sel [3] (by decide), fun a S => ?_⟩
            refine lq (.agg #[(.int .i64 a1.1), (.int .i64 a1.2.1), v33, v35]) S (q_loadA (cs := [(.int .i64 a1.1), (.int .i64 a1.2.1), v33, v35]) rfl (isP_bp _) Tryz.isAgg26 Tryz.sizeOf26 (fun w1 hC => (fun j u hu => boxAt (i := 0) hC rfl hu))) fun a S => ?_
            obtain ⟨x197, e198, hm⟩ := bind_some hm
            refine lx_call (xs := [.tmp 97]) S trivial (by decide) rfl rfl Tryz.call10 ((laws_toLts_ok ⟨[(.int .i64 a1.1), (.int .i64 a1.2.1), v33, v35], rfl, ⟨[(.int .i64 a1.1)], [(.int .i64 a1.2.1), v33, v35], rfl, rfl, ⟨[(.int .i64 a1.2.1)], [v33, v35], rfl, rfl, ⟨[v33], [v35], rfl, ((H.arg h34)).list_rd, ((H.arg h36)).list_rd⟩⟩⟩⟩ e198).mono ?_)
            rintro e w195 ⟨v199, v200, rfl, Hc196⟩
            have H := H.call2 Hc196
            refine ⟨_, rfl, H.sel [5] (by decide), fun a S => ?_⟩
            obtain ⟨x206, e207, hm⟩ := bind_some hm
            refine lx_call (xs := [.tmp 96, .tmp 98]) S trivial (by decide) rfl rfl Tryz.call17 ((impl_StatesWhere_ok (hG.ext H.ext) (H.rdAt 2 rfl) ⟨[(.int .i64 x197.1), (.int .i64 x197.2.1), v199, v200], rfl, ⟨[(.int .i64 x197.1)], [(.int .i64 x197.2.1), v199, v200], rfl, rfl, ⟨[(.int .i64 x197.2.1)], [v199, v200], rfl, rfl, ⟨[v199], [v200], rfl, ((H.rdAt 0 rfl)).list_rd, ((H.rdAt 1 rfl)).list_rd⟩⟩⟩⟩ e207).mono ?_)
            rintro e w204 ⟨v208, rfl, Hc205⟩
            have H := H.call1 Hc205
            refine ⟨_, rfl, H.sel [6] (by decide), fun a S => ?_⟩
            refine lq (.tuple #[v208, (.int .i64 x206.2)]) S (q_move rfl) fun a S => ?_
            refine lq v208 S (q_extract rfl rfl) fun a S => ?_
            refine lq (.int .i64 x206.2) S (q_extract rfl rfl) fun a S => ?_
            refine lq v208 S (q_assign rfl) fun a S => ?_
            refine lq (.int .i64 x206.2) S (q_assign rfl) fun a S => ?_
            refine lx_nil (thenN ?_)
            refine wp_seq (wp_seq (region_plain ?_))
            refine lq v208 S (q_move rfl) fun a S => ?_
            refine lq v86 S (q_move rfl) fun a S => ?_
            obtain ⟨x213, e214, hm⟩ := bind_some hm
            refine lx_call (xs := [.tmp 102, .tmp 103]) S trivial (by decide) rfl rfl Tryz.call18 ((laws_eqInt64S_ok (H.rdAt 0 rfl) (H.rdAt 5 rfl) e214).mono ?_)
            rintro e w211 ⟨rfl, Hc212⟩
            have H := H.call0 Hc212
            refine ⟨_, rfl, trivial, fun a S => ?_⟩
            refine lq (.bool (!x213)) S (q_not rfl) fun a S => ?_
            refine lq (.bool (!x213)) S (q_move rfl) fun a S => ?_
            obtain ⟨t216, e217, hm⟩ := bind_some hm
            refine lx_cut 4 (fun a w => Slots a 119 [(10, v113), (13, (.int .i64 x177.1)), (110, (.bool t216))] ∧ Heap w0 [oA (rList (rInt .i64)) v113 x177.2] w) ?_ ?_
            ·by_cases hc218 : (!x213) = true
             ·have hm := ite_t hc218 e217
              refine lx_skip S rfl rfl (isB_ne hc218) (by decide) (fun a S => ?_)
              refine lx_skip S rfl rfl (isB_ne hc218) (by decide) (fun a S => ?_)
              refine lx_skip S rfl rfl (isB_ne hc218) (by decide) (fun a S => ?_)
              refine lq (.bool true) S (q_pickT' rfl hc218 rfl) fun a S => ?_
              refine lx_nil ?_
              obtain rfl := Option.some.inj hm
              have H := H.sel [4] (by decide)
              exact ⟨S.sub ⟨rfl, rfl, rfl, trivial⟩, H⟩
             ·have hm := ite_f (eq_false_of_ne_true hc218) e217
              have hc218 : (!x213) = false := eq_false_of_ne_true hc218
              refine lx_q (.int .i64 x206.2) S (want_b rfl rfl hc218) (by decide) (q_move rfl) (fun a S => ?_)
              refine lx_q (.int .i64 x84.2) S (want_b rfl rfl hc218) (by decide) (q_move rfl) (fun a S => ?_)
              refine lx_q (.bool (x206.2 != x84.2)) S (want_b rfl rfl hc218) (by decide) (q_neq rfl rfl) (fun a S => ?_)
              refine lq (.bool (x206.2 != x84.2)) S (q_pickF' rfl hc218 rfl) fun a S => ?_
              refine lx_nil ?_
              obtain rfl := Option.some.inj hm
              have H := H.sel [4] (by decide)
              exact ⟨S.sub ⟨rfl, rfl, rfl, trivial⟩, H⟩
            ·rintro a w ⟨S, H⟩
             refine lx_nil (thenN ?_)
             refine cond_b S rfl (fun hc219 => ?_) (fun hc219 => ?_)
             ·have hm := ite_t hc219 hm
              refine wp_seq (region_plain ?_)
              refine lq (.bool false) S (q_assign rfl) fun a S => ?_
              refine lx_nil (thenN ?_)
              refine wp_ret (then_ret ?_)
              obtain rfl := Option.some.inj hm
              have H : Heap w0 [] w := H.sel [] (by decide)
              exact leave1 S rfl rfl ⟨rfl, H⟩
             ·have hm := ite_f hc219 hm
              refine wp_skip (thenN ?_)
              refine wp_seq (region_plain ?_)
              refine lq (.int .i64 (1 : Int)) S (q_assign rfl) fun a S => ?_
              refine lx_nil (thenN ?_)
              refine wp_seq (region_plain ?_)
              refine lq v113 S (q_move rfl) fun a S => ?_
              refine lq (.int .i64 (1 : Int)) S (q_move rfl) fun a S => ?_
              obtain ⟨x222, e223, hm⟩ := bind_some hm
              refine lx_call (xs := [.tmp 111, .tmp 112]) S trivial (by decide) rfl rfl Tryz.call22 ((laws_heldInt64S_ok (H.rdAt 0 rfl)  e223).mono ?_)
              rintro e w220 ⟨rfl, Hc221⟩
              have H := H.call0 Hc221
              refine ⟨_, rfl, trivial, fun a S => ?_⟩
              refine lq (.int .i64 x222) S (q_assign rfl) fun a S => ?_
              refine lx_nil (thenN ?_)
              refine wp_seq (wp_seq (region_plain ?_))
              refine lq (.int .i64 x222) S (q_move rfl) fun a S => ?_
              refine lq (.bool (decide (x222 < (0 : Int)))) S (q_lss rfl rfl) fun a S => ?_
              refine lx_nil (thenN ?_)
              refine cond_b S rfl (fun hc225 => ?_) (fun hc225 => ?_)
              ·have hm := ite_t hc225 hm
               refine wp_seq (region_plain ?_)
               refine lq (.bool false) S (q_assign rfl) fun a S => ?_
               refine lx_nil (thenN ?_)
               refine wp_ret (then_ret ?_)
               obtain rfl := Option.some.inj hm
               have H : Heap w0 [] w220 := H.sel [] (by decide)
               exact leave1 S rfl rfl ⟨rfl, H⟩
              ·have hm := ite_f hc225 hm
               refine wp_skip (thenN ?_)
               refine wp_seq (wp_seq (region_plain ?_))
               refine lq (.int .i64 x222) S (q_move rfl) fun a S => ?_
               refine lq (.int .i64 x177.1) S (q_move rfl) fun a S => ?_
               refine lq (.bool (x222 != x177.1)) S (q_neq rfl rfl) fun a S => ?_
               refine lx_nil (thenN ?_)
               refine cond_b S rfl (fun hc226 => ?_) (fun hc226 => ?_)
               ·have hm := ite_t hc226 hm
                refine wp_seq (region_plain ?_)
                refine lq (.bool false) S (q_assign rfl) fun a S => ?_
                refine lx_nil (thenN ?_)
                refine wp_ret (then_ret ?_)
                obtain rfl := Option.some.inj hm
                have H : Heap w0 [] w220 := H.sel [] (by decide)
                exact leave1 S rfl rfl ⟨rfl, H⟩
               ·have hm := ite_f hc226 hm
                refine wp_skip (thenN ?_)
                refine wp_seq (region_plain ?_)
                refine lq (.bool true) S (q_assign rfl) fun a S => ?_
                refine lx_nil (thenN ?_)
                refine wp_ret ?_
                obtain rfl := Option.some.inj hm
                have H : Heap w0 [] w220 := H.sel [] (by decide)
                exact leave1 S rfl rfl ⟨rfl, H⟩
end Go.Proofs.YtnkpniekdipgaaaGreatDoor
