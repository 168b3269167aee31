/- The models of some functions and their walks (printed by a program of this repo). -/
import Derived.Test.YtnkpniekdipgaaaGreatDoorF0
import Derived.Test.YtnkpniekdipgaaaGreatDoorF3
import Derived.Test.YtnkpniekdipgaaaGreatDoorFS
import Derived.Test.YtnkpniekdipgaaaGreatDoorGxMx
import Derived.Test.YtnkpniekdipgaaaGreatDoorGxT
import Derived.Test.YtnkpniekdipgaaaGreatDoorGxTg
import Derived.Test.YtnkpniekdipgaaaGreatDoorGxY
namespace Go.Proofs.YtnkpniekdipgaaaGreatDoor
open Go.RowKit Go.Gx

/-- spec.l14Holds -/
def spec_l14Holds_m (fuel : Nat) (a0 : (List Timpl_Node)) (a1 : Timpl_Lts) : Option ((List Bool)) :=
  (iter (fun (s : (List (List Bool)) × (Int)) => (match s with | (xs318, x322) => (if (decide ((0 : Int) ≤ x322)) = true then join (κ := List (List Bool) → Option (((List (List Bool)) × (Int)) ⊕ (((List (List Bool))) ⊕ ((List Bool))))) (fun (xs610 : List (List Bool)) => some (.inl (xs610, (W (x322 - (1 : Int)))))) (fun K614 => (idx a0 x322).bind fun x616 => (mks a1.1 false).bind fun x637 => (if (x616.1 == (2 : Int)) = true then some true else some (x616.1 == (3 : Int))).bind fun t643 => (if t643 = true then (idx xs318 (W ((xs318.length : Int) - (1 : Int)))).bind fun x647 => (idx xs318 (W ((W ((xs318.length : Int) - (1 : Int))) - (1 : Int)))).bind fun x651 => (iter (fun (s : (List Bool) × (Int)) => (match s with | (xs696, x697) => (if (decide (x697 < a1.1)) = true then (if (x616.1 == (2 : Int)) = true then (idx x647 x697).bind fun x766 => some x766 else some false).bind fun t763 => (if t763 = true then (idx x651 x697).bind fun x774 => some x774 else some false).bind fun t771 => (if t771 = true then some true else (if (x616.1 == (3 : Int)) = true then (idx x647 x697).bind fun x785 => (if x785 = true then some true else (idx x651 x697).bind fun x793 => some x793).bind fun t790 => some t790 else some false).bind fun t782 => some t782).bind fun t779 => (idx xs696 x697).bind fun _ => some (.inl ((xs696.set x697.toNat t779), (W (x697 + (1 : Int))))) else some (.inr (.inl (xs696)))) : Option (((List Bool) × (Int)) ⊕ (((List Bool)) ⊕ ((List Bool)))))) fuel (x637, (0 : Int))).bind fun res740 => ctl (β := (List Bool)) (ρ := (List Bool)) (τ := (((List (List Bool)) × (Int)) ⊕ (((List (List Bool))) ⊕ ((List Bool))))) res740 (fun (xs739) => (sub xs318 (0 : Int) (W ((W ((xs318.length : Int) - (1 : Int))) - (1 : Int)))).bind fun xs745 => (app xs745 [xs739]).bind fun x753 => (K614 x753)) (fun q => some (.inr (.inr q))) else (if (x616.1 == (4 : Int)) = true then some true else some (x616.1 == (5 : Int))).bind fun t801 => (if t801 = true then (idx xs318 (W ((xs318.length : Int) - (1 : Int)))).bind fun x805 => (spec_l14Step_m fuel (x616.1, x616.2.1, x616.2.2.1, x616.2.2.2) a1 x805).bind fun x811 => (sub xs318 (0 : Int) (W ((xs318.length : Int) - (1 : Int)))).bind fun xs816 => (app xs816 [x811]).bind fun x824 => (K614 x824) else (iter (fun (s : (List Bool) × (Int)) => (match s with | (xs836, x837) => (if (decide (x837 < a1.1)) = true then (idx xs836 x837).bind fun _ => some (.inl ((xs836.set x837.toNat (x616.1 == (0 : Int))), (W (x837 + (1 : Int))))) else some (.inr (.inl (xs836)))) : Option (((List Bool) × (Int)) ⊕ (((List Bool)) ⊕ ((List Bool)))))) fuel (x637, (0 : Int))).bind fun res845 => ctl (β := (List Bool)) (ρ := (List Bool)) (τ := (((List (List Bool)) × (Int)) ⊕ (((List (List Bool))) ⊕ ((List Bool))))) res845 (fun (xs844) => (app xs318 [xs844]).bind fun x853 => (K614 x853)) (fun q => some (.inr (.inr q)))))) else some (.inr (.inl (xs318)))) : Option (((List (List Bool)) × (Int)) ⊕ (((List (List Bool))) ⊕ ((List Bool)))))) fuel (([] : List (List Bool)), (W ((a0.length : Int) - (1 : Int))))).bind fun res592 => ctl (β := (List (List Bool))) (ρ := (List Bool)) (τ := (List Bool)) res592 (fun (xs588) => (idx xs588 (0 : Int)).bind fun x597 => some (x597)) (fun q => some (q))
set_option maxRecDepth 20000 in
theorem spec_l14Holds_ok [dr : Dr] {w0 : World} {fuel : Nat} {p0 p1 : Value} {a0 : (List Timpl_Node)} {a1 : Timpl_Lts} {r : (List Bool)} (h0 : Rd (rList Rimpl_Node) w0 p0 a0) (h1 : Rd (rPtr Rimpl_Lts) w0 p1 a1) (hm : spec_l14Holds_m fuel a0 a1 = some r) :
  Calls Tryz.prog 29 #[p0, p1] w0 fun e w => ∃ (v0 : Value), e = .returned (v0) ∧ Heap w0 [oA (rList rBool) v0 r] w := by
 unfold spec_l14Holds_m at hm
 have H := Heap.start w0
 obtain ⟨c31, h32, hat33⟩ := h1.ptr
 obtain ⟨c38, c39, rfl, h40, h41⟩ := h32
 obtain rfl := h40
 obtain ⟨c42, c43, rfl, h44, h45⟩ := h41
 obtain rfl := h44
 obtain ⟨c46, c47, rfl, h48, h49⟩ := h45
 obtain ⟨v34, rfl, h35⟩ := rd_list h48
 obtain ⟨v36, rfl, h37⟩ := rd_list h49
 refine enter (args := [p0, p1]) Tryz.func29 rfl 142 rfl (Nat.le_of_ble_eq_true rfl) (fun a S => ?_)
 refine wp_seq (region_plain ?_)
 refine lq (.slice none 0 0) S (q_assign rfl) fun a S => ?_
 refine lx_nil (thenN ?_)
 refine wp_seq (region_plain ?_)
 refine lx_buildSlice0 (r := (rTg (rList rBool))) S trivial (by decide) rfl H Tryz.underlying83 Tryz.sizeOf59 (fun v50 w51 H => ⟨trivial, fun a S => ?_⟩)
 refine lq v50 S (q_assign rfl) fun a S => ?_
 refine lx_nil (thenN ?_)
 refine wp_seq (wp_seq (region_plain ?_))
 refine lq p0 S (q_move rfl) fun a S => ?_
 refine lq (.int .i64 (a0.length : Int)) S (q_lenSl rfl (h0).isSl rfl Tryz.underlying31) fun a S => ?_
 refine lq (.int .i64 (W ((a0.length : Int) - (1 : Int)))) S (q_sub rfl rfl) fun a S => ?_
 refine lq (.int .i64 (W ((a0.length : Int) - (1 : Int)))) S (q_assign rfl) fun a S => ?_
 refine lx_nil (thenN ?_)
 obtain ⟨res592, hit593, hk596⟩ := bind_some hm
 obtain ⟨f594, hf595, hit593⟩ := iter_name hit593
 refine block_loop (fun a w => ∃ (xs588 : List (List Bool)) (v587 : Value) (T590 : List ((List Bool) × Value)), Slots a 142 [(5, v587)] ∧ Heap w0 [oA (rList (rTg (rList rBool))) v587 T590] w ∧ xs588 = T590.map (·.1) ∧ res592 = .inl (xs588)) ?_ ?_
 ·rintro a w ⟨xs588, v587, T590, S, H, hT591, rfl⟩
  have hm := ctl_inl hk596
  refine thenN ?_
  refine wp_seq (region_plain ?_)
  refine lq v587 S (q_move rfl) fun a S => ?_
  obtain ⟨x597, e598, hm⟩ := bind_some hm
  obtain ⟨u599, hT600⟩ := tg_idx hT591 e598
  have hlt := lt_of_idx (idx_some e598).2
  refine lq (ePtr v587 ((0 : Int).toNat * 1)) S (q_indexAddr rfl (tg_sl hT591 (H.isSl 0 rfl)) rfl (idx_some e598).1 hlt Tryz.underlying83 Tryz.sizeOf59) fun a S => ?_
  refine lx_e u599 S trivial (by decide) rfl trivial (q_load1 rfl Tryz.isAgg59 (by rintro _ rfl; exact (tg_at (H.rdAt 0 rfl) hT600))) (fun a S => ?_)
  refine lq u599 S (q_assign rfl) fun a S => ?_
  refine lx_nil (thenN ?_)
  refine wp_ret ?_
  obtain rfl := Option.some.inj hm
  have hat603 := tg_at (H.rdAt 0 rfl) hT600
  have H : Heap w0 [oA (rList (rList rBool)) v587 (T590.map (·.1))] w := H.mine CvO.tg allO_tg
  obtain ⟨u601, hat602, H⟩ := H.out (tg_get hT600)
  obtain rfl : u599 = u601 := At.eq hat603 hat602
  exact leave1 S rfl rfl ⟨u599, rfl, H⟩
 ·skip
  refine loop_ghost (fun n a w => ∃ (xs318 : List (List Bool)) (x322 : Int) (v317 : Value) (T320 : List ((List Bool) × Value)), Slots a 142 [(0, p0), (1, p1), (5, v317), (6, (.int .i64 x322))] ∧ Heap w0 [oA (rList (rTg (rList rBool))) v317 T320] w ∧ xs318 = T320.map (·.1) ∧ iter f594 n (xs318, x322) = some res592) _ ⟨([] : List (List Bool)), (W ((a0.length : Int) - (1 : Int))), v50, ([] : List ((List Bool) × Value)), S.sub ⟨rfl, rfl, rfl, rfl, trivial⟩, H, rfl, hit593⟩ ?_
  rintro n a w ⟨xs318, x322, v317, T320, S, H, hT321, hit593⟩
  obtain ⟨m605, o606, rfl, hm, hc607⟩ := iter_step hit593
  rw [hf595] at hm
  refine wp_seq (wp_seq (region_plain ?_))
  refine lq (.int .i64 x322) S (q_move rfl) fun a S => ?_
  refine lq (.bool (decide ((0 : Int) ≤ x322))) S (q_geq rfl rfl) fun a S => ?_
  refine lx_nil (thenN ?_)
  refine cond_b S rfl (fun hc608 => ?_) (fun hc608 => ?_)
  ·have hm := ite_t hc608 hm
   refine wp_skip (thenN ?_)
   obtain ⟨K614, hK615, hm⟩ := join_elim hm
   refine seq_cut (fun a w => ∃ (xs610 : List (List Bool)) (v609 : Value) (T612 : List ((List Bool) × Value)), Slots a 142 [(0, p0), (1, p1), (5, v609), (6, (.int .i64 x322))] ∧ Heap w0 [oA (rList (rTg (rList rBool))) v609 T612] w ∧ xs610 = T612.map (·.1) ∧ K614 xs610 = some o606) ?_ ?_
   ·rintro a w ⟨xs610, v609, T612, S, H, hT613, hm⟩
    subst hK615
    refine region_plain ?_
    refine lq (.int .i64 x322) S (q_move rfl) fun a S => ?_
    refine lq (.int .i64 (W (x322 - (1 : Int)))) S (q_sub rfl rfl) fun a S => ?_
    refine lq (.int .i64 (W (x322 - (1 : Int)))) S (q_assign rfl) fun a S => ?_
    refine lx_nil ?_
    exact ⟨m605, Nat.lt_succ_self _, xs610, (W (x322 - (1 : Int))), v609, T612, S.sub ⟨rfl, rfl, rfl, rfl, trivial⟩, H, hT613, it_cont hm hc607⟩
   ·skip
    refine wp_block ?_
    refine wp_seq (region_plain ?_)
    refine lq p0 S (q_move rfl) fun a S => ?_
    refine lq (.int .i64 x322) S (q_move rfl) fun a S => ?_
    obtain ⟨x616, e617, hm⟩ := bind_some hm
    obtain ⟨c618, h619, hat620⟩ := (h0).elem (idx_some e617).2
    obtain ⟨c621, c622, rfl, h623, h624⟩ := h619
    obtain rfl := h623
    obtain ⟨c625, c626, rfl, h627, h628⟩ := h624
    obtain rfl := h627
    obtain ⟨c629, c630, rfl, h631, h632⟩ := h628
    obtain rfl := h631
    obtain rfl := h632
    have hlt := lt_of_idx (idx_some e617).2
    refine lq (ePtr p0 (x322.toNat * 4)) S (q_indexAddr rfl (h0).isSl rfl (idx_some e617).1 hlt Tryz.underlying31 Tryz.sizeOf61) fun a S => ?_
    refine lx_e (.agg #[(.int .i64 x616.1), (.int .i64 x616.2.1), (sv x616.2.2.1), (.bool x616.2.2.2)]) S trivial (by decide) rfl trivial (q_loadA (cs := [(.int .i64 x616.1), (.int .i64 x616.2.1), (sv x616.2.2.1), (.bool x616.2.2.2)]) rfl ((hat620 0 _ rfl).isP) Tryz.isAgg61 Tryz.sizeOf61 (by rintro _ rfl; exact (fun j u hu => (hat620 j u hu).ext H.ext))) (fun a S => ?_)
    refine lx_alloc S trivial (by decide) rfl H Tryz.zeroValue61 rfl (fun b633 w634 H => ⟨trivial, fun a S => ?_⟩)
    refine lx_storeBox (o := 0) (i := 0) (us := [(.int .i64 x616.1), (.int .i64 x616.2.1), (sv x616.2.2.1), (.bool x616.2.2.2)]) (cs' := [(.int .i64 x616.1), (.int .i64 x616.2.1), (sv x616.2.2.1), (.bool x616.2.2.2)]) S trivial rfl H rfl rfl rfl rfl Tryz.sizeOf61 (Nat.le_of_ble_eq_true rfl) (List.forall_mem_cons.2 ⟨rfl, (List.forall_mem_cons.2 ⟨rfl, (List.forall_mem_cons.2 ⟨rfl, (List.forall_mem_cons.2 ⟨rfl, (List.forall_mem_nil _)⟩)⟩)⟩)⟩) rfl (fun w636 H => ⟨trivial, fun a S => ?_⟩)
    change Heap w0 [bA b633 [(.int .i64 x616.1), (.int .i64 x616.2.1), (sv x616.2.2.1), (.bool x616.2.2.2)] 61, oA (rList (rTg (rList rBool))) v317 T320] w636 at H
    refine lx_nil (thenN ?_)
    refine wp_seq (region_plain ?_)
    refine lq v317 S (q_move rfl) fun a S => ?_
    refine lq (.int .i64 (xs318.length : Int)) S (q_lenSl rfl (tg_sl hT321 (H.isSl 1 rfl)) rfl Tryz.underlying83) fun a S => ?_
    refine lq (.int .i64 (W ((xs318.length : Int) - (1 : Int)))) S (q_sub rfl rfl) fun a S => ?_
    refine lq (.int .i64 (W ((xs318.length : Int) - (1 : Int)))) S (q_assign rfl) fun a S => ?_
    refine lx_nil (thenN ?_)
    refine wp_seq (region_plain ?_)
    refine lq p1 S (q_move rfl) fun a S => ?_
    refine lq p1 S (q_nilCheck rfl ((hat33 0 _ rfl).isP)) fun a S => ?_
    refine lq (pAdd p1 0) S (q_fieldAddr' 0 2 rfl ((hat33 0 _ rfl).isP) Tryz.underlying35 rfl Tryz.sizeOf2) fun a S => ?_
    refine lx_e (.int .i64 a1.1) S trivial (by decide) rfl trivial (q_load1 rfl Tryz.isAgg2 (by rintro _ rfl; exact (At.of_add (m := 0) (j := 0) ((hat33 0 _ rfl).ext H.ext)))) (fun a S => ?_)
    obtain ⟨x637, e638, hm⟩ := bind_some hm
    obtain ⟨m639, hn, hn2, rfl⟩ := mks_some e638
    refine lx_make (r := rBool) (z0 := false) (n := m639) S trivial (by decide) rfl H (by rw [← hn]; rfl) (by rw [← hn]; rfl) Tryz.underlying59 (Tryz.ti4) rfl rfl (Nat.le_of_ble_eq_true rfl) (fun w => ⟨rfl, rfl⟩) hn2 (by decide) (fun v640 w641 H => ⟨trivial, fun a S => ?_⟩)
    refine lq v640 S (q_assign rfl) fun a S => ?_
    refine lx_nil (thenN ?_)
    refine wp_seq (wp_seq (region_plain ?_))
    refine lq (pAdd (bp b633) 0) S (q_fieldAddr' 0 2 rfl (isP_bp _) Tryz.underlying61 rfl Tryz.sizeOf2) fun a S => ?_
    refine lx_e (.int .i64 x616.1) S trivial (by decide) rfl trivial (q_load1 rfl Tryz.isAgg2 (by rintro _ rfl; exact (At.of_add (m := 0) (j := 0) (boxAt (i := 1) H rfl (j := 0) rfl)))) (fun a S => ?_)
    refine lq (.bool (x616.1 == (2 : Int))) S (q_eql rfl rfl) fun a S => ?_
    refine lq (.bool (x616.1 == (2 : Int))) S (q_move rfl) fun a S => ?_
    obtain ⟨t643, e644, hm⟩ := bind_some hm
    refine lx_cut 4 (fun a w => Slots a 142 [(0, p0), (1, p1), (5, v317), (6, (.int .i64 x322)), (7, (bp b633)), (8, (.int .i64 (W ((xs318.length : Int) - (1 : Int))))), (9, v640), (41, (.bool t643))] ∧ Heap w0 [oA (rList rBool) v640 (List.replicate m639 false), bA b633 [(.int .i64 x616.1), (.int .i64 x616.2.1), (sv x616.2.2.1), (.bool x616.2.2.2)] 61, oA (rList (rTg (rList rBool))) v317 T320] w) ?_ ?_
    ·by_cases hc645 : (x616.1 == (2 : Int)) = true
     ·have hm := ite_t hc645 e644
      refine lx_skip S rfl rfl (isB_ne hc645) (by decide) (fun a S => ?_)
      refine lx_skip S rfl rfl (isB_ne hc645) (by decide) (fun a S => ?_)
      refine lx_skip S rfl rfl (isB_ne hc645) (by decide) (fun a S => ?_)
      refine lq (.bool true) S (q_pickT' rfl hc645 rfl) fun a S => ?_
      refine lx_nil ?_
      obtain rfl := Option.some.inj hm
      exact ⟨S.sub ⟨rfl, rfl, rfl, rfl, rfl, rfl, rfl, rfl, trivial⟩, H⟩
     ·have hm := ite_f (eq_false_of_ne_true hc645) e644
      have hc645 : (x616.1 == (2 : Int)) = false := eq_false_of_ne_true hc645
      refine lx_q (pAdd (bp b633) 0) S (want_b rfl rfl hc645) (by decide) (q_fieldAddr' 0 2 rfl (isP_bp _) Tryz.underlying61 rfl Tryz.sizeOf2) (fun a S => ?_)
      refine lx_e (.int .i64 x616.1) S (want_b rfl rfl hc645) (by decide) rfl trivial (q_load1 rfl Tryz.isAgg2 (by rintro _ rfl; exact (At.of_add (m := 0) (j := 0) (boxAt (i := 1) H rfl (j := 0) rfl)))) (fun a S => ?_)
      refine lx_q (.bool (x616.1 == (3 : Int))) S (want_b rfl rfl hc645) (by decide) (q_eql rfl rfl) (fun a S => ?_)
      refine lq (.bool (x616.1 == (3 : Int))) S (q_pickF' rfl hc645 rfl) fun a S => ?_
      refine lx_nil ?_
      obtain rfl := Option.some.inj hm
      exact ⟨S.sub ⟨rfl, rfl, rfl, rfl, rfl, rfl, rfl, rfl, trivial⟩, H⟩
    ·rintro a w ⟨S, H⟩
     refine lx_nil (thenN ?_)
     refine cond_b S rfl (fun hc646 => ?_) (fun hc646 => ?_)
     ·have hm := ite_t hc646 hm
      refine wp_seq (region_plain ?_)
      refine lq v317 S (q_move rfl) fun a S => ?_
      refine lq (.int .i64 (W ((xs318.length : Int) - (1 : Int)))) S (q_move rfl) fun a S => ?_
      obtain ⟨x647, e648, hm⟩ := bind_some hm
      obtain ⟨u649, hT650⟩ := tg_idx hT321 e648
      have hlt := lt_of_idx (idx_some e648).2
      refine lq (ePtr v317 ((W ((xs318.length : Int) - (1 : Int))).toNat * 1)) S (q_indexAddr rfl (tg_sl hT321 (H.isSl 2 rfl)) rfl (idx_some e648).1 hlt Tryz.underlying83 Tryz.sizeOf59) fun a S => ?_
      refine lx_e u649 S trivial (by decide) rfl trivial (q_load1 rfl Tryz.isAgg59 (by rintro _ rfl; exact (tg_at (H.rdAt 2 rfl) hT650))) (fun a S => ?_)
      refine lq u649 S (q_assign rfl) fun a S => ?_
      refine lx_nil (thenN ?_)
      refine wp_seq (region_plain ?_)
      refine lq v317 S (q_move rfl) fun a S => ?_
      refine lq (.int .i64 (W ((xs318.length : Int) - (1 : Int)))) S (q_move rfl) fun a S => ?_
      refine lq (.int .i64 (W ((W ((xs318.length : Int) - (1 : Int))) - (1 : Int)))) S (q_sub rfl rfl) fun a S => ?_
      obtain ⟨x651, e652, hm⟩ := bind_some hm
      obtain ⟨u653, hT654⟩ := tg_idx hT321 e652
      have hlt := lt_of_idx (idx_some e652).2
      refine lq (ePtr v317 ((W ((W ((xs318.length : Int) - (1 : Int))) - (1 : Int))).toNat * 1)) S (q_indexAddr rfl (tg_sl hT321 (H.isSl 2 rfl)) rfl (idx_some e652).1 hlt Tryz.underlying83 Tryz.sizeOf59) fun a S => ?_
      refine lx_e u653 S trivial (by decide) rfl trivial (q_load1 rfl Tryz.isAgg59 (by rintro _ rfl; exact (tg_at (H.rdAt 2 rfl) hT654))) (fun a S => ?_)
      refine lq u653 S (q_assign rfl) fun a S => ?_
      refine lx_nil (thenN ?_)
      refine wp_seq (wp_seq (region_plain ?_))
      refine lq (.int .i64 (0 : Int)) S (q_assign rfl) fun a S => ?_
      refine lx_nil (thenN ?_)
      obtain ⟨res740, hit741, hk744⟩ := bind_some hm
      obtain ⟨f742, hf743, hit741⟩ := iter_name hit741
      refine block_loop (fun a w => ∃ (xs739 : List Bool), Slots a 142 [(0, p0), (1, p1), (5, v317), (6, (.int .i64 x322)), (8, (.int .i64 (W ((xs318.length : Int) - (1 : Int))))), (9, v640)] ∧ Heap w0 [oA (rList (rTg (rList rBool))) v317 T320, oA (rList rBool) v640 xs739] w ∧ res740 = .inl (xs739)) ?_ ?_
      ·rintro a w ⟨xs739, S, H, rfl⟩
       have hm := ctl_inl hk744
       refine thenN ?_
       refine wp_seq (region_plain ?_)
       refine lq v317 S (q_move rfl) fun a S => ?_
       refine lq (.int .i64 (W ((xs318.length : Int) - (1 : Int)))) S (q_move rfl) fun a S => ?_
       refine lq (.int .i64 (W ((W ((xs318.length : Int) - (1 : Int))) - (1 : Int)))) S (q_sub rfl rfl) fun a S => ?_
       obtain ⟨xs745, e746, hm⟩ := bind_some hm
       have hsb := (sub_some e746).1
       refine lq (subV v317 ((0 : Int)).toNat ((W ((W ((xs318.length : Int) - (1 : Int))) - (1 : Int)))).toNat 1) S (q_slice (lo := none) (hi := (some (.tmp 96))) (l := (0 : Int)) (h := (W ((W ((xs318.length : Int) - (1 : Int))) - (1 : Int)))) (size := 1) rfl (tg_sl hT321 (H.isSl 0 rfl)) Tryz.underlying83 Tryz.sizeOf59 rfl rfl hsb.1 hsb.2.1 hsb.2.2) fun a S => ?_
       obtain ⟨U747, hs748, hU749⟩ := tg_sub hT321 e746
       have H : Heap w0 [oA (rList (rTg (rList rBool))) (subV v317 ((0 : Int)).toNat ((W ((W ((xs318.length : Int) - (1 : Int))) - (1 : Int)))).toNat 1) U747, oA (rList rBool) v640 xs739] w := H.cut hs748
       refine lq v640 S (q_move rfl) fun a S => ?_
       have H : Heap w0 [oA (rList rBool) v640 xs739, oA (rList (rTg (rList rBool))) (subV v317 ((0 : Int)).toNat ((W ((W ((xs318.length : Int) - (1 : Int))) - (1 : Int)))).toNat 1) U747] w := H.front 1 rfl
       refine lx_buildSlice (r := (rTg (rList rBool))) (xs := [(xs739, v640)]) (ps := [(0, [v640])]) (cs := [v640]) (parts := [(0, .tmp 98)]) S trivial (by decide) rfl H rfl Tryz.underlying83 Tryz.sizeOf59 Tryz.zeroValue59 (by decide) ⟨rfl, (cells_sl (H.isSl 0 rfl)), Nat.le_of_ble_eq_true rfl, trivial⟩ (by intro zs hz; exact fill_dense hz ⟨rfl, trivial⟩ rfl rfl) rfl (by decide) (fun w F hA => ownL_one_mk (r := (rTg (rList rBool))) ⟨oA_list.1 hA, rfl⟩) (fun v750 w751 H => ⟨trivial, fun a S => ?_⟩)
       obtain ⟨x753, e754, hm⟩ := bind_some hm
       obtain ⟨hle, hap⟩ := app_some e754
       replace hap := hap.symm
       subst hap
       have hT757 := tg_app hU749 (tg_one (x := xs739) (u := v640))
       have H : Heap w0 [oA (rList (rTg (rList rBool))) v750 ([(xs739, v640)] : List ((List Bool) × Value)), oA (rList (rTg (rList rBool))) (subV v317 ((0 : Int)).toNat ((W ((W ((xs318.length : Int) - (1 : Int))) - (1 : Int)))).toNat 1) U747] w751 := H.front 0 rfl
       have H : Heap w0 [oA (rList (rTg (rList rBool))) (subV v317 ((0 : Int)).toNat ((W ((W ((xs318.length : Int) - (1 : Int))) - (1 : Int)))).toNat 1) U747, oA (rList (rTg (rList rBool))) v750 ([(xs739, v640)] : List ((List Bool) × Value))] w751 := H.front 1 rfl
       refine lx_appendOwn (r := (rTg (rList rBool))) S trivial (by decide) rfl H rfl rfl Tryz.underlying83 Tryz.ti59 rfl rfl rfl (Nat.le_of_ble_eq_true rfl) (by decide) (tg_le hU749 (tg_one (x := xs739) (u := v640)) hle) (fun v755 w756 H => ⟨trivial, fun a S => ?_⟩)
       refine lq v755 S (q_assign rfl) fun a S => ?_
       refine lx_nil (thenN ?_)
       refine wp_exit ?_
       refine then_exit ?_
       refine inBlock_exit ?_
       exact ⟨(xs745 ++ [xs739]), v755, (U747 ++ ([(xs739, v640)] : List ((List Bool) × Value))), S.sub ⟨rfl, rfl, rfl, rfl, trivial⟩, H, hT757, hm⟩
      ·skip
       have H : Heap w0 [bA b633 [(.int .i64 x616.1), (.int .i64 x616.2.1), (sv x616.2.2.1), (.bool x616.2.2.2)] 61, oA (rList rBool) v640 (List.replicate m639 false), oA (rList (rTg (rList rBool))) v317 T320] w := H.front 1 rfl
       have H : Heap w0 [oA (rList (rTg (rList rBool))) v317 T320, bA b633 [(.int .i64 x616.1), (.int .i64 x616.2.1), (sv x616.2.2.1), (.bool x616.2.2.2)] 61, oA (rList rBool) v640 (List.replicate m639 false)] w := H.front 2 rfl
       refine loop_ghost (fun n a w => ∃ (xs696 : List Bool) (x697 : Int), Slots a 142 [(0, p0), (1, p1), (5, v317), (6, (.int .i64 x322)), (7, (bp b633)), (8, (.int .i64 (W ((xs318.length : Int) - (1 : Int))))), (9, v640), (10, u649), (11, u653), (12, (.int .i64 x697))] ∧ Heap w0 [oA (rList (rTg (rList rBool))) v317 T320, bA b633 [(.int .i64 x616.1), (.int .i64 x616.2.1), (sv x616.2.2.1), (.bool x616.2.2.2)] 61, oA (rList rBool) v640 xs696] w ∧ iter f742 n (xs696, x697) = some res740) _ ⟨(List.replicate m639 false), (0 : Int), S.sub ⟨rfl, rfl, rfl, rfl, rfl, rfl, rfl, rfl, rfl, rfl, trivial⟩, H, hit741⟩ ?_
       rintro n a w ⟨xs696, x697, S, H, hit741⟩
       obtain ⟨m759, o760, rfl, hm, hc761⟩ := iter_step hit741
       rw [hf743] at hm
       refine wp_seq (wp_seq (region_plain ?_))
       refine lq (.int .i64 x697) S (q_move rfl) fun a S => ?_
       refine lq p1 S (q_move rfl) fun a S => ?_
       refine lq p1 S (q_nilCheck rfl ((hat33 0 _ rfl).isP)) fun a S => ?_
       refine lq (pAdd p1 0) S (q_fieldAddr' 0 2 rfl ((hat33 0 _ rfl).isP) Tryz.underlying35 rfl Tryz.sizeOf2) fun a S => ?_
       refine lx_e (.int .i64 a1.1) S trivial (by decide) rfl trivial (q_load1 rfl Tryz.isAgg2 (by rintro _ rfl; exact (At.of_add (m := 0) (j := 0) ((hat33 0 _ rfl).ext H.ext)))) (fun a S => ?_)
       refine lq (.bool (decide (x697 < a1.1))) S (q_lss rfl rfl) fun a S => ?_
       refine lx_nil (thenN ?_)
       refine cond_b S rfl (fun hc762 => ?_) (fun hc762 => ?_)
       ·have hm := ite_t hc762 hm
        refine wp_skip (thenN ?_)
        refine wp_seq ?_
        refine wp_block ?_
        refine region_plain ?_
        refine lq v640 S (q_move rfl) fun a S => ?_
        refine lq (.int .i64 x697) S (q_move rfl) fun a S => ?_
        refine lq (pAdd (bp b633) 0) S (q_fieldAddr' 0 2 rfl (isP_bp _) Tryz.underlying61 rfl Tryz.sizeOf2) fun a S => ?_
        refine lx_e (.int .i64 x616.1) S trivial (by decide) rfl trivial (q_load1 rfl Tryz.isAgg2 (by rintro _ rfl; exact (At.of_add (m := 0) (j := 0) (boxAt (i := 1) H rfl (j := 0) rfl)))) (fun a S => ?_)
        refine lq (.bool (x616.1 == (2 : Int))) S (q_eql rfl rfl) fun a S => ?_
        refine lq (.bool (x616.1 == (2 : Int))) S (q_move rfl) fun a S => ?_
        obtain ⟨t763, e764, hm⟩ := bind_some hm
        refine lx_cut 5 (fun a w => Slots a 142 [(0, p0), (1, p1), (5, v317), (6, (.int .i64 x322)), (7, (bp b633)), (8, (.int .i64 (W ((xs318.length : Int) - (1 : Int))))), (9, v640), (10, u649), (11, u653), (12, (.int .i64 x697)), (59, v640), (60, (.int .i64 x697)), (69, (.bool t763))] ∧ Heap w0 [oA (rList (rTg (rList rBool))) v317 T320, bA b633 [(.int .i64 x616.1), (.int .i64 x616.2.1), (sv x616.2.2.1), (.bool x616.2.2.2)] 61, oA (rList rBool) v640 xs696] w) ?_ ?_
        ·by_cases hc765 : (x616.1 == (2 : Int)) = true
         ·have hm := ite_t hc765 e764
          refine lx_q u649 S (want_b rfl rfl hc765) (by decide) (q_move rfl) (fun a S => ?_)
          refine lx_q (.int .i64 x697) S (want_b rfl rfl hc765) (by decide) (q_move rfl) (fun a S => ?_)
          obtain ⟨x766, e767, hm⟩ := bind_some hm
          obtain ⟨c768, h769, hat770⟩ := ((rd_tg (H.rdAt 0 rfl) hT650 rfl)).elem (idx_some e767).2
          obtain rfl := h769
          have hlt := lt_of_idx (idx_some e767).2
          refine lx_q (ePtr u649 (x697.toNat * 1)) S (want_b rfl rfl hc765) (by decide) (q_indexAddr rfl ((rd_tg (H.rdAt 0 rfl) hT650 rfl)).isSl rfl (idx_some e767).1 hlt Tryz.underlying59 Tryz.sizeOf4) (fun a S => ?_)
          refine lx_e (.bool x766) S (want_b rfl rfl hc765) (by decide) rfl trivial (q_load1 rfl Tryz.isAgg4 (by rintro _ rfl; exact ((hat770 0 _ rfl).ext (Ext.refl _)))) (fun a S => ?_)
          refine lq (.bool x766) S (q_pickT' rfl hc765 rfl) fun a S => ?_
          refine lx_nil ?_
          obtain rfl := Option.some.inj hm
          exact ⟨S.sub ⟨rfl, rfl, rfl, rfl, rfl, rfl, rfl, rfl, rfl, rfl, rfl, rfl, rfl, trivial⟩, H⟩
         ·have hm := ite_f (eq_false_of_ne_true hc765) e764
          have hc765 : (x616.1 == (2 : Int)) = false := eq_false_of_ne_true hc765
          refine lx_skip S rfl rfl (isB_ne hc765) (by decide) (fun a S => ?_)
          refine lx_skip S rfl rfl (isB_ne hc765) (by decide) (fun a S => ?_)
          refine lx_skip S rfl rfl (isB_ne hc765) (by decide) (fun a S => ?_)
          refine lx_skip S rfl rfl (isB_ne hc765) (by decide) (fun a S => ?_)
          refine lq (.bool false) S (q_pickF' rfl hc765 rfl) fun a S => ?_
          refine lx_nil ?_
          obtain rfl := Option.some.inj hm
          exact ⟨S.sub ⟨rfl, rfl, rfl, rfl, rfl, rfl, rfl, rfl, rfl, rfl, rfl, rfl, rfl, trivial⟩, H⟩
        ·rintro a w ⟨S, H⟩
         refine lq (.bool t763) S (q_move rfl) fun a S => ?_
         obtain ⟨t771, e772, hm⟩ := bind_some hm
         refine lx_cut 5 (fun a w => Slots a 142 [(0, p0), (1, p1), (5, v317), (6, (.int .i64 x322)), (7, (bp b633)), (8, (.int .i64 (W ((xs318.length : Int) - (1 : Int))))), (9, v640), (10, u649), (11, u653), (12, (.int .i64 x697)), (59, v640), (60, (.int .i64 x697)), (75, (.bool t771))] ∧ Heap w0 [oA (rList (rTg (rList rBool))) v317 T320, bA b633 [(.int .i64 x616.1), (.int .i64 x616.2.1), (sv x616.2.2.1), (.bool x616.2.2.2)] 61, oA (rList rBool) v640 xs696] w) ?_ ?_
         ·by_cases hc773 : t763 = true
          ·have hm := ite_t hc773 e772
           refine lx_q u653 S (want_b rfl rfl hc773) (by decide) (q_move rfl) (fun a S => ?_)
           refine lx_q (.int .i64 x697) S (want_b rfl rfl hc773) (by decide) (q_move rfl) (fun a S => ?_)
           obtain ⟨x774, e775, hm⟩ := bind_some hm
           obtain ⟨c776, h777, hat778⟩ := ((rd_tg (H.rdAt 0 rfl) hT654 rfl)).elem (idx_some e775).2
           obtain rfl := h777
           have hlt := lt_of_idx (idx_some e775).2
           refine lx_q (ePtr u653 (x697.toNat * 1)) S (want_b rfl rfl hc773) (by decide) (q_indexAddr rfl ((rd_tg (H.rdAt 0 rfl) hT654 rfl)).isSl rfl (idx_some e775).1 hlt Tryz.underlying59 Tryz.sizeOf4) (fun a S => ?_)
           refine lx_e (.bool x774) S (want_b rfl rfl hc773) (by decide) rfl trivial (q_load1 rfl Tryz.isAgg4 (by rintro _ rfl; exact ((hat778 0 _ rfl).ext (Ext.refl _)))) (fun a S => ?_)
           refine lq (.bool x774) S (q_pickT' rfl hc773 rfl) fun a S => ?_
           refine lx_nil ?_
           obtain rfl := Option.some.inj hm
           exact ⟨S.sub ⟨rfl, rfl, rfl, rfl, rfl, rfl, rfl, rfl, rfl, rfl, rfl, rfl, rfl, trivial⟩, H⟩
          ·have hm := ite_f (eq_false_of_ne_true hc773) e772
           have hc773 : t763 = false := eq_false_of_ne_true hc773
           refine lx_skip S rfl rfl (isB_ne hc773) (by decide) (fun a S => ?_)
           refine lx_skip S rfl rfl (isB_ne hc773) (by decide) (fun a S => ?_)
           refine lx_skip S rfl rfl (isB_ne hc773) (by decide) (fun a S => ?_)
           refine lx_skip S rfl rfl (isB_ne hc773) (by decide) (fun a S => ?_)
           refine lq (.bool false) S (q_pickF' rfl hc773 rfl) fun a S => ?_
           refine lx_nil ?_
           obtain rfl := Option.some.inj hm
           exact ⟨S.sub ⟨rfl, rfl, rfl, rfl, rfl, rfl, rfl, rfl, rfl, rfl, rfl, rfl, rfl, trivial⟩, H⟩
         ·rintro a w ⟨S, H⟩
          refine lq (.bool t771) S (q_move rfl) fun a S => ?_
          obtain ⟨t779, e780, hm⟩ := bind_some hm
          refine lx_cut 16 (fun a w => Slots a 142 [(0, p0), (1, p1), (5, v317), (6, (.int .i64 x322)), (7, (bp b633)), (8, (.int .i64 (W ((xs318.length : Int) - (1 : Int))))), (9, v640), (10, u649), (11, u653), (12, (.int .i64 x697)), (59, v640), (60, (.int .i64 x697)), (92, (.bool t779))] ∧ Heap w0 [oA (rList (rTg (rList rBool))) v317 T320, bA b633 [(.int .i64 x616.1), (.int .i64 x616.2.1), (sv x616.2.2.1), (.bool x616.2.2.2)] 61, oA (rList rBool) v640 xs696] w) ?_ ?_
          ·by_cases hc781 : t771 = true
           ·have hm := ite_t hc781 e780
            refine lx_skip S rfl rfl (isB_ne hc781) (by decide) (fun a S => ?_)
            refine lx_skip S rfl rfl (isB_ne hc781) (by decide) (fun a S => ?_)
            refine lx_skip S rfl rfl (isB_ne hc781) (by decide) (fun a S => ?_)
            refine lx_skip S rfl rfl (isB_ne hc781) (by decide) (fun a S => ?_)
            refine lx_skip S rfl rfl rfl (by decide) (fun a S => ?_)
            refine lx_skip S rfl rfl rfl (by decide) (fun a S => ?_)
            refine lx_skip S rfl rfl rfl (by decide) (fun a S => ?_)
            refine lx_skip S rfl rfl rfl (by decide) (fun a S => ?_)
            refine lx_skip S rfl rfl rfl (by decide) (fun a S => ?_)
            refine lx_skip S rfl rfl rfl (by decide) (fun a S => ?_)
            refine lx_skip S rfl rfl rfl (by decide) (fun a S => ?_)
            refine lx_skip S rfl rfl rfl (by decide) (fun a S => ?_)
            refine lx_skip S rfl rfl rfl (by decide) (fun a S => ?_)
            refine lx_skip S rfl rfl rfl (by decide) (fun a S => ?_)
            refine lx_skip S rfl rfl (isB_ne hc781) (by decide) (fun a S => ?_)
            refine lq (.bool true) S (q_pickT' rfl hc781 rfl) fun a S => ?_
            refine lx_nil ?_
            obtain rfl := Option.some.inj hm
            exact ⟨S.sub ⟨rfl, rfl, rfl, rfl, rfl, rfl, rfl, rfl, rfl, rfl, rfl, rfl, rfl, trivial⟩, H⟩
           ·have hm := ite_f (eq_false_of_ne_true hc781) e780
            have hc781 : t771 = false := eq_false_of_ne_true hc781
            refine lx_q (pAdd (bp b633) 0) S (want_b rfl rfl hc781) (by decide) (q_fieldAddr' 0 2 rfl (isP_bp _) Tryz.underlying61 rfl Tryz.sizeOf2) (fun a S => ?_)
            refine lx_e (.int .i64 x616.1) S (want_b rfl rfl hc781) (by decide) rfl trivial (q_load1 rfl Tryz.isAgg2 (by rintro _ rfl; exact (At.of_add (m := 0) (j := 0) (boxAt (i := 1) H rfl (j := 0) rfl)))) (fun a S => ?_)
            refine lx_q (.bool (x616.1 == (3 : Int))) S (want_b rfl rfl hc781) (by decide) (q_eql rfl rfl) (fun a S => ?_)
            refine lx_q (.bool (x616.1 == (3 : Int))) S (want_b rfl rfl hc781) (by decide) (q_move rfl) (fun a S => ?_)
            obtain ⟨t782, e783, hm⟩ := bind_some hm
            refine lx_cut 11 (fun a w => Slots a 142 [(0, p0), (1, p1), (5, v317), (6, (.int .i64 x322)), (7, (bp b633)), (8, (.int .i64 (W ((xs318.length : Int) - (1 : Int))))), (9, v640), (10, u649), (11, u653), (12, (.int .i64 x697)), (59, v640), (60, (.int .i64 x697)), (76, (.bool t771)), (91, (.bool t782))] ∧ Heap w0 [oA (rList (rTg (rList rBool))) v317 T320, bA b633 [(.int .i64 x616.1), (.int .i64 x616.2.1), (sv x616.2.2.1), (.bool x616.2.2.2)] 61, oA (rList rBool) v640 xs696] w) ?_ ?_
            ·by_cases hc784 : (x616.1 == (3 : Int)) = true
             ·have hm := ite_t hc784 e783
              refine lx_q u649 S (want_b rfl rfl hc784) (by decide) (q_move rfl) (fun a S => ?_)
              refine lx_q (.int .i64 x697) S (want_b rfl rfl hc784) (by decide) (q_move rfl) (fun a S => ?_)
              obtain ⟨x785, e786, hm⟩ := bind_some hm
              obtain ⟨c787, h788, hat789⟩ := ((rd_tg (H.rdAt 0 rfl) hT650 rfl)).elem (idx_some e786).2
              obtain rfl := h788
              have hlt := lt_of_idx (idx_some e786).2
              refine lx_q (ePtr u649 (x697.toNat * 1)) S (want_b rfl rfl hc784) (by decide) (q_indexAddr rfl ((rd_tg (H.rdAt 0 rfl) hT650 rfl)).isSl rfl (idx_some e786).1 hlt Tryz.underlying59 Tryz.sizeOf4) (fun a S => ?_)
              refine lx_e (.bool x785) S (want_b rfl rfl hc784) (by decide) rfl trivial (q_load1 rfl Tryz.isAgg4 (by rintro _ rfl; exact ((hat789 0 _ rfl).ext (Ext.refl _)))) (fun a S => ?_)
              refine lx_q (.bool x785) S (want_b rfl rfl hc784) (by decide) (q_move rfl) (fun a S => ?_)
              obtain ⟨t790, e791, hm⟩ := bind_some hm
              refine lx_cut 5 (fun a w => Slots a 142 [(0, p0), (1, p1), (5, v317), (6, (.int .i64 x322)), (7, (bp b633)), (8, (.int .i64 (W ((xs318.length : Int) - (1 : Int))))), (9, v640), (10, u649), (11, u653), (12, (.int .i64 x697)), (59, v640), (60, (.int .i64 x697)), (76, (.bool t771)), (80, (.bool (x616.1 == (3 : Int)))), (90, (.bool t790))] ∧ Heap w0 [oA (rList (rTg (rList rBool))) v317 T320, bA b633 [(.int .i64 x616.1), (.int .i64 x616.2.1), (sv x616.2.2.1), (.bool x616.2.2.2)] 61, oA (rList rBool) v640 xs696] w) ?_ ?_
              ·by_cases hc792 : x785 = true
               ·have hm := ite_t hc792 e791
                refine lx_skip S rfl rfl (isB_ne hc792) (by decide) (fun a S => ?_)
                refine lx_skip S rfl rfl (isB_ne hc792) (by decide) (fun a S => ?_)
                refine lx_skip S rfl rfl (isB_ne hc792) (by decide) (fun a S => ?_)
                refine lx_skip S rfl rfl (isB_ne hc792) (by decide) (fun a S => ?_)
                refine lx_q (.bool true) S (want_b rfl rfl hc784) (by decide) (q_pickT' rfl hc792 rfl) (fun a S => ?_)
                refine lx_nil ?_
                obtain rfl := Option.some.inj hm
                exact ⟨S.sub ⟨rfl, rfl, rfl, rfl, rfl, rfl, rfl, rfl, rfl, rfl, rfl, rfl, rfl, rfl, rfl, trivial⟩, H⟩
               ·have hm := ite_f (eq_false_of_ne_true hc792) e791
                have hc792 : x785 = false := eq_false_of_ne_true hc792
                refine lx_q u653 S (want_b rfl rfl hc792) (by decide) (q_move rfl) (fun a S => ?_)
                refine lx_q (.int .i64 x697) S (want_b rfl rfl hc792) (by decide) (q_move rfl) (fun a S => ?_)
                obtain ⟨x793, e794, hm⟩ := bind_some hm
                obtain ⟨c795, h796, hat797⟩ := ((rd_tg (H.rdAt 0 rfl) hT654 rfl)).elem (idx_some e794).2
                obtain rfl := h796
                have hlt := lt_of_idx (idx_some e794).2
                refine lx_q (ePtr u653 (x697.toNat * 1)) S (want_b rfl rfl hc792) (by decide) (q_indexAddr rfl ((rd_tg (H.rdAt 0 rfl) hT654 rfl)).isSl rfl (idx_some e794).1 hlt Tryz.underlying59 Tryz.sizeOf4) (fun a S => ?_)
                refine lx_e (.bool x793) S (want_b rfl rfl hc792) (by decide) rfl trivial (q_load1 rfl Tryz.isAgg4 (by rintro _ rfl; exact ((hat797 0 _ rfl).ext (Ext.refl _)))) (fun a S => ?_)
                refine lx_q (.bool x793) S (want_b rfl rfl hc784) (by decide) (q_pickF' rfl hc792 rfl) (fun a S => ?_)
                refine lx_nil ?_
                obtain rfl := Option.some.inj hm
                exact ⟨S.sub ⟨rfl, rfl, rfl, rfl, rfl, rfl, rfl, rfl, rfl, rfl, rfl, rfl, rfl, rfl, rfl, trivial⟩, H⟩
              ·rintro a w ⟨S, H⟩
               refine lx_q (.bool t790) S (want_b rfl rfl hc781) (by decide) (q_pickT' rfl hc784 rfl) (fun a S => ?_)
               refine lx_nil ?_
               obtain rfl := Option.some.inj hm
               exact ⟨S.sub ⟨rfl, rfl, rfl, rfl, rfl, rfl, rfl, rfl, rfl, rfl, rfl, rfl, rfl, rfl, trivial⟩, H⟩
             ·have hm := ite_f (eq_false_of_ne_true hc784) e783
              have hc784 : (x616.1 == (3 : Int)) = false := eq_false_of_ne_true hc784
              refine lx_skip S rfl rfl (isB_ne hc784) (by decide) (fun a S => ?_)
              refine lx_skip S rfl rfl (isB_ne hc784) (by decide) (fun a S => ?_)
              refine lx_skip S rfl rfl (isB_ne hc784) (by decide) (fun a S => ?_)
              refine lx_skip S rfl rfl (isB_ne hc784) (by decide) (fun a S => ?_)
              refine lx_skip S rfl rfl (isB_ne hc784) (by decide) (fun a S => ?_)
              refine lx_skip S rfl rfl rfl (by decide) (fun a S => ?_)
              refine lx_skip S rfl rfl rfl (by decide) (fun a S => ?_)
              refine lx_skip S rfl rfl rfl (by decide) (fun a S => ?_)
              refine lx_skip S rfl rfl rfl (by decide) (fun a S => ?_)
              refine lx_skip S rfl rfl (isB_ne hc784) (by decide) (fun a S => ?_)
              refine lx_q (.bool false) S (want_b rfl rfl hc781) (by decide) (q_pickF' rfl hc784 rfl) (fun a S => ?_)
              refine lx_nil ?_
              obtain rfl := Option.some.inj hm
              exact ⟨S.sub ⟨rfl, rfl, rfl, rfl, rfl, rfl, rfl, rfl, rfl, rfl, rfl, rfl, rfl, rfl, trivial⟩, H⟩
            ·rintro a w ⟨S, H⟩
             refine lq (.bool t782) S (q_pickF' rfl hc781 rfl) fun a S => ?_
             refine lx_nil ?_
             obtain rfl := Option.some.inj hm
             exact ⟨S.sub ⟨rfl, rfl, rfl, rfl, rfl, rfl, rfl, rfl, rfl, rfl, rfl, rfl, rfl, trivial⟩, H⟩
          ·rintro a w ⟨S, H⟩
           obtain ⟨x798, e799, hm⟩ := bind_some hm
           have hlt := lt_of_idx (idx_some e799).2
           refine lq (ePtr v640 (x697.toNat * 1)) S (q_indexAddr rfl (H.isSl 2 rfl) rfl (idx_some e799).1 hlt Tryz.underlying59 Tryz.sizeOf4) fun a S => ?_
           have H : Heap w0 [oA (rList rBool) v640 xs696, oA (rList (rTg (rList rBool))) v317 T320, bA b633 [(.int .i64 x616.1), (.int .i64 x616.2.1), (sv x616.2.2.1), (.bool x616.2.2.2)] 61] w := H.front 2 rfl
           refine lx_storeElem (r := rBool) (us := [(.bool t779)]) (off := 0) (e' := t779) S trivial rfl H.putE (ev_zero rfl) rfl (idx_some e799).2 rfl Tryz.sizeOf4 (Nat.le_of_ble_eq_true rfl) (List.forall_mem_cons.2 ⟨rfl, (List.forall_mem_nil _)⟩) (Upd.full rfl (fun w G hG => by cases (show G = [] from hG); exact ⟨rfl, rfl⟩)) (fun w800 H => ⟨trivial, fun a S => ?_⟩)
           refine lx_nil ?_
           refine inBlock_norm ?_
           refine thenN ?_
           refine region_plain ?_
           refine lq (.int .i64 x697) S (q_move rfl) fun a S => ?_
           refine lq (.int .i64 (W (x697 + (1 : Int)))) S (q_add rfl rfl) fun a S => ?_
           refine lq (.int .i64 (W (x697 + (1 : Int)))) S (q_assign rfl) fun a S => ?_
           refine lx_nil ?_
           have H : Heap w0 [bA b633 [(.int .i64 x616.1), (.int .i64 x616.2.1), (sv x616.2.2.1), (.bool x616.2.2.2)] 61, oA (rList rBool) v640 (xs696.set x697.toNat t779), oA (rList (rTg (rList rBool))) v317 T320] w800 := H.front 2 rfl
           have H : Heap w0 [oA (rList (rTg (rList rBool))) v317 T320, bA b633 [(.int .i64 x616.1), (.int .i64 x616.2.1), (sv x616.2.2.1), (.bool x616.2.2.2)] 61, oA (rList rBool) v640 (xs696.set x697.toNat t779)] w800 := H.front 2 rfl
           exact ⟨m759, Nat.lt_succ_self _, (xs696.set x697.toNat t779), (W (x697 + (1 : Int))), S.sub ⟨rfl, rfl, rfl, rfl, rfl, rfl, rfl, rfl, rfl, rfl, trivial⟩, H, it_cont hm hc761⟩
       ·have hm := ite_f hc762 hm
        refine wp_exit ?_
        refine then_exit ?_
        refine then_exit ?_
        refine inBlock_exit ?_
        obtain rfl := it_brk hm hc761
        have H : Heap w0 [oA (rList (rTg (rList rBool))) v317 T320, oA (rList rBool) v640 xs696] w := H.sel [0, 2] (by decide)
        exact ⟨xs696, S.sub ⟨rfl, rfl, rfl, rfl, rfl, rfl, trivial⟩, H, rfl⟩
     ·have hm := ite_f hc646 hm
      refine wp_skip (thenN ?_)
      refine wp_seq (wp_seq (region_plain ?_))
      refine lq (pAdd (bp b633) 0) S (q_fieldAddr' 0 2 rfl (isP_bp _) Tryz.underlying61 rfl Tryz.sizeOf2) fun a S => ?_
      refine lx_e (.int .i64 x616.1) S trivial (by decide) rfl trivial (q_load1 rfl Tryz.isAgg2 (by rintro _ rfl; exact (At.of_add (m := 0) (j := 0) (boxAt (i := 1) H rfl (j := 0) rfl)))) (fun a S => ?_)
      refine lq (.bool (x616.1 == (4 : Int))) S (q_eql rfl rfl) fun a S => ?_
      refine lq (.bool (x616.1 == (4 : Int))) S (q_move rfl) fun a S => ?_
      obtain ⟨t801, e802, hm⟩ := bind_some hm
      refine lx_cut 4 (fun a w => Slots a 142 [(0, p0), (1, p1), (5, v317), (6, (.int .i64 x322)), (7, (bp b633)), (8, (.int .i64 (W ((xs318.length : Int) - (1 : Int))))), (9, v640), (108, (.bool t801))] ∧ Heap w0 [oA (rList rBool) v640 (List.replicate m639 false), bA b633 [(.int .i64 x616.1), (.int .i64 x616.2.1), (sv x616.2.2.1), (.bool x616.2.2.2)] 61, oA (rList (rTg (rList rBool))) v317 T320] w) ?_ ?_
      ·by_cases hc803 : (x616.1 == (4 : Int)) = true
       ·have hm := ite_t hc803 e802
        refine lx_skip S rfl rfl (isB_ne hc803) (by decide) (fun a S => ?_)
        refine lx_skip S rfl rfl (isB_ne hc803) (by decide) (fun a S => ?_)
        refine lx_skip S rfl rfl (isB_ne hc803) (by decide) (fun a S => ?_)
        refine lq (.bool true) S (q_pickT' rfl hc803 rfl) fun a S => ?_
        refine lx_nil ?_
        obtain rfl := Option.some.inj hm
        exact ⟨S.sub ⟨rfl, rfl, rfl, rfl, rfl, rfl, rfl, rfl, trivial⟩, H⟩
       ·have hm := ite_f (eq_false_of_ne_true hc803) e802
        have hc803 : (x616.1 == (4 : Int)) = false := eq_false_of_ne_true hc803
        refine lx_q (pAdd (bp b633) 0) S (want_b rfl rfl hc803) (by decide) (q_fieldAddr' 0 2 rfl (isP_bp _) Tryz.underlying61 rfl Tryz.sizeOf2) (fun a S => ?_)
        refine lx_e (.int .i64 x616.1) S (want_b rfl rfl hc803) (by decide) rfl trivial (q_load1 rfl Tryz.isAgg2 (by rintro _ rfl; exact (At.of_add (m := 0) (j := 0) (boxAt (i := 1) H rfl (j := 0) rfl)))) (fun a S => ?_)
        refine lx_q (.bool (x616.1 == (5 : Int))) S (want_b rfl rfl hc803) (by decide) (q_eql rfl rfl) (fun a S => ?_)
        refine lq (.bool (x616.1 == (5 : Int))) S (q_pickF' rfl hc803 rfl) fun a S => ?_
        refine lx_nil ?_
        obtain rfl := Option.some.inj hm
        exact ⟨S.sub ⟨rfl, rfl, rfl, rfl, rfl, rfl, rfl, rfl, trivial⟩, H⟩
      ·rintro a w ⟨S, H⟩
       refine lx_nil (thenN ?_)
       refine cond_b S rfl (fun hc804 => ?_) (fun hc804 => ?_)
       ·have hm := ite_t hc804 hm
        refine wp_seq (region_plain ?_)
        refine lq p1 S (q_move rfl) fun a S => ?_
        refine lq v317 S (q_move rfl) fun a S => ?_
        refine lq (.int .i64 (W ((xs318.length : Int) - (1 : Int)))) S (q_move rfl) fun a S => ?_
        obtain ⟨x805, e806, hm⟩ := bind_some hm
        obtain ⟨u807, hT808⟩ := tg_idx hT321 e806
        have hlt := lt_of_idx (idx_some e806).2
        refine lq (ePtr v317 ((W ((xs318.length : Int) - (1 : Int))).toNat * 1)) S (q_indexAddr rfl (tg_sl hT321 (H.isSl 2 rfl)) rfl (idx_some e806).1 hlt Tryz.underlying83 Tryz.sizeOf59) fun a S => ?_
        refine lx_e u807 S trivial (by decide) rfl trivial (q_load1 rfl Tryz.isAgg59 (by rintro _ rfl; exact (tg_at (H.rdAt 2 rfl) hT808))) (fun a S => ?_)
        obtain ⟨x811, e812, hm⟩ := bind_some hm
        refine lx_call (xs := [.tmp 7, .tmp 109, .tmp 113]) S trivial (by decide) rfl rfl Tryz.call50 ((spec_l14Step_ok (rdPtr_box H 1 rfl ⟨[(.int .i64 x616.1)], [(.int .i64 x616.2.1), (sv x616.2.2.1), (.bool x616.2.2.2)], rfl, rfl, ⟨[(.int .i64 x616.2.1)], [(sv x616.2.2.1), (.bool x616.2.2.2)], rfl, rfl, ⟨[(sv x616.2.2.1)], [(.bool x616.2.2.2)], rfl, rfl, rfl⟩⟩⟩) (H.arg h1) (rd_tg (H.rdAt 2 rfl) hT808 rfl) e812).mono ?_)
        rintro e w809 ⟨v813, rfl, Hc810⟩
        have H := H.call1 Hc810
        refine ⟨_, rfl, trivial, fun a S => ?_⟩
        refine lq v813 S (q_assign rfl) fun a S => ?_
        refine lx_nil (thenN ?_)
        refine wp_seq (region_plain ?_)
        refine lq v317 S (q_move rfl) fun a S => ?_
        refine lq (.int .i64 (W ((xs318.length : Int) - (1 : Int)))) S (q_move rfl) fun a S => ?_
        obtain ⟨xs816, e817, hm⟩ := bind_some hm
        have hsb := (sub_some e817).1
        refine lq (subV v317 ((0 : Int)).toNat ((W ((xs318.length : Int) - (1 : Int)))).toNat 1) S (q_slice (lo := none) (hi := (some (.tmp 116))) (l := (0 : Int)) (h := (W ((xs318.length : Int) - (1 : Int)))) (size := 1) rfl (tg_sl hT321 (H.isSl 3 rfl)) Tryz.underlying83 Tryz.sizeOf59 rfl rfl hsb.1 hsb.2.1 hsb.2.2) fun a S => ?_
        have H : Heap w0 [oA (rList (rTg (rList rBool))) v317 T320, oA (rList rBool) v813 x811, oA (rList rBool) v640 (List.replicate m639 false), bA b633 [(.int .i64 x616.1), (.int .i64 x616.2.1), (sv x616.2.2.1), (.bool x616.2.2.2)] 61] w809 := H.front 3 rfl
        obtain ⟨U818, hs819, hU820⟩ := tg_sub hT321 e817
        have H : Heap w0 [oA (rList (rTg (rList rBool))) (subV v317 ((0 : Int)).toNat ((W ((xs318.length : Int) - (1 : Int)))).toNat 1) U818, oA (rList rBool) v813 x811, oA (rList rBool) v640 (List.replicate m639 false), bA b633 [(.int .i64 x616.1), (.int .i64 x616.2.1), (sv x616.2.2.1), (.bool x616.2.2.2)] 61] w809 := H.cut hs819
        refine lq v813 S (q_move rfl) fun a S => ?_
        have H : Heap w0 [oA (rList rBool) v813 x811, oA (rList (rTg (rList rBool))) (subV v317 ((0 : Int)).toNat ((W ((xs318.length : Int) - (1 : Int)))).toNat 1) U818, oA (rList rBool) v640 (List.replicate m639 false), bA b633 [(.int .i64 x616.1), (.int .i64 x616.2.1), (sv x616.2.2.1), (.bool x616.2.2.2)] 61] w809 := H.front 1 rfl
        refine lx_buildSlice (r := (rTg (rList rBool))) (xs := [(x811, v813)]) (ps := [(0, [v813])]) (cs := [v813]) (parts := [(0, .tmp 118)]) S trivial (by decide) rfl H rfl Tryz.underlying83 Tryz.sizeOf59 Tryz.zeroValue59 (by decide) ⟨rfl, (cells_sl (H.isSl 0 rfl)), Nat.le_of_ble_eq_true rfl, trivial⟩ (by intro zs hz; exact fill_dense hz ⟨rfl, trivial⟩ rfl rfl) rfl (by decide) (fun w F hA => ownL_one_mk (r := (rTg (rList rBool))) ⟨oA_list.1 hA, rfl⟩) (fun v821 w822 H => ⟨trivial, fun a S => ?_⟩)
        obtain ⟨x824, e825, hm⟩ := bind_some hm
        obtain ⟨hle, hap⟩ := app_some e825
        replace hap := hap.symm
        subst hap
        have hT828 := tg_app hU820 (tg_one (x := x811) (u := v813))
        have H : Heap w0 [oA (rList (rTg (rList rBool))) v821 ([(x811, v813)] : List ((List Bool) × Value)), oA (rList (rTg (rList rBool))) (subV v317 ((0 : Int)).toNat ((W ((xs318.length : Int) - (1 : Int)))).toNat 1) U818, oA (rList rBool) v640 (List.replicate m639 false), bA b633 [(.int .i64 x616.1), (.int .i64 x616.2.1), (sv x616.2.2.1), (.bool x616.2.2.2)] 61] w822 := H.front 0 rfl
        have H : Heap w0 [oA (rList (rTg (rList rBool))) (subV v317 ((0 : Int)).toNat ((W ((xs318.length : Int) - (1 : Int)))).toNat 1) U818, oA (rList (rTg (rList rBool))) v821 ([(x811, v813)] : List ((List Bool) × Value)), oA (rList rBool) v640 (List.replicate m639 false), bA b633 [(.int .i64 x616.1), (.int .i64 x616.2.1), (sv x616.2.2.1), (.bool x616.2.2.2)] 61] w822 := H.front 1 rfl
        refine lx_appendOwn (r := (rTg (rList rBool))) S trivial (by decide) rfl H rfl rfl Tryz.underlying83 Tryz.ti59 rfl rfl rfl (Nat.le_of_ble_eq_true rfl) (by decide) (tg_le hU820 (tg_one (x := x811) (u := v813)) hle) (fun v826 w827 H => ⟨trivial, fun a S => ?_⟩)
        refine lq v826 S (q_assign rfl) fun a S => ?_
        refine lx_nil (thenN ?_)
        refine wp_exit ?_
        refine then_exit ?_
        refine inBlock_exit ?_
        have H : Heap w0 [oA (rList (rTg (rList rBool))) v826 (U818 ++ ([(x811, v813)] : List ((List Bool) × Value)))] w827 := H.sel [0] (by decide)
        exact ⟨(xs816 ++ [x811]), v826, (U818 ++ ([(x811, v813)] : List ((List Bool) × Value))), S.sub ⟨rfl, rfl, rfl, rfl, trivial⟩, H, hT828, hm⟩
       ·have hm := ite_f hc804 hm
        refine wp_skip (thenN ?_)
        refine wp_seq (wp_seq (region_plain ?_))
        refine lq (.int .i64 (0 : Int)) S (q_assign rfl) fun a S => ?_
        refine lx_nil (thenN ?_)
        obtain ⟨res845, hit846, hk849⟩ := bind_some hm
        obtain ⟨f847, hf848, hit846⟩ := iter_name hit846
        refine block_loop (fun a w => ∃ (xs844 : List Bool), Slots a 142 [(0, p0), (1, p1), (5, v317), (6, (.int .i64 x322)), (9, v640)] ∧ Heap w0 [oA (rList (rTg (rList rBool))) v317 T320, oA (rList rBool) v640 xs844] w ∧ res845 = .inl (xs844)) ?_ ?_
        ·rintro a w ⟨xs844, S, H, rfl⟩
         have hm := ctl_inl hk849
         refine thenN ?_
         refine region_plain ?_
         refine lq v317 S (q_move rfl) fun a S => ?_
         refine lq v640 S (q_move rfl) fun a S => ?_
         have H : Heap w0 [oA (rList rBool) v640 xs844, oA (rList (rTg (rList rBool))) v317 T320] w := H.front 1 rfl
         refine lx_buildSlice (r := (rTg (rList rBool))) (xs := [(xs844, v640)]) (ps := [(0, [v640])]) (cs := [v640]) (parts := [(0, .tmp 136)]) S trivial (by decide) rfl H rfl Tryz.underlying83 Tryz.sizeOf59 Tryz.zeroValue59 (by decide) ⟨rfl, (cells_sl (H.isSl 0 rfl)), Nat.le_of_ble_eq_true rfl, trivial⟩ (by intro zs hz; exact fill_dense hz ⟨rfl, trivial⟩ rfl rfl) rfl (by decide) (fun w F hA => ownL_one_mk (r := (rTg (rList rBool))) ⟨oA_list.1 hA, rfl⟩) (fun v850 w851 H => ⟨trivial, fun a S => ?_⟩)
         obtain ⟨x853, e854, hm⟩ := bind_some hm
         obtain ⟨hle, hap⟩ := app_some e854
         replace hap := hap.symm
         subst hap
         have hT857 := tg_app hT321 (tg_one (x := xs844) (u := v640))
         have H : Heap w0 [oA (rList (rTg (rList rBool))) v850 ([(xs844, v640)] : List ((List Bool) × Value)), oA (rList (rTg (rList rBool))) v317 T320] w851 := H.front 0 rfl
         have H : Heap w0 [oA (rList (rTg (rList rBool))) v317 T320, oA (rList (rTg (rList rBool))) v850 ([(xs844, v640)] : List ((List Bool) × Value))] w851 := H.front 1 rfl
         refine lx_appendOwn (r := (rTg (rList rBool))) S trivial (by decide) rfl H rfl rfl Tryz.underlying83 Tryz.ti59 rfl rfl rfl (Nat.le_of_ble_eq_true rfl) (by decide) (tg_le hT321 (tg_one (x := xs844) (u := v640)) hle) (fun v855 w856 H => ⟨trivial, fun a S => ?_⟩)
         refine lq v855 S (q_assign rfl) fun a S => ?_
         refine lx_nil ?_
         refine inBlock_norm ?_
         exact ⟨(xs318 ++ [xs844]), v855, (T320 ++ ([(xs844, v640)] : List ((List Bool) × Value))), S.sub ⟨rfl, rfl, rfl, rfl, trivial⟩, H, hT857, hm⟩
        ·skip
         have H : Heap w0 [bA b633 [(.int .i64 x616.1), (.int .i64 x616.2.1), (sv x616.2.2.1), (.bool x616.2.2.2)] 61, oA (rList rBool) v640 (List.replicate m639 false), oA (rList (rTg (rList rBool))) v317 T320] w := H.front 1 rfl
         have H : Heap w0 [oA (rList (rTg (rList rBool))) v317 T320, bA b633 [(.int .i64 x616.1), (.int .i64 x616.2.1), (sv x616.2.2.1), (.bool x616.2.2.2)] 61, oA (rList rBool) v640 (List.replicate m639 false)] w := H.front 2 rfl
         refine loop_ghost (fun n a w => ∃ (xs836 : List Bool) (x837 : Int), Slots a 142 [(0, p0), (1, p1), (5, v317), (6, (.int .i64 x322)), (7, (bp b633)), (9, v640), (13, (.int .i64 x837))] ∧ Heap w0 [oA (rList (rTg (rList rBool))) v317 T320, bA b633 [(.int .i64 x616.1), (.int .i64 x616.2.1), (sv x616.2.2.1), (.bool x616.2.2.2)] 61, oA (rList rBool) v640 xs836] w ∧ iter f847 n (xs836, x837) = some res845) _ ⟨(List.replicate m639 false), (0 : Int), S.sub ⟨rfl, rfl, rfl, rfl, rfl, rfl, rfl, trivial⟩, H, hit846⟩ ?_
         rintro n a w ⟨xs836, x837, S, H, hit846⟩
         obtain ⟨m859, o860, rfl, hm, hc861⟩ := iter_step hit846
         rw [hf848] at hm
         refine wp_seq (wp_seq (region_plain ?_))
         refine lq (.int .i64 x837) S (q_move rfl) fun a S => ?_
         refine lq p1 S (q_move rfl) fun a S => ?_
         refine lq p1 S (q_nilCheck rfl ((hat33 0 _ rfl).isP)) fun a S => ?_
         refine lq (pAdd p1 0) S (q_fieldAddr' 0 2 rfl ((hat33 0 _ rfl).isP) Tryz.underlying35 rfl Tryz.sizeOf2) fun a S => ?_
         refine lx_e (.int .i64 a1.1) S trivial (by decide) rfl trivial (q_load1 rfl Tryz.isAgg2 (by rintro _ rfl; exact (At.of_add (m := 0) (j := 0) ((hat33 0 _ rfl).ext H.ext)))) (fun a S => ?_)
         refine lq (.bool (decide (x837 < a1.1))) S (q_lss rfl rfl) fun a S => ?_
         refine lx_nil (thenN ?_)
         refine cond_b S rfl (fun hc862 => ?_) (fun hc862 => ?_)
         ·have hm := ite_t hc862 hm
          refine wp_skip (thenN ?_)
          refine wp_seq ?_
          refine wp_block ?_
          refine region_plain ?_
          refine lq v640 S (q_move rfl) fun a S => ?_
          refine lq (.int .i64 x837) S (q_move rfl) fun a S => ?_
          refine lq (pAdd (bp b633) 0) S (q_fieldAddr' 0 2 rfl (isP_bp _) Tryz.underlying61 rfl Tryz.sizeOf2) fun a S => ?_
          refine lx_e (.int .i64 x616.1) S trivial (by decide) rfl trivial (q_load1 rfl Tryz.isAgg2 (by rintro _ rfl; exact (At.of_add (m := 0) (j := 0) (boxAt (i := 1) H rfl (j := 0) rfl)))) (fun a S => ?_)
          refine lq (.bool (x616.1 == (0 : Int))) S (q_eql rfl rfl) fun a S => ?_
          obtain ⟨x863, e864, hm⟩ := bind_some hm
          have hlt := lt_of_idx (idx_some e864).2
          refine lq (ePtr v640 (x837.toNat * 1)) S (q_indexAddr rfl (H.isSl 2 rfl) rfl (idx_some e864).1 hlt Tryz.underlying59 Tryz.sizeOf4) fun a S => ?_
          have H : Heap w0 [oA (rList rBool) v640 xs836, oA (rList (rTg (rList rBool))) v317 T320, bA b633 [(.int .i64 x616.1), (.int .i64 x616.2.1), (sv x616.2.2.1), (.bool x616.2.2.2)] 61] w := H.front 2 rfl
          refine lx_storeElem (r := rBool) (us := [(.bool (x616.1 == (0 : Int)))]) (off := 0) (e' := (x616.1 == (0 : Int))) S trivial rfl H.putE (ev_zero rfl) rfl (idx_some e864).2 rfl Tryz.sizeOf4 (Nat.le_of_ble_eq_true rfl) (List.forall_mem_cons.2 ⟨rfl, (List.forall_mem_nil _)⟩) (Upd.full rfl (fun w G hG => by cases (show G = [] from hG); exact ⟨rfl, rfl⟩)) (fun w865 H => ⟨trivial, fun a S => ?_⟩)
          refine lx_nil ?_
          refine inBlock_norm ?_
          refine thenN ?_
          refine region_plain ?_
          refine lq (.int .i64 x837) S (q_move rfl) fun a S => ?_
          refine lq (.int .i64 (W (x837 + (1 : Int)))) S (q_add rfl rfl) fun a S => ?_
          refine lq (.int .i64 (W (x837 + (1 : Int)))) S (q_assign rfl) fun a S => ?_
          refine lx_nil ?_
          have H : Heap w0 [bA b633 [(.int .i64 x616.1), (.int .i64 x616.2.1), (sv x616.2.2.1), (.bool x616.2.2.2)] 61, oA (rList rBool) v640 (xs836.set x837.toNat (x616.1 == (0 : Int))), oA (rList (rTg (rList rBool))) v317 T320] w865 := H.front 2 rfl
          have H : Heap w0 [oA (rList (rTg (rList rBool))) v317 T320, bA b633 [(.int .i64 x616.1), (.int .i64 x616.2.1), (sv x616.2.2.1), (.bool x616.2.2.2)] 61, oA (rList rBool) v640 (xs836.set x837.toNat (x616.1 == (0 : Int)))] w865 := H.front 2 rfl
          exact ⟨m859, Nat.lt_succ_self _, (xs836.set x837.toNat (x616.1 == (0 : Int))), (W (x837 + (1 : Int))), S.sub ⟨rfl, rfl, rfl, rfl, rfl, rfl, rfl, trivial⟩, H, it_cont hm hc861⟩
         ·have hm := ite_f hc862 hm
          refine wp_exit ?_
          refine then_exit ?_
          refine then_exit ?_
          refine inBlock_exit ?_
          obtain rfl := it_brk hm hc861
          have H : Heap w0 [oA (rList (rTg (rList rBool))) v317 T320, oA (rList rBool) v640 xs836] w := H.sel [0, 2] (by decide)
          exact ⟨xs836, S.sub ⟨rfl, rfl, rfl, rfl, rfl, trivial⟩, H, rfl⟩
  ·have hm := ite_f hc608 hm
   refine wp_exit ?_
   refine then_exit ?_
   refine then_exit ?_
   refine inBlock_exit ?_
   obtain rfl := it_brk hm hc607
   exact ⟨xs318, v317, T320, S.sub ⟨rfl, trivial⟩, H, hT321, rfl⟩

/-- impl.within -/
def impl_within_m (_ : Nat) (a0 : Int) (a1 : Int) (a2 : Int) : Option (Bool) :=
  (if (decide (a1 ≤ a0)) = true then some (decide (a0 ≤ a2)) else some false).bind fun t31 => some (t31)
set_option maxRecDepth 20000 in
theorem impl_within_ok [dr : Dr] {w0 : World} {fuel : Nat} {a0 : Int} {a1 : Int} {a2 : Int} {r : Bool} (hm : impl_within_m fuel a0 a1 a2 = some r) :
  Calls Tryz.prog 58 #[.int .i64 a0, .int .i64 a1, .int .i64 a2] w0 fun e w => e = .returned (.bool r) ∧ Heap w0 [] w := by
 unfold impl_within_m at hm
 have H := Heap.start w0
 refine enter (args := [.int .i64 a0, .int .i64 a1, .int .i64 a2]) Tryz.func58 rfl 15 rfl (Nat.le_of_ble_eq_true rfl) (fun a S => ?_)
 refine wp_seq (region_plain ?_)
 refine lq (.bool false) S (q_assign rfl) fun a S => ?_
 refine lx_nil (thenN ?_)
 refine wp_seq (region_plain ?_)
 refine lq (.int .i64 a0) S (q_move rfl) fun a S => ?_
 refine lq (.int .i64 a1) S (q_move rfl) fun a S => ?_
 refine lq (.bool (decide (a1 ≤ a0))) S (q_geq rfl rfl) fun a S => ?_
 refine lq (.bool (decide (a1 ≤ a0))) S (q_move rfl) fun a S => ?_
 obtain ⟨t31, e32, hm⟩ := bind_some hm
 refine lx_cut 4 (fun a w => Slots a 15 [(14, (.bool t31))] ∧ Heap w0 [] w) ?_ ?_
 ·by_cases hc33 : (decide (a1 ≤ a0)) = true
  ·have hm := ite_t hc33 e32
   refine lx_q (.int .i64 a0) S (want_b rfl rfl hc33) (by decide) (q_move rfl) (fun a S => ?_)
   refine lx_q (.int .i64 a2) S (want_b rfl rfl hc33) (by decide) (q_move rfl) (fun a S => ?_)
   refine lx_q (.bool (decide (a0 ≤ a2))) S (want_b rfl rfl hc33) (by decide) (q_leq rfl rfl) (fun a S => ?_)
   refine lq (.bool (decide (a0 ≤ a2))) S (q_pickT' rfl hc33 rfl) fun a S => ?_
   refine lx_nil ?_
   obtain rfl := Option.some.inj hm
   exact ⟨S.sub ⟨rfl, trivial⟩, H⟩
  ·have hm := ite_f (eq_false_of_ne_true hc33) e32
   have hc33 : (decide (a1 ≤ a0)) = false := eq_false_of_ne_true hc33
   refine lx_skip S rfl rfl (isB_ne hc33) (by decide) (fun a S => ?_)
   refine lx_skip S rfl rfl (isB_ne hc33) (by decide) (fun a S => ?_)
   refine lx_skip S rfl rfl (isB_ne hc33) (by decide) (fun a S => ?_)
   refine lq (.bool false) S (q_pickF' rfl hc33 rfl) fun a S => ?_
   refine lx_nil ?_
   obtain rfl := Option.some.inj hm
   exact ⟨S.sub ⟨rfl, trivial⟩, H⟩
 ·rintro a w ⟨S, H⟩
  refine lq (.bool t31) S (q_assign rfl) fun a S => ?_
  refine lx_nil (thenN ?_)
  refine wp_ret ?_
  obtain rfl := Option.some.inj hm
  exact leave1 S rfl rfl ⟨rfl, H⟩

/-- (impl.Node).operands -/
def impl_Node_operands_m (_ : Nat) (a0 : Timpl_Node) : Option (Int) :=
  join (κ := Bool → Option Int) (fun (x48 : Bool) => (if x48 = true then some ((2 : Int)) else join (κ := Bool → Option Int) (fun (x52 : Bool) => (if x52 = true then some ((1 : Int)) else some ((0 : Int)))) (fun K53 => (if (a0.1 == (4 : Int)) = true then (K53 (a0.1 == (4 : Int))) else (if (a0.1 == (5 : Int)) = true then (K53 (a0.1 == (5 : Int))) else (if (a0.1 == (7 : Int)) = true then (K53 (a0.1 == (7 : Int))) else (K53 (a0.1 == (8 : Int))))))))) (fun K49 => (if (a0.1 == (2 : Int)) = true then (K49 (a0.1 == (2 : Int))) else (K49 (a0.1 == (3 : Int)))))
set_option maxRecDepth 20000 in
theorem impl_Node_operands_ok [dr : Dr] {w0 : World} {fuel : Nat} {p0 : Value} {a0 : Timpl_Node} {r : Int} (h0 : Rd Rimpl_Node w0 p0 a0) (hm : impl_Node_operands_m fuel a0 = some r) :
  Calls Tryz.prog 73 #[p0] w0 fun e w => e = .returned (.int .i64 r) ∧ Heap w0 [] w := by
 unfold impl_Node_operands_m at hm
 have H := Heap.start w0
 obtain ⟨c31, rfl, h32⟩ := h0
 obtain ⟨c33, c34, rfl, h35, h36⟩ := h32
 obtain rfl := h35
 obtain ⟨c37, c38, rfl, h39, h40⟩ := h36
 obtain rfl := h39
 obtain ⟨c41, c42, rfl, h43, h44⟩ := h40
 obtain rfl := h43
 obtain rfl := h44
 refine enter (args := [(.agg #[(.int .i64 a0.1), (.int .i64 a0.2.1), (sv a0.2.2.1), (.bool a0.2.2.2)])]) Tryz.func73 rfl 13 rfl (Nat.le_of_ble_eq_true rfl) (fun a S => ?_)
 refine wp_seq (region_plain ?_)
 refine lx_box S trivial (by decide) rfl H rfl rfl (fun b45 w46 H => ⟨trivial, fun a S => ?_⟩)
 refine lq (.int .i64 (0 : Int)) S (q_assign rfl) fun a S => ?_
 refine lx_nil (thenN ?_)
 refine wp_seq (wp_seq (region_plain ?_))
 refine lq (pAdd (bp b45) 0) S (q_fieldAddr' 0 2 rfl (isP_bp _) Tryz.underlying61 rfl Tryz.sizeOf2) fun a S => ?_
 refine lx_e (.int .i64 a0.1) S trivial (by decide) rfl trivial (q_load1 rfl Tryz.isAgg2 (by rintro _ rfl; exact (At.of_add (m := 0) (j := 0) (boxAt (i := 0) H rfl (j := 0) rfl)))) (fun a S => ?_)
 refine lx_nil (thenN ?_)
 refine wp_block ?_
 obtain ⟨K49, hK50, hm⟩ := join_elim hm
 refine seq_cut (fun a w => ∃ (x48 : Bool), Slots a 13 [(4, (.int .i64 a0.1)), (5, (.bool x48))] ∧ Heap w0 [] w ∧ K49 x48 = some r) ?_ ?_
 ·rintro a w ⟨x48, S, H, hm⟩
  subst hK50
  refine cond_b S rfl (fun hc51 => ?_) (fun hc51 => ?_)
  ·have hm := ite_t hc51 hm
   refine wp_seq (region_plain ?_)
   refine lq (.int .i64 (2 : Int)) S (q_assign rfl) fun a S => ?_
   refine lx_nil (thenN ?_)
   refine wp_ret (inBlock_ret ?_)
   refine then_ret ?_
   obtain rfl := Option.some.inj hm
   exact leave1 S rfl rfl ⟨rfl, H⟩
  ·have hm := ite_f hc51 hm
   obtain ⟨K53, hK54, hm⟩ := join_elim hm
   refine seq_cut (fun a w => ∃ (x52 : Bool), Slots a 13 [(8, (.bool x52))] ∧ Heap w0 [] w ∧ K53 x52 = some r) ?_ ?_
   ·rintro a w ⟨x52, S, H, hm⟩
    subst hK54
    refine cond_b S rfl (fun hc55 => ?_) (fun hc55 => ?_)
    ·have hm := ite_t hc55 hm
     refine wp_seq (region_plain ?_)
     refine lq (.int .i64 (1 : Int)) S (q_assign rfl) fun a S => ?_
     refine lx_nil (thenN ?_)
     refine wp_ret (inBlock_ret ?_)
     refine then_ret ?_
     obtain rfl := Option.some.inj hm
     exact leave1 S rfl rfl ⟨rfl, H⟩
    ·have hm := ite_f hc55 hm
     refine wp_skip ?_
     refine inBlock_norm ?_
     refine thenN ?_
     refine wp_seq (region_plain ?_)
     refine lq (.int .i64 (0 : Int)) S (q_assign rfl) fun a S => ?_
     refine lx_nil (thenN ?_)
     refine wp_ret ?_
     obtain rfl := Option.some.inj hm
     exact leave1 S rfl rfl ⟨rfl, H⟩
   ·skip
    refine wp_seq (region_plain ?_)
    refine lq (.bool (a0.1 == (4 : Int))) S (q_eql rfl rfl) fun a S => ?_
    refine lq (.bool (a0.1 == (4 : Int))) S (q_assign rfl) fun a S => ?_
    refine lx_nil (thenN ?_)
    refine cond_b S rfl (fun hc56 => ?_) (fun hc56 => ?_)
    ·have hm := ite_t hc56 hm
     refine wp_skip ?_
     exact ⟨(a0.1 == (4 : Int)), S.sub ⟨rfl, trivial⟩, H, hm⟩
    ·have hm := ite_f hc56 hm
     refine wp_seq (region_plain ?_)
     refine lq (.bool (a0.1 == (5 : Int))) S (q_eql rfl rfl) fun a S => ?_
     refine lq (.bool (a0.1 == (5 : Int))) S (q_assign rfl) fun a S => ?_
     refine lx_nil (thenN ?_)
     refine cond_b S rfl (fun hc57 => ?_) (fun hc57 => ?_)
     ·have hm := ite_t hc57 hm
      refine wp_skip ?_
      exact ⟨(a0.1 == (5 : Int)), S.sub ⟨rfl, trivial⟩, H, hm⟩
     ·have hm := ite_f hc57 hm
      refine wp_seq (region_plain ?_)
      refine lq (.bool (a0.1 == (7 : Int))) S (q_eql rfl rfl) fun a S => ?_
      refine lq (.bool (a0.1 == (7 : Int))) S (q_assign rfl) fun a S => ?_
      refine lx_nil (thenN ?_)
      refine cond_b S rfl (fun hc58 => ?_) (fun hc58 => ?_)
      ·have hm := ite_t hc58 hm
       refine wp_skip ?_
       exact ⟨(a0.1 == (7 : Int)), S.sub ⟨rfl, trivial⟩, H, hm⟩
      ·have hm := ite_f hc58 hm
       refine region_plain ?_
       refine lq (.bool (a0.1 == (8 : Int))) S (q_eql rfl rfl) fun a S => ?_
       refine lq (.bool (a0.1 == (8 : Int))) S (q_assign rfl) fun a S => ?_
       refine lx_nil ?_
       exact ⟨(a0.1 == (8 : Int)), S.sub ⟨rfl, trivial⟩, H, hm⟩
 ·skip
  refine wp_seq (region_plain ?_)
  refine lq (.bool (a0.1 == (2 : Int))) S (q_eql rfl rfl) fun a S => ?_
  refine lq (.bool (a0.1 == (2 : Int))) S (q_assign rfl) fun a S => ?_
  refine lx_nil (thenN ?_)
  refine cond_b S rfl (fun hc59 => ?_) (fun hc59 => ?_)
  ·have hm := ite_t hc59 hm
   refine wp_skip ?_
   have H : Heap w0 [] w46 := H.sel [] (by decide)
   exact ⟨(a0.1 == (2 : Int)), S.sub ⟨rfl, rfl, trivial⟩, H, hm⟩
  ·have hm := ite_f hc59 hm
   refine region_plain ?_
   refine lq (.bool (a0.1 == (3 : Int))) S (q_eql rfl rfl) fun a S => ?_
   refine lq (.bool (a0.1 == (3 : Int))) S (q_assign rfl) fun a S => ?_
   refine lx_nil ?_
   have H : Heap w0 [] w46 := H.sel [] (by decide)
   exact ⟨(a0.1 == (3 : Int)), S.sub ⟨rfl, rfl, trivial⟩, H, hm⟩

/-- impl.shapeOk -/
def impl_shapeOk_m (fuel : Nat) (a0 : (List Timpl_Node)) : Option (Bool) :=
  (iter (fun (s : (Int) × (Int)) => (match s with | (x61, x62) => (if (decide (x62 < (a0.length : Int))) = true then (idx a0 x62).bind fun x103 => (if (x61 == (0 : Int)) = true then some (.inr (.inr false)) else (impl_Node_operands_m fuel (x103.1, x103.2.1, x103.2.2.1, x103.2.2.2)).bind fun x127 => some (.inl ((W (x61 + (W (x127 - (1 : Int))))), (W (x62 + (1 : Int)))))) else some (.inr (.inl (x61)))) : Option (((Int) × (Int)) ⊕ ((Int) ⊕ (Bool))))) fuel ((1 : Int), (0 : Int))).bind fun res94 => ctl (β := Int) (ρ := Bool) (τ := Bool) res94 (fun (x93) => some ((x93 == (0 : Int)))) (fun q => some (q))
set_option maxRecDepth 20000 in
theorem impl_shapeOk_ok [dr : Dr] {w0 : World} {fuel : Nat} {p0 : Value} {a0 : (List Timpl_Node)} {r : Bool} (h0 : Rd (rList Rimpl_Node) w0 p0 a0) (hm : impl_shapeOk_m fuel a0 = some r) :
  Calls Tryz.prog 59 #[p0] w0 fun e w => e = .returned (.bool r) ∧ Heap w0 [] w := by
 unfold impl_shapeOk_m at hm
 have H := Heap.start w0
 refine enter (args := [p0]) Tryz.func59 rfl 22 rfl (Nat.le_of_ble_eq_true rfl) (fun a S => ?_)
 refine wp_seq (region_plain ?_)
 refine lq (.bool false) S (q_assign rfl) fun a S => ?_
 refine lx_nil (thenN ?_)
 refine wp_seq (region_plain ?_)
 refine lq (.int .i64 (1 : Int)) S (q_assign rfl) fun a S => ?_
 refine lx_nil (thenN ?_)
 refine wp_seq (wp_seq (region_plain ?_))
 refine lq p0 S (q_move rfl) fun a S => ?_
 refine lq (.int .i64 (a0.length : Int)) S (q_lenSl rfl (h0).isSl rfl Tryz.underlying31) fun a S => ?_
 refine lq (.int .i64 (0 : Int)) S (q_move rfl) fun a S => ?_
 refine lx_nil (thenN ?_)
 obtain ⟨res94, hit95, hk98⟩ := bind_some hm
 obtain ⟨f96, hf97, hit95⟩ := iter_name hit95
 refine block_loop (fun a w => ∃ (x93 : Int), Slots a 22 [(3, (.int .i64 x93))] ∧ Heap w0 [] w ∧ res94 = .inl (x93)) ?_ ?_
 ·rintro a w ⟨x93, S, H, rfl⟩
  have hm := ctl_inl hk98
  refine thenN ?_
  refine wp_seq (region_plain ?_)
  refine lq (.int .i64 x93) S (q_move rfl) fun a S => ?_
  refine lq (.bool (x93 == (0 : Int))) S (q_eql rfl rfl) fun a S => ?_
  refine lq (.bool (x93 == (0 : Int))) S (q_assign rfl) fun a S => ?_
  refine lx_nil (thenN ?_)
  refine wp_ret ?_
  obtain rfl := Option.some.inj hm
  exact leave1 S rfl rfl ⟨rfl, H⟩
 ·skip
  refine loop_ghost (fun n a w => ∃ (x61 : Int) (x62 : Int), Slots a 22 [(3, (.int .i64 x61)), (6, p0), (7, (.int .i64 (a0.length : Int))), (8, (.int .i64 x62))] ∧ Heap w0 [] w ∧ iter f96 n (x61, x62) = some res94) _ ⟨(1 : Int), (0 : Int), S.sub ⟨rfl, rfl, rfl, rfl, trivial⟩, H, hit95⟩ ?_
  rintro n a w ⟨x61, x62, S, H, hit95⟩
  obtain ⟨m99, o100, rfl, hm, hc101⟩ := iter_step hit95
  rw [hf97] at hm
  refine wp_seq (region_plain ?_)
  refine lq (.bool (decide (x62 < (a0.length : Int)))) S (q_lss rfl rfl) fun a S => ?_
  refine lx_nil (thenN ?_)
  refine wp_seq ?_
  refine cond_b S rfl (fun hc102 => ?_) (fun hc102 => ?_)
  ·have hm := ite_t hc102 hm
   refine wp_skip (thenN ?_)
   refine wp_seq ?_
   refine wp_block ?_
   refine wp_seq (region_plain ?_)
   obtain ⟨x103, e104, hm⟩ := bind_some hm
   obtain ⟨c105, h106, hat107⟩ := (h0).elem (idx_some e104).2
   obtain ⟨c108, c109, rfl, h110, h111⟩ := h106
   obtain rfl := h110
   obtain ⟨c112, c113, rfl, h114, h115⟩ := h111
   obtain rfl := h114
   obtain ⟨c116, c117, rfl, h118, h119⟩ := h115
   obtain rfl := h118
   obtain rfl := h119
   have hlt := lt_of_idx (idx_some e104).2
   refine lq (ePtr p0 (x62.toNat * 4)) S (q_indexAddr rfl (h0).isSl rfl (idx_some e104).1 hlt Tryz.underlying31 Tryz.sizeOf61) fun a S => ?_
   refine lx_e (.agg #[(.int .i64 x103.1), (.int .i64 x103.2.1), (sv x103.2.2.1), (.bool x103.2.2.2)]) S trivial (by decide) rfl trivial (q_loadA (cs := [(.int .i64 x103.1), (.int .i64 x103.2.1), (sv x103.2.2.1), (.bool x103.2.2.2)]) rfl ((hat107 0 _ rfl).isP) Tryz.isAgg61 Tryz.sizeOf61 (by rintro _ rfl; exact (fun j u hu => (hat107 j u hu).ext H.ext))) (fun a S => ?_)
   refine lx_alloc S trivial (by decide) rfl H Tryz.zeroValue61 rfl (fun b120 w121 H => ⟨trivial, fun a S => ?_⟩)
   refine lx_storeBox (o := 0) (i := 0) (us := [(.int .i64 x103.1), (.int .i64 x103.2.1), (sv x103.2.2.1), (.bool x103.2.2.2)]) (cs' := [(.int .i64 x103.1), (.int .i64 x103.2.1), (sv x103.2.2.1), (.bool x103.2.2.2)]) S trivial rfl H rfl rfl rfl rfl Tryz.sizeOf61 (Nat.le_of_ble_eq_true rfl) (List.forall_mem_cons.2 ⟨rfl, (List.forall_mem_cons.2 ⟨rfl, (List.forall_mem_cons.2 ⟨rfl, (List.forall_mem_cons.2 ⟨rfl, (List.forall_mem_nil _)⟩)⟩)⟩)⟩) rfl (fun w123 H => ⟨trivial, fun a S => ?_⟩)
   change Heap w0 [bA b120 [(.int .i64 x103.1), (.int .i64 x103.2.1), (sv x103.2.2.1), (.bool x103.2.2.2)] 61] w123 at H
   refine lx_nil (thenN ?_)
   refine wp_seq (wp_seq (region_plain ?_))
   refine lq (.int .i64 x61) S (q_move rfl) fun a S => ?_
   refine lq (.bool (x61 == (0 : Int))) S (q_eql rfl rfl) fun a S => ?_
   refine lx_nil (thenN ?_)
   refine cond_b S rfl (fun hc124 => ?_) (fun hc124 => ?_)
   ·have hm := ite_t hc124 hm
    refine wp_seq (region_plain ?_)
    refine lq (.bool false) S (q_assign rfl) fun a S => ?_
    refine lx_nil (thenN ?_)
    refine wp_ret (then_ret ?_)
    refine inBlock_ret ?_
    refine then_ret ?_
    refine then_ret ?_
    refine inBlock_ret ?_
    refine then_ret ?_
    refine then_ret ?_
    obtain rfl := it_brk hm hc101
    have hm := ctl_inr hk98
    obtain rfl := Option.some.inj hm
    have H : Heap w0 [] w123 := H.sel [] (by decide)
    exact leave1 S rfl rfl ⟨rfl, H⟩
   ·have hm := ite_f hc124 hm
    refine wp_skip (thenN ?_)
    refine region_plain ?_
    refine lq (.int .i64 x61) S (q_move rfl) fun a S => ?_
    refine lx_e (.agg #[(.int .i64 x103.1), (.int .i64 x103.2.1), (sv x103.2.2.1), (.bool x103.2.2.2)]) S trivial (by decide) rfl trivial (q_loadA (cs := [(.int .i64 x103.1), (.int .i64 x103.2.1), (sv x103.2.2.1), (.bool x103.2.2.2)]) rfl (isP_bp _) Tryz.isAgg61 Tryz.sizeOf61 (by rintro _ rfl; exact (fun j u hu => boxAt (i := 0) H rfl hu))) (fun a S => ?_)
    obtain ⟨x127, e128, hm⟩ := bind_some hm
    refine lx_call (xs := [.tmp 15]) S trivial (by decide) rfl rfl Tryz.call73 ((impl_Node_operands_ok ⟨[(.int .i64 x103.1), (.int .i64 x103.2.1), (sv x103.2.2.1), (.bool x103.2.2.2)], rfl, ⟨[(.int .i64 x103.1)], [(.int .i64 x103.2.1), (sv x103.2.2.1), (.bool x103.2.2.2)], rfl, rfl, ⟨[(.int .i64 x103.2.1)], [(sv x103.2.2.1), (.bool x103.2.2.2)], rfl, rfl, ⟨[(sv x103.2.2.1)], [(.bool x103.2.2.2)], rfl, rfl, rfl⟩⟩⟩⟩ e128).mono ?_)
    rintro e w125 ⟨rfl, Hc126⟩
    have H := H.call0 Hc126
    refine ⟨_, rfl, trivial, fun a S => ?_⟩
    refine lq (.int .i64 (W (x127 - (1 : Int)))) S (q_sub rfl rfl) fun a S => ?_
    refine lq (.int .i64 (W (x61 + (W (x127 - (1 : Int)))))) S (q_add rfl rfl) fun a S => ?_
    refine lq (.int .i64 (W (x61 + (W (x127 - (1 : Int)))))) S (q_assign rfl) fun a S => ?_
    refine lx_nil ?_
    refine inBlock_norm ?_
    refine thenN ?_
    refine region_plain ?_
    refine lq (.int .i64 (W (x62 + (1 : Int)))) S (q_add rfl rfl) fun a S => ?_
    refine lq (.int .i64 (W (x62 + (1 : Int)))) S (q_move rfl) fun a S => ?_
    refine lx_nil ?_
    have H : Heap w0 [] w125 := H.sel [] (by decide)
    exact ⟨m99, Nat.lt_succ_self _, (W (x61 + (W (x127 - (1 : Int))))), (W (x62 + (1 : Int))), S.sub ⟨rfl, rfl, rfl, rfl, trivial⟩, H, it_cont hm hc101⟩
  ·have hm := ite_f hc102 hm
   refine wp_exit ?_
   refine then_exit ?_
   refine then_exit ?_
   refine inBlock_exit ?_
   obtain rfl := it_brk hm hc101
   exact ⟨x61, S.sub ⟨rfl, trivial⟩, H, rfl⟩

/-- slices.IndexFunc[[]impl.Node,impl.Node] -/
def slices_IndexFunc__impl_Node_impl_Node_m (fuel : Nat) (a0 : (List Timpl_Node)) (a1 : (Timpl_Node → Option Bool)) : Option (Int) :=
  (iter (fun (s : (Int)) => (match s with | (x58) => (if (decide (x58 < (a0.length : Int))) = true then (idx a0 x58).bind fun x95 => (a1 (x95.1, x95.2.1, x95.2.2.1, x95.2.2.2)).bind fun x116 => (if x116 = true then some (.inr (.inr x58)) else some (.inl ((W (x58 + (1 : Int)))))) else some (.inr (.inl ()))) : Option (((Int)) ⊕ ((Unit) ⊕ (Int))))) fuel ((0 : Int))).bind fun res86 => ctl (β := Unit) (ρ := Int) (τ := Int) res86 (fun _ => some ((-1 : Int))) (fun q => some (q))
set_option maxRecDepth 20000 in
theorem slices_IndexFunc__impl_Node_impl_Node_ok [dr : Dr] {w0 : World} {fuel : Nat} {p0 : Value} {a0 : (List Timpl_Node)} {a1 : (Timpl_Node → Option Bool)} {f1 : Nat} {fs1 cp1 : List Value} {r : Int} (h0 : Rd (rList Rimpl_Node) w0 p0 a0) (hcf1 : ∀ args w, (callFunc f1 args).run Tryz.prog w = .ok (.enter f1 args) w) (hf1 : ∀ {w : World} {x0_ : Timpl_Node} {v0_ : Value} {y : Bool}, Ext w0 w → Rd Rimpl_Node w v0_ x0_ → a1 x0_ = some y → Calls Tryz.prog f1 (fs1 ++ ([v0_] : List Value) ++ cp1).toArray w fun e w' => e = .returned (.bool y) ∧ Heap w [] w') (hm : slices_IndexFunc__impl_Node_impl_Node_m fuel a0 a1 = some r) :
  Calls Tryz.prog 76 #[p0, .func (.func f1) fs1.toArray cp1.toArray] w0 fun e w => e = .returned (.int .i64 r) ∧ Heap w0 [] w := by
 unfold slices_IndexFunc__impl_Node_impl_Node_m at hm
 have H := Heap.start w0
 refine enter (args := [p0, .func (.func f1) fs1.toArray cp1.toArray]) Tryz.func76 rfl 19 rfl (Nat.le_of_ble_eq_true rfl) (fun a S => ?_)
 refine wp_seq (region_plain ?_)
 refine lq (.int .i64 (0 : Int)) S (q_assign rfl) fun a S => ?_
 refine lx_nil (thenN ?_)
 refine wp_seq (wp_seq (region_plain ?_))
 refine lq p0 S (q_move rfl) fun a S => ?_
 refine lq (.int .i64 (a0.length : Int)) S (q_lenSl rfl (h0).isSl rfl Tryz.underlying31) fun a S => ?_
 refine lq (.int .i64 (0 : Int)) S (q_move rfl) fun a S => ?_
 refine lx_nil (thenN ?_)
 obtain ⟨res86, hit87, hk90⟩ := bind_some hm
 obtain ⟨f88, hf89, hit87⟩ := iter_name hit87
 refine block_loop (fun a w => Slots a 19 [] ∧ Heap w0 [] w ∧ res86 = .inl ()) ?_ ?_
 ·rintro a w ⟨S, H, rfl⟩
  have hm := ctl_inl hk90
  refine thenN ?_
  refine wp_seq (region_plain ?_)
  refine lq (.int .i64 (-1 : Int)) S (q_assign rfl) fun a S => ?_
  refine lx_nil (thenN ?_)
  refine wp_ret ?_
  obtain rfl := Option.some.inj hm
  exact leave1 S rfl rfl ⟨rfl, H⟩
 ·skip
  refine loop_ghost (fun n a w => ∃ (x58 : Int), Slots a 19 [(0, p0), (1, (.func (.func f1) fs1.toArray cp1.toArray)), (7, (.int .i64 (a0.length : Int))), (8, (.int .i64 x58))] ∧ Heap w0 [] w ∧ iter f88 n (x58) = some res86) _ ⟨(0 : Int), S.sub ⟨rfl, rfl, rfl, rfl, trivial⟩, H, hit87⟩ ?_
  rintro n a w ⟨x58, S, H, hit87⟩
  obtain ⟨m91, o92, rfl, hm, hc93⟩ := iter_step hit87
  rw [hf89] at hm
  refine wp_seq (region_plain ?_)
  refine lq (.bool (decide (x58 < (a0.length : Int)))) S (q_lss rfl rfl) fun a S => ?_
  refine lx_nil (thenN ?_)
  refine wp_seq ?_
  refine cond_b S rfl (fun hc94 => ?_) (fun hc94 => ?_)
  ·have hm := ite_t hc94 hm
   refine wp_skip (thenN ?_)
   refine wp_seq ?_
   refine wp_block ?_
   refine wp_seq (region_plain ?_)
   refine lq (.int .i64 x58) S (q_move rfl) fun a S => ?_
   refine lq (.int .i64 x58) S (q_assign rfl) fun a S => ?_
   refine lx_nil (thenN ?_)
   refine wp_seq (region_plain ?_)
   refine lq (.func (.func f1) fs1.toArray cp1.toArray) S (q_move rfl) fun a S => ?_
   refine lq p0 S (q_move rfl) fun a S => ?_
   refine lq (.int .i64 x58) S (q_move rfl) fun a S => ?_
   obtain ⟨x95, e96, hm⟩ := bind_some hm
   obtain ⟨c97, h98, hat99⟩ := (h0).elem (idx_some e96).2
   obtain ⟨c100, c101, rfl, h102, h103⟩ := h98
   obtain rfl := h102
   obtain ⟨c104, c105, rfl, h106, h107⟩ := h103
   obtain rfl := h106
   obtain ⟨c108, c109, rfl, h110, h111⟩ := h107
   obtain rfl := h110
   obtain rfl := h111
   have hlt := lt_of_idx (idx_some e96).2
   refine lq (ePtr p0 (x58.toNat * 4)) S (q_indexAddr rfl (h0).isSl rfl (idx_some e96).1 hlt Tryz.underlying31 Tryz.sizeOf61) fun a S => ?_
   refine lx_e (.agg #[(.int .i64 x95.1), (.int .i64 x95.2.1), (sv x95.2.2.1), (.bool x95.2.2.2)]) S trivial (by decide) rfl trivial (q_loadA (cs := [(.int .i64 x95.1), (.int .i64 x95.2.1), (sv x95.2.2.1), (.bool x95.2.2.2)]) rfl ((hat99 0 _ rfl).isP) Tryz.isAgg61 Tryz.sizeOf61 (by rintro _ rfl; exact (fun j u hu => (hat99 j u hu).ext H.ext))) (fun a S => ?_)
   obtain ⟨x116, e117, hm⟩ := bind_some hm
   refine lx_callV (f := f1) (first := fs1) (cap := cp1) (xs := [.tmp 15]) S trivial (by decide) rfl rfl rfl hcf1 ((hf1 H.ext ⟨[(.int .i64 x95.1), (.int .i64 x95.2.1), (sv x95.2.2.1), (.bool x95.2.2.2)], rfl, ⟨[(.int .i64 x95.1)], [(.int .i64 x95.2.1), (sv x95.2.2.1), (.bool x95.2.2.2)], rfl, rfl, ⟨[(.int .i64 x95.2.1)], [(sv x95.2.2.1), (.bool x95.2.2.2)], rfl, rfl, ⟨[(sv x95.2.2.1)], [(.bool x95.2.2.2)], rfl, rfl, rfl⟩⟩⟩⟩ e117).mono ?_)
   rintro e w114 ⟨rfl, Hc115⟩
   have H := H.call0 Hc115
   refine ⟨_, rfl, trivial, fun a S => ?_⟩
   refine lx_nil (thenN ?_)
   refine cond_b S rfl (fun hc119 => ?_) (fun hc119 => ?_)
   ·have hm := ite_t hc119 hm
    refine wp_seq (region_plain ?_)
    refine lq (.int .i64 x58) S (q_move rfl) fun a S => ?_
    refine lq (.int .i64 x58) S (q_assign rfl) fun a S => ?_
    refine lx_nil (thenN ?_)
    refine wp_ret (inBlock_ret ?_)
    refine then_ret ?_
    refine then_ret ?_
    refine inBlock_ret ?_
    refine then_ret ?_
    refine then_ret ?_
    obtain rfl := it_brk hm hc93
    have hm := ctl_inr hk90
    obtain rfl := Option.some.inj hm
    exact leave1 S rfl rfl ⟨rfl, H⟩
   ·have hm := ite_f hc119 hm
    refine wp_skip ?_
    refine inBlock_norm ?_
    refine thenN ?_
    refine region_plain ?_
    refine lq (.int .i64 (W (x58 + (1 : Int)))) S (q_add rfl rfl) fun a S => ?_
    refine lq (.int .i64 (W (x58 + (1 : Int)))) S (q_move rfl) fun a S => ?_
    refine lx_nil ?_
    exact ⟨m91, Nat.lt_succ_self _, (W (x58 + (1 : Int))), S.sub ⟨rfl, rfl, rfl, rfl, trivial⟩, H, it_cont hm hc93⟩
  ·have hm := ite_f hc94 hm
   refine wp_exit ?_
   refine then_exit ?_
   refine then_exit ?_
   refine inBlock_exit ?_
   obtain rfl := it_brk hm hc93
   exact ⟨S.sub trivial, H, rfl⟩

/-- slices.ContainsFunc[[]impl.Node,impl.Node] -/
def slices_ContainsFunc__impl_Node_impl_Node_m (fuel : Nat) (a0 : (List Timpl_Node)) (a1 : (Timpl_Node → Option Bool)) : Option (Bool) :=
  (slices_IndexFunc__impl_Node_impl_Node_m fuel a0 a1).bind fun x33 => some ((decide ((0 : Int) ≤ x33)))
set_option maxRecDepth 20000 in
theorem slices_ContainsFunc__impl_Node_impl_Node_ok [dr : Dr] {w0 : World} {fuel : Nat} {p0 : Value} {a0 : (List Timpl_Node)} {a1 : (Timpl_Node → Option Bool)} {f1 : Nat} {fs1 cp1 : List Value} {r : Bool} (h0 : Rd (rList Rimpl_Node) w0 p0 a0) (hcf1 : ∀ args w, (callFunc f1 args).run Tryz.prog w = .ok (.enter f1 args) w) (hf1 : ∀ {w : World} {x0_ : Timpl_Node} {v0_ : Value} {y : Bool}, Ext w0 w → Rd Rimpl_Node w v0_ x0_ → a1 x0_ = some y → Calls Tryz.prog f1 (fs1 ++ ([v0_] : List Value) ++ cp1).toArray w fun e w' => e = .returned (.bool y) ∧ Heap w [] w') (hm : slices_ContainsFunc__impl_Node_impl_Node_m fuel a0 a1 = some r) :
  Calls Tryz.prog 60 #[p0, .func (.func f1) fs1.toArray cp1.toArray] w0 fun e w => e = .returned (.bool r) ∧ Heap w0 [] w := by
 unfold slices_ContainsFunc__impl_Node_impl_Node_m at hm
 have H := Heap.start w0
 refine enter (args := [p0, .func (.func f1) fs1.toArray cp1.toArray]) Tryz.func60 rfl 9 rfl (Nat.le_of_ble_eq_true rfl) (fun a S => ?_)
 refine wp_seq (region_plain ?_)
 refine lq (.bool false) S (q_assign rfl) fun a S => ?_
 refine lx_nil (thenN ?_)
 refine wp_seq (region_plain ?_)
 refine lq p0 S (q_move rfl) fun a S => ?_
 refine lq (.func (.func f1) fs1.toArray cp1.toArray) S (q_move rfl) fun a S => ?_
 obtain ⟨x33, e34, hm⟩ := bind_some hm
 refine lx_call (xs := [.tmp 5, .tmp 6]) S trivial (by decide) rfl rfl Tryz.call76 ((slices_IndexFunc__impl_Node_impl_Node_ok (f1 := f1) (fs1 := fs1) (cp1 := cp1) (a1 := a1) (H.arg h0) hcf1 (fun he h0_ hm => hf1 ((H.ext).trans he) h0_ hm) e34).mono ?_)
 rintro e w31 ⟨rfl, Hc32⟩
 have H := H.call0 Hc32
 refine ⟨_, rfl, trivial, fun a S => ?_⟩
 refine lq (.bool (decide ((0 : Int) ≤ x33))) S (q_geq rfl rfl) fun a S => ?_
 refine lq (.bool (decide ((0 : Int) ≤ x33))) S (q_assign rfl) fun a S => ?_
 refine lx_nil (thenN ?_)
 refine wp_ret ?_
 obtain rfl := Option.some.inj hm
 exact leave1 S rfl rfl ⟨rfl, H⟩

/-- (impl.Node).isModality -/
def impl_Node_isModality_m (_ : Nat) (a0 : Timpl_Node) : Option (Bool) :=
  (if (a0.1 == (4 : Int)) = true then some true else some (a0.1 == (5 : Int))).bind fun t48 => some (t48)
set_option maxRecDepth 20000 in
theorem impl_Node_isModality_ok [dr : Dr] {w0 : World} {fuel : Nat} {p0 : Value} {a0 : Timpl_Node} {r : Bool} (h0 : Rd Rimpl_Node w0 p0 a0) (hm : impl_Node_isModality_m fuel a0 = some r) :
  Calls Tryz.prog 54 #[p0] w0 fun e w => e = .returned (.bool r) ∧ Heap w0 [] w := by
 unfold impl_Node_isModality_m at hm
 have H := Heap.start w0
 obtain ⟨c31, rfl, h32⟩ := h0
 obtain ⟨c33, c34, rfl, h35, h36⟩ := h32
 obtain rfl := h35
 obtain ⟨c37, c38, rfl, h39, h40⟩ := h36
 obtain rfl := h39
 obtain ⟨c41, c42, rfl, h43, h44⟩ := h40
 obtain rfl := h43
 obtain rfl := h44
 refine enter (args := [(.agg #[(.int .i64 a0.1), (.int .i64 a0.2.1), (sv a0.2.2.1), (.bool a0.2.2.2)])]) Tryz.func54 rfl 11 rfl (Nat.le_of_ble_eq_true rfl) (fun a S => ?_)
 refine wp_seq (region_plain ?_)
 refine lx_box S trivial (by decide) rfl H rfl rfl (fun b45 w46 H => ⟨trivial, fun a S => ?_⟩)
 refine lq (.bool false) S (q_assign rfl) fun a S => ?_
 refine lx_nil (thenN ?_)
 refine wp_seq (region_plain ?_)
 refine lq (pAdd (bp b45) 0) S (q_fieldAddr' 0 2 rfl (isP_bp _) Tryz.underlying61 rfl Tryz.sizeOf2) fun a S => ?_
 refine lx_e (.int .i64 a0.1) S trivial (by decide) rfl trivial (q_load1 rfl Tryz.isAgg2 (by rintro _ rfl; exact (At.of_add (m := 0) (j := 0) (boxAt (i := 0) H rfl (j := 0) rfl)))) (fun a S => ?_)
 refine lq (.bool (a0.1 == (4 : Int))) S (q_eql rfl rfl) fun a S => ?_
 refine lq (.bool (a0.1 == (4 : Int))) S (q_move rfl) fun a S => ?_
 obtain ⟨t48, e49, hm⟩ := bind_some hm
 refine lx_cut 4 (fun a w => Slots a 11 [(10, (.bool t48))] ∧ Heap w0 [] w) ?_ ?_
 ·by_cases hc50 : (a0.1 == (4 : Int)) = true
  ·have hm := ite_t hc50 e49
   refine lx_skip S rfl rfl (isB_ne hc50) (by decide) (fun a S => ?_)
   refine lx_skip S rfl rfl (isB_ne hc50) (by decide) (fun a S => ?_)
   refine lx_skip S rfl rfl (isB_ne hc50) (by decide) (fun a S => ?_)
   refine lq (.bool true) S (q_pickT' rfl hc50 rfl) fun a S => ?_
   refine lx_nil ?_
   obtain rfl := Option.some.inj hm
   have H := H.sel [] (by decide)
   exact ⟨S.sub ⟨rfl, trivial⟩, H⟩
  ·have hm := ite_f (eq_false_of_ne_true hc50) e49
   have hc50 : (a0.1 == (4 : Int)) = false := eq_false_of_ne_true hc50
   refine lx_q (pAdd (bp b45) 0) S (want_b rfl rfl hc50) (by decide) (q_fieldAddr' 0 2 rfl (isP_bp _) Tryz.underlying61 rfl Tryz.sizeOf2) (fun a S => ?_)
   refine lx_e (.int .i64 a0.1) S (want_b rfl rfl hc50) (by decide) rfl trivial (q_load1 rfl Tryz.isAgg2 (by rintro _ rfl; exact (At.of_add (m := 0) (j := 0) (boxAt (i := 0) H rfl (j := 0) rfl)))) (fun a S => ?_)
   refine lx_q (.bool (a0.1 == (5 : Int))) S (want_b rfl rfl hc50) (by decide) (q_eql rfl rfl) (fun a S => ?_)
   refine lq (.bool (a0.1 == (5 : Int))) S (q_pickF' rfl hc50 rfl) fun a S => ?_
   refine lx_nil ?_
   obtain rfl := Option.some.inj hm
   have H := H.sel [] (by decide)
   exact ⟨S.sub ⟨rfl, trivial⟩, H⟩
 ·rintro a w ⟨S, H⟩
  refine lq (.bool t48) S (q_assign rfl) fun a S => ?_
  refine lx_nil (thenN ?_)
  refine wp_ret ?_
  obtain rfl := Option.some.inj hm
  exact leave1 S rfl rfl ⟨rfl, H⟩

/-- internal/stringslite.HasSuffix -/
def internal_stringslite_HasSuffix_m (_ : Nat) (a0 : Str) (a1 : Str) : Option (Bool) :=
  (if (decide ((a1.length : Int) ≤ (a0.length : Int))) = true then (sub a0 (W ((a0.length : Int) - (a1.length : Int))) (a0.length : Int)).bind fun xs34 => some (xs34 == a1) else some false).bind fun t31 => some (t31)
set_option maxRecDepth 20000 in
theorem internal_stringslite_HasSuffix_ok [dr : Dr] {w0 : World} {fuel : Nat} {a0 : Str} {a1 : Str} {r : Bool} (hm : internal_stringslite_HasSuffix_m fuel a0 a1 = some r) :
  Calls Tryz.prog 110 #[sv a0, sv a1] w0 fun e w => e = .returned (.bool r) ∧ Heap w0 [] w := by
 unfold internal_stringslite_HasSuffix_m at hm
 have H := Heap.start w0
 refine enter (args := [sv a0, sv a1]) Tryz.func110 rfl 21 rfl (Nat.le_of_ble_eq_true rfl) (fun a S => ?_)
 refine wp_seq (region_plain ?_)
 refine lq (.bool false) S (q_assign rfl) fun a S => ?_
 refine lx_nil (thenN ?_)
 refine wp_seq (region_plain ?_)
 refine lq (sv a0) S (q_move rfl) fun a S => ?_
 refine lq (.int .i64 (a0.length : Int)) S (q_lenStr rfl rfl Tryz.underlying9) fun a S => ?_
 refine lq (sv a1) S (q_move rfl) fun a S => ?_
 refine lq (.int .i64 (a1.length : Int)) S (q_lenStr rfl rfl Tryz.underlying9) fun a S => ?_
 refine lq (.bool (decide ((a1.length : Int) ≤ (a0.length : Int)))) S (q_geq rfl rfl) fun a S => ?_
 refine lq (.bool (decide ((a1.length : Int) ≤ (a0.length : Int)))) S (q_move rfl) fun a S => ?_
 obtain ⟨t31, e32, hm⟩ := bind_some hm
 refine lx_cut 10 (fun a w => Slots a 21 [(20, (.bool t31))] ∧ Heap w0 [] w) ?_ ?_
 ·by_cases hc33 : (decide ((a1.length : Int) ≤ (a0.length : Int))) = true
  ·have hm := ite_t hc33 e32
   refine lx_q (sv a0) S (want_b rfl rfl hc33) (by decide) (q_move rfl) (fun a S => ?_)
   refine lx_q (sv a0) S (want_b rfl rfl hc33) (by decide) (q_move rfl) (fun a S => ?_)
   refine lx_q (.int .i64 (a0.length : Int)) S (want_b rfl rfl hc33) (by decide) (q_lenStr rfl rfl Tryz.underlying9) (fun a S => ?_)
   refine lx_q (sv a1) S (want_b rfl rfl hc33) (by decide) (q_move rfl) (fun a S => ?_)
   refine lx_q (.int .i64 (a1.length : Int)) S (want_b rfl rfl hc33) (by decide) (q_lenStr rfl rfl Tryz.underlying9) (fun a S => ?_)
   refine lx_q (.int .i64 (W ((a0.length : Int) - (a1.length : Int)))) S (want_b rfl rfl hc33) (by decide) (q_sub rfl rfl) (fun a S => ?_)
   obtain ⟨xs34, e35, hm⟩ := bind_some hm
   obtain ⟨hsb, hse⟩ := sub_some e35
   replace hse := hse.symm
   subst hse
   refine lx_q (sv ((a0.take ((a0.length : Int)).toNat).drop ((W ((a0.length : Int) - (a1.length : Int)))).toNat)) S (want_b rfl rfl hc33) (by decide) (q_ssub (lo := (some (.tmp 16))) (hi := none) (l := (W ((a0.length : Int) - (a1.length : Int)))) (h := (a0.length : Int)) rfl Tryz.underlying9 rfl rfl hsb.1 hsb.2.1 hsb.2.2) (fun a S => ?_)
   refine lx_q (sv a1) S (want_b rfl rfl hc33) (by decide) (q_move rfl) (fun a S => ?_)
   refine lx_q (.bool (((a0.take ((a0.length : Int)).toNat).drop ((W ((a0.length : Int) - (a1.length : Int)))).toNat) == a1)) S (want_b rfl rfl hc33) (by decide) (q_seql rfl rfl) (fun a S => ?_)
   refine lq (.bool (((a0.take ((a0.length : Int)).toNat).drop ((W ((a0.length : Int) - (a1.length : Int)))).toNat) == a1)) S (q_pickT' rfl hc33 rfl) fun a S => ?_
   refine lx_nil ?_
   obtain rfl := Option.some.inj hm
   exact ⟨S.sub ⟨rfl, trivial⟩, H⟩
  ·have hm := ite_f (eq_false_of_ne_true hc33) e32
   have hc33 : (decide ((a1.length : Int) ≤ (a0.length : Int))) = false := eq_false_of_ne_true hc33
   refine lx_skip S rfl rfl (isB_ne hc33) (by decide) (fun a S => ?_)
   refine lx_skip S rfl rfl (isB_ne hc33) (by decide) (fun a S => ?_)
   refine lx_skip S rfl rfl (isB_ne hc33) (by decide) (fun a S => ?_)
   refine lx_skip S rfl rfl (isB_ne hc33) (by decide) (fun a S => ?_)
   refine lx_skip S rfl rfl (isB_ne hc33) (by decide) (fun a S => ?_)
   refine lx_skip S rfl rfl (isB_ne hc33) (by decide) (fun a S => ?_)
   refine lx_skip S rfl rfl (isB_ne hc33) (by decide) (fun a S => ?_)
   refine lx_skip S rfl rfl (isB_ne hc33) (by decide) (fun a S => ?_)
   refine lx_skip S rfl rfl (isB_ne hc33) (by decide) (fun a S => ?_)
   refine lq (.bool false) S (q_pickF' rfl hc33 rfl) fun a S => ?_
   refine lx_nil ?_
   obtain rfl := Option.some.inj hm
   exact ⟨S.sub ⟨rfl, trivial⟩, H⟩
 ·rintro a w ⟨S, H⟩
  refine lq (.bool t31) S (q_assign rfl) fun a S => ?_
  refine lx_nil (thenN ?_)
  refine wp_ret ?_
  obtain rfl := Option.some.inj hm
  exact leave1 S rfl rfl ⟨rfl, H⟩

/-- internal/stringslite.CutSuffix -/
def internal_stringslite_CutSuffix_m (fuel : Nat) (a0 : Str) (a1 : Str) : Option ((Str × Bool)) :=
  (internal_stringslite_HasSuffix_m fuel a0 a1).bind fun x33 => (if (!x33) = true then some ((a0, false)) else (sub a0 (0 : Int) (W ((a0.length : Int) - (a1.length : Int)))).bind fun xs37 => some ((xs37, true)))
set_option maxRecDepth 20000 in
theorem internal_stringslite_CutSuffix_ok [dr : Dr] {w0 : World} {fuel : Nat} {a0 : Str} {a1 : Str} {r : (Str × Bool)} (hm : internal_stringslite_CutSuffix_m fuel a0 a1 = some r) :
  Calls Tryz.prog 100 #[sv a0, sv a1] w0 fun e w => e = .returned (.tuple #[sv r.1, .bool r.2]) ∧ Heap w0 [] w := by
 unfold internal_stringslite_CutSuffix_m at hm
 have H := Heap.start w0
 refine enter (args := [sv a0, sv a1]) Tryz.func100 rfl 18 rfl (Nat.le_of_ble_eq_true rfl) (fun a S => ?_)
 refine wp_seq (region_plain ?_)
 refine lq (sv ([] : Str)) S (q_assign rfl) fun a S => ?_
 refine lq (.bool false) S (q_assign rfl) fun a S => ?_
 refine lx_nil (thenN ?_)
 refine wp_seq (wp_seq (region_plain ?_))
 refine lq (sv a0) S (q_move rfl) fun a S => ?_
 refine lq (sv a1) S (q_move rfl) fun a S => ?_
 obtain ⟨x33, e34, hm⟩ := bind_some hm
 refine lx_call (xs := [.tmp 6, .tmp 7]) S trivial (by decide) rfl rfl Tryz.call110 ((internal_stringslite_HasSuffix_ok   e34).mono ?_)
 rintro e w31 ⟨rfl, Hc32⟩
 have H := H.call0 Hc32
 refine ⟨_, rfl, trivial, fun a S => ?_⟩
 refine lq (.bool (!x33)) S (q_not rfl) fun a S => ?_
 refine lx_nil (thenN ?_)
 refine cond_b S rfl (fun hc36 => ?_) (fun hc36 => ?_)
 ·have hm := ite_t hc36 hm
  refine wp_seq (region_plain ?_)
  refine lq (sv a0) S (q_move rfl) fun a S => ?_
  refine lq (sv a0) S (q_assign rfl) fun a S => ?_
  refine lq (.bool false) S (q_assign rfl) fun a S => ?_
  refine lx_nil (thenN ?_)
  refine wp_ret (then_ret ?_)
  obtain rfl := Option.some.inj hm
  exact leave2 S rfl rfl rfl ⟨rfl, H⟩
 ·have hm := ite_f hc36 hm
  refine wp_skip (thenN ?_)
  refine wp_seq (region_plain ?_)
  refine lq (sv a0) S (q_move rfl) fun a S => ?_
  refine lq (sv a0) S (q_move rfl) fun a S => ?_
  refine lq (.int .i64 (a0.length : Int)) S (q_lenStr rfl rfl Tryz.underlying9) fun a S => ?_
  refine lq (sv a1) S (q_move rfl) fun a S => ?_
  refine lq (.int .i64 (a1.length : Int)) S (q_lenStr rfl rfl Tryz.underlying9) fun a S => ?_
  refine lq (.int .i64 (W ((a0.length : Int) - (a1.length : Int)))) S (q_sub rfl rfl) fun a S => ?_
  obtain ⟨xs37, e38, hm⟩ := bind_some hm
  obtain ⟨hsb, hse⟩ := sub_some e38
  replace hse := hse.symm
  subst hse
  refine lq (sv ((a0.take ((W ((a0.length : Int) - (a1.length : Int)))).toNat).drop ((0 : Int)).toNat)) S (q_ssub (lo := none) (hi := (some (.tmp 16))) (l := (0 : Int)) (h := (W ((a0.length : Int) - (a1.length : Int)))) rfl Tryz.underlying9 rfl rfl hsb.1 hsb.2.1 hsb.2.2) fun a S => ?_
  refine lq (sv ((a0.take ((W ((a0.length : Int) - (a1.length : Int)))).toNat).drop ((0 : Int)).toNat)) S (q_assign rfl) fun a S => ?_
  refine lq (.bool true) S (q_assign rfl) fun a S => ?_
  refine lx_nil (thenN ?_)
  refine wp_ret ?_
  obtain rfl := Option.some.inj hm
  exact leave2 S rfl rfl rfl ⟨rfl, H⟩

/-- strings.CutSuffix -/
def strings_CutSuffix_m (fuel : Nat) (a0 : Str) (a1 : Str) : Option ((Str × Bool)) :=
  (internal_stringslite_CutSuffix_m fuel a0 a1).bind fun x33 => some ((x33.1, x33.2))
set_option maxRecDepth 20000 in
theorem strings_CutSuffix_ok [dr : Dr] {w0 : World} {fuel : Nat} {a0 : Str} {a1 : Str} {r : (Str × Bool)} (hm : strings_CutSuffix_m fuel a0 a1 = some r) :
  Calls Tryz.prog 85 #[sv a0, sv a1] w0 fun e w => e = .returned (.tuple #[sv r.1, .bool r.2]) ∧ Heap w0 [] w := by
 unfold strings_CutSuffix_m at hm
 have H := Heap.start w0
 refine enter (args := [sv a0, sv a1]) Tryz.func85 rfl 11 rfl (Nat.le_of_ble_eq_true rfl) (fun a S => ?_)
 refine wp_seq (region_plain ?_)
 refine lq (sv ([] : Str)) S (q_assign rfl) fun a S => ?_
 refine lq (.bool false) S (q_assign rfl) fun a S => ?_
 refine lx_nil (thenN ?_)
 refine wp_seq (region_plain ?_)
 refine lq (sv a0) S (q_move rfl) fun a S => ?_
 refine lq (sv a1) S (q_move rfl) fun a S => ?_
 obtain ⟨x33, e34, hm⟩ := bind_some hm
 refine lx_call (xs := [.tmp 6, .tmp 7]) S trivial (by decide) rfl rfl Tryz.call100 ((internal_stringslite_CutSuffix_ok   e34).mono ?_)
 rintro e w31 ⟨rfl, Hc32⟩
 have H := H.call0 Hc32
 refine ⟨_, rfl, trivial, fun a S => ?_⟩
 refine lq (sv x33.1) S (q_extract rfl rfl) fun a S => ?_
 refine lq (.bool x33.2) S (q_extract rfl rfl) fun a S => ?_
 refine lq (sv x33.1) S (q_assign rfl) fun a S => ?_
 refine lq (.bool x33.2) S (q_assign rfl) fun a S => ?_
 refine lx_nil (thenN ?_)
 refine wp_ret ?_
 obtain rfl := Option.some.inj hm
 exact leave2 S rfl rfl rfl ⟨rfl, H⟩

/-- impl.Decimal -/
def impl_Decimal_m (fuel : Nat) (a0 : Int) : Option (Str) :=
  (strconv_FormatInt_m fuel a0 (10 : Int)).bind fun x33 => some (x33)
set_option maxRecDepth 20000 in
theorem impl_Decimal_ok [dr : Dr] {w0 : World} {fuel : Nat} {a0 : Int} {r : Str} (hG : Glob Tryz.prog w0) (hm : impl_Decimal_m fuel a0 = some r) :
  Calls Tryz.prog 115 #[.int .i64 a0] w0 fun e w => e = .returned (sv r) ∧ Heap w0 [] w := by
 unfold impl_Decimal_m at hm
 have H := Heap.start w0
 refine enter (args := [.int .i64 a0]) Tryz.func115 rfl 5 rfl (Nat.le_of_ble_eq_true rfl) (fun a S => ?_)
 refine wp_seq (region_plain ?_)
 refine lq (sv ([] : Str)) S (q_assign rfl) fun a S => ?_
 refine lx_nil (thenN ?_)
 refine wp_seq (region_plain ?_)
 refine lq (.int .i64 a0) S (q_move rfl) fun a S => ?_
 obtain ⟨x33, e34, hm⟩ := bind_some hm
 refine lx_call (xs := [.tmp 3, .const (.int .i64 (10))]) S trivial (by decide) rfl rfl Tryz.call129 ((strconv_FormatInt_ok (hG.ext H.ext)   e34).mono ?_)
 rintro e w31 ⟨rfl, Hc32⟩
 have H := H.call0 Hc32
 refine ⟨_, rfl, trivial, fun a S => ?_⟩
 refine lq (sv x33) S (q_assign rfl) fun a S => ?_
 refine lx_nil (thenN ?_)
 refine wp_ret ?_
 obtain rfl := Option.some.inj hm
 exact leave1 S rfl rfl ⟨rfl, H⟩

/-- impl.ReadDecimal -/
def impl_ReadDecimal_m (fuel : Nat) (a0 : Str) : Option ((Int × Bool)) :=
  (strings_TrimPrefix_m fuel a0 ([45] : Str)).bind fun x33 => (if (decide ((18 : Int) < (x33.length : Int))) = true then some (((0 : Int), false)) else (strconv_ParseInt_m fuel a0 (10 : Int) (64 : Int)).bind fun x39 => (if x39.2 = true then some true else (impl_Decimal_m fuel x39.1).bind fun x49 => some (x49 != a0)).bind fun t44 => (if t44 = true then some (((0 : Int), false)) else some ((x39.1, true))))
set_option maxRecDepth 20000 in
theorem impl_ReadDecimal_ok {w0 : World} {fuel : Nat} {a0 : Str} {r : (Int × Bool)} (hG : GlobE Tryz.prog w0) (hm : impl_ReadDecimal_m fuel a0 = some r) :
  Calls Tryz.prog 103 #[sv a0] w0 fun e w => e = .returned (.tuple #[.int .i64 r.1, .bool r.2]) ∧ Heap w0 [] w := by
 unfold impl_ReadDecimal_m at hm
 have H := Heap.start w0
 refine enter (args := [sv a0]) Tryz.func103 rfl 24 rfl (Nat.le_of_ble_eq_true rfl) (fun a S => ?_)
 refine wp_seq (region_plain ?_)
 refine lq (.int .i64 (0 : Int)) S (q_assign rfl) fun a S => ?_
 refine lq (.bool false) S (q_assign rfl) fun a S => ?_
 refine lx_nil (thenN ?_)
 refine wp_seq (wp_seq (region_plain ?_))
 refine lq (sv a0) S (q_move rfl) fun a S => ?_
 obtain ⟨x33, e34, hm⟩ := bind_some hm
 refine lx_call (xs := [.tmp 6, .const (sv [45])]) S trivial (by decide) rfl rfl Tryz.call113 ((strings_TrimPrefix_ok   e34).mono ?_)
 rintro e w31 ⟨rfl, Hc32⟩
 have H := H.call0 Hc32
 refine ⟨_, rfl, trivial, fun a S => ?_⟩
 refine lq (.int .i64 (x33.length : Int)) S (q_lenStr rfl rfl Tryz.underlying9) fun a S => ?_
 refine lq (.bool (decide ((18 : Int) < (x33.length : Int)))) S (q_gtr rfl rfl) fun a S => ?_
 refine lx_nil (thenN ?_)
 refine cond_b S rfl (fun hc36 => ?_) (fun hc36 => ?_)
 ·have hm := ite_t hc36 hm
  refine wp_seq (region_plain ?_)
  refine lq (.int .i64 (0 : Int)) S (q_assign rfl) fun a S => ?_
  refine lq (.bool false) S (q_assign rfl) fun a S => ?_
  refine lx_nil (thenN ?_)
  refine wp_ret (then_ret ?_)
  obtain rfl := Option.some.inj hm
  exact leave2 S rfl rfl rfl ⟨rfl, H⟩
 ·have hm := ite_f hc36 hm
  refine wp_skip (thenN ?_)
  refine wp_seq (region_plain ?_)
  refine lq (sv a0) S (q_move rfl) fun a S => ?_
  obtain ⟨x39, e40, hm⟩ := bind_some hm
  refine lx_call (xs := [.tmp 11, .const (.int .i64 (10)), .const (.int .i64 (64))]) S trivial (by decide) rfl rfl Tryz.call114 ((strconv_ParseInt_ok (hG.ext H.ext)    e40).mono ?_)
  rintro e w37 ⟨ve41, rfl, he42, Hc38⟩
  have H := H.call0 Hc38
  refine ⟨_, rfl, trivial, fun a S => ?_⟩
  refine lq (.tuple #[(.int .i64 x39.1), ve41]) S (q_move rfl) fun a S => ?_
  refine lq (.int .i64 x39.1) S (q_extract rfl rfl) fun a S => ?_
  refine lq ve41 S (q_extract rfl rfl) fun a S => ?_
  refine lq (.int .i64 x39.1) S (q_assign rfl) fun a S => ?_
  refine lq ve41 S (q_assign rfl) fun a S => ?_
  refine lx_nil (thenN ?_)
  refine wp_seq (wp_seq (region_plain ?_))
  refine lq ve41 S (q_move rfl) fun a S => ?_
  refine lq (.bool x39.2) S (q_errneq rfl he42 Tryz.underlying147) fun a S => ?_
  refine lq (.bool x39.2) S (q_move rfl) fun a S => ?_
  obtain ⟨t44, e45, hm⟩ := bind_some hm
  refine lx_cut 5 (fun a w => Slots a 24 [(4, (.int .i64 x39.1)), (22, (.bool t44))] ∧ Heap w0 [] w) ?_ ?_
  ·by_cases hc46 : x39.2 = true
   ·have hm := ite_t hc46 e45
    refine lx_skip S rfl rfl (isB_ne hc46) (by decide) (fun a S => ?_)
    refine lx_skip S rfl rfl (isB_ne hc46) (by decide) (fun a S => ?_)
    refine lx_skip S rfl rfl (isB_ne hc46) (by decide) (fun a S => ?_)
    refine lx_skip S rfl rfl (isB_ne hc46) (by decide) (fun a S => ?_)
    refine lq (.bool true) S (q_pickT' rfl hc46 rfl) fun a S => ?_
    refine lx_nil ?_
    obtain rfl := Option.some.inj hm
    exact ⟨S.sub ⟨rfl, rfl, trivial⟩, H⟩
   ·have hm := ite_f (eq_false_of_ne_true hc46) e45
    have hc46 : x39.2 = false := eq_false_of_ne_true hc46
    refine lx_q (.int .i64 x39.1) S (want_b rfl rfl hc46) (by decide) (q_move rfl) (fun a S => ?_)
    obtain ⟨x49, e50, hm⟩ := bind_some hm
    refine lx_call (xs := [.tmp 18]) S (want_b rfl rfl hc46) (by decide) rfl rfl Tryz.call115 ((impl_Decimal_ok (hG.ext H.ext).toGlob  e50).mono ?_)
    rintro e w47 ⟨rfl, Hc48⟩
    have H := H.call0 Hc48
    refine ⟨_, rfl, trivial, fun a S => ?_⟩
    refine lx_q (sv a0) S (want_b rfl rfl hc46) (by decide) (q_move rfl) (fun a S => ?_)
    refine lx_q (.bool (x49 != a0)) S (want_b rfl rfl hc46) (by decide) (q_sneq rfl rfl) (fun a S => ?_)
    refine lq (.bool (x49 != a0)) S (q_pickF' rfl hc46 rfl) fun a S => ?_
    refine lx_nil ?_
    obtain rfl := Option.some.inj hm
    exact ⟨S.sub ⟨rfl, rfl, trivial⟩, H⟩
  ·rintro a w ⟨S, H⟩
   refine lx_nil (thenN ?_)
   refine cond_b S rfl (fun hc52 => ?_) (fun hc52 => ?_)
   ·have hm := ite_t hc52 hm
    refine wp_seq (region_plain ?_)
    refine lq (.int .i64 (0 : Int)) S (q_assign rfl) fun a S => ?_
    refine lq (.bool false) S (q_assign rfl) fun a S => ?_
    refine lx_nil (thenN ?_)
    refine wp_ret (then_ret ?_)
    obtain rfl := Option.some.inj hm
    exact leave2 S rfl rfl rfl ⟨rfl, H⟩
   ·have hm := ite_f hc52 hm
    refine wp_skip (thenN ?_)
    refine wp_seq (region_plain ?_)
    refine lq (.int .i64 x39.1) S (q_move rfl) fun a S => ?_
    refine lq (.int .i64 x39.1) S (q_assign rfl) fun a S => ?_
    refine lq (.bool true) S (q_assign rfl) fun a S => ?_
    refine lx_nil (thenN ?_)
    refine wp_ret ?_
    obtain rfl := Option.some.inj hm
    exact leave2 S rfl rfl rfl ⟨rfl, H⟩

/-- impl.readNumbers -/
def impl_readNumbers_m (fuel : Nat) (a0 : (List Str)) : Option (((List Int) × Bool)) :=
  (iter (fun (s : (List Int) × (Int)) => (match s with | (xs57, x59) => (if (decide (x59 < (a0.length : Int))) = true then (idx a0 x59).bind fun x97 => (impl_ReadDecimal_m fuel x97).bind fun x104 => (if (!x104.2) = true then some (.inr (.inr ([], false))) else (app xs57 [x104.1]).bind fun x112 => some (.inl (x112, (W (x59 + (1 : Int)))))) else some (.inr (.inl (xs57)))) : Option (((List Int) × (Int)) ⊕ (((List Int)) ⊕ (((List Int) × Bool)))))) fuel ([], (0 : Int))).bind fun res87 => ctl (β := (List Int)) (ρ := ((List Int) × Bool)) (τ := ((List Int) × Bool)) res87 (fun (xs85) => some ((xs85, true))) (fun q => some (q))
set_option maxRecDepth 20000 in
theorem impl_readNumbers_ok {w0 : World} {fuel : Nat} {p0 : Value} {a0 : (List Str)} {r : ((List Int) × Bool)} (hG : GlobE Tryz.prog w0) (h0 : Rd (rList rStr) w0 p0 a0) (hm : impl_readNumbers_m fuel a0 = some r) :
  Calls Tryz.prog 91 #[p0] w0 fun e w => ∃ (v0 : Value), e = .returned (.tuple #[v0, .bool r.2]) ∧ Heap w0 [oA (rList (rInt .i64)) v0 r.1] w := by
 unfold impl_readNumbers_m at hm
 have H := Heap.start w0
 refine enter (args := [p0]) Tryz.func91 rfl 28 rfl (Nat.le_of_ble_eq_true rfl) (fun a S => ?_)
 refine wp_seq (region_plain ?_)
 refine lq (.slice none 0 0) S (q_assign rfl) fun a S => ?_
 refine lq (.bool false) S (q_assign rfl) fun a S => ?_
 refine lx_nil (thenN ?_)
 refine wp_seq (region_plain ?_)
 refine lq (.slice none 0 0) S (q_assign rfl) fun a S => ?_
 refine lx_nil (thenN ?_)
 refine wp_seq (wp_seq (region_plain ?_))
 refine lq p0 S (q_move rfl) fun a S => ?_
 refine lq (.int .i64 (a0.length : Int)) S (q_lenSl rfl (h0).isSl rfl Tryz.underlying23) fun a S => ?_
 refine lq (.int .i64 (0 : Int)) S (q_move rfl) fun a S => ?_
 refine lx_nil (thenN ?_)
 obtain ⟨res87, hit88, hk91⟩ := bind_some hm
 obtain ⟨f89, hf90, hit88⟩ := iter_name hit88
 refine block_loop (fun a w => ∃ (xs85 : List Int) (v84 : Value), Slots a 28 [(4, v84)] ∧ Heap w0 [oA (rList (rInt .i64)) v84 xs85] w ∧ res87 = .inl (xs85)) ?_ ?_
 ·rintro a w ⟨xs85, v84, S, H, rfl⟩
  have hm := ctl_inl hk91
  refine thenN ?_
  refine wp_seq (region_plain ?_)
  refine lq v84 S (q_move rfl) fun a S => ?_
  refine lq v84 S (q_assign rfl) fun a S => ?_
  refine lq (.bool true) S (q_assign rfl) fun a S => ?_
  refine lx_nil (thenN ?_)
  refine wp_ret ?_
  obtain rfl := Option.some.inj hm
  exact leave2 S rfl rfl rfl ⟨v84, rfl, H⟩
 ·skip
  have H : Heap w0 [oA (rList (rInt .i64)) (.slice none 0 0) ([] : List Int)] w0 := H.nilList (rInt .i64)
  refine loop_ghost (fun n a w => ∃ (xs57 : List Int) (x59 : Int) (v56 : Value), Slots a 28 [(4, v56), (9, p0), (10, (.int .i64 (a0.length : Int))), (11, (.int .i64 x59))] ∧ Heap w0 [oA (rList (rInt .i64)) v56 xs57] w ∧ iter f89 n (xs57, x59) = some res87) _ ⟨[], (0 : Int), (.slice none 0 0), S.sub ⟨rfl, rfl, rfl, rfl, trivial⟩, H, hit88⟩ ?_
  rintro n a w ⟨xs57, x59, v56, S, H, hit88⟩
  obtain ⟨m93, o94, rfl, hm, hc95⟩ := iter_step hit88
  rw [hf90] at hm
  refine wp_seq (region_plain ?_)
  refine lq (.bool (decide (x59 < (a0.length : Int)))) S (q_lss rfl rfl) fun a S => ?_
  refine lx_nil (thenN ?_)
  refine wp_seq ?_
  refine cond_b S rfl (fun hc96 => ?_) (fun hc96 => ?_)
  ·have hm := ite_t hc96 hm
   refine wp_skip (thenN ?_)
   refine wp_seq ?_
   refine wp_block ?_
   refine wp_seq (region_plain ?_)
   obtain ⟨x97, e98, hm⟩ := bind_some hm
   obtain ⟨c99, h100, hat101⟩ := (h0).elem (idx_some e98).2
   obtain rfl := h100
   have hlt := lt_of_idx (idx_some e98).2
   refine lq (ePtr p0 (x59.toNat * 1)) S (q_indexAddr rfl (h0).isSl rfl (idx_some e98).1 hlt Tryz.underlying23 Tryz.sizeOf9) fun a S => ?_
   refine lx_e (sv x97) S trivial (by decide) rfl trivial (q_load1 rfl Tryz.isAgg9 (by rintro _ rfl; exact ((hat101 0 _ rfl).ext H.ext))) (fun a S => ?_)
   refine lq (sv x97) S (q_assign rfl) fun a S => ?_
   refine lx_nil (thenN ?_)
   refine wp_seq (region_plain ?_)
   refine lq (sv x97) S (q_move rfl) fun a S => ?_
   obtain ⟨x104, e105, hm⟩ := bind_some hm
   refine lx_call (xs := [.tmp 16]) S trivial (by decide) rfl rfl Tryz.call103 ((impl_ReadDecimal_ok (hG.ext H.ext)  e105).mono ?_)
   rintro e w102 ⟨rfl, Hc103⟩
   have H := H.call0 Hc103
   refine ⟨_, rfl, trivial, fun a S => ?_⟩
   refine lq (.tuple #[(.int .i64 x104.1), (.bool x104.2)]) S (q_move rfl) fun a S => ?_
   refine lq (.int .i64 x104.1) S (q_extract rfl rfl) fun a S => ?_
   refine lq (.bool x104.2) S (q_extract rfl rfl) fun a S => ?_
   refine lq (.int .i64 x104.1) S (q_assign rfl) fun a S => ?_
   refine lq (.bool x104.2) S (q_assign rfl) fun a S => ?_
   refine lx_nil (thenN ?_)
   refine wp_seq (wp_seq (region_plain ?_))
   refine lq (.bool x104.2) S (q_move rfl) fun a S => ?_
   refine lq (.bool (!x104.2)) S (q_not rfl) fun a S => ?_
   refine lx_nil (thenN ?_)
   refine cond_b S rfl (fun hc107 => ?_) (fun hc107 => ?_)
   ·have hm := ite_t hc107 hm
    refine wp_seq (region_plain ?_)
    refine lq (.slice none 0 0) S (q_assign rfl) fun a S => ?_
    refine lq (.bool false) S (q_assign rfl) fun a S => ?_
    refine lx_nil (thenN ?_)
    refine wp_ret (then_ret ?_)
    refine inBlock_ret ?_
    refine then_ret ?_
    refine then_ret ?_
    refine inBlock_ret ?_
    refine then_ret ?_
    refine then_ret ?_
    obtain rfl := it_brk hm hc95
    have hm := ctl_inr hk91
    obtain rfl := Option.some.inj hm
    have H : Heap w0 [oA (rList (rInt .i64)) (.slice none 0 0) ([] : List Int), oA (rList (rInt .i64)) v56 xs57] w102 := H.nilList (rInt .i64)
    have H : Heap w0 [oA (rList (rInt .i64)) (.slice none 0 0) ([] : List Int)] w102 := H.sel [0] (by decide)
    exact leave2 S rfl rfl rfl ⟨(.slice none 0 0), rfl, H⟩
   ·have hm := ite_f hc107 hm
    refine wp_skip (thenN ?_)
    refine region_plain ?_
    refine lq v56 S (q_move rfl) fun a S => ?_
    refine lq (.int .i64 x104.1) S (q_move rfl) fun a S => ?_
    refine lx_buildSlice (r := (rInt .i64)) (xs := [x104.1]) (ps := [(0, [(.int .i64 x104.1)])]) (cs := [(.int .i64 x104.1)]) (parts := [(0, .tmp 23)]) S trivial (by decide) rfl (H.put0 (A := eA) rfl) rfl Tryz.underlying42 Tryz.sizeOf2 Tryz.zeroValue2 (by decide) ⟨rfl, rfl, Nat.le_of_ble_eq_true rfl, trivial⟩ (by intro zs hz; exact fill_dense hz ⟨rfl, trivial⟩ rfl rfl) rfl (by decide) (fun w F hA => by cases (show F = [] from hA); exact ⟨_, _, [(.int .i64 x104.1)], _, rfl, rfl, ⟨rfl, rfl⟩, ⟨rfl, rfl⟩⟩) (fun v109 w110 H => ⟨trivial, fun a S => ?_⟩)
    obtain ⟨x112, e113, hm⟩ := bind_some hm
    obtain ⟨hle, hap⟩ := app_some e113
    replace hap := hap.symm
    subst hap
    have H : Heap w0 [oA (rList (rInt .i64)) v109 [x104.1], oA (rList (rInt .i64)) v56 xs57] w110 := H.front 0 rfl
    have H : Heap w0 [oA (rList (rInt .i64)) v56 xs57, oA (rList (rInt .i64)) v109 [x104.1]] w110 := H.front 1 rfl
    refine lx_appendOwn (r := (rInt .i64)) S trivial (by decide) rfl H rfl rfl Tryz.underlying42 Tryz.ti2 rfl rfl rfl (Nat.le_of_ble_eq_true rfl) (by decide) hle (fun v114 w115 H => ⟨trivial, fun a S => ?_⟩)
    refine lq v114 S (q_assign rfl) fun a S => ?_
    refine lx_nil ?_
    refine inBlock_norm ?_
    refine thenN ?_
    refine region_plain ?_
    refine lq (.int .i64 (W (x59 + (1 : Int)))) S (q_add rfl rfl) fun a S => ?_
    refine lq (.int .i64 (W (x59 + (1 : Int)))) S (q_move rfl) fun a S => ?_
    refine lx_nil ?_
    exact ⟨m93, Nat.lt_succ_self _, (xs57 ++ [x104.1]), (W (x59 + (1 : Int))), v114, S.sub ⟨rfl, rfl, rfl, rfl, trivial⟩, H, it_cont hm hc95⟩
  ·have hm := ite_f hc96 hm
   refine wp_exit ?_
   refine then_exit ?_
   refine then_exit ?_
   refine inBlock_exit ?_
   obtain rfl := it_brk hm hc95
   exact ⟨xs57, v56, S.sub ⟨rfl, trivial⟩, H, rfl⟩

/-- impl.isDigit -/
def impl_isDigit_m (_ : Nat) (a0 : Int) : Option (Bool) :=
  (if (decide ((48 : Int) ≤ a0)) = true then some (decide (a0 ≤ (57 : Int))) else some false).bind fun t31 => some (t31)
set_option maxRecDepth 20000 in
theorem impl_isDigit_ok [dr : Dr] {w0 : World} {fuel : Nat} {a0 : Int} {r : Bool} (hm : impl_isDigit_m fuel a0 = some r) :
  Calls Tryz.prog 111 #[.int .u8 a0] w0 fun e w => e = .returned (.bool r) ∧ Heap w0 [] w := by
 unfold impl_isDigit_m at hm
 have H := Heap.start w0
 refine enter (args := [.int .u8 a0]) Tryz.func111 rfl 9 rfl (Nat.le_of_ble_eq_true rfl) (fun a S => ?_)
 refine wp_seq (region_plain ?_)
 refine lq (.bool false) S (q_assign rfl) fun a S => ?_
 refine lx_nil (thenN ?_)
 refine wp_seq (region_plain ?_)
 refine lq (.int .u8 a0) S (q_move rfl) fun a S => ?_
 refine lq (.bool (decide ((48 : Int) ≤ a0))) S (q_geq rfl rfl) fun a S => ?_
 refine lq (.bool (decide ((48 : Int) ≤ a0))) S (q_move rfl) fun a S => ?_
 obtain ⟨t31, e32, hm⟩ := bind_some hm
 refine lx_cut 3 (fun a w => Slots a 9 [(8, (.bool t31))] ∧ Heap w0 [] w) ?_ ?_
 ·by_cases hc33 : (decide ((48 : Int) ≤ a0)) = true
  ·have hm := ite_t hc33 e32
   refine lx_q (.int .u8 a0) S (want_b rfl rfl hc33) (by decide) (q_move rfl) (fun a S => ?_)
   refine lx_q (.bool (decide (a0 ≤ (57 : Int)))) S (want_b rfl rfl hc33) (by decide) (q_leq rfl rfl) (fun a S => ?_)
   refine lq (.bool (decide (a0 ≤ (57 : Int)))) S (q_pickT' rfl hc33 rfl) fun a S => ?_
   refine lx_nil ?_
   obtain rfl := Option.some.inj hm
   exact ⟨S.sub ⟨rfl, trivial⟩, H⟩
  ·have hm := ite_f (eq_false_of_ne_true hc33) e32
   have hc33 : (decide ((48 : Int) ≤ a0)) = false := eq_false_of_ne_true hc33
   refine lx_skip S rfl rfl (isB_ne hc33) (by decide) (fun a S => ?_)
   refine lx_skip S rfl rfl (isB_ne hc33) (by decide) (fun a S => ?_)
   refine lq (.bool false) S (q_pickF' rfl hc33 rfl) fun a S => ?_
   refine lx_nil ?_
   obtain rfl := Option.some.inj hm
   exact ⟨S.sub ⟨rfl, trivial⟩, H⟩
 ·rintro a w ⟨S, H⟩
  refine lq (.bool t31) S (q_assign rfl) fun a S => ?_
  refine lx_nil (thenN ?_)
  refine wp_ret ?_
  obtain rfl := Option.some.inj hm
  exact leave1 S rfl rfl ⟨rfl, H⟩
end Go.Proofs.YtnkpniekdipgaaaGreatDoor
