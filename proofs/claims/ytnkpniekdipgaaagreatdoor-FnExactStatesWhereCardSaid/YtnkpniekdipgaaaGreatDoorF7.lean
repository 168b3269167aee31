/- The models of some functions and their walks (printed by a program of this repo). -/
import Derived.Test.YtnkpniekdipgaaaGreatDoorF0
import Derived.Test.YtnkpniekdipgaaaGreatDoorF4
import Derived.Test.YtnkpniekdipgaaaGreatDoorF6
import Derived.Test.YtnkpniekdipgaaaGreatDoorFT
import Derived.Test.YtnkpniekdipgaaaGreatDoorGxMx
import Derived.Test.YtnkpniekdipgaaaGreatDoorGxT
import Derived.Test.YtnkpniekdipgaaaGreatDoorGxTg
import Derived.Test.YtnkpniekdipgaaaGreatDoorGxY
namespace Go.Proofs.YtnkpniekdipgaaaGreatDoor
open Go.RowKit Go.Gx

/-- (*impl.formula).where -/
def Pimpl_formula_where_b (fuel : Nat) (rec : (Ft fuel) → Timpl_Lts → Option ((List Bool))) (a0 : (Timpl_Node × List (Ft fuel))) (a1 : Timpl_Lts) : Option ((List Bool)) :=
  (iter (fun (s : (List (List Bool)) × (Int)) => (match s with | (xs105, x109) => (if (decide (x109 < (a0.2.length : Int))) = true then (idx a0.2 x109).bind fun x363 => (rec x363 (a1.1, a1.2.1, a1.2.2.1, a1.2.2.2)).bind fun x372 => (app xs105 [x372]).bind fun x380 => some (.inl (x380, (W (x109 + (1 : Int))))) else some (.inr (.inl (xs105)))) : Option (((List (List Bool)) × (Int)) ⊕ (((List (List Bool))) ⊕ ((List Bool)))))) fuel ([], (0 : Int))).bind fun res145 => ctl (β := (List (List Bool))) (ρ := (List Bool)) (τ := (List Bool)) res145 (fun (xs141) => (impl_Node_isModality_m fuel (a0.1.1, a0.1.2.1, a0.1.2.2.1, a0.1.2.2.2)).bind fun x152 => (if x152 = true then (idx xs141 (0 : Int)).bind fun x158 => (impl_Lts_modality_m fuel (a1.1, a1.2.1, a1.2.2.1, a1.2.2.2) (a0.1.1, a0.1.2.1, a0.1.2.2.1, a0.1.2.2.2) x158).bind fun x164 => some (x164) else (slices_Repeat__bool_bool_m fuel [(a0.1.1 == (0 : Int))] a1.1).bind fun x176 => (iter (fun (s : (List Bool) × (Int)) => (match s with | (xs237, x238) => (if (decide (x238 < (x176.length : Int))) = true then join (κ := List Bool → Option (((List Bool) × (Int)) ⊕ (((List Bool)) ⊕ ((List Bool))))) (fun (xs305 : List Bool) => some (.inl (xs305, (W (x238 + (1 : Int)))))) (fun K306 => (if (a0.1.1 == (2 : Int)) = true then (idx xs141 (0 : Int)).bind fun x309 => (idx x309 x238).bind fun x313 => (if x313 = true then (idx xs141 (1 : Int)).bind fun x321 => (idx x321 x238).bind fun x325 => some x325 else some false).bind fun t318 => (idx xs237 x238).bind fun _ => (K306 (xs237.set x238.toNat t318)) else (if (a0.1.1 == (3 : Int)) = true then (idx xs141 (0 : Int)).bind fun x334 => (idx x334 x238).bind fun x338 => (if x338 = true then some true else (idx xs141 (1 : Int)).bind fun x346 => (idx x346 x238).bind fun x350 => some x350).bind fun t343 => (idx xs237 x238).bind fun _ => (K306 (xs237.set x238.toNat t343)) else (K306 xs237)))) else some (.inr (.inl (xs237)))) : Option (((List Bool) × (Int)) ⊕ (((List Bool)) ⊕ ((List Bool)))))) fuel (x176, (0 : Int))).bind fun res296 => ctl (β := (List Bool)) (ρ := (List Bool)) (τ := (List Bool)) res296 (fun (xs295) => some (xs295)) (fun q => some (q)))) (fun q => some (q))
def Pimpl_formula_where_m : (fuel : Nat) → (Ft fuel) → Timpl_Lts → Option ((List Bool))
  | 0, _, _ => none
  | fuel + 1, a0, a1 => Pimpl_formula_where_b fuel (Pimpl_formula_where_m fuel) a0 a1
set_option maxRecDepth 20000 in
theorem Pimpl_formula_where_ok {w0 : World} {fuel : Nat} {p0 p1 : Value} {a0 : (Ft fuel)} {a1 : Timpl_Lts} {r : (List Bool)} (hG : GlobE Tryz.prog w0) (h0 : Rd (rBx 93 (rFt fuel)) w0 p0 a0) (h1 : Rd Rimpl_Lts w0 p1 a1) (hm : Pimpl_formula_where_m fuel a0 a1 = some r) :
  Calls Tryz.prog 35 #[p0, p1] w0 fun e w => ∃ (v0 : Value), e = .returned (v0) ∧ Heap w0 [oA (rList rBool) v0 r] w := by
 induction fuel generalizing w0 p0 p1 a1 r with
 | zero => cases (show none = some r from hm)
 | succ fuel ih =>
  replace hm : Pimpl_formula_where_b fuel (Pimpl_formula_where_m fuel) a0 a1 = some r := hm
  unfold Pimpl_formula_where_b at hm
  have H := Heap.start w0
  obtain ⟨c31, h32, hat33⟩ := (rd_bxp h0).ptr
  obtain ⟨c36, c37, rfl, h38, h39⟩ := h32
  obtain ⟨c40, c41, rfl, h42, h43⟩ := h38
  obtain rfl := h42
  obtain ⟨c44, c45, rfl, h46, h47⟩ := h43
  obtain rfl := h46
  obtain ⟨c48, c49, rfl, h50, h51⟩ := h47
  obtain rfl := h50
  obtain rfl := h51
  obtain ⟨v34, rfl, h35⟩ := rd_list h39
  obtain ⟨c52, rfl, h53⟩ := h1
  obtain ⟨c58, c59, rfl, h60, h61⟩ := h53
  obtain rfl := h60
  obtain ⟨c62, c63, rfl, h64, h65⟩ := h61
  obtain rfl := h64
  obtain ⟨c66, c67, rfl, h68, h69⟩ := h65
  obtain ⟨v54, rfl, h55⟩ := rd_list h68
  obtain ⟨v56, rfl, h57⟩ := rd_list h69
  refine enter (args := [p0, (.agg #[(.int .i64 a1.1), (.int .i64 a1.2.1), v54, v56])]) Tryz.func35 rfl 100 rfl (Nat.le_of_ble_eq_true rfl) (fun a S => ?_)
  refine wp_seq (region_plain ?_)
  refine lx_box S trivial (by decide) rfl H rfl rfl (fun b70 w71 H => ⟨trivial, fun a S => ?_⟩)
  refine lq (.slice none 0 0) S (q_assign rfl) fun a S => ?_
  refine lx_nil (thenN ?_)
  refine wp_seq (region_plain ?_)
  refine lq (.slice none 0 0) S (q_assign rfl) fun a S => ?_
  refine lx_nil (thenN ?_)
  refine wp_seq (wp_seq (region_plain ?_))
  refine lq p0 S (q_move rfl) fun a S => ?_
  refine lq p0 S (q_nilCheck rfl ((hat33 0 _ rfl).isP)) fun a S => ?_
  refine lq (pAdd p0 4) S (q_fieldAddr' 4 91 rfl ((hat33 0 _ rfl).isP) Tryz.underlying93 rfl Tryz.sizeOf91) fun a S => ?_
  refine lx_e v34 S trivial (by decide) rfl trivial (q_load1 rfl Tryz.isAgg91 (by rintro _ rfl; exact (At.of_add (m := 4) (j := 0) ((hat33 4 _ rfl).ext H.ext)))) (fun a S => ?_)
  refine lq (.int .i64 (a0.2.length : Int)) S (q_lenSl rfl (h35).isSl rfl Tryz.underlying91) fun a S => ?_
  refine lq (.int .i64 (0 : Int)) S (q_move rfl) fun a S => ?_
  refine lx_nil (thenN ?_)
  obtain ⟨res145, hit146, hk149⟩ := bind_some hm
  obtain ⟨f147, hf148, hit146⟩ := iter_name hit146
  refine block_loop (fun a w => ∃ (xs141 : List (List Bool)) (v140 : Value) (T143 : List ((List Bool) × Value)), Slots a 100 [(0, p0), (3, (bp b70)), (5, v140)] ∧ Heap w0 [bA b70 [(.int .i64 a1.1), (.int .i64 a1.2.1), v54, v56] 35, oA (rList (rTg (rList rBool))) v140 T143] w ∧ xs141 = T143.map (·.1) ∧ res145 = .inl (xs141)) ?_ ?_
  ·rintro a w ⟨xs141, v140, T143, S, H, hT144, rfl⟩
   have hm := ctl_inl hk149
   refine thenN ?_
   refine wp_seq (wp_seq (region_plain ?_))
   refine lq p0 S (q_move rfl) fun a S => ?_
   refine lq p0 S (q_nilCheck rfl ((hat33 0 _ rfl).isP)) fun a S => ?_
   refine lq (pAdd p0 0) S (q_fieldAddr' 0 61 rfl ((hat33 0 _ rfl).isP) Tryz.underlying93 rfl Tryz.sizeOf61) fun a S => ?_
   refine lx_e (.agg #[(.int .i64 a0.1.1), (.int .i64 a0.1.2.1), (sv a0.1.2.2.1), (.bool a0.1.2.2.2)]) S trivial (by decide) rfl trivial (q_loadA (cs := [(.int .i64 a0.1.1), (.int .i64 a0.1.2.1), (sv a0.1.2.2.1), (.bool a0.1.2.2.2)]) rfl (((hat33 0 _ rfl).isP).add 0) Tryz.isAgg61 Tryz.sizeOf61 (by rintro _ rfl; exact (fun j u hu => At.of_add (m := 0) (j := j) ((hat33 (0 + j) u (cells_sub (part := [(.int .i64 a0.1.1), (.int .i64 a0.1.2.1), (sv a0.1.2.2.1), (.bool a0.1.2.2.2)]) 0 rfl hu)).ext H.ext)))) (fun a S => ?_)
   obtain ⟨x152, e153, hm⟩ := bind_some hm
   refine lx_call (xs := [.tmp 29]) S trivial (by decide) rfl rfl Tryz.call54 ((impl_Node_isModality_ok ⟨[(.int .i64 a0.1.1), (.int .i64 a0.1.2.1), (sv a0.1.2.2.1), (.bool a0.1.2.2.2)], rfl, ⟨[(.int .i64 a0.1.1)], [(.int .i64 a0.1.2.1), (sv a0.1.2.2.1), (.bool a0.1.2.2.2)], rfl, rfl, ⟨[(.int .i64 a0.1.2.1)], [(sv a0.1.2.2.1), (.bool a0.1.2.2.2)], rfl, rfl, ⟨[(sv a0.1.2.2.1)], [(.bool a0.1.2.2.2)], rfl, rfl, rfl⟩⟩⟩⟩ e153).mono ?_)
   rintro e w150 ⟨rfl, Hc151⟩
   have H := H.call0 Hc151
   refine ⟨_, rfl, trivial, fun a S => ?_⟩
   refine lx_nil (thenN ?_)
   refine cond_b S rfl (fun hc155 => ?_) (fun hc155 => ?_)
   ·have hm := ite_t hc155 hm
    refine wp_seq ?_
    refine region_drawG (fun w1 => Heap w0 [bA b70 [(.int .i64 a1.1), (.int .i64 a1.2.1), v54, v56] 35, oA (rList (rTg (rList rBool))) v140 T143] w1) (fun i => [8].contains i) mixed (by kernel_rfl) (fun w157 he156 => ?_)
    have H := H.later he156
    refine ⟨H.sel [0, 1] (by decide), ?_⟩
    refine lq (.agg #[(.int .i64 a1.1), (.int .i64 a1.2.1), v54, v56]) S (q_loadA (cs := [(.int .i64 a1.1), (.int .i64 a1.2.1), v54, v56]) rfl (isP_bp _) Tryz.isAgg35 Tryz.sizeOf35 (fun w1 hC => (fun j u hu => boxAt (i := 0) hC rfl hu))) fun a S => ?_
    refine lq p0 S (q_move rfl) fun a S => ?_
    refine lq p0 S (q_nilCheck rfl ((hat33 0 _ rfl).isP)) fun a S => ?_
    refine lq (pAdd p0 0) S (q_fieldAddr' 0 61 rfl ((hat33 0 _ rfl).isP) Tryz.underlying93 rfl Tryz.sizeOf61) fun a S => ?_
    refine lq (.agg #[(.int .i64 a0.1.1), (.int .i64 a0.1.2.1), (sv a0.1.2.2.1), (.bool a0.1.2.2.2)]) S (q_loadA (cs := [(.int .i64 a0.1.1), (.int .i64 a0.1.2.1), (sv a0.1.2.2.1), (.bool a0.1.2.2.2)]) rfl (((hat33 0 _ rfl).isP).add 0) Tryz.isAgg61 Tryz.sizeOf61 (fun w1 hC => (fun j u hu => At.of_add (m := 0) (j := j) ((hat33 (0 + j) u (cells_sub (part := [(.int .i64 a0.1.1), (.int .i64 a0.1.2.1), (sv a0.1.2.2.1), (.bool a0.1.2.2.2)]) 0 rfl hu)).ext hC.ext)))) fun a S => ?_
    refine lq v140 S (q_move rfl) fun a S => ?_
    obtain ⟨x158, e159, hm⟩ := bind_some hm
    obtain ⟨u160, hT161⟩ := tg_idx hT144 e159
    have hlt := lt_of_idx (idx_some e159).2
    refine lq (ePtr v140 ((0 : Int).toNat * 1)) S (q_indexAddr rfl (tg_sl hT144 (H.isSl 1 rfl)) rfl (idx_some e159).1 hlt Tryz.underlying83 Tryz.sizeOf59) fun a S => ?_
    refine lq u160 S (q_load1 rfl Tryz.isAgg59 (fun w1 hC => (tg_at (hC.rdAt 1 rfl) hT161))) fun a S => ?_
    obtain ⟨x164, e165, hm⟩ := bind_some hm
    refine lx_call (xs := [.tmp 31, .tmp 35, .tmp 38]) S trivial (by decide) rfl rfl Tryz.call55 ((impl_Lts_modality_ok (hG.ext H.ext) ⟨[(.int .i64 a1.1), (.int .i64 a1.2.1), v54, v56], rfl, ⟨[(.int .i64 a1.1)], [(.int .i64 a1.2.1), v54, v56], rfl, rfl, ⟨[(.int .i64 a1.2.1)], [v54, v56], rfl, rfl, ⟨[v54], [v56], rfl, ((H.arg h55)).list_rd, ((H.arg h57)).list_rd⟩⟩⟩⟩ ⟨[(.int .i64 a0.1.1), (.int .i64 a0.1.2.1), (sv a0.1.2.2.1), (.bool a0.1.2.2.2)], rfl, ⟨[(.int .i64 a0.1.1)], [(.int .i64 a0.1.2.1), (sv a0.1.2.2.1), (.bool a0.1.2.2.2)], rfl, rfl, ⟨[(.int .i64 a0.1.2.1)], [(sv a0.1.2.2.1), (.bool a0.1.2.2.2)], rfl, rfl, ⟨[(sv a0.1.2.2.1)], [(.bool a0.1.2.2.2)], rfl, rfl, rfl⟩⟩⟩⟩ (rd_tg (H.rdAt 1 rfl) hT161 rfl) e165).mono ?_)
    rintro e w162 ⟨v166, rfl, Hc163⟩
    have H := H.call1 Hc163
    refine ⟨_, rfl, H.sel [1, 2] (by decide), fun a S => ?_⟩
    refine lq v166 S (q_assign rfl) fun a S => ?_
    refine lx_nil (thenN ?_)
    refine wp_ret (then_ret ?_)
    obtain rfl := Option.some.inj hm
    have H : Heap w0 [oA (rList rBool) v166 x164] w162 := H.sel [0] (by decide)
    exact leave1 S rfl rfl ⟨v166, rfl, H⟩
   ·have hm := ite_f hc155 hm
    refine wp_skip (thenN ?_)
    refine wp_seq ?_
    refine region_drawG (fun w1 => Heap w0 [bA b70 [(.int .i64 a1.1), (.int .i64 a1.2.1), v54, v56] 35] w1) (fun i => [6, 9].contains i) mixed (by kernel_rfl) (fun w170 he169 => ?_)
    have H := H.later he169
    refine ⟨H.sel [0] (by decide), ?_⟩
    refine lq p0 S (q_move rfl) fun a S => ?_
    refine lq p0 S (q_nilCheck rfl ((hat33 0 _ rfl).isP)) fun a S => ?_
    refine lq (pAdd p0 0) S (q_fieldAddr' 0 61 rfl ((hat33 0 _ rfl).isP) Tryz.underlying93 rfl Tryz.sizeOf61) fun a S => ?_
    refine lq (pAdd (pAdd p0 0) 0) S (q_fieldAddr' 0 2 rfl (((hat33 0 _ rfl).isP).add 0) Tryz.underlying61 rfl Tryz.sizeOf2) fun a S => ?_
    refine lq (.int .i64 a0.1.1) S (q_load1 rfl Tryz.isAgg2 (fun w1 hC => (At.of_add (m := 0) (j := 0) (At.of_add (m := 0) (j := 0) ((hat33 0 _ rfl).ext hC.ext))))) fun a S => ?_
    refine lq (.bool (a0.1.1 == (0 : Int))) S (q_eql rfl rfl) fun a S => ?_
    refine lx_buildSlice (r := rBool) (xs := [(a0.1.1 == (0 : Int))]) (ps := [(0, [(.bool (a0.1.1 == (0 : Int)))])]) (cs := [(.bool (a0.1.1 == (0 : Int)))]) (parts := [(0, .tmp 45)]) S trivial (by decide) rfl (H.put0 (A := eA) rfl) rfl Tryz.underlying59 Tryz.sizeOf4 Tryz.zeroValue4 (by decide) ⟨rfl, rfl, Nat.le_of_ble_eq_true rfl, trivial⟩ (by intro zs hz; exact fill_dense hz ⟨rfl, trivial⟩ rfl rfl) rfl (by decide) (fun w F hA => by cases (show F = [] from hA); exact ⟨_, _, [(.bool (a0.1.1 == (0 : Int)))], _, rfl, rfl, ⟨rfl, rfl⟩, ⟨rfl, rfl⟩⟩) (fun v171 w172 H => ⟨H.sel [1] (by decide), fun a S => ?_⟩)
    refine lq (pAdd (bp b70) 0) S (q_fieldAddr' 0 2 rfl (isP_bp _) Tryz.underlying35 rfl Tryz.sizeOf2) fun a S => ?_
    refine lq (.int .i64 a1.1) S (q_load1 rfl Tryz.isAgg2 (fun w1 hC => (At.of_add (m := 0) (j := 0) (boxAt (i := 0) hC rfl (j := 0) rfl)))) fun a S => ?_
    obtain ⟨x176, e177, hm⟩ := bind_some hm
    refine lx_call (xs := [.tmp 46, .tmp 48]) S trivial (by decide) rfl rfl Tryz.call56 ((slices_Repeat__bool_bool_ok (H.rdAt 0 rfl)  e177).mono ?_)
    rintro e w174 ⟨v178, rfl, Hc175⟩
    have H := H.call1 Hc175
    refine ⟨_, rfl, H.sel [2] (by decide), fun a S => ?_⟩
    refine lq v178 S (q_assign rfl) fun a S => ?_
    refine lx_nil (thenN ?_)
    refine wp_seq (wp_seq (region_plain ?_))
    refine lq v178 S (q_move rfl) fun a S => ?_
    refine lq (.int .i64 (x176.length : Int)) S (q_lenSl rfl (H.isSl 0 rfl) rfl Tryz.underlying59) fun a S => ?_
    refine lq (.int .i64 (0 : Int)) S (q_move rfl) fun a S => ?_
    refine lx_nil (thenN ?_)
    obtain ⟨res296, hit297, hk300⟩ := bind_some hm
    obtain ⟨f298, hf299, hit297⟩ := iter_name hit297
    refine block_loop (fun a w => ∃ (xs295 : List Bool), Slots a 100 [(8, v178)] ∧ Heap w0 [oA (rList rBool) v178 xs295] w ∧ res296 = .inl (xs295)) ?_ ?_
    ·rintro a w ⟨xs295, S, H, rfl⟩
     have hm := ctl_inl hk300
     refine thenN ?_
     refine wp_seq (region_plain ?_)
     refine lq v178 S (q_move rfl) fun a S => ?_
     refine lq v178 S (q_assign rfl) fun a S => ?_
     refine lx_nil (thenN ?_)
     refine wp_ret ?_
     obtain rfl := Option.some.inj hm
     exact leave1 S rfl rfl ⟨v178, rfl, H⟩
    ·skip
     have H : Heap w0 [oA (rList (rTg (rList rBool))) v140 T143, oA (rList rBool) v178 x176, oA (rList rBool) v171 [(a0.1.1 == (0 : Int))], bA b70 [(.int .i64 a1.1), (.int .i64 a1.2.1), v54, v56] 35] w174 := H.front 3 rfl
     have H : Heap w0 [oA (rList (rTg (rList rBool))) v140 T143, oA (rList rBool) v178 x176] w174 := H.sel [0, 1] (by decide)
     refine loop_ghost (fun n a w => ∃ (xs237 : List Bool) (x238 : Int), Slots a 100 [(0, p0), (5, v140), (8, v178), (51, (.int .i64 (x176.length : Int))), (52, (.int .i64 x238))] ∧ Heap w0 [oA (rList (rTg (rList rBool))) v140 T143, oA (rList rBool) v178 xs237] w ∧ iter f298 n (xs237, x238) = some res296) _ ⟨x176, (0 : Int), S.sub ⟨rfl, rfl, rfl, rfl, rfl, trivial⟩, H, hit297⟩ ?_
     rintro n a w ⟨xs237, x238, S, H, hit297⟩
     obtain ⟨m301, o302, rfl, hm, hc303⟩ := iter_step hit297
     rw [hf299] at hm
     refine wp_seq (region_plain ?_)
     refine lq (.bool (decide (x238 < (x176.length : Int)))) S (q_lss rfl rfl) fun a S => ?_
     refine lx_nil (thenN ?_)
     refine wp_seq ?_
     refine cond_b S rfl (fun hc304 => ?_) (fun hc304 => ?_)
     ·have hm := ite_t hc304 hm
      refine wp_skip (thenN ?_)
      obtain ⟨K306, hK307, hm⟩ := join_elim hm
      refine seq_cut (fun a w => ∃ (xs305 : List Bool), Slots a 100 [(0, p0), (5, v140), (8, v178), (51, (.int .i64 (x176.length : Int))), (52, (.int .i64 x238))] ∧ Heap w0 [oA (rList (rTg (rList rBool))) v140 T143, oA (rList rBool) v178 xs305] w ∧ K306 xs305 = some o302) ?_ ?_
      ·rintro a w ⟨xs305, S, H, hm⟩
       subst hK307
       refine region_plain ?_
       refine lq (.int .i64 (W (x238 + (1 : Int)))) S (q_add rfl rfl) fun a S => ?_
       refine lq (.int .i64 (W (x238 + (1 : Int)))) S (q_move rfl) fun a S => ?_
       refine lx_nil ?_
       exact ⟨m301, Nat.lt_succ_self _, xs305, (W (x238 + (1 : Int))), S.sub ⟨rfl, rfl, rfl, rfl, rfl, trivial⟩, H, it_cont hm hc303⟩
      ·skip
       refine wp_block ?_
       refine wp_seq (region_plain ?_)
       refine lq (.int .i64 x238) S (q_move rfl) fun a S => ?_
       refine lq (.int .i64 x238) S (q_assign rfl) fun a S => ?_
       refine lx_nil (thenN ?_)
       refine wp_seq (region_plain ?_)
       refine lq p0 S (q_move rfl) fun a S => ?_
       refine lq p0 S (q_nilCheck rfl ((hat33 0 _ rfl).isP)) fun a S => ?_
       refine lq (pAdd p0 0) S (q_fieldAddr' 0 61 rfl ((hat33 0 _ rfl).isP) Tryz.underlying93 rfl Tryz.sizeOf61) fun a S => ?_
       refine lq (pAdd (pAdd p0 0) 0) S (q_fieldAddr' 0 2 rfl (((hat33 0 _ rfl).isP).add 0) Tryz.underlying61 rfl Tryz.sizeOf2) fun a S => ?_
       refine lx_e (.int .i64 a0.1.1) S trivial (by decide) rfl trivial (q_load1 rfl Tryz.isAgg2 (by rintro _ rfl; exact (At.of_add (m := 0) (j := 0) (At.of_add (m := 0) (j := 0) ((hat33 0 _ rfl).ext H.ext))))) (fun a S => ?_)
       refine lx_nil (thenN ?_)
       refine wp_block ?_
       refine wp_seq (region_plain ?_)
       refine lq (.bool (a0.1.1 == (2 : Int))) S (q_eql rfl rfl) fun a S => ?_
       refine lq (.bool (a0.1.1 == (2 : Int))) S (q_assign rfl) fun a S => ?_
       refine lx_nil (thenN ?_)
       refine cond_b S rfl (fun hc308 => ?_) (fun hc308 => ?_)
       ·have hm := ite_t hc308 hm
        refine region_plain ?_
        refine lq v178 S (q_move rfl) fun a S => ?_
        refine lq (.int .i64 x238) S (q_move rfl) fun a S => ?_
        refine lq v140 S (q_move rfl) fun a S => ?_
        obtain ⟨x309, e310, hm⟩ := bind_some hm
        obtain ⟨u311, hT312⟩ := tg_idx hT144 e310
        have hlt := lt_of_idx (idx_some e310).2
        refine lq (ePtr v140 ((0 : Int).toNat * 1)) S (q_indexAddr rfl (tg_sl hT144 (H.isSl 0 rfl)) rfl (idx_some e310).1 hlt Tryz.underlying83 Tryz.sizeOf59) fun a S => ?_
        refine lx_e u311 S trivial (by decide) rfl trivial (q_load1 rfl Tryz.isAgg59 (by rintro _ rfl; exact (tg_at (H.rdAt 0 rfl) hT312))) (fun a S => ?_)
        refine lq (.int .i64 x238) S (q_move rfl) fun a S => ?_
        obtain ⟨x313, e314, hm⟩ := bind_some hm
        obtain ⟨c315, h316, hat317⟩ := ((rd_tg (H.rdAt 0 rfl) hT312 rfl)).elem (idx_some e314).2
        obtain rfl := h316
        have hlt := lt_of_idx (idx_some e314).2
        refine lq (ePtr u311 (x238.toNat * 1)) S (q_indexAddr rfl ((rd_tg (H.rdAt 0 rfl) hT312 rfl)).isSl rfl (idx_some e314).1 hlt Tryz.underlying59 Tryz.sizeOf4) fun a S => ?_
        refine lx_e (.bool x313) S trivial (by decide) rfl trivial (q_load1 rfl Tryz.isAgg4 (by rintro _ rfl; exact ((hat317 0 _ rfl).ext (Ext.refl _)))) (fun a S => ?_)
        refine lq (.bool x313) S (q_move rfl) fun a S => ?_
        obtain ⟨t318, e319, hm⟩ := bind_some hm
        refine lx_cut 7 (fun a w => Slots a 100 [(0, p0), (5, v140), (8, v178), (51, (.int .i64 (x176.length : Int))), (52, (.int .i64 x238)), (62, v178), (63, (.int .i64 x238)), (77, (.bool t318))] ∧ Heap w0 [oA (rList (rTg (rList rBool))) v140 T143, oA (rList rBool) v178 xs237] w) ?_ ?_
        ·by_cases hc320 : x313 = true
         ·have hm := ite_t hc320 e319
          refine lx_q v140 S (want_b rfl rfl hc320) (by decide) (q_move rfl) (fun a S => ?_)
          obtain ⟨x321, e322, hm⟩ := bind_some hm
          obtain ⟨u323, hT324⟩ := tg_idx hT144 e322
          have hlt := lt_of_idx (idx_some e322).2
          refine lx_q (ePtr v140 ((1 : Int).toNat * 1)) S (want_b rfl rfl hc320) (by decide) (q_indexAddr rfl (tg_sl hT144 (H.isSl 0 rfl)) rfl (idx_some e322).1 hlt Tryz.underlying83 Tryz.sizeOf59) (fun a S => ?_)
          refine lx_e u323 S (want_b rfl rfl hc320) (by decide) rfl trivial (q_load1 rfl Tryz.isAgg59 (by rintro _ rfl; exact (tg_at (H.rdAt 0 rfl) hT324))) (fun a S => ?_)
          refine lx_q (.int .i64 x238) S (want_b rfl rfl hc320) (by decide) (q_move rfl) (fun a S => ?_)
          obtain ⟨x325, e326, hm⟩ := bind_some hm
          obtain ⟨c327, h328, hat329⟩ := ((rd_tg (H.rdAt 0 rfl) hT324 rfl)).elem (idx_some e326).2
          obtain rfl := h328
          have hlt := lt_of_idx (idx_some e326).2
          refine lx_q (ePtr u323 (x238.toNat * 1)) S (want_b rfl rfl hc320) (by decide) (q_indexAddr rfl ((rd_tg (H.rdAt 0 rfl) hT324 rfl)).isSl rfl (idx_some e326).1 hlt Tryz.underlying59 Tryz.sizeOf4) (fun a S => ?_)
          refine lx_e (.bool x325) S (want_b rfl rfl hc320) (by decide) rfl trivial (q_load1 rfl Tryz.isAgg4 (by rintro _ rfl; exact ((hat329 0 _ rfl).ext (Ext.refl _)))) (fun a S => ?_)
          refine lq (.bool x325) S (q_pickT' rfl hc320 rfl) fun a S => ?_
          refine lx_nil ?_
          obtain rfl := Option.some.inj hm
          exact ⟨S.sub ⟨rfl, rfl, rfl, rfl, rfl, rfl, rfl, rfl, trivial⟩, H⟩
         ·have hm := ite_f (eq_false_of_ne_true hc320) e319
          have hc320 : x313 = false := eq_false_of_ne_true hc320
          refine lx_skip S rfl rfl (isB_ne hc320) (by decide) (fun a S => ?_)
          refine lx_skip S rfl rfl (isB_ne hc320) (by decide) (fun a S => ?_)
          refine lx_skip S rfl rfl (isB_ne hc320) (by decide) (fun a S => ?_)
          refine lx_skip S rfl rfl (isB_ne hc320) (by decide) (fun a S => ?_)
          refine lx_skip S rfl rfl (isB_ne hc320) (by decide) (fun a S => ?_)
          refine lx_skip S rfl rfl (isB_ne hc320) (by decide) (fun a S => ?_)
          refine lq (.bool false) S (q_pickF' rfl hc320 rfl) fun a S => ?_
          refine lx_nil ?_
          obtain rfl := Option.some.inj hm
          exact ⟨S.sub ⟨rfl, rfl, rfl, rfl, rfl, rfl, rfl, rfl, trivial⟩, H⟩
        ·rintro a w ⟨S, H⟩
         obtain ⟨x330, e331, hm⟩ := bind_some hm
         have hlt := lt_of_idx (idx_some e331).2
         refine lq (ePtr v178 (x238.toNat * 1)) S (q_indexAddr rfl (H.isSl 1 rfl) rfl (idx_some e331).1 hlt Tryz.underlying59 Tryz.sizeOf4) fun a S => ?_
         have H : Heap w0 [oA (rList rBool) v178 xs237, oA (rList (rTg (rList rBool))) v140 T143] w := H.front 1 rfl
         refine lx_storeElem (r := rBool) (us := [(.bool t318)]) (off := 0) (e' := t318) S trivial rfl H.putE (ev_zero rfl) rfl (idx_some e331).2 rfl Tryz.sizeOf4 (Nat.le_of_ble_eq_true rfl) (List.forall_mem_cons.2 ⟨rfl, (List.forall_mem_nil _)⟩) (Upd.full rfl (fun w G hG => by cases (show G = [] from hG); exact ⟨rfl, rfl⟩)) (fun w332 H => ⟨trivial, fun a S => ?_⟩)
         refine lx_nil ?_
         refine inBlock_norm ?_
         refine inBlock_norm ?_
         have H : Heap w0 [oA (rList (rTg (rList rBool))) v140 T143, oA (rList rBool) v178 (xs237.set x238.toNat t318)] w332 := H.front 1 rfl
         exact ⟨(xs237.set x238.toNat t318), S.sub ⟨rfl, rfl, rfl, rfl, rfl, trivial⟩, H, hm⟩
       ·have hm := ite_f hc308 hm
        refine wp_seq (region_plain ?_)
        refine lq (.bool (a0.1.1 == (3 : Int))) S (q_eql rfl rfl) fun a S => ?_
        refine lq (.bool (a0.1.1 == (3 : Int))) S (q_assign rfl) fun a S => ?_
        refine lx_nil (thenN ?_)
        refine cond_b S rfl (fun hc333 => ?_) (fun hc333 => ?_)
        ·have hm := ite_t hc333 hm
         refine region_plain ?_
         refine lq v178 S (q_move rfl) fun a S => ?_
         refine lq (.int .i64 x238) S (q_move rfl) fun a S => ?_
         refine lq v140 S (q_move rfl) fun a S => ?_
         obtain ⟨x334, e335, hm⟩ := bind_some hm
         obtain ⟨u336, hT337⟩ := tg_idx hT144 e335
         have hlt := lt_of_idx (idx_some e335).2
         refine lq (ePtr v140 ((0 : Int).toNat * 1)) S (q_indexAddr rfl (tg_sl hT144 (H.isSl 0 rfl)) rfl (idx_some e335).1 hlt Tryz.underlying83 Tryz.sizeOf59) fun a S => ?_
         refine lx_e u336 S trivial (by decide) rfl trivial (q_load1 rfl Tryz.isAgg59 (by rintro _ rfl; exact (tg_at (H.rdAt 0 rfl) hT337))) (fun a S => ?_)
         refine lq (.int .i64 x238) S (q_move rfl) fun a S => ?_
         obtain ⟨x338, e339, hm⟩ := bind_some hm
         obtain ⟨c340, h341, hat342⟩ := ((rd_tg (H.rdAt 0 rfl) hT337 rfl)).elem (idx_some e339).2
         obtain rfl := h341
         have hlt := lt_of_idx (idx_some e339).2
         refine lq (ePtr u336 (x238.toNat * 1)) S (q_indexAddr rfl ((rd_tg (H.rdAt 0 rfl) hT337 rfl)).isSl rfl (idx_some e339).1 hlt Tryz.underlying59 Tryz.sizeOf4) fun a S => ?_
         refine lx_e (.bool x338) S trivial (by decide) rfl trivial (q_load1 rfl Tryz.isAgg4 (by rintro _ rfl; exact ((hat342 0 _ rfl).ext (Ext.refl _)))) (fun a S => ?_)
         refine lq (.bool x338) S (q_move rfl) fun a S => ?_
         obtain ⟨t343, e344, hm⟩ := bind_some hm
         refine lx_cut 7 (fun a w => Slots a 100 [(0, p0), (5, v140), (8, v178), (51, (.int .i64 (x176.length : Int))), (52, (.int .i64 x238)), (81, v178), (82, (.int .i64 x238)), (96, (.bool t343))] ∧ Heap w0 [oA (rList (rTg (rList rBool))) v140 T143, oA (rList rBool) v178 xs237] w) ?_ ?_
         ·by_cases hc345 : x338 = true
          ·have hm := ite_t hc345 e344
           refine lx_skip S rfl rfl (isB_ne hc345) (by decide) (fun a S => ?_)
           refine lx_skip S rfl rfl (isB_ne hc345) (by decide) (fun a S => ?_)
           refine lx_skip S rfl rfl (isB_ne hc345) (by decide) (fun a S => ?_)
           refine lx_skip S rfl rfl (isB_ne hc345) (by decide) (fun a S => ?_)
           refine lx_skip S rfl rfl (isB_ne hc345) (by decide) (fun a S => ?_)
           refine lx_skip S rfl rfl (isB_ne hc345) (by decide) (fun a S => ?_)
           refine lq (.bool true) S (q_pickT' rfl hc345 rfl) fun a S => ?_
           refine lx_nil ?_
           obtain rfl := Option.some.inj hm
           exact ⟨S.sub ⟨rfl, rfl, rfl, rfl, rfl, rfl, rfl, rfl, trivial⟩, H⟩
          ·have hm := ite_f (eq_false_of_ne_true hc345) e344
           have hc345 : x338 = false := eq_false_of_ne_true hc345
           refine lx_q v140 S (want_b rfl rfl hc345) (by decide) (q_move rfl) (fun a S => ?_)
           obtain ⟨x346, e347, hm⟩ := bind_some hm
           obtain ⟨u348, hT349⟩ := tg_idx hT144 e347
           have hlt := lt_of_idx (idx_some e347).2
           refine lx_q (ePtr v140 ((1 : Int).toNat * 1)) S (want_b rfl rfl hc345) (by decide) (q_indexAddr rfl (tg_sl hT144 (H.isSl 0 rfl)) rfl (idx_some e347).1 hlt Tryz.underlying83 Tryz.sizeOf59) (fun a S => ?_)
           refine lx_e u348 S (want_b rfl rfl hc345) (by decide) rfl trivial (q_load1 rfl Tryz.isAgg59 (by rintro _ rfl; exact (tg_at (H.rdAt 0 rfl) hT349))) (fun a S => ?_)
           refine lx_q (.int .i64 x238) S (want_b rfl rfl hc345) (by decide) (q_move rfl) (fun a S => ?_)
           obtain ⟨x350, e351, hm⟩ := bind_some hm
           obtain ⟨c352, h353, hat354⟩ := ((rd_tg (H.rdAt 0 rfl) hT349 rfl)).elem (idx_some e351).2
           obtain rfl := h353
           have hlt := lt_of_idx (idx_some e351).2
           refine lx_q (ePtr u348 (x238.toNat * 1)) S (want_b rfl rfl hc345) (by decide) (q_indexAddr rfl ((rd_tg (H.rdAt 0 rfl) hT349 rfl)).isSl rfl (idx_some e351).1 hlt Tryz.underlying59 Tryz.sizeOf4) (fun a S => ?_)
           refine lx_e (.bool x350) S (want_b rfl rfl hc345) (by decide) rfl trivial (q_load1 rfl Tryz.isAgg4 (by rintro _ rfl; exact ((hat354 0 _ rfl).ext (Ext.refl _)))) (fun a S => ?_)
           refine lq (.bool x350) S (q_pickF' rfl hc345 rfl) fun a S => ?_
           refine lx_nil ?_
           obtain rfl := Option.some.inj hm
           exact ⟨S.sub ⟨rfl, rfl, rfl, rfl, rfl, rfl, rfl, rfl, trivial⟩, H⟩
         ·rintro a w ⟨S, H⟩
          obtain ⟨x355, e356, hm⟩ := bind_some hm
          have hlt := lt_of_idx (idx_some e356).2
          refine lq (ePtr v178 (x238.toNat * 1)) S (q_indexAddr rfl (H.isSl 1 rfl) rfl (idx_some e356).1 hlt Tryz.underlying59 Tryz.sizeOf4) fun a S => ?_
          have H : Heap w0 [oA (rList rBool) v178 xs237, oA (rList (rTg (rList rBool))) v140 T143] w := H.front 1 rfl
          refine lx_storeElem (r := rBool) (us := [(.bool t343)]) (off := 0) (e' := t343) S trivial rfl H.putE (ev_zero rfl) rfl (idx_some e356).2 rfl Tryz.sizeOf4 (Nat.le_of_ble_eq_true rfl) (List.forall_mem_cons.2 ⟨rfl, (List.forall_mem_nil _)⟩) (Upd.full rfl (fun w G hG => by cases (show G = [] from hG); exact ⟨rfl, rfl⟩)) (fun w357 H => ⟨trivial, fun a S => ?_⟩)
          refine lx_nil ?_
          refine inBlock_norm ?_
          refine inBlock_norm ?_
          have H : Heap w0 [oA (rList (rTg (rList rBool))) v140 T143, oA (rList rBool) v178 (xs237.set x238.toNat t343)] w357 := H.front 1 rfl
          exact ⟨(xs237.set x238.toNat t343), S.sub ⟨rfl, rfl, rfl, rfl, rfl, trivial⟩, H, hm⟩
        ·have hm := ite_f hc333 hm
         refine wp_skip ?_
         refine inBlock_norm ?_
         refine inBlock_norm ?_
         exact ⟨xs237, S.sub ⟨rfl, rfl, rfl, rfl, rfl, trivial⟩, H, hm⟩
     ·have hm := ite_f hc304 hm
      refine wp_exit ?_
      refine then_exit ?_
      refine then_exit ?_
      refine inBlock_exit ?_
      obtain rfl := it_brk hm hc303
      have H : Heap w0 [oA (rList rBool) v178 xs237] w := H.sel [1] (by decide)
      exact ⟨xs237, S.sub ⟨rfl, trivial⟩, H, rfl⟩
  ·skip
   have H : Heap w0 [oA (rList (rTg (rList rBool))) (.slice none 0 0) ([] : List ((List Bool) × Value)), bA b70 [(.int .i64 a1.1), (.int .i64 a1.2.1), v54, v56] 35] w71 := H.nilList (rTg (rList rBool))
   have H : Heap w0 [bA b70 [(.int .i64 a1.1), (.int .i64 a1.2.1), v54, v56] 35, oA (rList (rTg (rList rBool))) (.slice none 0 0) ([] : List ((List Bool) × Value))] w71 := H.front 1 rfl
   refine loop_ghost (fun n a w => ∃ (xs105 : List (List Bool)) (x109 : Int) (v104 : Value) (T107 : List ((List Bool) × Value)), Slots a 100 [(0, p0), (3, (bp b70)), (5, v104), (13, v34), (14, (.int .i64 (a0.2.length : Int))), (15, (.int .i64 x109))] ∧ Heap w0 [bA b70 [(.int .i64 a1.1), (.int .i64 a1.2.1), v54, v56] 35, oA (rList (rTg (rList rBool))) v104 T107] w ∧ xs105 = T107.map (·.1) ∧ iter f147 n (xs105, x109) = some res145) _ ⟨[], (0 : Int), (.slice none 0 0), ([] : List ((List Bool) × Value)), S.sub ⟨rfl, rfl, rfl, rfl, rfl, rfl, trivial⟩, H, rfl, hit146⟩ ?_
   rintro n a w ⟨xs105, x109, v104, T107, S, H, hT108, hit146⟩
   obtain ⟨m359, o360, rfl, hm, hc361⟩ := iter_step hit146
   rw [hf148] at hm
   refine wp_seq (region_plain ?_)
   refine lq (.bool (decide (x109 < (a0.2.length : Int)))) S (q_lss rfl rfl) fun a S => ?_
   refine lx_nil (thenN ?_)
   refine wp_seq ?_
   refine cond_b S rfl (fun hc362 => ?_) (fun hc362 => ?_)
   ·have hm := ite_t hc362 hm
    refine wp_skip (thenN ?_)
    refine wp_seq ?_
    refine wp_block ?_
    refine wp_seq (region_plain ?_)
    obtain ⟨x363, e364, hm⟩ := bind_some hm
    obtain ⟨c365, h366, hat367⟩ := (h35).elem (idx_some e364).2
    obtain ⟨v368, rfl, h369⟩ := rd_bx h366
    have hlt := lt_of_idx (idx_some e364).2
    refine lq (ePtr v34 (x109.toNat * 1)) S (q_indexAddr rfl (h35).isSl rfl (idx_some e364).1 hlt Tryz.underlying91 Tryz.sizeOf66) fun a S => ?_
    refine lx_e v368 S trivial (by decide) rfl trivial (q_load1 rfl Tryz.isAgg66 (by rintro _ rfl; exact ((hat367 0 _ rfl).ext H.ext))) (fun a S => ?_)
    refine lq v368 S (q_assign rfl) fun a S => ?_
    refine lx_nil (thenN ?_)
    refine region_plain ?_
    refine lq v104 S (q_move rfl) fun a S => ?_
    refine lq v368 S (q_move rfl) fun a S => ?_
    refine lx_e (.agg #[(.int .i64 a1.1), (.int .i64 a1.2.1), v54, v56]) S trivial (by decide) rfl trivial (q_loadA (cs := [(.int .i64 a1.1), (.int .i64 a1.2.1), v54, v56]) rfl (isP_bp _) Tryz.isAgg35 Tryz.sizeOf35 (by rintro _ rfl; exact (fun j u hu => boxAt (i := 0) H rfl hu))) (fun a S => ?_)
    obtain ⟨x372, e373, hm⟩ := bind_some hm
    refine lx_call (xs := [.tmp 20, .tmp 21]) S trivial (by decide) rfl rfl Tryz.call35 ((ih (hG.ext H.ext) (H.arg h369) ⟨[(.int .i64 a1.1), (.int .i64 a1.2.1), v54, v56], rfl, ⟨[(.int .i64 a1.1)], [(.int .i64 a1.2.1), v54, v56], rfl, rfl, ⟨[(.int .i64 a1.2.1)], [v54, v56], rfl, rfl, ⟨[v54], [v56], rfl, ((H.arg h55)).list_rd, ((H.arg h57)).list_rd⟩⟩⟩⟩ e373).mono ?_)
    rintro e w370 ⟨v374, rfl, Hc371⟩
    have H := H.call1 Hc371
    refine ⟨_, rfl, trivial, fun a S => ?_⟩
    refine lx_buildSlice (r := (rTg (rList rBool))) (xs := [(x372, v374)]) (ps := [(0, [v374])]) (cs := [v374]) (parts := [(0, .tmp 22)]) S trivial (by decide) rfl H rfl Tryz.underlying83 Tryz.sizeOf59 Tryz.zeroValue59 (by decide) ⟨rfl, (cells_sl (H.isSl 0 rfl)), Nat.le_of_ble_eq_true rfl, trivial⟩ (by intro zs hz; exact fill_dense hz ⟨rfl, trivial⟩ rfl rfl) rfl (by decide) (fun w F hA => ownL_one_mk (r := (rTg (rList rBool))) ⟨oA_list.1 hA, rfl⟩) (fun v377 w378 H => ⟨trivial, fun a S => ?_⟩)
    obtain ⟨x380, e381, hm⟩ := bind_some hm
    obtain ⟨hle, hap⟩ := app_some e381
    replace hap := hap.symm
    subst hap
    have hT384 := tg_app hT108 (tg_one (x := x372) (u := v374))
    have H : Heap w0 [oA (rList (rTg (rList rBool))) v377 ([(x372, v374)] : List ((List Bool) × Value)), bA b70 [(.int .i64 a1.1), (.int .i64 a1.2.1), v54, v56] 35, oA (rList (rTg (rList rBool))) v104 T107] w378 := H.front 0 rfl
    have H : Heap w0 [oA (rList (rTg (rList rBool))) v104 T107, oA (rList (rTg (rList rBool))) v377 ([(x372, v374)] : List ((List Bool) × Value)), bA b70 [(.int .i64 a1.1), (.int .i64 a1.2.1), v54, v56] 35] w378 := H.front 2 rfl
    refine lx_appendOwn (r := (rTg (rList rBool))) S trivial (by decide) rfl H rfl rfl Tryz.underlying83 Tryz.ti59 rfl rfl rfl (Nat.le_of_ble_eq_true rfl) (by decide) (tg_le hT108 (tg_one (x := x372) (u := v374)) hle) (fun v382 w383 H => ⟨trivial, fun a S => ?_⟩)
    refine lq v382 S (q_assign rfl) fun a S => ?_
    refine lx_nil ?_
    refine inBlock_norm ?_
    refine thenN ?_
    refine region_plain ?_
    refine lq (.int .i64 (W (x109 + (1 : Int)))) S (q_add rfl rfl) fun a S => ?_
    refine lq (.int .i64 (W (x109 + (1 : Int)))) S (q_move rfl) fun a S => ?_
    refine lx_nil ?_
    have H : Heap w0 [bA b70 [(.int .i64 a1.1), (.int .i64 a1.2.1), v54, v56] 35, oA (rList (rTg (rList rBool))) v382 (T107 ++ ([(x372, v374)] : List ((List Bool) × Value)))] w383 := H.front 1 rfl
    exact ⟨m359, Nat.lt_succ_self _, (xs105 ++ [x372]), (W (x109 + (1 : Int))), v382, (T107 ++ ([(x372, v374)] : List ((List Bool) × Value))), S.sub ⟨rfl, rfl, rfl, rfl, rfl, rfl, trivial⟩, H, hT384, it_cont hm hc361⟩
   ·have hm := ite_f hc362 hm
    refine wp_exit ?_
    refine then_exit ?_
    refine then_exit ?_
    refine inBlock_exit ?_
    obtain rfl := it_brk hm hc361
    exact ⟨xs105, v104, T107, S.sub ⟨rfl, rfl, rfl, trivial⟩, H, hT108, rfl⟩

/-- laws.eqNode -/
def laws_eqNode_m (_ : Nat) (a0 : Timpl_Node) (a1 : Timpl_Node) : Option (Bool) :=
  (if (a0.1 != a1.1) = true then some (false) else (if (a0.2.1 != a1.2.1) = true then some (false) else (if (a0.2.2.1 != a1.2.2.1) = true then some (false) else (if (a0.2.2.2 != a1.2.2.2) = true then some (false) else some (true)))))
set_option maxRecDepth 20000 in
theorem laws_eqNode_ok [dr : Dr] {w0 : World} {fuel : Nat} {p0 p1 : Value} {a0 : Timpl_Node} {a1 : Timpl_Node} {r : Bool} (h0 : Rd Rimpl_Node w0 p0 a0) (h1 : Rd Rimpl_Node w0 p1 a1) (hm : laws_eqNode_m fuel a0 a1 = some r) :
  Calls Tryz.prog 36 #[p0, p1] w0 fun e w => e = .returned (.bool r) ∧ Heap w0 [] w := by
 unfold laws_eqNode_m at hm
 have H := Heap.start w0
 obtain ⟨c31, rfl, h32⟩ := h0
 obtain ⟨c33, c34, rfl, h35, h36⟩ := h32
 obtain rfl := h35
 obtain ⟨c37, c38, rfl, h39, h40⟩ := h36
 obtain rfl := h39
 obtain ⟨c41, c42, rfl, h43, h44⟩ := h40
 obtain rfl := h43
 obtain rfl := h44
 obtain ⟨c45, rfl, h46⟩ := h1
 obtain ⟨c47, c48, rfl, h49, h50⟩ := h46
 obtain rfl := h49
 obtain ⟨c51, c52, rfl, h53, h54⟩ := h50
 obtain rfl := h53
 obtain ⟨c55, c56, rfl, h57, h58⟩ := h54
 obtain rfl := h57
 obtain rfl := h58
 refine enter (args := [(.agg #[(.int .i64 a0.1), (.int .i64 a0.2.1), (sv a0.2.2.1), (.bool a0.2.2.2)]), (.agg #[(.int .i64 a1.1), (.int .i64 a1.2.1), (sv a1.2.2.1), (.bool a1.2.2.2)])]) Tryz.func36 rfl 25 rfl (Nat.le_of_ble_eq_true rfl) (fun a S => ?_)
 refine wp_seq (region_plain ?_)
 refine lx_box S trivial (by decide) rfl H rfl rfl (fun b59 w60 H => ⟨trivial, fun a S => ?_⟩)
 refine lx_box S trivial (by decide) rfl H rfl rfl (fun b62 w63 H => ⟨trivial, fun a S => ?_⟩)
 refine lq (.bool false) S (q_assign rfl) fun a S => ?_
 refine lx_nil (thenN ?_)
 refine wp_seq (wp_seq (region_plain ?_))
 refine lq (pAdd (bp b59) 0) S (q_fieldAddr' 0 2 rfl (isP_bp _) Tryz.underlying61 rfl Tryz.sizeOf2) fun a S => ?_
 refine lx_e (.int .i64 a0.1) S trivial (by decide) rfl trivial (q_load1 rfl Tryz.isAgg2 (by rintro _ rfl; exact (At.of_add (m := 0) (j := 0) (boxAt (i := 1) H rfl (j := 0) rfl)))) (fun a S => ?_)
 refine lq (pAdd (bp b62) 0) S (q_fieldAddr' 0 2 rfl (isP_bp _) Tryz.underlying61 rfl Tryz.sizeOf2) fun a S => ?_
 refine lx_e (.int .i64 a1.1) S trivial (by decide) rfl trivial (q_load1 rfl Tryz.isAgg2 (by rintro _ rfl; exact (At.of_add (m := 0) (j := 0) (boxAt (i := 0) H rfl (j := 0) rfl)))) (fun a S => ?_)
 refine lq (.bool (a0.1 != a1.1)) S (q_neq rfl rfl) fun a S => ?_
 refine lx_nil (thenN ?_)
 refine cond_b S rfl (fun hc65 => ?_) (fun hc65 => ?_)
 ·have hm := ite_t hc65 hm
  refine wp_seq (region_plain ?_)
  refine lq (.bool false) S (q_assign rfl) fun a S => ?_
  refine lx_nil (thenN ?_)
  refine wp_ret (then_ret ?_)
  obtain rfl := Option.some.inj hm
  have H : Heap w0 [] w63 := H.sel [] (by decide)
  exact leave1 S rfl rfl ⟨rfl, H⟩
 ·have hm := ite_f hc65 hm
  refine wp_skip (thenN ?_)
  refine wp_seq (wp_seq (region_plain ?_))
  refine lq (pAdd (bp b59) 1) S (q_fieldAddr' 1 2 rfl (isP_bp _) Tryz.underlying61 rfl Tryz.sizeOf2) fun a S => ?_
  refine lx_e (.int .i64 a0.2.1) S trivial (by decide) rfl trivial (q_load1 rfl Tryz.isAgg2 (by rintro _ rfl; exact (At.of_add (m := 1) (j := 0) (boxAt (i := 1) H rfl (j := 1) rfl)))) (fun a S => ?_)
  refine lq (pAdd (bp b62) 1) S (q_fieldAddr' 1 2 rfl (isP_bp _) Tryz.underlying61 rfl Tryz.sizeOf2) fun a S => ?_
  refine lx_e (.int .i64 a1.2.1) S trivial (by decide) rfl trivial (q_load1 rfl Tryz.isAgg2 (by rintro _ rfl; exact (At.of_add (m := 1) (j := 0) (boxAt (i := 0) H rfl (j := 1) rfl)))) (fun a S => ?_)
  refine lq (.bool (a0.2.1 != a1.2.1)) S (q_neq rfl rfl) fun a S => ?_
  refine lx_nil (thenN ?_)
  refine cond_b S rfl (fun hc66 => ?_) (fun hc66 => ?_)
  ·have hm := ite_t hc66 hm
   refine wp_seq (region_plain ?_)
   refine lq (.bool false) S (q_assign rfl) fun a S => ?_
   refine lx_nil (thenN ?_)
   refine wp_ret (then_ret ?_)
   obtain rfl := Option.some.inj hm
   have H : Heap w0 [] w63 := H.sel [] (by decide)
   exact leave1 S rfl rfl ⟨rfl, H⟩
  ·have hm := ite_f hc66 hm
   refine wp_skip (thenN ?_)
   refine wp_seq (wp_seq (region_plain ?_))
   refine lq (pAdd (bp b59) 2) S (q_fieldAddr' 2 9 rfl (isP_bp _) Tryz.underlying61 rfl Tryz.sizeOf9) fun a S => ?_
   refine lx_e (sv a0.2.2.1) S trivial (by decide) rfl trivial (q_load1 rfl Tryz.isAgg9 (by rintro _ rfl; exact (At.of_add (m := 2) (j := 0) (boxAt (i := 1) H rfl (j := 2) rfl)))) (fun a S => ?_)
   refine lq (pAdd (bp b62) 2) S (q_fieldAddr' 2 9 rfl (isP_bp _) Tryz.underlying61 rfl Tryz.sizeOf9) fun a S => ?_
   refine lx_e (sv a1.2.2.1) S trivial (by decide) rfl trivial (q_load1 rfl Tryz.isAgg9 (by rintro _ rfl; exact (At.of_add (m := 2) (j := 0) (boxAt (i := 0) H rfl (j := 2) rfl)))) (fun a S => ?_)
   refine lq (.bool (a0.2.2.1 != a1.2.2.1)) S (q_sneq rfl rfl) fun a S => ?_
   refine lx_nil (thenN ?_)
   refine cond_b S rfl (fun hc67 => ?_) (fun hc67 => ?_)
   ·have hm := ite_t hc67 hm
    refine wp_seq (region_plain ?_)
    refine lq (.bool false) S (q_assign rfl) fun a S => ?_
    refine lx_nil (thenN ?_)
    refine wp_ret (then_ret ?_)
    obtain rfl := Option.some.inj hm
    have H : Heap w0 [] w63 := H.sel [] (by decide)
    exact leave1 S rfl rfl ⟨rfl, H⟩
   ·have hm := ite_f hc67 hm
    refine wp_skip (thenN ?_)
    refine wp_seq (wp_seq (region_plain ?_))
    refine lq (pAdd (bp b59) 3) S (q_fieldAddr' 3 4 rfl (isP_bp _) Tryz.underlying61 rfl Tryz.sizeOf4) fun a S => ?_
    refine lx_e (.bool a0.2.2.2) S trivial (by decide) rfl trivial (q_load1 rfl Tryz.isAgg4 (by rintro _ rfl; exact (At.of_add (m := 3) (j := 0) (boxAt (i := 1) H rfl (j := 3) rfl)))) (fun a S => ?_)
    refine lq (pAdd (bp b62) 3) S (q_fieldAddr' 3 4 rfl (isP_bp _) Tryz.underlying61 rfl Tryz.sizeOf4) fun a S => ?_
    refine lx_e (.bool a1.2.2.2) S trivial (by decide) rfl trivial (q_load1 rfl Tryz.isAgg4 (by rintro _ rfl; exact (At.of_add (m := 3) (j := 0) (boxAt (i := 0) H rfl (j := 3) rfl)))) (fun a S => ?_)
    refine lq (.bool (a0.2.2.2 != a1.2.2.2)) S (q_bneq rfl rfl Tryz.underlying4) fun a S => ?_
    refine lx_nil (thenN ?_)
    refine cond_b S rfl (fun hc68 => ?_) (fun hc68 => ?_)
    ·have hm := ite_t hc68 hm
     refine wp_seq (region_plain ?_)
     refine lq (.bool false) S (q_assign rfl) fun a S => ?_
     refine lx_nil (thenN ?_)
     refine wp_ret (then_ret ?_)
     obtain rfl := Option.some.inj hm
     have H : Heap w0 [] w63 := H.sel [] (by decide)
     exact leave1 S rfl rfl ⟨rfl, H⟩
    ·have hm := ite_f hc68 hm
     refine wp_skip (thenN ?_)
     refine wp_seq (region_plain ?_)
     refine lq (.bool true) S (q_assign rfl) fun a S => ?_
     refine lx_nil (thenN ?_)
     refine wp_ret ?_
     obtain rfl := Option.some.inj hm
     have H : Heap w0 [] w63 := H.sel [] (by decide)
     exact leave1 S rfl rfl ⟨rfl, H⟩

/-- laws.eqNodeS -/
def laws_eqNodeS_m (fuel : Nat) (a0 : (List Timpl_Node)) (a1 : (List Timpl_Node)) : Option (Bool) :=
  (if ((a0.length : Int) != (a1.length : Int)) = true then some (false) else (iter (fun (s : (Int)) => (match s with | (x76) => (if (decide (x76 < (a0.length : Int))) = true then (idx a0 x76).bind fun x132 => (idx a1 x76).bind fun x149 => (laws_eqNode_m fuel (x132.1, x132.2.1, x132.2.2.1, x132.2.2.2) (x149.1, x149.2.1, x149.2.2.1, x149.2.2.2)).bind fun x168 => (if (!x168) = true then some (.inr (.inr false)) else some (.inl ((W (x76 + (1 : Int)))))) else some (.inr (.inl ()))) : Option (((Int)) ⊕ ((Unit) ⊕ (Bool))))) fuel ((0 : Int))).bind fun res121 => ctl (β := Unit) (ρ := Bool) (τ := Bool) res121 (fun _ => some (true)) (fun q => some (q)))
set_option maxRecDepth 20000 in
theorem laws_eqNodeS_ok [dr : Dr] {w0 : World} {fuel : Nat} {p0 p1 : Value} {a0 : (List Timpl_Node)} {a1 : (List Timpl_Node)} {r : Bool} (h0 : Rd (rList Rimpl_Node) w0 p0 a0) (h1 : Rd (rList Rimpl_Node) w0 p1 a1) (hm : laws_eqNodeS_m fuel a0 a1 = some r) :
  Calls Tryz.prog 12 #[p0, p1] w0 fun e w => e = .returned (.bool r) ∧ Heap w0 [] w := by
 unfold laws_eqNodeS_m at hm
 have H := Heap.start w0
 refine enter (args := [p0, p1]) Tryz.func12 rfl 27 rfl (Nat.le_of_ble_eq_true rfl) (fun a S => ?_)
 refine wp_seq (region_plain ?_)
 refine lq (.bool false) S (q_assign rfl) fun a S => ?_
 refine lx_nil (thenN ?_)
 refine wp_seq (wp_seq (region_plain ?_))
 refine lq p0 S (q_move rfl) fun a S => ?_
 refine lq (.int .i64 (a0.length : Int)) S (q_lenSl rfl (h0).isSl rfl Tryz.underlying31) fun a S => ?_
 refine lq p1 S (q_move rfl) fun a S => ?_
 refine lq (.int .i64 (a1.length : Int)) S (q_lenSl rfl (h1).isSl rfl Tryz.underlying31) fun a S => ?_
 refine lq (.bool ((a0.length : Int) != (a1.length : Int))) S (q_neq rfl rfl) fun a S => ?_
 refine lx_nil (thenN ?_)
 refine cond_b S rfl (fun hc31 => ?_) (fun hc31 => ?_)
 ·have hm := ite_t hc31 hm
  refine wp_seq (region_plain ?_)
  refine lq (.bool false) S (q_assign rfl) fun a S => ?_
  refine lx_nil (thenN ?_)
  refine wp_ret (then_ret ?_)
  obtain rfl := Option.some.inj hm
  exact leave1 S rfl rfl ⟨rfl, H⟩
 ·have hm := ite_f hc31 hm
  refine wp_skip (thenN ?_)
  refine wp_seq (wp_seq (region_plain ?_))
  refine lq (.int .i64 (0 : Int)) S (q_assign rfl) fun a S => ?_
  refine lx_nil (thenN ?_)
  obtain ⟨res121, hit122, hk125⟩ := bind_some hm
  obtain ⟨f123, hf124, hit122⟩ := iter_name hit122
  refine block_loop (fun a w => Slots a 27 [] ∧ Heap w0 [] w ∧ res121 = .inl ()) ?_ ?_
  ·rintro a w ⟨S, H, rfl⟩
   have hm := ctl_inl hk125
   refine thenN ?_
   refine wp_seq (region_plain ?_)
   refine lq (.bool true) S (q_assign rfl) fun a S => ?_
   refine lx_nil (thenN ?_)
   refine wp_ret ?_
   obtain rfl := Option.some.inj hm
   exact leave1 S rfl rfl ⟨rfl, H⟩
  ·skip
   refine loop_ghost (fun n a w => ∃ (x76 : Int), Slots a 27 [(0, p0), (1, p1), (5, (.int .i64 x76))] ∧ Heap w0 [] w ∧ iter f123 n (x76) = some res121) _ ⟨(0 : Int), S.sub ⟨rfl, rfl, rfl, trivial⟩, H, hit122⟩ ?_
   rintro n a w ⟨x76, S, H, hit122⟩
   obtain ⟨m126, o127, rfl, hm, hc128⟩ := iter_step hit122
   rw [hf124] at hm
   refine wp_seq (wp_seq (region_plain ?_))
   refine lq (.int .i64 x76) S (q_move rfl) fun a S => ?_
   refine lq p0 S (q_move rfl) fun a S => ?_
   refine lq (.int .i64 (a0.length : Int)) S (q_lenSl rfl (h0).isSl rfl Tryz.underlying31) fun a S => ?_
   refine lq (.bool (decide (x76 < (a0.length : Int)))) S (q_lss rfl rfl) fun a S => ?_
   refine lx_nil (thenN ?_)
   refine cond_b S rfl (fun hc129 => ?_) (fun hc129 => ?_)
   ·have hm := ite_t hc129 hm
    refine wp_skip (thenN ?_)
    refine wp_seq ?_
    refine wp_block ?_
    refine wp_seq ?_
    refine region_drawG (fun w1 => Heap w0 [] w1) (fun i => [8].contains i) mixed (by kernel_rfl) (fun w131 he130 => ?_)
    have H := H.later he130
    refine ⟨H.sel [] (by decide), ?_⟩
    refine lq p0 S (q_move rfl) fun a S => ?_
    refine lq (.int .i64 x76) S (q_move rfl) fun a S => ?_
    obtain ⟨x132, e133, hm⟩ := bind_some hm
    obtain ⟨c134, h135, hat136⟩ := (h0).elem (idx_some e133).2
    obtain ⟨c137, c138, rfl, h139, h140⟩ := h135
    obtain rfl := h139
    obtain ⟨c141, c142, rfl, h143, h144⟩ := h140
    obtain rfl := h143
    obtain ⟨c145, c146, rfl, h147, h148⟩ := h144
    obtain rfl := h147
    obtain rfl := h148
    have hlt := lt_of_idx (idx_some e133).2
    refine lq (ePtr p0 (x76.toNat * 4)) S (q_indexAddr rfl (h0).isSl rfl (idx_some e133).1 hlt Tryz.underlying31 Tryz.sizeOf61) fun a S => ?_
    refine lq (.agg #[(.int .i64 x132.1), (.int .i64 x132.2.1), (sv x132.2.2.1), (.bool x132.2.2.2)]) S (q_loadA (cs := [(.int .i64 x132.1), (.int .i64 x132.2.1), (sv x132.2.2.1), (.bool x132.2.2.2)]) rfl ((hat136 0 _ rfl).isP) Tryz.isAgg61 Tryz.sizeOf61 (fun w1 hC => (fun j u hu => (hat136 j u hu).ext hC.ext))) fun a S => ?_
    refine lq p1 S (q_move rfl) fun a S => ?_
    refine lq (.int .i64 x76) S (q_move rfl) fun a S => ?_
    obtain ⟨x149, e150, hm⟩ := bind_some hm
    obtain ⟨c151, h152, hat153⟩ := (h1).elem (idx_some e150).2
    obtain ⟨c154, c155, rfl, h156, h157⟩ := h152
    obtain rfl := h156
    obtain ⟨c158, c159, rfl, h160, h161⟩ := h157
    obtain rfl := h160
    obtain ⟨c162, c163, rfl, h164, h165⟩ := h161
    obtain rfl := h164
    obtain rfl := h165
    have hlt := lt_of_idx (idx_some e150).2
    refine lq (ePtr p1 (x76.toNat * 4)) S (q_indexAddr rfl (h1).isSl rfl (idx_some e150).1 hlt Tryz.underlying31 Tryz.sizeOf61) fun a S => ?_
    refine lq (.agg #[(.int .i64 x149.1), (.int .i64 x149.2.1), (sv x149.2.2.1), (.bool x149.2.2.2)]) S (q_loadA (cs := [(.int .i64 x149.1), (.int .i64 x149.2.1), (sv x149.2.2.1), (.bool x149.2.2.2)]) rfl ((hat153 0 _ rfl).isP) Tryz.isAgg61 Tryz.sizeOf61 (fun w1 hC => (fun j u hu => (hat153 j u hu).ext hC.ext))) fun a S => ?_
    obtain ⟨x168, e169, hm⟩ := bind_some hm
    refine lx_call (xs := [.tmp 20, .tmp 24]) S trivial (by decide) rfl rfl Tryz.call36 ((laws_eqNode_ok ⟨[(.int .i64 x132.1), (.int .i64 x132.2.1), (sv x132.2.2.1), (.bool x132.2.2.2)], rfl, ⟨[(.int .i64 x132.1)], [(.int .i64 x132.2.1), (sv x132.2.2.1), (.bool x132.2.2.2)], rfl, rfl, ⟨[(.int .i64 x132.2.1)], [(sv x132.2.2.1), (.bool x132.2.2.2)], rfl, rfl, ⟨[(sv x132.2.2.1)], [(.bool x132.2.2.2)], rfl, rfl, rfl⟩⟩⟩⟩ ⟨[(.int .i64 x149.1), (.int .i64 x149.2.1), (sv x149.2.2.1), (.bool x149.2.2.2)], rfl, ⟨[(.int .i64 x149.1)], [(.int .i64 x149.2.1), (sv x149.2.2.1), (.bool x149.2.2.2)], rfl, rfl, ⟨[(.int .i64 x149.2.1)], [(sv x149.2.2.1), (.bool x149.2.2.2)], rfl, rfl, ⟨[(sv x149.2.2.1)], [(.bool x149.2.2.2)], rfl, rfl, rfl⟩⟩⟩⟩ e169).mono ?_)
    rintro e w166 ⟨rfl, Hc167⟩
    have H := H.call0 Hc167
    refine ⟨_, rfl, H.sel [] (by decide), fun a S => ?_⟩
    refine lq (.bool (!x168)) S (q_not rfl) fun a S => ?_
    refine lx_nil (thenN ?_)
    refine cond_b S rfl (fun hc171 => ?_) (fun hc171 => ?_)
    ·have hm := ite_t hc171 hm
     refine wp_seq (region_plain ?_)
     refine lq (.bool false) S (q_assign rfl) fun a S => ?_
     refine lx_nil (thenN ?_)
     refine wp_ret (inBlock_ret ?_)
     refine then_ret ?_
     refine then_ret ?_
     refine inBlock_ret ?_
     refine then_ret ?_
     refine then_ret ?_
     obtain rfl := it_brk hm hc128
     have hm := ctl_inr hk125
     obtain rfl := Option.some.inj hm
     exact leave1 S rfl rfl ⟨rfl, H⟩
    ·have hm := ite_f hc171 hm
     refine wp_skip ?_
     refine inBlock_norm ?_
     refine thenN ?_
     refine region_plain ?_
     refine lq (.int .i64 x76) S (q_move rfl) fun a S => ?_
     refine lq (.int .i64 (W (x76 + (1 : Int)))) S (q_add rfl rfl) fun a S => ?_
     refine lq (.int .i64 (W (x76 + (1 : Int)))) S (q_assign rfl) fun a S => ?_
     refine lx_nil ?_
     exact ⟨m126, Nat.lt_succ_self _, (W (x76 + (1 : Int))), S.sub ⟨rfl, rfl, rfl, trivial⟩, H, it_cont hm hc128⟩
   ·have hm := ite_f hc129 hm
    refine wp_exit ?_
    refine then_exit ?_
    refine then_exit ?_
    refine inBlock_exit ?_
    obtain rfl := it_brk hm hc128
    exact ⟨S.sub trivial, H, rfl⟩

/-- laws.eqStringS -/
def laws_eqStringS_m (fuel : Nat) (a0 : (List Str)) (a1 : (List Str)) : Option (Bool) :=
  (if ((a0.length : Int) != (a1.length : Int)) = true then some (false) else (iter (fun (s : (Int)) => (match s with | (x47) => (if (decide (x47 < (a0.length : Int))) = true then (idx a0 x47).bind fun x74 => (idx a1 x47).bind fun x79 => (if (x74 != x79) = true then some (.inr (.inr false)) else some (.inl ((W (x47 + (1 : Int)))))) else some (.inr (.inl ()))) : Option (((Int)) ⊕ ((Unit) ⊕ (Bool))))) fuel ((0 : Int))).bind fun res63 => ctl (β := Unit) (ρ := Bool) (τ := Bool) res63 (fun _ => some (true)) (fun q => some (q)))
set_option maxRecDepth 20000 in
theorem laws_eqStringS_ok [dr : Dr] {w0 : World} {fuel : Nat} {p0 p1 : Value} {a0 : (List Str)} {a1 : (List Str)} {r : Bool} (h0 : Rd (rList rStr) w0 p0 a0) (h1 : Rd (rList rStr) w0 p1 a1) (hm : laws_eqStringS_m fuel a0 a1 = some r) :
  Calls Tryz.prog 37 #[p0, p1] w0 fun e w => e = .returned (.bool r) ∧ Heap w0 [] w := by
 unfold laws_eqStringS_m at hm
 have H := Heap.start w0
 refine enter (args := [p0, p1]) Tryz.func37 rfl 26 rfl (Nat.le_of_ble_eq_true rfl) (fun a S => ?_)
 refine wp_seq (region_plain ?_)
 refine lq (.bool false) S (q_assign rfl) fun a S => ?_
 refine lx_nil (thenN ?_)
 refine wp_seq (wp_seq (region_plain ?_))
 refine lq p0 S (q_move rfl) fun a S => ?_
 refine lq (.int .i64 (a0.length : Int)) S (q_lenSl rfl (h0).isSl rfl Tryz.underlying23) fun a S => ?_
 refine lq p1 S (q_move rfl) fun a S => ?_
 refine lq (.int .i64 (a1.length : Int)) S (q_lenSl rfl (h1).isSl rfl Tryz.underlying23) fun a S => ?_
 refine lq (.bool ((a0.length : Int) != (a1.length : Int))) S (q_neq rfl rfl) fun a S => ?_
 refine lx_nil (thenN ?_)
 refine cond_b S rfl (fun hc31 => ?_) (fun hc31 => ?_)
 ·have hm := ite_t hc31 hm
  refine wp_seq (region_plain ?_)
  refine lq (.bool false) S (q_assign rfl) fun a S => ?_
  refine lx_nil (thenN ?_)
  refine wp_ret (then_ret ?_)
  obtain rfl := Option.some.inj hm
  exact leave1 S rfl rfl ⟨rfl, H⟩
 ·have hm := ite_f hc31 hm
  refine wp_skip (thenN ?_)
  refine wp_seq (wp_seq (region_plain ?_))
  refine lq (.int .i64 (0 : Int)) S (q_assign rfl) fun a S => ?_
  refine lx_nil (thenN ?_)
  obtain ⟨res63, hit64, hk67⟩ := bind_some hm
  obtain ⟨f65, hf66, hit64⟩ := iter_name hit64
  refine block_loop (fun a w => Slots a 26 [] ∧ Heap w0 [] w ∧ res63 = .inl ()) ?_ ?_
  ·rintro a w ⟨S, H, rfl⟩
   have hm := ctl_inl hk67
   refine thenN ?_
   refine wp_seq (region_plain ?_)
   refine lq (.bool true) S (q_assign rfl) fun a S => ?_
   refine lx_nil (thenN ?_)
   refine wp_ret ?_
   obtain rfl := Option.some.inj hm
   exact leave1 S rfl rfl ⟨rfl, H⟩
  ·skip
   refine loop_ghost (fun n a w => ∃ (x47 : Int), Slots a 26 [(0, p0), (1, p1), (5, (.int .i64 x47))] ∧ Heap w0 [] w ∧ iter f65 n (x47) = some res63) _ ⟨(0 : Int), S.sub ⟨rfl, rfl, rfl, trivial⟩, H, hit64⟩ ?_
   rintro n a w ⟨x47, S, H, hit64⟩
   obtain ⟨m68, o69, rfl, hm, hc70⟩ := iter_step hit64
   rw [hf66] at hm
   refine wp_seq (wp_seq (region_plain ?_))
   refine lq (.int .i64 x47) S (q_move rfl) fun a S => ?_
   refine lq p0 S (q_move rfl) fun a S => ?_
   refine lq (.int .i64 (a0.length : Int)) S (q_lenSl rfl (h0).isSl rfl Tryz.underlying23) fun a S => ?_
   refine lq (.bool (decide (x47 < (a0.length : Int)))) S (q_lss rfl rfl) fun a S => ?_
   refine lx_nil (thenN ?_)
   refine cond_b S rfl (fun hc71 => ?_) (fun hc71 => ?_)
   ·have hm := ite_t hc71 hm
    refine wp_skip (thenN ?_)
    refine wp_seq ?_
    refine wp_block ?_
    refine wp_seq ?_
    refine region_drawG (fun w1 => Heap w0 [] w1) (fun i => [].contains i) mixed (by kernel_rfl) (fun w73 he72 => ?_)
    have H := H.later he72
    refine ⟨H.sel [] (by decide), ?_⟩
    refine lq p0 S (q_move rfl) fun a S => ?_
    refine lq (.int .i64 x47) S (q_move rfl) fun a S => ?_
    obtain ⟨x74, e75, hm⟩ := bind_some hm
    obtain ⟨c76, h77, hat78⟩ := (h0).elem (idx_some e75).2
    obtain rfl := h77
    have hlt := lt_of_idx (idx_some e75).2
    refine lq (ePtr p0 (x47.toNat * 1)) S (q_indexAddr rfl (h0).isSl rfl (idx_some e75).1 hlt Tryz.underlying23 Tryz.sizeOf9) fun a S => ?_
    refine lq (sv x74) S (q_load1 rfl Tryz.isAgg9 (fun w1 hC => ((hat78 0 _ rfl).ext hC.ext))) fun a S => ?_
    refine lq p1 S (q_move rfl) fun a S => ?_
    refine lq (.int .i64 x47) S (q_move rfl) fun a S => ?_
    obtain ⟨x79, e80, hm⟩ := bind_some hm
    obtain ⟨c81, h82, hat83⟩ := (h1).elem (idx_some e80).2
    obtain rfl := h82
    have hlt := lt_of_idx (idx_some e80).2
    refine lq (ePtr p1 (x47.toNat * 1)) S (q_indexAddr rfl (h1).isSl rfl (idx_some e80).1 hlt Tryz.underlying23 Tryz.sizeOf9) fun a S => ?_
    refine lq (sv x79) S (q_load1 rfl Tryz.isAgg9 (fun w1 hC => ((hat83 0 _ rfl).ext hC.ext))) fun a S => ?_
    refine lq (.bool (x74 != x79)) S (q_sneq rfl rfl) fun a S => ?_
    refine lx_nil (thenN ?_)
    refine cond_b S rfl (fun hc84 => ?_) (fun hc84 => ?_)
    ·have hm := ite_t hc84 hm
     refine wp_seq (region_plain ?_)
     refine lq (.bool false) S (q_assign rfl) fun a S => ?_
     refine lx_nil (thenN ?_)
     refine wp_ret (inBlock_ret ?_)
     refine then_ret ?_
     refine then_ret ?_
     refine inBlock_ret ?_
     refine then_ret ?_
     refine then_ret ?_
     obtain rfl := it_brk hm hc70
     have hm := ctl_inr hk67
     obtain rfl := Option.some.inj hm
     exact leave1 S rfl rfl ⟨rfl, H⟩
    ·have hm := ite_f hc84 hm
     refine wp_skip ?_
     refine inBlock_norm ?_
     refine thenN ?_
     refine region_plain ?_
     refine lq (.int .i64 x47) S (q_move rfl) fun a S => ?_
     refine lq (.int .i64 (W (x47 + (1 : Int)))) S (q_add rfl rfl) fun a S => ?_
     refine lq (.int .i64 (W (x47 + (1 : Int)))) S (q_assign rfl) fun a S => ?_
     refine lx_nil ?_
     exact ⟨m68, Nat.lt_succ_self _, (W (x47 + (1 : Int))), S.sub ⟨rfl, rfl, rfl, trivial⟩, H, it_cont hm hc70⟩
   ·have hm := ite_f hc71 hm
    refine wp_exit ?_
    refine then_exit ?_
    refine then_exit ?_
    refine inBlock_exit ?_
    obtain rfl := it_brk hm hc70
    exact ⟨S.sub trivial, H, rfl⟩

/-- laws.eqEdge -/
def laws_eqEdge_m (_ : Nat) (a0 : Timpl_Edge) (a1 : Timpl_Edge) : Option (Bool) :=
  (if (a0.1 != a1.1) = true then some (false) else (if (a0.2.1 != a1.2.1) = true then some (false) else (if (a0.2.2 != a1.2.2) = true then some (false) else some (true))))
set_option maxRecDepth 20000 in
theorem laws_eqEdge_ok [dr : Dr] {w0 : World} {fuel : Nat} {p0 p1 : Value} {a0 : Timpl_Edge} {a1 : Timpl_Edge} {r : Bool} (h0 : Rd Rimpl_Edge w0 p0 a0) (h1 : Rd Rimpl_Edge w0 p1 a1) (hm : laws_eqEdge_m fuel a0 a1 = some r) :
  Calls Tryz.prog 57 #[p0, p1] w0 fun e w => e = .returned (.bool r) ∧ Heap w0 [] w := by
 unfold laws_eqEdge_m at hm
 have H := Heap.start w0
 obtain ⟨c31, rfl, h32⟩ := h0
 obtain ⟨c33, c34, rfl, h35, h36⟩ := h32
 obtain rfl := h35
 obtain ⟨c37, c38, rfl, h39, h40⟩ := h36
 obtain rfl := h39
 obtain rfl := h40
 obtain ⟨c41, rfl, h42⟩ := h1
 obtain ⟨c43, c44, rfl, h45, h46⟩ := h42
 obtain rfl := h45
 obtain ⟨c47, c48, rfl, h49, h50⟩ := h46
 obtain rfl := h49
 obtain rfl := h50
 refine enter (args := [(.agg #[(.int .i64 a0.1), (.int .i64 a0.2.1), (.int .i64 a0.2.2)]), (.agg #[(.int .i64 a1.1), (.int .i64 a1.2.1), (.int .i64 a1.2.2)])]) Tryz.func57 rfl 20 rfl (Nat.le_of_ble_eq_true rfl) (fun a S => ?_)
 refine wp_seq (region_plain ?_)
 refine lx_box S trivial (by decide) rfl H rfl rfl (fun b51 w52 H => ⟨trivial, fun a S => ?_⟩)
 refine lx_box S trivial (by decide) rfl H rfl rfl (fun b54 w55 H => ⟨trivial, fun a S => ?_⟩)
 refine lq (.bool false) S (q_assign rfl) fun a S => ?_
 refine lx_nil (thenN ?_)
 refine wp_seq (wp_seq (region_plain ?_))
 refine lq (pAdd (bp b51) 0) S (q_fieldAddr' 0 2 rfl (isP_bp _) Tryz.underlying80 rfl Tryz.sizeOf2) fun a S => ?_
 refine lx_e (.int .i64 a0.1) S trivial (by decide) rfl trivial (q_load1 rfl Tryz.isAgg2 (by rintro _ rfl; exact (At.of_add (m := 0) (j := 0) (boxAt (i := 1) H rfl (j := 0) rfl)))) (fun a S => ?_)
 refine lq (pAdd (bp b54) 0) S (q_fieldAddr' 0 2 rfl (isP_bp _) Tryz.underlying80 rfl Tryz.sizeOf2) fun a S => ?_
 refine lx_e (.int .i64 a1.1) S trivial (by decide) rfl trivial (q_load1 rfl Tryz.isAgg2 (by rintro _ rfl; exact (At.of_add (m := 0) (j := 0) (boxAt (i := 0) H rfl (j := 0) rfl)))) (fun a S => ?_)
 refine lq (.bool (a0.1 != a1.1)) S (q_neq rfl rfl) fun a S => ?_
 refine lx_nil (thenN ?_)
 refine cond_b S rfl (fun hc57 => ?_) (fun hc57 => ?_)
 ·have hm := ite_t hc57 hm
  refine wp_seq (region_plain ?_)
  refine lq (.bool false) S (q_assign rfl) fun a S => ?_
  refine lx_nil (thenN ?_)
  refine wp_ret (then_ret ?_)
  obtain rfl := Option.some.inj hm
  have H : Heap w0 [] w55 := H.sel [] (by decide)
  exact leave1 S rfl rfl ⟨rfl, H⟩
 ·have hm := ite_f hc57 hm
  refine wp_skip (thenN ?_)
  refine wp_seq (wp_seq (region_plain ?_))
  refine lq (pAdd (bp b51) 1) S (q_fieldAddr' 1 2 rfl (isP_bp _) Tryz.underlying80 rfl Tryz.sizeOf2) fun a S => ?_
  refine lx_e (.int .i64 a0.2.1) S trivial (by decide) rfl trivial (q_load1 rfl Tryz.isAgg2 (by rintro _ rfl; exact (At.of_add (m := 1) (j := 0) (boxAt (i := 1) H rfl (j := 1) rfl)))) (fun a S => ?_)
  refine lq (pAdd (bp b54) 1) S (q_fieldAddr' 1 2 rfl (isP_bp _) Tryz.underlying80 rfl Tryz.sizeOf2) fun a S => ?_
  refine lx_e (.int .i64 a1.2.1) S trivial (by decide) rfl trivial (q_load1 rfl Tryz.isAgg2 (by rintro _ rfl; exact (At.of_add (m := 1) (j := 0) (boxAt (i := 0) H rfl (j := 1) rfl)))) (fun a S => ?_)
  refine lq (.bool (a0.2.1 != a1.2.1)) S (q_neq rfl rfl) fun a S => ?_
  refine lx_nil (thenN ?_)
  refine cond_b S rfl (fun hc58 => ?_) (fun hc58 => ?_)
  ·have hm := ite_t hc58 hm
   refine wp_seq (region_plain ?_)
   refine lq (.bool false) S (q_assign rfl) fun a S => ?_
   refine lx_nil (thenN ?_)
   refine wp_ret (then_ret ?_)
   obtain rfl := Option.some.inj hm
   have H : Heap w0 [] w55 := H.sel [] (by decide)
   exact leave1 S rfl rfl ⟨rfl, H⟩
  ·have hm := ite_f hc58 hm
   refine wp_skip (thenN ?_)
   refine wp_seq (wp_seq (region_plain ?_))
   refine lq (pAdd (bp b51) 2) S (q_fieldAddr' 2 2 rfl (isP_bp _) Tryz.underlying80 rfl Tryz.sizeOf2) fun a S => ?_
   refine lx_e (.int .i64 a0.2.2) S trivial (by decide) rfl trivial (q_load1 rfl Tryz.isAgg2 (by rintro _ rfl; exact (At.of_add (m := 2) (j := 0) (boxAt (i := 1) H rfl (j := 2) rfl)))) (fun a S => ?_)
   refine lq (pAdd (bp b54) 2) S (q_fieldAddr' 2 2 rfl (isP_bp _) Tryz.underlying80 rfl Tryz.sizeOf2) fun a S => ?_
   refine lx_e (.int .i64 a1.2.2) S trivial (by decide) rfl trivial (q_load1 rfl Tryz.isAgg2 (by rintro _ rfl; exact (At.of_add (m := 2) (j := 0) (boxAt (i := 0) H rfl (j := 2) rfl)))) (fun a S => ?_)
   refine lq (.bool (a0.2.2 != a1.2.2)) S (q_neq rfl rfl) fun a S => ?_
   refine lx_nil (thenN ?_)
   refine cond_b S rfl (fun hc59 => ?_) (fun hc59 => ?_)
   ·have hm := ite_t hc59 hm
    refine wp_seq (region_plain ?_)
    refine lq (.bool false) S (q_assign rfl) fun a S => ?_
    refine lx_nil (thenN ?_)
    refine wp_ret (then_ret ?_)
    obtain rfl := Option.some.inj hm
    have H : Heap w0 [] w55 := H.sel [] (by decide)
    exact leave1 S rfl rfl ⟨rfl, H⟩
   ·have hm := ite_f hc59 hm
    refine wp_skip (thenN ?_)
    refine wp_seq (region_plain ?_)
    refine lq (.bool true) S (q_assign rfl) fun a S => ?_
    refine lx_nil (thenN ?_)
    refine wp_ret ?_
    obtain rfl := Option.some.inj hm
    have H : Heap w0 [] w55 := H.sel [] (by decide)
    exact leave1 S rfl rfl ⟨rfl, H⟩

/-- laws.eqEdgeS -/
def laws_eqEdgeS_m (fuel : Nat) (a0 : (List Timpl_Edge)) (a1 : (List Timpl_Edge)) : Option (Bool) :=
  (if ((a0.length : Int) != (a1.length : Int)) = true then some (false) else (iter (fun (s : (Int)) => (match s with | (x68) => (if (decide (x68 < (a0.length : Int))) = true then (idx a0 x68).bind fun x116 => (idx a1 x68).bind fun x129 => (laws_eqEdge_m fuel (x116.1, x116.2.1, x116.2.2) (x129.1, x129.2.1, x129.2.2)).bind fun x144 => (if (!x144) = true then some (.inr (.inr false)) else some (.inl ((W (x68 + (1 : Int)))))) else some (.inr (.inl ()))) : Option (((Int)) ⊕ ((Unit) ⊕ (Bool))))) fuel ((0 : Int))).bind fun res105 => ctl (β := Unit) (ρ := Bool) (τ := Bool) res105 (fun _ => some (true)) (fun q => some (q)))
set_option maxRecDepth 20000 in
theorem laws_eqEdgeS_ok [dr : Dr] {w0 : World} {fuel : Nat} {p0 p1 : Value} {a0 : (List Timpl_Edge)} {a1 : (List Timpl_Edge)} {r : Bool} (h0 : Rd (rList Rimpl_Edge) w0 p0 a0) (h1 : Rd (rList Rimpl_Edge) w0 p1 a1) (hm : laws_eqEdgeS_m fuel a0 a1 = some r) :
  Calls Tryz.prog 38 #[p0, p1] w0 fun e w => e = .returned (.bool r) ∧ Heap w0 [] w := by
 unfold laws_eqEdgeS_m at hm
 have H := Heap.start w0
 refine enter (args := [p0, p1]) Tryz.func38 rfl 27 rfl (Nat.le_of_ble_eq_true rfl) (fun a S => ?_)
 refine wp_seq (region_plain ?_)
 refine lq (.bool false) S (q_assign rfl) fun a S => ?_
 refine lx_nil (thenN ?_)
 refine wp_seq (wp_seq (region_plain ?_))
 refine lq p0 S (q_move rfl) fun a S => ?_
 refine lq (.int .i64 (a0.length : Int)) S (q_lenSl rfl (h0).isSl rfl Tryz.underlying33) fun a S => ?_
 refine lq p1 S (q_move rfl) fun a S => ?_
 refine lq (.int .i64 (a1.length : Int)) S (q_lenSl rfl (h1).isSl rfl Tryz.underlying33) fun a S => ?_
 refine lq (.bool ((a0.length : Int) != (a1.length : Int))) S (q_neq rfl rfl) fun a S => ?_
 refine lx_nil (thenN ?_)
 refine cond_b S rfl (fun hc31 => ?_) (fun hc31 => ?_)
 ·have hm := ite_t hc31 hm
  refine wp_seq (region_plain ?_)
  refine lq (.bool false) S (q_assign rfl) fun a S => ?_
  refine lx_nil (thenN ?_)
  refine wp_ret (then_ret ?_)
  obtain rfl := Option.some.inj hm
  exact leave1 S rfl rfl ⟨rfl, H⟩
 ·have hm := ite_f hc31 hm
  refine wp_skip (thenN ?_)
  refine wp_seq (wp_seq (region_plain ?_))
  refine lq (.int .i64 (0 : Int)) S (q_assign rfl) fun a S => ?_
  refine lx_nil (thenN ?_)
  obtain ⟨res105, hit106, hk109⟩ := bind_some hm
  obtain ⟨f107, hf108, hit106⟩ := iter_name hit106
  refine block_loop (fun a w => Slots a 27 [] ∧ Heap w0 [] w ∧ res105 = .inl ()) ?_ ?_
  ·rintro a w ⟨S, H, rfl⟩
   have hm := ctl_inl hk109
   refine thenN ?_
   refine wp_seq (region_plain ?_)
   refine lq (.bool true) S (q_assign rfl) fun a S => ?_
   refine lx_nil (thenN ?_)
   refine wp_ret ?_
   obtain rfl := Option.some.inj hm
   exact leave1 S rfl rfl ⟨rfl, H⟩
  ·skip
   refine loop_ghost (fun n a w => ∃ (x68 : Int), Slots a 27 [(0, p0), (1, p1), (5, (.int .i64 x68))] ∧ Heap w0 [] w ∧ iter f107 n (x68) = some res105) _ ⟨(0 : Int), S.sub ⟨rfl, rfl, rfl, trivial⟩, H, hit106⟩ ?_
   rintro n a w ⟨x68, S, H, hit106⟩
   obtain ⟨m110, o111, rfl, hm, hc112⟩ := iter_step hit106
   rw [hf108] at hm
   refine wp_seq (wp_seq (region_plain ?_))
   refine lq (.int .i64 x68) S (q_move rfl) fun a S => ?_
   refine lq p0 S (q_move rfl) fun a S => ?_
   refine lq (.int .i64 (a0.length : Int)) S (q_lenSl rfl (h0).isSl rfl Tryz.underlying33) fun a S => ?_
   refine lq (.bool (decide (x68 < (a0.length : Int)))) S (q_lss rfl rfl) fun a S => ?_
   refine lx_nil (thenN ?_)
   refine cond_b S rfl (fun hc113 => ?_) (fun hc113 => ?_)
   ·have hm := ite_t hc113 hm
    refine wp_skip (thenN ?_)
    refine wp_seq ?_
    refine wp_block ?_
    refine wp_seq ?_
    refine region_drawG (fun w1 => Heap w0 [] w1) (fun i => [8].contains i) mixed (by kernel_rfl) (fun w115 he114 => ?_)
    have H := H.later he114
    refine ⟨H.sel [] (by decide), ?_⟩
    refine lq p0 S (q_move rfl) fun a S => ?_
    refine lq (.int .i64 x68) S (q_move rfl) fun a S => ?_
    obtain ⟨x116, e117, hm⟩ := bind_some hm
    obtain ⟨c118, h119, hat120⟩ := (h0).elem (idx_some e117).2
    obtain ⟨c121, c122, rfl, h123, h124⟩ := h119
    obtain rfl := h123
    obtain ⟨c125, c126, rfl, h127, h128⟩ := h124
    obtain rfl := h127
    obtain rfl := h128
    have hlt := lt_of_idx (idx_some e117).2
    refine lq (ePtr p0 (x68.toNat * 3)) S (q_indexAddr rfl (h0).isSl rfl (idx_some e117).1 hlt Tryz.underlying33 Tryz.sizeOf80) fun a S => ?_
    refine lq (.agg #[(.int .i64 x116.1), (.int .i64 x116.2.1), (.int .i64 x116.2.2)]) S (q_loadA (cs := [(.int .i64 x116.1), (.int .i64 x116.2.1), (.int .i64 x116.2.2)]) rfl ((hat120 0 _ rfl).isP) Tryz.isAgg80 Tryz.sizeOf80 (fun w1 hC => (fun j u hu => (hat120 j u hu).ext hC.ext))) fun a S => ?_
    refine lq p1 S (q_move rfl) fun a S => ?_
    refine lq (.int .i64 x68) S (q_move rfl) fun a S => ?_
    obtain ⟨x129, e130, hm⟩ := bind_some hm
    obtain ⟨c131, h132, hat133⟩ := (h1).elem (idx_some e130).2
    obtain ⟨c134, c135, rfl, h136, h137⟩ := h132
    obtain rfl := h136
    obtain ⟨c138, c139, rfl, h140, h141⟩ := h137
    obtain rfl := h140
    obtain rfl := h141
    have hlt := lt_of_idx (idx_some e130).2
    refine lq (ePtr p1 (x68.toNat * 3)) S (q_indexAddr rfl (h1).isSl rfl (idx_some e130).1 hlt Tryz.underlying33 Tryz.sizeOf80) fun a S => ?_
    refine lq (.agg #[(.int .i64 x129.1), (.int .i64 x129.2.1), (.int .i64 x129.2.2)]) S (q_loadA (cs := [(.int .i64 x129.1), (.int .i64 x129.2.1), (.int .i64 x129.2.2)]) rfl ((hat133 0 _ rfl).isP) Tryz.isAgg80 Tryz.sizeOf80 (fun w1 hC => (fun j u hu => (hat133 j u hu).ext hC.ext))) fun a S => ?_
    obtain ⟨x144, e145, hm⟩ := bind_some hm
    refine lx_call (xs := [.tmp 20, .tmp 24]) S trivial (by decide) rfl rfl Tryz.call57 ((laws_eqEdge_ok ⟨[(.int .i64 x116.1), (.int .i64 x116.2.1), (.int .i64 x116.2.2)], rfl, ⟨[(.int .i64 x116.1)], [(.int .i64 x116.2.1), (.int .i64 x116.2.2)], rfl, rfl, ⟨[(.int .i64 x116.2.1)], [(.int .i64 x116.2.2)], rfl, rfl, rfl⟩⟩⟩ ⟨[(.int .i64 x129.1), (.int .i64 x129.2.1), (.int .i64 x129.2.2)], rfl, ⟨[(.int .i64 x129.1)], [(.int .i64 x129.2.1), (.int .i64 x129.2.2)], rfl, rfl, ⟨[(.int .i64 x129.2.1)], [(.int .i64 x129.2.2)], rfl, rfl, rfl⟩⟩⟩ e145).mono ?_)
    rintro e w142 ⟨rfl, Hc143⟩
    have H := H.call0 Hc143
    refine ⟨_, rfl, H.sel [] (by decide), fun a S => ?_⟩
    refine lq (.bool (!x144)) S (q_not rfl) fun a S => ?_
    refine lx_nil (thenN ?_)
    refine cond_b S rfl (fun hc147 => ?_) (fun hc147 => ?_)
    ·have hm := ite_t hc147 hm
     refine wp_seq (region_plain ?_)
     refine lq (.bool false) S (q_assign rfl) fun a S => ?_
     refine lx_nil (thenN ?_)
     refine wp_ret (inBlock_ret ?_)
     refine then_ret ?_
     refine then_ret ?_
     refine inBlock_ret ?_
     refine then_ret ?_
     refine then_ret ?_
     obtain rfl := it_brk hm hc112
     have hm := ctl_inr hk109
     obtain rfl := Option.some.inj hm
     exact leave1 S rfl rfl ⟨rfl, H⟩
    ·have hm := ite_f hc147 hm
     refine wp_skip ?_
     refine inBlock_norm ?_
     refine thenN ?_
     refine region_plain ?_
     refine lq (.int .i64 x68) S (q_move rfl) fun a S => ?_
     refine lq (.int .i64 (W (x68 + (1 : Int)))) S (q_add rfl rfl) fun a S => ?_
     refine lq (.int .i64 (W (x68 + (1 : Int)))) S (q_assign rfl) fun a S => ?_
     refine lx_nil ?_
     exact ⟨m110, Nat.lt_succ_self _, (W (x68 + (1 : Int))), S.sub ⟨rfl, rfl, rfl, trivial⟩, H, it_cont hm hc112⟩
   ·have hm := ite_f hc113 hm
    refine wp_exit ?_
    refine then_exit ?_
    refine then_exit ?_
    refine inBlock_exit ?_
    obtain rfl := it_brk hm hc112
    exact ⟨S.sub trivial, H, rfl⟩

/-- laws.eqLts -/
def laws_eqLts_m (fuel : Nat) (a0 : Timpl_Lts) (a1 : Timpl_Lts) : Option (Bool) :=
  (if (a0.1 != a1.1) = true then some (false) else (if (a0.2.1 != a1.2.1) = true then some (false) else (laws_eqStringS_m fuel a0.2.2.1 a1.2.2.1).bind fun x77 => (if (!x77) = true then some (false) else (laws_eqEdgeS_m fuel a0.2.2.2 a1.2.2.2).bind fun x83 => (if (!x83) = true then some (false) else some (true)))))
set_option maxRecDepth 20000 in
theorem laws_eqLts_ok [dr : Dr] {w0 : World} {fuel : Nat} {p0 p1 : Value} {a0 : Timpl_Lts} {a1 : Timpl_Lts} {r : Bool} (h0 : Rd Rimpl_Lts w0 p0 a0) (h1 : Rd Rimpl_Lts w0 p1 a1) (hm : laws_eqLts_m fuel a0 a1 = some r) :
  Calls Tryz.prog 13 #[p0, p1] w0 fun e w => e = .returned (.bool r) ∧ Heap w0 [] w := by
 unfold laws_eqLts_m at hm
 have H := Heap.start w0
 obtain ⟨c31, rfl, h32⟩ := h0
 obtain ⟨c37, c38, rfl, h39, h40⟩ := h32
 obtain rfl := h39
 obtain ⟨c41, c42, rfl, h43, h44⟩ := h40
 obtain rfl := h43
 obtain ⟨c45, c46, rfl, h47, h48⟩ := h44
 obtain ⟨v33, rfl, h34⟩ := rd_list h47
 obtain ⟨v35, rfl, h36⟩ := rd_list h48
 obtain ⟨c49, rfl, h50⟩ := h1
 obtain ⟨c55, c56, rfl, h57, h58⟩ := h50
 obtain rfl := h57
 obtain ⟨c59, c60, rfl, h61, h62⟩ := h58
 obtain rfl := h61
 obtain ⟨c63, c64, rfl, h65, h66⟩ := h62
 obtain ⟨v51, rfl, h52⟩ := rd_list h65
 obtain ⟨v53, rfl, h54⟩ := rd_list h66
 refine enter (args := [(.agg #[(.int .i64 a0.1), (.int .i64 a0.2.1), v33, v35]), (.agg #[(.int .i64 a1.1), (.int .i64 a1.2.1), v51, v53])]) Tryz.func13 rfl 27 rfl (Nat.le_of_ble_eq_true rfl) (fun a S => ?_)
 refine wp_seq (region_plain ?_)
 refine lx_box S trivial (by decide) rfl H rfl rfl (fun b67 w68 H => ⟨trivial, fun a S => ?_⟩)
 refine lx_box S trivial (by decide) rfl H rfl rfl (fun b70 w71 H => ⟨trivial, fun a S => ?_⟩)
 refine lq (.bool false) S (q_assign rfl) fun a S => ?_
 refine lx_nil (thenN ?_)
 refine wp_seq (wp_seq (region_plain ?_))
 refine lq (pAdd (bp b67) 0) S (q_fieldAddr' 0 2 rfl (isP_bp _) Tryz.underlying35 rfl Tryz.sizeOf2) fun a S => ?_
 refine lx_e (.int .i64 a0.1) S trivial (by decide) rfl trivial (q_load1 rfl Tryz.isAgg2 (by rintro _ rfl; exact (At.of_add (m := 0) (j := 0) (boxAt (i := 1) H rfl (j := 0) rfl)))) (fun a S => ?_)
 refine lq (pAdd (bp b70) 0) S (q_fieldAddr' 0 2 rfl (isP_bp _) Tryz.underlying35 rfl Tryz.sizeOf2) fun a S => ?_
 refine lx_e (.int .i64 a1.1) S trivial (by decide) rfl trivial (q_load1 rfl Tryz.isAgg2 (by rintro _ rfl; exact (At.of_add (m := 0) (j := 0) (boxAt (i := 0) H rfl (j := 0) rfl)))) (fun a S => ?_)
 refine lq (.bool (a0.1 != a1.1)) S (q_neq rfl rfl) fun a S => ?_
 refine lx_nil (thenN ?_)
 refine cond_b S rfl (fun hc73 => ?_) (fun hc73 => ?_)
 ·have hm := ite_t hc73 hm
  refine wp_seq (region_plain ?_)
  refine lq (.bool false) S (q_assign rfl) fun a S => ?_
  refine lx_nil (thenN ?_)
  refine wp_ret (then_ret ?_)
  obtain rfl := Option.some.inj hm
  have H : Heap w0 [] w71 := H.sel [] (by decide)
  exact leave1 S rfl rfl ⟨rfl, H⟩
 ·have hm := ite_f hc73 hm
  refine wp_skip (thenN ?_)
  refine wp_seq (wp_seq (region_plain ?_))
  refine lq (pAdd (bp b67) 1) S (q_fieldAddr' 1 2 rfl (isP_bp _) Tryz.underlying35 rfl Tryz.sizeOf2) fun a S => ?_
  refine lx_e (.int .i64 a0.2.1) S trivial (by decide) rfl trivial (q_load1 rfl Tryz.isAgg2 (by rintro _ rfl; exact (At.of_add (m := 1) (j := 0) (boxAt (i := 1) H rfl (j := 1) rfl)))) (fun a S => ?_)
  refine lq (pAdd (bp b70) 1) S (q_fieldAddr' 1 2 rfl (isP_bp _) Tryz.underlying35 rfl Tryz.sizeOf2) fun a S => ?_
  refine lx_e (.int .i64 a1.2.1) S trivial (by decide) rfl trivial (q_load1 rfl Tryz.isAgg2 (by rintro _ rfl; exact (At.of_add (m := 1) (j := 0) (boxAt (i := 0) H rfl (j := 1) rfl)))) (fun a S => ?_)
  refine lq (.bool (a0.2.1 != a1.2.1)) S (q_neq rfl rfl) fun a S => ?_
  refine lx_nil (thenN ?_)
  refine cond_b S rfl (fun hc74 => ?_) (fun hc74 => ?_)
  ·have hm := ite_t hc74 hm
   refine wp_seq (region_plain ?_)
   refine lq (.bool false) S (q_assign rfl) fun a S => ?_
   refine lx_nil (thenN ?_)
   refine wp_ret (then_ret ?_)
   obtain rfl := Option.some.inj hm
   have H : Heap w0 [] w71 := H.sel [] (by decide)
   exact leave1 S rfl rfl ⟨rfl, H⟩
  ·have hm := ite_f hc74 hm
   refine wp_skip (thenN ?_)
   refine wp_seq (wp_seq (region_plain ?_))
   refine lq (pAdd (bp b67) 2) S (q_fieldAddr' 2 23 rfl (isP_bp _) Tryz.underlying35 rfl Tryz.sizeOf23) fun a S => ?_
   refine lx_e v33 S trivial (by decide) rfl trivial (q_load1 rfl Tryz.isAgg23 (by rintro _ rfl; exact (At.of_add (m := 2) (j := 0) (boxAt (i := 1) H rfl (j := 2) rfl)))) (fun a S => ?_)
   refine lq (pAdd (bp b70) 2) S (q_fieldAddr' 2 23 rfl (isP_bp _) Tryz.underlying35 rfl Tryz.sizeOf23) fun a S => ?_
   refine lx_e v51 S trivial (by decide) rfl trivial (q_load1 rfl Tryz.isAgg23 (by rintro _ rfl; exact (At.of_add (m := 2) (j := 0) (boxAt (i := 0) H rfl (j := 2) rfl)))) (fun a S => ?_)
   obtain ⟨x77, e78, hm⟩ := bind_some hm
   refine lx_call (xs := [.tmp 16, .tmp 18]) S trivial (by decide) rfl rfl Tryz.call37 ((laws_eqStringS_ok (H.arg h34) (H.arg h52) e78).mono ?_)
   rintro e w75 ⟨rfl, Hc76⟩
   have H := H.call0 Hc76
   refine ⟨_, rfl, trivial, fun a S => ?_⟩
   refine lq (.bool (!x77)) S (q_not rfl) fun a S => ?_
   refine lx_nil (thenN ?_)
   refine cond_b S rfl (fun hc80 => ?_) (fun hc80 => ?_)
   ·have hm := ite_t hc80 hm
    refine wp_seq (region_plain ?_)
    refine lq (.bool false) S (q_assign rfl) fun a S => ?_
    refine lx_nil (thenN ?_)
    refine wp_ret (then_ret ?_)
    obtain rfl := Option.some.inj hm
    have H : Heap w0 [] w75 := H.sel [] (by decide)
    exact leave1 S rfl rfl ⟨rfl, H⟩
   ·have hm := ite_f hc80 hm
    refine wp_skip (thenN ?_)
    refine wp_seq (wp_seq (region_plain ?_))
    refine lq (pAdd (bp b67) 3) S (q_fieldAddr' 3 33 rfl (isP_bp _) Tryz.underlying35 rfl Tryz.sizeOf33) fun a S => ?_
    refine lx_e v35 S trivial (by decide) rfl trivial (q_load1 rfl Tryz.isAgg33 (by rintro _ rfl; exact (At.of_add (m := 3) (j := 0) (boxAt (i := 1) H rfl (j := 3) rfl)))) (fun a S => ?_)
    refine lq (pAdd (bp b70) 3) S (q_fieldAddr' 3 33 rfl (isP_bp _) Tryz.underlying35 rfl Tryz.sizeOf33) fun a S => ?_
    refine lx_e v53 S trivial (by decide) rfl trivial (q_load1 rfl Tryz.isAgg33 (by rintro _ rfl; exact (At.of_add (m := 3) (j := 0) (boxAt (i := 0) H rfl (j := 3) rfl)))) (fun a S => ?_)
    obtain ⟨x83, e84, hm⟩ := bind_some hm
    refine lx_call (xs := [.tmp 22, .tmp 24]) S trivial (by decide) rfl rfl Tryz.call38 ((laws_eqEdgeS_ok (H.arg h36) (H.arg h54) e84).mono ?_)
    rintro e w81 ⟨rfl, Hc82⟩
    have H := H.call0 Hc82
    refine ⟨_, rfl, trivial, fun a S => ?_⟩
    refine lq (.bool (!x83)) S (q_not rfl) fun a S => ?_
    refine lx_nil (thenN ?_)
    refine cond_b S rfl (fun hc86 => ?_) (fun hc86 => ?_)
    ·have hm := ite_t hc86 hm
     refine wp_seq (region_plain ?_)
     refine lq (.bool false) S (q_assign rfl) fun a S => ?_
     refine lx_nil (thenN ?_)
     refine wp_ret (then_ret ?_)
     obtain rfl := Option.some.inj hm
     have H : Heap w0 [] w81 := H.sel [] (by decide)
     exact leave1 S rfl rfl ⟨rfl, H⟩
    ·have hm := ite_f hc86 hm
     refine wp_skip (thenN ?_)
     refine wp_seq (region_plain ?_)
     refine lq (.bool true) S (q_assign rfl) fun a S => ?_
     refine lx_nil (thenN ?_)
     refine wp_ret ?_
     obtain rfl := Option.some.inj hm
     have H : Heap w0 [] w81 := H.sel [] (by decide)
     exact leave1 S rfl rfl ⟨rfl, H⟩
end Go.Proofs.YtnkpniekdipgaaaGreatDoor
