/- The model of a statement and its walk (printed by a program of this repo). -/
import Derived.Test.YtecknjdlbmmmiaaF0
import Derived.Test.YtecknjdlbmmmiaaF1
import Derived.Test.YtecknjdlbmmmiaaF10
import Derived.Test.YtecknjdlbmmmiaaF2
import Derived.Test.YtecknjdlbmmmiaaF4
import Derived.Test.YtecknjdlbmmmiaaF5
import Derived.Test.YtecknjdlbmmmiaaF6
import Derived.Test.YtecknjdlbmmmiaaF7
import Derived.Test.YtecknjdlbmmmiaaF9
import Derived.Test.YtecknjdlbmmmiaaGxT
namespace Go.Proofs.Ytecknjdlbmmmiaa
open Go.RowKit Go.Gx

/-- spec.RestrictEquations -/
def spec_RestrictEquations_m (fuel : Nat) (a0 : (List Timpl_Equation)) (a1 : Int) : Option (((List Timpl_Equation) × (List Int) × Int)) :=
  (spec_l22Is_m fuel a0).bind fun x33 => (if (!x33) = true then some (([], [], (1 : Int))) else (spec_l00In_m fuel a1 (0 : Int) (W ((a0.length : Int) - (1 : Int)))).bind fun x41 => (if (!x41) = true then some (([], [], (2 : Int))) else (spec_l22Relevant_m fuel a0 a1).bind fun x49 => (iter (fun (s : (List Timpl_Equation) × (Int)) => (match s with | (xs178, x180) => (if (decide (x180 < (x49.length : Int))) = true then (idx x49 x180).bind fun x313 => (idx a0 x313).bind fun x318 => (iter (fun (s : (List Int) × (Int)) => (match s with | (xs364, x366) => (if (decide (x366 < (x318.2.2.length : Int))) = true then (idx x318.2.2 x366).bind fun x410 => (spec_l11Place_m fuel x49 x410).bind fun x417 => (app xs364 [x417]).bind fun x423 => some (.inl (x423, (W (x366 + (1 : Int))))) else some (.inr (.inl (xs364)))) : Option (((List Int) × (Int)) ⊕ (((List Int)) ⊕ (((List Timpl_Equation) × (List Int) × Int)))))) fuel (([] : List Int), (0 : Int))).bind fun res393 => ctl (β := (List Int)) (ρ := ((List Timpl_Equation) × (List Int) × Int)) (τ := (((List Timpl_Equation) × (Int)) ⊕ (((List Timpl_Equation)) ⊕ (((List Timpl_Equation) × (List Int) × Int))))) res393 (fun (xs391) => (app xs178 [(x318.1, x318.2.1, xs391)]).bind fun x401 => some (.inl (x401, (W (x180 + (1 : Int)))))) (fun q => some (.inr (.inr q))) else some (.inr (.inl (xs178)))) : Option (((List Timpl_Equation) × (Int)) ⊕ (((List Timpl_Equation)) ⊕ (((List Timpl_Equation) × (List Int) × Int)))))) fuel (([] : List Timpl_Equation), (0 : Int))).bind fun res304 => ctl (β := (List Timpl_Equation)) (ρ := ((List Timpl_Equation) × (List Int) × Int)) (τ := ((List Timpl_Equation) × (List Int) × Int)) res304 (fun (xs302) => some ((xs302, x49, (0 : Int)))) (fun q => some (q))))
set_option maxRecDepth 20000 in
theorem spec_RestrictEquations_ok {w0 : World} {fuel : Nat} {p0 : Value} {a0 : (List Timpl_Equation)} {a1 : Int} {r : ((List Timpl_Equation) × (List Int) × Int)} (h0 : Rd (rList Rimpl_Equation) w0 p0 a0) (hm : spec_RestrictEquations_m fuel a0 a1 = some r) :
  Calls Try.prog 47 #[p0, .int .i64 a1] w0 fun e w => ∃ (v0 : Value) (v1 : Value), e = .returned (.tuple #[v0, v1, .int .i64 r.2.2]) ∧ Heap w0 [oA (rList Rimpl_Equation) v0 r.1, oA (rList (rInt .i64)) v1 r.2.1] w := by
 unfold spec_RestrictEquations_m at hm
 have H := Heap.start w0
 refine enter (args := [p0, .int .i64 a1]) Try.func47 rfl 68 rfl (Nat.le_of_ble_eq_true rfl) (fun a S => ?_)
 refine wp_seq (region_plain ?_)
 refine lq (.slice none 0 0) S (q_assign rfl) fun a S => ?_
 refine lq (.slice none 0 0) S (q_assign rfl) fun a S => ?_
 refine lq (.int .i64 (0 : Int)) S (q_assign rfl) fun a S => ?_
 refine lx_nil (thenN ?_)
 refine wp_seq (wp_seq (region_plain ?_))
 refine lq p0 S (q_move rfl) fun a S => ?_
 obtain ⟨x33, e34, hm⟩ := bind_some hm
 refine lx_call (xs := [.tmp 13]) S trivial (by decide) rfl rfl Try.call68 ((spec_l22Is_ok (H.arg h0) e34).mono ?_)
 rintro e w31 ⟨rfl, Hc32⟩
 have H := H.call0 Hc32
 refine ⟨_, rfl, trivial, fun a S => ?_⟩
 refine lq (.bool (!x33)) S (q_not rfl) fun a S => ?_
 refine lx_nil (thenN ?_)
 refine cond_b S rfl (fun hc36 => ?_) (fun hc36 => ?_)
 ·have hm := ite_t hc36 hm
  refine wp_seq (region_plain ?_)
  refine lq (.slice none 0 0) S (q_assign rfl) fun a S => ?_
  refine lq (.slice none 0 0) S (q_assign rfl) fun a S => ?_
  refine lq (.int .i64 (1 : Int)) S (q_assign rfl) fun a S => ?_
  refine lx_nil (thenN ?_)
  refine wp_ret (then_ret ?_)
  obtain rfl := Option.some.inj hm
  have H : Heap w0 [oA (rList Rimpl_Equation) (.slice none 0 0) ([] : List Timpl_Equation)] w31 := H.nilList Rimpl_Equation
  have H : Heap w0 [oA (rList (rInt .i64)) (.slice none 0 0) ([] : List Int), oA (rList Rimpl_Equation) (.slice none 0 0) ([] : List Timpl_Equation)] w31 := H.nilList (rInt .i64)
  have H : Heap w0 [oA (rList Rimpl_Equation) (.slice none 0 0) ([] : List Timpl_Equation), oA (rList (rInt .i64)) (.slice none 0 0) ([] : List Int)] w31 := H.front 1 rfl
  exact leave3 S rfl rfl rfl rfl ⟨(.slice none 0 0), (.slice none 0 0), rfl, H⟩
 ·have hm := ite_f hc36 hm
  refine wp_skip (thenN ?_)
  refine wp_seq (wp_seq (region_plain ?_))
  refine lq (.int .i64 a1) S (q_move rfl) fun a S => ?_
  refine lq p0 S (q_move rfl) fun a S => ?_
  refine lq (.int .i64 (a0.length : Int)) S (q_lenSl rfl (h0).isSl rfl Try.underlying36) fun a S => ?_
  refine lq (.int .i64 (W ((a0.length : Int) - (1 : Int)))) S (q_sub rfl rfl) fun a S => ?_
  obtain ⟨x41, e42, hm⟩ := bind_some hm
  refine lx_call (xs := [.tmp 16, .const (.int .i64 (0)), .tmp 19]) S trivial (by decide) rfl rfl Try.call54 ((spec_l00In_ok    e42).mono ?_)
  rintro e w39 ⟨rfl, Hc40⟩
  have H := H.call0 Hc40
  refine ⟨_, rfl, trivial, fun a S => ?_⟩
  refine lq (.bool (!x41)) S (q_not rfl) fun a S => ?_
  refine lx_nil (thenN ?_)
  refine cond_b S rfl (fun hc44 => ?_) (fun hc44 => ?_)
  ·have hm := ite_t hc44 hm
   refine wp_seq (region_plain ?_)
   refine lq (.slice none 0 0) S (q_assign rfl) fun a S => ?_
   refine lq (.slice none 0 0) S (q_assign rfl) fun a S => ?_
   refine lq (.int .i64 (2 : Int)) S (q_assign rfl) fun a S => ?_
   refine lx_nil (thenN ?_)
   refine wp_ret (then_ret ?_)
   obtain rfl := Option.some.inj hm
   have H : Heap w0 [oA (rList Rimpl_Equation) (.slice none 0 0) ([] : List Timpl_Equation)] w39 := H.nilList Rimpl_Equation
   have H : Heap w0 [oA (rList (rInt .i64)) (.slice none 0 0) ([] : List Int), oA (rList Rimpl_Equation) (.slice none 0 0) ([] : List Timpl_Equation)] w39 := H.nilList (rInt .i64)
   have H : Heap w0 [oA (rList Rimpl_Equation) (.slice none 0 0) ([] : List Timpl_Equation), oA (rList (rInt .i64)) (.slice none 0 0) ([] : List Int)] w39 := H.front 1 rfl
   exact leave3 S rfl rfl rfl rfl ⟨(.slice none 0 0), (.slice none 0 0), rfl, H⟩
  ·have hm := ite_f hc44 hm
   refine wp_skip (thenN ?_)
   refine wp_seq (region_plain ?_)
   refine lq p0 S (q_move rfl) fun a S => ?_
   refine lq (.int .i64 a1) S (q_move rfl) fun a S => ?_
   obtain ⟨x49, e50, hm⟩ := bind_some hm
   refine lx_call (xs := [.tmp 22, .tmp 23]) S trivial (by decide) rfl rfl Try.call91 ((spec_l22Relevant_ok (H.arg h0)  e50).mono ?_)
   rintro e w47 ⟨v51, rfl, Hc48⟩
   have H := H.call1 Hc48
   refine ⟨_, rfl, trivial, fun a S => ?_⟩
   refine lq v51 S (q_assign rfl) fun a S => ?_
   refine lx_nil (thenN ?_)
   refine wp_seq (region_plain ?_)
   refine lx_buildSlice0 (r := Rimpl_Equation) S trivial (by decide) rfl H Try.underlying36 Try.sizeOf85 (fun v54 w55 H => ⟨trivial, fun a S => ?_⟩)
   refine lq v54 S (q_assign rfl) fun a S => ?_
   refine lx_nil (thenN ?_)
   refine wp_seq (wp_seq (region_plain ?_))
   refine lq (.int .i64 (0 : Int)) S (q_assign rfl) fun a S => ?_
   refine lx_nil (thenN ?_)
   obtain ⟨res304, hit305, hk308⟩ := bind_some hm
   obtain ⟨f306, hf307, hit305⟩ := iter_name hit305
   refine block_loop (fun a w => ∃ (xs302 : List Timpl_Equation) (v301 : Value), Slots a 68 [(7, v51), (8, v301)] ∧ Heap w0 [oA (rList (rInt .i64)) v51 x49, oA (rList Rimpl_Equation) v301 xs302] w ∧ res304 = .inl (xs302)) ?_ ?_
   ·rintro a w ⟨xs302, v301, S, H, rfl⟩
    have hm := ctl_inl hk308
    refine thenN ?_
    refine wp_seq (region_plain ?_)
    refine lq v301 S (q_move rfl) fun a S => ?_
    refine lq v51 S (q_move rfl) fun a S => ?_
    refine lq v301 S (q_assign rfl) fun a S => ?_
    refine lq v51 S (q_assign rfl) fun a S => ?_
    refine lq (.int .i64 (0 : Int)) S (q_assign rfl) fun a S => ?_
    refine lx_nil (thenN ?_)
    refine wp_ret ?_
    obtain rfl := Option.some.inj hm
    have H : Heap w0 [oA (rList Rimpl_Equation) v301 xs302, oA (rList (rInt .i64)) v51 x49] w := H.front 1 rfl
    exact leave3 S rfl rfl rfl rfl ⟨v301, v51, rfl, H⟩
   ·skip
    have H : Heap w0 [oA (rList (rInt .i64)) v51 x49, oA (rList Rimpl_Equation) v54 ([] : List Timpl_Equation)] w55 := H.front 1 rfl
    refine loop_ghost (fun n a w => ∃ (xs178 : List Timpl_Equation) (x180 : Int) (v177 : Value), Slots a 68 [(0, p0), (7, v51), (8, v177), (9, (.int .i64 x180))] ∧ Heap w0 [oA (rList (rInt .i64)) v51 x49, oA (rList Rimpl_Equation) v177 xs178] w ∧ iter f306 n (xs178, x180) = some res304) _ ⟨([] : List Timpl_Equation), (0 : Int), v54, S.sub ⟨rfl, rfl, rfl, rfl, trivial⟩, H, hit305⟩ ?_
    rintro n a w ⟨xs178, x180, v177, S, H, hit305⟩
    obtain ⟨m309, o310, rfl, hm, hc311⟩ := iter_step hit305
    rw [hf307] at hm
    refine wp_seq (wp_seq (region_plain ?_))
    refine lq (.int .i64 x180) S (q_move rfl) fun a S => ?_
    refine lq v51 S (q_move rfl) fun a S => ?_
    refine lq (.int .i64 (x49.length : Int)) S (q_lenSl rfl (H.isSl 0 rfl) rfl Try.underlying23) fun a S => ?_
    refine lq (.bool (decide (x180 < (x49.length : Int)))) S (q_lss rfl rfl) fun a S => ?_
    refine lx_nil (thenN ?_)
    refine cond_b S rfl (fun hc312 => ?_) (fun hc312 => ?_)
    ·have hm := ite_t hc312 hm
     refine wp_skip (thenN ?_)
     refine wp_seq ?_
     refine wp_block ?_
     refine wp_seq (region_plain ?_)
     refine lq p0 S (q_move rfl) fun a S => ?_
     refine lq v51 S (q_move rfl) fun a S => ?_
     refine lq (.int .i64 x180) S (q_move rfl) fun a S => ?_
     obtain ⟨x313, e314, hm⟩ := bind_some hm
     have hlt := lt_of_idx (idx_some e314).2
     refine lq (ePtr v51 (x180.toNat * 1)) S (q_indexAddr rfl (H.isSl 0 rfl) rfl (idx_some e314).1 hlt Try.underlying23 Try.sizeOf2) fun a S => ?_
     obtain ⟨c315, h316, hat317⟩ := (H.rdAt 0 rfl).elem (idx_some e314).2
     obtain rfl := h316
     refine lx_e (.int .i64 x313) S trivial (by decide) rfl trivial (q_load1 rfl Try.isAgg2 (by rintro _ rfl; exact (hat317 0 _ rfl))) (fun a S => ?_)
     obtain ⟨x318, e319, hm⟩ := bind_some hm
     obtain ⟨c320, h321, hat322⟩ := (h0).elem (idx_some e319).2
     obtain ⟨c325, c326, rfl, h327, h328⟩ := h321
     obtain rfl := h327
     obtain ⟨c329, c330, rfl, h331, h332⟩ := h328
     obtain rfl := h331
     obtain ⟨v323, rfl, h324⟩ := rd_list h332
     have hlt := lt_of_idx (idx_some e319).2
     refine lq (ePtr p0 (x313.toNat * 3)) S (q_indexAddr rfl (h0).isSl rfl (idx_some e319).1 hlt Try.underlying36 Try.sizeOf85) fun a S => ?_
     refine lx_e (.agg #[(.bool x318.1), (.bool x318.2.1), v323]) S trivial (by decide) rfl trivial (q_loadA (cs := [(.bool x318.1), (.bool x318.2.1), v323]) rfl ((hat322 0 _ rfl).isP) Try.isAgg85 Try.sizeOf85 (by rintro _ rfl; exact (fun j u hu => (hat322 j u hu).ext H.ext))) (fun a S => ?_)
     refine lx_alloc S trivial (by decide) rfl H Try.zeroValue85 rfl (fun b333 w334 H => ⟨trivial, fun a S => ?_⟩)
     refine lx_storeBox (o := 0) (i := 0) (us := [(.bool x318.1), (.bool x318.2.1), v323]) (cs' := [(.bool x318.1), (.bool x318.2.1), v323]) S trivial rfl H rfl rfl rfl rfl Try.sizeOf85 (Nat.le_of_ble_eq_true rfl) (List.forall_mem_cons.2 ⟨rfl, (List.forall_mem_cons.2 ⟨rfl, (List.forall_mem_cons.2 ⟨one_sl (h324).isSl, (fun _ h => nomatch h)⟩)⟩)⟩) rfl (fun w336 H => ⟨trivial, fun a S => ?_⟩)
     change Heap w0 [bA b333 [(.bool x318.1), (.bool x318.2.1), v323] 85, oA (rList (rInt .i64)) v51 x49, oA (rList Rimpl_Equation) v177 xs178] w336 at H
     refine lx_nil (thenN ?_)
     refine wp_seq (region_plain ?_)
     refine lx_buildSlice0 (r := (rInt .i64)) S trivial (by decide) rfl H Try.underlying23 Try.sizeOf2 (fun v337 w338 H => ⟨trivial, fun a S => ?_⟩)
     refine lq v337 S (q_assign rfl) fun a S => ?_
     refine lx_nil (thenN ?_)
     refine wp_seq (wp_seq (region_plain ?_))
     refine lq (.int .i64 (0 : Int)) S (q_assign rfl) fun a S => ?_
     refine lx_nil (thenN ?_)
     obtain ⟨res393, hit394, hk397⟩ := bind_some hm
     obtain ⟨f395, hf396, hit394⟩ := iter_name hit394
     refine block_loop (fun a w => ∃ (xs391 : List Int) (v390 : Value), Slots a 68 [(0, p0), (7, v51), (8, v177), (9, (.int .i64 x180)), (10, (bp b333)), (11, v390)] ∧ Heap w0 [oA (rList (rInt .i64)) v51 x49, oA (rList Rimpl_Equation) v177 xs178, bA b333 [(.bool x318.1), (.bool x318.2.1), v323] 85, oA (rList (rInt .i64)) v390 xs391] w ∧ res393 = .inl (xs391)) ?_ ?_
     ·rintro a w ⟨xs391, v390, S, H, rfl⟩
      have hm := ctl_inl hk397
      refine thenN ?_
      refine region_plain ?_
      refine lq v177 S (q_move rfl) fun a S => ?_
      refine lq (pAdd (bp b333) 0) S (q_fieldAddr' 0 4 rfl (isP_bp _) Try.underlying85 rfl Try.sizeOf4) fun a S => ?_
      refine lx_e (.bool x318.1) S trivial (by decide) rfl trivial (q_load1 rfl Try.isAgg4 (by rintro _ rfl; exact (At.of_add (m := 0) (j := 0) (boxAt (i := 2) H rfl (j := 0) rfl)))) (fun a S => ?_)
      refine lq (pAdd (bp b333) 1) S (q_fieldAddr' 1 4 rfl (isP_bp _) Try.underlying85 rfl Try.sizeOf4) fun a S => ?_
      refine lx_e (.bool x318.2.1) S trivial (by decide) rfl trivial (q_load1 rfl Try.isAgg4 (by rintro _ rfl; exact (At.of_add (m := 1) (j := 0) (boxAt (i := 2) H rfl (j := 1) rfl)))) (fun a S => ?_)
      refine lq v390 S (q_move rfl) fun a S => ?_
      refine lq (.agg #[(.bool x318.1), (.bool x318.2.1), v390]) S (q_build (zs := [(.bool false), (.bool false), (.slice none 0 0)]) (szs := [1, 1, 1]) (ps := [(0, [(.bool x318.1)]), (1, [(.bool x318.2.1)]), (2, [v390])]) (parts := [(0, .tmp 59), (1, .tmp 61), (2, .tmp 62)]) rfl Try.underlying85 Try.zeroValue85 (fun w => by simp [Try.sizeOf23, Try.sizeOf4]) ⟨rfl, rfl, Nat.le_of_ble_eq_true rfl, ⟨rfl, rfl, Nat.le_of_ble_eq_true rfl, ⟨rfl, (cells_sl (H.isSl 3 rfl)), Nat.le_of_ble_eq_true rfl, trivial⟩⟩⟩ rfl) fun a S => ?_
      have H : Heap w0 [oA (rList (rInt .i64)) v390 xs391, oA (rList (rInt .i64)) v51 x49, oA (rList Rimpl_Equation) v177 xs178, bA b333 [(.bool x318.1), (.bool x318.2.1), v323] 85] w := H.front 3 rfl
      refine lx_buildSlice (r := Rimpl_Equation) (xs := [(x318.1, x318.2.1, xs391)]) (ps := [(0, [(.bool x318.1), (.bool x318.2.1), v390])]) (cs := [(.bool x318.1), (.bool x318.2.1), v390]) (parts := [(0, .tmp 63)]) S trivial (by decide) rfl H rfl Try.underlying36 Try.sizeOf85 Try.zeroValue85 (by decide) ⟨rfl, rfl, Nat.le_of_ble_eq_true rfl, trivial⟩ (by intro zs hz; exact fill_dense hz ⟨rfl, trivial⟩ rfl rfl) rfl (by decide) (fun w F hA => ownL_one_mk (ownF ⟨_, _, [(.bool x318.1)], [(.bool x318.2.1), v390], rfl, rfl, ⟨rfl, rfl⟩, ⟨_, _, [(.bool x318.2.1)], [v390], rfl, rfl, ⟨rfl, rfl⟩, (oA_list.1 hA)⟩⟩)) (fun v398 w399 H => ⟨trivial, fun a S => ?_⟩)
      obtain ⟨x401, e402, hm⟩ := bind_some hm
      obtain ⟨hle, hap⟩ := app_some e402
      replace hap := hap.symm
      subst hap
      have H : Heap w0 [oA (rList Rimpl_Equation) v398 [(x318.1, x318.2.1, xs391)], oA (rList (rInt .i64)) v51 x49, oA (rList Rimpl_Equation) v177 xs178, bA b333 [(.bool x318.1), (.bool x318.2.1), v323] 85] w399 := H.front 0 rfl
      have H : Heap w0 [oA (rList Rimpl_Equation) v177 xs178, oA (rList Rimpl_Equation) v398 [(x318.1, x318.2.1, xs391)], oA (rList (rInt .i64)) v51 x49, bA b333 [(.bool x318.1), (.bool x318.2.1), v323] 85] w399 := H.front 2 rfl
      refine lx_appendOwn (r := Rimpl_Equation) S trivial (by decide) rfl H rfl rfl Try.underlying36 Try.ti85 rfl rfl rfl (by decide) (by decide) hle (fun v403 w404 H => ⟨trivial, fun a S => ?_⟩)
      refine lq v403 S (q_assign rfl) fun a S => ?_
      refine lx_nil ?_
      refine inBlock_norm ?_
      refine thenN ?_
      refine region_plain ?_
      refine lq (.int .i64 x180) S (q_move rfl) fun a S => ?_
      refine lq (.int .i64 (W (x180 + (1 : Int)))) S (q_add rfl rfl) fun a S => ?_
      refine lq (.int .i64 (W (x180 + (1 : Int)))) S (q_assign rfl) fun a S => ?_
      refine lx_nil ?_
      have H : Heap w0 [oA (rList (rInt .i64)) v51 x49, oA (rList Rimpl_Equation) v403 (xs178 ++ [(x318.1, x318.2.1, xs391)]), bA b333 [(.bool x318.1), (.bool x318.2.1), v323] 85] w404 := H.front 1 rfl
      have H : Heap w0 [oA (rList (rInt .i64)) v51 x49, oA (rList Rimpl_Equation) v403 (xs178 ++ [(x318.1, x318.2.1, xs391)])] w404 := H.sel [0, 1] (by decide)
      exact ⟨m309, Nat.lt_succ_self _, (xs178 ++ [(x318.1, x318.2.1, xs391)]), (W (x180 + (1 : Int))), v403, S.sub ⟨rfl, rfl, rfl, rfl, trivial⟩, H, it_cont hm hc311⟩
     ·skip
      have H : Heap w0 [bA b333 [(.bool x318.1), (.bool x318.2.1), v323] 85, oA (rList (rInt .i64)) v337 ([] : List Int), oA (rList (rInt .i64)) v51 x49, oA (rList Rimpl_Equation) v177 xs178] w338 := H.front 1 rfl
      have H : Heap w0 [oA (rList Rimpl_Equation) v177 xs178, bA b333 [(.bool x318.1), (.bool x318.2.1), v323] 85, oA (rList (rInt .i64)) v337 ([] : List Int), oA (rList (rInt .i64)) v51 x49] w338 := H.front 3 rfl
      have H : Heap w0 [oA (rList (rInt .i64)) v51 x49, oA (rList Rimpl_Equation) v177 xs178, bA b333 [(.bool x318.1), (.bool x318.2.1), v323] 85, oA (rList (rInt .i64)) v337 ([] : List Int)] w338 := H.front 3 rfl
      refine loop_ghost (fun n a w => ∃ (xs364 : List Int) (x366 : Int) (v363 : Value), Slots a 68 [(0, p0), (7, v51), (8, v177), (9, (.int .i64 x180)), (10, (bp b333)), (11, v363), (12, (.int .i64 x366))] ∧ Heap w0 [oA (rList (rInt .i64)) v51 x49, oA (rList Rimpl_Equation) v177 xs178, bA b333 [(.bool x318.1), (.bool x318.2.1), v323] 85, oA (rList (rInt .i64)) v363 xs364] w ∧ iter f395 n (xs364, x366) = some res393) _ ⟨([] : List Int), (0 : Int), v337, S.sub ⟨rfl, rfl, rfl, rfl, rfl, rfl, rfl, trivial⟩, H, hit394⟩ ?_
      rintro n a w ⟨xs364, x366, v363, S, H, hit394⟩
      obtain ⟨m406, o407, rfl, hm, hc408⟩ := iter_step hit394
      rw [hf396] at hm
      refine wp_seq (wp_seq (region_plain ?_))
      refine lq (.int .i64 x366) S (q_move rfl) fun a S => ?_
      refine lq (pAdd (bp b333) 2) S (q_fieldAddr' 2 23 rfl (isP_bp _) Try.underlying85 rfl Try.sizeOf23) fun a S => ?_
      refine lx_e v323 S trivial (by decide) rfl trivial (q_load1 rfl Try.isAgg23 (by rintro _ rfl; exact (At.of_add (m := 2) (j := 0) (boxAt (i := 2) H rfl (j := 2) rfl)))) (fun a S => ?_)
      refine lq (.int .i64 (x318.2.2.length : Int)) S (q_lenSl rfl (h324).isSl rfl Try.underlying23) fun a S => ?_
      refine lq (.bool (decide (x366 < (x318.2.2.length : Int)))) S (q_lss rfl rfl) fun a S => ?_
      refine lx_nil (thenN ?_)
      refine cond_b S rfl (fun hc409 => ?_) (fun hc409 => ?_)
      ·have hm := ite_t hc409 hm
       refine wp_skip (thenN ?_)
       refine wp_seq ?_
       refine wp_block ?_
       refine region_plain ?_
       refine lq v363 S (q_move rfl) fun a S => ?_
       refine lq v51 S (q_move rfl) fun a S => ?_
       refine lq (pAdd (bp b333) 2) S (q_fieldAddr' 2 23 rfl (isP_bp _) Try.underlying85 rfl Try.sizeOf23) fun a S => ?_
       refine lx_e v323 S trivial (by decide) rfl trivial (q_load1 rfl Try.isAgg23 (by rintro _ rfl; exact (At.of_add (m := 2) (j := 0) (boxAt (i := 2) H rfl (j := 2) rfl)))) (fun a S => ?_)
       refine lq (.int .i64 x366) S (q_move rfl) fun a S => ?_
       obtain ⟨x410, e411, hm⟩ := bind_some hm
       obtain ⟨c412, h413, hat414⟩ := (h324).elem (idx_some e411).2
       obtain rfl := h413
       have hlt := lt_of_idx (idx_some e411).2
       refine lq (ePtr v323 (x366.toNat * 1)) S (q_indexAddr rfl (h324).isSl rfl (idx_some e411).1 hlt Try.underlying23 Try.sizeOf2) fun a S => ?_
       refine lx_e (.int .i64 x410) S trivial (by decide) rfl trivial (q_load1 rfl Try.isAgg2 (by rintro _ rfl; exact ((hat414 0 _ rfl).ext H.ext))) (fun a S => ?_)
       obtain ⟨x417, e418, hm⟩ := bind_some hm
       refine lx_call (xs := [.tmp 48, .tmp 53]) S trivial (by decide) rfl rfl Try.call94 ((spec_l11Place_ok (H.rdAt 0 rfl)  e418).mono ?_)
       rintro e w415 ⟨rfl, Hc416⟩
       have H := H.call0 Hc416
       refine ⟨_, rfl, trivial, fun a S => ?_⟩
       refine lx_buildSlice (r := (rInt .i64)) (xs := [x417]) (ps := [(0, [(.int .i64 x417)])]) (cs := [(.int .i64 x417)]) (parts := [(0, .tmp 54)]) S trivial (by decide) rfl (H.put0 (A := eA) rfl) rfl Try.underlying23 Try.sizeOf2 Try.zeroValue2 (by decide) ⟨rfl, rfl, Nat.le_of_ble_eq_true rfl, trivial⟩ (by intro zs hz; exact fill_dense hz ⟨rfl, trivial⟩ rfl rfl) rfl (by decide) (fun w F hA => by cases (show F = [] from hA); exact ⟨_, _, [(.int .i64 x417)], _, rfl, rfl, ⟨rfl, rfl⟩, ⟨rfl, rfl⟩⟩) (fun v420 w421 H => ⟨trivial, fun a S => ?_⟩)
       obtain ⟨x423, e424, hm⟩ := bind_some hm
       obtain ⟨hle, hap⟩ := app_some e424
       replace hap := hap.symm
       subst hap
       have H : Heap w0 [oA (rList (rInt .i64)) v420 [x417], oA (rList (rInt .i64)) v51 x49, oA (rList Rimpl_Equation) v177 xs178, bA b333 [(.bool x318.1), (.bool x318.2.1), v323] 85, oA (rList (rInt .i64)) v363 xs364] w421 := H.front 0 rfl
       have H : Heap w0 [oA (rList (rInt .i64)) v363 xs364, oA (rList (rInt .i64)) v420 [x417], oA (rList (rInt .i64)) v51 x49, oA (rList Rimpl_Equation) v177 xs178, bA b333 [(.bool x318.1), (.bool x318.2.1), v323] 85] w421 := H.front 4 rfl
       refine lx_appendOwn (r := (rInt .i64)) S trivial (by decide) rfl H rfl rfl Try.underlying23 Try.ti2 rfl rfl rfl (by decide) (by decide) hle (fun v425 w426 H => ⟨trivial, fun a S => ?_⟩)
       refine lq v425 S (q_assign rfl) fun a S => ?_
       refine lx_nil ?_
       refine inBlock_norm ?_
       refine thenN ?_
       refine region_plain ?_
       refine lq (.int .i64 x366) S (q_move rfl) fun a S => ?_
       refine lq (.int .i64 (W (x366 + (1 : Int)))) S (q_add rfl rfl) fun a S => ?_
       refine lq (.int .i64 (W (x366 + (1 : Int)))) S (q_assign rfl) fun a S => ?_
       refine lx_nil ?_
       have H : Heap w0 [bA b333 [(.bool x318.1), (.bool x318.2.1), v323] 85, oA (rList (rInt .i64)) v425 (xs364 ++ [x417]), oA (rList (rInt .i64)) v51 x49, oA (rList Rimpl_Equation) v177 xs178] w426 := H.front 3 rfl
       have H : Heap w0 [oA (rList Rimpl_Equation) v177 xs178, bA b333 [(.bool x318.1), (.bool x318.2.1), v323] 85, oA (rList (rInt .i64)) v425 (xs364 ++ [x417]), oA (rList (rInt .i64)) v51 x49] w426 := H.front 3 rfl
       have H : Heap w0 [oA (rList (rInt .i64)) v51 x49, oA (rList Rimpl_Equation) v177 xs178, bA b333 [(.bool x318.1), (.bool x318.2.1), v323] 85, oA (rList (rInt .i64)) v425 (xs364 ++ [x417])] w426 := H.front 3 rfl
       exact ⟨m406, Nat.lt_succ_self _, (xs364 ++ [x417]), (W (x366 + (1 : Int))), v425, S.sub ⟨rfl, rfl, rfl, rfl, rfl, rfl, rfl, trivial⟩, H, it_cont hm hc408⟩
      ·have hm := ite_f hc409 hm
       refine wp_exit ?_
       refine then_exit ?_
       refine then_exit ?_
       refine inBlock_exit ?_
       obtain rfl := it_brk hm hc408
       exact ⟨xs364, v363, S.sub ⟨rfl, rfl, rfl, rfl, rfl, rfl, trivial⟩, H, rfl⟩
    ·have hm := ite_f hc312 hm
     refine wp_exit ?_
     refine then_exit ?_
     refine then_exit ?_
     refine inBlock_exit ?_
     obtain rfl := it_brk hm hc311
     exact ⟨xs178, v177, S.sub ⟨rfl, rfl, trivial⟩, H, rfl⟩

/-- impl.RestrictEquations -/
def impl_RestrictEquations_m (fuel : Nat) (a0 : (List Timpl_Equation)) (a1 : Int) : Option (((List Timpl_Equation) × (List Int) × Int)) :=
  (impl_equationCode_m fuel a0 a1).bind fun x33 => (if (x33 != (0 : Int)) = true then some (([], [], x33)) else (impl_relevant_m fuel a0 a1).bind fun x41 => (iter (fun (s : (List Timpl_Equation) × (Int)) => (match s with | (xs120, x122) => (if (decide (x122 < (x41.length : Int))) = true then (idx x41 x122).bind fun x208 => (idx a0 x208).bind fun x215 => (idx a0 x208).bind fun x230 => (idx a0 x208).bind fun x245 => (impl_placesIn_m fuel x41 x245.2.2).bind fun x262 => (app xs120 [(x215.1, x230.2.1, x262)]).bind fun x270 => some (.inl (x270, (W (x122 + (1 : Int))))) else some (.inr (.inl (xs120)))) : Option (((List Timpl_Equation) × (Int)) ⊕ (((List Timpl_Equation)) ⊕ (((List Timpl_Equation) × (List Int) × Int)))))) fuel ([], (0 : Int))).bind fun res198 => ctl (β := (List Timpl_Equation)) (ρ := ((List Timpl_Equation) × (List Int) × Int)) (τ := ((List Timpl_Equation) × (List Int) × Int)) res198 (fun (xs196) => some ((xs196, x41, (0 : Int)))) (fun q => some (q)))
set_option maxRecDepth 20000 in
theorem impl_RestrictEquations_ok {w0 : World} {fuel : Nat} {p0 : Value} {a0 : (List Timpl_Equation)} {a1 : Int} {r : ((List Timpl_Equation) × (List Int) × Int)} (h0 : Rd (rList Rimpl_Equation) w0 p0 a0) (hm : impl_RestrictEquations_m fuel a0 a1 = some r) :
  Calls Try.prog 48 #[p0, .int .i64 a1] w0 fun e w => ∃ (v0 : Value) (v1 : Value), e = .returned (.tuple #[v0, v1, .int .i64 r.2.2]) ∧ Heap w0 [oA (rList Rimpl_Equation) v0 r.1, oA (rList (rInt .i64)) v1 r.2.1] w := by
 unfold impl_RestrictEquations_m at hm
 have H := Heap.start w0
 refine enter (args := [p0, .int .i64 a1]) Try.func48 rfl 51 rfl (Nat.le_of_ble_eq_true rfl) (fun a S => ?_)
 refine wp_seq (region_plain ?_)
 refine lq (.slice none 0 0) S (q_assign rfl) fun a S => ?_
 refine lq (.slice none 0 0) S (q_assign rfl) fun a S => ?_
 refine lq (.int .i64 (0 : Int)) S (q_assign rfl) fun a S => ?_
 refine lx_nil (thenN ?_)
 refine wp_seq (wp_seq (region_plain ?_))
 refine lq p0 S (q_move rfl) fun a S => ?_
 refine lq (.int .i64 a1) S (q_move rfl) fun a S => ?_
 obtain ⟨x33, e34, hm⟩ := bind_some hm
 refine lx_call (xs := [.tmp 12, .tmp 13]) S trivial (by decide) rfl rfl Try.call92 ((impl_equationCode_ok (H.arg h0)  e34).mono ?_)
 rintro e w31 ⟨rfl, Hc32⟩
 have H := H.call0 Hc32
 refine ⟨_, rfl, trivial, fun a S => ?_⟩
 refine lq (.int .i64 x33) S (q_assign rfl) fun a S => ?_
 refine lx_nil (thenN ?_)
 refine wp_seq (region_plain ?_)
 refine lq (.int .i64 x33) S (q_move rfl) fun a S => ?_
 refine lq (.bool (x33 != (0 : Int))) S (q_neq rfl rfl) fun a S => ?_
 refine lx_nil (thenN ?_)
 refine cond_b S rfl (fun hc36 => ?_) (fun hc36 => ?_)
 ·have hm := ite_t hc36 hm
  refine wp_seq (region_plain ?_)
  refine lq (.int .i64 x33) S (q_move rfl) fun a S => ?_
  refine lq (.slice none 0 0) S (q_assign rfl) fun a S => ?_
  refine lq (.slice none 0 0) S (q_assign rfl) fun a S => ?_
  refine lq (.int .i64 x33) S (q_assign rfl) fun a S => ?_
  refine lx_nil (thenN ?_)
  refine wp_ret (then_ret ?_)
  obtain rfl := Option.some.inj hm
  have H : Heap w0 [oA (rList Rimpl_Equation) (.slice none 0 0) ([] : List Timpl_Equation)] w31 := H.nilList Rimpl_Equation
  have H : Heap w0 [oA (rList (rInt .i64)) (.slice none 0 0) ([] : List Int), oA (rList Rimpl_Equation) (.slice none 0 0) ([] : List Timpl_Equation)] w31 := H.nilList (rInt .i64)
  have H : Heap w0 [oA (rList Rimpl_Equation) (.slice none 0 0) ([] : List Timpl_Equation), oA (rList (rInt .i64)) (.slice none 0 0) ([] : List Int)] w31 := H.front 1 rfl
  exact leave3 S rfl rfl rfl rfl ⟨(.slice none 0 0), (.slice none 0 0), rfl, H⟩
 ·have hm := ite_f hc36 hm
  refine wp_skip (thenN ?_)
  refine wp_seq (region_plain ?_)
  refine lq p0 S (q_move rfl) fun a S => ?_
  refine lq (.int .i64 a1) S (q_move rfl) fun a S => ?_
  obtain ⟨x41, e42, hm⟩ := bind_some hm
  refine lx_call (xs := [.tmp 18, .tmp 19]) S trivial (by decide) rfl rfl Try.call93 ((impl_relevant_ok (H.arg h0)  e42).mono ?_)
  rintro e w39 ⟨v43, rfl, Hc40⟩
  have H := H.call1 Hc40
  refine ⟨_, rfl, trivial, fun a S => ?_⟩
  refine lq v43 S (q_assign rfl) fun a S => ?_
  refine lx_nil (thenN ?_)
  refine wp_seq (region_plain ?_)
  refine lq (.slice none 0 0) S (q_assign rfl) fun a S => ?_
  refine lx_nil (thenN ?_)
  refine wp_seq (wp_seq (region_plain ?_))
  refine lq v43 S (q_move rfl) fun a S => ?_
  refine lq (.int .i64 (x41.length : Int)) S (q_lenSl rfl (H.isSl 0 rfl) rfl Try.underlying23) fun a S => ?_
  refine lq (.int .i64 (0 : Int)) S (q_move rfl) fun a S => ?_
  refine lx_nil (thenN ?_)
  obtain ⟨res198, hit199, hk202⟩ := bind_some hm
  obtain ⟨f200, hf201, hit199⟩ := iter_name hit199
  refine block_loop (fun a w => ∃ (xs196 : List Timpl_Equation) (v195 : Value), Slots a 51 [(8, v43), (9, v195)] ∧ Heap w0 [oA (rList (rInt .i64)) v43 x41, oA (rList Rimpl_Equation) v195 xs196] w ∧ res198 = .inl (xs196)) ?_ ?_
  ·rintro a w ⟨xs196, v195, S, H, rfl⟩
   have hm := ctl_inl hk202
   refine thenN ?_
   refine wp_seq (region_plain ?_)
   refine lq v195 S (q_move rfl) fun a S => ?_
   refine lq v43 S (q_move rfl) fun a S => ?_
   refine lq v195 S (q_assign rfl) fun a S => ?_
   refine lq v43 S (q_assign rfl) fun a S => ?_
   refine lq (.int .i64 (0 : Int)) S (q_assign rfl) fun a S => ?_
   refine lx_nil (thenN ?_)
   refine wp_ret ?_
   obtain rfl := Option.some.inj hm
   have H : Heap w0 [oA (rList Rimpl_Equation) v195 xs196, oA (rList (rInt .i64)) v43 x41] w := H.front 1 rfl
   exact leave3 S rfl rfl rfl rfl ⟨v195, v43, rfl, H⟩
  ·skip
   have H : Heap w0 [oA (rList Rimpl_Equation) (.slice none 0 0) ([] : List Timpl_Equation), oA (rList (rInt .i64)) v43 x41] w39 := H.nilList Rimpl_Equation
   have H : Heap w0 [oA (rList (rInt .i64)) v43 x41, oA (rList Rimpl_Equation) (.slice none 0 0) ([] : List Timpl_Equation)] w39 := H.front 1 rfl
   refine loop_ghost (fun n a w => ∃ (xs120 : List Timpl_Equation) (x122 : Int) (v119 : Value), Slots a 51 [(0, p0), (8, v43), (9, v119), (21, v43), (22, (.int .i64 (x41.length : Int))), (23, (.int .i64 x122))] ∧ Heap w0 [oA (rList (rInt .i64)) v43 x41, oA (rList Rimpl_Equation) v119 xs120] w ∧ iter f200 n (xs120, x122) = some res198) _ ⟨[], (0 : Int), (.slice none 0 0), S.sub ⟨rfl, rfl, rfl, rfl, rfl, rfl, trivial⟩, H, hit199⟩ ?_
   rintro n a w ⟨xs120, x122, v119, S, H, hit199⟩
   obtain ⟨m204, o205, rfl, hm, hc206⟩ := iter_step hit199
   rw [hf201] at hm
   refine wp_seq (region_plain ?_)
   refine lq (.bool (decide (x122 < (x41.length : Int)))) S (q_lss rfl rfl) fun a S => ?_
   refine lx_nil (thenN ?_)
   refine wp_seq ?_
   refine cond_b S rfl (fun hc207 => ?_) (fun hc207 => ?_)
   ·have hm := ite_t hc207 hm
    refine wp_skip (thenN ?_)
    refine wp_seq ?_
    refine wp_block ?_
    refine wp_seq (region_plain ?_)
    obtain ⟨x208, e209, hm⟩ := bind_some hm
    have hlt := lt_of_idx (idx_some e209).2
    refine lq (ePtr v43 (x122.toNat * 1)) S (q_indexAddr rfl (H.isSl 0 rfl) rfl (idx_some e209).1 hlt Try.underlying23 Try.sizeOf2) fun a S => ?_
    obtain ⟨c210, h211, hat212⟩ := (H.rdAt 0 rfl).elem (idx_some e209).2
    obtain rfl := h211
    refine lx_e (.int .i64 x208) S trivial (by decide) rfl trivial (q_load1 rfl Try.isAgg2 (by rintro _ rfl; exact (hat212 0 _ rfl))) (fun a S => ?_)
    refine lq (.int .i64 x208) S (q_assign rfl) fun a S => ?_
    refine lx_nil (thenN ?_)
    refine region_drawG (fun w1 => Heap w0 [] w1) (fun i => [17, 19, 20].contains i) mixed (by kernel_rfl) (fun w214 he213 => ?_)
    have H := H.later he213
    refine ⟨H.sel [] (by decide), ?_⟩
    refine lq v119 S (q_move rfl) fun a S => ?_
    refine lq p0 S (q_move rfl) fun a S => ?_
    refine lq (.int .i64 x208) S (q_move rfl) fun a S => ?_
    obtain ⟨x215, e216, hm⟩ := bind_some hm
    obtain ⟨c217, h218, hat219⟩ := (h0).elem (idx_some e216).2
    obtain ⟨c222, c223, rfl, h224, h225⟩ := h218
    obtain rfl := h224
    obtain ⟨c226, c227, rfl, h228, h229⟩ := h225
    obtain rfl := h228
    obtain ⟨v220, rfl, h221⟩ := rd_list h229
    have hlt := lt_of_idx (idx_some e216).2
    refine lq (ePtr p0 (x208.toNat * 3)) S (q_indexAddr rfl (h0).isSl rfl (idx_some e216).1 hlt Try.underlying36 Try.sizeOf85) fun a S => ?_
    refine lq (pAdd (ePtr p0 (x208.toNat * 3)) 0) S (q_fieldAddr' 0 4 rfl ((hat219 0 _ rfl).isP) Try.underlying85 rfl Try.sizeOf4) fun a S => ?_
    refine lq (.bool x215.1) S (q_load1 rfl Try.isAgg4 (fun w1 hC => (At.of_add (m := 0) (j := 0) ((hat219 0 _ rfl).ext hC.ext)))) fun a S => ?_
    refine lq p0 S (q_move rfl) fun a S => ?_
    refine lq (.int .i64 x208) S (q_move rfl) fun a S => ?_
    obtain ⟨x230, e231, hm⟩ := bind_some hm
    obtain ⟨c232, h233, hat234⟩ := (h0).elem (idx_some e231).2
    obtain ⟨c237, c238, rfl, h239, h240⟩ := h233
    obtain rfl := h239
    obtain ⟨c241, c242, rfl, h243, h244⟩ := h240
    obtain rfl := h243
    obtain ⟨v235, rfl, h236⟩ := rd_list h244
    have hlt := lt_of_idx (idx_some e231).2
    refine lq (ePtr p0 (x208.toNat * 3)) S (q_indexAddr rfl (h0).isSl rfl (idx_some e231).1 hlt Try.underlying36 Try.sizeOf85) fun a S => ?_
    refine lq (pAdd (ePtr p0 (x208.toNat * 3)) 1) S (q_fieldAddr' 1 4 rfl ((hat234 0 _ rfl).isP) Try.underlying85 rfl Try.sizeOf4) fun a S => ?_
    refine lq (.bool x230.2.1) S (q_load1 rfl Try.isAgg4 (fun w1 hC => (At.of_add (m := 1) (j := 0) ((hat234 1 _ rfl).ext hC.ext)))) fun a S => ?_
    refine lq v43 S (q_move rfl) fun a S => ?_
    refine lq p0 S (q_move rfl) fun a S => ?_
    refine lq (.int .i64 x208) S (q_move rfl) fun a S => ?_
    obtain ⟨x245, e246, hm⟩ := bind_some hm
    obtain ⟨c247, h248, hat249⟩ := (h0).elem (idx_some e246).2
    obtain ⟨c252, c253, rfl, h254, h255⟩ := h248
    obtain rfl := h254
    obtain ⟨c256, c257, rfl, h258, h259⟩ := h255
    obtain rfl := h258
    obtain ⟨v250, rfl, h251⟩ := rd_list h259
    have hlt := lt_of_idx (idx_some e246).2
    refine lq (ePtr p0 (x208.toNat * 3)) S (q_indexAddr rfl (h0).isSl rfl (idx_some e246).1 hlt Try.underlying36 Try.sizeOf85) fun a S => ?_
    refine lq (pAdd (ePtr p0 (x208.toNat * 3)) 2) S (q_fieldAddr' 2 23 rfl ((hat249 0 _ rfl).isP) Try.underlying85 rfl Try.sizeOf23) fun a S => ?_
    refine lq v250 S (q_load1 rfl Try.isAgg23 (fun w1 hC => (At.of_add (m := 2) (j := 0) ((hat249 2 _ rfl).ext hC.ext)))) fun a S => ?_
    obtain ⟨x262, e263, hm⟩ := bind_some hm
    refine lx_call (xs := [.tmp 38, .tmp 43]) S trivial (by decide) rfl rfl Try.call98 ((impl_placesIn_ok (H.rdAt 0 rfl) (H.arg h251) e263).mono ?_)
    rintro e w260 ⟨v264, rfl, Hc261⟩
    have H := H.call1 Hc261
    refine ⟨_, rfl, H.sel [] (by decide), fun a S => ?_⟩
    refine lq (.agg #[(.bool x215.1), (.bool x230.2.1), v264]) S (q_build (zs := [(.bool false), (.bool false), (.slice none 0 0)]) (szs := [1, 1, 1]) (ps := [(0, [(.bool x215.1)]), (1, [(.bool x230.2.1)]), (2, [v264])]) (parts := [(0, .tmp 32), (1, .tmp 37), (2, .tmp 44)]) rfl Try.underlying85 Try.zeroValue85 (fun w => by simp [Try.sizeOf23, Try.sizeOf4]) ⟨rfl, rfl, Nat.le_of_ble_eq_true rfl, ⟨rfl, rfl, Nat.le_of_ble_eq_true rfl, ⟨rfl, (cells_sl (H.isSl 0 rfl)), Nat.le_of_ble_eq_true rfl, trivial⟩⟩⟩ rfl) fun a S => ?_
    refine lx_buildSlice (r := Rimpl_Equation) (xs := [(x215.1, x230.2.1, x262)]) (ps := [(0, [(.bool x215.1), (.bool x230.2.1), v264])]) (cs := [(.bool x215.1), (.bool x230.2.1), v264]) (parts := [(0, .tmp 45)]) S trivial (by decide) rfl H rfl Try.underlying36 Try.sizeOf85 Try.zeroValue85 (by decide) ⟨rfl, rfl, Nat.le_of_ble_eq_true rfl, trivial⟩ (by intro zs hz; exact fill_dense hz ⟨rfl, trivial⟩ rfl rfl) rfl (by decide) (fun w F hA => ownL_one_mk (ownF ⟨_, _, [(.bool x215.1)], [(.bool x230.2.1), v264], rfl, rfl, ⟨rfl, rfl⟩, ⟨_, _, [(.bool x230.2.1)], [v264], rfl, rfl, ⟨rfl, rfl⟩, (oA_list.1 hA)⟩⟩)) (fun v267 w268 H => ⟨H.sel [] (by decide), fun a S => ?_⟩)
    obtain ⟨x270, e271, hm⟩ := bind_some hm
    obtain ⟨hle, hap⟩ := app_some e271
    replace hap := hap.symm
    subst hap
    have H : Heap w0 [oA (rList Rimpl_Equation) v267 [(x215.1, x230.2.1, x262)], oA (rList (rInt .i64)) v43 x41, oA (rList Rimpl_Equation) v119 xs120] w268 := H.front 0 rfl
    have H : Heap w0 [oA (rList Rimpl_Equation) v119 xs120, oA (rList Rimpl_Equation) v267 [(x215.1, x230.2.1, x262)], oA (rList (rInt .i64)) v43 x41] w268 := H.front 2 rfl
    refine lx_appendOwn (r := Rimpl_Equation) S trivial (by decide) rfl H rfl rfl Try.underlying36 Try.ti85 rfl rfl rfl (by decide) (by decide) hle (fun v272 w273 H => ⟨H.sel [] (by decide), fun a S => ?_⟩)
    refine lq v272 S (q_assign rfl) fun a S => ?_
    refine lx_nil ?_
    refine inBlock_norm ?_
    refine thenN ?_
    refine region_plain ?_
    refine lq (.int .i64 (W (x122 + (1 : Int)))) S (q_add rfl rfl) fun a S => ?_
    refine lq (.int .i64 (W (x122 + (1 : Int)))) S (q_move rfl) fun a S => ?_
    refine lx_nil ?_
    have H : Heap w0 [oA (rList (rInt .i64)) v43 x41, oA (rList Rimpl_Equation) v272 (xs120 ++ [(x215.1, x230.2.1, x262)])] w273 := H.front 1 rfl
    exact ⟨m204, Nat.lt_succ_self _, (xs120 ++ [(x215.1, x230.2.1, x262)]), (W (x122 + (1 : Int))), v272, S.sub ⟨rfl, rfl, rfl, rfl, rfl, rfl, trivial⟩, H, it_cont hm hc206⟩
   ·have hm := ite_f hc207 hm
    refine wp_exit ?_
    refine then_exit ?_
    refine then_exit ?_
    refine inBlock_exit ?_
    obtain rfl := it_brk hm hc206
    exact ⟨xs120, v119, S.sub ⟨rfl, rfl, trivial⟩, H, rfl⟩

/-- laws.FnExactRestrictEquations -/
def laws_FnExactRestrictEquations_m (fuel : Nat) (a0 : (List Tlaws_Equation)) (a1 : Int) : Option (Bool) :=
  (laws_szEquationS_m fuel a0 (1048576 : Int)).bind fun x33 => (if (decide (x33 < (0 : Int))) = true then some (true) else (laws_toEquationS_m fuel a0).bind fun x39 => (spec_RestrictEquations_m fuel x39 a1).bind fun x46 => (laws_toEquationS_m fuel a0).bind fun x55 => (impl_RestrictEquations_m fuel x55 a1).bind fun x62 => (laws_eqEquationS_m fuel x62.1 x46.1).bind fun x71 => (if (!x71) = true then some true else (laws_eqInt64S_m fuel x62.2.1 x46.2.1).bind fun x79 => some (!x79)).bind fun t74 => (if t74 = true then some true else some (x62.2.2 != x46.2.2)).bind fun t82 => (if t82 = true then some (false) else (laws_toEquationS_m fuel a0).bind fun x88 => (laws_eqEquationS_m fuel x55 x88).bind fun x95 => (if (!x95) = true then some (false) else (laws_markEquationS_m fuel x55 (1 : Int)).bind fun x101 => (if (decide (x101.1 < (0 : Int))) = true then some true else (laws_eqEquationS_m fuel x62.1 x46.1).bind fun x108 => some (!x108)).bind fun t103 => (if t103 = true then some true else (laws_eqInt64S_m fuel x62.2.1 x46.2.1).bind fun x116 => some (!x116)).bind fun t111 => (if t111 = true then some true else some (x62.2.2 != x46.2.2)).bind fun t119 => (if t119 = true then some (false) else (laws_markEquationS_m fuel x62.1 (1 : Int)).bind fun x125 => (laws_markInt64S_m fuel x62.2.1 x125.1).bind fun x129 => (laws_heldEquationS_m fuel x125.2 (1 : Int)).bind fun x133 => (if (decide (x133 < (0 : Int))) = true then some (false) else (laws_heldInt64S_m fuel x129.2 x133).bind fun x139 => (if (decide (x139 < (0 : Int))) = true then some (false) else (if (x139 != x129.1) = true then some (false) else (laws_toEquationS_m fuel a0).bind fun x146 => (impl_RestrictEquations_m fuel x146 a1).bind fun x153 => (laws_eqEquationS_m fuel x153.1 x46.1).bind fun x162 => (if (!x162) = true then some true else (laws_eqInt64S_m fuel x153.2.1 x46.2.1).bind fun x170 => some (!x170)).bind fun t165 => (if t165 = true then some true else some (x153.2.2 != x46.2.2)).bind fun t173 => (if t173 = true then some (false) else (laws_heldEquationS_m fuel x125.2 (1 : Int)).bind fun x179 => (if (decide (x179 < (0 : Int))) = true then some (false) else (laws_heldInt64S_m fuel x129.2 x179).bind fun x185 => (if (decide (x185 < (0 : Int))) = true then some (false) else (if (x185 != x129.1) = true then some (false) else some (true))))))))))))
set_option maxRecDepth 20000 in
theorem laws_FnExactRestrictEquations_ok {w0 : World} {fuel : Nat} {p0 : Value} {a0 : (List Tlaws_Equation)} {a1 : Int} {r : Bool} (h0 : Rd (rList Rlaws_Equation) w0 p0 a0) (hm : laws_FnExactRestrictEquations_m fuel a0 a1 = some r) :
  Calls Try.prog 11 #[p0, .int .i64 a1] w0 fun e w => e = .returned (.bool r) ∧ Heap w0 [] w := by
 unfold laws_FnExactRestrictEquations_m at hm
 have H := Heap.start w0
 refine enter (args := [p0, .int .i64 a1]) Try.func11 rfl 138 rfl (Nat.le_of_ble_eq_true rfl) (fun a S => ?_)
 refine wp_seq (region_plain ?_)
 refine lq (.bool false) S (q_assign rfl) fun a S => ?_
 refine lx_nil (thenN ?_)
 refine wp_seq (region_plain ?_)
 refine lq (.int .i64 (1048576 : Int)) S (q_assign rfl) fun a S => ?_
 refine lx_nil (thenN ?_)
 refine wp_seq (region_plain ?_)
 refine lq p0 S (q_move rfl) fun a S => ?_
 refine lq (.int .i64 (1048576 : Int)) S (q_move rfl) fun a S => ?_
 obtain ⟨x33, e34, hm⟩ := bind_some hm
 refine lx_call (xs := [.tmp 19, .tmp 20]) S trivial (by decide) rfl rfl Try.call20 ((laws_szEquationS_ok (H.arg h0)  e34).mono ?_)
 rintro e w31 ⟨rfl, Hc32⟩
 have H := H.call0 Hc32
 refine ⟨_, rfl, trivial, fun a S => ?_⟩
 refine lq (.int .i64 x33) S (q_assign rfl) fun a S => ?_
 refine lx_nil (thenN ?_)
 refine wp_seq (wp_seq (region_plain ?_))
 refine lq (.int .i64 x33) S (q_move rfl) fun a S => ?_
 refine lq (.bool (decide (x33 < (0 : Int)))) S (q_lss rfl rfl) fun a S => ?_
 refine lx_nil (thenN ?_)
 refine cond_b S rfl (fun hc36 => ?_) (fun hc36 => ?_)
 ·have hm := ite_t hc36 hm
  refine wp_seq (region_plain ?_)
  refine lq (.bool true) S (q_assign rfl) fun a S => ?_
  refine lx_nil (thenN ?_)
  refine wp_ret (then_ret ?_)
  obtain rfl := Option.some.inj hm
  exact leave1 S rfl rfl ⟨rfl, H⟩
 ·have hm := ite_f hc36 hm
  refine wp_skip (thenN ?_)
  refine wp_seq (region_plain ?_)
  refine lq p0 S (q_move rfl) fun a S => ?_
  obtain ⟨x39, e40, hm⟩ := bind_some hm
  refine lx_call (xs := [.tmp 25]) S trivial (by decide) rfl rfl Try.call22 ((laws_toEquationS_ok (H.arg h0) e40).mono ?_)
  rintro e w37 ⟨v41, rfl, Hc38⟩
  have H := H.call1 Hc38
  refine ⟨_, rfl, trivial, fun a S => ?_⟩
  refine lq (.int .i64 a1) S (q_move rfl) fun a S => ?_
  obtain ⟨x46, e47, hm⟩ := bind_some hm
  refine lx_call (xs := [.tmp 26, .tmp 27]) S trivial (by decide) rfl rfl Try.call47 ((spec_RestrictEquations_ok (H.rdAt 0 rfl)  e47).mono ?_)
  rintro e w44 ⟨v48, v49, rfl, Hc45⟩
  have H := H.call2 Hc45
  refine ⟨_, rfl, trivial, fun a S => ?_⟩
  refine lq (.tuple #[v48, v49, (.int .i64 x46.2.2)]) S (q_move rfl) fun a S => ?_
  refine lq v48 S (q_extract rfl rfl) fun a S => ?_
  refine lq v49 S (q_extract rfl rfl) fun a S => ?_
  refine lq (.int .i64 x46.2.2) S (q_extract rfl rfl) fun a S => ?_
  refine lq v48 S (q_assign rfl) fun a S => ?_
  refine lq v49 S (q_assign rfl) fun a S => ?_
  refine lq (.int .i64 x46.2.2) S (q_assign rfl) fun a S => ?_
  refine lx_nil (thenN ?_)
  refine wp_seq (region_plain ?_)
  refine lq p0 S (q_move rfl) fun a S => ?_
  obtain ⟨x55, e56, hm⟩ := bind_some hm
  refine lx_call (xs := [.tmp 32]) S trivial (by decide) rfl rfl Try.call22 ((laws_toEquationS_ok (H.arg h0) e56).mono ?_)
  rintro e w53 ⟨v57, rfl, Hc54⟩
  have H := H.call1 Hc54
  refine ⟨_, rfl, trivial, fun a S => ?_⟩
  refine lq v57 S (q_assign rfl) fun a S => ?_
  refine lx_nil (thenN ?_)
  refine wp_seq (region_plain ?_)
  refine lq v57 S (q_move rfl) fun a S => ?_
  refine lq (.int .i64 a1) S (q_move rfl) fun a S => ?_
  obtain ⟨x62, e63, hm⟩ := bind_some hm
  refine lx_call (xs := [.tmp 35, .tmp 36]) S trivial (by decide) rfl rfl Try.call48 ((impl_RestrictEquations_ok (H.rdAt 0 rfl)  e63).mono ?_)
  rintro e w60 ⟨v64, v65, rfl, Hc61⟩
  have H := H.call2 Hc61
  refine ⟨_, rfl, trivial, fun a S => ?_⟩
  refine lq (.tuple #[v64, v65, (.int .i64 x62.2.2)]) S (q_move rfl) fun a S => ?_
  refine lq v64 S (q_extract rfl rfl) fun a S => ?_
  refine lq v65 S (q_extract rfl rfl) fun a S => ?_
  refine lq (.int .i64 x62.2.2) S (q_extract rfl rfl) fun a S => ?_
  refine lq v64 S (q_assign rfl) fun a S => ?_
  refine lq v65 S (q_assign rfl) fun a S => ?_
  refine lq (.int .i64 x62.2.2) S (q_assign rfl) fun a S => ?_
  refine lx_nil (thenN ?_)
  refine wp_seq (wp_seq (region_plain ?_))
  refine lq v64 S (q_move rfl) fun a S => ?_
  refine lq v48 S (q_move rfl) fun a S => ?_
  obtain ⟨x71, e72, hm⟩ := bind_some hm
  refine lx_call (xs := [.tmp 41, .tmp 42]) S trivial (by decide) rfl rfl Try.call24 ((laws_eqEquationS_ok (H.rdAt 0 rfl) (H.rdAt 3 rfl) e72).mono ?_)
  rintro e w69 ⟨rfl, Hc70⟩
  have H := H.call0 Hc70
  refine ⟨_, rfl, trivial, fun a S => ?_⟩
  refine lq (.bool (!x71)) S (q_not rfl) fun a S => ?_
  refine lq (.bool (!x71)) S (q_move rfl) fun a S => ?_
  obtain ⟨t74, e75, hm⟩ := bind_some hm
  refine lx_cut 5 (fun a w => Slots a 138 [(0, p0), (1, (.int .i64 a1)), (6, v48), (7, v49), (8, (.int .i64 x46.2.2)), (9, v57), (10, v64), (11, v65), (12, (.int .i64 x62.2.2)), (50, (.bool t74))] ∧ Heap w0 [oA (rList Rimpl_Equation) v64 x62.1, oA (rList (rInt .i64)) v65 x62.2.1, oA (rList Rimpl_Equation) v57 x55, oA (rList Rimpl_Equation) v48 x46.1, oA (rList (rInt .i64)) v49 x46.2.1] w) ?_ ?_
  ·by_cases hc76 : (!x71) = true
   ·have hm := ite_t hc76 e75
    refine lx_skip S rfl rfl (isB_ne hc76) (by decide) (fun a S => ?_)
    refine lx_skip S rfl rfl (isB_ne hc76) (by decide) (fun a S => ?_)
    refine lx_skip S rfl rfl (isB_ne hc76) (by decide) (fun a S => ?_)
    refine lx_skip S rfl rfl (isB_ne hc76) (by decide) (fun a S => ?_)
    refine lq (.bool true) S (q_pickT' rfl hc76 rfl) fun a S => ?_
    refine lx_nil ?_
    obtain rfl := Option.some.inj hm
    have H := H.sel [0, 1, 2, 3, 4] (by decide)
    exact ⟨S.sub ⟨rfl, rfl, rfl, rfl, rfl, rfl, rfl, rfl, rfl, rfl, trivial⟩, H⟩
   ·have hm := ite_f (eq_false_of_ne_true hc76) e75
    have hc76 : (!x71) = false := eq_false_of_ne_true hc76
    refine lx_q v65 S (want_b rfl rfl hc76) (by decide) (q_move rfl) (fun a S => ?_)
    refine lx_q v49 S (want_b rfl rfl hc76) (by decide) (q_move rfl) (fun a S => ?_)
    obtain ⟨x79, e80, hm⟩ := bind_some hm
    refine lx_call (xs := [.tmp 46, .tmp 47]) S (want_b rfl rfl hc76) (by decide) rfl rfl Try.call19 ((laws_eqInt64S_ok (H.rdAt 1 rfl) (H.rdAt 4 rfl) e80).mono ?_)
    rintro e w77 ⟨rfl, Hc78⟩
    have H := H.call0 Hc78
    refine ⟨_, rfl, trivial, fun a S => ?_⟩
    refine lx_q (.bool (!x79)) S (want_b rfl rfl hc76) (by decide) (q_not rfl) (fun a S => ?_)
    refine lq (.bool (!x79)) S (q_pickF' rfl hc76 rfl) fun a S => ?_
    refine lx_nil ?_
    obtain rfl := Option.some.inj hm
    have H := H.sel [0, 1, 2, 3, 4] (by decide)
    exact ⟨S.sub ⟨rfl, rfl, rfl, rfl, rfl, rfl, rfl, rfl, rfl, rfl, trivial⟩, H⟩
  ·rintro a w ⟨S, H⟩
   refine lq (.bool t74) S (q_move rfl) fun a S => ?_
   obtain ⟨t82, e83, hm⟩ := bind_some hm
   refine lx_cut 4 (fun a w => Slots a 138 [(0, p0), (1, (.int .i64 a1)), (6, v48), (7, v49), (8, (.int .i64 x46.2.2)), (9, v57), (10, v64), (11, v65), (12, (.int .i64 x62.2.2)), (55, (.bool t82))] ∧ Heap w0 [oA (rList Rimpl_Equation) v64 x62.1, oA (rList (rInt .i64)) v65 x62.2.1, oA (rList Rimpl_Equation) v57 x55, oA (rList Rimpl_Equation) v48 x46.1, oA (rList (rInt .i64)) v49 x46.2.1] w) ?_ ?_
   ·by_cases hc84 : t74 = true
    ·have hm := ite_t hc84 e83
     refine lx_skip S rfl rfl (isB_ne hc84) (by decide) (fun a S => ?_)
     refine lx_skip S rfl rfl (isB_ne hc84) (by decide) (fun a S => ?_)
     refine lx_skip S rfl rfl (isB_ne hc84) (by decide) (fun a S => ?_)
     refine lq (.bool true) S (q_pickT' rfl hc84 rfl) fun a S => ?_
     refine lx_nil ?_
     obtain rfl := Option.some.inj hm
     exact ⟨S.sub ⟨rfl, rfl, rfl, rfl, rfl, rfl, rfl, rfl, rfl, rfl, trivial⟩, H⟩
    ·have hm := ite_f (eq_false_of_ne_true hc84) e83
     have hc84 : t74 = false := eq_false_of_ne_true hc84
     refine lx_q (.int .i64 x62.2.2) S (want_b rfl rfl hc84) (by decide) (q_move rfl) (fun a S => ?_)
     refine lx_q (.int .i64 x46.2.2) S (want_b rfl rfl hc84) (by decide) (q_move rfl) (fun a S => ?_)
     refine lx_q (.bool (x62.2.2 != x46.2.2)) S (want_b rfl rfl hc84) (by decide) (q_neq rfl rfl) (fun a S => ?_)
     refine lq (.bool (x62.2.2 != x46.2.2)) S (q_pickF' rfl hc84 rfl) fun a S => ?_
     refine lx_nil ?_
     obtain rfl := Option.some.inj hm
     exact ⟨S.sub ⟨rfl, rfl, rfl, rfl, rfl, rfl, rfl, rfl, rfl, rfl, trivial⟩, H⟩
   ·rintro a w ⟨S, H⟩
    refine lx_nil (thenN ?_)
    refine cond_b S rfl (fun hc85 => ?_) (fun hc85 => ?_)
    ·have hm := ite_t hc85 hm
     refine wp_seq (region_plain ?_)
     refine lq (.bool false) S (q_assign rfl) fun a S => ?_
     refine lx_nil (thenN ?_)
     refine wp_ret (then_ret ?_)
     obtain rfl := Option.some.inj hm
     have H : Heap w0 [] w := H.sel [] (by decide)
     exact leave1 S rfl rfl ⟨rfl, H⟩
    ·have hm := ite_f hc85 hm
     refine wp_skip (thenN ?_)
     refine wp_seq (wp_seq (region_plain ?_))
     refine lq v57 S (q_move rfl) fun a S => ?_
     refine lq p0 S (q_move rfl) fun a S => ?_
     obtain ⟨x88, e89, hm⟩ := bind_some hm
     refine lx_call (xs := [.tmp 57]) S trivial (by decide) rfl rfl Try.call22 ((laws_toEquationS_ok (H.arg h0) e89).mono ?_)
     rintro e w86 ⟨v90, rfl, Hc87⟩
     have H := H.call1 Hc87
     refine ⟨_, rfl, trivial, fun a S => ?_⟩
     obtain ⟨x95, e96, hm⟩ := bind_some hm
     refine lx_call (xs := [.tmp 56, .tmp 58]) S trivial (by decide) rfl rfl Try.call24 ((laws_eqEquationS_ok (H.rdAt 3 rfl) (H.rdAt 0 rfl) e96).mono ?_)
     rintro e w93 ⟨rfl, Hc94⟩
     have H := H.call0 Hc94
     refine ⟨_, rfl, trivial, fun a S => ?_⟩
     refine lq (.bool (!x95)) S (q_not rfl) fun a S => ?_
     refine lx_nil (thenN ?_)
     refine cond_b S rfl (fun hc98 => ?_) (fun hc98 => ?_)
     ·have hm := ite_t hc98 hm
      refine wp_seq (region_plain ?_)
      refine lq (.bool false) S (q_assign rfl) fun a S => ?_
      refine lx_nil (thenN ?_)
      refine wp_ret (then_ret ?_)
      obtain rfl := Option.some.inj hm
      have H : Heap w0 [] w93 := H.sel [] (by decide)
      exact leave1 S rfl rfl ⟨rfl, H⟩
     ·have hm := ite_f hc98 hm
      refine wp_skip (thenN ?_)
      refine wp_seq (region_plain ?_)
      refine lq (.int .i64 (1 : Int)) S (q_assign rfl) fun a S => ?_
      refine lx_nil (thenN ?_)
      refine wp_seq (region_plain ?_)
      refine lq v57 S (q_move rfl) fun a S => ?_
      refine lq (.int .i64 (1 : Int)) S (q_move rfl) fun a S => ?_
      obtain ⟨x101, e102, hm⟩ := bind_some hm
      have H : Heap w0 [oA (rList Rimpl_Equation) v57 x55, oA (rList Rimpl_Equation) v90 x88, oA (rList Rimpl_Equation) v64 x62.1, oA (rList (rInt .i64)) v65 x62.2.1, oA (rList Rimpl_Equation) v48 x46.1, oA (rList (rInt .i64)) v49 x46.2.1] w93 := H.front 3 rfl
      refine lx_call (xs := [.tmp 61, .tmp 62]) S trivial (by decide) rfl rfl Try.call25 ((laws_markEquationS_ok H  e102).mono ?_)
      rintro e w99 ⟨rfl, H⟩
      refine ⟨_, rfl, trivial, fun a S => ?_⟩
      refine lq (.int .i64 x101.1) S (q_assign rfl) fun a S => ?_
      refine lx_nil (thenN ?_)
      refine wp_seq (wp_seq (region_plain ?_))
      refine lq (.int .i64 x101.1) S (q_move rfl) fun a S => ?_
      refine lq (.bool (decide (x101.1 < (0 : Int)))) S (q_lss rfl rfl) fun a S => ?_
      refine lq (.bool (decide (x101.1 < (0 : Int)))) S (q_move rfl) fun a S => ?_
      obtain ⟨t103, e104, hm⟩ := bind_some hm
      refine lx_cut 5 (fun a w => Slots a 138 [(0, p0), (1, (.int .i64 a1)), (6, v48), (7, v49), (8, (.int .i64 x46.2.2)), (10, v64), (11, v65), (12, (.int .i64 x62.2.2)), (71, (.bool t103))] ∧ Heap w0 [oA (rList Rimpl_Equation) v64 x62.1, oA (rList (rInt .i64)) v65 x62.2.1, oA (rList Rimpl_Equation) v48 x46.1, oA (rList (rInt .i64)) v49 x46.2.1] w) ?_ ?_
      ·by_cases hc105 : (decide (x101.1 < (0 : Int))) = true
       ·have hm := ite_t hc105 e104
        refine lx_skip S rfl rfl (isB_ne hc105) (by decide) (fun a S => ?_)
        refine lx_skip S rfl rfl (isB_ne hc105) (by decide) (fun a S => ?_)
        refine lx_skip S rfl rfl (isB_ne hc105) (by decide) (fun a S => ?_)
        refine lx_skip S rfl rfl (isB_ne hc105) (by decide) (fun a S => ?_)
        refine lq (.bool true) S (q_pickT' rfl hc105 rfl) fun a S => ?_
        refine lx_nil ?_
        obtain rfl := Option.some.inj hm
        have H := H.sel [2, 3, 4, 5] (by decide)
        exact ⟨S.sub ⟨rfl, rfl, rfl, rfl, rfl, rfl, rfl, rfl, rfl, trivial⟩, H⟩
       ·have hm := ite_f (eq_false_of_ne_true hc105) e104
        have hc105 : (decide (x101.1 < (0 : Int))) = false := eq_false_of_ne_true hc105
        refine lx_q v64 S (want_b rfl rfl hc105) (by decide) (q_move rfl) (fun a S => ?_)
        refine lx_q v48 S (want_b rfl rfl hc105) (by decide) (q_move rfl) (fun a S => ?_)
        obtain ⟨x108, e109, hm⟩ := bind_some hm
        refine lx_call (xs := [.tmp 67, .tmp 68]) S (want_b rfl rfl hc105) (by decide) rfl rfl Try.call24 ((laws_eqEquationS_ok (H.rdAt 2 rfl) (H.rdAt 4 rfl) e109).mono ?_)
        rintro e w106 ⟨rfl, Hc107⟩
        have H := H.call0 Hc107
        refine ⟨_, rfl, trivial, fun a S => ?_⟩
        refine lx_q (.bool (!x108)) S (want_b rfl rfl hc105) (by decide) (q_not rfl) (fun a S => ?_)
        refine lq (.bool (!x108)) S (q_pickF' rfl hc105 rfl) fun a S => ?_
        refine lx_nil ?_
        obtain rfl := Option.some.inj hm
        have H := H.sel [2, 3, 4, 5] (by decide)
        exact ⟨S.sub ⟨rfl, rfl, rfl, rfl, rfl, rfl, rfl, rfl, rfl, trivial⟩, H⟩
      ·rintro a w ⟨S, H⟩
       refine lq (.bool t103) S (q_move rfl) fun a S => ?_
       obtain ⟨t111, e112, hm⟩ := bind_some hm
       refine lx_cut 5 (fun a w => Slots a 138 [(0, p0), (1, (.int .i64 a1)), (6, v48), (7, v49), (8, (.int .i64 x46.2.2)), (10, v64), (11, v65), (12, (.int .i64 x62.2.2)), (77, (.bool t111))] ∧ Heap w0 [oA (rList Rimpl_Equation) v64 x62.1, oA (rList (rInt .i64)) v65 x62.2.1, oA (rList Rimpl_Equation) v48 x46.1, oA (rList (rInt .i64)) v49 x46.2.1] w) ?_ ?_
       ·by_cases hc113 : t103 = true
        ·have hm := ite_t hc113 e112
         refine lx_skip S rfl rfl (isB_ne hc113) (by decide) (fun a S => ?_)
         refine lx_skip S rfl rfl (isB_ne hc113) (by decide) (fun a S => ?_)
         refine lx_skip S rfl rfl (isB_ne hc113) (by decide) (fun a S => ?_)
         refine lx_skip S rfl rfl (isB_ne hc113) (by decide) (fun a S => ?_)
         refine lq (.bool true) S (q_pickT' rfl hc113 rfl) fun a S => ?_
         refine lx_nil ?_
         obtain rfl := Option.some.inj hm
         exact ⟨S.sub ⟨rfl, rfl, rfl, rfl, rfl, rfl, rfl, rfl, rfl, trivial⟩, H⟩
        ·have hm := ite_f (eq_false_of_ne_true hc113) e112
         have hc113 : t103 = false := eq_false_of_ne_true hc113
         refine lx_q v65 S (want_b rfl rfl hc113) (by decide) (q_move rfl) (fun a S => ?_)
         refine lx_q v49 S (want_b rfl rfl hc113) (by decide) (q_move rfl) (fun a S => ?_)
         obtain ⟨x116, e117, hm⟩ := bind_some hm
         refine lx_call (xs := [.tmp 73, .tmp 74]) S (want_b rfl rfl hc113) (by decide) rfl rfl Try.call19 ((laws_eqInt64S_ok (H.rdAt 1 rfl) (H.rdAt 3 rfl) e117).mono ?_)
         rintro e w114 ⟨rfl, Hc115⟩
         have H := H.call0 Hc115
         refine ⟨_, rfl, trivial, fun a S => ?_⟩
         refine lx_q (.bool (!x116)) S (want_b rfl rfl hc113) (by decide) (q_not rfl) (fun a S => ?_)
         refine lq (.bool (!x116)) S (q_pickF' rfl hc113 rfl) fun a S => ?_
         refine lx_nil ?_
         obtain rfl := Option.some.inj hm
         exact ⟨S.sub ⟨rfl, rfl, rfl, rfl, rfl, rfl, rfl, rfl, rfl, trivial⟩, H⟩
       ·rintro a w ⟨S, H⟩
        refine lq (.bool t111) S (q_move rfl) fun a S => ?_
        obtain ⟨t119, e120, hm⟩ := bind_some hm
        refine lx_cut 4 (fun a w => Slots a 138 [(0, p0), (1, (.int .i64 a1)), (6, v48), (7, v49), (8, (.int .i64 x46.2.2)), (10, v64), (11, v65), (82, (.bool t119))] ∧ Heap w0 [oA (rList Rimpl_Equation) v64 x62.1, oA (rList (rInt .i64)) v65 x62.2.1, oA (rList Rimpl_Equation) v48 x46.1, oA (rList (rInt .i64)) v49 x46.2.1] w) ?_ ?_
        ·by_cases hc121 : t111 = true
         ·have hm := ite_t hc121 e120
          refine lx_skip S rfl rfl (isB_ne hc121) (by decide) (fun a S => ?_)
          refine lx_skip S rfl rfl (isB_ne hc121) (by decide) (fun a S => ?_)
          refine lx_skip S rfl rfl (isB_ne hc121) (by decide) (fun a S => ?_)
          refine lq (.bool true) S (q_pickT' rfl hc121 rfl) fun a S => ?_
          refine lx_nil ?_
          obtain rfl := Option.some.inj hm
          exact ⟨S.sub ⟨rfl, rfl, rfl, rfl, rfl, rfl, rfl, rfl, trivial⟩, H⟩
         ·have hm := ite_f (eq_false_of_ne_true hc121) e120
          have hc121 : t111 = false := eq_false_of_ne_true hc121
          refine lx_q (.int .i64 x62.2.2) S (want_b rfl rfl hc121) (by decide) (q_move rfl) (fun a S => ?_)
          refine lx_q (.int .i64 x46.2.2) S (want_b rfl rfl hc121) (by decide) (q_move rfl) (fun a S => ?_)
          refine lx_q (.bool (x62.2.2 != x46.2.2)) S (want_b rfl rfl hc121) (by decide) (q_neq rfl rfl) (fun a S => ?_)
          refine lq (.bool (x62.2.2 != x46.2.2)) S (q_pickF' rfl hc121 rfl) fun a S => ?_
          refine lx_nil ?_
          obtain rfl := Option.some.inj hm
          exact ⟨S.sub ⟨rfl, rfl, rfl, rfl, rfl, rfl, rfl, rfl, trivial⟩, H⟩
        ·rintro a w ⟨S, H⟩
         refine lx_nil (thenN ?_)
         refine cond_b S rfl (fun hc122 => ?_) (fun hc122 => ?_)
         ·have hm := ite_t hc122 hm
          refine wp_seq (region_plain ?_)
          refine lq (.bool false) S (q_assign rfl) fun a S => ?_
          refine lx_nil (thenN ?_)
          refine wp_ret (then_ret ?_)
          obtain rfl := Option.some.inj hm
          have H : Heap w0 [] w := H.sel [] (by decide)
          exact leave1 S rfl rfl ⟨rfl, H⟩
         ·have hm := ite_f hc122 hm
          refine wp_skip (thenN ?_)
          refine wp_seq (region_plain ?_)
          refine lq (.int .i64 (1 : Int)) S (q_assign rfl) fun a S => ?_
          refine lx_nil (thenN ?_)
          refine wp_seq (region_plain ?_)
          refine lq v64 S (q_move rfl) fun a S => ?_
          refine lq (.int .i64 (1 : Int)) S (q_move rfl) fun a S => ?_
          obtain ⟨x125, e126, hm⟩ := bind_some hm
          refine lx_call (xs := [.tmp 83, .tmp 84]) S trivial (by decide) rfl rfl Try.call25 ((laws_markEquationS_ok H  e126).mono ?_)
          rintro e w123 ⟨rfl, H⟩
          refine ⟨_, rfl, trivial, fun a S => ?_⟩
          refine lq (.int .i64 x125.1) S (q_assign rfl) fun a S => ?_
          refine lx_nil (thenN ?_)
          refine wp_seq (region_plain ?_)
          refine lq v65 S (q_move rfl) fun a S => ?_
          refine lq (.int .i64 x125.1) S (q_move rfl) fun a S => ?_
          obtain ⟨x129, e130, hm⟩ := bind_some hm
          have H : Heap w0 [oA (rList (rInt .i64)) v65 x62.2.1, oA (rList Rimpl_Equation) v64 x125.2, oA (rList Rimpl_Equation) v48 x46.1, oA (rList (rInt .i64)) v49 x46.2.1] w123 := H.front 1 rfl
          refine lx_call (xs := [.tmp 86, .tmp 87]) S trivial (by decide) rfl rfl Try.call30 ((laws_markInt64S_ok H  e130).mono ?_)
          rintro e w127 ⟨rfl, H⟩
          refine ⟨_, rfl, trivial, fun a S => ?_⟩
          refine lq (.int .i64 x129.1) S (q_assign rfl) fun a S => ?_
          refine lx_nil (thenN ?_)
          refine wp_seq (region_plain ?_)
          refine lq (.int .i64 (1 : Int)) S (q_assign rfl) fun a S => ?_
          refine lx_nil (thenN ?_)
          refine wp_seq (region_plain ?_)
          refine lq v64 S (q_move rfl) fun a S => ?_
          refine lq (.int .i64 (1 : Int)) S (q_move rfl) fun a S => ?_
          obtain ⟨x133, e134, hm⟩ := bind_some hm
          refine lx_call (xs := [.tmp 89, .tmp 90]) S trivial (by decide) rfl rfl Try.call49 ((laws_heldEquationS_ok (H.rdAt 1 rfl)  e134).mono ?_)
          rintro e w131 ⟨rfl, Hc132⟩
          have H := H.call0 Hc132
          refine ⟨_, rfl, trivial, fun a S => ?_⟩
          refine lq (.int .i64 x133) S (q_assign rfl) fun a S => ?_
          refine lx_nil (thenN ?_)
          refine wp_seq (wp_seq (region_plain ?_))
          refine lq (.int .i64 x133) S (q_move rfl) fun a S => ?_
          refine lq (.bool (decide (x133 < (0 : Int)))) S (q_lss rfl rfl) fun a S => ?_
          refine lx_nil (thenN ?_)
          refine cond_b S rfl (fun hc136 => ?_) (fun hc136 => ?_)
          ·have hm := ite_t hc136 hm
           refine wp_seq (region_plain ?_)
           refine lq (.bool false) S (q_assign rfl) fun a S => ?_
           refine lx_nil (thenN ?_)
           refine wp_ret (then_ret ?_)
           obtain rfl := Option.some.inj hm
           have H : Heap w0 [] w131 := H.sel [] (by decide)
           exact leave1 S rfl rfl ⟨rfl, H⟩
          ·have hm := ite_f hc136 hm
           refine wp_skip (thenN ?_)
           refine wp_seq (region_plain ?_)
           refine lq v65 S (q_move rfl) fun a S => ?_
           refine lq (.int .i64 x133) S (q_move rfl) fun a S => ?_
           obtain ⟨x139, e140, hm⟩ := bind_some hm
           refine lx_call (xs := [.tmp 94, .tmp 95]) S trivial (by decide) rfl rfl Try.call31 ((laws_heldInt64S_ok (H.rdAt 0 rfl)  e140).mono ?_)
           rintro e w137 ⟨rfl, Hc138⟩
           have H := H.call0 Hc138
           refine ⟨_, rfl, trivial, fun a S => ?_⟩
           refine lq (.int .i64 x139) S (q_assign rfl) fun a S => ?_
           refine lx_nil (thenN ?_)
           refine wp_seq (wp_seq (region_plain ?_))
           refine lq (.int .i64 x139) S (q_move rfl) fun a S => ?_
           refine lq (.bool (decide (x139 < (0 : Int)))) S (q_lss rfl rfl) fun a S => ?_
           refine lx_nil (thenN ?_)
           refine cond_b S rfl (fun hc142 => ?_) (fun hc142 => ?_)
           ·have hm := ite_t hc142 hm
            refine wp_seq (region_plain ?_)
            refine lq (.bool false) S (q_assign rfl) fun a S => ?_
            refine lx_nil (thenN ?_)
            refine wp_ret (then_ret ?_)
            obtain rfl := Option.some.inj hm
            have H : Heap w0 [] w137 := H.sel [] (by decide)
            exact leave1 S rfl rfl ⟨rfl, H⟩
           ·have hm := ite_f hc142 hm
            refine wp_skip (thenN ?_)
            refine wp_seq (wp_seq (region_plain ?_))
            refine lq (.int .i64 x139) S (q_move rfl) fun a S => ?_
            refine lq (.int .i64 x129.1) S (q_move rfl) fun a S => ?_
            refine lq (.bool (x139 != x129.1)) S (q_neq rfl rfl) fun a S => ?_
            refine lx_nil (thenN ?_)
            refine cond_b S rfl (fun hc143 => ?_) (fun hc143 => ?_)
            ·have hm := ite_t hc143 hm
             refine wp_seq (region_plain ?_)
             refine lq (.bool false) S (q_assign rfl) fun a S => ?_
             refine lx_nil (thenN ?_)
             refine wp_ret (then_ret ?_)
             obtain rfl := Option.some.inj hm
             have H : Heap w0 [] w137 := H.sel [] (by decide)
             exact leave1 S rfl rfl ⟨rfl, H⟩
            ·have hm := ite_f hc143 hm
             refine wp_skip (thenN ?_)
             refine wp_seq (region_plain ?_)
             refine lq p0 S (q_move rfl) fun a S => ?_
             obtain ⟨x146, e147, hm⟩ := bind_some hm
             refine lx_call (xs := [.tmp 103]) S trivial (by decide) rfl rfl Try.call22 ((laws_toEquationS_ok (H.arg h0) e147).mono ?_)
             rintro e w144 ⟨v148, rfl, Hc145⟩
             have H := H.call1 Hc145
             refine ⟨_, rfl, trivial, fun a S => ?_⟩
             refine lq (.int .i64 a1) S (q_move rfl) fun a S => ?_
             obtain ⟨x153, e154, hm⟩ := bind_some hm
             refine lx_call (xs := [.tmp 104, .tmp 105]) S trivial (by decide) rfl rfl Try.call48 ((impl_RestrictEquations_ok (H.rdAt 0 rfl)  e154).mono ?_)
             rintro e w151 ⟨v155, v156, rfl, Hc152⟩
             have H := H.call2 Hc152
             refine ⟨_, rfl, trivial, fun a S => ?_⟩
             refine lq (.tuple #[v155, v156, (.int .i64 x153.2.2)]) S (q_move rfl) fun a S => ?_
             refine lq v155 S (q_extract rfl rfl) fun a S => ?_
             refine lq v156 S (q_extract rfl rfl) fun a S => ?_
             refine lq (.int .i64 x153.2.2) S (q_extract rfl rfl) fun a S => ?_
             refine lq v155 S (q_assign rfl) fun a S => ?_
             refine lq v156 S (q_assign rfl) fun a S => ?_
             refine lq (.int .i64 x153.2.2) S (q_assign rfl) fun a S => ?_
             refine lx_nil (thenN ?_)
             refine wp_seq (wp_seq (region_plain ?_))
             refine lq v155 S (q_move rfl) fun a S => ?_
             refine lq v48 S (q_move rfl) fun a S => ?_
             obtain ⟨x162, e163, hm⟩ := bind_some hm
             refine lx_call (xs := [.tmp 110, .tmp 111]) S trivial (by decide) rfl rfl Try.call24 ((laws_eqEquationS_ok (H.rdAt 0 rfl) (H.rdAt 5 rfl) e163).mono ?_)
             rintro e w160 ⟨rfl, Hc161⟩
             have H := H.call0 Hc161
             refine ⟨_, rfl, trivial, fun a S => ?_⟩
             refine lq (.bool (!x162)) S (q_not rfl) fun a S => ?_
             refine lq (.bool (!x162)) S (q_move rfl) fun a S => ?_
             obtain ⟨t165, e166, hm⟩ := bind_some hm
             refine lx_cut 5 (fun a w => Slots a 138 [(8, (.int .i64 x46.2.2)), (10, v64), (11, v65), (14, (.int .i64 x129.1)), (18, (.int .i64 x153.2.2)), (119, (.bool t165))] ∧ Heap w0 [oA (rList (rInt .i64)) v65 x129.2, oA (rList Rimpl_Equation) v64 x125.2] w) ?_ ?_
             ·by_cases hc167 : (!x162) = true
              ·have hm := ite_t hc167 e166
               refine lx_skip S rfl rfl (isB_ne hc167) (by decide) (fun a S => ?_)
               refine lx_skip S rfl rfl (isB_ne hc167) (by decide) (fun a S => ?_)
               refine lx_skip S rfl rfl (isB_ne hc167) (by decide) (fun a S => ?_)
               refine lx_skip S rfl rfl (isB_ne hc167) (by decide) (fun a S => ?_)
               refine lq (.bool true) S (q_pickT' rfl hc167 rfl) fun a S => ?_
               refine lx_nil ?_
               obtain rfl := Option.some.inj hm
               have H := H.sel [3, 4] (by decide)
               exact ⟨S.sub ⟨rfl, rfl, rfl, rfl, rfl, rfl, trivial⟩, H⟩
              ·have hm := ite_f (eq_false_of_ne_true hc167) e166
               have hc167 : (!x162) = false := eq_false_of_ne_true hc167
               refine lx_q v156 S (want_b rfl rfl hc167) (by decide) (q_move rfl) (fun a S => ?_)
               refine lx_q v49 S (want_b rfl rfl hc167) (by decide) (q_move rfl) (fun a S => ?_)
               obtain ⟨x170, e171, hm⟩ := bind_some hm
               refine lx_call (xs := [.tmp 115, .tmp 116]) S (want_b rfl rfl hc167) (by decide) rfl rfl Try.call19 ((laws_eqInt64S_ok (H.rdAt 1 rfl) (H.rdAt 6 rfl) e171).mono ?_)
               rintro e w168 ⟨rfl, Hc169⟩
               have H := H.call0 Hc169
               refine ⟨_, rfl, trivial, fun a S => ?_⟩
               refine lx_q (.bool (!x170)) S (want_b rfl rfl hc167) (by decide) (q_not rfl) (fun a S => ?_)
               refine lq (.bool (!x170)) S (q_pickF' rfl hc167 rfl) fun a S => ?_
               refine lx_nil ?_
               obtain rfl := Option.some.inj hm
               have H := H.sel [3, 4] (by decide)
               exact ⟨S.sub ⟨rfl, rfl, rfl, rfl, rfl, rfl, trivial⟩, H⟩
             ·rintro a w ⟨S, H⟩
              refine lq (.bool t165) S (q_move rfl) fun a S => ?_
              obtain ⟨t173, e174, hm⟩ := bind_some hm
              refine lx_cut 4 (fun a w => Slots a 138 [(10, v64), (11, v65), (14, (.int .i64 x129.1)), (124, (.bool t173))] ∧ Heap w0 [oA (rList (rInt .i64)) v65 x129.2, oA (rList Rimpl_Equation) v64 x125.2] w) ?_ ?_
              ·by_cases hc175 : t165 = true
               ·have hm := ite_t hc175 e174
                refine lx_skip S rfl rfl (isB_ne hc175) (by decide) (fun a S => ?_)
                refine lx_skip S rfl rfl (isB_ne hc175) (by decide) (fun a S => ?_)
                refine lx_skip S rfl rfl (isB_ne hc175) (by decide) (fun a S => ?_)
                refine lq (.bool true) S (q_pickT' rfl hc175 rfl) fun a S => ?_
                refine lx_nil ?_
                obtain rfl := Option.some.inj hm
                exact ⟨S.sub ⟨rfl, rfl, rfl, rfl, trivial⟩, H⟩
               ·have hm := ite_f (eq_false_of_ne_true hc175) e174
                have hc175 : t165 = false := eq_false_of_ne_true hc175
                refine lx_q (.int .i64 x153.2.2) S (want_b rfl rfl hc175) (by decide) (q_move rfl) (fun a S => ?_)
                refine lx_q (.int .i64 x46.2.2) S (want_b rfl rfl hc175) (by decide) (q_move rfl) (fun a S => ?_)
                refine lx_q (.bool (x153.2.2 != x46.2.2)) S (want_b rfl rfl hc175) (by decide) (q_neq rfl rfl) (fun a S => ?_)
                refine lq (.bool (x153.2.2 != x46.2.2)) S (q_pickF' rfl hc175 rfl) fun a S => ?_
                refine lx_nil ?_
                obtain rfl := Option.some.inj hm
                exact ⟨S.sub ⟨rfl, rfl, rfl, rfl, trivial⟩, H⟩
              ·rintro a w ⟨S, H⟩
               refine lx_nil (thenN ?_)
               refine cond_b S rfl (fun hc176 => ?_) (fun hc176 => ?_)
               ·have hm := ite_t hc176 hm
                refine wp_seq (region_plain ?_)
                refine lq (.bool false) S (q_assign rfl) fun a S => ?_
                refine lx_nil (thenN ?_)
                refine wp_ret (then_ret ?_)
                obtain rfl := Option.some.inj hm
                have H : Heap w0 [] w := H.sel [] (by decide)
                exact leave1 S rfl rfl ⟨rfl, H⟩
               ·have hm := ite_f hc176 hm
                refine wp_skip (thenN ?_)
                refine wp_seq (region_plain ?_)
                refine lq (.int .i64 (1 : Int)) S (q_assign rfl) fun a S => ?_
                refine lx_nil (thenN ?_)
                refine wp_seq (region_plain ?_)
                refine lq v64 S (q_move rfl) fun a S => ?_
                refine lq (.int .i64 (1 : Int)) S (q_move rfl) fun a S => ?_
                obtain ⟨x179, e180, hm⟩ := bind_some hm
                refine lx_call (xs := [.tmp 125, .tmp 126]) S trivial (by decide) rfl rfl Try.call49 ((laws_heldEquationS_ok (H.rdAt 1 rfl)  e180).mono ?_)
                rintro e w177 ⟨rfl, Hc178⟩
                have H := H.call0 Hc178
                refine ⟨_, rfl, trivial, fun a S => ?_⟩
                refine lq (.int .i64 x179) S (q_assign rfl) fun a S => ?_
                refine lx_nil (thenN ?_)
                refine wp_seq (wp_seq (region_plain ?_))
                refine lq (.int .i64 x179) S (q_move rfl) fun a S => ?_
                refine lq (.bool (decide (x179 < (0 : Int)))) S (q_lss rfl rfl) fun a S => ?_
                refine lx_nil (thenN ?_)
                refine cond_b S rfl (fun hc182 => ?_) (fun hc182 => ?_)
                ·have hm := ite_t hc182 hm
                 refine wp_seq (region_plain ?_)
                 refine lq (.bool false) S (q_assign rfl) fun a S => ?_
                 refine lx_nil (thenN ?_)
                 refine wp_ret (then_ret ?_)
                 obtain rfl := Option.some.inj hm
                 have H : Heap w0 [] w177 := H.sel [] (by decide)
                 exact leave1 S rfl rfl ⟨rfl, H⟩
                ·have hm := ite_f hc182 hm
                 refine wp_skip (thenN ?_)
                 refine wp_seq (region_plain ?_)
                 refine lq v65 S (q_move rfl) fun a S => ?_
                 refine lq (.int .i64 x179) S (q_move rfl) fun a S => ?_
                 obtain ⟨x185, e186, hm⟩ := bind_some hm
                 refine lx_call (xs := [.tmp 130, .tmp 131]) S trivial (by decide) rfl rfl Try.call31 ((laws_heldInt64S_ok (H.rdAt 0 rfl)  e186).mono ?_)
                 rintro e w183 ⟨rfl, Hc184⟩
                 have H := H.call0 Hc184
                 refine ⟨_, rfl, trivial, fun a S => ?_⟩
                 refine lq (.int .i64 x185) S (q_assign rfl) fun a S => ?_
                 refine lx_nil (thenN ?_)
                 refine wp_seq (wp_seq (region_plain ?_))
                 refine lq (.int .i64 x185) S (q_move rfl) fun a S => ?_
                 refine lq (.bool (decide (x185 < (0 : Int)))) S (q_lss rfl rfl) fun a S => ?_
                 refine lx_nil (thenN ?_)
                 refine cond_b S rfl (fun hc188 => ?_) (fun hc188 => ?_)
                 ·have hm := ite_t hc188 hm
                  refine wp_seq (region_plain ?_)
                  refine lq (.bool false) S (q_assign rfl) fun a S => ?_
                  refine lx_nil (thenN ?_)
                  refine wp_ret (then_ret ?_)
                  obtain rfl := Option.some.inj hm
                  have H : Heap w0 [] w183 := H.sel [] (by decide)
                  exact leave1 S rfl rfl ⟨rfl, H⟩
                 ·have hm := ite_f hc188 hm
                  refine wp_skip (thenN ?_)
                  refine wp_seq (wp_seq (region_plain ?_))
                  refine lq (.int .i64 x185) S (q_move rfl) fun a S => ?_
                  refine lq (.int .i64 x129.1) S (q_move rfl) fun a S => ?_
                  refine lq (.bool (x185 != x129.1)) S (q_neq rfl rfl) fun a S => ?_
                  refine lx_nil (thenN ?_)
                  refine cond_b S rfl (fun hc189 => ?_) (fun hc189 => ?_)
                  ·have hm := ite_t hc189 hm
                   refine wp_seq (region_plain ?_)
                   refine lq (.bool false) S (q_assign rfl) fun a S => ?_
                   refine lx_nil (thenN ?_)
                   refine wp_ret (then_ret ?_)
                   obtain rfl := Option.some.inj hm
                   have H : Heap w0 [] w183 := H.sel [] (by decide)
                   exact leave1 S rfl rfl ⟨rfl, H⟩
                  ·have hm := ite_f hc189 hm
                   refine wp_skip (thenN ?_)
                   refine wp_seq (region_plain ?_)
                   refine lq (.bool true) S (q_assign rfl) fun a S => ?_
                   refine lx_nil (thenN ?_)
                   refine wp_ret ?_
                   obtain rfl := Option.some.inj hm
                   have H : Heap w0 [] w183 := H.sel [] (by decide)
                   exact leave1 S rfl rfl ⟨rfl, H⟩
end Go.Proofs.Ytecknjdlbmmmiaa
