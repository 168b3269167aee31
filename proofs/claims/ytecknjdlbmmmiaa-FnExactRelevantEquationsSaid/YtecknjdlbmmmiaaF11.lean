/- The models of some functions and their walks (printed by a program of this repo). -/
import Derived.Test.YtecknjdlbmmmiaaF0
import Derived.Test.YtecknjdlbmmmiaaF1
import Derived.Test.YtecknjdlbmmmiaaF10
import Derived.Test.YtecknjdlbmmmiaaF4
import Derived.Test.YtecknjdlbmmmiaaF5
import Derived.Test.YtecknjdlbmmmiaaF7
import Derived.Test.YtecknjdlbmmmiaaF9
import Derived.Test.YtecknjdlbmmmiaaGxT
namespace Go.Proofs.Ytecknjdlbmmmiaa
open Go.RowKit Go.Gx

/-- spec.RestrictEquations -/
def spec_RestrictEquations_m (fuel : Nat) (a0 : (List Timpl_Equation)) (a1 : Int) : Option (((List Timpl_Equation) × (List Int) × Int)) :=
  (spec_l22Is_m fuel a0).bind fun x33 => (if (!x33) = true then some (([], [], (1 : Int))) else (spec_l00In_m fuel a1 (0 : Int) (W ((a0.length : Int) - (1 : Int)))).bind fun x41 => (if (!x41) = true then some (([], [], (2 : Int))) else (spec_l22Relevant_m fuel a0 a1).bind fun x49 => (iter (fun (s : (List Timpl_Equation) × (Int)) => (match s with | (xs178, x180) => (if (decide (x180 < (x49.length : Int))) = true then (idx x49 x180).bind fun x313 => (idx a0 x313).bind fun x318 => (iter (fun (s : (List Int) × (Int)) => (match s with | (xs364, x366) => (if (decide (x366 < (x318.2.2.length : Int))) = true then (idx x318.2.2 x366).bind fun x410 => (spec_l11Place_m fuel x49 x410).bind fun x417 => (app xs364 [x417]).bind fun x423 => some (.inl (x423, (W (x366 + (1 : Int))))) else some (.inr (.inl (xs364)))) : Option (((List Int) × (Int)) ⊕ (((List Int)) ⊕ (((List Timpl_Equation) × (List Int) × Int)))))) fuel (([] : List Int), (0 : Int))).bind fun res393 => ctl (β := (List Int)) (ρ := ((List Timpl_Equation) × (List Int) × Int)) (τ := (((List Timpl_Equation) × (Int)) ⊕ (((List Timpl_Equation)) ⊕ (((List Timpl_Equation) × (List Int) × Int))))) res393 (fun (xs391) => (app xs178 [(x318.1, x318.2.1, xs391)]).bind fun x401 => some (.inl (x401, (W (x180 + (1 : Int)))))) (fun q => some (.inr (.inr q))) else some (.inr (.inl (xs178)))) : Option (((List Timpl_Equation) × (Int)) ⊕ (((List Timpl_Equation)) ⊕ (((List Timpl_Equation) × (List Int) × Int)))))) fuel (([] : List Timpl_Equation), (0 : Int))).bind fun res304 => ctl (β := (List Timpl_Equation)) (ρ := ((List Timpl_Equation) × (List Int) × Int)) (τ := ((List Timpl_Equation) × (List Int) × Int)) res304 (fun (xs302) => some ((xs302, x49, (0 : Int)))) (fun q => some (q))))
set_option maxRecDepth 20000 in
theorem spec_RestrictEquations_ok {w0 : World} {fuel : Nat} {p0 : Value} {a0 : (List Timpl_Equation)} {a1 : Int} {r : ((List Timpl_Equation) × (List Int) × Int)} (h0 : Rd (rList Rimpl_Equation) w0 p0 a0) (hm : spec_RestrictEquations_m fuel a0 a1 = some r) :
    Calls Try.prog 47 #[p0, .int .i64 a1] w0 fun e w => ∃ (v0 : Value) (v1 : Value), e = .returned (.tuple #[v0, v1, .int .i64 r.2.2]) ∧ Heap w0 [oA (rList Rimpl_Equation) v0 r.1, oA (rList (rInt .i64)) v1 r.2.1] w := by
  unfold spec_RestrictEquations_m at hm
  have H := Heap.start w0
  refine enter (args := [p0, .int .i64 a1]) Try.func47 rfl 68 rfl (Nat.le_of_ble_eq_true rfl) (fun a S => ?_)
  refine wp_seq ?_
  refine region_plain ?_
  refine lx_q (.slice none 0 0) S trivial (by decide) (q_assign rfl) (fun a S => ?_)
  refine lx_q (.slice none 0 0) S trivial (by decide) (q_assign rfl) (fun a S => ?_)
  refine lx_q (.int .i64 (0 : Int)) S trivial (by decide) (q_assign rfl) (fun a S => ?_)
  refine lx_nil ?_
  refine thenN ?_
  refine wp_seq ?_
  refine wp_seq ?_
  refine region_plain ?_
  refine lx_q p0 S trivial (by decide) (q_move rfl) (fun a S => ?_)
  obtain ⟨x33, e34, hm⟩ := bind_some hm
  refine lx_call (xs := [.tmp 13]) S trivial (by decide) rfl rfl Try.call68 ((spec_l22Is_ok (H.arg h0) e34).mono ?_)
  rintro e w31 ⟨rfl, Hc32⟩
  have he35 := Hc32.ext
  have H := H.call0 Hc32
  refine ⟨_, rfl, trivial, fun a S => ?_⟩
  refine lx_q (.bool (!x33)) S trivial (by decide) (q_not rfl) (fun a S => ?_)
  refine lx_nil ?_
  refine thenN ?_
  refine cond_b S rfl (fun hc36 => ?_) (fun hc36 => ?_)
  · have hm := ite_t hc36 hm
    refine wp_seq ?_
    refine region_plain ?_
    refine lx_q (.slice none 0 0) S trivial (by decide) (q_assign rfl) (fun a S => ?_)
    refine lx_q (.slice none 0 0) S trivial (by decide) (q_assign rfl) (fun a S => ?_)
    refine lx_q (.int .i64 (1 : Int)) S trivial (by decide) (q_assign rfl) (fun a S => ?_)
    refine lx_nil ?_
    refine thenN ?_
    refine wp_ret ?_
    refine then_ret ?_
    obtain rfl := Option.some.inj hm
    have H : Heap w0 [oA (rList Rimpl_Equation) (.slice none 0 0) ([] : List Timpl_Equation)] w31 := H.nilList Rimpl_Equation
    have H : Heap w0 [oA (rList (rInt .i64)) (.slice none 0 0) ([] : List Int), oA (rList Rimpl_Equation) (.slice none 0 0) ([] : List Timpl_Equation)] w31 := H.nilList (rInt .i64)
    have H : Heap w0 [oA (rList Rimpl_Equation) (.slice none 0 0) ([] : List Timpl_Equation), oA (rList (rInt .i64)) (.slice none 0 0) ([] : List Int)] w31 := H.front 1 rfl
    exact leave3 S rfl rfl rfl rfl ⟨(.slice none 0 0), (.slice none 0 0), rfl, H⟩
  · have hm := ite_f hc36 hm
    refine wp_skip ?_
    refine thenN ?_
    refine wp_seq ?_
    refine wp_seq ?_
    refine region_plain ?_
    refine lx_q (.int .i64 a1) S trivial (by decide) (q_move rfl) (fun a S => ?_)
    refine lx_q p0 S trivial (by decide) (q_move rfl) (fun a S => ?_)
    refine lx_q (.int .i64 (a0.length : Int)) S trivial (by decide) (q_lenSl rfl (h0).isSl rfl Try.underlying36) (fun a S => ?_)
    refine lx_q (.int .i64 (W ((a0.length : Int) - (1 : Int)))) S trivial (by decide) (q_sub rfl rfl) (fun a S => ?_)
    obtain ⟨x41, e42, hm⟩ := bind_some hm
    refine lx_call (xs := [.tmp 16, .const (.int .i64 (0)), .tmp 19]) S trivial (by decide) rfl rfl Try.call54 ((spec_l00In_ok    e42).mono ?_)
    rintro e w39 ⟨rfl, Hc40⟩
    have he43 := Hc40.ext
    have H := H.call0 Hc40
    refine ⟨_, rfl, trivial, fun a S => ?_⟩
    refine lx_q (.bool (!x41)) S trivial (by decide) (q_not rfl) (fun a S => ?_)
    refine lx_nil ?_
    refine thenN ?_
    refine cond_b S rfl (fun hc44 => ?_) (fun hc44 => ?_)
    · have hm := ite_t hc44 hm
      refine wp_seq ?_
      refine region_plain ?_
      refine lx_q (.slice none 0 0) S trivial (by decide) (q_assign rfl) (fun a S => ?_)
      refine lx_q (.slice none 0 0) S trivial (by decide) (q_assign rfl) (fun a S => ?_)
      refine lx_q (.int .i64 (2 : Int)) S trivial (by decide) (q_assign rfl) (fun a S => ?_)
      refine lx_nil ?_
      refine thenN ?_
      refine wp_ret ?_
      refine then_ret ?_
      obtain rfl := Option.some.inj hm
      have H : Heap w0 [oA (rList Rimpl_Equation) (.slice none 0 0) ([] : List Timpl_Equation)] w39 := H.nilList Rimpl_Equation
      have H : Heap w0 [oA (rList (rInt .i64)) (.slice none 0 0) ([] : List Int), oA (rList Rimpl_Equation) (.slice none 0 0) ([] : List Timpl_Equation)] w39 := H.nilList (rInt .i64)
      have H : Heap w0 [oA (rList Rimpl_Equation) (.slice none 0 0) ([] : List Timpl_Equation), oA (rList (rInt .i64)) (.slice none 0 0) ([] : List Int)] w39 := H.front 1 rfl
      exact leave3 S rfl rfl rfl rfl ⟨(.slice none 0 0), (.slice none 0 0), rfl, H⟩
    · have hm := ite_f hc44 hm
      refine wp_skip ?_
      refine thenN ?_
      refine wp_seq ?_
      refine region_plain ?_
      refine lx_q p0 S trivial (by decide) (q_move rfl) (fun a S => ?_)
      refine lx_q (.int .i64 a1) S trivial (by decide) (q_move rfl) (fun a S => ?_)
      obtain ⟨x49, e50, hm⟩ := bind_some hm
      refine lx_call (xs := [.tmp 22, .tmp 23]) S trivial (by decide) rfl rfl Try.call91 ((spec_l22Relevant_ok (H.arg h0)  e50).mono ?_)
      rintro e w47 ⟨v51, rfl, Hc48⟩
      have he53 := Hc48.ext
      have H := H.call1 Hc48
      refine ⟨_, rfl, trivial, fun a S => ?_⟩
      refine lx_q v51 S trivial (by decide) (q_assign rfl) (fun a S => ?_)
      refine lx_nil ?_
      refine thenN ?_
      refine wp_seq ?_
      refine region_plain ?_
      refine lx_buildSlice0 (r := Rimpl_Equation) S trivial (by decide) rfl H Try.underlying36 Try.sizeOf85 (fun v54 w55 H => ⟨trivial, fun a S => ?_⟩)
      refine lx_q v54 S trivial (by decide) (q_assign rfl) (fun a S => ?_)
      refine lx_nil ?_
      refine thenN ?_
      refine wp_seq ?_
      refine wp_seq ?_
      refine region_plain ?_
      refine lx_q (.int .i64 (0 : Int)) S trivial (by decide) (q_assign rfl) (fun a S => ?_)
      refine lx_nil ?_
      refine thenN ?_
      obtain ⟨res304, hit305, hk308⟩ := bind_some hm
      obtain ⟨f306, hf307, hit305⟩ := iter_name hit305
      refine block_loop (fun a w => ∃ (xs302 : List Timpl_Equation) (v301 : Value), Slots a 68 [(7, v51), (8, v301)] ∧ Heap w0 [oA (rList (rInt .i64)) v51 x49, oA (rList Rimpl_Equation) v301 xs302] w ∧ res304 = .inl (xs302)) ?_ ?_
      · rintro a w ⟨xs302, v301, S, H, rfl⟩
        have hm := ctl_inl hk308
        refine thenN ?_
        refine wp_seq ?_
        refine region_plain ?_
        refine lx_q v301 S trivial (by decide) (q_move rfl) (fun a S => ?_)
        refine lx_q v51 S trivial (by decide) (q_move rfl) (fun a S => ?_)
        refine lx_q v301 S trivial (by decide) (q_assign rfl) (fun a S => ?_)
        refine lx_q v51 S trivial (by decide) (q_assign rfl) (fun a S => ?_)
        refine lx_q (.int .i64 (0 : Int)) S trivial (by decide) (q_assign rfl) (fun a S => ?_)
        refine lx_nil ?_
        refine thenN ?_
        refine wp_ret ?_
        obtain rfl := Option.some.inj hm
        have H : Heap w0 [oA (rList Rimpl_Equation) v301 xs302, oA (rList (rInt .i64)) v51 x49] w := H.front 1 rfl
        exact leave3 S rfl rfl rfl rfl ⟨v301, v51, rfl, H⟩
      · skip
        have H : Heap w0 [oA (rList (rInt .i64)) v51 x49, oA (rList Rimpl_Equation) v54 ([] : List Timpl_Equation)] w55 := H.front 1 rfl
        refine loop_ghost (fun n a w => ∃ (xs178 : List Timpl_Equation) (x180 : Int) (v177 : Value), Slots a 68 [(0, p0), (7, v51), (8, v177), (9, (.int .i64 x180))] ∧ Heap w0 [oA (rList (rInt .i64)) v51 x49, oA (rList Rimpl_Equation) v177 xs178] w ∧ iter f306 n (xs178, x180) = some res304) _ ⟨([] : List Timpl_Equation), (0 : Int), v54, S.sub ⟨rfl, rfl, rfl, rfl, trivial⟩, H, hit305⟩ ?_
        rintro n a w ⟨xs178, x180, v177, S, H, hit305⟩
        obtain ⟨m309, o310, rfl, hm, hc311⟩ := iter_step hit305
        rw [hf307] at hm
        refine wp_seq ?_
        refine wp_seq ?_
        refine region_plain ?_
        refine lx_q (.int .i64 x180) S trivial (by decide) (q_move rfl) (fun a S => ?_)
        refine lx_q v51 S trivial (by decide) (q_move rfl) (fun a S => ?_)
        refine lx_q (.int .i64 (x49.length : Int)) S trivial (by decide) (q_lenSl rfl (H.isSl 0 rfl) rfl Try.underlying23) (fun a S => ?_)
        refine lx_q (.bool (decide (x180 < (x49.length : Int)))) S trivial (by decide) (q_lss rfl rfl) (fun a S => ?_)
        refine lx_nil ?_
        refine thenN ?_
        refine cond_b S rfl (fun hc312 => ?_) (fun hc312 => ?_)
        · have hm := ite_t hc312 hm
          refine wp_skip ?_
          refine thenN ?_
          refine wp_seq ?_
          refine wp_block ?_
          refine wp_seq ?_
          refine region_plain ?_
          refine lx_q p0 S trivial (by decide) (q_move rfl) (fun a S => ?_)
          refine lx_q v51 S trivial (by decide) (q_move rfl) (fun a S => ?_)
          refine lx_q (.int .i64 x180) S trivial (by decide) (q_move rfl) (fun a S => ?_)
          obtain ⟨x313, e314, hm⟩ := bind_some hm
          have hlt := lt_of_idx (idx_some e314).2
          refine lx_q (ePtr v51 (x180.toNat * 1)) S trivial (by decide) (q_indexAddr rfl (H.isSl 0 rfl) rfl (idx_some e314).1 hlt Try.underlying23 Try.sizeOf2) (fun a S => ?_)
          obtain ⟨c315, h316, hat317⟩ := (H.rdAt 0 rfl).elem (idx_some e314).2
          obtain rfl := h316
          refine lx_e (.int .i64 x313) S trivial (by decide) rfl trivial (q_load1 rfl Try.isAgg2 (by rintro _ rfl; exact (hat317 0 _ rfl))) (fun a S => ?_)
          obtain ⟨x318, e319, hm⟩ := bind_some hm
          obtain ⟨c320, h321, hat322⟩ := (h0).elem (idx_some e319).2
          obtain ⟨c325, c326, rfl, h327, h328⟩ := h321
          obtain rfl := h327
          obtain ⟨c329, c330, rfl, h331, h332⟩ := h328
          obtain rfl := h331
          obtain ⟨v323, rfl, h324⟩ := rd_list h332
          have hlt := lt_of_idx (idx_some e319).2
          refine lx_q (ePtr p0 (x313.toNat * 3)) S trivial (by decide) (q_indexAddr rfl (h0).isSl rfl (idx_some e319).1 hlt Try.underlying36 Try.sizeOf85) (fun a S => ?_)
          refine lx_e (.agg #[(.bool x318.1), (.bool x318.2.1), v323]) S trivial (by decide) rfl trivial (q_loadA (cs := [(.bool x318.1), (.bool x318.2.1), v323]) rfl ((hat322 0 _ rfl).isP) Try.isAgg85 Try.sizeOf85 (by rintro _ rfl; exact (fun j u hu => (hat322 j u hu).ext H.ext))) (fun a S => ?_)
          refine lx_alloc S trivial (by decide) rfl H Try.zeroValue85 rfl (fun b333 w334 H => ⟨trivial, fun a S => ?_⟩)
          refine lx_storeBox (o := 0) (i := 0) (us := [(.bool x318.1), (.bool x318.2.1), v323]) (cs' := [(.bool x318.1), (.bool x318.2.1), v323]) S trivial rfl H rfl rfl rfl rfl Try.sizeOf85 (Nat.le_of_ble_eq_true rfl) (List.forall_mem_cons.2 ⟨rfl, (List.forall_mem_cons.2 ⟨rfl, (List.forall_mem_cons.2 ⟨one_sl (h324).isSl, (fun _ h => nomatch h)⟩)⟩)⟩) rfl (fun w336 H => ⟨trivial, fun a S => ?_⟩)
          change Heap w0 [bA b333 [(.bool x318.1), (.bool x318.2.1), v323] 85, oA (rList (rInt .i64)) v51 x49, oA (rList Rimpl_Equation) v177 xs178] w336 at H
          refine lx_nil ?_
          refine thenN ?_
          refine wp_seq ?_
          refine region_plain ?_
          refine lx_buildSlice0 (r := (rInt .i64)) S trivial (by decide) rfl H Try.underlying23 Try.sizeOf2 (fun v337 w338 H => ⟨trivial, fun a S => ?_⟩)
          refine lx_q v337 S trivial (by decide) (q_assign rfl) (fun a S => ?_)
          refine lx_nil ?_
          refine thenN ?_
          refine wp_seq ?_
          refine wp_seq ?_
          refine region_plain ?_
          refine lx_q (.int .i64 (0 : Int)) S trivial (by decide) (q_assign rfl) (fun a S => ?_)
          refine lx_nil ?_
          refine thenN ?_
          obtain ⟨res393, hit394, hk397⟩ := bind_some hm
          obtain ⟨f395, hf396, hit394⟩ := iter_name hit394
          refine block_loop (fun a w => ∃ (xs391 : List Int) (v390 : Value), Slots a 68 [(0, p0), (7, v51), (8, v177), (9, (.int .i64 x180)), (10, (bp b333)), (11, v390)] ∧ Heap w0 [oA (rList (rInt .i64)) v51 x49, oA (rList Rimpl_Equation) v177 xs178, bA b333 [(.bool x318.1), (.bool x318.2.1), v323] 85, oA (rList (rInt .i64)) v390 xs391] w ∧ res393 = .inl (xs391)) ?_ ?_
          · rintro a w ⟨xs391, v390, S, H, rfl⟩
            have hm := ctl_inl hk397
            refine thenN ?_
            refine region_plain ?_
            refine lx_q v177 S trivial (by decide) (q_move rfl) (fun a S => ?_)
            refine lx_q (pAdd (bp b333) 0) S trivial (by decide) (q_fieldAddr' 0 4 rfl (isP_bp _) Try.underlying85 rfl Try.sizeOf4) (fun a S => ?_)
            refine lx_e (.bool x318.1) S trivial (by decide) rfl trivial (q_load1 rfl Try.isAgg4 (by rintro _ rfl; exact (At.of_add (m := 0) (j := 0) (boxAt (i := 2) H rfl (j := 0) rfl)))) (fun a S => ?_)
            refine lx_q (pAdd (bp b333) 1) S trivial (by decide) (q_fieldAddr' 1 4 rfl (isP_bp _) Try.underlying85 rfl Try.sizeOf4) (fun a S => ?_)
            refine lx_e (.bool x318.2.1) S trivial (by decide) rfl trivial (q_load1 rfl Try.isAgg4 (by rintro _ rfl; exact (At.of_add (m := 1) (j := 0) (boxAt (i := 2) H rfl (j := 1) rfl)))) (fun a S => ?_)
            refine lx_q v390 S trivial (by decide) (q_move rfl) (fun a S => ?_)
            refine lx_q (.agg #[(.bool x318.1), (.bool x318.2.1), v390]) S trivial (by decide) (q_build (zs := [(.bool false), (.bool false), (.slice none 0 0)]) (szs := [1, 1, 1]) (ps := [(0, [(.bool x318.1)]), (1, [(.bool x318.2.1)]), (2, [v390])]) (parts := [(0, .tmp 59), (1, .tmp 61), (2, .tmp 62)]) rfl Try.underlying85 Try.zeroValue85 (fun w => by simp [Try.sizeOf23, Try.sizeOf4]) ⟨rfl, rfl, Nat.le_of_ble_eq_true rfl, ⟨rfl, rfl, Nat.le_of_ble_eq_true rfl, ⟨rfl, (cells_sl (H.isSl 3 rfl)), Nat.le_of_ble_eq_true rfl, trivial⟩⟩⟩ rfl) (fun a S => ?_)
            have H : Heap w0 [oA (rList (rInt .i64)) v390 xs391, oA (rList (rInt .i64)) v51 x49, oA (rList Rimpl_Equation) v177 xs178, bA b333 [(.bool x318.1), (.bool x318.2.1), v323] 85] w := H.front 3 rfl
            refine lx_buildSlice (r := Rimpl_Equation) (xs := [(x318.1, x318.2.1, xs391)]) (ps := [(0, [(.bool x318.1), (.bool x318.2.1), v390])]) (cs := [(.bool x318.1), (.bool x318.2.1), v390]) (parts := [(0, .tmp 63)]) S trivial (by decide) rfl H rfl Try.underlying36 Try.sizeOf85 Try.zeroValue85 (by decide) ⟨rfl, rfl, Nat.le_of_ble_eq_true rfl, trivial⟩ (by intro zs hz; exact fill_dense hz ⟨rfl, trivial⟩ rfl rfl) rfl (by decide) (fun w F hA => ownL_one_mk (ownF ⟨_, _, [(.bool x318.1)], [(.bool x318.2.1), v390], rfl, rfl, ⟨rfl, rfl⟩, ⟨_, _, [(.bool x318.2.1)], [v390], rfl, rfl, ⟨rfl, rfl⟩, (oA_list.1 hA)⟩⟩)) (fun v398 w399 H => ⟨trivial, fun a S => ?_⟩)
            obtain ⟨x401, e402, hm⟩ := bind_some hm
            obtain ⟨hle, hap⟩ := app_some e402
            replace hap := hap.symm
            subst hap
            have H : Heap w0 [oA (rList Rimpl_Equation) v398 [(x318.1, x318.2.1, xs391)], oA (rList (rInt .i64)) v51 x49, oA (rList Rimpl_Equation) v177 xs178, bA b333 [(.bool x318.1), (.bool x318.2.1), v323] 85] w399 := H.front 0 rfl
            have H : Heap w0 [oA (rList Rimpl_Equation) v177 xs178, oA (rList Rimpl_Equation) v398 [(x318.1, x318.2.1, xs391)], oA (rList (rInt .i64)) v51 x49, bA b333 [(.bool x318.1), (.bool x318.2.1), v323] 85] w399 := H.front 2 rfl
            refine lx_appendOwn (r := Rimpl_Equation) S trivial (by decide) rfl H rfl rfl Try.underlying36 Try.ti85 rfl rfl rfl (by decide) (by decide) hle (fun v403 w404 H => ⟨trivial, fun a S => ?_⟩)
            refine lx_q v403 S trivial (by decide) (q_assign rfl) (fun a S => ?_)
            refine lx_nil ?_
            refine inBlock_norm ?_
            refine thenN ?_
            refine region_plain ?_
            refine lx_q (.int .i64 x180) S trivial (by decide) (q_move rfl) (fun a S => ?_)
            refine lx_q (.int .i64 (W (x180 + (1 : Int)))) S trivial (by decide) (q_add rfl rfl) (fun a S => ?_)
            refine lx_q (.int .i64 (W (x180 + (1 : Int)))) S trivial (by decide) (q_assign rfl) (fun a S => ?_)
            refine lx_nil ?_
            have H : Heap w0 [oA (rList (rInt .i64)) v51 x49, oA (rList Rimpl_Equation) v403 (xs178 ++ [(x318.1, x318.2.1, xs391)]), bA b333 [(.bool x318.1), (.bool x318.2.1), v323] 85] w404 := H.front 1 rfl
            have H : Heap w0 [oA (rList (rInt .i64)) v51 x49, oA (rList Rimpl_Equation) v403 (xs178 ++ [(x318.1, x318.2.1, xs391)])] w404 := H.sel [0, 1] (by decide)
            exact ⟨m309, Nat.lt_succ_self _, (xs178 ++ [(x318.1, x318.2.1, xs391)]), (W (x180 + (1 : Int))), v403, S.sub ⟨rfl, rfl, rfl, rfl, trivial⟩, H, it_cont hm hc311⟩
          · skip
            have H : Heap w0 [bA b333 [(.bool x318.1), (.bool x318.2.1), v323] 85, oA (rList (rInt .i64)) v337 ([] : List Int), oA (rList (rInt .i64)) v51 x49, oA (rList Rimpl_Equation) v177 xs178] w338 := H.front 1 rfl
            have H : Heap w0 [oA (rList Rimpl_Equation) v177 xs178, bA b333 [(.bool x318.1), (.bool x318.2.1), v323] 85, oA (rList (rInt .i64)) v337 ([] : List Int), oA (rList (rInt .i64)) v51 x49] w338 := H.front 3 rfl
            have H : Heap w0 [oA (rList (rInt .i64)) v51 x49, oA (rList Rimpl_Equation) v177 xs178, bA b333 [(.bool x318.1), (.bool x318.2.1), v323] 85, oA (rList (rInt .i64)) v337 ([] : List Int)] w338 := H.front 3 rfl
            refine loop_ghost (fun n a w => ∃ (xs364 : List Int) (x366 : Int) (v363 : Value), Slots a 68 [(0, p0), (7, v51), (8, v177), (9, (.int .i64 x180)), (10, (bp b333)), (11, v363), (12, (.int .i64 x366))] ∧ Heap w0 [oA (rList (rInt .i64)) v51 x49, oA (rList Rimpl_Equation) v177 xs178, bA b333 [(.bool x318.1), (.bool x318.2.1), v323] 85, oA (rList (rInt .i64)) v363 xs364] w ∧ iter f395 n (xs364, x366) = some res393) _ ⟨([] : List Int), (0 : Int), v337, S.sub ⟨rfl, rfl, rfl, rfl, rfl, rfl, rfl, trivial⟩, H, hit394⟩ ?_
            rintro n a w ⟨xs364, x366, v363, S, H, hit394⟩
            obtain ⟨m406, o407, rfl, hm, hc408⟩ := iter_step hit394
            rw [hf396] at hm
            refine wp_seq ?_
            refine wp_seq ?_
            refine region_plain ?_
            refine lx_q (.int .i64 x366) S trivial (by decide) (q_move rfl) (fun a S => ?_)
            refine lx_q (pAdd (bp b333) 2) S trivial (by decide) (q_fieldAddr' 2 23 rfl (isP_bp _) Try.underlying85 rfl Try.sizeOf23) (fun a S => ?_)
            refine lx_e v323 S trivial (by decide) rfl trivial (q_load1 rfl Try.isAgg23 (by rintro _ rfl; exact (At.of_add (m := 2) (j := 0) (boxAt (i := 2) H rfl (j := 2) rfl)))) (fun a S => ?_)
            refine lx_q (.int .i64 (x318.2.2.length : Int)) S trivial (by decide) (q_lenSl rfl (h324).isSl rfl Try.underlying23) (fun a S => ?_)
            refine lx_q (.bool (decide (x366 < (x318.2.2.length : Int)))) S trivial (by decide) (q_lss rfl rfl) (fun a S => ?_)
            refine lx_nil ?_
            refine thenN ?_
            refine cond_b S rfl (fun hc409 => ?_) (fun hc409 => ?_)
            · have hm := ite_t hc409 hm
              refine wp_skip ?_
              refine thenN ?_
              refine wp_seq ?_
              refine wp_block ?_
              refine region_plain ?_
              refine lx_q v363 S trivial (by decide) (q_move rfl) (fun a S => ?_)
              refine lx_q v51 S trivial (by decide) (q_move rfl) (fun a S => ?_)
              refine lx_q (pAdd (bp b333) 2) S trivial (by decide) (q_fieldAddr' 2 23 rfl (isP_bp _) Try.underlying85 rfl Try.sizeOf23) (fun a S => ?_)
              refine lx_e v323 S trivial (by decide) rfl trivial (q_load1 rfl Try.isAgg23 (by rintro _ rfl; exact (At.of_add (m := 2) (j := 0) (boxAt (i := 2) H rfl (j := 2) rfl)))) (fun a S => ?_)
              refine lx_q (.int .i64 x366) S trivial (by decide) (q_move rfl) (fun a S => ?_)
              obtain ⟨x410, e411, hm⟩ := bind_some hm
              obtain ⟨c412, h413, hat414⟩ := (h324).elem (idx_some e411).2
              obtain rfl := h413
              have hlt := lt_of_idx (idx_some e411).2
              refine lx_q (ePtr v323 (x366.toNat * 1)) S trivial (by decide) (q_indexAddr rfl (h324).isSl rfl (idx_some e411).1 hlt Try.underlying23 Try.sizeOf2) (fun a S => ?_)
              refine lx_e (.int .i64 x410) S trivial (by decide) rfl trivial (q_load1 rfl Try.isAgg2 (by rintro _ rfl; exact ((hat414 0 _ rfl).ext H.ext))) (fun a S => ?_)
              obtain ⟨x417, e418, hm⟩ := bind_some hm
              refine lx_call (xs := [.tmp 48, .tmp 53]) S trivial (by decide) rfl rfl Try.call94 ((spec_l11Place_ok (H.rdAt 0 rfl)  e418).mono ?_)
              rintro e w415 ⟨rfl, Hc416⟩
              have he419 := Hc416.ext
              have H := H.call0 Hc416
              refine ⟨_, rfl, trivial, fun a S => ?_⟩
              refine lx_buildSlice (r := (rInt .i64)) (xs := [x417]) (ps := [(0, [(.int .i64 x417)])]) (cs := [(.int .i64 x417)]) (parts := [(0, .tmp 54)]) S trivial (by decide) rfl (H.put0 (A := eA) rfl) rfl Try.underlying23 Try.sizeOf2 Try.zeroValue2 (by decide) ⟨rfl, rfl, Nat.le_of_ble_eq_true rfl, trivial⟩ (by intro zs hz; exact fill_dense hz ⟨rfl, trivial⟩ rfl rfl) rfl (by decide) (fun w F hA => by cases (show F = [] from hA); exact ⟨_, _, [(.int .i64 x417)], _, rfl, rfl, ⟨rfl, rfl⟩, ⟨rfl, rfl⟩⟩) (fun v420 w421 H => ⟨trivial, fun a S => ?_⟩)
              obtain ⟨x423, e424, hm⟩ := bind_some hm
              obtain ⟨hle, hap⟩ := app_some e424
              replace hap := hap.symm
              subst hap
              have H : Heap w0 [oA (rList (rInt .i64)) v420 [x417], oA (rList (rInt .i64)) v51 x49, oA (rList Rimpl_Equation) v177 xs178, bA b333 [(.bool x318.1), (.bool x318.2.1), v323] 85, oA (rList (rInt .i64)) v363 xs364] w421 := H.front 0 rfl
              have H : Heap w0 [oA (rList (rInt .i64)) v363 xs364, oA (rList (rInt .i64)) v420 [x417], oA (rList (rInt .i64)) v51 x49, oA (rList Rimpl_Equation) v177 xs178, bA b333 [(.bool x318.1), (.bool x318.2.1), v323] 85] w421 := H.front 4 rfl
              refine lx_appendOwn (r := (rInt .i64)) S trivial (by decide) rfl H rfl rfl Try.underlying23 Try.ti2 rfl rfl rfl (by decide) (by decide) hle (fun v425 w426 H => ⟨trivial, fun a S => ?_⟩)
              refine lx_q v425 S trivial (by decide) (q_assign rfl) (fun a S => ?_)
              refine lx_nil ?_
              refine inBlock_norm ?_
              refine thenN ?_
              refine region_plain ?_
              refine lx_q (.int .i64 x366) S trivial (by decide) (q_move rfl) (fun a S => ?_)
              refine lx_q (.int .i64 (W (x366 + (1 : Int)))) S trivial (by decide) (q_add rfl rfl) (fun a S => ?_)
              refine lx_q (.int .i64 (W (x366 + (1 : Int)))) S trivial (by decide) (q_assign rfl) (fun a S => ?_)
              refine lx_nil ?_
              have H : Heap w0 [bA b333 [(.bool x318.1), (.bool x318.2.1), v323] 85, oA (rList (rInt .i64)) v425 (xs364 ++ [x417]), oA (rList (rInt .i64)) v51 x49, oA (rList Rimpl_Equation) v177 xs178] w426 := H.front 3 rfl
              have H : Heap w0 [oA (rList Rimpl_Equation) v177 xs178, bA b333 [(.bool x318.1), (.bool x318.2.1), v323] 85, oA (rList (rInt .i64)) v425 (xs364 ++ [x417]), oA (rList (rInt .i64)) v51 x49] w426 := H.front 3 rfl
              have H : Heap w0 [oA (rList (rInt .i64)) v51 x49, oA (rList Rimpl_Equation) v177 xs178, bA b333 [(.bool x318.1), (.bool x318.2.1), v323] 85, oA (rList (rInt .i64)) v425 (xs364 ++ [x417])] w426 := H.front 3 rfl
              exact ⟨m406, Nat.lt_succ_self _, (xs364 ++ [x417]), (W (x366 + (1 : Int))), v425, S.sub ⟨rfl, rfl, rfl, rfl, rfl, rfl, rfl, trivial⟩, H, it_cont hm hc408⟩
            · have hm := ite_f hc409 hm
              refine wp_exit ?_
              refine then_exit ?_
              refine then_exit ?_
              refine inBlock_exit ?_
              obtain rfl := it_brk hm hc408
              exact ⟨xs364, v363, S.sub ⟨rfl, rfl, rfl, rfl, rfl, rfl, trivial⟩, H, rfl⟩
        · have hm := ite_f hc312 hm
          refine wp_exit ?_
          refine then_exit ?_
          refine then_exit ?_
          refine inBlock_exit ?_
          obtain rfl := it_brk hm hc311
          exact ⟨xs178, v177, S.sub ⟨rfl, rfl, trivial⟩, H, rfl⟩

/-- impl.RestrictEquations -/
def impl_RestrictEquations_m (fuel : Nat) (a0 : (List Timpl_Equation)) (a1 : Int) : Option (((List Timpl_Equation) × (List Int) × Int)) :=
  (impl_equationCode_m fuel a0 a1).bind fun x33 => (if (x33 != (0 : Int)) = true then some (([], [], x33)) else (impl_relevant_m fuel a0 a1).bind fun x41 => (iter (fun (s : (List Timpl_Equation) × (Int)) => (match s with | (xs120, x122) => (if (decide (x122 < (x41.length : Int))) = true then (idx x41 x122).bind fun x208 => (idx a0 x208).bind fun x215 => (idx a0 x208).bind fun x230 => (idx a0 x208).bind fun x245 => (impl_placesIn_m fuel x41 x245.2.2).bind fun x262 => (app xs120 [(x215.1, x230.2.1, x262)]).bind fun x270 => some (.inl (x270, (W (x122 + (1 : Int))))) else some (.inr (.inl (xs120)))) : Option (((List Timpl_Equation) × (Int)) ⊕ (((List Timpl_Equation)) ⊕ (((List Timpl_Equation) × (List Int) × Int)))))) fuel ([], (0 : Int))).bind fun res198 => ctl (β := (List Timpl_Equation)) (ρ := ((List Timpl_Equation) × (List Int) × Int)) (τ := ((List Timpl_Equation) × (List Int) × Int)) res198 (fun (xs196) => some ((xs196, x41, (0 : Int)))) (fun q => some (q)))
set_option maxRecDepth 20000 in
theorem impl_RestrictEquations_ok {w0 : World} {fuel : Nat} {p0 : Value} {a0 : (List Timpl_Equation)} {a1 : Int} {r : ((List Timpl_Equation) × (List Int) × Int)} (h0 : Rd (rList Rimpl_Equation) w0 p0 a0) (hm : impl_RestrictEquations_m fuel a0 a1 = some r) :
    Calls Try.prog 48 #[p0, .int .i64 a1] w0 fun e w => ∃ (v0 : Value) (v1 : Value), e = .returned (.tuple #[v0, v1, .int .i64 r.2.2]) ∧ Heap w0 [oA (rList Rimpl_Equation) v0 r.1, oA (rList (rInt .i64)) v1 r.2.1] w := by
  unfold impl_RestrictEquations_m at hm
  have H := Heap.start w0
  refine enter (args := [p0, .int .i64 a1]) Try.func48 rfl 51 rfl (Nat.le_of_ble_eq_true rfl) (fun a S => ?_)
  refine wp_seq ?_
  refine region_plain ?_
  refine lx_q (.slice none 0 0) S trivial (by decide) (q_assign rfl) (fun a S => ?_)
  refine lx_q (.slice none 0 0) S trivial (by decide) (q_assign rfl) (fun a S => ?_)
  refine lx_q (.int .i64 (0 : Int)) S trivial (by decide) (q_assign rfl) (fun a S => ?_)
  refine lx_nil ?_
  refine thenN ?_
  refine wp_seq ?_
  refine wp_seq ?_
  refine region_plain ?_
  refine lx_q p0 S trivial (by decide) (q_move rfl) (fun a S => ?_)
  refine lx_q (.int .i64 a1) S trivial (by decide) (q_move rfl) (fun a S => ?_)
  obtain ⟨x33, e34, hm⟩ := bind_some hm
  refine lx_call (xs := [.tmp 12, .tmp 13]) S trivial (by decide) rfl rfl Try.call92 ((impl_equationCode_ok (H.arg h0)  e34).mono ?_)
  rintro e w31 ⟨rfl, Hc32⟩
  have he35 := Hc32.ext
  have H := H.call0 Hc32
  refine ⟨_, rfl, trivial, fun a S => ?_⟩
  refine lx_q (.int .i64 x33) S trivial (by decide) (q_assign rfl) (fun a S => ?_)
  refine lx_nil ?_
  refine thenN ?_
  refine wp_seq ?_
  refine region_plain ?_
  refine lx_q (.int .i64 x33) S trivial (by decide) (q_move rfl) (fun a S => ?_)
  refine lx_q (.bool (x33 != (0 : Int))) S trivial (by decide) (q_neq rfl rfl) (fun a S => ?_)
  refine lx_nil ?_
  refine thenN ?_
  refine cond_b S rfl (fun hc36 => ?_) (fun hc36 => ?_)
  · have hm := ite_t hc36 hm
    refine wp_seq ?_
    refine region_plain ?_
    refine lx_q (.int .i64 x33) S trivial (by decide) (q_move rfl) (fun a S => ?_)
    refine lx_q (.slice none 0 0) S trivial (by decide) (q_assign rfl) (fun a S => ?_)
    refine lx_q (.slice none 0 0) S trivial (by decide) (q_assign rfl) (fun a S => ?_)
    refine lx_q (.int .i64 x33) S trivial (by decide) (q_assign rfl) (fun a S => ?_)
    refine lx_nil ?_
    refine thenN ?_
    refine wp_ret ?_
    refine then_ret ?_
    obtain rfl := Option.some.inj hm
    have H : Heap w0 [oA (rList Rimpl_Equation) (.slice none 0 0) ([] : List Timpl_Equation)] w31 := H.nilList Rimpl_Equation
    have H : Heap w0 [oA (rList (rInt .i64)) (.slice none 0 0) ([] : List Int), oA (rList Rimpl_Equation) (.slice none 0 0) ([] : List Timpl_Equation)] w31 := H.nilList (rInt .i64)
    have H : Heap w0 [oA (rList Rimpl_Equation) (.slice none 0 0) ([] : List Timpl_Equation), oA (rList (rInt .i64)) (.slice none 0 0) ([] : List Int)] w31 := H.front 1 rfl
    exact leave3 S rfl rfl rfl rfl ⟨(.slice none 0 0), (.slice none 0 0), rfl, H⟩
  · have hm := ite_f hc36 hm
    refine wp_skip ?_
    refine thenN ?_
    refine wp_seq ?_
    refine region_plain ?_
    refine lx_q p0 S trivial (by decide) (q_move rfl) (fun a S => ?_)
    refine lx_q (.int .i64 a1) S trivial (by decide) (q_move rfl) (fun a S => ?_)
    obtain ⟨x41, e42, hm⟩ := bind_some hm
    refine lx_call (xs := [.tmp 18, .tmp 19]) S trivial (by decide) rfl rfl Try.call93 ((impl_relevant_ok (H.arg h0)  e42).mono ?_)
    rintro e w39 ⟨v43, rfl, Hc40⟩
    have he45 := Hc40.ext
    have H := H.call1 Hc40
    refine ⟨_, rfl, trivial, fun a S => ?_⟩
    refine lx_q v43 S trivial (by decide) (q_assign rfl) (fun a S => ?_)
    refine lx_nil ?_
    refine thenN ?_
    refine wp_seq ?_
    refine region_plain ?_
    refine lx_q (.slice none 0 0) S trivial (by decide) (q_assign rfl) (fun a S => ?_)
    refine lx_nil ?_
    refine thenN ?_
    refine wp_seq ?_
    refine wp_seq ?_
    refine region_plain ?_
    refine lx_q v43 S trivial (by decide) (q_move rfl) (fun a S => ?_)
    refine lx_q (.int .i64 (x41.length : Int)) S trivial (by decide) (q_lenSl rfl (H.isSl 0 rfl) rfl Try.underlying23) (fun a S => ?_)
    refine lx_q (.int .i64 (0 : Int)) S trivial (by decide) (q_move rfl) (fun a S => ?_)
    refine lx_nil ?_
    refine thenN ?_
    obtain ⟨res198, hit199, hk202⟩ := bind_some hm
    obtain ⟨f200, hf201, hit199⟩ := iter_name hit199
    refine block_loop (fun a w => ∃ (xs196 : List Timpl_Equation) (v195 : Value), Slots a 51 [(8, v43), (9, v195)] ∧ Heap w0 [oA (rList (rInt .i64)) v43 x41, oA (rList Rimpl_Equation) v195 xs196] w ∧ res198 = .inl (xs196)) ?_ ?_
    · rintro a w ⟨xs196, v195, S, H, rfl⟩
      have hm := ctl_inl hk202
      refine thenN ?_
      refine wp_seq ?_
      refine region_plain ?_
      refine lx_q v195 S trivial (by decide) (q_move rfl) (fun a S => ?_)
      refine lx_q v43 S trivial (by decide) (q_move rfl) (fun a S => ?_)
      refine lx_q v195 S trivial (by decide) (q_assign rfl) (fun a S => ?_)
      refine lx_q v43 S trivial (by decide) (q_assign rfl) (fun a S => ?_)
      refine lx_q (.int .i64 (0 : Int)) S trivial (by decide) (q_assign rfl) (fun a S => ?_)
      refine lx_nil ?_
      refine thenN ?_
      refine wp_ret ?_
      obtain rfl := Option.some.inj hm
      have H : Heap w0 [oA (rList Rimpl_Equation) v195 xs196, oA (rList (rInt .i64)) v43 x41] w := H.front 1 rfl
      exact leave3 S rfl rfl rfl rfl ⟨v195, v43, rfl, H⟩
    · skip
      have H : Heap w0 [oA (rList Rimpl_Equation) (.slice none 0 0) ([] : List Timpl_Equation), oA (rList (rInt .i64)) v43 x41] w39 := H.nilList Rimpl_Equation
      have H : Heap w0 [oA (rList (rInt .i64)) v43 x41, oA (rList Rimpl_Equation) (.slice none 0 0) ([] : List Timpl_Equation)] w39 := H.front 1 rfl
      refine loop_ghost (fun n a w => ∃ (xs120 : List Timpl_Equation) (x122 : Int) (v119 : Value), Slots a 51 [(0, p0), (8, v43), (9, v119), (21, v43), (22, (.int .i64 (x41.length : Int))), (23, (.int .i64 x122))] ∧ Heap w0 [oA (rList (rInt .i64)) v43 x41, oA (rList Rimpl_Equation) v119 xs120] w ∧ iter f200 n (xs120, x122) = some res198) _ ⟨[], (0 : Int), (.slice none 0 0), S.sub ⟨rfl, rfl, rfl, rfl, rfl, rfl, trivial⟩, H, hit199⟩ ?_
      rintro n a w ⟨xs120, x122, v119, S, H, hit199⟩
      obtain ⟨m204, o205, rfl, hm, hc206⟩ := iter_step hit199
      rw [hf201] at hm
      refine wp_seq ?_
      refine region_plain ?_
      refine lx_q (.bool (decide (x122 < (x41.length : Int)))) S trivial (by decide) (q_lss rfl rfl) (fun a S => ?_)
      refine lx_nil ?_
      refine thenN ?_
      refine wp_seq ?_
      refine cond_b S rfl (fun hc207 => ?_) (fun hc207 => ?_)
      · have hm := ite_t hc207 hm
        refine wp_skip ?_
        refine thenN ?_
        refine wp_seq ?_
        refine wp_block ?_
        refine wp_seq ?_
        refine region_plain ?_
        obtain ⟨x208, e209, hm⟩ := bind_some hm
        have hlt := lt_of_idx (idx_some e209).2
        refine lx_q (ePtr v43 (x122.toNat * 1)) S trivial (by decide) (q_indexAddr rfl (H.isSl 0 rfl) rfl (idx_some e209).1 hlt Try.underlying23 Try.sizeOf2) (fun a S => ?_)
        obtain ⟨c210, h211, hat212⟩ := (H.rdAt 0 rfl).elem (idx_some e209).2
        obtain rfl := h211
        refine lx_e (.int .i64 x208) S trivial (by decide) rfl trivial (q_load1 rfl Try.isAgg2 (by rintro _ rfl; exact (hat212 0 _ rfl))) (fun a S => ?_)
        refine lx_q (.int .i64 x208) S trivial (by decide) (q_assign rfl) (fun a S => ?_)
        refine lx_nil ?_
        refine thenN ?_
        refine region_drawG (fun w1 => Heap w0 [] w1) (fun i => [17, 19, 20].contains i) mixed (by kernel_rfl) (fun w214 he213 => ?_)
        have H := H.later he213
        refine ⟨H.sel [] (by decide), ?_⟩
        refine lx_q v119 S trivial (by decide) (q_move rfl) (fun a S => ?_)
        refine lx_q p0 S trivial (by decide) (q_move rfl) (fun a S => ?_)
        refine lx_q (.int .i64 x208) S trivial (by decide) (q_move rfl) (fun a S => ?_)
        obtain ⟨x215, e216, hm⟩ := bind_some hm
        obtain ⟨c217, h218, hat219⟩ := (h0).elem (idx_some e216).2
        obtain ⟨c222, c223, rfl, h224, h225⟩ := h218
        obtain rfl := h224
        obtain ⟨c226, c227, rfl, h228, h229⟩ := h225
        obtain rfl := h228
        obtain ⟨v220, rfl, h221⟩ := rd_list h229
        have hlt := lt_of_idx (idx_some e216).2
        refine lx_q (ePtr p0 (x208.toNat * 3)) S trivial (by decide) (q_indexAddr rfl (h0).isSl rfl (idx_some e216).1 hlt Try.underlying36 Try.sizeOf85) (fun a S => ?_)
        refine lx_q (pAdd (ePtr p0 (x208.toNat * 3)) 0) S trivial (by decide) (q_fieldAddr' 0 4 rfl ((hat219 0 _ rfl).isP) Try.underlying85 rfl Try.sizeOf4) (fun a S => ?_)
        refine lx_q (.bool x215.1) S trivial (by decide) (q_load1 rfl Try.isAgg4 (fun w1 hC => (At.of_add (m := 0) (j := 0) ((hat219 0 _ rfl).ext hC.ext)))) (fun a S => ?_)
        refine lx_q p0 S trivial (by decide) (q_move rfl) (fun a S => ?_)
        refine lx_q (.int .i64 x208) S trivial (by decide) (q_move rfl) (fun a S => ?_)
        obtain ⟨x230, e231, hm⟩ := bind_some hm
        obtain ⟨c232, h233, hat234⟩ := (h0).elem (idx_some e231).2
        obtain ⟨c237, c238, rfl, h239, h240⟩ := h233
        obtain rfl := h239
        obtain ⟨c241, c242, rfl, h243, h244⟩ := h240
        obtain rfl := h243
        obtain ⟨v235, rfl, h236⟩ := rd_list h244
        have hlt := lt_of_idx (idx_some e231).2
        refine lx_q (ePtr p0 (x208.toNat * 3)) S trivial (by decide) (q_indexAddr rfl (h0).isSl rfl (idx_some e231).1 hlt Try.underlying36 Try.sizeOf85) (fun a S => ?_)
        refine lx_q (pAdd (ePtr p0 (x208.toNat * 3)) 1) S trivial (by decide) (q_fieldAddr' 1 4 rfl ((hat234 0 _ rfl).isP) Try.underlying85 rfl Try.sizeOf4) (fun a S => ?_)
        refine lx_q (.bool x230.2.1) S trivial (by decide) (q_load1 rfl Try.isAgg4 (fun w1 hC => (At.of_add (m := 1) (j := 0) ((hat234 1 _ rfl).ext hC.ext)))) (fun a S => ?_)
        refine lx_q v43 S trivial (by decide) (q_move rfl) (fun a S => ?_)
        refine lx_q p0 S trivial (by decide) (q_move rfl) (fun a S => ?_)
        refine lx_q (.int .i64 x208) S trivial (by decide) (q_move rfl) (fun a S => ?_)
        obtain ⟨x245, e246, hm⟩ := bind_some hm
        obtain ⟨c247, h248, hat249⟩ := (h0).elem (idx_some e246).2
        obtain ⟨c252, c253, rfl, h254, h255⟩ := h248
        obtain rfl := h254
        obtain ⟨c256, c257, rfl, h258, h259⟩ := h255
        obtain rfl := h258
        obtain ⟨v250, rfl, h251⟩ := rd_list h259
        have hlt := lt_of_idx (idx_some e246).2
        refine lx_q (ePtr p0 (x208.toNat * 3)) S trivial (by decide) (q_indexAddr rfl (h0).isSl rfl (idx_some e246).1 hlt Try.underlying36 Try.sizeOf85) (fun a S => ?_)
        refine lx_q (pAdd (ePtr p0 (x208.toNat * 3)) 2) S trivial (by decide) (q_fieldAddr' 2 23 rfl ((hat249 0 _ rfl).isP) Try.underlying85 rfl Try.sizeOf23) (fun a S => ?_)
        refine lx_q v250 S trivial (by decide) (q_load1 rfl Try.isAgg23 (fun w1 hC => (At.of_add (m := 2) (j := 0) ((hat249 2 _ rfl).ext hC.ext)))) (fun a S => ?_)
        obtain ⟨x262, e263, hm⟩ := bind_some hm
        refine lx_call (xs := [.tmp 38, .tmp 43]) S trivial (by decide) rfl rfl Try.call98 ((impl_placesIn_ok (H.rdAt 0 rfl) (H.arg h251) e263).mono ?_)
        rintro e w260 ⟨v264, rfl, Hc261⟩
        have he266 := Hc261.ext
        have H := H.call1 Hc261
        refine ⟨_, rfl, H.sel [] (by decide), fun a S => ?_⟩
        refine lx_q (.agg #[(.bool x215.1), (.bool x230.2.1), v264]) S trivial (by decide) (q_build (zs := [(.bool false), (.bool false), (.slice none 0 0)]) (szs := [1, 1, 1]) (ps := [(0, [(.bool x215.1)]), (1, [(.bool x230.2.1)]), (2, [v264])]) (parts := [(0, .tmp 32), (1, .tmp 37), (2, .tmp 44)]) rfl Try.underlying85 Try.zeroValue85 (fun w => by simp [Try.sizeOf23, Try.sizeOf4]) ⟨rfl, rfl, Nat.le_of_ble_eq_true rfl, ⟨rfl, rfl, Nat.le_of_ble_eq_true rfl, ⟨rfl, (cells_sl (H.isSl 0 rfl)), Nat.le_of_ble_eq_true rfl, trivial⟩⟩⟩ rfl) (fun a S => ?_)
        refine lx_buildSlice (r := Rimpl_Equation) (xs := [(x215.1, x230.2.1, x262)]) (ps := [(0, [(.bool x215.1), (.bool x230.2.1), v264])]) (cs := [(.bool x215.1), (.bool x230.2.1), v264]) (parts := [(0, .tmp 45)]) S trivial (by decide) rfl H rfl Try.underlying36 Try.sizeOf85 Try.zeroValue85 (by decide) ⟨rfl, rfl, Nat.le_of_ble_eq_true rfl, trivial⟩ (by intro zs hz; exact fill_dense hz ⟨rfl, trivial⟩ rfl rfl) rfl (by decide) (fun w F hA => ownL_one_mk (ownF ⟨_, _, [(.bool x215.1)], [(.bool x230.2.1), v264], rfl, rfl, ⟨rfl, rfl⟩, ⟨_, _, [(.bool x230.2.1)], [v264], rfl, rfl, ⟨rfl, rfl⟩, (oA_list.1 hA)⟩⟩)) (fun v267 w268 H => ⟨H.sel [] (by decide), fun a S => ?_⟩)
        obtain ⟨x270, e271, hm⟩ := bind_some hm
        obtain ⟨hle, hap⟩ := app_some e271
        replace hap := hap.symm
        subst hap
        have H : Heap w0 [oA (rList Rimpl_Equation) v267 [(x215.1, x230.2.1, x262)], oA (rList (rInt .i64)) v43 x41, oA (rList Rimpl_Equation) v119 xs120] w268 := H.front 0 rfl
        have H : Heap w0 [oA (rList Rimpl_Equation) v119 xs120, oA (rList Rimpl_Equation) v267 [(x215.1, x230.2.1, x262)], oA (rList (rInt .i64)) v43 x41] w268 := H.front 2 rfl
        refine lx_appendOwn (r := Rimpl_Equation) S trivial (by decide) rfl H rfl rfl Try.underlying36 Try.ti85 rfl rfl rfl (by decide) (by decide) hle (fun v272 w273 H => ⟨H.sel [] (by decide), fun a S => ?_⟩)
        refine lx_q v272 S trivial (by decide) (q_assign rfl) (fun a S => ?_)
        refine lx_nil ?_
        refine inBlock_norm ?_
        refine thenN ?_
        refine region_plain ?_
        refine lx_q (.int .i64 (W (x122 + (1 : Int)))) S trivial (by decide) (q_add rfl rfl) (fun a S => ?_)
        refine lx_q (.int .i64 (W (x122 + (1 : Int)))) S trivial (by decide) (q_move rfl) (fun a S => ?_)
        refine lx_nil ?_
        have H : Heap w0 [oA (rList (rInt .i64)) v43 x41, oA (rList Rimpl_Equation) v272 (xs120 ++ [(x215.1, x230.2.1, x262)])] w273 := H.front 1 rfl
        exact ⟨m204, Nat.lt_succ_self _, (xs120 ++ [(x215.1, x230.2.1, x262)]), (W (x122 + (1 : Int))), v272, S.sub ⟨rfl, rfl, rfl, rfl, rfl, rfl, trivial⟩, H, it_cont hm hc206⟩
      · have hm := ite_f hc207 hm
        refine wp_exit ?_
        refine then_exit ?_
        refine then_exit ?_
        refine inBlock_exit ?_
        obtain rfl := it_brk hm hc206
        exact ⟨xs120, v119, S.sub ⟨rfl, rfl, trivial⟩, H, rfl⟩

/-- laws.heldEquationS -/
def laws_heldEquationS_m (fuel : Nat) (a0 : (List Timpl_Equation)) (a1 : Int) : Option (Int) :=
  (iter (fun (s : (Int) × (Int)) => (match s with | (x87, x88) => (if (decide (x88 < (a0.length : Int))) = true then (idx a0 x88).bind fun x155 => (if (x155.1 != ((x87.tmod (3 : Int)) == (0 : Int))) = true then some (.inr (.inr (-1 : Int))) else (idx a0 x88).bind fun x171 => (if (x171.2.1 != (((W (x87 + (1 : Int))).tmod (3 : Int)) == (0 : Int))) = true then some (.inr (.inr (-1 : Int))) else (idx a0 x88).bind fun x187 => (laws_heldInt64S_m fuel x187.2.2 (W ((W (x87 + (1 : Int))) + (1 : Int)))).bind fun x204 => (if (decide (x204 < (0 : Int))) = true then some (.inr (.inr (-1 : Int))) else some (.inl (x204, (W (x88 + (1 : Int)))))))) else some (.inr (.inl (x87)))) : Option (((Int) × (Int)) ⊕ ((Int) ⊕ (Int))))) fuel (a1, (0 : Int))).bind fun res146 => ctl (β := Int) (ρ := Int) (τ := Int) res146 (fun (x145) => some (x145)) (fun q => some (q))
set_option maxRecDepth 20000 in
theorem laws_heldEquationS_ok {w0 : World} {fuel : Nat} {p0 : Value} {a0 : (List Timpl_Equation)} {a1 : Int} {r : Int} (h0 : Rd (rList Rimpl_Equation) w0 p0 a0) (hm : laws_heldEquationS_m fuel a0 a1 = some r) :
    Calls Try.prog 49 #[p0, .int .i64 a1] w0 fun e w => e = .returned (.int .i64 r) ∧ Heap w0 [] w := by
  unfold laws_heldEquationS_m at hm
  have H := Heap.start w0
  refine enter (args := [p0, .int .i64 a1]) Try.func49 rfl 44 rfl (Nat.le_of_ble_eq_true rfl) (fun a S => ?_)
  refine wp_seq ?_
  refine region_plain ?_
  refine lx_q (.int .i64 (0 : Int)) S trivial (by decide) (q_assign rfl) (fun a S => ?_)
  refine lx_nil ?_
  refine thenN ?_
  refine wp_seq ?_
  refine wp_seq ?_
  refine region_plain ?_
  refine lx_q (.int .i64 (0 : Int)) S trivial (by decide) (q_assign rfl) (fun a S => ?_)
  refine lx_nil ?_
  refine thenN ?_
  obtain ⟨res146, hit147, hk150⟩ := bind_some hm
  obtain ⟨f148, hf149, hit147⟩ := iter_name hit147
  refine block_loop (fun a w => ∃ (x145 : Int), Slots a 44 [(1, (.int .i64 x145))] ∧ Heap w0 [] w ∧ res146 = .inl (x145)) ?_ ?_
  · rintro a w ⟨x145, S, H, rfl⟩
    have hm := ctl_inl hk150
    refine thenN ?_
    refine wp_seq ?_
    refine region_plain ?_
    refine lx_q (.int .i64 x145) S trivial (by decide) (q_move rfl) (fun a S => ?_)
    refine lx_q (.int .i64 x145) S trivial (by decide) (q_assign rfl) (fun a S => ?_)
    refine lx_nil ?_
    refine thenN ?_
    refine wp_ret ?_
    obtain rfl := Option.some.inj hm
    exact leave1 S rfl rfl ⟨rfl, H⟩
  · skip
    refine loop_ghost (fun n a w => ∃ (x87 : Int) (x88 : Int), Slots a 44 [(0, p0), (1, (.int .i64 x87)), (5, (.int .i64 x88))] ∧ Heap w0 [] w ∧ iter f148 n (x87, x88) = some res146) _ ⟨a1, (0 : Int), S.sub ⟨rfl, rfl, rfl, trivial⟩, H, hit147⟩ ?_
    rintro n a w ⟨x87, x88, S, H, hit147⟩
    obtain ⟨m151, o152, rfl, hm, hc153⟩ := iter_step hit147
    rw [hf149] at hm
    refine wp_seq ?_
    refine wp_seq ?_
    refine region_plain ?_
    refine lx_q (.int .i64 x88) S trivial (by decide) (q_move rfl) (fun a S => ?_)
    refine lx_q p0 S trivial (by decide) (q_move rfl) (fun a S => ?_)
    refine lx_q (.int .i64 (a0.length : Int)) S trivial (by decide) (q_lenSl rfl (h0).isSl rfl Try.underlying36) (fun a S => ?_)
    refine lx_q (.bool (decide (x88 < (a0.length : Int)))) S trivial (by decide) (q_lss rfl rfl) (fun a S => ?_)
    refine lx_nil ?_
    refine thenN ?_
    refine cond_b S rfl (fun hc154 => ?_) (fun hc154 => ?_)
    · have hm := ite_t hc154 hm
      refine wp_skip ?_
      refine thenN ?_
      refine wp_seq ?_
      refine wp_block ?_
      refine wp_seq ?_
      refine wp_seq ?_
      refine region_plain ?_
      refine lx_q p0 S trivial (by decide) (q_move rfl) (fun a S => ?_)
      refine lx_q (.int .i64 x88) S trivial (by decide) (q_move rfl) (fun a S => ?_)
      obtain ⟨x155, e156, hm⟩ := bind_some hm
      obtain ⟨c157, h158, hat159⟩ := (h0).elem (idx_some e156).2
      obtain ⟨c162, c163, rfl, h164, h165⟩ := h158
      obtain rfl := h164
      obtain ⟨c166, c167, rfl, h168, h169⟩ := h165
      obtain rfl := h168
      obtain ⟨v160, rfl, h161⟩ := rd_list h169
      have hlt := lt_of_idx (idx_some e156).2
      refine lx_q (ePtr p0 (x88.toNat * 3)) S trivial (by decide) (q_indexAddr rfl (h0).isSl rfl (idx_some e156).1 hlt Try.underlying36 Try.sizeOf85) (fun a S => ?_)
      refine lx_q (pAdd (ePtr p0 (x88.toNat * 3)) 0) S trivial (by decide) (q_fieldAddr' 0 4 rfl ((hat159 0 _ rfl).isP) Try.underlying85 rfl Try.sizeOf4) (fun a S => ?_)
      refine lx_e (.bool x155.1) S trivial (by decide) rfl trivial (q_load1 rfl Try.isAgg4 (by rintro _ rfl; exact (At.of_add (m := 0) (j := 0) ((hat159 0 _ rfl).ext H.ext)))) (fun a S => ?_)
      refine lx_q (.int .i64 x87) S trivial (by decide) (q_move rfl) (fun a S => ?_)
      refine lx_q (.int .i64 (x87.tmod (3 : Int))) S trivial (by decide) (q_rem rfl rfl (show (3 : Int) ≠ 0 from by decide)) (fun a S => ?_)
      refine lx_q (.bool ((x87.tmod (3 : Int)) == (0 : Int))) S trivial (by decide) (q_eql rfl rfl) (fun a S => ?_)
      refine lx_q (.bool (x155.1 != ((x87.tmod (3 : Int)) == (0 : Int)))) S trivial (by decide) (q_bneq rfl rfl Try.underlying4) (fun a S => ?_)
      refine lx_nil ?_
      refine thenN ?_
      refine cond_b S rfl (fun hc170 => ?_) (fun hc170 => ?_)
      · have hm := ite_t hc170 hm
        refine wp_seq ?_
        refine region_plain ?_
        refine lx_q (.int .i64 (-1 : Int)) S trivial (by decide) (q_assign rfl) (fun a S => ?_)
        refine lx_nil ?_
        refine thenN ?_
        refine wp_ret ?_
        refine then_ret ?_
        refine inBlock_ret ?_
        refine then_ret ?_
        refine then_ret ?_
        refine inBlock_ret ?_
        refine then_ret ?_
        refine then_ret ?_
        obtain rfl := it_brk hm hc153
        have hm := ctl_inr hk150
        obtain rfl := Option.some.inj hm
        exact leave1 S rfl rfl ⟨rfl, H⟩
      · have hm := ite_f hc170 hm
        refine wp_skip ?_
        refine thenN ?_
        refine wp_seq ?_
        refine region_plain ?_
        refine lx_q (.int .i64 x87) S trivial (by decide) (q_move rfl) (fun a S => ?_)
        refine lx_q (.int .i64 (W (x87 + (1 : Int)))) S trivial (by decide) (q_add rfl rfl) (fun a S => ?_)
        refine lx_q (.int .i64 (W (x87 + (1 : Int)))) S trivial (by decide) (q_assign rfl) (fun a S => ?_)
        refine lx_nil ?_
        refine thenN ?_
        refine wp_seq ?_
        refine wp_seq ?_
        refine region_plain ?_
        refine lx_q p0 S trivial (by decide) (q_move rfl) (fun a S => ?_)
        refine lx_q (.int .i64 x88) S trivial (by decide) (q_move rfl) (fun a S => ?_)
        obtain ⟨x171, e172, hm⟩ := bind_some hm
        obtain ⟨c173, h174, hat175⟩ := (h0).elem (idx_some e172).2
        obtain ⟨c178, c179, rfl, h180, h181⟩ := h174
        obtain rfl := h180
        obtain ⟨c182, c183, rfl, h184, h185⟩ := h181
        obtain rfl := h184
        obtain ⟨v176, rfl, h177⟩ := rd_list h185
        have hlt := lt_of_idx (idx_some e172).2
        refine lx_q (ePtr p0 (x88.toNat * 3)) S trivial (by decide) (q_indexAddr rfl (h0).isSl rfl (idx_some e172).1 hlt Try.underlying36 Try.sizeOf85) (fun a S => ?_)
        refine lx_q (pAdd (ePtr p0 (x88.toNat * 3)) 1) S trivial (by decide) (q_fieldAddr' 1 4 rfl ((hat175 0 _ rfl).isP) Try.underlying85 rfl Try.sizeOf4) (fun a S => ?_)
        refine lx_e (.bool x171.2.1) S trivial (by decide) rfl trivial (q_load1 rfl Try.isAgg4 (by rintro _ rfl; exact (At.of_add (m := 1) (j := 0) ((hat175 1 _ rfl).ext H.ext)))) (fun a S => ?_)
        refine lx_q (.int .i64 (W (x87 + (1 : Int)))) S trivial (by decide) (q_move rfl) (fun a S => ?_)
        refine lx_q (.int .i64 ((W (x87 + (1 : Int))).tmod (3 : Int))) S trivial (by decide) (q_rem rfl rfl (show (3 : Int) ≠ 0 from by decide)) (fun a S => ?_)
        refine lx_q (.bool (((W (x87 + (1 : Int))).tmod (3 : Int)) == (0 : Int))) S trivial (by decide) (q_eql rfl rfl) (fun a S => ?_)
        refine lx_q (.bool (x171.2.1 != (((W (x87 + (1 : Int))).tmod (3 : Int)) == (0 : Int)))) S trivial (by decide) (q_bneq rfl rfl Try.underlying4) (fun a S => ?_)
        refine lx_nil ?_
        refine thenN ?_
        refine cond_b S rfl (fun hc186 => ?_) (fun hc186 => ?_)
        · have hm := ite_t hc186 hm
          refine wp_seq ?_
          refine region_plain ?_
          refine lx_q (.int .i64 (-1 : Int)) S trivial (by decide) (q_assign rfl) (fun a S => ?_)
          refine lx_nil ?_
          refine thenN ?_
          refine wp_ret ?_
          refine then_ret ?_
          refine inBlock_ret ?_
          refine then_ret ?_
          refine then_ret ?_
          refine inBlock_ret ?_
          refine then_ret ?_
          refine then_ret ?_
          obtain rfl := it_brk hm hc153
          have hm := ctl_inr hk150
          obtain rfl := Option.some.inj hm
          exact leave1 S rfl rfl ⟨rfl, H⟩
        · have hm := ite_f hc186 hm
          refine wp_skip ?_
          refine thenN ?_
          refine wp_seq ?_
          refine region_plain ?_
          refine lx_q (.int .i64 (W (x87 + (1 : Int)))) S trivial (by decide) (q_move rfl) (fun a S => ?_)
          refine lx_q (.int .i64 (W ((W (x87 + (1 : Int))) + (1 : Int)))) S trivial (by decide) (q_add rfl rfl) (fun a S => ?_)
          refine lx_q (.int .i64 (W ((W (x87 + (1 : Int))) + (1 : Int)))) S trivial (by decide) (q_assign rfl) (fun a S => ?_)
          refine lx_nil ?_
          refine thenN ?_
          refine wp_seq ?_
          refine region_plain ?_
          refine lx_q p0 S trivial (by decide) (q_move rfl) (fun a S => ?_)
          refine lx_q (.int .i64 x88) S trivial (by decide) (q_move rfl) (fun a S => ?_)
          obtain ⟨x187, e188, hm⟩ := bind_some hm
          obtain ⟨c189, h190, hat191⟩ := (h0).elem (idx_some e188).2
          obtain ⟨c194, c195, rfl, h196, h197⟩ := h190
          obtain rfl := h196
          obtain ⟨c198, c199, rfl, h200, h201⟩ := h197
          obtain rfl := h200
          obtain ⟨v192, rfl, h193⟩ := rd_list h201
          have hlt := lt_of_idx (idx_some e188).2
          refine lx_q (ePtr p0 (x88.toNat * 3)) S trivial (by decide) (q_indexAddr rfl (h0).isSl rfl (idx_some e188).1 hlt Try.underlying36 Try.sizeOf85) (fun a S => ?_)
          refine lx_q (pAdd (ePtr p0 (x88.toNat * 3)) 2) S trivial (by decide) (q_fieldAddr' 2 23 rfl ((hat191 0 _ rfl).isP) Try.underlying85 rfl Try.sizeOf23) (fun a S => ?_)
          refine lx_e v192 S trivial (by decide) rfl trivial (q_load1 rfl Try.isAgg23 (by rintro _ rfl; exact (At.of_add (m := 2) (j := 0) ((hat191 2 _ rfl).ext H.ext)))) (fun a S => ?_)
          refine lx_q (.int .i64 (W ((W (x87 + (1 : Int))) + (1 : Int)))) S trivial (by decide) (q_move rfl) (fun a S => ?_)
          obtain ⟨x204, e205, hm⟩ := bind_some hm
          refine lx_call (xs := [.tmp 38, .tmp 39]) S trivial (by decide) rfl rfl Try.call31 ((laws_heldInt64S_ok (H.arg h193)  e205).mono ?_)
          rintro e w202 ⟨rfl, Hc203⟩
          have he206 := Hc203.ext
          have H := H.call0 Hc203
          refine ⟨_, rfl, trivial, fun a S => ?_⟩
          refine lx_q (.int .i64 x204) S trivial (by decide) (q_assign rfl) (fun a S => ?_)
          refine lx_nil ?_
          refine thenN ?_
          refine wp_seq ?_
          refine region_plain ?_
          refine lx_q (.int .i64 x204) S trivial (by decide) (q_move rfl) (fun a S => ?_)
          refine lx_q (.bool (decide (x204 < (0 : Int)))) S trivial (by decide) (q_lss rfl rfl) (fun a S => ?_)
          refine lx_nil ?_
          refine thenN ?_
          refine cond_b S rfl (fun hc207 => ?_) (fun hc207 => ?_)
          · have hm := ite_t hc207 hm
            refine wp_seq ?_
            refine region_plain ?_
            refine lx_q (.int .i64 (-1 : Int)) S trivial (by decide) (q_assign rfl) (fun a S => ?_)
            refine lx_nil ?_
            refine thenN ?_
            refine wp_ret ?_
            refine inBlock_ret ?_
            refine then_ret ?_
            refine then_ret ?_
            refine inBlock_ret ?_
            refine then_ret ?_
            refine then_ret ?_
            obtain rfl := it_brk hm hc153
            have hm := ctl_inr hk150
            obtain rfl := Option.some.inj hm
            exact leave1 S rfl rfl ⟨rfl, H⟩
          · have hm := ite_f hc207 hm
            refine wp_skip ?_
            refine inBlock_norm ?_
            refine thenN ?_
            refine region_plain ?_
            refine lx_q (.int .i64 x88) S trivial (by decide) (q_move rfl) (fun a S => ?_)
            refine lx_q (.int .i64 (W (x88 + (1 : Int)))) S trivial (by decide) (q_add rfl rfl) (fun a S => ?_)
            refine lx_q (.int .i64 (W (x88 + (1 : Int)))) S trivial (by decide) (q_assign rfl) (fun a S => ?_)
            refine lx_nil ?_
            exact ⟨m151, Nat.lt_succ_self _, x204, (W (x88 + (1 : Int))), S.sub ⟨rfl, rfl, rfl, trivial⟩, H, it_cont hm hc153⟩
    · have hm := ite_f hc154 hm
      refine wp_exit ?_
      refine then_exit ?_
      refine then_exit ?_
      refine inBlock_exit ?_
      obtain rfl := it_brk hm hc153
      exact ⟨x87, S.sub ⟨rfl, trivial⟩, H, rfl⟩

/-- spec.EquationsOfGame -/
def spec_EquationsOfGame_m (fuel : Nat) (a0 : (List Timpl_Vertex)) : Option (((List Timpl_Equation) × (List Int) × Int)) :=
  (spec_l23Is_m fuel a0).bind fun x33 => (if (!x33) = true then some (([], [], (1 : Int))) else (iter (fun (s : (List Int) × (Int)) => (match s with | (xs161, x163) => (if (decide (x163 ≤ (9 : Int))) = true then (iter (fun (s : (List Int) × (Int)) => (match s with | (xs702, x704) => (if (decide (x704 < (a0.length : Int))) = true then join (κ := List Int → Option (((List Int) × (Int)) ⊕ (((List Int)) ⊕ (((List Timpl_Equation) × (List Int) × Int))))) (fun (xs752 : List Int) => some (.inl (xs752, (W (x704 + (1 : Int)))))) (fun K754 => (idx a0 x704).bind fun x756 => (if (x756.2.1 == x163) = true then (app xs702 [x704]).bind fun x775 => (K754 x775) else (K754 xs702))) else some (.inr (.inl (xs702)))) : Option (((List Int) × (Int)) ⊕ (((List Int)) ⊕ (((List Timpl_Equation) × (List Int) × Int)))))) fuel (xs161, (0 : Int))).bind fun res742 => ctl (β := (List Int)) (ρ := ((List Timpl_Equation) × (List Int) × Int)) (τ := (((List Int) × (Int)) ⊕ (((List Int)) ⊕ (((List Timpl_Equation) × (List Int) × Int))))) res742 (fun (xs740) => some (.inl (xs740, (W (x163 + (1 : Int)))))) (fun q => some (.inr (.inr q))) else some (.inr (.inl (xs161)))) : Option (((List Int) × (Int)) ⊕ (((List Int)) ⊕ (((List Timpl_Equation) × (List Int) × Int)))))) fuel (([] : List Int), (0 : Int))).bind fun res285 => ctl (β := (List Int)) (ρ := ((List Timpl_Equation) × (List Int) × Int)) (τ := ((List Timpl_Equation) × (List Int) × Int)) res285 (fun (xs283) => (iter (fun (s : (List Timpl_Equation) × (Int)) => (match s with | (xs411, x413) => (if (decide (x413 < (xs283.length : Int))) = true then (idx xs283 x413).bind fun x551 => (idx a0 x551).bind fun x556 => (iter (fun (s : (List Int) × (Int)) => (match s with | (xs601, x603) => (if (decide (x603 < (x556.2.2.length : Int))) = true then (idx x556.2.2 x603).bind fun x646 => (spec_l11Place_m fuel xs283 x646).bind fun x653 => (spec_l00Put_m fuel xs601 x653).bind fun x658 => some (.inl (x658, (W (x603 + (1 : Int))))) else some (.inr (.inl (xs601)))) : Option (((List Int) × (Int)) ⊕ (((List Int)) ⊕ (((List Timpl_Equation) × (List Int) × Int)))))) fuel (([] : List Int), (0 : Int))).bind fun res629 => ctl (β := (List Int)) (ρ := ((List Timpl_Equation) × (List Int) × Int)) (τ := (((List Timpl_Equation) × (Int)) ⊕ (((List Timpl_Equation)) ⊕ (((List Timpl_Equation) × (List Int) × Int))))) res629 (fun (xs627) => (app xs411 [(((x556.2.1.tmod (2 : Int)) == (0 : Int)), (x556.1 == (1 : Int)), xs627)]).bind fun x637 => some (.inl (x637, (W (x413 + (1 : Int)))))) (fun q => some (.inr (.inr q))) else some (.inr (.inl (xs411)))) : Option (((List Timpl_Equation) × (Int)) ⊕ (((List Timpl_Equation)) ⊕ (((List Timpl_Equation) × (List Int) × Int)))))) fuel (([] : List Timpl_Equation), (0 : Int))).bind fun res534 => ctl (β := (List Timpl_Equation)) (ρ := ((List Timpl_Equation) × (List Int) × Int)) (τ := ((List Timpl_Equation) × (List Int) × Int)) res534 (fun (xs532) => (spec_l22Count_m fuel xs532).bind fun x541 => (if (decide ((9 : Int) < x541)) = true then some (([], [], (5 : Int))) else some ((xs532, xs283, (0 : Int))))) (fun q => some (q))) (fun q => some (q)))
set_option maxRecDepth 20000 in
theorem spec_EquationsOfGame_ok {w0 : World} {fuel : Nat} {p0 : Value} {a0 : (List Timpl_Vertex)} {r : ((List Timpl_Equation) × (List Int) × Int)} (h0 : Rd (rList Rimpl_Vertex) w0 p0 a0) (hm : spec_EquationsOfGame_m fuel a0 = some r) :
    Calls Try.prog 50 #[p0] w0 fun e w => ∃ (v0 : Value) (v1 : Value), e = .returned (.tuple #[v0, v1, .int .i64 r.2.2]) ∧ Heap w0 [oA (rList Rimpl_Equation) v0 r.1, oA (rList (rInt .i64)) v1 r.2.1] w := by
  unfold spec_EquationsOfGame_m at hm
  have H := Heap.start w0
  refine enter (args := [p0]) Try.func50 rfl 86 rfl (Nat.le_of_ble_eq_true rfl) (fun a S => ?_)
  refine wp_seq ?_
  refine region_plain ?_
  refine lx_q (.slice none 0 0) S trivial (by decide) (q_assign rfl) (fun a S => ?_)
  refine lx_q (.slice none 0 0) S trivial (by decide) (q_assign rfl) (fun a S => ?_)
  refine lx_q (.int .i64 (0 : Int)) S trivial (by decide) (q_assign rfl) (fun a S => ?_)
  refine lx_nil ?_
  refine thenN ?_
  refine wp_seq ?_
  refine wp_seq ?_
  refine region_plain ?_
  refine lx_q p0 S trivial (by decide) (q_move rfl) (fun a S => ?_)
  obtain ⟨x33, e34, hm⟩ := bind_some hm
  refine lx_call (xs := [.tmp 13]) S trivial (by decide) rfl rfl Try.call53 ((spec_l23Is_ok (H.arg h0) e34).mono ?_)
  rintro e w31 ⟨rfl, Hc32⟩
  have he35 := Hc32.ext
  have H := H.call0 Hc32
  refine ⟨_, rfl, trivial, fun a S => ?_⟩
  refine lx_q (.bool (!x33)) S trivial (by decide) (q_not rfl) (fun a S => ?_)
  refine lx_nil ?_
  refine thenN ?_
  refine cond_b S rfl (fun hc36 => ?_) (fun hc36 => ?_)
  · have hm := ite_t hc36 hm
    refine wp_seq ?_
    refine region_plain ?_
    refine lx_q (.slice none 0 0) S trivial (by decide) (q_assign rfl) (fun a S => ?_)
    refine lx_q (.slice none 0 0) S trivial (by decide) (q_assign rfl) (fun a S => ?_)
    refine lx_q (.int .i64 (1 : Int)) S trivial (by decide) (q_assign rfl) (fun a S => ?_)
    refine lx_nil ?_
    refine thenN ?_
    refine wp_ret ?_
    refine then_ret ?_
    obtain rfl := Option.some.inj hm
    have H : Heap w0 [oA (rList Rimpl_Equation) (.slice none 0 0) ([] : List Timpl_Equation)] w31 := H.nilList Rimpl_Equation
    have H : Heap w0 [oA (rList (rInt .i64)) (.slice none 0 0) ([] : List Int), oA (rList Rimpl_Equation) (.slice none 0 0) ([] : List Timpl_Equation)] w31 := H.nilList (rInt .i64)
    have H : Heap w0 [oA (rList Rimpl_Equation) (.slice none 0 0) ([] : List Timpl_Equation), oA (rList (rInt .i64)) (.slice none 0 0) ([] : List Int)] w31 := H.front 1 rfl
    exact leave3 S rfl rfl rfl rfl ⟨(.slice none 0 0), (.slice none 0 0), rfl, H⟩
  · have hm := ite_f hc36 hm
    refine wp_skip ?_
    refine thenN ?_
    refine wp_seq ?_
    refine region_plain ?_
    refine lx_buildSlice0 (r := (rInt .i64)) S trivial (by decide) rfl H Try.underlying23 Try.sizeOf2 (fun v39 w40 H => ⟨trivial, fun a S => ?_⟩)
    refine lx_q v39 S trivial (by decide) (q_assign rfl) (fun a S => ?_)
    refine lx_nil ?_
    refine thenN ?_
    refine wp_seq ?_
    refine wp_seq ?_
    refine region_plain ?_
    refine lx_q (.int .i64 (0 : Int)) S trivial (by decide) (q_assign rfl) (fun a S => ?_)
    refine lx_nil ?_
    refine thenN ?_
    obtain ⟨res285, hit286, hk289⟩ := bind_some hm
    obtain ⟨f287, hf288, hit286⟩ := iter_name hit286
    refine block_loop (fun a w => ∃ (xs283 : List Int) (v282 : Value), Slots a 86 [(0, p0), (5, v282)] ∧ Heap w0 [oA (rList (rInt .i64)) v282 xs283] w ∧ res285 = .inl (xs283)) ?_ ?_
    · rintro a w ⟨xs283, v282, S, H, rfl⟩
      have hm := ctl_inl hk289
      refine thenN ?_
      refine wp_seq ?_
      refine region_plain ?_
      refine lx_buildSlice0 (r := Rimpl_Equation) S trivial (by decide) rfl H Try.underlying36 Try.sizeOf85 (fun v290 w291 H => ⟨trivial, fun a S => ?_⟩)
      refine lx_q v290 S trivial (by decide) (q_assign rfl) (fun a S => ?_)
      refine lx_nil ?_
      refine thenN ?_
      refine wp_seq ?_
      refine wp_seq ?_
      refine region_plain ?_
      refine lx_q (.int .i64 (0 : Int)) S trivial (by decide) (q_assign rfl) (fun a S => ?_)
      refine lx_nil ?_
      refine thenN ?_
      obtain ⟨res534, hit535, hk538⟩ := bind_some hm
      obtain ⟨f536, hf537, hit535⟩ := iter_name hit535
      refine block_loop (fun a w => ∃ (xs532 : List Timpl_Equation) (v531 : Value), Slots a 86 [(5, v282), (8, v531)] ∧ Heap w0 [oA (rList (rInt .i64)) v282 xs283, oA (rList Rimpl_Equation) v531 xs532] w ∧ res534 = .inl (xs532)) ?_ ?_
      · rintro a w ⟨xs532, v531, S, H, rfl⟩
        have hm := ctl_inl hk538
        refine thenN ?_
        refine wp_seq ?_
        refine wp_seq ?_
        refine region_plain ?_
        refine lx_q v531 S trivial (by decide) (q_move rfl) (fun a S => ?_)
        obtain ⟨x541, e542, hm⟩ := bind_some hm
        refine lx_call (xs := [.tmp 81]) S trivial (by decide) rfl rfl Try.call103 ((spec_l22Count_ok (H.rdAt 1 rfl) e542).mono ?_)
        rintro e w539 ⟨rfl, Hc540⟩
        have he543 := Hc540.ext
        have H := H.call0 Hc540
        refine ⟨_, rfl, trivial, fun a S => ?_⟩
        refine lx_q (.bool (decide ((9 : Int) < x541))) S trivial (by decide) (q_gtr rfl rfl) (fun a S => ?_)
        refine lx_nil ?_
        refine thenN ?_
        refine cond_b S rfl (fun hc544 => ?_) (fun hc544 => ?_)
        · have hm := ite_t hc544 hm
          refine wp_seq ?_
          refine region_plain ?_
          refine lx_q (.slice none 0 0) S trivial (by decide) (q_assign rfl) (fun a S => ?_)
          refine lx_q (.slice none 0 0) S trivial (by decide) (q_assign rfl) (fun a S => ?_)
          refine lx_q (.int .i64 (5 : Int)) S trivial (by decide) (q_assign rfl) (fun a S => ?_)
          refine lx_nil ?_
          refine thenN ?_
          refine wp_ret ?_
          refine then_ret ?_
          obtain rfl := Option.some.inj hm
          have H : Heap w0 [oA (rList Rimpl_Equation) (.slice none 0 0) ([] : List Timpl_Equation), oA (rList (rInt .i64)) v282 xs283, oA (rList Rimpl_Equation) v531 xs532] w539 := H.nilList Rimpl_Equation
          have H : Heap w0 [oA (rList (rInt .i64)) (.slice none 0 0) ([] : List Int), oA (rList Rimpl_Equation) (.slice none 0 0) ([] : List Timpl_Equation), oA (rList (rInt .i64)) v282 xs283, oA (rList Rimpl_Equation) v531 xs532] w539 := H.nilList (rInt .i64)
          have H : Heap w0 [oA (rList Rimpl_Equation) (.slice none 0 0) ([] : List Timpl_Equation), oA (rList (rInt .i64)) (.slice none 0 0) ([] : List Int), oA (rList (rInt .i64)) v282 xs283, oA (rList Rimpl_Equation) v531 xs532] w539 := H.front 1 rfl
          have H : Heap w0 [oA (rList Rimpl_Equation) (.slice none 0 0) ([] : List Timpl_Equation), oA (rList (rInt .i64)) (.slice none 0 0) ([] : List Int)] w539 := H.sel [0, 1] (by decide)
          exact leave3 S rfl rfl rfl rfl ⟨(.slice none 0 0), (.slice none 0 0), rfl, H⟩
        · have hm := ite_f hc544 hm
          refine wp_skip ?_
          refine thenN ?_
          refine wp_seq ?_
          refine region_plain ?_
          refine lx_q v531 S trivial (by decide) (q_move rfl) (fun a S => ?_)
          refine lx_q v282 S trivial (by decide) (q_move rfl) (fun a S => ?_)
          refine lx_q v531 S trivial (by decide) (q_assign rfl) (fun a S => ?_)
          refine lx_q v282 S trivial (by decide) (q_assign rfl) (fun a S => ?_)
          refine lx_q (.int .i64 (0 : Int)) S trivial (by decide) (q_assign rfl) (fun a S => ?_)
          refine lx_nil ?_
          refine thenN ?_
          refine wp_ret ?_
          obtain rfl := Option.some.inj hm
          have H : Heap w0 [oA (rList Rimpl_Equation) v531 xs532, oA (rList (rInt .i64)) v282 xs283] w539 := H.front 1 rfl
          exact leave3 S rfl rfl rfl rfl ⟨v531, v282, rfl, H⟩
      · skip
        have H : Heap w0 [oA (rList (rInt .i64)) v282 xs283, oA (rList Rimpl_Equation) v290 ([] : List Timpl_Equation)] w291 := H.front 1 rfl
        refine loop_ghost (fun n a w => ∃ (xs411 : List Timpl_Equation) (x413 : Int) (v410 : Value), Slots a 86 [(0, p0), (5, v282), (8, v410), (9, (.int .i64 x413))] ∧ Heap w0 [oA (rList (rInt .i64)) v282 xs283, oA (rList Rimpl_Equation) v410 xs411] w ∧ iter f536 n (xs411, x413) = some res534) _ ⟨([] : List Timpl_Equation), (0 : Int), v290, S.sub ⟨rfl, rfl, rfl, rfl, trivial⟩, H, hit535⟩ ?_
        rintro n a w ⟨xs411, x413, v410, S, H, hit535⟩
        obtain ⟨m547, o548, rfl, hm, hc549⟩ := iter_step hit535
        rw [hf537] at hm
        refine wp_seq ?_
        refine wp_seq ?_
        refine region_plain ?_
        refine lx_q (.int .i64 x413) S trivial (by decide) (q_move rfl) (fun a S => ?_)
        refine lx_q v282 S trivial (by decide) (q_move rfl) (fun a S => ?_)
        refine lx_q (.int .i64 (xs283.length : Int)) S trivial (by decide) (q_lenSl rfl (H.isSl 0 rfl) rfl Try.underlying23) (fun a S => ?_)
        refine lx_q (.bool (decide (x413 < (xs283.length : Int)))) S trivial (by decide) (q_lss rfl rfl) (fun a S => ?_)
        refine lx_nil ?_
        refine thenN ?_
        refine cond_b S rfl (fun hc550 => ?_) (fun hc550 => ?_)
        · have hm := ite_t hc550 hm
          refine wp_skip ?_
          refine thenN ?_
          refine wp_seq ?_
          refine wp_block ?_
          refine wp_seq ?_
          refine region_plain ?_
          refine lx_q p0 S trivial (by decide) (q_move rfl) (fun a S => ?_)
          refine lx_q v282 S trivial (by decide) (q_move rfl) (fun a S => ?_)
          refine lx_q (.int .i64 x413) S trivial (by decide) (q_move rfl) (fun a S => ?_)
          obtain ⟨x551, e552, hm⟩ := bind_some hm
          have hlt := lt_of_idx (idx_some e552).2
          refine lx_q (ePtr v282 (x413.toNat * 1)) S trivial (by decide) (q_indexAddr rfl (H.isSl 0 rfl) rfl (idx_some e552).1 hlt Try.underlying23 Try.sizeOf2) (fun a S => ?_)
          obtain ⟨c553, h554, hat555⟩ := (H.rdAt 0 rfl).elem (idx_some e552).2
          obtain rfl := h554
          refine lx_e (.int .i64 x551) S trivial (by decide) rfl trivial (q_load1 rfl Try.isAgg2 (by rintro _ rfl; exact (hat555 0 _ rfl))) (fun a S => ?_)
          obtain ⟨x556, e557, hm⟩ := bind_some hm
          obtain ⟨c558, h559, hat560⟩ := (h0).elem (idx_some e557).2
          obtain ⟨c563, c564, rfl, h565, h566⟩ := h559
          obtain rfl := h565
          obtain ⟨c567, c568, rfl, h569, h570⟩ := h566
          obtain rfl := h569
          obtain ⟨v561, rfl, h562⟩ := rd_list h570
          have hlt := lt_of_idx (idx_some e557).2
          refine lx_q (ePtr p0 (x551.toNat * 3)) S trivial (by decide) (q_indexAddr rfl (h0).isSl rfl (idx_some e557).1 hlt Try.underlying26 Try.sizeOf71) (fun a S => ?_)
          refine lx_e (.agg #[(.int .i64 x556.1), (.int .i64 x556.2.1), v561]) S trivial (by decide) rfl trivial (q_loadA (cs := [(.int .i64 x556.1), (.int .i64 x556.2.1), v561]) rfl ((hat560 0 _ rfl).isP) Try.isAgg71 Try.sizeOf71 (by rintro _ rfl; exact (fun j u hu => (hat560 j u hu).ext H.ext))) (fun a S => ?_)
          refine lx_alloc S trivial (by decide) rfl H Try.zeroValue71 rfl (fun b571 w572 H => ⟨trivial, fun a S => ?_⟩)
          refine lx_storeBox (o := 0) (i := 0) (us := [(.int .i64 x556.1), (.int .i64 x556.2.1), v561]) (cs' := [(.int .i64 x556.1), (.int .i64 x556.2.1), v561]) S trivial rfl H rfl rfl rfl rfl Try.sizeOf71 (Nat.le_of_ble_eq_true rfl) (List.forall_mem_cons.2 ⟨rfl, (List.forall_mem_cons.2 ⟨rfl, (List.forall_mem_cons.2 ⟨one_sl (h562).isSl, (fun _ h => nomatch h)⟩)⟩)⟩) rfl (fun w574 H => ⟨trivial, fun a S => ?_⟩)
          change Heap w0 [bA b571 [(.int .i64 x556.1), (.int .i64 x556.2.1), v561] 71, oA (rList (rInt .i64)) v282 xs283, oA (rList Rimpl_Equation) v410 xs411] w574 at H
          refine lx_nil ?_
          refine thenN ?_
          refine wp_seq ?_
          refine region_plain ?_
          refine lx_buildSlice0 (r := (rInt .i64)) S trivial (by decide) rfl H Try.underlying23 Try.sizeOf2 (fun v575 w576 H => ⟨trivial, fun a S => ?_⟩)
          refine lx_q v575 S trivial (by decide) (q_assign rfl) (fun a S => ?_)
          refine lx_nil ?_
          refine thenN ?_
          refine wp_seq ?_
          refine wp_seq ?_
          refine region_plain ?_
          refine lx_q (.int .i64 (0 : Int)) S trivial (by decide) (q_assign rfl) (fun a S => ?_)
          refine lx_nil ?_
          refine thenN ?_
          obtain ⟨res629, hit630, hk633⟩ := bind_some hm
          obtain ⟨f631, hf632, hit630⟩ := iter_name hit630
          refine block_loop (fun a w => ∃ (xs627 : List Int) (v626 : Value), Slots a 86 [(0, p0), (5, v282), (8, v410), (9, (.int .i64 x413)), (10, (bp b571)), (11, v626)] ∧ Heap w0 [oA (rList (rInt .i64)) v282 xs283, oA (rList Rimpl_Equation) v410 xs411, bA b571 [(.int .i64 x556.1), (.int .i64 x556.2.1), v561] 71, oA (rList (rInt .i64)) v626 xs627] w ∧ res629 = .inl (xs627)) ?_ ?_
          · rintro a w ⟨xs627, v626, S, H, rfl⟩
            have hm := ctl_inl hk633
            refine thenN ?_
            refine region_plain ?_
            refine lx_q v410 S trivial (by decide) (q_move rfl) (fun a S => ?_)
            refine lx_q (pAdd (bp b571) 1) S trivial (by decide) (q_fieldAddr' 1 2 rfl (isP_bp _) Try.underlying71 rfl Try.sizeOf2) (fun a S => ?_)
            refine lx_e (.int .i64 x556.2.1) S trivial (by decide) rfl trivial (q_load1 rfl Try.isAgg2 (by rintro _ rfl; exact (At.of_add (m := 1) (j := 0) (boxAt (i := 2) H rfl (j := 1) rfl)))) (fun a S => ?_)
            refine lx_q (.int .i64 (x556.2.1.tmod (2 : Int))) S trivial (by decide) (q_rem rfl rfl (show (2 : Int) ≠ 0 from by decide)) (fun a S => ?_)
            refine lx_q (.bool ((x556.2.1.tmod (2 : Int)) == (0 : Int))) S trivial (by decide) (q_eql rfl rfl) (fun a S => ?_)
            refine lx_q (pAdd (bp b571) 0) S trivial (by decide) (q_fieldAddr' 0 2 rfl (isP_bp _) Try.underlying71 rfl Try.sizeOf2) (fun a S => ?_)
            refine lx_e (.int .i64 x556.1) S trivial (by decide) rfl trivial (q_load1 rfl Try.isAgg2 (by rintro _ rfl; exact (At.of_add (m := 0) (j := 0) (boxAt (i := 2) H rfl (j := 0) rfl)))) (fun a S => ?_)
            refine lx_q (.bool (x556.1 == (1 : Int))) S trivial (by decide) (q_eql rfl rfl) (fun a S => ?_)
            refine lx_q v626 S trivial (by decide) (q_move rfl) (fun a S => ?_)
            refine lx_q (.agg #[(.bool ((x556.2.1.tmod (2 : Int)) == (0 : Int))), (.bool (x556.1 == (1 : Int))), v626]) S trivial (by decide) (q_build (zs := [(.bool false), (.bool false), (.slice none 0 0)]) (szs := [1, 1, 1]) (ps := [(0, [(.bool ((x556.2.1.tmod (2 : Int)) == (0 : Int)))]), (1, [(.bool (x556.1 == (1 : Int)))]), (2, [v626])]) (parts := [(0, .tmp 73), (1, .tmp 76), (2, .tmp 77)]) rfl Try.underlying85 Try.zeroValue85 (fun w => by simp [Try.sizeOf23, Try.sizeOf4]) ⟨rfl, rfl, Nat.le_of_ble_eq_true rfl, ⟨rfl, rfl, Nat.le_of_ble_eq_true rfl, ⟨rfl, (cells_sl (H.isSl 3 rfl)), Nat.le_of_ble_eq_true rfl, trivial⟩⟩⟩ rfl) (fun a S => ?_)
            have H : Heap w0 [oA (rList (rInt .i64)) v626 xs627, oA (rList (rInt .i64)) v282 xs283, oA (rList Rimpl_Equation) v410 xs411, bA b571 [(.int .i64 x556.1), (.int .i64 x556.2.1), v561] 71] w := H.front 3 rfl
            refine lx_buildSlice (r := Rimpl_Equation) (xs := [(((x556.2.1.tmod (2 : Int)) == (0 : Int)), (x556.1 == (1 : Int)), xs627)]) (ps := [(0, [(.bool ((x556.2.1.tmod (2 : Int)) == (0 : Int))), (.bool (x556.1 == (1 : Int))), v626])]) (cs := [(.bool ((x556.2.1.tmod (2 : Int)) == (0 : Int))), (.bool (x556.1 == (1 : Int))), v626]) (parts := [(0, .tmp 78)]) S trivial (by decide) rfl H rfl Try.underlying36 Try.sizeOf85 Try.zeroValue85 (by decide) ⟨rfl, rfl, Nat.le_of_ble_eq_true rfl, trivial⟩ (by intro zs hz; exact fill_dense hz ⟨rfl, trivial⟩ rfl rfl) rfl (by decide) (fun w F hA => ownL_one_mk (ownF ⟨_, _, [(.bool ((x556.2.1.tmod (2 : Int)) == (0 : Int)))], [(.bool (x556.1 == (1 : Int))), v626], rfl, rfl, ⟨rfl, rfl⟩, ⟨_, _, [(.bool (x556.1 == (1 : Int)))], [v626], rfl, rfl, ⟨rfl, rfl⟩, (oA_list.1 hA)⟩⟩)) (fun v634 w635 H => ⟨trivial, fun a S => ?_⟩)
            obtain ⟨x637, e638, hm⟩ := bind_some hm
            obtain ⟨hle, hap⟩ := app_some e638
            replace hap := hap.symm
            subst hap
            have H : Heap w0 [oA (rList Rimpl_Equation) v634 [(((x556.2.1.tmod (2 : Int)) == (0 : Int)), (x556.1 == (1 : Int)), xs627)], oA (rList (rInt .i64)) v282 xs283, oA (rList Rimpl_Equation) v410 xs411, bA b571 [(.int .i64 x556.1), (.int .i64 x556.2.1), v561] 71] w635 := H.front 0 rfl
            have H : Heap w0 [oA (rList Rimpl_Equation) v410 xs411, oA (rList Rimpl_Equation) v634 [(((x556.2.1.tmod (2 : Int)) == (0 : Int)), (x556.1 == (1 : Int)), xs627)], oA (rList (rInt .i64)) v282 xs283, bA b571 [(.int .i64 x556.1), (.int .i64 x556.2.1), v561] 71] w635 := H.front 2 rfl
            refine lx_appendOwn (r := Rimpl_Equation) S trivial (by decide) rfl H rfl rfl Try.underlying36 Try.ti85 rfl rfl rfl (by decide) (by decide) hle (fun v639 w640 H => ⟨trivial, fun a S => ?_⟩)
            refine lx_q v639 S trivial (by decide) (q_assign rfl) (fun a S => ?_)
            refine lx_nil ?_
            refine inBlock_norm ?_
            refine thenN ?_
            refine region_plain ?_
            refine lx_q (.int .i64 x413) S trivial (by decide) (q_move rfl) (fun a S => ?_)
            refine lx_q (.int .i64 (W (x413 + (1 : Int)))) S trivial (by decide) (q_add rfl rfl) (fun a S => ?_)
            refine lx_q (.int .i64 (W (x413 + (1 : Int)))) S trivial (by decide) (q_assign rfl) (fun a S => ?_)
            refine lx_nil ?_
            have H : Heap w0 [oA (rList (rInt .i64)) v282 xs283, oA (rList Rimpl_Equation) v639 (xs411 ++ [(((x556.2.1.tmod (2 : Int)) == (0 : Int)), (x556.1 == (1 : Int)), xs627)]), bA b571 [(.int .i64 x556.1), (.int .i64 x556.2.1), v561] 71] w640 := H.front 1 rfl
            have H : Heap w0 [oA (rList (rInt .i64)) v282 xs283, oA (rList Rimpl_Equation) v639 (xs411 ++ [(((x556.2.1.tmod (2 : Int)) == (0 : Int)), (x556.1 == (1 : Int)), xs627)])] w640 := H.sel [0, 1] (by decide)
            exact ⟨m547, Nat.lt_succ_self _, (xs411 ++ [(((x556.2.1.tmod (2 : Int)) == (0 : Int)), (x556.1 == (1 : Int)), xs627)]), (W (x413 + (1 : Int))), v639, S.sub ⟨rfl, rfl, rfl, rfl, trivial⟩, H, it_cont hm hc549⟩
          · skip
            have H : Heap w0 [bA b571 [(.int .i64 x556.1), (.int .i64 x556.2.1), v561] 71, oA (rList (rInt .i64)) v575 ([] : List Int), oA (rList (rInt .i64)) v282 xs283, oA (rList Rimpl_Equation) v410 xs411] w576 := H.front 1 rfl
            have H : Heap w0 [oA (rList Rimpl_Equation) v410 xs411, bA b571 [(.int .i64 x556.1), (.int .i64 x556.2.1), v561] 71, oA (rList (rInt .i64)) v575 ([] : List Int), oA (rList (rInt .i64)) v282 xs283] w576 := H.front 3 rfl
            have H : Heap w0 [oA (rList (rInt .i64)) v282 xs283, oA (rList Rimpl_Equation) v410 xs411, bA b571 [(.int .i64 x556.1), (.int .i64 x556.2.1), v561] 71, oA (rList (rInt .i64)) v575 ([] : List Int)] w576 := H.front 3 rfl
            refine loop_ghost (fun n a w => ∃ (xs601 : List Int) (x603 : Int) (v600 : Value), Slots a 86 [(0, p0), (5, v282), (8, v410), (9, (.int .i64 x413)), (10, (bp b571)), (11, v600), (12, (.int .i64 x603))] ∧ Heap w0 [oA (rList (rInt .i64)) v282 xs283, oA (rList Rimpl_Equation) v410 xs411, bA b571 [(.int .i64 x556.1), (.int .i64 x556.2.1), v561] 71, oA (rList (rInt .i64)) v600 xs601] w ∧ iter f631 n (xs601, x603) = some res629) _ ⟨([] : List Int), (0 : Int), v575, S.sub ⟨rfl, rfl, rfl, rfl, rfl, rfl, rfl, trivial⟩, H, hit630⟩ ?_
            rintro n a w ⟨xs601, x603, v600, S, H, hit630⟩
            obtain ⟨m642, o643, rfl, hm, hc644⟩ := iter_step hit630
            rw [hf632] at hm
            refine wp_seq ?_
            refine wp_seq ?_
            refine region_plain ?_
            refine lx_q (.int .i64 x603) S trivial (by decide) (q_move rfl) (fun a S => ?_)
            refine lx_q (pAdd (bp b571) 2) S trivial (by decide) (q_fieldAddr' 2 23 rfl (isP_bp _) Try.underlying71 rfl Try.sizeOf23) (fun a S => ?_)
            refine lx_e v561 S trivial (by decide) rfl trivial (q_load1 rfl Try.isAgg23 (by rintro _ rfl; exact (At.of_add (m := 2) (j := 0) (boxAt (i := 2) H rfl (j := 2) rfl)))) (fun a S => ?_)
            refine lx_q (.int .i64 (x556.2.2.length : Int)) S trivial (by decide) (q_lenSl rfl (h562).isSl rfl Try.underlying23) (fun a S => ?_)
            refine lx_q (.bool (decide (x603 < (x556.2.2.length : Int)))) S trivial (by decide) (q_lss rfl rfl) (fun a S => ?_)
            refine lx_nil ?_
            refine thenN ?_
            refine cond_b S rfl (fun hc645 => ?_) (fun hc645 => ?_)
            · have hm := ite_t hc645 hm
              refine wp_skip ?_
              refine thenN ?_
              refine wp_seq ?_
              refine wp_block ?_
              refine region_plain ?_
              refine lx_q v600 S trivial (by decide) (q_move rfl) (fun a S => ?_)
              refine lx_q v282 S trivial (by decide) (q_move rfl) (fun a S => ?_)
              refine lx_q (pAdd (bp b571) 2) S trivial (by decide) (q_fieldAddr' 2 23 rfl (isP_bp _) Try.underlying71 rfl Try.sizeOf23) (fun a S => ?_)
              refine lx_e v561 S trivial (by decide) rfl trivial (q_load1 rfl Try.isAgg23 (by rintro _ rfl; exact (At.of_add (m := 2) (j := 0) (boxAt (i := 2) H rfl (j := 2) rfl)))) (fun a S => ?_)
              refine lx_q (.int .i64 x603) S trivial (by decide) (q_move rfl) (fun a S => ?_)
              obtain ⟨x646, e647, hm⟩ := bind_some hm
              obtain ⟨c648, h649, hat650⟩ := (h562).elem (idx_some e647).2
              obtain rfl := h649
              have hlt := lt_of_idx (idx_some e647).2
              refine lx_q (ePtr v561 (x603.toNat * 1)) S trivial (by decide) (q_indexAddr rfl (h562).isSl rfl (idx_some e647).1 hlt Try.underlying23 Try.sizeOf2) (fun a S => ?_)
              refine lx_e (.int .i64 x646) S trivial (by decide) rfl trivial (q_load1 rfl Try.isAgg2 (by rintro _ rfl; exact ((hat650 0 _ rfl).ext H.ext))) (fun a S => ?_)
              obtain ⟨x653, e654, hm⟩ := bind_some hm
              refine lx_call (xs := [.tmp 61, .tmp 66]) S trivial (by decide) rfl rfl Try.call94 ((spec_l11Place_ok (H.rdAt 0 rfl)  e654).mono ?_)
              rintro e w651 ⟨rfl, Hc652⟩
              have he655 := Hc652.ext
              have H := H.call0 Hc652
              refine ⟨_, rfl, trivial, fun a S => ?_⟩
              obtain ⟨x658, e659, hm⟩ := bind_some hm
              refine lx_call (xs := [.tmp 60, .tmp 67]) S trivial (by decide) rfl rfl Try.call99 ((spec_l00Put_ok (H.rdAt 3 rfl)  e659).mono ?_)
              rintro e w656 ⟨v660, rfl, Hc657⟩
              have he662 := Hc657.ext
              have H := H.call1 Hc657
              refine ⟨_, rfl, trivial, fun a S => ?_⟩
              refine lx_q v660 S trivial (by decide) (q_assign rfl) (fun a S => ?_)
              refine lx_nil ?_
              refine inBlock_norm ?_
              refine thenN ?_
              refine region_plain ?_
              refine lx_q (.int .i64 x603) S trivial (by decide) (q_move rfl) (fun a S => ?_)
              refine lx_q (.int .i64 (W (x603 + (1 : Int)))) S trivial (by decide) (q_add rfl rfl) (fun a S => ?_)
              refine lx_q (.int .i64 (W (x603 + (1 : Int)))) S trivial (by decide) (q_assign rfl) (fun a S => ?_)
              refine lx_nil ?_
              have H : Heap w0 [bA b571 [(.int .i64 x556.1), (.int .i64 x556.2.1), v561] 71, oA (rList (rInt .i64)) v660 x658, oA (rList (rInt .i64)) v282 xs283, oA (rList Rimpl_Equation) v410 xs411, oA (rList (rInt .i64)) v600 xs601] w656 := H.front 3 rfl
              have H : Heap w0 [oA (rList Rimpl_Equation) v410 xs411, bA b571 [(.int .i64 x556.1), (.int .i64 x556.2.1), v561] 71, oA (rList (rInt .i64)) v660 x658, oA (rList (rInt .i64)) v282 xs283, oA (rList (rInt .i64)) v600 xs601] w656 := H.front 3 rfl
              have H : Heap w0 [oA (rList (rInt .i64)) v282 xs283, oA (rList Rimpl_Equation) v410 xs411, bA b571 [(.int .i64 x556.1), (.int .i64 x556.2.1), v561] 71, oA (rList (rInt .i64)) v660 x658, oA (rList (rInt .i64)) v600 xs601] w656 := H.front 3 rfl
              have H : Heap w0 [oA (rList (rInt .i64)) v282 xs283, oA (rList Rimpl_Equation) v410 xs411, bA b571 [(.int .i64 x556.1), (.int .i64 x556.2.1), v561] 71, oA (rList (rInt .i64)) v660 x658] w656 := H.sel [0, 1, 2, 3] (by decide)
              exact ⟨m642, Nat.lt_succ_self _, x658, (W (x603 + (1 : Int))), v660, S.sub ⟨rfl, rfl, rfl, rfl, rfl, rfl, rfl, trivial⟩, H, it_cont hm hc644⟩
            · have hm := ite_f hc645 hm
              refine wp_exit ?_
              refine then_exit ?_
              refine then_exit ?_
              refine inBlock_exit ?_
              obtain rfl := it_brk hm hc644
              exact ⟨xs601, v600, S.sub ⟨rfl, rfl, rfl, rfl, rfl, rfl, trivial⟩, H, rfl⟩
        · have hm := ite_f hc550 hm
          refine wp_exit ?_
          refine then_exit ?_
          refine then_exit ?_
          refine inBlock_exit ?_
          obtain rfl := it_brk hm hc549
          exact ⟨xs411, v410, S.sub ⟨rfl, rfl, trivial⟩, H, rfl⟩
    · skip
      refine loop_ghost (fun n a w => ∃ (xs161 : List Int) (x163 : Int) (v160 : Value), Slots a 86 [(0, p0), (5, v160), (6, (.int .i64 x163))] ∧ Heap w0 [oA (rList (rInt .i64)) v160 xs161] w ∧ iter f287 n (xs161, x163) = some res285) _ ⟨([] : List Int), (0 : Int), v39, S.sub ⟨rfl, rfl, rfl, trivial⟩, H, hit286⟩ ?_
      rintro n a w ⟨xs161, x163, v160, S, H, hit286⟩
      obtain ⟨m663, o664, rfl, hm, hc665⟩ := iter_step hit286
      rw [hf288] at hm
      refine wp_seq ?_
      refine wp_seq ?_
      refine region_plain ?_
      refine lx_q (.int .i64 x163) S trivial (by decide) (q_move rfl) (fun a S => ?_)
      refine lx_q (.bool (decide (x163 ≤ (9 : Int)))) S trivial (by decide) (q_leq rfl rfl) (fun a S => ?_)
      refine lx_nil ?_
      refine thenN ?_
      refine cond_b S rfl (fun hc666 => ?_) (fun hc666 => ?_)
      · have hm := ite_t hc666 hm
        refine wp_skip ?_
        refine thenN ?_
        refine wp_seq ?_
        refine wp_block ?_
        refine wp_seq ?_
        refine region_plain ?_
        refine lx_q (.int .i64 (0 : Int)) S trivial (by decide) (q_assign rfl) (fun a S => ?_)
        refine lx_nil ?_
        refine thenN ?_
        obtain ⟨res742, hit743, hk746⟩ := bind_some hm
        obtain ⟨f744, hf745, hit743⟩ := iter_name hit743
        refine block_loop (fun a w => ∃ (xs740 : List Int) (v739 : Value), Slots a 86 [(0, p0), (5, v739), (6, (.int .i64 x163))] ∧ Heap w0 [oA (rList (rInt .i64)) v739 xs740] w ∧ res742 = .inl (xs740)) ?_ ?_
        · rintro a w ⟨xs740, v739, S, H, rfl⟩
          have hm := ctl_inl hk746
          refine inBlock_norm ?_
          refine thenN ?_
          refine region_plain ?_
          refine lx_q (.int .i64 x163) S trivial (by decide) (q_move rfl) (fun a S => ?_)
          refine lx_q (.int .i64 (W (x163 + (1 : Int)))) S trivial (by decide) (q_add rfl rfl) (fun a S => ?_)
          refine lx_q (.int .i64 (W (x163 + (1 : Int)))) S trivial (by decide) (q_assign rfl) (fun a S => ?_)
          refine lx_nil ?_
          exact ⟨m663, Nat.lt_succ_self _, xs740, (W (x163 + (1 : Int))), v739, S.sub ⟨rfl, rfl, rfl, trivial⟩, H, it_cont hm hc665⟩
        · skip
          refine loop_ghost (fun n a w => ∃ (xs702 : List Int) (x704 : Int) (v701 : Value), Slots a 86 [(0, p0), (5, v701), (6, (.int .i64 x163)), (7, (.int .i64 x704))] ∧ Heap w0 [oA (rList (rInt .i64)) v701 xs702] w ∧ iter f744 n (xs702, x704) = some res742) _ ⟨xs161, (0 : Int), v160, S.sub ⟨rfl, rfl, rfl, rfl, trivial⟩, H, hit743⟩ ?_
          rintro n a w ⟨xs702, x704, v701, S, H, hit743⟩
          obtain ⟨m747, o748, rfl, hm, hc749⟩ := iter_step hit743
          rw [hf745] at hm
          refine wp_seq ?_
          refine wp_seq ?_
          refine region_plain ?_
          refine lx_q (.int .i64 x704) S trivial (by decide) (q_move rfl) (fun a S => ?_)
          refine lx_q p0 S trivial (by decide) (q_move rfl) (fun a S => ?_)
          refine lx_q (.int .i64 (a0.length : Int)) S trivial (by decide) (q_lenSl rfl (h0).isSl rfl Try.underlying26) (fun a S => ?_)
          refine lx_q (.bool (decide (x704 < (a0.length : Int)))) S trivial (by decide) (q_lss rfl rfl) (fun a S => ?_)
          refine lx_nil ?_
          refine thenN ?_
          refine cond_b S rfl (fun hc750 => ?_) (fun hc750 => ?_)
          · have hm := ite_t hc750 hm
            refine wp_skip ?_
            refine thenN ?_
            obtain ⟨K754, hK755, hm⟩ := join_elim hm
            refine seq_cut (fun a w => ∃ (xs752 : List Int) (v751 : Value), Slots a 86 [(0, p0), (5, v751), (6, (.int .i64 x163)), (7, (.int .i64 x704))] ∧ Heap w0 [oA (rList (rInt .i64)) v751 xs752] w ∧ K754 xs752 = some o748) ?_ ?_
            · rintro a w ⟨xs752, v751, S, H, hm⟩
              subst hK755
              refine region_plain ?_
              refine lx_q (.int .i64 x704) S trivial (by decide) (q_move rfl) (fun a S => ?_)
              refine lx_q (.int .i64 (W (x704 + (1 : Int)))) S trivial (by decide) (q_add rfl rfl) (fun a S => ?_)
              refine lx_q (.int .i64 (W (x704 + (1 : Int)))) S trivial (by decide) (q_assign rfl) (fun a S => ?_)
              refine lx_nil ?_
              exact ⟨m747, Nat.lt_succ_self _, xs752, (W (x704 + (1 : Int))), v751, S.sub ⟨rfl, rfl, rfl, rfl, trivial⟩, H, it_cont hm hc749⟩
            · skip
              refine wp_block ?_
              refine wp_seq ?_
              refine region_plain ?_
              refine lx_q p0 S trivial (by decide) (q_move rfl) (fun a S => ?_)
              refine lx_q (.int .i64 x704) S trivial (by decide) (q_move rfl) (fun a S => ?_)
              obtain ⟨x756, e757, hm⟩ := bind_some hm
              obtain ⟨c758, h759, hat760⟩ := (h0).elem (idx_some e757).2
              obtain ⟨c763, c764, rfl, h765, h766⟩ := h759
              obtain rfl := h765
              obtain ⟨c767, c768, rfl, h769, h770⟩ := h766
              obtain rfl := h769
              obtain ⟨v761, rfl, h762⟩ := rd_list h770
              have hlt := lt_of_idx (idx_some e757).2
              refine lx_q (ePtr p0 (x704.toNat * 3)) S trivial (by decide) (q_indexAddr rfl (h0).isSl rfl (idx_some e757).1 hlt Try.underlying26 Try.sizeOf71) (fun a S => ?_)
              refine lx_q (pAdd (ePtr p0 (x704.toNat * 3)) 1) S trivial (by decide) (q_fieldAddr' 1 2 rfl ((hat760 0 _ rfl).isP) Try.underlying71 rfl Try.sizeOf2) (fun a S => ?_)
              refine lx_e (.int .i64 x756.2.1) S trivial (by decide) rfl trivial (q_load1 rfl Try.isAgg2 (by rintro _ rfl; exact (At.of_add (m := 1) (j := 0) ((hat760 1 _ rfl).ext H.ext)))) (fun a S => ?_)
              refine lx_q (.int .i64 x163) S trivial (by decide) (q_move rfl) (fun a S => ?_)
              refine lx_q (.bool (x756.2.1 == x163)) S trivial (by decide) (q_eql rfl rfl) (fun a S => ?_)
              refine lx_nil ?_
              refine thenN ?_
              refine cond_b S rfl (fun hc771 => ?_) (fun hc771 => ?_)
              · have hm := ite_t hc771 hm
                refine region_plain ?_
                refine lx_q v701 S trivial (by decide) (q_move rfl) (fun a S => ?_)
                refine lx_q (.int .i64 x704) S trivial (by decide) (q_move rfl) (fun a S => ?_)
                refine lx_buildSlice (r := (rInt .i64)) (xs := [x704]) (ps := [(0, [(.int .i64 x704)])]) (cs := [(.int .i64 x704)]) (parts := [(0, .tmp 35)]) S trivial (by decide) rfl (H.put0 (A := eA) rfl) rfl Try.underlying23 Try.sizeOf2 Try.zeroValue2 (by decide) ⟨rfl, rfl, Nat.le_of_ble_eq_true rfl, trivial⟩ (by intro zs hz; exact fill_dense hz ⟨rfl, trivial⟩ rfl rfl) rfl (by decide) (fun w F hA => by cases (show F = [] from hA); exact ⟨_, _, [(.int .i64 x704)], _, rfl, rfl, ⟨rfl, rfl⟩, ⟨rfl, rfl⟩⟩) (fun v772 w773 H => ⟨trivial, fun a S => ?_⟩)
                obtain ⟨x775, e776, hm⟩ := bind_some hm
                obtain ⟨hle, hap⟩ := app_some e776
                replace hap := hap.symm
                subst hap
                have H : Heap w0 [oA (rList (rInt .i64)) v772 [x704], oA (rList (rInt .i64)) v701 xs702] w773 := H.front 0 rfl
                have H : Heap w0 [oA (rList (rInt .i64)) v701 xs702, oA (rList (rInt .i64)) v772 [x704]] w773 := H.front 1 rfl
                refine lx_appendOwn (r := (rInt .i64)) S trivial (by decide) rfl H rfl rfl Try.underlying23 Try.ti2 rfl rfl rfl (by decide) (by decide) hle (fun v777 w778 H => ⟨trivial, fun a S => ?_⟩)
                refine lx_q v777 S trivial (by decide) (q_assign rfl) (fun a S => ?_)
                refine lx_nil ?_
                refine inBlock_norm ?_
                exact ⟨(xs702 ++ [x704]), v777, S.sub ⟨rfl, rfl, rfl, rfl, trivial⟩, H, hm⟩
              · have hm := ite_f hc771 hm
                refine wp_skip ?_
                refine inBlock_norm ?_
                exact ⟨xs702, v701, S.sub ⟨rfl, rfl, rfl, rfl, trivial⟩, H, hm⟩
          · have hm := ite_f hc750 hm
            refine wp_exit ?_
            refine then_exit ?_
            refine then_exit ?_
            refine inBlock_exit ?_
            obtain rfl := it_brk hm hc749
            exact ⟨xs702, v701, S.sub ⟨rfl, rfl, rfl, trivial⟩, H, rfl⟩
      · have hm := ite_f hc666 hm
        refine wp_exit ?_
        refine then_exit ?_
        refine then_exit ?_
        refine inBlock_exit ?_
        obtain rfl := it_brk hm hc665
        exact ⟨xs161, v160, S.sub ⟨rfl, rfl, trivial⟩, H, rfl⟩

/-- impl.upTo -/
def impl_upTo_m (fuel : Nat) (a0 : Int) : Option ((List Int)) :=
  (iter (fun (s : (List Int) × (Int)) => (match s with | (xs46, x48) => (if (decide (x48 < a0)) = true then (app xs46 [x48]).bind fun x78 => some (.inl (x78, (W (x48 + (1 : Int))))) else some (.inr (.inl (xs46)))) : Option (((List Int) × (Int)) ⊕ (((List Int)) ⊕ ((List Int)))))) fuel ([], (0 : Int))).bind fun res65 => ctl (β := (List Int)) (ρ := (List Int)) (τ := (List Int)) res65 (fun (xs63) => some (xs63)) (fun q => some (q))
set_option maxRecDepth 20000 in
theorem impl_upTo_ok {w0 : World} {fuel : Nat} {a0 : Int} {r : (List Int)} (hm : impl_upTo_m fuel a0 = some r) :
    Calls Try.prog 104 #[.int .i64 a0] w0 fun e w => ∃ (v0 : Value), e = .returned (v0) ∧ Heap w0 [oA (rList (rInt .i64)) v0 r] w := by
  unfold impl_upTo_m at hm
  have H := Heap.start w0
  refine enter (args := [.int .i64 a0]) Try.func104 rfl 15 rfl (Nat.le_of_ble_eq_true rfl) (fun a S => ?_)
  refine wp_seq ?_
  refine region_plain ?_
  refine lx_q (.slice none 0 0) S trivial (by decide) (q_assign rfl) (fun a S => ?_)
  refine lx_nil ?_
  refine thenN ?_
  refine wp_seq ?_
  refine region_plain ?_
  refine lx_q (.slice none 0 0) S trivial (by decide) (q_assign rfl) (fun a S => ?_)
  refine lx_nil ?_
  refine thenN ?_
  refine wp_seq ?_
  refine wp_seq ?_
  refine region_plain ?_
  refine lx_q (.int .i64 a0) S trivial (by decide) (q_move rfl) (fun a S => ?_)
  refine lx_q (.int .i64 (0 : Int)) S trivial (by decide) (q_move rfl) (fun a S => ?_)
  refine lx_nil ?_
  refine thenN ?_
  obtain ⟨res65, hit66, hk69⟩ := bind_some hm
  obtain ⟨f67, hf68, hit66⟩ := iter_name hit66
  refine block_loop (fun a w => ∃ (xs63 : List Int) (v62 : Value), Slots a 15 [(3, v62)] ∧ Heap w0 [oA (rList (rInt .i64)) v62 xs63] w ∧ res65 = .inl (xs63)) ?_ ?_
  · rintro a w ⟨xs63, v62, S, H, rfl⟩
    have hm := ctl_inl hk69
    refine thenN ?_
    refine wp_seq ?_
    refine region_plain ?_
    refine lx_q v62 S trivial (by decide) (q_move rfl) (fun a S => ?_)
    refine lx_q v62 S trivial (by decide) (q_assign rfl) (fun a S => ?_)
    refine lx_nil ?_
    refine thenN ?_
    refine wp_ret ?_
    obtain rfl := Option.some.inj hm
    exact leave1 S rfl rfl ⟨v62, rfl, H⟩
  · skip
    have H : Heap w0 [oA (rList (rInt .i64)) (.slice none 0 0) ([] : List Int)] w0 := H.nilList (rInt .i64)
    refine loop_ghost (fun n a w => ∃ (xs46 : List Int) (x48 : Int) (v45 : Value), Slots a 15 [(3, v45), (5, (.int .i64 a0)), (6, (.int .i64 x48))] ∧ Heap w0 [oA (rList (rInt .i64)) v45 xs46] w ∧ iter f67 n (xs46, x48) = some res65) _ ⟨[], (0 : Int), (.slice none 0 0), S.sub ⟨rfl, rfl, rfl, trivial⟩, H, hit66⟩ ?_
    rintro n a w ⟨xs46, x48, v45, S, H, hit66⟩
    obtain ⟨m71, o72, rfl, hm, hc73⟩ := iter_step hit66
    rw [hf68] at hm
    refine wp_seq ?_
    refine region_plain ?_
    refine lx_q (.bool (decide (x48 < a0))) S trivial (by decide) (q_lss rfl rfl) (fun a S => ?_)
    refine lx_nil ?_
    refine thenN ?_
    refine wp_seq ?_
    refine cond_b S rfl (fun hc74 => ?_) (fun hc74 => ?_)
    · have hm := ite_t hc74 hm
      refine wp_skip ?_
      refine thenN ?_
      refine wp_seq ?_
      refine wp_block ?_
      refine wp_seq ?_
      refine region_plain ?_
      refine lx_q (.int .i64 x48) S trivial (by decide) (q_move rfl) (fun a S => ?_)
      refine lx_q (.int .i64 x48) S trivial (by decide) (q_assign rfl) (fun a S => ?_)
      refine lx_nil ?_
      refine thenN ?_
      refine region_plain ?_
      refine lx_q v45 S trivial (by decide) (q_move rfl) (fun a S => ?_)
      refine lx_q (.int .i64 x48) S trivial (by decide) (q_move rfl) (fun a S => ?_)
      refine lx_buildSlice (r := (rInt .i64)) (xs := [x48]) (ps := [(0, [(.int .i64 x48)])]) (cs := [(.int .i64 x48)]) (parts := [(0, .tmp 10)]) S trivial (by decide) rfl (H.put0 (A := eA) rfl) rfl Try.underlying23 Try.sizeOf2 Try.zeroValue2 (by decide) ⟨rfl, rfl, Nat.le_of_ble_eq_true rfl, trivial⟩ (by intro zs hz; exact fill_dense hz ⟨rfl, trivial⟩ rfl rfl) rfl (by decide) (fun w F hA => by cases (show F = [] from hA); exact ⟨_, _, [(.int .i64 x48)], _, rfl, rfl, ⟨rfl, rfl⟩, ⟨rfl, rfl⟩⟩) (fun v75 w76 H => ⟨trivial, fun a S => ?_⟩)
      obtain ⟨x78, e79, hm⟩ := bind_some hm
      obtain ⟨hle, hap⟩ := app_some e79
      replace hap := hap.symm
      subst hap
      have H : Heap w0 [oA (rList (rInt .i64)) v75 [x48], oA (rList (rInt .i64)) v45 xs46] w76 := H.front 0 rfl
      have H : Heap w0 [oA (rList (rInt .i64)) v45 xs46, oA (rList (rInt .i64)) v75 [x48]] w76 := H.front 1 rfl
      refine lx_appendOwn (r := (rInt .i64)) S trivial (by decide) rfl H rfl rfl Try.underlying23 Try.ti2 rfl rfl rfl (by decide) (by decide) hle (fun v80 w81 H => ⟨trivial, fun a S => ?_⟩)
      refine lx_q v80 S trivial (by decide) (q_assign rfl) (fun a S => ?_)
      refine lx_nil ?_
      refine inBlock_norm ?_
      refine thenN ?_
      refine region_plain ?_
      refine lx_q (.int .i64 (W (x48 + (1 : Int)))) S trivial (by decide) (q_add rfl rfl) (fun a S => ?_)
      refine lx_q (.int .i64 (W (x48 + (1 : Int)))) S trivial (by decide) (q_move rfl) (fun a S => ?_)
      refine lx_nil ?_
      exact ⟨m71, Nat.lt_succ_self _, (xs46 ++ [x48]), (W (x48 + (1 : Int))), v80, S.sub ⟨rfl, rfl, rfl, trivial⟩, H, it_cont hm hc73⟩
    · have hm := ite_f hc74 hm
      refine wp_exit ?_
      refine then_exit ?_
      refine then_exit ?_
      refine inBlock_exit ?_
      obtain rfl := it_brk hm hc73
      exact ⟨xs46, v45, S.sub ⟨rfl, trivial⟩, H, rfl⟩

/-- cmp.Or[int] -/
def cmp_Or_int_m (fuel : Nat) (a0 : (List Int)) : Option (Int) :=
  (iter (fun (s : (Int)) => (match s with | (x39) => (if (decide (x39 < (a0.length : Int))) = true then (idx a0 x39).bind fun x57 => (if (x57 != (0 : Int)) = true then some (.inr (.inr x57)) else some (.inl ((W (x39 + (1 : Int)))))) else some (.inr (.inl ()))) : Option (((Int)) ⊕ ((Unit) ⊕ (Int))))) fuel ((0 : Int))).bind fun res48 => ctl (β := Unit) (ρ := Int) (τ := Int) res48 (fun _ => some ((0 : Int))) (fun q => some (q))
set_option maxRecDepth 20000 in
theorem cmp_Or_int_ok {w0 : World} {fuel : Nat} {p0 : Value} {a0 : (List Int)} {r : Int} (h0 : Rd (rList (rInt .i64)) w0 p0 a0) (hm : cmp_Or_int_m fuel a0 = some r) :
    Calls Try.prog 107 #[p0] w0 fun e w => e = .returned (.int .i64 r) ∧ Heap w0 [] w := by
  unfold cmp_Or_int_m at hm
  have H := Heap.start w0
  refine enter (args := [p0]) Try.func107 rfl 18 rfl (Nat.le_of_ble_eq_true rfl) (fun a S => ?_)
  refine wp_seq ?_
  refine region_plain ?_
  refine lx_q (.int .i64 (0 : Int)) S trivial (by decide) (q_assign rfl) (fun a S => ?_)
  refine lx_nil ?_
  refine thenN ?_
  refine wp_seq ?_
  refine region_plain ?_
  refine lx_q (.int .i64 (0 : Int)) S trivial (by decide) (q_assign rfl) (fun a S => ?_)
  refine lx_nil ?_
  refine thenN ?_
  refine wp_seq ?_
  refine wp_seq ?_
  refine region_plain ?_
  refine lx_q p0 S trivial (by decide) (q_move rfl) (fun a S => ?_)
  refine lx_q (.int .i64 (a0.length : Int)) S trivial (by decide) (q_lenSl rfl (h0).isSl rfl Try.underlying139) (fun a S => ?_)
  refine lx_q (.int .i64 (0 : Int)) S trivial (by decide) (q_move rfl) (fun a S => ?_)
  refine lx_nil ?_
  refine thenN ?_
  obtain ⟨res48, hit49, hk52⟩ := bind_some hm
  obtain ⟨f50, hf51, hit49⟩ := iter_name hit49
  refine block_loop (fun a w => Slots a 18 [(3, (.int .i64 (0 : Int)))] ∧ Heap w0 [] w ∧ res48 = .inl ()) ?_ ?_
  · rintro a w ⟨S, H, rfl⟩
    have hm := ctl_inl hk52
    refine thenN ?_
    refine wp_seq ?_
    refine region_plain ?_
    refine lx_q (.int .i64 (0 : Int)) S trivial (by decide) (q_move rfl) (fun a S => ?_)
    refine lx_q (.int .i64 (0 : Int)) S trivial (by decide) (q_assign rfl) (fun a S => ?_)
    refine lx_nil ?_
    refine thenN ?_
    refine wp_ret ?_
    obtain rfl := Option.some.inj hm
    exact leave1 S rfl rfl ⟨rfl, H⟩
  · skip
    refine loop_ghost (fun n a w => ∃ (x39 : Int), Slots a 18 [(3, (.int .i64 (0 : Int))), (6, p0), (7, (.int .i64 (a0.length : Int))), (8, (.int .i64 x39))] ∧ Heap w0 [] w ∧ iter f50 n (x39) = some res48) _ ⟨(0 : Int), S.sub ⟨rfl, rfl, rfl, rfl, trivial⟩, H, hit49⟩ ?_
    rintro n a w ⟨x39, S, H, hit49⟩
    obtain ⟨m53, o54, rfl, hm, hc55⟩ := iter_step hit49
    rw [hf51] at hm
    refine wp_seq ?_
    refine region_plain ?_
    refine lx_q (.bool (decide (x39 < (a0.length : Int)))) S trivial (by decide) (q_lss rfl rfl) (fun a S => ?_)
    refine lx_nil ?_
    refine thenN ?_
    refine wp_seq ?_
    refine cond_b S rfl (fun hc56 => ?_) (fun hc56 => ?_)
    · have hm := ite_t hc56 hm
      refine wp_skip ?_
      refine thenN ?_
      refine wp_seq ?_
      refine wp_block ?_
      refine wp_seq ?_
      refine region_plain ?_
      obtain ⟨x57, e58, hm⟩ := bind_some hm
      obtain ⟨c59, h60, hat61⟩ := (h0).elem (idx_some e58).2
      obtain rfl := h60
      have hlt := lt_of_idx (idx_some e58).2
      refine lx_q (ePtr p0 (x39.toNat * 1)) S trivial (by decide) (q_indexAddr rfl (h0).isSl rfl (idx_some e58).1 hlt Try.underlying139 Try.sizeOf3) (fun a S => ?_)
      refine lx_e (.int .i64 x57) S trivial (by decide) rfl trivial (q_load1 rfl Try.isAgg3 (by rintro _ rfl; exact ((hat61 0 _ rfl).ext H.ext))) (fun a S => ?_)
      refine lx_q (.int .i64 x57) S trivial (by decide) (q_assign rfl) (fun a S => ?_)
      refine lx_nil ?_
      refine thenN ?_
      refine wp_seq ?_
      refine region_plain ?_
      refine lx_q (.int .i64 x57) S trivial (by decide) (q_move rfl) (fun a S => ?_)
      refine lx_q (.int .i64 (0 : Int)) S trivial (by decide) (q_move rfl) (fun a S => ?_)
      refine lx_q (.bool (x57 != (0 : Int))) S trivial (by decide) (q_neq rfl rfl) (fun a S => ?_)
      refine lx_nil ?_
      refine thenN ?_
      refine cond_b S rfl (fun hc62 => ?_) (fun hc62 => ?_)
      · have hm := ite_t hc62 hm
        refine wp_seq ?_
        refine region_plain ?_
        refine lx_q (.int .i64 x57) S trivial (by decide) (q_move rfl) (fun a S => ?_)
        refine lx_q (.int .i64 x57) S trivial (by decide) (q_assign rfl) (fun a S => ?_)
        refine lx_nil ?_
        refine thenN ?_
        refine wp_ret ?_
        refine inBlock_ret ?_
        refine then_ret ?_
        refine then_ret ?_
        refine inBlock_ret ?_
        refine then_ret ?_
        refine then_ret ?_
        obtain rfl := it_brk hm hc55
        have hm := ctl_inr hk52
        obtain rfl := Option.some.inj hm
        exact leave1 S rfl rfl ⟨rfl, H⟩
      · have hm := ite_f hc62 hm
        refine wp_skip ?_
        refine inBlock_norm ?_
        refine thenN ?_
        refine region_plain ?_
        refine lx_q (.int .i64 (W (x39 + (1 : Int)))) S trivial (by decide) (q_add rfl rfl) (fun a S => ?_)
        refine lx_q (.int .i64 (W (x39 + (1 : Int)))) S trivial (by decide) (q_move rfl) (fun a S => ?_)
        refine lx_nil ?_
        exact ⟨m53, Nat.lt_succ_self _, (W (x39 + (1 : Int))), S.sub ⟨rfl, rfl, rfl, rfl, trivial⟩, H, it_cont hm hc55⟩
    · have hm := ite_f hc56 hm
      refine wp_exit ?_
      refine then_exit ?_
      refine then_exit ?_
      refine inBlock_exit ?_
      obtain rfl := it_brk hm hc55
      exact ⟨S.sub ⟨rfl, trivial⟩, H, rfl⟩

/-- impl.EquationsOfGame$1 -/
def impl_EquationsOfGame_1_m (fuel : Nat) (a0 : Int) (a1 : Int) (a2 : (List Timpl_Vertex)) : Option (Int) :=
  (idx a2 a0).bind fun x38 => (idx a2 a1).bind fun x53 => (cmp_Compare_int64_m fuel x38.2.1 x53.2.1).bind fun x70 => (cmp_Compare_int64_m fuel a0 a1).bind fun x75 => (cmp_Or_int_m fuel [x70, x75]).bind fun x83 => some (x83)
set_option maxRecDepth 20000 in
theorem impl_EquationsOfGame_1_ok {w0 : World} {fuel : Nat} {p2 : Value} {a0 : Int} {a1 : Int} {a2 : (List Timpl_Vertex)} {r : Int} (h2 : Rd (rPtr (rList Rimpl_Vertex)) w0 p2 a2) (hm : impl_EquationsOfGame_1_m fuel a0 a1 a2 = some r) :
    Calls Try.prog 106 #[.int .i64 a0, .int .i64 a1, p2] w0 fun e w => e = .returned (.int .i64 r) ∧ Heap w0 [] w := by
  unfold impl_EquationsOfGame_1_m at hm
  have H := Heap.start w0
  obtain ⟨c31, h32, hat33⟩ := h2.ptr
  obtain ⟨v34, rfl, h35⟩ := rd_list h32
  refine enter (args := [.int .i64 a0, .int .i64 a1, p2]) Try.func106 rfl 22 rfl (Nat.le_of_ble_eq_true rfl) (fun a S => ?_)
  refine wp_seq ?_
  refine region_plain ?_
  refine lx_q (.int .i64 (0 : Int)) S trivial (by decide) (q_assign rfl) (fun a S => ?_)
  refine lx_nil ?_
  refine thenN ?_
  refine wp_seq ?_
  refine region_drawG (fun w1 => Heap w0 [] w1) (fun i => [10, 13, 14, 15].contains i) mixed (by kernel_rfl) (fun w37 he36 => ?_)
  have H := H.later he36
  refine ⟨H.sel [] (by decide), ?_⟩
  refine lx_q v34 S trivial (by decide) (q_load1 rfl Try.isAgg26 (fun w1 hC => ((hat33 0 _ rfl).ext hC.ext))) (fun a S => ?_)
  refine lx_q (.int .i64 a0) S trivial (by decide) (q_move rfl) (fun a S => ?_)
  obtain ⟨x38, e39, hm⟩ := bind_some hm
  obtain ⟨c40, h41, hat42⟩ := (h35).elem (idx_some e39).2
  obtain ⟨c45, c46, rfl, h47, h48⟩ := h41
  obtain rfl := h47
  obtain ⟨c49, c50, rfl, h51, h52⟩ := h48
  obtain rfl := h51
  obtain ⟨v43, rfl, h44⟩ := rd_list h52
  have hlt := lt_of_idx (idx_some e39).2
  refine lx_q (ePtr v34 (a0.toNat * 3)) S trivial (by decide) (q_indexAddr rfl (h35).isSl rfl (idx_some e39).1 hlt Try.underlying26 Try.sizeOf71) (fun a S => ?_)
  refine lx_q (pAdd (ePtr v34 (a0.toNat * 3)) 1) S trivial (by decide) (q_fieldAddr' 1 2 rfl ((hat42 0 _ rfl).isP) Try.underlying71 rfl Try.sizeOf2) (fun a S => ?_)
  refine lx_q (.int .i64 x38.2.1) S trivial (by decide) (q_load1 rfl Try.isAgg2 (fun w1 hC => (At.of_add (m := 1) (j := 0) ((hat42 1 _ rfl).ext hC.ext)))) (fun a S => ?_)
  refine lx_q v34 S trivial (by decide) (q_load1 rfl Try.isAgg26 (fun w1 hC => ((hat33 0 _ rfl).ext hC.ext))) (fun a S => ?_)
  refine lx_q (.int .i64 a1) S trivial (by decide) (q_move rfl) (fun a S => ?_)
  obtain ⟨x53, e54, hm⟩ := bind_some hm
  obtain ⟨c55, h56, hat57⟩ := (h35).elem (idx_some e54).2
  obtain ⟨c60, c61, rfl, h62, h63⟩ := h56
  obtain rfl := h62
  obtain ⟨c64, c65, rfl, h66, h67⟩ := h63
  obtain rfl := h66
  obtain ⟨v58, rfl, h59⟩ := rd_list h67
  have hlt := lt_of_idx (idx_some e54).2
  refine lx_q (ePtr v34 (a1.toNat * 3)) S trivial (by decide) (q_indexAddr rfl (h35).isSl rfl (idx_some e54).1 hlt Try.underlying26 Try.sizeOf71) (fun a S => ?_)
  refine lx_q (pAdd (ePtr v34 (a1.toNat * 3)) 1) S trivial (by decide) (q_fieldAddr' 1 2 rfl ((hat57 0 _ rfl).isP) Try.underlying71 rfl Try.sizeOf2) (fun a S => ?_)
  refine lx_q (.int .i64 x53.2.1) S trivial (by decide) (q_load1 rfl Try.isAgg2 (fun w1 hC => (At.of_add (m := 1) (j := 0) ((hat57 1 _ rfl).ext hC.ext)))) (fun a S => ?_)
  obtain ⟨x70, e71, hm⟩ := bind_some hm
  refine lx_call (xs := [.tmp 10, .tmp 15]) S trivial (by decide) rfl rfl Try.call108 ((cmp_Compare_int64_ok   e71).mono ?_)
  rintro e w68 ⟨rfl, Hc69⟩
  have he72 := Hc69.ext
  have H := H.call0 Hc69
  refine ⟨_, rfl, H.sel [] (by decide), fun a S => ?_⟩
  refine lx_q (.int .i64 a0) S trivial (by decide) (q_move rfl) (fun a S => ?_)
  refine lx_q (.int .i64 a1) S trivial (by decide) (q_move rfl) (fun a S => ?_)
  obtain ⟨x75, e76, hm⟩ := bind_some hm
  refine lx_call (xs := [.tmp 17, .tmp 18]) S trivial (by decide) rfl rfl Try.call108 ((cmp_Compare_int64_ok   e76).mono ?_)
  rintro e w73 ⟨rfl, Hc74⟩
  have he77 := Hc74.ext
  have H := H.call0 Hc74
  refine ⟨_, rfl, H.sel [] (by decide), fun a S => ?_⟩
  refine lx_buildSlice (r := (rInt .i64)) (xs := [x70, x75]) (ps := [(0, [(.int .i64 x70)]), (1, [(.int .i64 x75)])]) (cs := [(.int .i64 x70), (.int .i64 x75)]) (parts := [(0, .tmp 16), (1, .tmp 19)]) S trivial (by decide) rfl (H.put0 (A := eA) rfl) rfl Try.underlying139 Try.sizeOf3 Try.zeroValue3 (by decide) ⟨rfl, rfl, Nat.le_of_ble_eq_true rfl, ⟨rfl, rfl, Nat.le_of_ble_eq_true rfl, trivial⟩⟩ (by intro zs hz; exact fill_dense hz ⟨rfl, ⟨rfl, trivial⟩⟩ rfl rfl) rfl (by decide) (fun w F hA => by cases (show F = [] from hA); exact ⟨_, _, [(.int .i64 x70)], _, rfl, rfl, ⟨rfl, rfl⟩, ⟨_, _, [(.int .i64 x75)], _, rfl, rfl, ⟨rfl, rfl⟩, ⟨rfl, rfl⟩⟩⟩) (fun v78 w79 H => ⟨H.sel [] (by decide), fun a S => ?_⟩)
  obtain ⟨x83, e84, hm⟩ := bind_some hm
  refine lx_call (xs := [.tmp 20]) S trivial (by decide) rfl rfl Try.call107 ((cmp_Or_int_ok (H.rdAt 0 rfl) e84).mono ?_)
  rintro e w81 ⟨rfl, Hc82⟩
  have he85 := Hc82.ext
  have H := H.call0 Hc82
  refine ⟨_, rfl, H.sel [] (by decide), fun a S => ?_⟩
  refine lx_q (.int .i64 x83) S trivial (by decide) (q_assign rfl) (fun a S => ?_)
  refine lx_nil ?_
  refine thenN ?_
  refine wp_ret ?_
  obtain rfl := Option.some.inj hm
  have H : Heap w0 [] w81 := H.sel [] (by decide)
  exact leave1 S rfl rfl ⟨rfl, H⟩
end Go.Proofs.Ytecknjdlbmmmiaa
