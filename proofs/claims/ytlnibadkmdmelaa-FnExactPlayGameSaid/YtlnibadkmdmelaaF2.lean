/- The models of some functions and their walks (printed by a program of this repo). -/
import Derived.Test.YtlnibadkmdmelaaF1
namespace Go.Proofs.Ytlnibadkmdmelaa
open Go.RowKit Go.Gx

/-- spec.l22Blocks -/
def spec_l22Blocks_m (fuel : Nat) (a0 : (List Timpl_Equation)) : Option ((List Int)) :=
  (iter (fun (s : (List Int) × (Int)) => (match s with | (xs89, x91) => (if (decide (x91 < (a0.length : Int))) = true then (idx xs89 (W (x91 - (1 : Int)))).bind fun x158 => join (κ := Int → Option (((List Int) × (Int)) ⊕ (((List Int)) ⊕ ((List Int))))) (fun (x163 : Int) => (app xs89 [x163]).bind fun x169 => some (.inl (x169, (W (x91 + (1 : Int)))))) (fun K164 => (idx a0 x91).bind fun x176 => (idx a0 (W (x91 - (1 : Int)))).bind fun x191 => (if (x176.1 != x191.1) = true then (K164 (W (x158 + (1 : Int)))) else (K164 x158))) else some (.inr (.inl (xs89)))) : Option (((List Int) × (Int)) ⊕ (((List Int)) ⊕ ((List Int)))))) fuel ([(0 : Int)], (1 : Int))).bind fun res149 => ctl (β := (List Int)) (ρ := (List Int)) (τ := (List Int)) res149 (fun (xs147) => some (xs147)) (fun q => some (q))
set_option maxRecDepth 20000 in
theorem spec_l22Blocks_ok {w0 : World} {fuel : Nat} {p0 : Value} {a0 : (List Timpl_Equation)} {r : (List Int)} (h0 : Rd (rList Rimpl_Equation) w0 p0 a0) (hm : spec_l22Blocks_m fuel a0 = some r) :
    Calls Try.prog 46 #[p0] w0 fun e w => ∃ (v0 : Value), e = .returned (v0) ∧ Heap w0 [oA (rList (rInt .i64)) v0 r] w := by
  unfold spec_l22Blocks_m at hm
  have H := Heap.start w0
  refine enter (args := [p0]) Try.func46 rfl 37 rfl (Nat.le_of_ble_eq_true rfl) (fun a S => ?_)
  refine wp_seq ?_
  refine region_plain ?_
  refine lx_q (.slice none 0 0) S trivial (by decide) (q_assign rfl) (fun a S => ?_)
  refine lx_nil ?_
  refine thenN ?_
  refine wp_seq ?_
  refine region_plain ?_
  refine lx_buildSlice (r := (rInt .i64)) (xs := [(0 : Int)]) (ps := [(0, [(.int .i64 (0 : Int))])]) (cs := [(.int .i64 (0 : Int))]) (parts := [(0, .const (.int .i64 (0)))]) S trivial (by decide) rfl (H.put0 (A := eA) rfl) rfl Try.underlying29 Try.sizeOf2 Try.zeroValue2 (by decide) ⟨rfl, rfl, Nat.le_of_ble_eq_true rfl, trivial⟩ (by intro zs hz; exact fill_dense hz ⟨rfl, trivial⟩ rfl rfl) rfl (by decide) (fun w F hA => by cases (show F = [] from hA); exact ⟨_, _, [(.int .i64 (0 : Int))], _, rfl, rfl, ⟨rfl, rfl⟩, ⟨rfl, rfl⟩⟩) (fun v31 w32 H => ⟨trivial, fun a S => ?_⟩)
  refine lx_q v31 S trivial (by decide) (q_assign rfl) (fun a S => ?_)
  refine lx_nil ?_
  refine thenN ?_
  refine wp_seq ?_
  refine wp_seq ?_
  refine region_plain ?_
  refine lx_q (.int .i64 (1 : Int)) S trivial (by decide) (q_assign rfl) (fun a S => ?_)
  refine lx_nil ?_
  refine thenN ?_
  obtain ⟨res149, hit150, hk153⟩ := bind_some hm
  obtain ⟨f151, hf152, hit150⟩ := iter_name hit150
  refine block_loop (fun a w => ∃ (xs147 : List Int) (v146 : Value), Slots a 37 [(3, v146)] ∧ Heap w0 [oA (rList (rInt .i64)) v146 xs147] w ∧ res149 = .inl (xs147)) ?_ ?_
  · rintro a w ⟨xs147, v146, S, H, rfl⟩
    have hm := ctl_inl hk153
    refine thenN ?_
    refine wp_seq ?_
    refine region_plain ?_
    refine lx_q v146 S trivial (by decide) (q_move rfl) (fun a S => ?_)
    refine lx_q v146 S trivial (by decide) (q_assign rfl) (fun a S => ?_)
    refine lx_nil ?_
    refine thenN ?_
    refine wp_ret ?_
    obtain rfl := Option.some.inj hm
    exact leave1 S rfl rfl ⟨v146, rfl, H⟩
  · skip
    refine loop_ghost (fun n a w => ∃ (xs89 : List Int) (x91 : Int) (v88 : Value), Slots a 37 [(0, p0), (3, v88), (4, (.int .i64 x91))] ∧ Heap w0 [oA (rList (rInt .i64)) v88 xs89] w ∧ iter f151 n (xs89, x91) = some res149) _ ⟨[(0 : Int)], (1 : Int), v31, S.sub ⟨rfl, rfl, rfl, trivial⟩, H, hit150⟩ ?_
    rintro n a w ⟨xs89, x91, v88, S, H, hit150⟩
    obtain ⟨m154, o155, rfl, hm, hc156⟩ := iter_step hit150
    rw [hf152] at hm
    refine wp_seq ?_
    refine wp_seq ?_
    refine region_plain ?_
    refine lx_q (.int .i64 x91) S trivial (by decide) (q_move rfl) (fun a S => ?_)
    refine lx_q p0 S trivial (by decide) (q_move rfl) (fun a S => ?_)
    refine lx_q (.int .i64 (a0.length : Int)) S trivial (by decide) (q_lenSl rfl (h0).isSl rfl Try.underlying25) (fun a S => ?_)
    refine lx_q (.bool (decide (x91 < (a0.length : Int)))) S trivial (by decide) (q_lss rfl rfl) (fun a S => ?_)
    refine lx_nil ?_
    refine thenN ?_
    refine cond_b S rfl (fun hc157 => ?_) (fun hc157 => ?_)
    · have hm := ite_t hc157 hm
      refine wp_skip ?_
      refine thenN ?_
      refine wp_seq ?_
      refine wp_block ?_
      refine wp_seq ?_
      refine region_plain ?_
      refine lx_q v88 S trivial (by decide) (q_move rfl) (fun a S => ?_)
      refine lx_q (.int .i64 x91) S trivial (by decide) (q_move rfl) (fun a S => ?_)
      refine lx_q (.int .i64 (W (x91 - (1 : Int)))) S trivial (by decide) (q_sub rfl rfl) (fun a S => ?_)
      obtain ⟨x158, e159, hm⟩ := bind_some hm
      have hlt := lt_of_idx (idx_some e159).2
      refine lx_q (ePtr v88 ((W (x91 - (1 : Int))).toNat * 1)) S trivial (by decide) (q_indexAddr rfl (H.isSl 0 rfl) rfl (idx_some e159).1 hlt Try.underlying29 Try.sizeOf2) (fun a S => ?_)
      obtain ⟨c160, h161, hat162⟩ := (H.rdAt 0 rfl).elem (idx_some e159).2
      obtain rfl := h161
      refine lx_e (.int .i64 x158) S trivial (by decide) rfl trivial (q_load1 rfl Try.isAgg2 (by rintro _ rfl; exact (hat162 0 _ rfl))) (fun a S => ?_)
      refine lx_q (.int .i64 x158) S trivial (by decide) (q_assign rfl) (fun a S => ?_)
      refine lx_nil ?_
      refine thenN ?_
      obtain ⟨K164, hK165, hm⟩ := join_elim hm
      refine seq_cut (fun a w => ∃ (x163 : Int), Slots a 37 [(0, p0), (3, v88), (4, (.int .i64 x91)), (5, (.int .i64 x163))] ∧ Heap w0 [oA (rList (rInt .i64)) v88 xs89] w ∧ K164 x163 = some o155) ?_ ?_
      · rintro a w ⟨x163, S, H, hm⟩
        subst hK165
        refine region_plain ?_
        refine lx_q v88 S trivial (by decide) (q_move rfl) (fun a S => ?_)
        refine lx_q (.int .i64 x163) S trivial (by decide) (q_move rfl) (fun a S => ?_)
        refine lx_buildSlice (r := (rInt .i64)) (xs := [x163]) (ps := [(0, [(.int .i64 x163)])]) (cs := [(.int .i64 x163)]) (parts := [(0, .tmp 33)]) S trivial (by decide) rfl (H.put0 (A := eA) rfl) rfl Try.underlying29 Try.sizeOf2 Try.zeroValue2 (by decide) ⟨rfl, rfl, Nat.le_of_ble_eq_true rfl, trivial⟩ (by intro zs hz; exact fill_dense hz ⟨rfl, trivial⟩ rfl rfl) rfl (by decide) (fun w F hA => by cases (show F = [] from hA); exact ⟨_, _, [(.int .i64 x163)], _, rfl, rfl, ⟨rfl, rfl⟩, ⟨rfl, rfl⟩⟩) (fun v166 w167 H => ⟨trivial, fun a S => ?_⟩)
        obtain ⟨x169, e170, hm⟩ := bind_some hm
        obtain ⟨hle, rfl⟩ := app_some e170
        have H : Heap w0 [oA (rList (rInt .i64)) v166 [x163], oA (rList (rInt .i64)) v88 xs89] w167 := H.front 0 rfl
        have H : Heap w0 [oA (rList (rInt .i64)) v88 xs89, oA (rList (rInt .i64)) v166 [x163]] w167 := H.front 1 rfl
        refine lx_appendOwn (r := (rInt .i64)) S trivial (by decide) rfl H rfl rfl Try.underlying29 Try.ti2 rfl rfl rfl (by decide) (by decide) hle (fun v171 w172 H => ⟨trivial, fun a S => ?_⟩)
        refine lx_q v171 S trivial (by decide) (q_assign rfl) (fun a S => ?_)
        refine lx_nil ?_
        refine inBlock_norm ?_
        refine thenN ?_
        refine region_plain ?_
        refine lx_q (.int .i64 x91) S trivial (by decide) (q_move rfl) (fun a S => ?_)
        refine lx_q (.int .i64 (W (x91 + (1 : Int)))) S trivial (by decide) (q_add rfl rfl) (fun a S => ?_)
        refine lx_q (.int .i64 (W (x91 + (1 : Int)))) S trivial (by decide) (q_assign rfl) (fun a S => ?_)
        refine lx_nil ?_
        exact ⟨m154, Nat.lt_succ_self _, (xs89 ++ [x163]), (W (x91 + (1 : Int))), v171, S.sub ⟨rfl, rfl, rfl, trivial⟩, H, it_cont hm hc156⟩
      · skip
        refine wp_seq ?_
        refine region_drawG (fun w1 => Heap w0 [] w1) (fun i => [].contains i) mixed (by kernel_rfl) (fun w175 he174 => ?_)
        have H := H.later he174
        refine ⟨H.sel [] (by decide), ?_⟩
        refine lx_q p0 S trivial (by decide) (q_move rfl) (fun a S => ?_)
        refine lx_q (.int .i64 x91) S trivial (by decide) (q_move rfl) (fun a S => ?_)
        obtain ⟨x176, e177, hm⟩ := bind_some hm
        obtain ⟨c178, h179, hat180⟩ := (h0).elem (idx_some e177).2
        obtain ⟨c183, c184, rfl, h185, h186⟩ := h179
        obtain rfl := h185
        obtain ⟨c187, c188, rfl, h189, h190⟩ := h186
        obtain rfl := h189
        obtain ⟨v181, rfl, h182⟩ := rd_list h190
        have hlt := lt_of_idx (idx_some e177).2
        refine lx_q (ePtr p0 (x91.toNat * 3)) S trivial (by decide) (q_indexAddr rfl (h0).isSl rfl (idx_some e177).1 hlt Try.underlying25 Try.sizeOf58) (fun a S => ?_)
        refine lx_q (pAdd (ePtr p0 (x91.toNat * 3)) 0) S trivial (by decide) (q_fieldAddr' 0 4 rfl ((hat180 0 _ rfl).isP) Try.underlying58 rfl Try.sizeOf4) (fun a S => ?_)
        refine lx_q (.bool x176.1) S trivial (by decide) (q_load1 rfl Try.isAgg4 (fun w1 hC => (At.of_add (m := 0) (j := 0) ((hat180 0 _ rfl).ext hC.ext)))) (fun a S => ?_)
        refine lx_q p0 S trivial (by decide) (q_move rfl) (fun a S => ?_)
        refine lx_q (.int .i64 x91) S trivial (by decide) (q_move rfl) (fun a S => ?_)
        refine lx_q (.int .i64 (W (x91 - (1 : Int)))) S trivial (by decide) (q_sub rfl rfl) (fun a S => ?_)
        obtain ⟨x191, e192, hm⟩ := bind_some hm
        obtain ⟨c193, h194, hat195⟩ := (h0).elem (idx_some e192).2
        obtain ⟨c198, c199, rfl, h200, h201⟩ := h194
        obtain rfl := h200
        obtain ⟨c202, c203, rfl, h204, h205⟩ := h201
        obtain rfl := h204
        obtain ⟨v196, rfl, h197⟩ := rd_list h205
        have hlt := lt_of_idx (idx_some e192).2
        refine lx_q (ePtr p0 ((W (x91 - (1 : Int))).toNat * 3)) S trivial (by decide) (q_indexAddr rfl (h0).isSl rfl (idx_some e192).1 hlt Try.underlying25 Try.sizeOf58) (fun a S => ?_)
        refine lx_q (pAdd (ePtr p0 ((W (x91 - (1 : Int))).toNat * 3)) 0) S trivial (by decide) (q_fieldAddr' 0 4 rfl ((hat195 0 _ rfl).isP) Try.underlying58 rfl Try.sizeOf4) (fun a S => ?_)
        refine lx_q (.bool x191.1) S trivial (by decide) (q_load1 rfl Try.isAgg4 (fun w1 hC => (At.of_add (m := 0) (j := 0) ((hat195 0 _ rfl).ext hC.ext)))) (fun a S => ?_)
        refine lx_q (.bool (x176.1 != x191.1)) S trivial (by decide) (q_bneq rfl rfl Try.underlying4) (fun a S => ?_)
        refine lx_nil ?_
        refine thenN ?_
        refine cond_b S rfl (fun hc206 => ?_) (fun hc206 => ?_)
        · have hm := ite_t hc206 hm
          refine region_plain ?_
          refine lx_q (.int .i64 x158) S trivial (by decide) (q_move rfl) (fun a S => ?_)
          refine lx_q (.int .i64 (W (x158 + (1 : Int)))) S trivial (by decide) (q_add rfl rfl) (fun a S => ?_)
          refine lx_q (.int .i64 (W (x158 + (1 : Int)))) S trivial (by decide) (q_assign rfl) (fun a S => ?_)
          refine lx_nil ?_
          exact ⟨(W (x158 + (1 : Int))), S.sub ⟨rfl, rfl, rfl, rfl, trivial⟩, H, hm⟩
        · have hm := ite_f hc206 hm
          refine wp_skip ?_
          exact ⟨x158, S.sub ⟨rfl, rfl, rfl, rfl, trivial⟩, H, hm⟩
    · have hm := ite_f hc157 hm
      refine wp_exit ?_
      refine then_exit ?_
      refine then_exit ?_
      refine inBlock_exit ?_
      obtain rfl := it_brk hm hc156
      exact ⟨xs89, v88, S.sub ⟨rfl, trivial⟩, H, rfl⟩

/-- spec.EquationBlocks -/
def spec_EquationBlocks_m (fuel : Nat) (a0 : (List Timpl_Equation)) : Option (((List Int) × Int)) :=
  (spec_l22Is_m fuel a0).bind fun x33 => (if (!x33) = true then some (([], (1 : Int))) else (spec_l22Blocks_m fuel a0).bind fun x40 => some ((x40, (0 : Int))))
set_option maxRecDepth 20000 in
theorem spec_EquationBlocks_ok {w0 : World} {fuel : Nat} {p0 : Value} {a0 : (List Timpl_Equation)} {r : ((List Int) × Int)} (h0 : Rd (rList Rimpl_Equation) w0 p0 a0) (hm : spec_EquationBlocks_m fuel a0 = some r) :
    Calls Try.prog 14 #[p0] w0 fun e w => ∃ (v0 : Value), e = .returned (.tuple #[v0, .int .i64 r.2]) ∧ Heap w0 [oA (rList (rInt .i64)) v0 r.1] w := by
  unfold spec_EquationBlocks_m at hm
  have H := Heap.start w0
  refine enter (args := [p0]) Try.func14 rfl 9 rfl (Nat.le_of_ble_eq_true rfl) (fun a S => ?_)
  refine wp_seq ?_
  refine region_plain ?_
  refine lx_q (.slice none 0 0) S trivial (by decide) (q_assign rfl) (fun a S => ?_)
  refine lx_q (.int .i64 (0 : Int)) S trivial (by decide) (q_assign rfl) (fun a S => ?_)
  refine lx_nil ?_
  refine thenN ?_
  refine wp_seq ?_
  refine wp_seq ?_
  refine region_plain ?_
  refine lx_q p0 S trivial (by decide) (q_move rfl) (fun a S => ?_)
  obtain ⟨x33, e34, hm⟩ := bind_some hm
  refine lx_call (xs := [.tmp 4]) S trivial (by decide) rfl rfl Try.call38 ((spec_l22Is_ok (H.arg h0) e34).mono ?_)
  rintro e w31 ⟨rfl, Hc32⟩
  have he35 := Hc32.ext
  have H := H.call0 Hc32
  refine ⟨_, rfl, trivial, fun a S => ?_⟩
  refine lx_q (.bool (!x33)) S trivial (by decide) (q_not rfl) (fun a S => ?_)
  refine lx_nil ?_
  refine thenN ?_
  refine cond_b S rfl (fun hc36 => ?_) (fun hc36 => ?_)
  · have hm := ite_t hc36 hm
    refine wp_seq ?_
    refine region_plain ?_
    refine lx_q (.slice none 0 0) S trivial (by decide) (q_assign rfl) (fun a S => ?_)
    refine lx_q (.int .i64 (1 : Int)) S trivial (by decide) (q_assign rfl) (fun a S => ?_)
    refine lx_nil ?_
    refine thenN ?_
    refine wp_ret ?_
    refine then_ret ?_
    obtain rfl := Option.some.inj hm
    have H : Heap w0 [oA (rList (rInt .i64)) (.slice none 0 0) ([] : List Int)] w31 := H.nilList (rInt .i64)
    exact leave2 S rfl rfl rfl ⟨(.slice none 0 0), rfl, H⟩
  · have hm := ite_f hc36 hm
    refine wp_skip ?_
    refine thenN ?_
    refine wp_seq ?_
    refine region_plain ?_
    refine lx_q p0 S trivial (by decide) (q_move rfl) (fun a S => ?_)
    obtain ⟨x40, e41, hm⟩ := bind_some hm
    refine lx_call (xs := [.tmp 7]) S trivial (by decide) rfl rfl Try.call46 ((spec_l22Blocks_ok (H.arg h0) e41).mono ?_)
    rintro e w38 ⟨v42, rfl, Hc39⟩
    have he44 := Hc39.ext
    have H := H.call1 Hc39
    refine ⟨_, rfl, trivial, fun a S => ?_⟩
    refine lx_q v42 S trivial (by decide) (q_assign rfl) (fun a S => ?_)
    refine lx_q (.int .i64 (0 : Int)) S trivial (by decide) (q_assign rfl) (fun a S => ?_)
    refine lx_nil ?_
    refine thenN ?_
    refine wp_ret ?_
    obtain rfl := Option.some.inj hm
    exact leave2 S rfl rfl rfl ⟨v42, rfl, H⟩

/-- impl.EquationBlocks -/
def impl_EquationBlocks_m (fuel : Nat) (a0 : (List Timpl_Equation)) : Option (((List Int) × Int)) :=
  (impl_ValidEquations_m fuel a0).bind fun x33 => (if (!x33) = true then some (([], (1 : Int))) else (impl_equationBlocks_m fuel a0).bind fun x40 => some ((x40, (0 : Int))))
set_option maxRecDepth 20000 in
theorem impl_EquationBlocks_ok {w0 : World} {fuel : Nat} {p0 : Value} {a0 : (List Timpl_Equation)} {r : ((List Int) × Int)} (h0 : Rd (rList Rimpl_Equation) w0 p0 a0) (hm : impl_EquationBlocks_m fuel a0 = some r) :
    Calls Try.prog 15 #[p0] w0 fun e w => ∃ (v0 : Value), e = .returned (.tuple #[v0, .int .i64 r.2]) ∧ Heap w0 [oA (rList (rInt .i64)) v0 r.1] w := by
  unfold impl_EquationBlocks_m at hm
  have H := Heap.start w0
  refine enter (args := [p0]) Try.func15 rfl 9 rfl (Nat.le_of_ble_eq_true rfl) (fun a S => ?_)
  refine wp_seq ?_
  refine region_plain ?_
  refine lx_q (.slice none 0 0) S trivial (by decide) (q_assign rfl) (fun a S => ?_)
  refine lx_q (.int .i64 (0 : Int)) S trivial (by decide) (q_assign rfl) (fun a S => ?_)
  refine lx_nil ?_
  refine thenN ?_
  refine wp_seq ?_
  refine wp_seq ?_
  refine region_plain ?_
  refine lx_q p0 S trivial (by decide) (q_move rfl) (fun a S => ?_)
  obtain ⟨x33, e34, hm⟩ := bind_some hm
  refine lx_call (xs := [.tmp 4]) S trivial (by decide) rfl rfl Try.call12 ((impl_ValidEquations_ok (H.arg h0) e34).mono ?_)
  rintro e w31 ⟨rfl, Hc32⟩
  have he35 := Hc32.ext
  have H := H.call0 Hc32
  refine ⟨_, rfl, trivial, fun a S => ?_⟩
  refine lx_q (.bool (!x33)) S trivial (by decide) (q_not rfl) (fun a S => ?_)
  refine lx_nil ?_
  refine thenN ?_
  refine cond_b S rfl (fun hc36 => ?_) (fun hc36 => ?_)
  · have hm := ite_t hc36 hm
    refine wp_seq ?_
    refine region_plain ?_
    refine lx_q (.slice none 0 0) S trivial (by decide) (q_assign rfl) (fun a S => ?_)
    refine lx_q (.int .i64 (1 : Int)) S trivial (by decide) (q_assign rfl) (fun a S => ?_)
    refine lx_nil ?_
    refine thenN ?_
    refine wp_ret ?_
    refine then_ret ?_
    obtain rfl := Option.some.inj hm
    have H : Heap w0 [oA (rList (rInt .i64)) (.slice none 0 0) ([] : List Int)] w31 := H.nilList (rInt .i64)
    exact leave2 S rfl rfl rfl ⟨(.slice none 0 0), rfl, H⟩
  · have hm := ite_f hc36 hm
    refine wp_skip ?_
    refine thenN ?_
    refine wp_seq ?_
    refine region_plain ?_
    refine lx_q p0 S trivial (by decide) (q_move rfl) (fun a S => ?_)
    obtain ⟨x40, e41, hm⟩ := bind_some hm
    refine lx_call (xs := [.tmp 7]) S trivial (by decide) rfl rfl Try.call47 ((impl_equationBlocks_ok (H.arg h0) e41).mono ?_)
    rintro e w38 ⟨v42, rfl, Hc39⟩
    have he44 := Hc39.ext
    have H := H.call1 Hc39
    refine ⟨_, rfl, trivial, fun a S => ?_⟩
    refine lx_q v42 S trivial (by decide) (q_assign rfl) (fun a S => ?_)
    refine lx_q (.int .i64 (0 : Int)) S trivial (by decide) (q_assign rfl) (fun a S => ?_)
    refine lx_nil ?_
    refine thenN ?_
    refine wp_ret ?_
    obtain rfl := Option.some.inj hm
    exact leave2 S rfl rfl rfl ⟨v42, rfl, H⟩

/-- laws.markInt64S -/
def laws_markInt64S_m (fuel : Nat) (a0 : (List Int)) (a1 : Int) : Option (Int × (List Int)) :=
  (iter (fun (s : (List Int) × (Int) × (Int)) => (match s with | (xs38, x39, x40) => (if (decide (x40 < (xs38.length : Int))) = true then (idx xs38 x40).bind fun x59 => some (.inl ((xs38.set x40.toNat x39), (W (x39 + (1 : Int))), (W (x40 + (1 : Int))))) else some (.inr (.inl (x39, xs38)))) : Option (((List Int) × (Int) × (Int)) ⊕ ((Int × (List Int)) ⊕ (Int × (List Int)))))) fuel (a0, a1, (0 : Int))).bind fun res50 => ctl (β := Int × (List Int)) (ρ := Int × (List Int)) (τ := Int × (List Int)) res50 (fun (x48, xs49) => some ((x48, xs49))) (fun q => some (q))
set_option maxRecDepth 20000 in
theorem laws_markInt64S_ok {w0 : World} {fuel : Nat} {p0 : Value} {a0 : (List Int)} {a1 : Int} {w00 : World} {L : List Asrt} {r : Int × (List Int)} (H : Heap w00 (oA (rList (rInt .i64)) p0 a0 :: L) w0) (hm : laws_markInt64S_m fuel a0 a1 = some r) :
    Calls Try.prog 18 #[p0, .int .i64 a1] w0 fun e w => e = .returned (.int .i64 r.1) ∧ Heap w00 (oA (rList (rInt .i64)) p0 r.2 :: L) w := by
  unfold laws_markInt64S_m at hm
  refine enter (args := [p0, .int .i64 a1]) Try.func18 rfl 19 rfl (Nat.le_of_ble_eq_true rfl) (fun a S => ?_)
  refine wp_seq ?_
  refine region_plain ?_
  refine lx_q (.int .i64 (0 : Int)) S trivial (by decide) (q_assign rfl) (fun a S => ?_)
  refine lx_nil ?_
  refine thenN ?_
  refine wp_seq ?_
  refine wp_seq ?_
  refine region_plain ?_
  refine lx_q (.int .i64 (0 : Int)) S trivial (by decide) (q_assign rfl) (fun a S => ?_)
  refine lx_nil ?_
  refine thenN ?_
  obtain ⟨res50, hit51, hk54⟩ := bind_some hm
  obtain ⟨f52, hf53, hit51⟩ := iter_name hit51
  refine block_loop (fun a w => ∃ (x48 : Int) (xs49 : List Int), Slots a 19 [(1, (.int .i64 x48))] ∧ Heap w00 (oA (rList (rInt .i64)) p0 xs49 :: L) w ∧ res50 = .inl (x48, xs49)) ?_ ?_
  · rintro a w ⟨x48, xs49, S, H, rfl⟩
    have hm := ctl_inl hk54
    refine thenN ?_
    refine wp_seq ?_
    refine region_plain ?_
    refine lx_q (.int .i64 x48) S trivial (by decide) (q_move rfl) (fun a S => ?_)
    refine lx_q (.int .i64 x48) S trivial (by decide) (q_assign rfl) (fun a S => ?_)
    refine lx_nil ?_
    refine thenN ?_
    refine wp_ret ?_
    obtain rfl := Option.some.inj hm
    exact leave1 S rfl rfl ⟨rfl, H⟩
  · skip
    refine loop_ghost (fun n a w => ∃ (xs38 : List Int) (x39 : Int) (x40 : Int), Slots a 19 [(0, p0), (1, (.int .i64 x39)), (5, (.int .i64 x40))] ∧ Heap w00 (oA (rList (rInt .i64)) p0 xs38 :: L) w ∧ iter f52 n (xs38, x39, x40) = some res50) _ ⟨a0, a1, (0 : Int), S.sub ⟨rfl, rfl, rfl, trivial⟩, H, hit51⟩ ?_
    rintro n a w ⟨xs38, x39, x40, S, H, hit51⟩
    obtain ⟨m55, o56, rfl, hm, hc57⟩ := iter_step hit51
    rw [hf53] at hm
    refine wp_seq ?_
    refine wp_seq ?_
    refine region_plain ?_
    refine lx_q (.int .i64 x40) S trivial (by decide) (q_move rfl) (fun a S => ?_)
    refine lx_q p0 S trivial (by decide) (q_move rfl) (fun a S => ?_)
    refine lx_q (.int .i64 (xs38.length : Int)) S trivial (by decide) (q_lenSl rfl (H.isSl 0 rfl) rfl Try.underlying29) (fun a S => ?_)
    refine lx_q (.bool (decide (x40 < (xs38.length : Int)))) S trivial (by decide) (q_lss rfl rfl) (fun a S => ?_)
    refine lx_nil ?_
    refine thenN ?_
    refine cond_b S rfl (fun hc58 => ?_) (fun hc58 => ?_)
    · have hm := ite_t hc58 hm
      refine wp_skip ?_
      refine thenN ?_
      refine wp_seq ?_
      refine wp_block ?_
      refine wp_seq ?_
      refine region_plain ?_
      refine lx_q p0 S trivial (by decide) (q_move rfl) (fun a S => ?_)
      refine lx_q (.int .i64 x40) S trivial (by decide) (q_move rfl) (fun a S => ?_)
      refine lx_q (.int .i64 x39) S trivial (by decide) (q_move rfl) (fun a S => ?_)
      obtain ⟨x59, e60, hm⟩ := bind_some hm
      have hlt := lt_of_idx (idx_some e60).2
      refine lx_q (ePtr p0 (x40.toNat * 1)) S trivial (by decide) (q_indexAddr rfl (H.isSl 0 rfl) rfl (idx_some e60).1 hlt Try.underlying29 Try.sizeOf2) (fun a S => ?_)
      refine lx_storeElem (r := (rInt .i64)) (us := [(.int .i64 x39)]) (off := 0) (e' := x39) S trivial rfl H.putE (by rw [pAdd_zero]; rfl) rfl (idx_some e60).2 rfl Try.sizeOf2 (Nat.le_of_ble_eq_true rfl) (List.forall_mem_cons.2 ⟨rfl, (fun _ h => nomatch h)⟩) (Upd.full rfl (fun w G hG => by cases (show G = [] from hG); exact ⟨rfl, rfl⟩)) (fun w61 H => ⟨trivial, fun a S => ?_⟩)
      refine lx_nil ?_
      refine thenN ?_
      refine region_plain ?_
      refine lx_q (.int .i64 x39) S trivial (by decide) (q_move rfl) (fun a S => ?_)
      refine lx_q (.int .i64 (W (x39 + (1 : Int)))) S trivial (by decide) (q_add rfl rfl) (fun a S => ?_)
      refine lx_q (.int .i64 (W (x39 + (1 : Int)))) S trivial (by decide) (q_assign rfl) (fun a S => ?_)
      refine lx_nil ?_
      refine inBlock_norm ?_
      refine thenN ?_
      refine region_plain ?_
      refine lx_q (.int .i64 x40) S trivial (by decide) (q_move rfl) (fun a S => ?_)
      refine lx_q (.int .i64 (W (x40 + (1 : Int)))) S trivial (by decide) (q_add rfl rfl) (fun a S => ?_)
      refine lx_q (.int .i64 (W (x40 + (1 : Int)))) S trivial (by decide) (q_assign rfl) (fun a S => ?_)
      refine lx_nil ?_
      exact ⟨m55, Nat.lt_succ_self _, (xs38.set x40.toNat x39), (W (x39 + (1 : Int))), (W (x40 + (1 : Int))), S.sub ⟨rfl, rfl, rfl, trivial⟩, H, it_cont hm hc57⟩
    · have hm := ite_f hc58 hm
      refine wp_exit ?_
      refine then_exit ?_
      refine then_exit ?_
      refine inBlock_exit ?_
      obtain rfl := it_brk hm hc57
      exact ⟨x39, xs38, S.sub ⟨rfl, trivial⟩, H, rfl⟩

/-- laws.markEquationS -/
def laws_markEquationS_m (fuel : Nat) (a0 : (List Timpl_Equation)) (a1 : Int) : Option (Int × (List Timpl_Equation)) :=
  (iter (fun (s : (List Timpl_Equation) × (Int) × (Int)) => (match s with | (xs62, x63, x64) => (if (decide (x64 < (xs62.length : Int))) = true then (idx xs62 x64).bind fun x107 => (idx (xs62.set x64.toNat (((x63.tmod (3 : Int)) == (0 : Int)), x107.2.1, x107.2.2)) x64).bind fun x110 => (idx ((xs62.set x64.toNat (((x63.tmod (3 : Int)) == (0 : Int)), x107.2.1, x107.2.2)).set x64.toNat (x110.1, (((W (x63 + (1 : Int))).tmod (3 : Int)) == (0 : Int)), x110.2.2)) x64).bind fun x113 => (laws_markInt64S_m fuel x113.2.2 (W ((W (x63 + (1 : Int))) + (1 : Int)))).bind fun x130 => some (.inl ((((xs62.set x64.toNat (((x63.tmod (3 : Int)) == (0 : Int)), x107.2.1, x107.2.2)).set x64.toNat (x110.1, (((W (x63 + (1 : Int))).tmod (3 : Int)) == (0 : Int)), x110.2.2)).set x64.toNat (x113.1, x113.2.1, x130.2)), x130.1, (W (x64 + (1 : Int))))) else some (.inr (.inl (x63, xs62)))) : Option (((List Timpl_Equation) × (Int) × (Int)) ⊕ ((Int × (List Timpl_Equation)) ⊕ (Int × (List Timpl_Equation)))))) fuel (a0, a1, (0 : Int))).bind fun res98 => ctl (β := Int × (List Timpl_Equation)) (ρ := Int × (List Timpl_Equation)) (τ := Int × (List Timpl_Equation)) res98 (fun (x96, xs97) => some ((x96, xs97))) (fun q => some (q))
set_option maxRecDepth 20000 in
theorem laws_markEquationS_ok {w0 : World} {fuel : Nat} {p0 : Value} {a0 : (List Timpl_Equation)} {a1 : Int} {w00 : World} {L : List Asrt} {r : Int × (List Timpl_Equation)} (H : Heap w00 (oA (rList Rimpl_Equation) p0 a0 :: L) w0) (hm : laws_markEquationS_m fuel a0 a1 = some r) :
    Calls Try.prog 17 #[p0, .int .i64 a1] w0 fun e w => e = .returned (.int .i64 r.1) ∧ Heap w00 (oA (rList Rimpl_Equation) p0 r.2 :: L) w := by
  unfold laws_markEquationS_m at hm
  refine enter (args := [p0, .int .i64 a1]) Try.func17 rfl 38 rfl (Nat.le_of_ble_eq_true rfl) (fun a S => ?_)
  refine wp_seq ?_
  refine region_plain ?_
  refine lx_q (.int .i64 (0 : Int)) S trivial (by decide) (q_assign rfl) (fun a S => ?_)
  refine lx_nil ?_
  refine thenN ?_
  refine wp_seq ?_
  refine wp_seq ?_
  refine region_plain ?_
  refine lx_q (.int .i64 (0 : Int)) S trivial (by decide) (q_assign rfl) (fun a S => ?_)
  refine lx_nil ?_
  refine thenN ?_
  obtain ⟨res98, hit99, hk102⟩ := bind_some hm
  obtain ⟨f100, hf101, hit99⟩ := iter_name hit99
  refine block_loop (fun a w => ∃ (x96 : Int) (xs97 : List Timpl_Equation), Slots a 38 [(1, (.int .i64 x96))] ∧ Heap w00 (oA (rList Rimpl_Equation) p0 xs97 :: L) w ∧ res98 = .inl (x96, xs97)) ?_ ?_
  · rintro a w ⟨x96, xs97, S, H, rfl⟩
    have hm := ctl_inl hk102
    refine thenN ?_
    refine wp_seq ?_
    refine region_plain ?_
    refine lx_q (.int .i64 x96) S trivial (by decide) (q_move rfl) (fun a S => ?_)
    refine lx_q (.int .i64 x96) S trivial (by decide) (q_assign rfl) (fun a S => ?_)
    refine lx_nil ?_
    refine thenN ?_
    refine wp_ret ?_
    obtain rfl := Option.some.inj hm
    exact leave1 S rfl rfl ⟨rfl, H⟩
  · skip
    refine loop_ghost (fun n a w => ∃ (xs62 : List Timpl_Equation) (x63 : Int) (x64 : Int), Slots a 38 [(0, p0), (1, (.int .i64 x63)), (5, (.int .i64 x64))] ∧ Heap w00 (oA (rList Rimpl_Equation) p0 xs62 :: L) w ∧ iter f100 n (xs62, x63, x64) = some res98) _ ⟨a0, a1, (0 : Int), S.sub ⟨rfl, rfl, rfl, trivial⟩, H, hit99⟩ ?_
    rintro n a w ⟨xs62, x63, x64, S, H, hit99⟩
    obtain ⟨m103, o104, rfl, hm, hc105⟩ := iter_step hit99
    rw [hf101] at hm
    refine wp_seq ?_
    refine wp_seq ?_
    refine region_plain ?_
    refine lx_q (.int .i64 x64) S trivial (by decide) (q_move rfl) (fun a S => ?_)
    refine lx_q p0 S trivial (by decide) (q_move rfl) (fun a S => ?_)
    refine lx_q (.int .i64 (xs62.length : Int)) S trivial (by decide) (q_lenSl rfl (H.isSl 0 rfl) rfl Try.underlying25) (fun a S => ?_)
    refine lx_q (.bool (decide (x64 < (xs62.length : Int)))) S trivial (by decide) (q_lss rfl rfl) (fun a S => ?_)
    refine lx_nil ?_
    refine thenN ?_
    refine cond_b S rfl (fun hc106 => ?_) (fun hc106 => ?_)
    · have hm := ite_t hc106 hm
      refine wp_skip ?_
      refine thenN ?_
      refine wp_seq ?_
      refine wp_block ?_
      refine wp_seq ?_
      refine region_plain ?_
      refine lx_q p0 S trivial (by decide) (q_move rfl) (fun a S => ?_)
      refine lx_q (.int .i64 x64) S trivial (by decide) (q_move rfl) (fun a S => ?_)
      refine lx_q (.int .i64 x63) S trivial (by decide) (q_move rfl) (fun a S => ?_)
      refine lx_q (.int .i64 (x63.tmod (3 : Int))) S trivial (by decide) (q_rem rfl rfl (show (3 : Int) ≠ 0 from by decide)) (fun a S => ?_)
      refine lx_q (.bool ((x63.tmod (3 : Int)) == (0 : Int))) S trivial (by decide) (q_eql rfl rfl) (fun a S => ?_)
      obtain ⟨x107, e108, hm⟩ := bind_some hm
      have hlt := lt_of_idx (idx_some e108).2
      refine lx_q (ePtr p0 (x64.toNat * 3)) S trivial (by decide) (q_indexAddr rfl (H.isSl 0 rfl) rfl (idx_some e108).1 hlt Try.underlying25 Try.sizeOf58) (fun a S => ?_)
      refine lx_q (pAdd (ePtr p0 (x64.toNat * 3)) 0) S trivial (by decide) (q_fieldAddr' 0 4 rfl (((H.isSl 0 rfl)).ptr (lt_of_idx (idx_some e108).2) _) Try.underlying58 rfl Try.sizeOf4) (fun a S => ?_)
      refine lx_storeElem (r := Rimpl_Equation) (us := [(.bool ((x63.tmod (3 : Int)) == (0 : Int)))]) (off := 0) (e' := (((x63.tmod (3 : Int)) == (0 : Int)), x107.2.1, x107.2.2)) S trivial rfl H.putE rfl rfl (idx_some e108).2 rfl Try.sizeOf4 (Nat.le_of_ble_eq_true rfl) (List.forall_mem_cons.2 ⟨rfl, (fun _ h => nomatch h)⟩) (Upd.fst (off := 0) (Nat.le_of_ble_eq_true rfl) (Upd.full rfl (fun w G hG => by cases (show G = [] from hG); exact ⟨rfl, rfl⟩))) (fun w109 H => ⟨trivial, fun a S => ?_⟩)
      refine lx_nil ?_
      refine thenN ?_
      refine wp_seq ?_
      refine region_plain ?_
      refine lx_q (.int .i64 x63) S trivial (by decide) (q_move rfl) (fun a S => ?_)
      refine lx_q (.int .i64 (W (x63 + (1 : Int)))) S trivial (by decide) (q_add rfl rfl) (fun a S => ?_)
      refine lx_q (.int .i64 (W (x63 + (1 : Int)))) S trivial (by decide) (q_assign rfl) (fun a S => ?_)
      refine lx_nil ?_
      refine thenN ?_
      refine wp_seq ?_
      refine region_plain ?_
      refine lx_q p0 S trivial (by decide) (q_move rfl) (fun a S => ?_)
      refine lx_q (.int .i64 x64) S trivial (by decide) (q_move rfl) (fun a S => ?_)
      refine lx_q (.int .i64 (W (x63 + (1 : Int)))) S trivial (by decide) (q_move rfl) (fun a S => ?_)
      refine lx_q (.int .i64 ((W (x63 + (1 : Int))).tmod (3 : Int))) S trivial (by decide) (q_rem rfl rfl (show (3 : Int) ≠ 0 from by decide)) (fun a S => ?_)
      refine lx_q (.bool (((W (x63 + (1 : Int))).tmod (3 : Int)) == (0 : Int))) S trivial (by decide) (q_eql rfl rfl) (fun a S => ?_)
      obtain ⟨x110, e111, hm⟩ := bind_some hm
      have hlt := lt_of_idx (idx_some e111).2
      refine lx_q (ePtr p0 (x64.toNat * 3)) S trivial (by decide) (q_indexAddr rfl (H.isSl 0 rfl) rfl (idx_some e111).1 hlt Try.underlying25 Try.sizeOf58) (fun a S => ?_)
      refine lx_q (pAdd (ePtr p0 (x64.toNat * 3)) 1) S trivial (by decide) (q_fieldAddr' 1 4 rfl (((H.isSl 0 rfl)).ptr (lt_of_idx (idx_some e111).2) _) Try.underlying58 rfl Try.sizeOf4) (fun a S => ?_)
      refine lx_storeElem (r := Rimpl_Equation) (us := [(.bool (((W (x63 + (1 : Int))).tmod (3 : Int)) == (0 : Int)))]) (off := 1) (e' := (x110.1, (((W (x63 + (1 : Int))).tmod (3 : Int)) == (0 : Int)), x110.2.2)) S trivial rfl H.putE rfl rfl (idx_some e111).2 rfl Try.sizeOf4 (Nat.le_of_ble_eq_true rfl) (List.forall_mem_cons.2 ⟨rfl, (fun _ h => nomatch h)⟩) (Upd.snd (off := 0) (Upd.fst (off := 0) (Nat.le_of_ble_eq_true rfl) (Upd.full rfl (fun w G hG => by cases (show G = [] from hG); exact ⟨rfl, rfl⟩)))) (fun w112 H => ⟨trivial, fun a S => ?_⟩)
      refine lx_nil ?_
      refine thenN ?_
      refine wp_seq ?_
      refine region_plain ?_
      refine lx_q (.int .i64 (W (x63 + (1 : Int)))) S trivial (by decide) (q_move rfl) (fun a S => ?_)
      refine lx_q (.int .i64 (W ((W (x63 + (1 : Int))) + (1 : Int)))) S trivial (by decide) (q_add rfl rfl) (fun a S => ?_)
      refine lx_q (.int .i64 (W ((W (x63 + (1 : Int))) + (1 : Int)))) S trivial (by decide) (q_assign rfl) (fun a S => ?_)
      refine lx_nil ?_
      refine thenN ?_
      refine region_plain ?_
      refine lx_q p0 S trivial (by decide) (q_move rfl) (fun a S => ?_)
      refine lx_q (.int .i64 x64) S trivial (by decide) (q_move rfl) (fun a S => ?_)
      obtain ⟨x113, e114, hm⟩ := bind_some hm
      have hlt := lt_of_idx (idx_some e114).2
      refine lx_q (ePtr p0 (x64.toNat * 3)) S trivial (by decide) (q_indexAddr rfl (H.isSl 0 rfl) rfl (idx_some e114).1 hlt Try.underlying25 Try.sizeOf58) (fun a S => ?_)
      refine lx_q (pAdd (ePtr p0 (x64.toNat * 3)) 2) S trivial (by decide) (q_fieldAddr' 2 29 rfl (((H.isSl 0 rfl)).ptr (lt_of_idx (idx_some e114).2) _) Try.underlying58 rfl Try.sizeOf29) (fun a S => ?_)
      obtain ⟨c115, h116, hat117⟩ := (H.rdAt 0 rfl).elem (idx_some e114).2
      obtain ⟨c120, c121, rfl, h122, h123⟩ := h116
      obtain rfl := h122
      obtain ⟨c124, c125, rfl, h126, h127⟩ := h123
      obtain rfl := h126
      obtain ⟨v118, rfl, h119⟩ := rd_list h127
      refine lx_e v118 S trivial (by decide) rfl trivial (q_load1 rfl Try.isAgg29 (by rintro _ rfl; exact (At.of_add (m := 2) (j := 0) (hat117 2 _ rfl)))) (fun a S => ?_)
      refine lx_q (.int .i64 (W ((W (x63 + (1 : Int))) + (1 : Int)))) S trivial (by decide) (q_move rfl) (fun a S => ?_)
      obtain ⟨x130, e131, hm⟩ := bind_some hm
      obtain ⟨u132, hat133, H⟩ := H.lend (idx_some e114).2 (Lend.snd (off := 1) (Lend.snd (off := 0) (Lend.here)))
      obtain rfl : v118 = u132 := At.eq (hat117 2 _ rfl) hat133
      refine lx_call (xs := [.tmp 34, .tmp 35]) S trivial (by decide) rfl rfl Try.call18 ((laws_markInt64S_ok H e131).mono ?_)
      rintro e w128 ⟨rfl, H⟩
      have H : Heap w00 (oA (rList Rimpl_Equation) p0 (((xs62.set x64.toNat (((x63.tmod (3 : Int)) == (0 : Int)), x107.2.1, x107.2.2)).set x64.toNat (x110.1, (((W (x63 + (1 : Int))).tmod (3 : Int)) == (0 : Int)), x110.2.2)).set x64.toNat (x113.1, x113.2.1, x130.2)) :: L) w128 := H.back
      refine ⟨_, rfl, trivial, fun a S => ?_⟩
      refine lx_q (.int .i64 x130.1) S trivial (by decide) (q_assign rfl) (fun a S => ?_)
      refine lx_nil ?_
      refine inBlock_norm ?_
      refine thenN ?_
      refine region_plain ?_
      refine lx_q (.int .i64 x64) S trivial (by decide) (q_move rfl) (fun a S => ?_)
      refine lx_q (.int .i64 (W (x64 + (1 : Int)))) S trivial (by decide) (q_add rfl rfl) (fun a S => ?_)
      refine lx_q (.int .i64 (W (x64 + (1 : Int)))) S trivial (by decide) (q_assign rfl) (fun a S => ?_)
      refine lx_nil ?_
      exact ⟨m103, Nat.lt_succ_self _, (((xs62.set x64.toNat (((x63.tmod (3 : Int)) == (0 : Int)), x107.2.1, x107.2.2)).set x64.toNat (x110.1, (((W (x63 + (1 : Int))).tmod (3 : Int)) == (0 : Int)), x110.2.2)).set x64.toNat (x113.1, x113.2.1, x130.2)), x130.1, (W (x64 + (1 : Int))), S.sub ⟨rfl, rfl, rfl, trivial⟩, H, it_cont hm hc105⟩
    · have hm := ite_f hc106 hm
      refine wp_exit ?_
      refine then_exit ?_
      refine then_exit ?_
      refine inBlock_exit ?_
      obtain rfl := it_brk hm hc105
      exact ⟨x63, xs62, S.sub ⟨rfl, trivial⟩, H, rfl⟩

/-- laws.heldInt64S -/
def laws_heldInt64S_m (fuel : Nat) (a0 : (List Int)) (a1 : Int) : Option (Int) :=
  (iter (fun (s : (Int) × (Int)) => (match s with | (x40, x41) => (if (decide (x41 < (a0.length : Int))) = true then (idx a0 x41).bind fun x61 => (if (x61 != x40) = true then some (.inr (.inr (-1 : Int))) else some (.inl ((W (x40 + (1 : Int))), (W (x41 + (1 : Int)))))) else some (.inr (.inl (x40)))) : Option (((Int) × (Int)) ⊕ ((Int) ⊕ (Int))))) fuel (a1, (0 : Int))).bind fun res52 => ctl (β := Int) (ρ := Int) (τ := Int) res52 (fun (x51) => some (x51)) (fun q => some (q))
set_option maxRecDepth 20000 in
theorem laws_heldInt64S_ok {w0 : World} {fuel : Nat} {p0 : Value} {a0 : (List Int)} {a1 : Int} {r : Int} (h0 : Rd (rList (rInt .i64)) w0 p0 a0) (hm : laws_heldInt64S_m fuel a0 a1 = some r) :
    Calls Try.prog 19 #[p0, .int .i64 a1] w0 fun e w => e = .returned (.int .i64 r) ∧ Heap w0 [] w := by
  unfold laws_heldInt64S_m at hm
  have H := Heap.start w0
  refine enter (args := [p0, .int .i64 a1]) Try.func19 rfl 21 rfl (Nat.le_of_ble_eq_true rfl) (fun a S => ?_)
  refine wp_seq ?_
  refine region_plain ?_
  refine lx_q (.int .i64 (0 : Int)) S trivial (by decide) (q_assign rfl) (fun a S => ?_)
  refine lx_nil ?_
  refine thenN ?_
  refine wp_seq ?_
  refine wp_seq ?_
  refine region_plain ?_
  refine lx_q (.int .i64 (0 : Int)) S trivial (by decide) (q_assign rfl) (fun a S => ?_)
  refine lx_nil ?_
  refine thenN ?_
  obtain ⟨res52, hit53, hk56⟩ := bind_some hm
  obtain ⟨f54, hf55, hit53⟩ := iter_name hit53
  refine block_loop (fun a w => ∃ (x51 : Int), Slots a 21 [(1, (.int .i64 x51))] ∧ Heap w0 [] w ∧ res52 = .inl (x51)) ?_ ?_
  · rintro a w ⟨x51, S, H, rfl⟩
    have hm := ctl_inl hk56
    refine thenN ?_
    refine wp_seq ?_
    refine region_plain ?_
    refine lx_q (.int .i64 x51) S trivial (by decide) (q_move rfl) (fun a S => ?_)
    refine lx_q (.int .i64 x51) S trivial (by decide) (q_assign rfl) (fun a S => ?_)
    refine lx_nil ?_
    refine thenN ?_
    refine wp_ret ?_
    obtain rfl := Option.some.inj hm
    exact leave1 S rfl rfl ⟨rfl, H⟩
  · skip
    refine loop_ghost (fun n a w => ∃ (x40 : Int) (x41 : Int), Slots a 21 [(0, p0), (1, (.int .i64 x40)), (5, (.int .i64 x41))] ∧ Heap w0 [] w ∧ iter f54 n (x40, x41) = some res52) _ ⟨a1, (0 : Int), S.sub ⟨rfl, rfl, rfl, trivial⟩, H, hit53⟩ ?_
    rintro n a w ⟨x40, x41, S, H, hit53⟩
    obtain ⟨m57, o58, rfl, hm, hc59⟩ := iter_step hit53
    rw [hf55] at hm
    refine wp_seq ?_
    refine wp_seq ?_
    refine region_plain ?_
    refine lx_q (.int .i64 x41) S trivial (by decide) (q_move rfl) (fun a S => ?_)
    refine lx_q p0 S trivial (by decide) (q_move rfl) (fun a S => ?_)
    refine lx_q (.int .i64 (a0.length : Int)) S trivial (by decide) (q_lenSl rfl (h0).isSl rfl Try.underlying29) (fun a S => ?_)
    refine lx_q (.bool (decide (x41 < (a0.length : Int)))) S trivial (by decide) (q_lss rfl rfl) (fun a S => ?_)
    refine lx_nil ?_
    refine thenN ?_
    refine cond_b S rfl (fun hc60 => ?_) (fun hc60 => ?_)
    · have hm := ite_t hc60 hm
      refine wp_skip ?_
      refine thenN ?_
      refine wp_seq ?_
      refine wp_block ?_
      refine wp_seq ?_
      refine wp_seq ?_
      refine region_plain ?_
      refine lx_q p0 S trivial (by decide) (q_move rfl) (fun a S => ?_)
      refine lx_q (.int .i64 x41) S trivial (by decide) (q_move rfl) (fun a S => ?_)
      obtain ⟨x61, e62, hm⟩ := bind_some hm
      obtain ⟨c63, h64, hat65⟩ := (h0).elem (idx_some e62).2
      obtain rfl := h64
      have hlt := lt_of_idx (idx_some e62).2
      refine lx_q (ePtr p0 (x41.toNat * 1)) S trivial (by decide) (q_indexAddr rfl (h0).isSl rfl (idx_some e62).1 hlt Try.underlying29 Try.sizeOf2) (fun a S => ?_)
      refine lx_e (.int .i64 x61) S trivial (by decide) rfl trivial (q_load1 rfl Try.isAgg2 (by rintro _ rfl; exact ((hat65 0 _ rfl).ext H.ext))) (fun a S => ?_)
      refine lx_q (.int .i64 x40) S trivial (by decide) (q_move rfl) (fun a S => ?_)
      refine lx_q (.bool (x61 != x40)) S trivial (by decide) (q_neq rfl rfl) (fun a S => ?_)
      refine lx_nil ?_
      refine thenN ?_
      refine cond_b S rfl (fun hc66 => ?_) (fun hc66 => ?_)
      · have hm := ite_t hc66 hm
        refine wp_seq ?_
        refine region_plain ?_
        refine lx_q (.int .i64 (-1 : Int)) S trivial (by decide) (q_assign rfl) (fun a S => ?_)
        refine lx_nil ?_
        refine thenN ?_
        refine wp_ret ?_
        refine then_ret ?_
        refine inBlock_ret ?_
        refine then_ret ?_
        refine then_ret ?_
        refine inBlock_ret ?_
        refine then_ret ?_
        refine then_ret ?_
        obtain rfl := it_brk hm hc59
        have hm := ctl_inr hk56
        obtain rfl := Option.some.inj hm
        exact leave1 S rfl rfl ⟨rfl, H⟩
      · have hm := ite_f hc66 hm
        refine wp_skip ?_
        refine thenN ?_
        refine region_plain ?_
        refine lx_q (.int .i64 x40) S trivial (by decide) (q_move rfl) (fun a S => ?_)
        refine lx_q (.int .i64 (W (x40 + (1 : Int)))) S trivial (by decide) (q_add rfl rfl) (fun a S => ?_)
        refine lx_q (.int .i64 (W (x40 + (1 : Int)))) S trivial (by decide) (q_assign rfl) (fun a S => ?_)
        refine lx_nil ?_
        refine inBlock_norm ?_
        refine thenN ?_
        refine region_plain ?_
        refine lx_q (.int .i64 x41) S trivial (by decide) (q_move rfl) (fun a S => ?_)
        refine lx_q (.int .i64 (W (x41 + (1 : Int)))) S trivial (by decide) (q_add rfl rfl) (fun a S => ?_)
        refine lx_q (.int .i64 (W (x41 + (1 : Int)))) S trivial (by decide) (q_assign rfl) (fun a S => ?_)
        refine lx_nil ?_
        exact ⟨m57, Nat.lt_succ_self _, (W (x40 + (1 : Int))), (W (x41 + (1 : Int))), S.sub ⟨rfl, rfl, rfl, trivial⟩, H, it_cont hm hc59⟩
    · have hm := ite_f hc60 hm
      refine wp_exit ?_
      refine then_exit ?_
      refine then_exit ?_
      refine inBlock_exit ?_
      obtain rfl := it_brk hm hc59
      exact ⟨x40, S.sub ⟨rfl, trivial⟩, H, rfl⟩

/-- laws.FnExactEquationBlocks -/
def laws_FnExactEquationBlocks_m (fuel : Nat) (a0 : (List Tlaws_Equation)) : Option (Bool) :=
  (laws_szEquationS_m fuel a0 (1048576 : Int)).bind fun x33 => (if (decide (x33 < (0 : Int))) = true then some (true) else (laws_toEquationS_m fuel a0).bind fun x39 => (spec_EquationBlocks_m fuel x39).bind fun x46 => (laws_toEquationS_m fuel a0).bind fun x53 => (impl_EquationBlocks_m fuel x53).bind fun x60 => (laws_eqInt64S_m fuel x60.1 x46.1).bind fun x67 => (if (!x67) = true then some true else some (x60.2 != x46.2)).bind fun t70 => (if t70 = true then some (false) else (laws_toEquationS_m fuel a0).bind fun x76 => (laws_eqEquationS_m fuel x53 x76).bind fun x83 => (if (!x83) = true then some (false) else (laws_markEquationS_m fuel x53 (1 : Int)).bind fun x89 => (if (decide (x89.1 < (0 : Int))) = true then some true else (laws_eqInt64S_m fuel x60.1 x46.1).bind fun x96 => some (!x96)).bind fun t91 => (if t91 = true then some true else some (x60.2 != x46.2)).bind fun t99 => (if t99 = true then some (false) else (laws_markInt64S_m fuel x60.1 (1 : Int)).bind fun x105 => (laws_heldInt64S_m fuel x105.2 (1 : Int)).bind fun x109 => (if (decide (x109 < (0 : Int))) = true then some (false) else (if (x109 != x105.1) = true then some (false) else (laws_toEquationS_m fuel a0).bind fun x116 => (impl_EquationBlocks_m fuel x116).bind fun x123 => (laws_eqInt64S_m fuel x123.1 x46.1).bind fun x130 => (if (!x130) = true then some true else some (x123.2 != x46.2)).bind fun t133 => (if t133 = true then some (false) else (laws_heldInt64S_m fuel x105.2 (1 : Int)).bind fun x139 => (if (decide (x139 < (0 : Int))) = true then some (false) else (if (x139 != x105.1) = true then some (false) else some (true))))))))))
set_option maxRecDepth 20000 in
theorem laws_FnExactEquationBlocks_ok {w0 : World} {fuel : Nat} {p0 : Value} {a0 : (List Tlaws_Equation)} {r : Bool} (h0 : Rd (rList Rlaws_Equation) w0 p0 a0) (hm : laws_FnExactEquationBlocks_m fuel a0 = some r) :
    Calls Try.prog 4 #[p0] w0 fun e w => e = .returned (.bool r) ∧ Heap w0 [] w := by
  unfold laws_FnExactEquationBlocks_m at hm
  have H := Heap.start w0
  refine enter (args := [p0]) Try.func4 rfl 96 rfl (Nat.le_of_ble_eq_true rfl) (fun a S => ?_)
  refine wp_seq ?_
  refine region_plain ?_
  refine lx_q (.bool false) S trivial (by decide) (q_assign rfl) (fun a S => ?_)
  refine lx_nil ?_
  refine thenN ?_
  refine wp_seq ?_
  refine region_plain ?_
  refine lx_q (.int .i64 (1048576 : Int)) S trivial (by decide) (q_assign rfl) (fun a S => ?_)
  refine lx_nil ?_
  refine thenN ?_
  refine wp_seq ?_
  refine region_plain ?_
  refine lx_q p0 S trivial (by decide) (q_move rfl) (fun a S => ?_)
  refine lx_q (.int .i64 (1048576 : Int)) S trivial (by decide) (q_move rfl) (fun a S => ?_)
  obtain ⟨x33, e34, hm⟩ := bind_some hm
  refine lx_call (xs := [.tmp 14, .tmp 15]) S trivial (by decide) rfl rfl Try.call9 ((laws_szEquationS_ok (H.arg h0)  e34).mono ?_)
  rintro e w31 ⟨rfl, Hc32⟩
  have he35 := Hc32.ext
  have H := H.call0 Hc32
  refine ⟨_, rfl, trivial, fun a S => ?_⟩
  refine lx_q (.int .i64 x33) S trivial (by decide) (q_assign rfl) (fun a S => ?_)
  refine lx_nil ?_
  refine thenN ?_
  refine wp_seq ?_
  refine wp_seq ?_
  refine region_plain ?_
  refine lx_q (.int .i64 x33) S trivial (by decide) (q_move rfl) (fun a S => ?_)
  refine lx_q (.bool (decide (x33 < (0 : Int)))) S trivial (by decide) (q_lss rfl rfl) (fun a S => ?_)
  refine lx_nil ?_
  refine thenN ?_
  refine cond_b S rfl (fun hc36 => ?_) (fun hc36 => ?_)
  · have hm := ite_t hc36 hm
    refine wp_seq ?_
    refine region_plain ?_
    refine lx_q (.bool true) S trivial (by decide) (q_assign rfl) (fun a S => ?_)
    refine lx_nil ?_
    refine thenN ?_
    refine wp_ret ?_
    refine then_ret ?_
    obtain rfl := Option.some.inj hm
    exact leave1 S rfl rfl ⟨rfl, H⟩
  · have hm := ite_f hc36 hm
    refine wp_skip ?_
    refine thenN ?_
    refine wp_seq ?_
    refine region_plain ?_
    refine lx_q p0 S trivial (by decide) (q_move rfl) (fun a S => ?_)
    obtain ⟨x39, e40, hm⟩ := bind_some hm
    refine lx_call (xs := [.tmp 20]) S trivial (by decide) rfl rfl Try.call11 ((laws_toEquationS_ok (H.arg h0) e40).mono ?_)
    rintro e w37 ⟨v41, rfl, Hc38⟩
    have he43 := Hc38.ext
    have H := H.call1 Hc38
    refine ⟨_, rfl, trivial, fun a S => ?_⟩
    obtain ⟨x46, e47, hm⟩ := bind_some hm
    refine lx_call (xs := [.tmp 21]) S trivial (by decide) rfl rfl Try.call14 ((spec_EquationBlocks_ok (H.rdAt 0 rfl) e47).mono ?_)
    rintro e w44 ⟨v48, rfl, Hc45⟩
    have he50 := Hc45.ext
    have H := H.call1 Hc45
    refine ⟨_, rfl, trivial, fun a S => ?_⟩
    refine lx_q (.tuple #[v48, (.int .i64 x46.2)]) S trivial (by decide) (q_move rfl) (fun a S => ?_)
    refine lx_q v48 S trivial (by decide) (q_extract rfl rfl) (fun a S => ?_)
    refine lx_q (.int .i64 x46.2) S trivial (by decide) (q_extract rfl rfl) (fun a S => ?_)
    refine lx_q v48 S trivial (by decide) (q_assign rfl) (fun a S => ?_)
    refine lx_q (.int .i64 x46.2) S trivial (by decide) (q_assign rfl) (fun a S => ?_)
    refine lx_nil ?_
    refine thenN ?_
    refine wp_seq ?_
    refine region_plain ?_
    refine lx_q p0 S trivial (by decide) (q_move rfl) (fun a S => ?_)
    obtain ⟨x53, e54, hm⟩ := bind_some hm
    refine lx_call (xs := [.tmp 25]) S trivial (by decide) rfl rfl Try.call11 ((laws_toEquationS_ok (H.arg h0) e54).mono ?_)
    rintro e w51 ⟨v55, rfl, Hc52⟩
    have he57 := Hc52.ext
    have H := H.call1 Hc52
    refine ⟨_, rfl, trivial, fun a S => ?_⟩
    refine lx_q v55 S trivial (by decide) (q_assign rfl) (fun a S => ?_)
    refine lx_nil ?_
    refine thenN ?_
    refine wp_seq ?_
    refine region_plain ?_
    refine lx_q v55 S trivial (by decide) (q_move rfl) (fun a S => ?_)
    obtain ⟨x60, e61, hm⟩ := bind_some hm
    refine lx_call (xs := [.tmp 28]) S trivial (by decide) rfl rfl Try.call15 ((impl_EquationBlocks_ok (H.rdAt 0 rfl) e61).mono ?_)
    rintro e w58 ⟨v62, rfl, Hc59⟩
    have he64 := Hc59.ext
    have H := H.call1 Hc59
    refine ⟨_, rfl, trivial, fun a S => ?_⟩
    refine lx_q (.tuple #[v62, (.int .i64 x60.2)]) S trivial (by decide) (q_move rfl) (fun a S => ?_)
    refine lx_q v62 S trivial (by decide) (q_extract rfl rfl) (fun a S => ?_)
    refine lx_q (.int .i64 x60.2) S trivial (by decide) (q_extract rfl rfl) (fun a S => ?_)
    refine lx_q v62 S trivial (by decide) (q_assign rfl) (fun a S => ?_)
    refine lx_q (.int .i64 x60.2) S trivial (by decide) (q_assign rfl) (fun a S => ?_)
    refine lx_nil ?_
    refine thenN ?_
    refine wp_seq ?_
    refine wp_seq ?_
    refine region_plain ?_
    refine lx_q v62 S trivial (by decide) (q_move rfl) (fun a S => ?_)
    refine lx_q v48 S trivial (by decide) (q_move rfl) (fun a S => ?_)
    obtain ⟨x67, e68, hm⟩ := bind_some hm
    refine lx_call (xs := [.tmp 32, .tmp 33]) S trivial (by decide) rfl rfl Try.call16 ((laws_eqInt64S_ok (H.rdAt 0 rfl) (H.rdAt 2 rfl) e68).mono ?_)
    rintro e w65 ⟨rfl, Hc66⟩
    have he69 := Hc66.ext
    have H := H.call0 Hc66
    refine ⟨_, rfl, trivial, fun a S => ?_⟩
    refine lx_q (.bool (!x67)) S trivial (by decide) (q_not rfl) (fun a S => ?_)
    refine lx_q (.bool (!x67)) S trivial (by decide) (q_move rfl) (fun a S => ?_)
    obtain ⟨t70, e71, hm⟩ := bind_some hm
    refine lx_cut 4 (fun a w => Slots a 96 [(0, p0), (4, v48), (5, (.int .i64 x46.2)), (6, v55), (7, v62), (8, (.int .i64 x60.2)), (40, (.bool t70))] ∧ Heap w0 [oA (rList (rInt .i64)) v62 x60.1, oA (rList Rimpl_Equation) v55 x53, oA (rList (rInt .i64)) v48 x46.1] w) ?_ ?_
    · by_cases hc72 : (!x67) = true
      · have hm := ite_t hc72 e71
        refine lx_skip S rfl rfl (isB_ne hc72) (by decide) (fun a S => ?_)
        refine lx_skip S rfl rfl (isB_ne hc72) (by decide) (fun a S => ?_)
        refine lx_skip S rfl rfl (isB_ne hc72) (by decide) (fun a S => ?_)
        refine lx_q (.bool true) S trivial (by decide) (q_pickT' rfl hc72 rfl) (fun a S => ?_)
        refine lx_nil ?_
        obtain rfl := Option.some.inj hm
        have H := H.sel [0, 1, 2] (by decide)
        exact ⟨S.sub ⟨rfl, rfl, rfl, rfl, rfl, rfl, rfl, trivial⟩, H⟩
      · have hm := ite_f (eq_false_of_ne_true hc72) e71
        have hc72 : (!x67) = false := eq_false_of_ne_true hc72
        refine lx_q (.int .i64 x60.2) S (want_b rfl rfl hc72) (by decide) (q_move rfl) (fun a S => ?_)
        refine lx_q (.int .i64 x46.2) S (want_b rfl rfl hc72) (by decide) (q_move rfl) (fun a S => ?_)
        refine lx_q (.bool (x60.2 != x46.2)) S (want_b rfl rfl hc72) (by decide) (q_neq rfl rfl) (fun a S => ?_)
        refine lx_q (.bool (x60.2 != x46.2)) S trivial (by decide) (q_pickF' rfl hc72 rfl) (fun a S => ?_)
        refine lx_nil ?_
        obtain rfl := Option.some.inj hm
        have H := H.sel [0, 1, 2] (by decide)
        exact ⟨S.sub ⟨rfl, rfl, rfl, rfl, rfl, rfl, rfl, trivial⟩, H⟩
    · rintro a w ⟨S, H⟩
      refine lx_nil ?_
      refine thenN ?_
      refine cond_b S rfl (fun hc73 => ?_) (fun hc73 => ?_)
      · have hm := ite_t hc73 hm
        refine wp_seq ?_
        refine region_plain ?_
        refine lx_q (.bool false) S trivial (by decide) (q_assign rfl) (fun a S => ?_)
        refine lx_nil ?_
        refine thenN ?_
        refine wp_ret ?_
        refine then_ret ?_
        obtain rfl := Option.some.inj hm
        have H : Heap w0 [] w := H.sel [] (by decide)
        exact leave1 S rfl rfl ⟨rfl, H⟩
      · have hm := ite_f hc73 hm
        refine wp_skip ?_
        refine thenN ?_
        refine wp_seq ?_
        refine wp_seq ?_
        refine region_plain ?_
        refine lx_q v55 S trivial (by decide) (q_move rfl) (fun a S => ?_)
        refine lx_q p0 S trivial (by decide) (q_move rfl) (fun a S => ?_)
        obtain ⟨x76, e77, hm⟩ := bind_some hm
        refine lx_call (xs := [.tmp 42]) S trivial (by decide) rfl rfl Try.call11 ((laws_toEquationS_ok (H.arg h0) e77).mono ?_)
        rintro e w74 ⟨v78, rfl, Hc75⟩
        have he80 := Hc75.ext
        have H := H.call1 Hc75
        refine ⟨_, rfl, trivial, fun a S => ?_⟩
        obtain ⟨x83, e84, hm⟩ := bind_some hm
        refine lx_call (xs := [.tmp 41, .tmp 43]) S trivial (by decide) rfl rfl Try.call13 ((laws_eqEquationS_ok (H.rdAt 2 rfl) (H.rdAt 0 rfl) e84).mono ?_)
        rintro e w81 ⟨rfl, Hc82⟩
        have he85 := Hc82.ext
        have H := H.call0 Hc82
        refine ⟨_, rfl, trivial, fun a S => ?_⟩
        refine lx_q (.bool (!x83)) S trivial (by decide) (q_not rfl) (fun a S => ?_)
        refine lx_nil ?_
        refine thenN ?_
        refine cond_b S rfl (fun hc86 => ?_) (fun hc86 => ?_)
        · have hm := ite_t hc86 hm
          refine wp_seq ?_
          refine region_plain ?_
          refine lx_q (.bool false) S trivial (by decide) (q_assign rfl) (fun a S => ?_)
          refine lx_nil ?_
          refine thenN ?_
          refine wp_ret ?_
          refine then_ret ?_
          obtain rfl := Option.some.inj hm
          have H : Heap w0 [] w81 := H.sel [] (by decide)
          exact leave1 S rfl rfl ⟨rfl, H⟩
        · have hm := ite_f hc86 hm
          refine wp_skip ?_
          refine thenN ?_
          refine wp_seq ?_
          refine region_plain ?_
          refine lx_q (.int .i64 (1 : Int)) S trivial (by decide) (q_assign rfl) (fun a S => ?_)
          refine lx_nil ?_
          refine thenN ?_
          refine wp_seq ?_
          refine region_plain ?_
          refine lx_q v55 S trivial (by decide) (q_move rfl) (fun a S => ?_)
          refine lx_q (.int .i64 (1 : Int)) S trivial (by decide) (q_move rfl) (fun a S => ?_)
          obtain ⟨x89, e90, hm⟩ := bind_some hm
          have H : Heap w0 [oA (rList Rimpl_Equation) v55 x53, oA (rList Rimpl_Equation) v78 x76, oA (rList (rInt .i64)) v62 x60.1, oA (rList (rInt .i64)) v48 x46.1] w81 := H.front 2 rfl
          refine lx_call (xs := [.tmp 46, .tmp 47]) S trivial (by decide) rfl rfl Try.call17 ((laws_markEquationS_ok H e90).mono ?_)
          rintro e w87 ⟨rfl, H⟩
          refine ⟨_, rfl, trivial, fun a S => ?_⟩
          refine lx_q (.int .i64 x89.1) S trivial (by decide) (q_assign rfl) (fun a S => ?_)
          refine lx_nil ?_
          refine thenN ?_
          refine wp_seq ?_
          refine wp_seq ?_
          refine region_plain ?_
          refine lx_q (.int .i64 x89.1) S trivial (by decide) (q_move rfl) (fun a S => ?_)
          refine lx_q (.bool (decide (x89.1 < (0 : Int)))) S trivial (by decide) (q_lss rfl rfl) (fun a S => ?_)
          refine lx_q (.bool (decide (x89.1 < (0 : Int)))) S trivial (by decide) (q_move rfl) (fun a S => ?_)
          obtain ⟨t91, e92, hm⟩ := bind_some hm
          refine lx_cut 5 (fun a w => Slots a 96 [(0, p0), (4, v48), (5, (.int .i64 x46.2)), (7, v62), (8, (.int .i64 x60.2)), (56, (.bool t91))] ∧ Heap w0 [oA (rList (rInt .i64)) v62 x60.1, oA (rList (rInt .i64)) v48 x46.1] w) ?_ ?_
          · by_cases hc93 : (decide (x89.1 < (0 : Int))) = true
            · have hm := ite_t hc93 e92
              refine lx_skip S rfl rfl (isB_ne hc93) (by decide) (fun a S => ?_)
              refine lx_skip S rfl rfl (isB_ne hc93) (by decide) (fun a S => ?_)
              refine lx_skip S rfl rfl (isB_ne hc93) (by decide) (fun a S => ?_)
              refine lx_skip S rfl rfl (isB_ne hc93) (by decide) (fun a S => ?_)
              refine lx_q (.bool true) S trivial (by decide) (q_pickT' rfl hc93 rfl) (fun a S => ?_)
              refine lx_nil ?_
              obtain rfl := Option.some.inj hm
              have H := H.sel [2, 3] (by decide)
              exact ⟨S.sub ⟨rfl, rfl, rfl, rfl, rfl, rfl, trivial⟩, H⟩
            · have hm := ite_f (eq_false_of_ne_true hc93) e92
              have hc93 : (decide (x89.1 < (0 : Int))) = false := eq_false_of_ne_true hc93
              refine lx_q v62 S (want_b rfl rfl hc93) (by decide) (q_move rfl) (fun a S => ?_)
              refine lx_q v48 S (want_b rfl rfl hc93) (by decide) (q_move rfl) (fun a S => ?_)
              obtain ⟨x96, e97, hm⟩ := bind_some hm
              refine lx_call (xs := [.tmp 52, .tmp 53]) S (want_b rfl rfl hc93) (by decide) rfl rfl Try.call16 ((laws_eqInt64S_ok (H.rdAt 2 rfl) (H.rdAt 3 rfl) e97).mono ?_)
              rintro e w94 ⟨rfl, Hc95⟩
              have he98 := Hc95.ext
              have H := H.call0 Hc95
              refine ⟨_, rfl, trivial, fun a S => ?_⟩
              refine lx_q (.bool (!x96)) S (want_b rfl rfl hc93) (by decide) (q_not rfl) (fun a S => ?_)
              refine lx_q (.bool (!x96)) S trivial (by decide) (q_pickF' rfl hc93 rfl) (fun a S => ?_)
              refine lx_nil ?_
              obtain rfl := Option.some.inj hm
              have H := H.sel [2, 3] (by decide)
              exact ⟨S.sub ⟨rfl, rfl, rfl, rfl, rfl, rfl, trivial⟩, H⟩
          · rintro a w ⟨S, H⟩
            refine lx_q (.bool t91) S trivial (by decide) (q_move rfl) (fun a S => ?_)
            obtain ⟨t99, e100, hm⟩ := bind_some hm
            refine lx_cut 4 (fun a w => Slots a 96 [(0, p0), (4, v48), (5, (.int .i64 x46.2)), (7, v62), (61, (.bool t99))] ∧ Heap w0 [oA (rList (rInt .i64)) v62 x60.1, oA (rList (rInt .i64)) v48 x46.1] w) ?_ ?_
            · by_cases hc101 : t91 = true
              · have hm := ite_t hc101 e100
                refine lx_skip S rfl rfl (isB_ne hc101) (by decide) (fun a S => ?_)
                refine lx_skip S rfl rfl (isB_ne hc101) (by decide) (fun a S => ?_)
                refine lx_skip S rfl rfl (isB_ne hc101) (by decide) (fun a S => ?_)
                refine lx_q (.bool true) S trivial (by decide) (q_pickT' rfl hc101 rfl) (fun a S => ?_)
                refine lx_nil ?_
                obtain rfl := Option.some.inj hm
                exact ⟨S.sub ⟨rfl, rfl, rfl, rfl, rfl, trivial⟩, H⟩
              · have hm := ite_f (eq_false_of_ne_true hc101) e100
                have hc101 : t91 = false := eq_false_of_ne_true hc101
                refine lx_q (.int .i64 x60.2) S (want_b rfl rfl hc101) (by decide) (q_move rfl) (fun a S => ?_)
                refine lx_q (.int .i64 x46.2) S (want_b rfl rfl hc101) (by decide) (q_move rfl) (fun a S => ?_)
                refine lx_q (.bool (x60.2 != x46.2)) S (want_b rfl rfl hc101) (by decide) (q_neq rfl rfl) (fun a S => ?_)
                refine lx_q (.bool (x60.2 != x46.2)) S trivial (by decide) (q_pickF' rfl hc101 rfl) (fun a S => ?_)
                refine lx_nil ?_
                obtain rfl := Option.some.inj hm
                exact ⟨S.sub ⟨rfl, rfl, rfl, rfl, rfl, trivial⟩, H⟩
            · rintro a w ⟨S, H⟩
              refine lx_nil ?_
              refine thenN ?_
              refine cond_b S rfl (fun hc102 => ?_) (fun hc102 => ?_)
              · have hm := ite_t hc102 hm
                refine wp_seq ?_
                refine region_plain ?_
                refine lx_q (.bool false) S trivial (by decide) (q_assign rfl) (fun a S => ?_)
                refine lx_nil ?_
                refine thenN ?_
                refine wp_ret ?_
                refine then_ret ?_
                obtain rfl := Option.some.inj hm
                have H : Heap w0 [] w := H.sel [] (by decide)
                exact leave1 S rfl rfl ⟨rfl, H⟩
              · have hm := ite_f hc102 hm
                refine wp_skip ?_
                refine thenN ?_
                refine wp_seq ?_
                refine region_plain ?_
                refine lx_q (.int .i64 (1 : Int)) S trivial (by decide) (q_assign rfl) (fun a S => ?_)
                refine lx_nil ?_
                refine thenN ?_
                refine wp_seq ?_
                refine region_plain ?_
                refine lx_q v62 S trivial (by decide) (q_move rfl) (fun a S => ?_)
                refine lx_q (.int .i64 (1 : Int)) S trivial (by decide) (q_move rfl) (fun a S => ?_)
                obtain ⟨x105, e106, hm⟩ := bind_some hm
                refine lx_call (xs := [.tmp 62, .tmp 63]) S trivial (by decide) rfl rfl Try.call18 ((laws_markInt64S_ok H e106).mono ?_)
                rintro e w103 ⟨rfl, H⟩
                refine ⟨_, rfl, trivial, fun a S => ?_⟩
                refine lx_q (.int .i64 x105.1) S trivial (by decide) (q_assign rfl) (fun a S => ?_)
                refine lx_nil ?_
                refine thenN ?_
                refine wp_seq ?_
                refine region_plain ?_
                refine lx_q (.int .i64 (1 : Int)) S trivial (by decide) (q_assign rfl) (fun a S => ?_)
                refine lx_nil ?_
                refine thenN ?_
                refine wp_seq ?_
                refine region_plain ?_
                refine lx_q v62 S trivial (by decide) (q_move rfl) (fun a S => ?_)
                refine lx_q (.int .i64 (1 : Int)) S trivial (by decide) (q_move rfl) (fun a S => ?_)
                obtain ⟨x109, e110, hm⟩ := bind_some hm
                refine lx_call (xs := [.tmp 65, .tmp 66]) S trivial (by decide) rfl rfl Try.call19 ((laws_heldInt64S_ok (H.rdAt 0 rfl)  e110).mono ?_)
                rintro e w107 ⟨rfl, Hc108⟩
                have he111 := Hc108.ext
                have H := H.call0 Hc108
                refine ⟨_, rfl, trivial, fun a S => ?_⟩
                refine lx_q (.int .i64 x109) S trivial (by decide) (q_assign rfl) (fun a S => ?_)
                refine lx_nil ?_
                refine thenN ?_
                refine wp_seq ?_
                refine wp_seq ?_
                refine region_plain ?_
                refine lx_q (.int .i64 x109) S trivial (by decide) (q_move rfl) (fun a S => ?_)
                refine lx_q (.bool (decide (x109 < (0 : Int)))) S trivial (by decide) (q_lss rfl rfl) (fun a S => ?_)
                refine lx_nil ?_
                refine thenN ?_
                refine cond_b S rfl (fun hc112 => ?_) (fun hc112 => ?_)
                · have hm := ite_t hc112 hm
                  refine wp_seq ?_
                  refine region_plain ?_
                  refine lx_q (.bool false) S trivial (by decide) (q_assign rfl) (fun a S => ?_)
                  refine lx_nil ?_
                  refine thenN ?_
                  refine wp_ret ?_
                  refine then_ret ?_
                  obtain rfl := Option.some.inj hm
                  have H : Heap w0 [] w107 := H.sel [] (by decide)
                  exact leave1 S rfl rfl ⟨rfl, H⟩
                · have hm := ite_f hc112 hm
                  refine wp_skip ?_
                  refine thenN ?_
                  refine wp_seq ?_
                  refine wp_seq ?_
                  refine region_plain ?_
                  refine lx_q (.int .i64 x109) S trivial (by decide) (q_move rfl) (fun a S => ?_)
                  refine lx_q (.int .i64 x105.1) S trivial (by decide) (q_move rfl) (fun a S => ?_)
                  refine lx_q (.bool (x109 != x105.1)) S trivial (by decide) (q_neq rfl rfl) (fun a S => ?_)
                  refine lx_nil ?_
                  refine thenN ?_
                  refine cond_b S rfl (fun hc113 => ?_) (fun hc113 => ?_)
                  · have hm := ite_t hc113 hm
                    refine wp_seq ?_
                    refine region_plain ?_
                    refine lx_q (.bool false) S trivial (by decide) (q_assign rfl) (fun a S => ?_)
                    refine lx_nil ?_
                    refine thenN ?_
                    refine wp_ret ?_
                    refine then_ret ?_
                    obtain rfl := Option.some.inj hm
                    have H : Heap w0 [] w107 := H.sel [] (by decide)
                    exact leave1 S rfl rfl ⟨rfl, H⟩
                  · have hm := ite_f hc113 hm
                    refine wp_skip ?_
                    refine thenN ?_
                    refine wp_seq ?_
                    refine region_plain ?_
                    refine lx_q p0 S trivial (by decide) (q_move rfl) (fun a S => ?_)
                    obtain ⟨x116, e117, hm⟩ := bind_some hm
                    refine lx_call (xs := [.tmp 74]) S trivial (by decide) rfl rfl Try.call11 ((laws_toEquationS_ok (H.arg h0) e117).mono ?_)
                    rintro e w114 ⟨v118, rfl, Hc115⟩
                    have he120 := Hc115.ext
                    have H := H.call1 Hc115
                    refine ⟨_, rfl, trivial, fun a S => ?_⟩
                    obtain ⟨x123, e124, hm⟩ := bind_some hm
                    refine lx_call (xs := [.tmp 75]) S trivial (by decide) rfl rfl Try.call15 ((impl_EquationBlocks_ok (H.rdAt 0 rfl) e124).mono ?_)
                    rintro e w121 ⟨v125, rfl, Hc122⟩
                    have he127 := Hc122.ext
                    have H := H.call1 Hc122
                    refine ⟨_, rfl, trivial, fun a S => ?_⟩
                    refine lx_q (.tuple #[v125, (.int .i64 x123.2)]) S trivial (by decide) (q_move rfl) (fun a S => ?_)
                    refine lx_q v125 S trivial (by decide) (q_extract rfl rfl) (fun a S => ?_)
                    refine lx_q (.int .i64 x123.2) S trivial (by decide) (q_extract rfl rfl) (fun a S => ?_)
                    refine lx_q v125 S trivial (by decide) (q_assign rfl) (fun a S => ?_)
                    refine lx_q (.int .i64 x123.2) S trivial (by decide) (q_assign rfl) (fun a S => ?_)
                    refine lx_nil ?_
                    refine thenN ?_
                    refine wp_seq ?_
                    refine wp_seq ?_
                    refine region_plain ?_
                    refine lx_q v125 S trivial (by decide) (q_move rfl) (fun a S => ?_)
                    refine lx_q v48 S trivial (by decide) (q_move rfl) (fun a S => ?_)
                    obtain ⟨x130, e131, hm⟩ := bind_some hm
                    refine lx_call (xs := [.tmp 79, .tmp 80]) S trivial (by decide) rfl rfl Try.call16 ((laws_eqInt64S_ok (H.rdAt 0 rfl) (H.rdAt 3 rfl) e131).mono ?_)
                    rintro e w128 ⟨rfl, Hc129⟩
                    have he132 := Hc129.ext
                    have H := H.call0 Hc129
                    refine ⟨_, rfl, trivial, fun a S => ?_⟩
                    refine lx_q (.bool (!x130)) S trivial (by decide) (q_not rfl) (fun a S => ?_)
                    refine lx_q (.bool (!x130)) S trivial (by decide) (q_move rfl) (fun a S => ?_)
                    obtain ⟨t133, e134, hm⟩ := bind_some hm
                    refine lx_cut 4 (fun a w => Slots a 96 [(7, v62), (10, (.int .i64 x105.1)), (87, (.bool t133))] ∧ Heap w0 [oA (rList (rInt .i64)) v62 x105.2] w) ?_ ?_
                    · by_cases hc135 : (!x130) = true
                      · have hm := ite_t hc135 e134
                        refine lx_skip S rfl rfl (isB_ne hc135) (by decide) (fun a S => ?_)
                        refine lx_skip S rfl rfl (isB_ne hc135) (by decide) (fun a S => ?_)
                        refine lx_skip S rfl rfl (isB_ne hc135) (by decide) (fun a S => ?_)
                        refine lx_q (.bool true) S trivial (by decide) (q_pickT' rfl hc135 rfl) (fun a S => ?_)
                        refine lx_nil ?_
                        obtain rfl := Option.some.inj hm
                        have H := H.sel [2] (by decide)
                        exact ⟨S.sub ⟨rfl, rfl, rfl, trivial⟩, H⟩
                      · have hm := ite_f (eq_false_of_ne_true hc135) e134
                        have hc135 : (!x130) = false := eq_false_of_ne_true hc135
                        refine lx_q (.int .i64 x123.2) S (want_b rfl rfl hc135) (by decide) (q_move rfl) (fun a S => ?_)
                        refine lx_q (.int .i64 x46.2) S (want_b rfl rfl hc135) (by decide) (q_move rfl) (fun a S => ?_)
                        refine lx_q (.bool (x123.2 != x46.2)) S (want_b rfl rfl hc135) (by decide) (q_neq rfl rfl) (fun a S => ?_)
                        refine lx_q (.bool (x123.2 != x46.2)) S trivial (by decide) (q_pickF' rfl hc135 rfl) (fun a S => ?_)
                        refine lx_nil ?_
                        obtain rfl := Option.some.inj hm
                        have H := H.sel [2] (by decide)
                        exact ⟨S.sub ⟨rfl, rfl, rfl, trivial⟩, H⟩
                    · rintro a w ⟨S, H⟩
                      refine lx_nil ?_
                      refine thenN ?_
                      refine cond_b S rfl (fun hc136 => ?_) (fun hc136 => ?_)
                      · have hm := ite_t hc136 hm
                        refine wp_seq ?_
                        refine region_plain ?_
                        refine lx_q (.bool false) S trivial (by decide) (q_assign rfl) (fun a S => ?_)
                        refine lx_nil ?_
                        refine thenN ?_
                        refine wp_ret ?_
                        refine then_ret ?_
                        obtain rfl := Option.some.inj hm
                        have H : Heap w0 [] w := H.sel [] (by decide)
                        exact leave1 S rfl rfl ⟨rfl, H⟩
                      · have hm := ite_f hc136 hm
                        refine wp_skip ?_
                        refine thenN ?_
                        refine wp_seq ?_
                        refine region_plain ?_
                        refine lx_q (.int .i64 (1 : Int)) S trivial (by decide) (q_assign rfl) (fun a S => ?_)
                        refine lx_nil ?_
                        refine thenN ?_
                        refine wp_seq ?_
                        refine region_plain ?_
                        refine lx_q v62 S trivial (by decide) (q_move rfl) (fun a S => ?_)
                        refine lx_q (.int .i64 (1 : Int)) S trivial (by decide) (q_move rfl) (fun a S => ?_)
                        obtain ⟨x139, e140, hm⟩ := bind_some hm
                        refine lx_call (xs := [.tmp 88, .tmp 89]) S trivial (by decide) rfl rfl Try.call19 ((laws_heldInt64S_ok (H.rdAt 0 rfl)  e140).mono ?_)
                        rintro e w137 ⟨rfl, Hc138⟩
                        have he141 := Hc138.ext
                        have H := H.call0 Hc138
                        refine ⟨_, rfl, trivial, fun a S => ?_⟩
                        refine lx_q (.int .i64 x139) S trivial (by decide) (q_assign rfl) (fun a S => ?_)
                        refine lx_nil ?_
                        refine thenN ?_
                        refine wp_seq ?_
                        refine wp_seq ?_
                        refine region_plain ?_
                        refine lx_q (.int .i64 x139) S trivial (by decide) (q_move rfl) (fun a S => ?_)
                        refine lx_q (.bool (decide (x139 < (0 : Int)))) S trivial (by decide) (q_lss rfl rfl) (fun a S => ?_)
                        refine lx_nil ?_
                        refine thenN ?_
                        refine cond_b S rfl (fun hc142 => ?_) (fun hc142 => ?_)
                        · have hm := ite_t hc142 hm
                          refine wp_seq ?_
                          refine region_plain ?_
                          refine lx_q (.bool false) S trivial (by decide) (q_assign rfl) (fun a S => ?_)
                          refine lx_nil ?_
                          refine thenN ?_
                          refine wp_ret ?_
                          refine then_ret ?_
                          obtain rfl := Option.some.inj hm
                          have H : Heap w0 [] w137 := H.sel [] (by decide)
                          exact leave1 S rfl rfl ⟨rfl, H⟩
                        · have hm := ite_f hc142 hm
                          refine wp_skip ?_
                          refine thenN ?_
                          refine wp_seq ?_
                          refine wp_seq ?_
                          refine region_plain ?_
                          refine lx_q (.int .i64 x139) S trivial (by decide) (q_move rfl) (fun a S => ?_)
                          refine lx_q (.int .i64 x105.1) S trivial (by decide) (q_move rfl) (fun a S => ?_)
                          refine lx_q (.bool (x139 != x105.1)) S trivial (by decide) (q_neq rfl rfl) (fun a S => ?_)
                          refine lx_nil ?_
                          refine thenN ?_
                          refine cond_b S rfl (fun hc143 => ?_) (fun hc143 => ?_)
                          · have hm := ite_t hc143 hm
                            refine wp_seq ?_
                            refine region_plain ?_
                            refine lx_q (.bool false) S trivial (by decide) (q_assign rfl) (fun a S => ?_)
                            refine lx_nil ?_
                            refine thenN ?_
                            refine wp_ret ?_
                            refine then_ret ?_
                            obtain rfl := Option.some.inj hm
                            have H : Heap w0 [] w137 := H.sel [] (by decide)
                            exact leave1 S rfl rfl ⟨rfl, H⟩
                          · have hm := ite_f hc143 hm
                            refine wp_skip ?_
                            refine thenN ?_
                            refine wp_seq ?_
                            refine region_plain ?_
                            refine lx_q (.bool true) S trivial (by decide) (q_assign rfl) (fun a S => ?_)
                            refine lx_nil ?_
                            refine thenN ?_
                            refine wp_ret ?_
                            obtain rfl := Option.some.inj hm
                            have H : Heap w0 [] w137 := H.sel [] (by decide)
                            exact leave1 S rfl rfl ⟨rfl, H⟩

/-- laws.toBoolS -/
def laws_toBoolS_m (fuel : Nat) (a0 : (List Bool)) : Option ((List Bool)) :=
  (mks (a0.length : Int) false).bind fun x31 => (iter (fun (s : (List Bool) × (Int)) => (match s with | (xs48, x49) => (if (decide (x49 < (a0.length : Int))) = true then (idx a0 x49).bind fun x71 => (idx xs48 x49).bind fun x76 => some (.inl ((xs48.set x49.toNat x71), (W (x49 + (1 : Int))))) else some (.inr (.inl (xs48)))) : Option (((List Bool) × (Int)) ⊕ (((List Bool)) ⊕ ((List Bool)))))) fuel (x31, (0 : Int))).bind fun res62 => ctl (β := (List Bool)) (ρ := (List Bool)) (τ := (List Bool)) res62 (fun (xs61) => some (xs61)) (fun q => some (q))
set_option maxRecDepth 20000 in
theorem laws_toBoolS_ok {w0 : World} {fuel : Nat} {p0 : Value} {a0 : (List Bool)} {r : (List Bool)} (h0 : Rd (rList rBool) w0 p0 a0) (hm : laws_toBoolS_m fuel a0 = some r) :
    Calls Try.prog 21 #[p0] w0 fun e w => ∃ (v0 : Value), e = .returned (v0) ∧ Heap w0 [oA (rList rBool) v0 r] w := by
  unfold laws_toBoolS_m at hm
  have H := Heap.start w0
  refine enter (args := [p0]) Try.func21 rfl 22 rfl (Nat.le_of_ble_eq_true rfl) (fun a S => ?_)
  refine wp_seq ?_
  refine region_plain ?_
  refine lx_q (.slice none 0 0) S trivial (by decide) (q_assign rfl) (fun a S => ?_)
  refine lx_nil ?_
  refine thenN ?_
  refine wp_seq ?_
  refine region_plain ?_
  refine lx_q p0 S trivial (by decide) (q_move rfl) (fun a S => ?_)
  refine lx_q (.int .i64 (a0.length : Int)) S trivial (by decide) (q_lenSl rfl (h0).isSl rfl Try.underlying35) (fun a S => ?_)
  obtain ⟨x31, e32, hm⟩ := bind_some hm
  obtain ⟨m33, hn, hn2, rfl⟩ := mks_some e32
  refine lx_make (r := rBool) (z0 := false) (n := m33) S trivial (by decide) rfl H (by rw [← hn]; rfl) (by rw [← hn]; rfl) Try.underlying35 (Try.ti4) rfl rfl (by decide) (fun w => ⟨rfl, rfl⟩) hn2 (by decide) (fun v34 w35 H => ⟨trivial, fun a S => ?_⟩)
  refine lx_q v34 S trivial (by decide) (q_assign rfl) (fun a S => ?_)
  refine lx_nil ?_
  refine thenN ?_
  refine wp_seq ?_
  refine wp_seq ?_
  refine region_plain ?_
  refine lx_q (.int .i64 (0 : Int)) S trivial (by decide) (q_assign rfl) (fun a S => ?_)
  refine lx_nil ?_
  refine thenN ?_
  obtain ⟨res62, hit63, hk66⟩ := bind_some hm
  obtain ⟨f64, hf65, hit63⟩ := iter_name hit63
  refine block_loop (fun a w => ∃ (xs61 : List Bool), Slots a 22 [(3, v34)] ∧ Heap w0 [oA (rList rBool) v34 xs61] w ∧ res62 = .inl (xs61)) ?_ ?_
  · rintro a w ⟨xs61, S, H, rfl⟩
    have hm := ctl_inl hk66
    refine thenN ?_
    refine wp_seq ?_
    refine region_plain ?_
    refine lx_q v34 S trivial (by decide) (q_move rfl) (fun a S => ?_)
    refine lx_q v34 S trivial (by decide) (q_assign rfl) (fun a S => ?_)
    refine lx_nil ?_
    refine thenN ?_
    refine wp_ret ?_
    obtain rfl := Option.some.inj hm
    exact leave1 S rfl rfl ⟨v34, rfl, H⟩
  · skip
    refine loop_ghost (fun n a w => ∃ (xs48 : List Bool) (x49 : Int), Slots a 22 [(0, p0), (3, v34), (4, (.int .i64 x49))] ∧ Heap w0 [oA (rList rBool) v34 xs48] w ∧ iter f64 n (xs48, x49) = some res62) _ ⟨(List.replicate m33 false), (0 : Int), S.sub ⟨rfl, rfl, rfl, trivial⟩, H, hit63⟩ ?_
    rintro n a w ⟨xs48, x49, S, H, hit63⟩
    obtain ⟨m67, o68, rfl, hm, hc69⟩ := iter_step hit63
    rw [hf65] at hm
    refine wp_seq ?_
    refine wp_seq ?_
    refine region_plain ?_
    refine lx_q (.int .i64 x49) S trivial (by decide) (q_move rfl) (fun a S => ?_)
    refine lx_q p0 S trivial (by decide) (q_move rfl) (fun a S => ?_)
    refine lx_q (.int .i64 (a0.length : Int)) S trivial (by decide) (q_lenSl rfl (h0).isSl rfl Try.underlying35) (fun a S => ?_)
    refine lx_q (.bool (decide (x49 < (a0.length : Int)))) S trivial (by decide) (q_lss rfl rfl) (fun a S => ?_)
    refine lx_nil ?_
    refine thenN ?_
    refine cond_b S rfl (fun hc70 => ?_) (fun hc70 => ?_)
    · have hm := ite_t hc70 hm
      refine wp_skip ?_
      refine thenN ?_
      refine wp_seq ?_
      refine wp_block ?_
      refine region_plain ?_
      refine lx_q v34 S trivial (by decide) (q_move rfl) (fun a S => ?_)
      refine lx_q (.int .i64 x49) S trivial (by decide) (q_move rfl) (fun a S => ?_)
      refine lx_q p0 S trivial (by decide) (q_move rfl) (fun a S => ?_)
      refine lx_q (.int .i64 x49) S trivial (by decide) (q_move rfl) (fun a S => ?_)
      obtain ⟨x71, e72, hm⟩ := bind_some hm
      obtain ⟨c73, h74, hat75⟩ := (h0).elem (idx_some e72).2
      obtain rfl := h74
      have hlt := lt_of_idx (idx_some e72).2
      refine lx_q (ePtr p0 (x49.toNat * 1)) S trivial (by decide) (q_indexAddr rfl (h0).isSl rfl (idx_some e72).1 hlt Try.underlying35 Try.sizeOf4) (fun a S => ?_)
      refine lx_e (.bool x71) S trivial (by decide) rfl trivial (q_load1 rfl Try.isAgg4 (by rintro _ rfl; exact ((hat75 0 _ rfl).ext H.ext))) (fun a S => ?_)
      obtain ⟨x76, e77, hm⟩ := bind_some hm
      have hlt := lt_of_idx (idx_some e77).2
      refine lx_q (ePtr v34 (x49.toNat * 1)) S trivial (by decide) (q_indexAddr rfl (H.isSl 0 rfl) rfl (idx_some e77).1 hlt Try.underlying35 Try.sizeOf4) (fun a S => ?_)
      refine lx_storeElem (r := rBool) (us := [(.bool x71)]) (off := 0) (e' := x71) S trivial rfl H.putE (by rw [pAdd_zero]; rfl) rfl (idx_some e77).2 rfl Try.sizeOf4 (Nat.le_of_ble_eq_true rfl) (List.forall_mem_cons.2 ⟨rfl, (fun _ h => nomatch h)⟩) (Upd.full rfl (fun w G hG => by cases (show G = [] from hG); exact ⟨rfl, rfl⟩)) (fun w78 H => ⟨trivial, fun a S => ?_⟩)
      refine lx_nil ?_
      refine inBlock_norm ?_
      refine thenN ?_
      refine region_plain ?_
      refine lx_q (.int .i64 x49) S trivial (by decide) (q_move rfl) (fun a S => ?_)
      refine lx_q (.int .i64 (W (x49 + (1 : Int)))) S trivial (by decide) (q_add rfl rfl) (fun a S => ?_)
      refine lx_q (.int .i64 (W (x49 + (1 : Int)))) S trivial (by decide) (q_assign rfl) (fun a S => ?_)
      refine lx_nil ?_
      exact ⟨m67, Nat.lt_succ_self _, (xs48.set x49.toNat x71), (W (x49 + (1 : Int))), S.sub ⟨rfl, rfl, rfl, trivial⟩, H, it_cont hm hc69⟩
    · have hm := ite_f hc70 hm
      refine wp_exit ?_
      refine then_exit ?_
      refine then_exit ?_
      refine inBlock_exit ?_
      obtain rfl := it_brk hm hc69
      exact ⟨xs48, S.sub ⟨rfl, trivial⟩, H, rfl⟩

/-- spec.l22Right -/
def spec_l22Right_m (fuel : Nat) (a0 : Timpl_Equation) (a1 : (List Bool)) : Option (Bool) :=
  (iter (fun (s : (Int)) => (match s with | (x59) => (if (decide (x59 < (a0.2.2.length : Int))) = true then (idx a0.2.2 x59).bind fun x86 => (idx a1 x86).bind fun x91 => (if (x91 != a0.2.1) = true then some (.inr (.inr (!a0.2.1))) else some (.inl ((W (x59 + (1 : Int)))))) else some (.inr (.inl ()))) : Option (((Int)) ⊕ ((Unit) ⊕ (Bool))))) fuel ((0 : Int))).bind fun res75 => ctl (β := Unit) (ρ := Bool) (τ := Bool) res75 (fun _ => some (a0.2.1)) (fun q => some (q))
set_option maxRecDepth 20000 in
theorem spec_l22Right_ok {w0 : World} {fuel : Nat} {p0 p1 : Value} {a0 : Timpl_Equation} {a1 : (List Bool)} {r : Bool} (h0 : Rd (rPtr Rimpl_Equation) w0 p0 a0) (h1 : Rd (rList rBool) w0 p1 a1) (hm : spec_l22Right_m fuel a0 a1 = some r) :
    Calls Try.prog 48 #[p0, p1] w0 fun e w => e = .returned (.bool r) ∧ Heap w0 [] w := by
  unfold spec_l22Right_m at hm
  have H := Heap.start w0
  obtain ⟨c31, h32, hat33⟩ := h0.ptr
  obtain ⟨c36, c37, rfl, h38, h39⟩ := h32
  obtain rfl := h38
  obtain ⟨c40, c41, rfl, h42, h43⟩ := h39
  obtain rfl := h42
  obtain ⟨v34, rfl, h35⟩ := rd_list h43
  refine enter (args := [p0, p1]) Try.func48 rfl 39 rfl (Nat.le_of_ble_eq_true rfl) (fun a S => ?_)
  refine wp_seq ?_
  refine region_plain ?_
  refine lx_q (.bool false) S trivial (by decide) (q_assign rfl) (fun a S => ?_)
  refine lx_nil ?_
  refine thenN ?_
  refine wp_seq ?_
  refine wp_seq ?_
  refine region_plain ?_
  refine lx_q (.int .i64 (0 : Int)) S trivial (by decide) (q_assign rfl) (fun a S => ?_)
  refine lx_nil ?_
  refine thenN ?_
  obtain ⟨res75, hit76, hk79⟩ := bind_some hm
  obtain ⟨f77, hf78, hit76⟩ := iter_name hit76
  refine block_loop (fun a w => Slots a 39 [(0, p0)] ∧ Heap w0 [] w ∧ res75 = .inl ()) ?_ ?_
  · rintro a w ⟨S, H, rfl⟩
    have hm := ctl_inl hk79
    refine thenN ?_
    refine wp_seq ?_
    refine region_plain ?_
    refine lx_q p0 S trivial (by decide) (q_move rfl) (fun a S => ?_)
    refine lx_q p0 S trivial (by decide) (q_nilCheck rfl ((hat33 0 _ rfl).isP)) (fun a S => ?_)
    refine lx_q (pAdd p0 1) S trivial (by decide) (q_fieldAddr' 1 4 rfl ((hat33 0 _ rfl).isP) Try.underlying58 rfl Try.sizeOf4) (fun a S => ?_)
    refine lx_e (.bool a0.2.1) S trivial (by decide) rfl trivial (q_load1 rfl Try.isAgg4 (by rintro _ rfl; exact (At.of_add (m := 1) (j := 0) ((hat33 1 _ rfl).ext H.ext)))) (fun a S => ?_)
    refine lx_q (.bool a0.2.1) S trivial (by decide) (q_assign rfl) (fun a S => ?_)
    refine lx_nil ?_
    refine thenN ?_
    refine wp_ret ?_
    obtain rfl := Option.some.inj hm
    exact leave1 S rfl rfl ⟨rfl, H⟩
  · skip
    refine loop_ghost (fun n a w => ∃ (x59 : Int), Slots a 39 [(0, p0), (1, p1), (5, (.int .i64 x59))] ∧ Heap w0 [] w ∧ iter f77 n (x59) = some res75) _ ⟨(0 : Int), S.sub ⟨rfl, rfl, rfl, trivial⟩, H, hit76⟩ ?_
    rintro n a w ⟨x59, S, H, hit76⟩
    obtain ⟨m80, o81, rfl, hm, hc82⟩ := iter_step hit76
    rw [hf78] at hm
    refine wp_seq ?_
    refine wp_seq ?_
    refine region_plain ?_
    refine lx_q (.int .i64 x59) S trivial (by decide) (q_move rfl) (fun a S => ?_)
    refine lx_q p0 S trivial (by decide) (q_move rfl) (fun a S => ?_)
    refine lx_q p0 S trivial (by decide) (q_nilCheck rfl ((hat33 0 _ rfl).isP)) (fun a S => ?_)
    refine lx_q (pAdd p0 2) S trivial (by decide) (q_fieldAddr' 2 29 rfl ((hat33 0 _ rfl).isP) Try.underlying58 rfl Try.sizeOf29) (fun a S => ?_)
    refine lx_e v34 S trivial (by decide) rfl trivial (q_load1 rfl Try.isAgg29 (by rintro _ rfl; exact (At.of_add (m := 2) (j := 0) ((hat33 2 _ rfl).ext H.ext)))) (fun a S => ?_)
    refine lx_q (.int .i64 (a0.2.2.length : Int)) S trivial (by decide) (q_lenSl rfl (h35).isSl rfl Try.underlying29) (fun a S => ?_)
    refine lx_q (.bool (decide (x59 < (a0.2.2.length : Int)))) S trivial (by decide) (q_lss rfl rfl) (fun a S => ?_)
    refine lx_nil ?_
    refine thenN ?_
    refine cond_b S rfl (fun hc83 => ?_) (fun hc83 => ?_)
    · have hm := ite_t hc83 hm
      refine wp_skip ?_
      refine thenN ?_
      refine wp_seq ?_
      refine wp_block ?_
      refine wp_seq ?_
      refine region_drawG (fun w1 => Heap w0 [] w1) (fun i => [].contains i) mixed (by kernel_rfl) (fun w85 he84 => ?_)
      have H := H.later he84
      refine ⟨H.sel [] (by decide), ?_⟩
      refine lx_q p1 S trivial (by decide) (q_move rfl) (fun a S => ?_)
      refine lx_q p0 S trivial (by decide) (q_move rfl) (fun a S => ?_)
      refine lx_q p0 S trivial (by decide) (q_nilCheck rfl ((hat33 0 _ rfl).isP)) (fun a S => ?_)
      refine lx_q (pAdd p0 2) S trivial (by decide) (q_fieldAddr' 2 29 rfl ((hat33 0 _ rfl).isP) Try.underlying58 rfl Try.sizeOf29) (fun a S => ?_)
      refine lx_q v34 S trivial (by decide) (q_load1 rfl Try.isAgg29 (fun w1 hC => (At.of_add (m := 2) (j := 0) ((hat33 2 _ rfl).ext hC.ext)))) (fun a S => ?_)
      refine lx_q (.int .i64 x59) S trivial (by decide) (q_move rfl) (fun a S => ?_)
      obtain ⟨x86, e87, hm⟩ := bind_some hm
      obtain ⟨c88, h89, hat90⟩ := (h35).elem (idx_some e87).2
      obtain rfl := h89
      have hlt := lt_of_idx (idx_some e87).2
      refine lx_q (ePtr v34 (x59.toNat * 1)) S trivial (by decide) (q_indexAddr rfl (h35).isSl rfl (idx_some e87).1 hlt Try.underlying29 Try.sizeOf2) (fun a S => ?_)
      refine lx_q (.int .i64 x86) S trivial (by decide) (q_load1 rfl Try.isAgg2 (fun w1 hC => ((hat90 0 _ rfl).ext hC.ext))) (fun a S => ?_)
      obtain ⟨x91, e92, hm⟩ := bind_some hm
      obtain ⟨c93, h94, hat95⟩ := (h1).elem (idx_some e92).2
      obtain rfl := h94
      have hlt := lt_of_idx (idx_some e92).2
      refine lx_q (ePtr p1 (x86.toNat * 1)) S trivial (by decide) (q_indexAddr rfl (h1).isSl rfl (idx_some e92).1 hlt Try.underlying35 Try.sizeOf4) (fun a S => ?_)
      refine lx_q (.bool x91) S trivial (by decide) (q_load1 rfl Try.isAgg4 (fun w1 hC => ((hat95 0 _ rfl).ext hC.ext))) (fun a S => ?_)
      refine lx_q p0 S trivial (by decide) (q_move rfl) (fun a S => ?_)
      refine lx_q p0 S trivial (by decide) (q_nilCheck rfl ((hat33 0 _ rfl).isP)) (fun a S => ?_)
      refine lx_q (pAdd p0 1) S trivial (by decide) (q_fieldAddr' 1 4 rfl ((hat33 0 _ rfl).isP) Try.underlying58 rfl Try.sizeOf4) (fun a S => ?_)
      refine lx_q (.bool a0.2.1) S trivial (by decide) (q_load1 rfl Try.isAgg4 (fun w1 hC => (At.of_add (m := 1) (j := 0) ((hat33 1 _ rfl).ext hC.ext)))) (fun a S => ?_)
      refine lx_q (.bool (x91 != a0.2.1)) S trivial (by decide) (q_bneq rfl rfl Try.underlying4) (fun a S => ?_)
      refine lx_nil ?_
      refine thenN ?_
      refine cond_b S rfl (fun hc96 => ?_) (fun hc96 => ?_)
      · have hm := ite_t hc96 hm
        refine wp_seq ?_
        refine region_plain ?_
        refine lx_q p0 S trivial (by decide) (q_move rfl) (fun a S => ?_)
        refine lx_q p0 S trivial (by decide) (q_nilCheck rfl ((hat33 0 _ rfl).isP)) (fun a S => ?_)
        refine lx_q (pAdd p0 1) S trivial (by decide) (q_fieldAddr' 1 4 rfl ((hat33 0 _ rfl).isP) Try.underlying58 rfl Try.sizeOf4) (fun a S => ?_)
        refine lx_e (.bool a0.2.1) S trivial (by decide) rfl trivial (q_load1 rfl Try.isAgg4 (by rintro _ rfl; exact (At.of_add (m := 1) (j := 0) ((hat33 1 _ rfl).ext H.ext)))) (fun a S => ?_)
        refine lx_q (.bool (!a0.2.1)) S trivial (by decide) (q_not rfl) (fun a S => ?_)
        refine lx_q (.bool (!a0.2.1)) S trivial (by decide) (q_assign rfl) (fun a S => ?_)
        refine lx_nil ?_
        refine thenN ?_
        refine wp_ret ?_
        refine inBlock_ret ?_
        refine then_ret ?_
        refine then_ret ?_
        refine inBlock_ret ?_
        refine then_ret ?_
        refine then_ret ?_
        obtain rfl := it_brk hm hc82
        have hm := ctl_inr hk79
        obtain rfl := Option.some.inj hm
        exact leave1 S rfl rfl ⟨rfl, H⟩
      · have hm := ite_f hc96 hm
        refine wp_skip ?_
        refine inBlock_norm ?_
        refine thenN ?_
        refine region_plain ?_
        refine lx_q (.int .i64 x59) S trivial (by decide) (q_move rfl) (fun a S => ?_)
        refine lx_q (.int .i64 (W (x59 + (1 : Int)))) S trivial (by decide) (q_add rfl rfl) (fun a S => ?_)
        refine lx_q (.int .i64 (W (x59 + (1 : Int)))) S trivial (by decide) (q_assign rfl) (fun a S => ?_)
        refine lx_nil ?_
        exact ⟨m80, Nat.lt_succ_self _, (W (x59 + (1 : Int))), S.sub ⟨rfl, rfl, rfl, trivial⟩, H, it_cont hm hc82⟩
    · have hm := ite_f hc83 hm
      refine wp_exit ?_
      refine then_exit ?_
      refine then_exit ?_
      refine inBlock_exit ?_
      obtain rfl := it_brk hm hc82
      exact ⟨S.sub ⟨rfl, trivial⟩, H, rfl⟩

/-- spec.IsConsistent -/
def spec_IsConsistent_m (fuel : Nat) (a0 : (List Timpl_Equation)) (a1 : (List Bool)) : Option (Bool) :=
  (spec_l22Is_m fuel a0).bind fun x33 => (if (!x33) = true then some true else some ((a1.length : Int) != (a0.length : Int))).bind fun t36 => (if t36 = true then some (false) else (iter (fun (s : (Int)) => (match s with | (x70) => (if (decide (x70 < (a0.length : Int))) = true then (idx a0 x70).bind fun x112 => (spec_l22Right_m fuel x112 a1).bind fun x129 => (idx a1 x70).bind fun x132 => (if (x129 != x132) = true then some (.inr (.inr false)) else some (.inl ((W (x70 + (1 : Int)))))) else some (.inr (.inl ()))) : Option (((Int)) ⊕ ((Unit) ⊕ (Bool))))) fuel ((0 : Int))).bind fun res101 => ctl (β := Unit) (ρ := Bool) (τ := Bool) res101 (fun _ => some (true)) (fun q => some (q)))
set_option maxRecDepth 20000 in
theorem spec_IsConsistent_ok {w0 : World} {fuel : Nat} {p0 p1 : Value} {a0 : (List Timpl_Equation)} {a1 : (List Bool)} {r : Bool} (h0 : Rd (rList Rimpl_Equation) w0 p0 a0) (h1 : Rd (rList rBool) w0 p1 a1) (hm : spec_IsConsistent_m fuel a0 a1 = some r) :
    Calls Try.prog 20 #[p0, p1] w0 fun e w => e = .returned (.bool r) ∧ Heap w0 [] w := by
  unfold spec_IsConsistent_m at hm
  have H := Heap.start w0
  refine enter (args := [p0, p1]) Try.func20 rfl 32 rfl (Nat.le_of_ble_eq_true rfl) (fun a S => ?_)
  refine wp_seq ?_
  refine region_plain ?_
  refine lx_q (.bool false) S trivial (by decide) (q_assign rfl) (fun a S => ?_)
  refine lx_nil ?_
  refine thenN ?_
  refine wp_seq ?_
  refine wp_seq ?_
  refine region_plain ?_
  refine lx_q p0 S trivial (by decide) (q_move rfl) (fun a S => ?_)
  obtain ⟨x33, e34, hm⟩ := bind_some hm
  refine lx_call (xs := [.tmp 6]) S trivial (by decide) rfl rfl Try.call38 ((spec_l22Is_ok (H.arg h0) e34).mono ?_)
  rintro e w31 ⟨rfl, Hc32⟩
  have he35 := Hc32.ext
  have H := H.call0 Hc32
  refine ⟨_, rfl, trivial, fun a S => ?_⟩
  refine lx_q (.bool (!x33)) S trivial (by decide) (q_not rfl) (fun a S => ?_)
  refine lx_q (.bool (!x33)) S trivial (by decide) (q_move rfl) (fun a S => ?_)
  obtain ⟨t36, e37, hm⟩ := bind_some hm
  refine lx_cut 6 (fun a w => Slots a 32 [(0, p0), (1, p1), (15, (.bool t36))] ∧ Heap w0 [] w) ?_ ?_
  · by_cases hc38 : (!x33) = true
    · have hm := ite_t hc38 e37
      refine lx_skip S rfl rfl (isB_ne hc38) (by decide) (fun a S => ?_)
      refine lx_skip S rfl rfl (isB_ne hc38) (by decide) (fun a S => ?_)
      refine lx_skip S rfl rfl (isB_ne hc38) (by decide) (fun a S => ?_)
      refine lx_skip S rfl rfl (isB_ne hc38) (by decide) (fun a S => ?_)
      refine lx_skip S rfl rfl (isB_ne hc38) (by decide) (fun a S => ?_)
      refine lx_q (.bool true) S trivial (by decide) (q_pickT' rfl hc38 rfl) (fun a S => ?_)
      refine lx_nil ?_
      obtain rfl := Option.some.inj hm
      exact ⟨S.sub ⟨rfl, rfl, rfl, trivial⟩, H⟩
    · have hm := ite_f (eq_false_of_ne_true hc38) e37
      have hc38 : (!x33) = false := eq_false_of_ne_true hc38
      refine lx_q p1 S (want_b rfl rfl hc38) (by decide) (q_move rfl) (fun a S => ?_)
      refine lx_q (.int .i64 (a1.length : Int)) S (want_b rfl rfl hc38) (by decide) (q_lenSl rfl (h1).isSl rfl Try.underlying35) (fun a S => ?_)
      refine lx_q p0 S (want_b rfl rfl hc38) (by decide) (q_move rfl) (fun a S => ?_)
      refine lx_q (.int .i64 (a0.length : Int)) S (want_b rfl rfl hc38) (by decide) (q_lenSl rfl (h0).isSl rfl Try.underlying25) (fun a S => ?_)
      refine lx_q (.bool ((a1.length : Int) != (a0.length : Int))) S (want_b rfl rfl hc38) (by decide) (q_neq rfl rfl) (fun a S => ?_)
      refine lx_q (.bool ((a1.length : Int) != (a0.length : Int))) S trivial (by decide) (q_pickF' rfl hc38 rfl) (fun a S => ?_)
      refine lx_nil ?_
      obtain rfl := Option.some.inj hm
      exact ⟨S.sub ⟨rfl, rfl, rfl, trivial⟩, H⟩
  · rintro a w ⟨S, H⟩
    refine lx_nil ?_
    refine thenN ?_
    refine cond_b S rfl (fun hc39 => ?_) (fun hc39 => ?_)
    · have hm := ite_t hc39 hm
      refine wp_seq ?_
      refine region_plain ?_
      refine lx_q (.bool false) S trivial (by decide) (q_assign rfl) (fun a S => ?_)
      refine lx_nil ?_
      refine thenN ?_
      refine wp_ret ?_
      refine then_ret ?_
      obtain rfl := Option.some.inj hm
      exact leave1 S rfl rfl ⟨rfl, H⟩
    · have hm := ite_f hc39 hm
      refine wp_skip ?_
      refine thenN ?_
      refine wp_seq ?_
      refine wp_seq ?_
      refine region_plain ?_
      refine lx_q (.int .i64 (0 : Int)) S trivial (by decide) (q_assign rfl) (fun a S => ?_)
      refine lx_nil ?_
      refine thenN ?_
      obtain ⟨res101, hit102, hk105⟩ := bind_some hm
      obtain ⟨f103, hf104, hit102⟩ := iter_name hit102
      refine block_loop (fun a w => Slots a 32 [] ∧ Heap w0 [] w ∧ res101 = .inl ()) ?_ ?_
      · rintro a w ⟨S, H, rfl⟩
        have hm := ctl_inl hk105
        refine thenN ?_
        refine wp_seq ?_
        refine region_plain ?_
        refine lx_q (.bool true) S trivial (by decide) (q_assign rfl) (fun a S => ?_)
        refine lx_nil ?_
        refine thenN ?_
        refine wp_ret ?_
        obtain rfl := Option.some.inj hm
        exact leave1 S rfl rfl ⟨rfl, H⟩
      · skip
        refine loop_ghost (fun n a w => ∃ (x70 : Int), Slots a 32 [(0, p0), (1, p1), (5, (.int .i64 x70))] ∧ Heap w0 [] w ∧ iter f103 n (x70) = some res101) _ ⟨(0 : Int), S.sub ⟨rfl, rfl, rfl, trivial⟩, H, hit102⟩ ?_
        rintro n a w ⟨x70, S, H, hit102⟩
        obtain ⟨m106, o107, rfl, hm, hc108⟩ := iter_step hit102
        rw [hf104] at hm
        refine wp_seq ?_
        refine wp_seq ?_
        refine region_plain ?_
        refine lx_q (.int .i64 x70) S trivial (by decide) (q_move rfl) (fun a S => ?_)
        refine lx_q p0 S trivial (by decide) (q_move rfl) (fun a S => ?_)
        refine lx_q (.int .i64 (a0.length : Int)) S trivial (by decide) (q_lenSl rfl (h0).isSl rfl Try.underlying25) (fun a S => ?_)
        refine lx_q (.bool (decide (x70 < (a0.length : Int)))) S trivial (by decide) (q_lss rfl rfl) (fun a S => ?_)
        refine lx_nil ?_
        refine thenN ?_
        refine cond_b S rfl (fun hc109 => ?_) (fun hc109 => ?_)
        · have hm := ite_t hc109 hm
          refine wp_skip ?_
          refine thenN ?_
          refine wp_seq ?_
          refine wp_block ?_
          refine wp_seq ?_
          refine region_drawG (fun w1 => Heap w0 [] w1) (fun i => [4].contains i) mixed (by kernel_rfl) (fun w111 he110 => ?_)
          have H := H.later he110
          refine ⟨H.sel [] (by decide), ?_⟩
          refine lx_q p0 S trivial (by decide) (q_move rfl) (fun a S => ?_)
          refine lx_q (.int .i64 x70) S trivial (by decide) (q_move rfl) (fun a S => ?_)
          obtain ⟨x112, e113, hm⟩ := bind_some hm
          obtain ⟨c114, h115, hat116⟩ := (h0).elem (idx_some e113).2
          obtain ⟨c119, c120, rfl, h121, h122⟩ := h115
          obtain rfl := h121
          obtain ⟨c123, c124, rfl, h125, h126⟩ := h122
          obtain rfl := h125
          obtain ⟨v117, rfl, h118⟩ := rd_list h126
          have hlt := lt_of_idx (idx_some e113).2
          refine lx_q (ePtr p0 (x70.toNat * 3)) S trivial (by decide) (q_indexAddr rfl (h0).isSl rfl (idx_some e113).1 hlt Try.underlying25 Try.sizeOf58) (fun a S => ?_)
          refine lx_q p1 S trivial (by decide) (q_move rfl) (fun a S => ?_)
          obtain ⟨x129, e130, hm⟩ := bind_some hm
          refine lx_call (xs := [.tmp 24, .tmp 25]) S trivial (by decide) rfl rfl Try.call48 ((spec_l22Right_ok ((H.arg h0).elemPtr (idx_some e113).2) (H.arg h1) e130).mono ?_)
          rintro e w127 ⟨rfl, Hc128⟩
          have he131 := Hc128.ext
          have H := H.call0 Hc128
          refine ⟨_, rfl, H.sel [] (by decide), fun a S => ?_⟩
          refine lx_q p1 S trivial (by decide) (q_move rfl) (fun a S => ?_)
          refine lx_q (.int .i64 x70) S trivial (by decide) (q_move rfl) (fun a S => ?_)
          obtain ⟨x132, e133, hm⟩ := bind_some hm
          obtain ⟨c134, h135, hat136⟩ := (h1).elem (idx_some e133).2
          obtain rfl := h135
          have hlt := lt_of_idx (idx_some e133).2
          refine lx_q (ePtr p1 (x70.toNat * 1)) S trivial (by decide) (q_indexAddr rfl (h1).isSl rfl (idx_some e133).1 hlt Try.underlying35 Try.sizeOf4) (fun a S => ?_)
          refine lx_q (.bool x132) S trivial (by decide) (q_load1 rfl Try.isAgg4 (fun w1 hC => ((hat136 0 _ rfl).ext hC.ext))) (fun a S => ?_)
          refine lx_q (.bool (x129 != x132)) S trivial (by decide) (q_bneq rfl rfl Try.underlying4) (fun a S => ?_)
          refine lx_nil ?_
          refine thenN ?_
          refine cond_b S rfl (fun hc137 => ?_) (fun hc137 => ?_)
          · have hm := ite_t hc137 hm
            refine wp_seq ?_
            refine region_plain ?_
            refine lx_q (.bool false) S trivial (by decide) (q_assign rfl) (fun a S => ?_)
            refine lx_nil ?_
            refine thenN ?_
            refine wp_ret ?_
            refine inBlock_ret ?_
            refine then_ret ?_
            refine then_ret ?_
            refine inBlock_ret ?_
            refine then_ret ?_
            refine then_ret ?_
            obtain rfl := it_brk hm hc108
            have hm := ctl_inr hk105
            obtain rfl := Option.some.inj hm
            exact leave1 S rfl rfl ⟨rfl, H⟩
          · have hm := ite_f hc137 hm
            refine wp_skip ?_
            refine inBlock_norm ?_
            refine thenN ?_
            refine region_plain ?_
            refine lx_q (.int .i64 x70) S trivial (by decide) (q_move rfl) (fun a S => ?_)
            refine lx_q (.int .i64 (W (x70 + (1 : Int)))) S trivial (by decide) (q_add rfl rfl) (fun a S => ?_)
            refine lx_q (.int .i64 (W (x70 + (1 : Int)))) S trivial (by decide) (q_assign rfl) (fun a S => ?_)
            refine lx_nil ?_
            exact ⟨m106, Nat.lt_succ_self _, (W (x70 + (1 : Int))), S.sub ⟨rfl, rfl, rfl, trivial⟩, H, it_cont hm hc108⟩
        · have hm := ite_f hc109 hm
          refine wp_exit ?_
          refine then_exit ?_
          refine then_exit ?_
          refine inBlock_exit ?_
          obtain rfl := it_brk hm hc108
          exact ⟨S.sub trivial, H, rfl⟩

/-- impl.IsConsistent$1 -/
def impl_IsConsistent_1_m (fuel : Nat) (a0 : Int) (a1 : (List Bool)) (a2 : Timpl_Equation) : Option (Bool) :=
  (idx a1 a0).bind fun x51 => some ((x51 != a2.2.1))
set_option maxRecDepth 20000 in
theorem impl_IsConsistent_1_ok {w0 : World} {fuel : Nat} {p1 p2 : Value} {a0 : Int} {a1 : (List Bool)} {a2 : Timpl_Equation} {r : Bool} (h1 : Rd (rPtr (rList rBool)) w0 p1 a1) (h2 : Rd (rPtr Rimpl_Equation) w0 p2 a2) (hm : impl_IsConsistent_1_m fuel a0 a1 a2 = some r) :
    Calls Try.prog 50 #[.int .i64 a0, p1, p2] w0 fun e w => e = .returned (.bool r) ∧ Heap w0 [] w := by
  unfold impl_IsConsistent_1_m at hm
  have H := Heap.start w0
  obtain ⟨c31, h32, hat33⟩ := h1.ptr
  obtain ⟨v34, rfl, h35⟩ := rd_list h32
  obtain ⟨c36, h37, hat38⟩ := h2.ptr
  obtain ⟨c41, c42, rfl, h43, h44⟩ := h37
  obtain rfl := h43
  obtain ⟨c45, c46, rfl, h47, h48⟩ := h44
  obtain rfl := h47
  obtain ⟨v39, rfl, h40⟩ := rd_list h48
  refine enter (args := [.int .i64 a0, p1, p2]) Try.func50 rfl 12 rfl (Nat.le_of_ble_eq_true rfl) (fun a S => ?_)
  refine wp_seq ?_
  refine region_plain ?_
  refine lx_q (.bool false) S trivial (by decide) (q_assign rfl) (fun a S => ?_)
  refine lx_nil ?_
  refine thenN ?_
  refine wp_seq ?_
  refine region_drawG (fun w1 => Heap w0 [] w1) (fun i => [].contains i) mixed (by kernel_rfl) (fun w50 he49 => ?_)
  have H := H.later he49
  refine ⟨H.sel [] (by decide), ?_⟩
  refine lx_q v34 S trivial (by decide) (q_load1 rfl Try.isAgg35 (fun w1 hC => ((hat33 0 _ rfl).ext hC.ext))) (fun a S => ?_)
  refine lx_q (.int .i64 a0) S trivial (by decide) (q_move rfl) (fun a S => ?_)
  obtain ⟨x51, e52, hm⟩ := bind_some hm
  obtain ⟨c53, h54, hat55⟩ := (h35).elem (idx_some e52).2
  obtain rfl := h54
  have hlt := lt_of_idx (idx_some e52).2
  refine lx_q (ePtr v34 (a0.toNat * 1)) S trivial (by decide) (q_indexAddr rfl (h35).isSl rfl (idx_some e52).1 hlt Try.underlying35 Try.sizeOf4) (fun a S => ?_)
  refine lx_q (.bool x51) S trivial (by decide) (q_load1 rfl Try.isAgg4 (fun w1 hC => ((hat55 0 _ rfl).ext hC.ext))) (fun a S => ?_)
  refine lx_q (pAdd p2 1) S trivial (by decide) (q_fieldAddr' 1 4 rfl ((hat38 0 _ rfl).isP) Try.underlying58 rfl Try.sizeOf4) (fun a S => ?_)
  refine lx_q (.bool a2.2.1) S trivial (by decide) (q_load1 rfl Try.isAgg4 (fun w1 hC => (At.of_add (m := 1) (j := 0) ((hat38 1 _ rfl).ext hC.ext)))) (fun a S => ?_)
  refine lx_q (.bool (x51 != a2.2.1)) S trivial (by decide) (q_bneq rfl rfl Try.underlying4) (fun a S => ?_)
  refine lx_q (.bool (x51 != a2.2.1)) S trivial (by decide) (q_assign rfl) (fun a S => ?_)
  refine lx_nil ?_
  refine thenN ?_
  refine wp_ret ?_
  obtain rfl := Option.some.inj hm
  exact leave1 S rfl rfl ⟨rfl, H⟩

/-- slices.IndexFunc[[]int64,int64] -/
def slices_IndexFunc__int64_int64_m (fuel : Nat) (a0 : (List Int)) (a1 : (Int → Option Bool)) : Option (Int) :=
  (iter (fun (s : (Int)) => (match s with | (x46) => (if (decide (x46 < (a0.length : Int))) = true then (idx a0 x46).bind fun x71 => (a1 x71).bind fun x80 => (if x80 = true then some (.inr (.inr x46)) else some (.inl ((W (x46 + (1 : Int)))))) else some (.inr (.inl ()))) : Option (((Int)) ⊕ ((Unit) ⊕ (Int))))) fuel ((0 : Int))).bind fun res62 => ctl (β := Unit) (ρ := Int) (τ := Int) res62 (fun _ => some ((-1 : Int))) (fun q => some (q))
set_option maxRecDepth 20000 in
theorem slices_IndexFunc__int64_int64_ok {w0 : World} {fuel : Nat} {p0 : Value} {a0 : (List Int)} {a1 : (Int → Option Bool)} {f1 : Nat} {fs1 cp1 : List Value} {r : Int} (h0 : Rd (rList (rInt .i64)) w0 p0 a0) (hcf1 : ∀ args w, (callFunc f1 args).run Try.prog w = .ok (.enter f1 args) w) (hf1 : ∀ {w : World} {x0_ : Int} {y : Bool}, Ext w0 w → a1 x0_ = some y → Calls Try.prog f1 (fs1 ++ ([.int .i64 x0_] : List Value) ++ cp1).toArray w fun e w' => e = .returned (.bool y) ∧ Heap w [] w') (hm : slices_IndexFunc__int64_int64_m fuel a0 a1 = some r) :
    Calls Try.prog 72 #[p0, .func (.func f1) fs1.toArray cp1.toArray] w0 fun e w => e = .returned (.int .i64 r) ∧ Heap w0 [] w := by
  unfold slices_IndexFunc__int64_int64_m at hm
  have H := Heap.start w0
  refine enter (args := [p0, .func (.func f1) fs1.toArray cp1.toArray]) Try.func72 rfl 19 rfl (Nat.le_of_ble_eq_true rfl) (fun a S => ?_)
  refine wp_seq ?_
  refine region_plain ?_
  refine lx_q (.int .i64 (0 : Int)) S trivial (by decide) (q_assign rfl) (fun a S => ?_)
  refine lx_nil ?_
  refine thenN ?_
  refine wp_seq ?_
  refine wp_seq ?_
  refine region_plain ?_
  refine lx_q p0 S trivial (by decide) (q_move rfl) (fun a S => ?_)
  refine lx_q (.int .i64 (a0.length : Int)) S trivial (by decide) (q_lenSl rfl (h0).isSl rfl Try.underlying29) (fun a S => ?_)
  refine lx_q (.int .i64 (0 : Int)) S trivial (by decide) (q_move rfl) (fun a S => ?_)
  refine lx_nil ?_
  refine thenN ?_
  obtain ⟨res62, hit63, hk66⟩ := bind_some hm
  obtain ⟨f64, hf65, hit63⟩ := iter_name hit63
  refine block_loop (fun a w => Slots a 19 [] ∧ Heap w0 [] w ∧ res62 = .inl ()) ?_ ?_
  · rintro a w ⟨S, H, rfl⟩
    have hm := ctl_inl hk66
    refine thenN ?_
    refine wp_seq ?_
    refine region_plain ?_
    refine lx_q (.int .i64 (-1 : Int)) S trivial (by decide) (q_assign rfl) (fun a S => ?_)
    refine lx_nil ?_
    refine thenN ?_
    refine wp_ret ?_
    obtain rfl := Option.some.inj hm
    exact leave1 S rfl rfl ⟨rfl, H⟩
  · skip
    refine loop_ghost (fun n a w => ∃ (x46 : Int), Slots a 19 [(0, p0), (1, (.func (.func f1) fs1.toArray cp1.toArray)), (7, (.int .i64 (a0.length : Int))), (8, (.int .i64 x46))] ∧ Heap w0 [] w ∧ iter f64 n (x46) = some res62) _ ⟨(0 : Int), S.sub ⟨rfl, rfl, rfl, rfl, trivial⟩, H, hit63⟩ ?_
    rintro n a w ⟨x46, S, H, hit63⟩
    obtain ⟨m67, o68, rfl, hm, hc69⟩ := iter_step hit63
    rw [hf65] at hm
    refine wp_seq ?_
    refine region_plain ?_
    refine lx_q (.bool (decide (x46 < (a0.length : Int)))) S trivial (by decide) (q_lss rfl rfl) (fun a S => ?_)
    refine lx_nil ?_
    refine thenN ?_
    refine wp_seq ?_
    refine cond_b S rfl (fun hc70 => ?_) (fun hc70 => ?_)
    · have hm := ite_t hc70 hm
      refine wp_skip ?_
      refine thenN ?_
      refine wp_seq ?_
      refine wp_block ?_
      refine wp_seq ?_
      refine region_plain ?_
      refine lx_q (.int .i64 x46) S trivial (by decide) (q_move rfl) (fun a S => ?_)
      refine lx_q (.int .i64 x46) S trivial (by decide) (q_assign rfl) (fun a S => ?_)
      refine lx_nil ?_
      refine thenN ?_
      refine wp_seq ?_
      refine region_plain ?_
      refine lx_q (.func (.func f1) fs1.toArray cp1.toArray) S trivial (by decide) (q_move rfl) (fun a S => ?_)
      refine lx_q p0 S trivial (by decide) (q_move rfl) (fun a S => ?_)
      refine lx_q (.int .i64 x46) S trivial (by decide) (q_move rfl) (fun a S => ?_)
      obtain ⟨x71, e72, hm⟩ := bind_some hm
      obtain ⟨c73, h74, hat75⟩ := (h0).elem (idx_some e72).2
      obtain rfl := h74
      have hlt := lt_of_idx (idx_some e72).2
      refine lx_q (ePtr p0 (x46.toNat * 1)) S trivial (by decide) (q_indexAddr rfl (h0).isSl rfl (idx_some e72).1 hlt Try.underlying29 Try.sizeOf2) (fun a S => ?_)
      refine lx_e (.int .i64 x71) S trivial (by decide) rfl trivial (q_load1 rfl Try.isAgg2 (by rintro _ rfl; exact ((hat75 0 _ rfl).ext H.ext))) (fun a S => ?_)
      obtain ⟨x80, e81, hm⟩ := bind_some hm
      refine lx_callV (f := f1) (first := fs1) (cap := cp1) (xs := [.tmp 15]) S trivial (by decide) rfl rfl rfl hcf1 ((hf1 H.ext  e81).mono ?_)
      rintro e w78 ⟨rfl, Hc79⟩
      have he82 := Hc79.ext
      have H := H.call0 Hc79
      refine ⟨_, rfl, trivial, fun a S => ?_⟩
      refine lx_nil ?_
      refine thenN ?_
      refine cond_b S rfl (fun hc83 => ?_) (fun hc83 => ?_)
      · have hm := ite_t hc83 hm
        refine wp_seq ?_
        refine region_plain ?_
        refine lx_q (.int .i64 x46) S trivial (by decide) (q_move rfl) (fun a S => ?_)
        refine lx_q (.int .i64 x46) S trivial (by decide) (q_assign rfl) (fun a S => ?_)
        refine lx_nil ?_
        refine thenN ?_
        refine wp_ret ?_
        refine inBlock_ret ?_
        refine then_ret ?_
        refine then_ret ?_
        refine inBlock_ret ?_
        refine then_ret ?_
        refine then_ret ?_
        obtain rfl := it_brk hm hc69
        have hm := ctl_inr hk66
        obtain rfl := Option.some.inj hm
        exact leave1 S rfl rfl ⟨rfl, H⟩
      · have hm := ite_f hc83 hm
        refine wp_skip ?_
        refine inBlock_norm ?_
        refine thenN ?_
        refine region_plain ?_
        refine lx_q (.int .i64 (W (x46 + (1 : Int)))) S trivial (by decide) (q_add rfl rfl) (fun a S => ?_)
        refine lx_q (.int .i64 (W (x46 + (1 : Int)))) S trivial (by decide) (q_move rfl) (fun a S => ?_)
        refine lx_nil ?_
        exact ⟨m67, Nat.lt_succ_self _, (W (x46 + (1 : Int))), S.sub ⟨rfl, rfl, rfl, rfl, trivial⟩, H, it_cont hm hc69⟩
    · have hm := ite_f hc70 hm
      refine wp_exit ?_
      refine then_exit ?_
      refine then_exit ?_
      refine inBlock_exit ?_
      obtain rfl := it_brk hm hc69
      exact ⟨S.sub trivial, H, rfl⟩

/-- slices.ContainsFunc[[]int64,int64] -/
def slices_ContainsFunc__int64_int64_m (fuel : Nat) (a0 : (List Int)) (a1 : (Int → Option Bool)) : Option (Bool) :=
  (slices_IndexFunc__int64_int64_m fuel a0 a1).bind fun x33 => some ((decide ((0 : Int) ≤ x33)))
set_option maxRecDepth 20000 in
theorem slices_ContainsFunc__int64_int64_ok {w0 : World} {fuel : Nat} {p0 : Value} {a0 : (List Int)} {a1 : (Int → Option Bool)} {f1 : Nat} {fs1 cp1 : List Value} {r : Bool} (h0 : Rd (rList (rInt .i64)) w0 p0 a0) (hcf1 : ∀ args w, (callFunc f1 args).run Try.prog w = .ok (.enter f1 args) w) (hf1 : ∀ {w : World} {x0_ : Int} {y : Bool}, Ext w0 w → a1 x0_ = some y → Calls Try.prog f1 (fs1 ++ ([.int .i64 x0_] : List Value) ++ cp1).toArray w fun e w' => e = .returned (.bool y) ∧ Heap w [] w') (hm : slices_ContainsFunc__int64_int64_m fuel a0 a1 = some r) :
    Calls Try.prog 49 #[p0, .func (.func f1) fs1.toArray cp1.toArray] w0 fun e w => e = .returned (.bool r) ∧ Heap w0 [] w := by
  unfold slices_ContainsFunc__int64_int64_m at hm
  have H := Heap.start w0
  refine enter (args := [p0, .func (.func f1) fs1.toArray cp1.toArray]) Try.func49 rfl 9 rfl (Nat.le_of_ble_eq_true rfl) (fun a S => ?_)
  refine wp_seq ?_
  refine region_plain ?_
  refine lx_q (.bool false) S trivial (by decide) (q_assign rfl) (fun a S => ?_)
  refine lx_nil ?_
  refine thenN ?_
  refine wp_seq ?_
  refine region_plain ?_
  refine lx_q p0 S trivial (by decide) (q_move rfl) (fun a S => ?_)
  refine lx_q (.func (.func f1) fs1.toArray cp1.toArray) S trivial (by decide) (q_move rfl) (fun a S => ?_)
  obtain ⟨x33, e34, hm⟩ := bind_some hm
  refine lx_call (xs := [.tmp 5, .tmp 6]) S trivial (by decide) rfl rfl Try.call72 ((slices_IndexFunc__int64_int64_ok (f1 := f1) (fs1 := fs1) (cp1 := cp1) (a1 := a1) (H.arg h0) hcf1 (fun he  hm => hf1 (H.ext.trans he)  hm) e34).mono ?_)
  rintro e w31 ⟨rfl, Hc32⟩
  have he35 := Hc32.ext
  have H := H.call0 Hc32
  refine ⟨_, rfl, trivial, fun a S => ?_⟩
  refine lx_q (.bool (decide ((0 : Int) ≤ x33))) S trivial (by decide) (q_geq rfl rfl) (fun a S => ?_)
  refine lx_q (.bool (decide ((0 : Int) ≤ x33))) S trivial (by decide) (q_assign rfl) (fun a S => ?_)
  refine lx_nil ?_
  refine thenN ?_
  refine wp_ret ?_
  obtain rfl := Option.some.inj hm
  exact leave1 S rfl rfl ⟨rfl, H⟩

/-- impl.IsConsistent -/
def impl_IsConsistent_m (fuel : Nat) (a0 : (List Timpl_Equation)) (a1 : (List Bool)) : Option (Bool) :=
  (impl_ValidEquations_m fuel a0).bind fun x36 => (if (!x36) = true then some true else some ((a1.length : Int) != (a0.length : Int))).bind fun t39 => (if t39 = true then some (false) else (iter (fun (s : (Int)) => (match s with | (x79) => (if (decide (x79 < (a0.length : Int))) = true then (idx a0 x79).bind fun x125 => (slices_ContainsFunc__int64_int64_m fuel x125.2.2 (fun (z0 : Int) => impl_IsConsistent_1_m fuel z0 a1 (x125.1, x125.2.1, x125.2.2))).bind fun x146 => (idx a1 x79).bind fun x153 => (if (x153 != (x125.2.1 != x146)) = true then some (.inr (.inr false)) else some (.inl ((W (x79 + (1 : Int)))))) else some (.inr (.inl ()))) : Option (((Int)) ⊕ ((Unit) ⊕ (Bool))))) fuel ((0 : Int))).bind fun res116 => ctl (β := Unit) (ρ := Bool) (τ := Bool) res116 (fun _ => some (true)) (fun q => some (q)))
set_option maxRecDepth 20000 in
theorem impl_IsConsistent_ok {w0 : World} {fuel : Nat} {p0 p1 : Value} {a0 : (List Timpl_Equation)} {a1 : (List Bool)} {r : Bool} (h0 : Rd (rList Rimpl_Equation) w0 p0 a0) (h1 : Rd (rList rBool) w0 p1 a1) (hm : impl_IsConsistent_m fuel a0 a1 = some r) :
    Calls Try.prog 22 #[p0, p1] w0 fun e w => e = .returned (.bool r) ∧ Heap w0 [] w := by
  unfold impl_IsConsistent_m at hm
  have H := Heap.start w0
  refine enter (args := [p0, p1]) Try.func22 rfl 39 rfl (Nat.le_of_ble_eq_true rfl) (fun a S => ?_)
  refine wp_seq ?_
  refine region_plain ?_
  refine lx_box S trivial (by decide) rfl H rfl (cells_sl (h1).isSl) (fun b31 w32 H => ⟨trivial, fun a S => ?_⟩)
  refine lx_q (.bool false) S trivial (by decide) (q_assign rfl) (fun a S => ?_)
  refine lx_nil ?_
  refine thenN ?_
  refine wp_seq ?_
  refine wp_seq ?_
  refine region_plain ?_
  refine lx_q p0 S trivial (by decide) (q_move rfl) (fun a S => ?_)
  obtain ⟨x36, e37, hm⟩ := bind_some hm
  refine lx_call (xs := [.tmp 8]) S trivial (by decide) rfl rfl Try.call12 ((impl_ValidEquations_ok (H.arg h0) e37).mono ?_)
  rintro e w34 ⟨rfl, Hc35⟩
  have he38 := Hc35.ext
  have H := H.call0 Hc35
  refine ⟨_, rfl, trivial, fun a S => ?_⟩
  refine lx_q (.bool (!x36)) S trivial (by decide) (q_not rfl) (fun a S => ?_)
  refine lx_q (.bool (!x36)) S trivial (by decide) (q_move rfl) (fun a S => ?_)
  obtain ⟨t39, e40, hm⟩ := bind_some hm
  refine lx_cut 6 (fun a w => Slots a 39 [(0, p0), (3, (bp b31)), (17, (.bool t39))] ∧ Heap w0 [bA b31 [p1] 35] w) ?_ ?_
  · by_cases hc41 : (!x36) = true
    · have hm := ite_t hc41 e40
      refine lx_skip S rfl rfl (isB_ne hc41) (by decide) (fun a S => ?_)
      refine lx_skip S rfl rfl (isB_ne hc41) (by decide) (fun a S => ?_)
      refine lx_skip S rfl rfl (isB_ne hc41) (by decide) (fun a S => ?_)
      refine lx_skip S rfl rfl (isB_ne hc41) (by decide) (fun a S => ?_)
      refine lx_skip S rfl rfl (isB_ne hc41) (by decide) (fun a S => ?_)
      refine lx_q (.bool true) S trivial (by decide) (q_pickT' rfl hc41 rfl) (fun a S => ?_)
      refine lx_nil ?_
      obtain rfl := Option.some.inj hm
      exact ⟨S.sub ⟨rfl, rfl, rfl, trivial⟩, H⟩
    · have hm := ite_f (eq_false_of_ne_true hc41) e40
      have hc41 : (!x36) = false := eq_false_of_ne_true hc41
      refine lx_e p1 S (want_b rfl rfl hc41) (by decide) rfl trivial (q_load1 rfl Try.isAgg35 (by rintro _ rfl; exact (boxAt (i := 0) H rfl (j := 0) rfl))) (fun a S => ?_)
      refine lx_q (.int .i64 (a1.length : Int)) S (want_b rfl rfl hc41) (by decide) (q_lenSl rfl (h1).isSl rfl Try.underlying35) (fun a S => ?_)
      refine lx_q p0 S (want_b rfl rfl hc41) (by decide) (q_move rfl) (fun a S => ?_)
      refine lx_q (.int .i64 (a0.length : Int)) S (want_b rfl rfl hc41) (by decide) (q_lenSl rfl (h0).isSl rfl Try.underlying25) (fun a S => ?_)
      refine lx_q (.bool ((a1.length : Int) != (a0.length : Int))) S (want_b rfl rfl hc41) (by decide) (q_neq rfl rfl) (fun a S => ?_)
      refine lx_q (.bool ((a1.length : Int) != (a0.length : Int))) S trivial (by decide) (q_pickF' rfl hc41 rfl) (fun a S => ?_)
      refine lx_nil ?_
      obtain rfl := Option.some.inj hm
      exact ⟨S.sub ⟨rfl, rfl, rfl, trivial⟩, H⟩
  · rintro a w ⟨S, H⟩
    refine lx_nil ?_
    refine thenN ?_
    refine cond_b S rfl (fun hc42 => ?_) (fun hc42 => ?_)
    · have hm := ite_t hc42 hm
      refine wp_seq ?_
      refine region_plain ?_
      refine lx_q (.bool false) S trivial (by decide) (q_assign rfl) (fun a S => ?_)
      refine lx_nil ?_
      refine thenN ?_
      refine wp_ret ?_
      refine then_ret ?_
      obtain rfl := Option.some.inj hm
      have H : Heap w0 [] w := H.sel [] (by decide)
      exact leave1 S rfl rfl ⟨rfl, H⟩
    · have hm := ite_f hc42 hm
      refine wp_skip ?_
      refine thenN ?_
      refine wp_seq ?_
      refine wp_seq ?_
      refine region_plain ?_
      refine lx_q p0 S trivial (by decide) (q_move rfl) (fun a S => ?_)
      refine lx_q (.int .i64 (a0.length : Int)) S trivial (by decide) (q_lenSl rfl (h0).isSl rfl Try.underlying25) (fun a S => ?_)
      refine lx_q (.int .i64 (0 : Int)) S trivial (by decide) (q_move rfl) (fun a S => ?_)
      refine lx_nil ?_
      refine thenN ?_
      obtain ⟨res116, hit117, hk120⟩ := bind_some hm
      obtain ⟨f118, hf119, hit117⟩ := iter_name hit117
      refine block_loop (fun a w => Slots a 39 [] ∧ Heap w0 [] w ∧ res116 = .inl ()) ?_ ?_
      · rintro a w ⟨S, H, rfl⟩
        have hm := ctl_inl hk120
        refine thenN ?_
        refine wp_seq ?_
        refine region_plain ?_
        refine lx_q (.bool true) S trivial (by decide) (q_assign rfl) (fun a S => ?_)
        refine lx_nil ?_
        refine thenN ?_
        refine wp_ret ?_
        obtain rfl := Option.some.inj hm
        exact leave1 S rfl rfl ⟨rfl, H⟩
      · skip
        refine loop_ghost (fun n a w => ∃ (x79 : Int), Slots a 39 [(3, (bp b31)), (18, p0), (19, (.int .i64 (a0.length : Int))), (20, (.int .i64 x79))] ∧ Heap w0 [bA b31 [p1] 35] w ∧ iter f118 n (x79) = some res116) _ ⟨(0 : Int), S.sub ⟨rfl, rfl, rfl, rfl, trivial⟩, H, hit117⟩ ?_
        rintro n a w ⟨x79, S, H, hit117⟩
        obtain ⟨m121, o122, rfl, hm, hc123⟩ := iter_step hit117
        rw [hf119] at hm
        refine wp_seq ?_
        refine region_plain ?_
        refine lx_q (.bool (decide (x79 < (a0.length : Int)))) S trivial (by decide) (q_lss rfl rfl) (fun a S => ?_)
        refine lx_nil ?_
        refine thenN ?_
        refine wp_seq ?_
        refine cond_b S rfl (fun hc124 => ?_) (fun hc124 => ?_)
        · have hm := ite_t hc124 hm
          refine wp_skip ?_
          refine thenN ?_
          refine wp_seq ?_
          refine wp_block ?_
          refine wp_seq ?_
          refine region_plain ?_
          refine lx_q (.int .i64 x79) S trivial (by decide) (q_move rfl) (fun a S => ?_)
          obtain ⟨x125, e126, hm⟩ := bind_some hm
          obtain ⟨c127, h128, hat129⟩ := (h0).elem (idx_some e126).2
          obtain ⟨c132, c133, rfl, h134, h135⟩ := h128
          obtain rfl := h134
          obtain ⟨c136, c137, rfl, h138, h139⟩ := h135
          obtain rfl := h138
          obtain ⟨v130, rfl, h131⟩ := rd_list h139
          have hlt := lt_of_idx (idx_some e126).2
          refine lx_q (ePtr p0 (x79.toNat * 3)) S trivial (by decide) (q_indexAddr rfl (h0).isSl rfl (idx_some e126).1 hlt Try.underlying25 Try.sizeOf58) (fun a S => ?_)
          refine lx_e (.agg #[(.bool x125.1), (.bool x125.2.1), v130]) S trivial (by decide) rfl trivial (q_loadA (cs := [(.bool x125.1), (.bool x125.2.1), v130]) rfl ((hat129 0 _ rfl).isP) Try.isAgg58 Try.sizeOf58 (by rintro _ rfl; exact (fun j u hu => (hat129 j u hu).ext H.ext))) (fun a S => ?_)
          refine lx_alloc S trivial (by decide) rfl H Try.zeroValue58 rfl (fun b140 w141 H => ⟨trivial, fun a S => ?_⟩)
          refine lx_q (.int .i64 x79) S trivial (by decide) (q_assign rfl) (fun a S => ?_)
          refine lx_storeBox (o := 0) (i := 0) (us := [(.bool x125.1), (.bool x125.2.1), v130]) (cs' := [(.bool x125.1), (.bool x125.2.1), v130]) S trivial rfl H rfl rfl rfl rfl Try.sizeOf58 (Nat.le_of_ble_eq_true rfl) (List.forall_mem_cons.2 ⟨rfl, (List.forall_mem_cons.2 ⟨rfl, (List.forall_mem_cons.2 ⟨one_sl (h131).isSl, (fun _ h => nomatch h)⟩)⟩)⟩) rfl (fun w143 H => ⟨trivial, fun a S => ?_⟩)
          change Heap w0 [bA b140 [(.bool x125.1), (.bool x125.2.1), v130] 58, bA b31 [p1] 35] w143 at H
          refine lx_nil ?_
          refine thenN ?_
          refine wp_seq ?_
          refine region_plain ?_
          refine lx_q (pAdd (bp b140) 2) S trivial (by decide) (q_fieldAddr' 2 29 rfl (isP_bp _) Try.underlying58 rfl Try.sizeOf29) (fun a S => ?_)
          refine lx_e v130 S trivial (by decide) rfl trivial (q_load1 rfl Try.isAgg29 (by rintro _ rfl; exact (At.of_add (m := 2) (j := 0) (boxAt (i := 0) H rfl (j := 2) rfl)))) (fun a S => ?_)
          refine lx_q (.func (.func 50) #[] #[(bp b31), (bp b140)]) S trivial (by decide) (q_makeFunc (xs := []) (ys := [.tmp 3, .tmp 6]) rfl rfl) (fun a S => ?_)
          obtain ⟨x146, e147, hm⟩ := bind_some hm
          have hcap148 : Rd (rPtr (rList rBool)) w143 (bp b31) a1 := (rdPtr_box H 1 rfl ((H.arg h1)).list_rd)
          have hcap149 : Rd (rPtr Rimpl_Equation) w143 (bp b140) (x125.1, x125.2.1, x125.2.2) := (rdPtr_box H 0 rfl ⟨[(.bool x125.1)], [(.bool x125.2.1), v130], rfl, rfl, ⟨[(.bool x125.2.1)], [v130], rfl, rfl, ((H.arg h131)).list_rd⟩⟩)
          refine lx_call (xs := [.tmp 26, .tmp 27]) S trivial (by decide) rfl rfl Try.call49 ((slices_ContainsFunc__int64_int64_ok (f1 := 50) (fs1 := ([] : List Value)) (cp1 := ([(bp b31), (bp b140)] : List Value)) (a1 := (fun (z0 : Int) => impl_IsConsistent_1_m fuel z0 a1 (x125.1, x125.2.1, x125.2.2))) (H.arg h131) Try.call50 (fun he  hm => impl_IsConsistent_1_ok  (hcap148.ext he) (hcap149.ext he) hm) e147).mono ?_)
          rintro e w144 ⟨rfl, Hc145⟩
          have he150 := Hc145.ext
          have H := H.call0 Hc145
          refine ⟨_, rfl, trivial, fun a S => ?_⟩
          refine lx_q (.bool x146) S trivial (by decide) (q_assign rfl) (fun a S => ?_)
          refine lx_nil ?_
          refine thenN ?_
          refine wp_seq ?_
          refine region_drawG (fun w1 => Heap w0 [bA b140 [(.bool x125.1), (.bool x125.2.1), v130] 58, bA b31 [p1] 35] w1) (fun i => [].contains i) mixed (by kernel_rfl) (fun w152 he151 => ?_)
          have H := H.later he151
          refine ⟨H.sel [0, 1] (by decide), ?_⟩
          refine lx_q p1 S trivial (by decide) (q_load1 rfl Try.isAgg35 (fun w1 hC => (boxAt (i := 1) hC rfl (j := 0) rfl))) (fun a S => ?_)
          refine lx_q (.int .i64 x79) S trivial (by decide) (q_move rfl) (fun a S => ?_)
          obtain ⟨x153, e154, hm⟩ := bind_some hm
          obtain ⟨c155, h156, hat157⟩ := (h1).elem (idx_some e154).2
          obtain rfl := h156
          have hlt := lt_of_idx (idx_some e154).2
          refine lx_q (ePtr p1 (x79.toNat * 1)) S trivial (by decide) (q_indexAddr rfl (h1).isSl rfl (idx_some e154).1 hlt Try.underlying35 Try.sizeOf4) (fun a S => ?_)
          refine lx_q (.bool x153) S trivial (by decide) (q_load1 rfl Try.isAgg4 (fun w1 hC => ((hat157 0 _ rfl).ext hC.ext))) (fun a S => ?_)
          refine lx_q (pAdd (bp b140) 1) S trivial (by decide) (q_fieldAddr' 1 4 rfl (isP_bp _) Try.underlying58 rfl Try.sizeOf4) (fun a S => ?_)
          refine lx_q (.bool x125.2.1) S trivial (by decide) (q_load1 rfl Try.isAgg4 (fun w1 hC => (At.of_add (m := 1) (j := 0) (boxAt (i := 0) hC rfl (j := 1) rfl)))) (fun a S => ?_)
          refine lx_q (.bool x146) S trivial (by decide) (q_move rfl) (fun a S => ?_)
          refine lx_q (.bool (x125.2.1 != x146)) S trivial (by decide) (q_bneq rfl rfl Try.underlying4) (fun a S => ?_)
          refine lx_q (.bool (x153 != (x125.2.1 != x146))) S trivial (by decide) (q_bneq rfl rfl Try.underlying4) (fun a S => ?_)
          refine lx_nil ?_
          refine thenN ?_
          refine cond_b S rfl (fun hc158 => ?_) (fun hc158 => ?_)
          · have hm := ite_t hc158 hm
            refine wp_seq ?_
            refine region_plain ?_
            refine lx_q (.bool false) S trivial (by decide) (q_assign rfl) (fun a S => ?_)
            refine lx_nil ?_
            refine thenN ?_
            refine wp_ret ?_
            refine inBlock_ret ?_
            refine then_ret ?_
            refine then_ret ?_
            refine inBlock_ret ?_
            refine then_ret ?_
            refine then_ret ?_
            obtain rfl := it_brk hm hc123
            have hm := ctl_inr hk120
            obtain rfl := Option.some.inj hm
            have H : Heap w0 [] w152 := H.sel [] (by decide)
            exact leave1 S rfl rfl ⟨rfl, H⟩
          · have hm := ite_f hc158 hm
            refine wp_skip ?_
            refine inBlock_norm ?_
            refine thenN ?_
            refine region_plain ?_
            refine lx_q (.int .i64 (W (x79 + (1 : Int)))) S trivial (by decide) (q_add rfl rfl) (fun a S => ?_)
            refine lx_q (.int .i64 (W (x79 + (1 : Int)))) S trivial (by decide) (q_move rfl) (fun a S => ?_)
            refine lx_nil ?_
            have H : Heap w0 [bA b31 [p1] 35] w152 := H.sel [1] (by decide)
            exact ⟨m121, Nat.lt_succ_self _, (W (x79 + (1 : Int))), S.sub ⟨rfl, rfl, rfl, rfl, trivial⟩, H, it_cont hm hc123⟩
        · have hm := ite_f hc124 hm
          refine wp_exit ?_
          refine then_exit ?_
          refine then_exit ?_
          refine inBlock_exit ?_
          obtain rfl := it_brk hm hc123
          have H : Heap w0 [] w := H.sel [] (by decide)
          exact ⟨S.sub trivial, H, rfl⟩

/-- laws.eqBoolS -/
def laws_eqBoolS_m (fuel : Nat) (a0 : (List Bool)) (a1 : (List Bool)) : Option (Bool) :=
  (if ((a0.length : Int) != (a1.length : Int)) = true then some (false) else (iter (fun (s : (Int)) => (match s with | (x47) => (if (decide (x47 < (a0.length : Int))) = true then (idx a0 x47).bind fun x74 => (idx a1 x47).bind fun x79 => (if (x74 != x79) = true then some (.inr (.inr false)) else some (.inl ((W (x47 + (1 : Int)))))) else some (.inr (.inl ()))) : Option (((Int)) ⊕ ((Unit) ⊕ (Bool))))) fuel ((0 : Int))).bind fun res63 => ctl (β := Unit) (ρ := Bool) (τ := Bool) res63 (fun _ => some (true)) (fun q => some (q)))
set_option maxRecDepth 20000 in
theorem laws_eqBoolS_ok {w0 : World} {fuel : Nat} {p0 p1 : Value} {a0 : (List Bool)} {a1 : (List Bool)} {r : Bool} (h0 : Rd (rList rBool) w0 p0 a0) (h1 : Rd (rList rBool) w0 p1 a1) (hm : laws_eqBoolS_m fuel a0 a1 = some r) :
    Calls Try.prog 23 #[p0, p1] w0 fun e w => e = .returned (.bool r) ∧ Heap w0 [] w := by
  unfold laws_eqBoolS_m at hm
  have H := Heap.start w0
  refine enter (args := [p0, p1]) Try.func23 rfl 26 rfl (Nat.le_of_ble_eq_true rfl) (fun a S => ?_)
  refine wp_seq ?_
  refine region_plain ?_
  refine lx_q (.bool false) S trivial (by decide) (q_assign rfl) (fun a S => ?_)
  refine lx_nil ?_
  refine thenN ?_
  refine wp_seq ?_
  refine wp_seq ?_
  refine region_plain ?_
  refine lx_q p0 S trivial (by decide) (q_move rfl) (fun a S => ?_)
  refine lx_q (.int .i64 (a0.length : Int)) S trivial (by decide) (q_lenSl rfl (h0).isSl rfl Try.underlying35) (fun a S => ?_)
  refine lx_q p1 S trivial (by decide) (q_move rfl) (fun a S => ?_)
  refine lx_q (.int .i64 (a1.length : Int)) S trivial (by decide) (q_lenSl rfl (h1).isSl rfl Try.underlying35) (fun a S => ?_)
  refine lx_q (.bool ((a0.length : Int) != (a1.length : Int))) S trivial (by decide) (q_neq rfl rfl) (fun a S => ?_)
  refine lx_nil ?_
  refine thenN ?_
  refine cond_b S rfl (fun hc31 => ?_) (fun hc31 => ?_)
  · have hm := ite_t hc31 hm
    refine wp_seq ?_
    refine region_plain ?_
    refine lx_q (.bool false) S trivial (by decide) (q_assign rfl) (fun a S => ?_)
    refine lx_nil ?_
    refine thenN ?_
    refine wp_ret ?_
    refine then_ret ?_
    obtain rfl := Option.some.inj hm
    exact leave1 S rfl rfl ⟨rfl, H⟩
  · have hm := ite_f hc31 hm
    refine wp_skip ?_
    refine thenN ?_
    refine wp_seq ?_
    refine wp_seq ?_
    refine region_plain ?_
    refine lx_q (.int .i64 (0 : Int)) S trivial (by decide) (q_assign rfl) (fun a S => ?_)
    refine lx_nil ?_
    refine thenN ?_
    obtain ⟨res63, hit64, hk67⟩ := bind_some hm
    obtain ⟨f65, hf66, hit64⟩ := iter_name hit64
    refine block_loop (fun a w => Slots a 26 [] ∧ Heap w0 [] w ∧ res63 = .inl ()) ?_ ?_
    · rintro a w ⟨S, H, rfl⟩
      have hm := ctl_inl hk67
      refine thenN ?_
      refine wp_seq ?_
      refine region_plain ?_
      refine lx_q (.bool true) S trivial (by decide) (q_assign rfl) (fun a S => ?_)
      refine lx_nil ?_
      refine thenN ?_
      refine wp_ret ?_
      obtain rfl := Option.some.inj hm
      exact leave1 S rfl rfl ⟨rfl, H⟩
    · skip
      refine loop_ghost (fun n a w => ∃ (x47 : Int), Slots a 26 [(0, p0), (1, p1), (5, (.int .i64 x47))] ∧ Heap w0 [] w ∧ iter f65 n (x47) = some res63) _ ⟨(0 : Int), S.sub ⟨rfl, rfl, rfl, trivial⟩, H, hit64⟩ ?_
      rintro n a w ⟨x47, S, H, hit64⟩
      obtain ⟨m68, o69, rfl, hm, hc70⟩ := iter_step hit64
      rw [hf66] at hm
      refine wp_seq ?_
      refine wp_seq ?_
      refine region_plain ?_
      refine lx_q (.int .i64 x47) S trivial (by decide) (q_move rfl) (fun a S => ?_)
      refine lx_q p0 S trivial (by decide) (q_move rfl) (fun a S => ?_)
      refine lx_q (.int .i64 (a0.length : Int)) S trivial (by decide) (q_lenSl rfl (h0).isSl rfl Try.underlying35) (fun a S => ?_)
      refine lx_q (.bool (decide (x47 < (a0.length : Int)))) S trivial (by decide) (q_lss rfl rfl) (fun a S => ?_)
      refine lx_nil ?_
      refine thenN ?_
      refine cond_b S rfl (fun hc71 => ?_) (fun hc71 => ?_)
      · have hm := ite_t hc71 hm
        refine wp_skip ?_
        refine thenN ?_
        refine wp_seq ?_
        refine wp_block ?_
        refine wp_seq ?_
        refine region_drawG (fun w1 => Heap w0 [] w1) (fun i => [].contains i) mixed (by kernel_rfl) (fun w73 he72 => ?_)
        have H := H.later he72
        refine ⟨H.sel [] (by decide), ?_⟩
        refine lx_q p0 S trivial (by decide) (q_move rfl) (fun a S => ?_)
        refine lx_q (.int .i64 x47) S trivial (by decide) (q_move rfl) (fun a S => ?_)
        obtain ⟨x74, e75, hm⟩ := bind_some hm
        obtain ⟨c76, h77, hat78⟩ := (h0).elem (idx_some e75).2
        obtain rfl := h77
        have hlt := lt_of_idx (idx_some e75).2
        refine lx_q (ePtr p0 (x47.toNat * 1)) S trivial (by decide) (q_indexAddr rfl (h0).isSl rfl (idx_some e75).1 hlt Try.underlying35 Try.sizeOf4) (fun a S => ?_)
        refine lx_q (.bool x74) S trivial (by decide) (q_load1 rfl Try.isAgg4 (fun w1 hC => ((hat78 0 _ rfl).ext hC.ext))) (fun a S => ?_)
        refine lx_q p1 S trivial (by decide) (q_move rfl) (fun a S => ?_)
        refine lx_q (.int .i64 x47) S trivial (by decide) (q_move rfl) (fun a S => ?_)
        obtain ⟨x79, e80, hm⟩ := bind_some hm
        obtain ⟨c81, h82, hat83⟩ := (h1).elem (idx_some e80).2
        obtain rfl := h82
        have hlt := lt_of_idx (idx_some e80).2
        refine lx_q (ePtr p1 (x47.toNat * 1)) S trivial (by decide) (q_indexAddr rfl (h1).isSl rfl (idx_some e80).1 hlt Try.underlying35 Try.sizeOf4) (fun a S => ?_)
        refine lx_q (.bool x79) S trivial (by decide) (q_load1 rfl Try.isAgg4 (fun w1 hC => ((hat83 0 _ rfl).ext hC.ext))) (fun a S => ?_)
        refine lx_q (.bool (x74 != x79)) S trivial (by decide) (q_bneq rfl rfl Try.underlying4) (fun a S => ?_)
        refine lx_nil ?_
        refine thenN ?_
        refine cond_b S rfl (fun hc84 => ?_) (fun hc84 => ?_)
        · have hm := ite_t hc84 hm
          refine wp_seq ?_
          refine region_plain ?_
          refine lx_q (.bool false) S trivial (by decide) (q_assign rfl) (fun a S => ?_)
          refine lx_nil ?_
          refine thenN ?_
          refine wp_ret ?_
          refine inBlock_ret ?_
          refine then_ret ?_
          refine then_ret ?_
          refine inBlock_ret ?_
          refine then_ret ?_
          refine then_ret ?_
          obtain rfl := it_brk hm hc70
          have hm := ctl_inr hk67
          obtain rfl := Option.some.inj hm
          exact leave1 S rfl rfl ⟨rfl, H⟩
        · have hm := ite_f hc84 hm
          refine wp_skip ?_
          refine inBlock_norm ?_
          refine thenN ?_
          refine region_plain ?_
          refine lx_q (.int .i64 x47) S trivial (by decide) (q_move rfl) (fun a S => ?_)
          refine lx_q (.int .i64 (W (x47 + (1 : Int)))) S trivial (by decide) (q_add rfl rfl) (fun a S => ?_)
          refine lx_q (.int .i64 (W (x47 + (1 : Int)))) S trivial (by decide) (q_assign rfl) (fun a S => ?_)
          refine lx_nil ?_
          exact ⟨m68, Nat.lt_succ_self _, (W (x47 + (1 : Int))), S.sub ⟨rfl, rfl, rfl, trivial⟩, H, it_cont hm hc70⟩
      · have hm := ite_f hc71 hm
        refine wp_exit ?_
        refine then_exit ?_
        refine then_exit ?_
        refine inBlock_exit ?_
        obtain rfl := it_brk hm hc70
        exact ⟨S.sub trivial, H, rfl⟩

/-- laws.FnExactIsConsistent -/
def laws_FnExactIsConsistent_m (fuel : Nat) (a0 : (List Tlaws_Equation)) (a1 : (List Bool)) : Option (Bool) :=
  (if (decide ((1048576 : Int) < (a1.length : Int))) = true then some (true) else (laws_szEquationS_m fuel a0 (1048576 : Int)).bind fun x34 => (if (decide (x34 < (0 : Int))) = true then some (true) else (laws_toEquationS_m fuel a0).bind fun x40 => (laws_toBoolS_m fuel a1).bind fun x47 => (spec_IsConsistent_m fuel x40 x47).bind fun x54 => (laws_toEquationS_m fuel a0).bind fun x59 => (laws_toBoolS_m fuel a1).bind fun x66 => (impl_IsConsistent_m fuel x59 x66).bind fun x73 => (if (x73 != x54) = true then some (false) else (laws_toEquationS_m fuel a0).bind fun x79 => (laws_eqEquationS_m fuel x59 x79).bind fun x86 => (if (!x86) = true then some (false) else (laws_toBoolS_m fuel a1).bind fun x92 => (laws_eqBoolS_m fuel x66 x92).bind fun x99 => (if (!x99) = true then some (false) else some (true))))))
set_option maxRecDepth 20000 in
theorem laws_FnExactIsConsistent_ok {w0 : World} {fuel : Nat} {p0 p1 : Value} {a0 : (List Tlaws_Equation)} {a1 : (List Bool)} {r : Bool} (h0 : Rd (rList Rlaws_Equation) w0 p0 a0) (h1 : Rd (rList rBool) w0 p1 a1) (hm : laws_FnExactIsConsistent_m fuel a0 a1 = some r) :
    Calls Try.prog 5 #[p0, p1] w0 fun e w => e = .returned (.bool r) ∧ Heap w0 [] w := by
  unfold laws_FnExactIsConsistent_m at hm
  have H := Heap.start w0
  refine enter (args := [p0, p1]) Try.func5 rfl 43 rfl (Nat.le_of_ble_eq_true rfl) (fun a S => ?_)
  refine wp_seq ?_
  refine region_plain ?_
  refine lx_q (.bool false) S trivial (by decide) (q_assign rfl) (fun a S => ?_)
  refine lx_nil ?_
  refine thenN ?_
  refine wp_seq ?_
  refine wp_seq ?_
  refine region_plain ?_
  refine lx_q p1 S trivial (by decide) (q_move rfl) (fun a S => ?_)
  refine lx_q (.int .i64 (a1.length : Int)) S trivial (by decide) (q_lenSl rfl (h1).isSl rfl Try.underlying35) (fun a S => ?_)
  refine lx_q (.bool (decide ((1048576 : Int) < (a1.length : Int)))) S trivial (by decide) (q_gtr rfl rfl) (fun a S => ?_)
  refine lx_nil ?_
  refine thenN ?_
  refine cond_b S rfl (fun hc31 => ?_) (fun hc31 => ?_)
  · have hm := ite_t hc31 hm
    refine wp_seq ?_
    refine region_plain ?_
    refine lx_q (.bool true) S trivial (by decide) (q_assign rfl) (fun a S => ?_)
    refine lx_nil ?_
    refine thenN ?_
    refine wp_ret ?_
    refine then_ret ?_
    obtain rfl := Option.some.inj hm
    exact leave1 S rfl rfl ⟨rfl, H⟩
  · have hm := ite_f hc31 hm
    refine wp_skip ?_
    refine thenN ?_
    refine wp_seq ?_
    refine region_plain ?_
    refine lx_q (.int .i64 (1048576 : Int)) S trivial (by decide) (q_assign rfl) (fun a S => ?_)
    refine lx_nil ?_
    refine thenN ?_
    refine wp_seq ?_
    refine region_plain ?_
    refine lx_q p0 S trivial (by decide) (q_move rfl) (fun a S => ?_)
    refine lx_q (.int .i64 (1048576 : Int)) S trivial (by decide) (q_move rfl) (fun a S => ?_)
    obtain ⟨x34, e35, hm⟩ := bind_some hm
    refine lx_call (xs := [.tmp 13, .tmp 14]) S trivial (by decide) rfl rfl Try.call9 ((laws_szEquationS_ok (H.arg h0)  e35).mono ?_)
    rintro e w32 ⟨rfl, Hc33⟩
    have he36 := Hc33.ext
    have H := H.call0 Hc33
    refine ⟨_, rfl, trivial, fun a S => ?_⟩
    refine lx_q (.int .i64 x34) S trivial (by decide) (q_assign rfl) (fun a S => ?_)
    refine lx_nil ?_
    refine thenN ?_
    refine wp_seq ?_
    refine wp_seq ?_
    refine region_plain ?_
    refine lx_q (.int .i64 x34) S trivial (by decide) (q_move rfl) (fun a S => ?_)
    refine lx_q (.bool (decide (x34 < (0 : Int)))) S trivial (by decide) (q_lss rfl rfl) (fun a S => ?_)
    refine lx_nil ?_
    refine thenN ?_
    refine cond_b S rfl (fun hc37 => ?_) (fun hc37 => ?_)
    · have hm := ite_t hc37 hm
      refine wp_seq ?_
      refine region_plain ?_
      refine lx_q (.bool true) S trivial (by decide) (q_assign rfl) (fun a S => ?_)
      refine lx_nil ?_
      refine thenN ?_
      refine wp_ret ?_
      refine then_ret ?_
      obtain rfl := Option.some.inj hm
      exact leave1 S rfl rfl ⟨rfl, H⟩
    · have hm := ite_f hc37 hm
      refine wp_skip ?_
      refine thenN ?_
      refine wp_seq ?_
      refine region_plain ?_
      refine lx_q p0 S trivial (by decide) (q_move rfl) (fun a S => ?_)
      obtain ⟨x40, e41, hm⟩ := bind_some hm
      refine lx_call (xs := [.tmp 18]) S trivial (by decide) rfl rfl Try.call11 ((laws_toEquationS_ok (H.arg h0) e41).mono ?_)
      rintro e w38 ⟨v42, rfl, Hc39⟩
      have he44 := Hc39.ext
      have H := H.call1 Hc39
      refine ⟨_, rfl, trivial, fun a S => ?_⟩
      refine lx_q p1 S trivial (by decide) (q_move rfl) (fun a S => ?_)
      obtain ⟨x47, e48, hm⟩ := bind_some hm
      refine lx_call (xs := [.tmp 20]) S trivial (by decide) rfl rfl Try.call21 ((laws_toBoolS_ok (H.arg h1) e48).mono ?_)
      rintro e w45 ⟨v49, rfl, Hc46⟩
      have he51 := Hc46.ext
      have H := H.call1 Hc46
      refine ⟨_, rfl, trivial, fun a S => ?_⟩
      obtain ⟨x54, e55, hm⟩ := bind_some hm
      refine lx_call (xs := [.tmp 19, .tmp 21]) S trivial (by decide) rfl rfl Try.call20 ((spec_IsConsistent_ok (H.rdAt 1 rfl) (H.rdAt 0 rfl) e55).mono ?_)
      rintro e w52 ⟨rfl, Hc53⟩
      have he56 := Hc53.ext
      have H := H.call0 Hc53
      refine ⟨_, rfl, trivial, fun a S => ?_⟩
      refine lx_q (.bool x54) S trivial (by decide) (q_assign rfl) (fun a S => ?_)
      refine lx_nil ?_
      refine thenN ?_
      refine wp_seq ?_
      refine region_plain ?_
      refine lx_q p0 S trivial (by decide) (q_move rfl) (fun a S => ?_)
      obtain ⟨x59, e60, hm⟩ := bind_some hm
      refine lx_call (xs := [.tmp 23]) S trivial (by decide) rfl rfl Try.call11 ((laws_toEquationS_ok (H.arg h0) e60).mono ?_)
      rintro e w57 ⟨v61, rfl, Hc58⟩
      have he63 := Hc58.ext
      have H := H.call1 Hc58
      refine ⟨_, rfl, trivial, fun a S => ?_⟩
      refine lx_q v61 S trivial (by decide) (q_assign rfl) (fun a S => ?_)
      refine lx_nil ?_
      refine thenN ?_
      refine wp_seq ?_
      refine region_plain ?_
      refine lx_q p1 S trivial (by decide) (q_move rfl) (fun a S => ?_)
      obtain ⟨x66, e67, hm⟩ := bind_some hm
      refine lx_call (xs := [.tmp 25]) S trivial (by decide) rfl rfl Try.call21 ((laws_toBoolS_ok (H.arg h1) e67).mono ?_)
      rintro e w64 ⟨v68, rfl, Hc65⟩
      have he70 := Hc65.ext
      have H := H.call1 Hc65
      refine ⟨_, rfl, trivial, fun a S => ?_⟩
      refine lx_q v68 S trivial (by decide) (q_assign rfl) (fun a S => ?_)
      refine lx_nil ?_
      refine thenN ?_
      refine wp_seq ?_
      refine region_plain ?_
      refine lx_q v61 S trivial (by decide) (q_move rfl) (fun a S => ?_)
      refine lx_q v68 S trivial (by decide) (q_move rfl) (fun a S => ?_)
      obtain ⟨x73, e74, hm⟩ := bind_some hm
      refine lx_call (xs := [.tmp 27, .tmp 28]) S trivial (by decide) rfl rfl Try.call22 ((impl_IsConsistent_ok (H.rdAt 1 rfl) (H.rdAt 0 rfl) e74).mono ?_)
      rintro e w71 ⟨rfl, Hc72⟩
      have he75 := Hc72.ext
      have H := H.call0 Hc72
      refine ⟨_, rfl, trivial, fun a S => ?_⟩
      refine lx_q (.bool x73) S trivial (by decide) (q_assign rfl) (fun a S => ?_)
      refine lx_nil ?_
      refine thenN ?_
      refine wp_seq ?_
      refine wp_seq ?_
      refine region_plain ?_
      refine lx_q (.bool x73) S trivial (by decide) (q_move rfl) (fun a S => ?_)
      refine lx_q (.bool x54) S trivial (by decide) (q_move rfl) (fun a S => ?_)
      refine lx_q (.bool (x73 != x54)) S trivial (by decide) (q_bneq rfl rfl Try.underlying4) (fun a S => ?_)
      refine lx_nil ?_
      refine thenN ?_
      refine cond_b S rfl (fun hc76 => ?_) (fun hc76 => ?_)
      · have hm := ite_t hc76 hm
        refine wp_seq ?_
        refine region_plain ?_
        refine lx_q (.bool false) S trivial (by decide) (q_assign rfl) (fun a S => ?_)
        refine lx_nil ?_
        refine thenN ?_
        refine wp_ret ?_
        refine then_ret ?_
        obtain rfl := Option.some.inj hm
        have H : Heap w0 [] w71 := H.sel [] (by decide)
        exact leave1 S rfl rfl ⟨rfl, H⟩
      · have hm := ite_f hc76 hm
        refine wp_skip ?_
        refine thenN ?_
        refine wp_seq ?_
        refine wp_seq ?_
        refine region_plain ?_
        refine lx_q v61 S trivial (by decide) (q_move rfl) (fun a S => ?_)
        refine lx_q p0 S trivial (by decide) (q_move rfl) (fun a S => ?_)
        obtain ⟨x79, e80, hm⟩ := bind_some hm
        refine lx_call (xs := [.tmp 34]) S trivial (by decide) rfl rfl Try.call11 ((laws_toEquationS_ok (H.arg h0) e80).mono ?_)
        rintro e w77 ⟨v81, rfl, Hc78⟩
        have he83 := Hc78.ext
        have H := H.call1 Hc78
        refine ⟨_, rfl, trivial, fun a S => ?_⟩
        obtain ⟨x86, e87, hm⟩ := bind_some hm
        refine lx_call (xs := [.tmp 33, .tmp 35]) S trivial (by decide) rfl rfl Try.call13 ((laws_eqEquationS_ok (H.rdAt 2 rfl) (H.rdAt 0 rfl) e87).mono ?_)
        rintro e w84 ⟨rfl, Hc85⟩
        have he88 := Hc85.ext
        have H := H.call0 Hc85
        refine ⟨_, rfl, trivial, fun a S => ?_⟩
        refine lx_q (.bool (!x86)) S trivial (by decide) (q_not rfl) (fun a S => ?_)
        refine lx_nil ?_
        refine thenN ?_
        refine cond_b S rfl (fun hc89 => ?_) (fun hc89 => ?_)
        · have hm := ite_t hc89 hm
          refine wp_seq ?_
          refine region_plain ?_
          refine lx_q (.bool false) S trivial (by decide) (q_assign rfl) (fun a S => ?_)
          refine lx_nil ?_
          refine thenN ?_
          refine wp_ret ?_
          refine then_ret ?_
          obtain rfl := Option.some.inj hm
          have H : Heap w0 [] w84 := H.sel [] (by decide)
          exact leave1 S rfl rfl ⟨rfl, H⟩
        · have hm := ite_f hc89 hm
          refine wp_skip ?_
          refine thenN ?_
          refine wp_seq ?_
          refine wp_seq ?_
          refine region_plain ?_
          refine lx_q v68 S trivial (by decide) (q_move rfl) (fun a S => ?_)
          refine lx_q p1 S trivial (by decide) (q_move rfl) (fun a S => ?_)
          obtain ⟨x92, e93, hm⟩ := bind_some hm
          refine lx_call (xs := [.tmp 39]) S trivial (by decide) rfl rfl Try.call21 ((laws_toBoolS_ok (H.arg h1) e93).mono ?_)
          rintro e w90 ⟨v94, rfl, Hc91⟩
          have he96 := Hc91.ext
          have H := H.call1 Hc91
          refine ⟨_, rfl, trivial, fun a S => ?_⟩
          obtain ⟨x99, e100, hm⟩ := bind_some hm
          refine lx_call (xs := [.tmp 38, .tmp 40]) S trivial (by decide) rfl rfl Try.call23 ((laws_eqBoolS_ok (H.rdAt 2 rfl) (H.rdAt 0 rfl) e100).mono ?_)
          rintro e w97 ⟨rfl, Hc98⟩
          have he101 := Hc98.ext
          have H := H.call0 Hc98
          refine ⟨_, rfl, trivial, fun a S => ?_⟩
          refine lx_q (.bool (!x99)) S trivial (by decide) (q_not rfl) (fun a S => ?_)
          refine lx_nil ?_
          refine thenN ?_
          refine cond_b S rfl (fun hc102 => ?_) (fun hc102 => ?_)
          · have hm := ite_t hc102 hm
            refine wp_seq ?_
            refine region_plain ?_
            refine lx_q (.bool false) S trivial (by decide) (q_assign rfl) (fun a S => ?_)
            refine lx_nil ?_
            refine thenN ?_
            refine wp_ret ?_
            refine then_ret ?_
            obtain rfl := Option.some.inj hm
            have H : Heap w0 [] w97 := H.sel [] (by decide)
            exact leave1 S rfl rfl ⟨rfl, H⟩
          · have hm := ite_f hc102 hm
            refine wp_skip ?_
            refine thenN ?_
            refine wp_seq ?_
            refine region_plain ?_
            refine lx_q (.bool true) S trivial (by decide) (q_assign rfl) (fun a S => ?_)
            refine lx_nil ?_
            refine thenN ?_
            refine wp_ret ?_
            obtain rfl := Option.some.inj hm
            have H : Heap w0 [] w97 := H.sel [] (by decide)
            exact leave1 S rfl rfl ⟨rfl, H⟩
end Go.Proofs.Ytlnibadkmdmelaa
