/- The models of some functions and their walks (printed by a program of this repo). -/
import Derived.Test.YtecknjdlbmmmiaaF0
import Derived.Test.YtecknjdlbmmmiaaF3
import Derived.Test.YtecknjdlbmmmiaaF4
import Derived.Test.YtecknjdlbmmmiaaGxT
namespace Go.Proofs.Ytecknjdlbmmmiaa
open Go.RowKit Go.Gx

/-- impl.game -/
def impl_game_m (fuel : Nat) (a0 : (List Timpl_Equation)) : Option ((List Timpl_Vertex)) :=
  (impl_equationBlocks_m fuel a0).bind fun x33 => (iter (fun (s : (List Timpl_Vertex) × (Int)) => (match s with | (xs108, x110) => (if (decide (x110 < (a0.length : Int))) = true then (idx a0 x110).bind fun x192 => (impl_truth_m fuel x192.2.1).bind fun x215 => (idx x33 x110).bind fun x218 => (idx a0 (0 : Int)).bind fun x220 => (impl_truth_m fuel (!x220.1)).bind fun x237 => (slices_Clone__int64_int64_m fuel x192.2.2).bind fun x242 => (app xs108 [(x215, (W (x218 + x237)), x242)]).bind fun x250 => some (.inl (x250, (W (x110 + (1 : Int))))) else some (.inr (.inl (xs108)))) : Option (((List Timpl_Vertex) × (Int)) ⊕ (((List Timpl_Vertex)) ⊕ ((List Timpl_Vertex)))))) fuel ([], (0 : Int))).bind fun res182 => ctl (β := (List Timpl_Vertex)) (ρ := (List Timpl_Vertex)) (τ := (List Timpl_Vertex)) res182 (fun (xs180) => some (xs180)) (fun q => some (q))
set_option maxRecDepth 20000 in
theorem impl_game_ok {w0 : World} {fuel : Nat} {p0 : Value} {a0 : (List Timpl_Equation)} {r : (List Timpl_Vertex)} (h0 : Rd (rList Rimpl_Equation) w0 p0 a0) (hm : impl_game_m fuel a0 = some r) :
    Calls Try.prog 72 #[p0] w0 fun e w => ∃ (v0 : Value), e = .returned (v0) ∧ Heap w0 [oA (rList Rimpl_Vertex) v0 r] w := by
  unfold impl_game_m at hm
  have H := Heap.start w0
  refine enter (args := [p0]) Try.func72 rfl 39 rfl (Nat.le_of_ble_eq_true rfl) (fun a S => ?_)
  refine wp_seq ?_
  refine region_plain ?_
  refine lx_q (.slice none 0 0) S trivial (by decide) (q_assign rfl) (fun a S => ?_)
  refine lx_nil ?_
  refine thenN ?_
  refine wp_seq ?_
  refine region_plain ?_
  refine lx_q p0 S trivial (by decide) (q_move rfl) (fun a S => ?_)
  obtain ⟨x33, e34, hm⟩ := bind_some hm
  refine lx_call (xs := [.tmp 7]) S trivial (by decide) rfl rfl Try.call122 ((impl_equationBlocks_ok (H.arg h0) e34).mono ?_)
  rintro e w31 ⟨v35, rfl, Hc32⟩
  have he37 := Hc32.ext
  have H := H.call1 Hc32
  refine ⟨_, rfl, trivial, fun a S => ?_⟩
  refine lx_q v35 S trivial (by decide) (q_assign rfl) (fun a S => ?_)
  refine lx_nil ?_
  refine thenN ?_
  refine wp_seq ?_
  refine region_plain ?_
  refine lx_q (.slice none 0 0) S trivial (by decide) (q_assign rfl) (fun a S => ?_)
  refine lx_nil ?_
  refine thenN ?_
  refine wp_seq ?_
  refine wp_seq ?_
  refine region_plain ?_
  refine lx_q p0 S trivial (by decide) (q_move rfl) (fun a S => ?_)
  refine lx_q (.int .i64 (a0.length : Int)) S trivial (by decide) (q_lenSl rfl (h0).isSl rfl Try.underlying36) (fun a S => ?_)
  refine lx_q (.int .i64 (0 : Int)) S trivial (by decide) (q_move rfl) (fun a S => ?_)
  refine lx_nil ?_
  refine thenN ?_
  obtain ⟨res182, hit183, hk186⟩ := bind_some hm
  obtain ⟨f184, hf185, hit183⟩ := iter_name hit183
  refine block_loop (fun a w => ∃ (xs180 : List Timpl_Vertex) (v179 : Value), Slots a 39 [(4, v179)] ∧ Heap w0 [oA (rList Rimpl_Vertex) v179 xs180] w ∧ res182 = .inl (xs180)) ?_ ?_
  · rintro a w ⟨xs180, v179, S, H, rfl⟩
    have hm := ctl_inl hk186
    refine thenN ?_
    refine wp_seq ?_
    refine region_plain ?_
    refine lx_q v179 S trivial (by decide) (q_move rfl) (fun a S => ?_)
    refine lx_q v179 S trivial (by decide) (q_assign rfl) (fun a S => ?_)
    refine lx_nil ?_
    refine thenN ?_
    refine wp_ret ?_
    obtain rfl := Option.some.inj hm
    exact leave1 S rfl rfl ⟨v179, rfl, H⟩
  · skip
    have H : Heap w0 [oA (rList Rimpl_Vertex) (.slice none 0 0) ([] : List Timpl_Vertex), oA (rList (rInt .i64)) v35 x33] w31 := H.nilList Rimpl_Vertex
    have H : Heap w0 [oA (rList (rInt .i64)) v35 x33, oA (rList Rimpl_Vertex) (.slice none 0 0) ([] : List Timpl_Vertex)] w31 := H.front 1 rfl
    refine loop_ghost (fun n a w => ∃ (xs108 : List Timpl_Vertex) (x110 : Int) (v107 : Value), Slots a 39 [(0, p0), (3, v35), (4, v107), (9, p0), (10, (.int .i64 (a0.length : Int))), (11, (.int .i64 x110))] ∧ Heap w0 [oA (rList (rInt .i64)) v35 x33, oA (rList Rimpl_Vertex) v107 xs108] w ∧ iter f184 n (xs108, x110) = some res182) _ ⟨[], (0 : Int), (.slice none 0 0), S.sub ⟨rfl, rfl, rfl, rfl, rfl, rfl, trivial⟩, H, hit183⟩ ?_
    rintro n a w ⟨xs108, x110, v107, S, H, hit183⟩
    obtain ⟨m188, o189, rfl, hm, hc190⟩ := iter_step hit183
    rw [hf185] at hm
    refine wp_seq ?_
    refine region_plain ?_
    refine lx_q (.bool (decide (x110 < (a0.length : Int)))) S trivial (by decide) (q_lss rfl rfl) (fun a S => ?_)
    refine lx_nil ?_
    refine thenN ?_
    refine wp_seq ?_
    refine cond_b S rfl (fun hc191 => ?_) (fun hc191 => ?_)
    · have hm := ite_t hc191 hm
      refine wp_skip ?_
      refine thenN ?_
      refine wp_seq ?_
      refine wp_block ?_
      refine wp_seq ?_
      refine region_plain ?_
      refine lx_q (.int .i64 x110) S trivial (by decide) (q_move rfl) (fun a S => ?_)
      obtain ⟨x192, e193, hm⟩ := bind_some hm
      obtain ⟨c194, h195, hat196⟩ := (h0).elem (idx_some e193).2
      obtain ⟨c199, c200, rfl, h201, h202⟩ := h195
      obtain rfl := h201
      obtain ⟨c203, c204, rfl, h205, h206⟩ := h202
      obtain rfl := h205
      obtain ⟨v197, rfl, h198⟩ := rd_list h206
      have hlt := lt_of_idx (idx_some e193).2
      refine lx_q (ePtr p0 (x110.toNat * 3)) S trivial (by decide) (q_indexAddr rfl (h0).isSl rfl (idx_some e193).1 hlt Try.underlying36 Try.sizeOf85) (fun a S => ?_)
      refine lx_e (.agg #[(.bool x192.1), (.bool x192.2.1), v197]) S trivial (by decide) rfl trivial (q_loadA (cs := [(.bool x192.1), (.bool x192.2.1), v197]) rfl ((hat196 0 _ rfl).isP) Try.isAgg85 Try.sizeOf85 (by rintro _ rfl; exact (fun j u hu => (hat196 j u hu).ext H.ext))) (fun a S => ?_)
      refine lx_alloc S trivial (by decide) rfl H Try.zeroValue85 rfl (fun b207 w208 H => ⟨trivial, fun a S => ?_⟩)
      refine lx_q (.int .i64 x110) S trivial (by decide) (q_assign rfl) (fun a S => ?_)
      refine lx_storeBox (o := 0) (i := 0) (us := [(.bool x192.1), (.bool x192.2.1), v197]) (cs' := [(.bool x192.1), (.bool x192.2.1), v197]) S trivial rfl H rfl rfl rfl rfl Try.sizeOf85 (Nat.le_of_ble_eq_true rfl) (List.forall_mem_cons.2 ⟨rfl, (List.forall_mem_cons.2 ⟨rfl, (List.forall_mem_cons.2 ⟨one_sl (h198).isSl, (fun _ h => nomatch h)⟩)⟩)⟩) rfl (fun w210 H => ⟨trivial, fun a S => ?_⟩)
      change Heap w0 [bA b207 [(.bool x192.1), (.bool x192.2.1), v197] 85, oA (rList (rInt .i64)) v35 x33, oA (rList Rimpl_Vertex) v107 xs108] w210 at H
      refine lx_nil ?_
      refine thenN ?_
      refine region_drawG (fun w1 => Heap w0 [bA b207 [(.bool x192.1), (.bool x192.2.1), v197] 85, oA (rList (rInt .i64)) v35 x33] w1) (fun i => [3, 13, 17, 19, 20].contains i) mixed (by kernel_rfl) (fun w212 he211 => ?_)
      have H := H.later he211
      refine ⟨H.sel [0, 1] (by decide), ?_⟩
      refine lx_q v107 S trivial (by decide) (q_move rfl) (fun a S => ?_)
      refine lx_q (pAdd (bp b207) 1) S trivial (by decide) (q_fieldAddr' 1 4 rfl (isP_bp _) Try.underlying85 rfl Try.sizeOf4) (fun a S => ?_)
      refine lx_q (.bool x192.2.1) S trivial (by decide) (q_load1 rfl Try.isAgg4 (fun w1 hC => (At.of_add (m := 1) (j := 0) (boxAt (i := 0) hC rfl (j := 1) rfl)))) (fun a S => ?_)
      obtain ⟨x215, e216, hm⟩ := bind_some hm
      refine lx_call (xs := [.tmp 18]) S trivial (by decide) rfl rfl Try.call75 ((impl_truth_ok  e216).mono ?_)
      rintro e w213 ⟨rfl, Hc214⟩
      have he217 := Hc214.ext
      have H := H.call0 Hc214
      refine ⟨_, rfl, H.sel [0, 1] (by decide), fun a S => ?_⟩
      refine lx_q v35 S trivial (by decide) (q_move rfl) (fun a S => ?_)
      refine lx_q (.int .i64 x110) S trivial (by decide) (q_move rfl) (fun a S => ?_)
      obtain ⟨x218, e219, hm⟩ := bind_some hm
      have hlt := lt_of_idx (idx_some e219).2
      refine lx_q (ePtr v35 (x110.toNat * 1)) S trivial (by decide) (q_indexAddr rfl (H.isSl 1 rfl) rfl (idx_some e219).1 hlt Try.underlying23 Try.sizeOf2) (fun a S => ?_)
      refine lx_q (.int .i64 x218) S trivial (by decide) (q_load1 rfl Try.isAgg2 (fun w1 hC => ((hC.rdAt 1 rfl).elemAt (j := 0) (idx_some e219).2 (by intro B w cs h; obtain rfl := h; rfl)))) (fun a S => ?_)
      refine lx_q p0 S trivial (by decide) (q_move rfl) (fun a S => ?_)
      obtain ⟨x220, e221, hm⟩ := bind_some hm
      obtain ⟨c222, h223, hat224⟩ := (h0).elem (idx_some e221).2
      obtain ⟨c227, c228, rfl, h229, h230⟩ := h223
      obtain rfl := h229
      obtain ⟨c231, c232, rfl, h233, h234⟩ := h230
      obtain rfl := h233
      obtain ⟨v225, rfl, h226⟩ := rd_list h234
      have hlt := lt_of_idx (idx_some e221).2
      refine lx_q (ePtr p0 ((0 : Int).toNat * 3)) S trivial (by decide) (q_indexAddr rfl (h0).isSl rfl (idx_some e221).1 hlt Try.underlying36 Try.sizeOf85) (fun a S => ?_)
      refine lx_q (pAdd (ePtr p0 ((0 : Int).toNat * 3)) 0) S trivial (by decide) (q_fieldAddr' 0 4 rfl ((hat224 0 _ rfl).isP) Try.underlying85 rfl Try.sizeOf4) (fun a S => ?_)
      refine lx_q (.bool x220.1) S trivial (by decide) (q_load1 rfl Try.isAgg4 (fun w1 hC => (At.of_add (m := 0) (j := 0) ((hat224 0 _ rfl).ext hC.ext)))) (fun a S => ?_)
      refine lx_q (.bool (!x220.1)) S trivial (by decide) (q_not rfl) (fun a S => ?_)
      obtain ⟨x237, e238, hm⟩ := bind_some hm
      refine lx_call (xs := [.tmp 28]) S trivial (by decide) rfl rfl Try.call75 ((impl_truth_ok  e238).mono ?_)
      rintro e w235 ⟨rfl, Hc236⟩
      have he239 := Hc236.ext
      have H := H.call0 Hc236
      refine ⟨_, rfl, H.sel [0, 1] (by decide), fun a S => ?_⟩
      refine lx_q (.int .i64 (W (x218 + x237))) S trivial (by decide) (q_add rfl rfl) (fun a S => ?_)
      refine lx_q (pAdd (bp b207) 2) S trivial (by decide) (q_fieldAddr' 2 23 rfl (isP_bp _) Try.underlying85 rfl Try.sizeOf23) (fun a S => ?_)
      refine lx_q v197 S trivial (by decide) (q_load1 rfl Try.isAgg23 (fun w1 hC => (At.of_add (m := 2) (j := 0) (boxAt (i := 0) hC rfl (j := 2) rfl)))) (fun a S => ?_)
      obtain ⟨x242, e243, hm⟩ := bind_some hm
      refine lx_call (xs := [.tmp 32]) S trivial (by decide) rfl rfl Try.call96 ((slices_Clone__int64_int64_ok (H.arg h198) e243).mono ?_)
      rintro e w240 ⟨v244, rfl, Hc241⟩
      have he246 := Hc241.ext
      have H := H.call1 Hc241
      refine ⟨_, rfl, H.sel [1, 2] (by decide), fun a S => ?_⟩
      refine lx_q (.agg #[(.int .i64 x215), (.int .i64 (W (x218 + x237))), v244]) S trivial (by decide) (q_build (zs := [(.int .i64 (0 : Int)), (.int .i64 (0 : Int)), (.slice none 0 0)]) (szs := [1, 1, 1]) (ps := [(0, [(.int .i64 x215)]), (1, [(.int .i64 (W (x218 + x237)))]), (2, [v244])]) (parts := [(0, .tmp 19), (1, .tmp 30), (2, .tmp 33)]) rfl Try.underlying71 Try.zeroValue71 (fun w => by simp [Try.sizeOf2, Try.sizeOf23]) ⟨rfl, rfl, Nat.le_of_ble_eq_true rfl, ⟨rfl, rfl, Nat.le_of_ble_eq_true rfl, ⟨rfl, (cells_sl (H.isSl 0 rfl)), Nat.le_of_ble_eq_true rfl, trivial⟩⟩⟩ rfl) (fun a S => ?_)
      refine lx_buildSlice (r := Rimpl_Vertex) (xs := [(x215, (W (x218 + x237)), x242)]) (ps := [(0, [(.int .i64 x215), (.int .i64 (W (x218 + x237))), v244])]) (cs := [(.int .i64 x215), (.int .i64 (W (x218 + x237))), v244]) (parts := [(0, .tmp 34)]) S trivial (by decide) rfl H rfl Try.underlying26 Try.sizeOf71 Try.zeroValue71 (by decide) ⟨rfl, rfl, Nat.le_of_ble_eq_true rfl, trivial⟩ (by intro zs hz; exact fill_dense hz ⟨rfl, trivial⟩ rfl rfl) rfl (by decide) (fun w F hA => ownL_one_mk (ownF ⟨_, _, [(.int .i64 x215)], [(.int .i64 (W (x218 + x237))), v244], rfl, rfl, ⟨rfl, rfl⟩, ⟨_, _, [(.int .i64 (W (x218 + x237)))], [v244], rfl, rfl, ⟨rfl, rfl⟩, (oA_list.1 hA)⟩⟩)) (fun v247 w248 H => ⟨H.sel [1, 2] (by decide), fun a S => ?_⟩)
      obtain ⟨x250, e251, hm⟩ := bind_some hm
      obtain ⟨hle, hap⟩ := app_some e251
      replace hap := hap.symm
      subst hap
      have H : Heap w0 [oA (rList Rimpl_Vertex) v247 [(x215, (W (x218 + x237)), x242)], bA b207 [(.bool x192.1), (.bool x192.2.1), v197] 85, oA (rList (rInt .i64)) v35 x33, oA (rList Rimpl_Vertex) v107 xs108] w248 := H.front 0 rfl
      have H : Heap w0 [oA (rList Rimpl_Vertex) v107 xs108, oA (rList Rimpl_Vertex) v247 [(x215, (W (x218 + x237)), x242)], bA b207 [(.bool x192.1), (.bool x192.2.1), v197] 85, oA (rList (rInt .i64)) v35 x33] w248 := H.front 3 rfl
      refine lx_appendOwn (r := Rimpl_Vertex) S trivial (by decide) rfl H rfl rfl Try.underlying26 Try.ti71 rfl rfl rfl (by decide) (by decide) hle (fun v252 w253 H => ⟨H.sel [1, 2] (by decide), fun a S => ?_⟩)
      refine lx_q v252 S trivial (by decide) (q_assign rfl) (fun a S => ?_)
      refine lx_nil ?_
      refine inBlock_norm ?_
      refine thenN ?_
      refine region_plain ?_
      refine lx_q (.int .i64 (W (x110 + (1 : Int)))) S trivial (by decide) (q_add rfl rfl) (fun a S => ?_)
      refine lx_q (.int .i64 (W (x110 + (1 : Int)))) S trivial (by decide) (q_move rfl) (fun a S => ?_)
      refine lx_nil ?_
      have H : Heap w0 [oA (rList (rInt .i64)) v35 x33, oA (rList Rimpl_Vertex) v252 (xs108 ++ [(x215, (W (x218 + x237)), x242)]), bA b207 [(.bool x192.1), (.bool x192.2.1), v197] 85] w253 := H.front 2 rfl
      have H : Heap w0 [oA (rList (rInt .i64)) v35 x33, oA (rList Rimpl_Vertex) v252 (xs108 ++ [(x215, (W (x218 + x237)), x242)])] w253 := H.sel [0, 1] (by decide)
      exact ⟨m188, Nat.lt_succ_self _, (xs108 ++ [(x215, (W (x218 + x237)), x242)]), (W (x110 + (1 : Int))), v252, S.sub ⟨rfl, rfl, rfl, rfl, rfl, rfl, trivial⟩, H, it_cont hm hc190⟩
    · have hm := ite_f hc191 hm
      refine wp_exit ?_
      refine then_exit ?_
      refine then_exit ?_
      refine inBlock_exit ?_
      obtain rfl := it_brk hm hc190
      have H : Heap w0 [oA (rList Rimpl_Vertex) v107 xs108] w := H.sel [1] (by decide)
      exact ⟨xs108, v107, S.sub ⟨rfl, trivial⟩, H, rfl⟩

/-- impl.GameOf -/
def impl_GameOf_m (fuel : Nat) (a0 : (List Timpl_Equation)) : Option (((List Timpl_Vertex) × Int)) :=
  (impl_ValidEquations_m fuel a0).bind fun x33 => (if (!x33) = true then some (([], (1 : Int))) else (impl_game_m fuel a0).bind fun x40 => some ((x40, (0 : Int))))
set_option maxRecDepth 20000 in
theorem impl_GameOf_ok {w0 : World} {fuel : Nat} {p0 : Value} {a0 : (List Timpl_Equation)} {r : ((List Timpl_Vertex) × Int)} (h0 : Rd (rList Rimpl_Equation) w0 p0 a0) (hm : impl_GameOf_m fuel a0 = some r) :
    Calls Try.prog 23 #[p0] w0 fun e w => ∃ (v0 : Value), e = .returned (.tuple #[v0, .int .i64 r.2]) ∧ Heap w0 [oA (rList Rimpl_Vertex) v0 r.1] w := by
  unfold impl_GameOf_m at hm
  have H := Heap.start w0
  refine enter (args := [p0]) Try.func23 rfl 9 rfl (Nat.le_of_ble_eq_true rfl) (fun a S => ?_)
  refine wp_seq ?_
  refine region_plain ?_
  refine lx_q (.slice none 0 0) S trivial (by decide) (q_assign rfl) (fun a S => ?_)
  refine lx_q (.int .i64 (0 : Int)) S trivial (by decide) (q_assign rfl) (fun a S => ?_)
  refine lx_nil ?_
  refine thenN ?_
  refine wp_seq ?_
  refine wp_seq ?_
  refine region_plain ?_
  refine lx_q p0 S trivial (by decide) (q_move rfl) (fun a S => ?_)
  obtain ⟨x33, e34, hm⟩ := bind_some hm
  refine lx_call (xs := [.tmp 4]) S trivial (by decide) rfl rfl Try.call71 ((impl_ValidEquations_ok (H.arg h0) e34).mono ?_)
  rintro e w31 ⟨rfl, Hc32⟩
  have he35 := Hc32.ext
  have H := H.call0 Hc32
  refine ⟨_, rfl, trivial, fun a S => ?_⟩
  refine lx_q (.bool (!x33)) S trivial (by decide) (q_not rfl) (fun a S => ?_)
  refine lx_nil ?_
  refine thenN ?_
  refine cond_b S rfl (fun hc36 => ?_) (fun hc36 => ?_)
  · have hm := ite_t hc36 hm
    refine wp_seq ?_
    refine region_plain ?_
    refine lx_q (.slice none 0 0) S trivial (by decide) (q_assign rfl) (fun a S => ?_)
    refine lx_q (.int .i64 (1 : Int)) S trivial (by decide) (q_assign rfl) (fun a S => ?_)
    refine lx_nil ?_
    refine thenN ?_
    refine wp_ret ?_
    refine then_ret ?_
    obtain rfl := Option.some.inj hm
    have H : Heap w0 [oA (rList Rimpl_Vertex) (.slice none 0 0) ([] : List Timpl_Vertex)] w31 := H.nilList Rimpl_Vertex
    exact leave2 S rfl rfl rfl ⟨(.slice none 0 0), rfl, H⟩
  · have hm := ite_f hc36 hm
    refine wp_skip ?_
    refine thenN ?_
    refine wp_seq ?_
    refine region_plain ?_
    refine lx_q p0 S trivial (by decide) (q_move rfl) (fun a S => ?_)
    obtain ⟨x40, e41, hm⟩ := bind_some hm
    refine lx_call (xs := [.tmp 7]) S trivial (by decide) rfl rfl Try.call72 ((impl_game_ok (H.arg h0) e41).mono ?_)
    rintro e w38 ⟨v42, rfl, Hc39⟩
    have he44 := Hc39.ext
    have H := H.call1 Hc39
    refine ⟨_, rfl, trivial, fun a S => ?_⟩
    refine lx_q v42 S trivial (by decide) (q_assign rfl) (fun a S => ?_)
    refine lx_q (.int .i64 (0 : Int)) S trivial (by decide) (q_assign rfl) (fun a S => ?_)
    refine lx_nil ?_
    refine thenN ?_
    refine wp_ret ?_
    obtain rfl := Option.some.inj hm
    exact leave2 S rfl rfl rfl ⟨v42, rfl, H⟩

/-- laws.eqEquation -/
def laws_eqEquation_m (fuel : Nat) (a0 : Timpl_Equation) (a1 : Timpl_Equation) : Option (Bool) :=
  (if (a0.1 != a1.1) = true then some (false) else (if (a0.2.1 != a1.2.1) = true then some (false) else (laws_eqInt64S_m fuel a0.2.2 a1.2.2).bind fun x65 => (if (!x65) = true then some (false) else some (true))))
set_option maxRecDepth 20000 in
theorem laws_eqEquation_ok {w0 : World} {fuel : Nat} {p0 p1 : Value} {a0 : Timpl_Equation} {a1 : Timpl_Equation} {r : Bool} (h0 : Rd Rimpl_Equation w0 p0 a0) (h1 : Rd Rimpl_Equation w0 p1 a1) (hm : laws_eqEquation_m fuel a0 a1 = some r) :
    Calls Try.prog 73 #[p0, p1] w0 fun e w => e = .returned (.bool r) ∧ Heap w0 [] w := by
  unfold laws_eqEquation_m at hm
  have H := Heap.start w0
  obtain ⟨c31, rfl, h32⟩ := h0
  obtain ⟨c35, c36, rfl, h37, h38⟩ := h32
  obtain rfl := h37
  obtain ⟨c39, c40, rfl, h41, h42⟩ := h38
  obtain rfl := h41
  obtain ⟨v33, rfl, h34⟩ := rd_list h42
  obtain ⟨c43, rfl, h44⟩ := h1
  obtain ⟨c47, c48, rfl, h49, h50⟩ := h44
  obtain rfl := h49
  obtain ⟨c51, c52, rfl, h53, h54⟩ := h50
  obtain rfl := h53
  obtain ⟨v45, rfl, h46⟩ := rd_list h54
  refine enter (args := [(.agg #[(.bool a0.1), (.bool a0.2.1), v33]), (.agg #[(.bool a1.1), (.bool a1.2.1), v45])]) Try.func73 rfl 21 rfl (Nat.le_of_ble_eq_true rfl) (fun a S => ?_)
  refine wp_seq ?_
  refine region_plain ?_
  refine lx_box S trivial (by decide) rfl H rfl rfl (fun b55 w56 H => ⟨trivial, fun a S => ?_⟩)
  refine lx_box S trivial (by decide) rfl H rfl rfl (fun b58 w59 H => ⟨trivial, fun a S => ?_⟩)
  refine lx_q (.bool false) S trivial (by decide) (q_assign rfl) (fun a S => ?_)
  refine lx_nil ?_
  refine thenN ?_
  refine wp_seq ?_
  refine wp_seq ?_
  refine region_plain ?_
  refine lx_q (pAdd (bp b55) 0) S trivial (by decide) (q_fieldAddr' 0 4 rfl (isP_bp _) Try.underlying85 rfl Try.sizeOf4) (fun a S => ?_)
  refine lx_e (.bool a0.1) S trivial (by decide) rfl trivial (q_load1 rfl Try.isAgg4 (by rintro _ rfl; exact (At.of_add (m := 0) (j := 0) (boxAt (i := 1) H rfl (j := 0) rfl)))) (fun a S => ?_)
  refine lx_q (pAdd (bp b58) 0) S trivial (by decide) (q_fieldAddr' 0 4 rfl (isP_bp _) Try.underlying85 rfl Try.sizeOf4) (fun a S => ?_)
  refine lx_e (.bool a1.1) S trivial (by decide) rfl trivial (q_load1 rfl Try.isAgg4 (by rintro _ rfl; exact (At.of_add (m := 0) (j := 0) (boxAt (i := 0) H rfl (j := 0) rfl)))) (fun a S => ?_)
  refine lx_q (.bool (a0.1 != a1.1)) S trivial (by decide) (q_bneq rfl rfl Try.underlying4) (fun a S => ?_)
  refine lx_nil ?_
  refine thenN ?_
  refine cond_b S rfl (fun hc61 => ?_) (fun hc61 => ?_)
  · have hm := ite_t hc61 hm
    refine wp_seq ?_
    refine region_plain ?_
    refine lx_q (.bool false) S trivial (by decide) (q_assign rfl) (fun a S => ?_)
    refine lx_nil ?_
    refine thenN ?_
    refine wp_ret ?_
    refine then_ret ?_
    obtain rfl := Option.some.inj hm
    have H : Heap w0 [] w59 := H.sel [] (by decide)
    exact leave1 S rfl rfl ⟨rfl, H⟩
  · have hm := ite_f hc61 hm
    refine wp_skip ?_
    refine thenN ?_
    refine wp_seq ?_
    refine wp_seq ?_
    refine region_plain ?_
    refine lx_q (pAdd (bp b55) 1) S trivial (by decide) (q_fieldAddr' 1 4 rfl (isP_bp _) Try.underlying85 rfl Try.sizeOf4) (fun a S => ?_)
    refine lx_e (.bool a0.2.1) S trivial (by decide) rfl trivial (q_load1 rfl Try.isAgg4 (by rintro _ rfl; exact (At.of_add (m := 1) (j := 0) (boxAt (i := 1) H rfl (j := 1) rfl)))) (fun a S => ?_)
    refine lx_q (pAdd (bp b58) 1) S trivial (by decide) (q_fieldAddr' 1 4 rfl (isP_bp _) Try.underlying85 rfl Try.sizeOf4) (fun a S => ?_)
    refine lx_e (.bool a1.2.1) S trivial (by decide) rfl trivial (q_load1 rfl Try.isAgg4 (by rintro _ rfl; exact (At.of_add (m := 1) (j := 0) (boxAt (i := 0) H rfl (j := 1) rfl)))) (fun a S => ?_)
    refine lx_q (.bool (a0.2.1 != a1.2.1)) S trivial (by decide) (q_bneq rfl rfl Try.underlying4) (fun a S => ?_)
    refine lx_nil ?_
    refine thenN ?_
    refine cond_b S rfl (fun hc62 => ?_) (fun hc62 => ?_)
    · have hm := ite_t hc62 hm
      refine wp_seq ?_
      refine region_plain ?_
      refine lx_q (.bool false) S trivial (by decide) (q_assign rfl) (fun a S => ?_)
      refine lx_nil ?_
      refine thenN ?_
      refine wp_ret ?_
      refine then_ret ?_
      obtain rfl := Option.some.inj hm
      have H : Heap w0 [] w59 := H.sel [] (by decide)
      exact leave1 S rfl rfl ⟨rfl, H⟩
    · have hm := ite_f hc62 hm
      refine wp_skip ?_
      refine thenN ?_
      refine wp_seq ?_
      refine wp_seq ?_
      refine region_plain ?_
      refine lx_q (pAdd (bp b55) 2) S trivial (by decide) (q_fieldAddr' 2 23 rfl (isP_bp _) Try.underlying85 rfl Try.sizeOf23) (fun a S => ?_)
      refine lx_e v33 S trivial (by decide) rfl trivial (q_load1 rfl Try.isAgg23 (by rintro _ rfl; exact (At.of_add (m := 2) (j := 0) (boxAt (i := 1) H rfl (j := 2) rfl)))) (fun a S => ?_)
      refine lx_q (pAdd (bp b58) 2) S trivial (by decide) (q_fieldAddr' 2 23 rfl (isP_bp _) Try.underlying85 rfl Try.sizeOf23) (fun a S => ?_)
      refine lx_e v45 S trivial (by decide) rfl trivial (q_load1 rfl Try.isAgg23 (by rintro _ rfl; exact (At.of_add (m := 2) (j := 0) (boxAt (i := 0) H rfl (j := 2) rfl)))) (fun a S => ?_)
      obtain ⟨x65, e66, hm⟩ := bind_some hm
      refine lx_call (xs := [.tmp 16, .tmp 18]) S trivial (by decide) rfl rfl Try.call19 ((laws_eqInt64S_ok (H.arg h34) (H.arg h46) e66).mono ?_)
      rintro e w63 ⟨rfl, Hc64⟩
      have he67 := Hc64.ext
      have H := H.call0 Hc64
      refine ⟨_, rfl, trivial, fun a S => ?_⟩
      refine lx_q (.bool (!x65)) S trivial (by decide) (q_not rfl) (fun a S => ?_)
      refine lx_nil ?_
      refine thenN ?_
      refine cond_b S rfl (fun hc68 => ?_) (fun hc68 => ?_)
      · have hm := ite_t hc68 hm
        refine wp_seq ?_
        refine region_plain ?_
        refine lx_q (.bool false) S trivial (by decide) (q_assign rfl) (fun a S => ?_)
        refine lx_nil ?_
        refine thenN ?_
        refine wp_ret ?_
        refine then_ret ?_
        obtain rfl := Option.some.inj hm
        have H : Heap w0 [] w63 := H.sel [] (by decide)
        exact leave1 S rfl rfl ⟨rfl, H⟩
      · have hm := ite_f hc68 hm
        refine wp_skip ?_
        refine thenN ?_
        refine wp_seq ?_
        refine region_plain ?_
        refine lx_q (.bool true) S trivial (by decide) (q_assign rfl) (fun a S => ?_)
        refine lx_nil ?_
        refine thenN ?_
        refine wp_ret ?_
        obtain rfl := Option.some.inj hm
        have H : Heap w0 [] w63 := H.sel [] (by decide)
        exact leave1 S rfl rfl ⟨rfl, H⟩

/-- laws.eqEquationS -/
def laws_eqEquationS_m (fuel : Nat) (a0 : (List Timpl_Equation)) (a1 : (List Timpl_Equation)) : Option (Bool) :=
  (if ((a0.length : Int) != (a1.length : Int)) = true then some (false) else (iter (fun (s : (Int)) => (match s with | (x72) => (if (decide (x72 < (a0.length : Int))) = true then (idx a0 x72).bind fun x124 => (idx a1 x72).bind fun x139 => (laws_eqEquation_m fuel (x124.1, x124.2.1, x124.2.2) (x139.1, x139.2.1, x139.2.2)).bind fun x156 => (if (!x156) = true then some (.inr (.inr false)) else some (.inl ((W (x72 + (1 : Int)))))) else some (.inr (.inl ()))) : Option (((Int)) ⊕ ((Unit) ⊕ (Bool))))) fuel ((0 : Int))).bind fun res113 => ctl (β := Unit) (ρ := Bool) (τ := Bool) res113 (fun _ => some (true)) (fun q => some (q)))
set_option maxRecDepth 20000 in
theorem laws_eqEquationS_ok {w0 : World} {fuel : Nat} {p0 p1 : Value} {a0 : (List Timpl_Equation)} {a1 : (List Timpl_Equation)} {r : Bool} (h0 : Rd (rList Rimpl_Equation) w0 p0 a0) (h1 : Rd (rList Rimpl_Equation) w0 p1 a1) (hm : laws_eqEquationS_m fuel a0 a1 = some r) :
    Calls Try.prog 24 #[p0, p1] w0 fun e w => e = .returned (.bool r) ∧ Heap w0 [] w := by
  unfold laws_eqEquationS_m at hm
  have H := Heap.start w0
  refine enter (args := [p0, p1]) Try.func24 rfl 27 rfl (Nat.le_of_ble_eq_true rfl) (fun a S => ?_)
  refine wp_seq ?_
  refine region_plain ?_
  refine lx_q (.bool false) S trivial (by decide) (q_assign rfl) (fun a S => ?_)
  refine lx_nil ?_
  refine thenN ?_
  refine wp_seq ?_
  refine wp_seq ?_
  refine region_plain ?_
  refine lx_q p0 S trivial (by decide) (q_move rfl) (fun a S => ?_)
  refine lx_q (.int .i64 (a0.length : Int)) S trivial (by decide) (q_lenSl rfl (h0).isSl rfl Try.underlying36) (fun a S => ?_)
  refine lx_q p1 S trivial (by decide) (q_move rfl) (fun a S => ?_)
  refine lx_q (.int .i64 (a1.length : Int)) S trivial (by decide) (q_lenSl rfl (h1).isSl rfl Try.underlying36) (fun a S => ?_)
  refine lx_q (.bool ((a0.length : Int) != (a1.length : Int))) S trivial (by decide) (q_neq rfl rfl) (fun a S => ?_)
  refine lx_nil ?_
  refine thenN ?_
  refine cond_b S rfl (fun hc31 => ?_) (fun hc31 => ?_)
  · have hm := ite_t hc31 hm
    refine wp_seq ?_
    refine region_plain ?_
    refine lx_q (.bool false) S trivial (by decide) (q_assign rfl) (fun a S => ?_)
    refine lx_nil ?_
    refine thenN ?_
    refine wp_ret ?_
    refine then_ret ?_
    obtain rfl := Option.some.inj hm
    exact leave1 S rfl rfl ⟨rfl, H⟩
  · have hm := ite_f hc31 hm
    refine wp_skip ?_
    refine thenN ?_
    refine wp_seq ?_
    refine wp_seq ?_
    refine region_plain ?_
    refine lx_q (.int .i64 (0 : Int)) S trivial (by decide) (q_assign rfl) (fun a S => ?_)
    refine lx_nil ?_
    refine thenN ?_
    obtain ⟨res113, hit114, hk117⟩ := bind_some hm
    obtain ⟨f115, hf116, hit114⟩ := iter_name hit114
    refine block_loop (fun a w => Slots a 27 [] ∧ Heap w0 [] w ∧ res113 = .inl ()) ?_ ?_
    · rintro a w ⟨S, H, rfl⟩
      have hm := ctl_inl hk117
      refine thenN ?_
      refine wp_seq ?_
      refine region_plain ?_
      refine lx_q (.bool true) S trivial (by decide) (q_assign rfl) (fun a S => ?_)
      refine lx_nil ?_
      refine thenN ?_
      refine wp_ret ?_
      obtain rfl := Option.some.inj hm
      exact leave1 S rfl rfl ⟨rfl, H⟩
    · skip
      refine loop_ghost (fun n a w => ∃ (x72 : Int), Slots a 27 [(0, p0), (1, p1), (5, (.int .i64 x72))] ∧ Heap w0 [] w ∧ iter f115 n (x72) = some res113) _ ⟨(0 : Int), S.sub ⟨rfl, rfl, rfl, trivial⟩, H, hit114⟩ ?_
      rintro n a w ⟨x72, S, H, hit114⟩
      obtain ⟨m118, o119, rfl, hm, hc120⟩ := iter_step hit114
      rw [hf116] at hm
      refine wp_seq ?_
      refine wp_seq ?_
      refine region_plain ?_
      refine lx_q (.int .i64 x72) S trivial (by decide) (q_move rfl) (fun a S => ?_)
      refine lx_q p0 S trivial (by decide) (q_move rfl) (fun a S => ?_)
      refine lx_q (.int .i64 (a0.length : Int)) S trivial (by decide) (q_lenSl rfl (h0).isSl rfl Try.underlying36) (fun a S => ?_)
      refine lx_q (.bool (decide (x72 < (a0.length : Int)))) S trivial (by decide) (q_lss rfl rfl) (fun a S => ?_)
      refine lx_nil ?_
      refine thenN ?_
      refine cond_b S rfl (fun hc121 => ?_) (fun hc121 => ?_)
      · have hm := ite_t hc121 hm
        refine wp_skip ?_
        refine thenN ?_
        refine wp_seq ?_
        refine wp_block ?_
        refine wp_seq ?_
        refine region_drawG (fun w1 => Heap w0 [] w1) (fun i => [8].contains i) mixed (by kernel_rfl) (fun w123 he122 => ?_)
        have H := H.later he122
        refine ⟨H.sel [] (by decide), ?_⟩
        refine lx_q p0 S trivial (by decide) (q_move rfl) (fun a S => ?_)
        refine lx_q (.int .i64 x72) S trivial (by decide) (q_move rfl) (fun a S => ?_)
        obtain ⟨x124, e125, hm⟩ := bind_some hm
        obtain ⟨c126, h127, hat128⟩ := (h0).elem (idx_some e125).2
        obtain ⟨c131, c132, rfl, h133, h134⟩ := h127
        obtain rfl := h133
        obtain ⟨c135, c136, rfl, h137, h138⟩ := h134
        obtain rfl := h137
        obtain ⟨v129, rfl, h130⟩ := rd_list h138
        have hlt := lt_of_idx (idx_some e125).2
        refine lx_q (ePtr p0 (x72.toNat * 3)) S trivial (by decide) (q_indexAddr rfl (h0).isSl rfl (idx_some e125).1 hlt Try.underlying36 Try.sizeOf85) (fun a S => ?_)
        refine lx_q (.agg #[(.bool x124.1), (.bool x124.2.1), v129]) S trivial (by decide) (q_loadA (cs := [(.bool x124.1), (.bool x124.2.1), v129]) rfl ((hat128 0 _ rfl).isP) Try.isAgg85 Try.sizeOf85 (fun w1 hC => (fun j u hu => (hat128 j u hu).ext hC.ext))) (fun a S => ?_)
        refine lx_q p1 S trivial (by decide) (q_move rfl) (fun a S => ?_)
        refine lx_q (.int .i64 x72) S trivial (by decide) (q_move rfl) (fun a S => ?_)
        obtain ⟨x139, e140, hm⟩ := bind_some hm
        obtain ⟨c141, h142, hat143⟩ := (h1).elem (idx_some e140).2
        obtain ⟨c146, c147, rfl, h148, h149⟩ := h142
        obtain rfl := h148
        obtain ⟨c150, c151, rfl, h152, h153⟩ := h149
        obtain rfl := h152
        obtain ⟨v144, rfl, h145⟩ := rd_list h153
        have hlt := lt_of_idx (idx_some e140).2
        refine lx_q (ePtr p1 (x72.toNat * 3)) S trivial (by decide) (q_indexAddr rfl (h1).isSl rfl (idx_some e140).1 hlt Try.underlying36 Try.sizeOf85) (fun a S => ?_)
        refine lx_q (.agg #[(.bool x139.1), (.bool x139.2.1), v144]) S trivial (by decide) (q_loadA (cs := [(.bool x139.1), (.bool x139.2.1), v144]) rfl ((hat143 0 _ rfl).isP) Try.isAgg85 Try.sizeOf85 (fun w1 hC => (fun j u hu => (hat143 j u hu).ext hC.ext))) (fun a S => ?_)
        obtain ⟨x156, e157, hm⟩ := bind_some hm
        refine lx_call (xs := [.tmp 20, .tmp 24]) S trivial (by decide) rfl rfl Try.call73 ((laws_eqEquation_ok ⟨[(.bool x124.1), (.bool x124.2.1), v129], rfl, ⟨[(.bool x124.1)], [(.bool x124.2.1), v129], rfl, rfl, ⟨[(.bool x124.2.1)], [v129], rfl, rfl, ((H.arg h130)).list_rd⟩⟩⟩ ⟨[(.bool x139.1), (.bool x139.2.1), v144], rfl, ⟨[(.bool x139.1)], [(.bool x139.2.1), v144], rfl, rfl, ⟨[(.bool x139.2.1)], [v144], rfl, rfl, ((H.arg h145)).list_rd⟩⟩⟩ e157).mono ?_)
        rintro e w154 ⟨rfl, Hc155⟩
        have he158 := Hc155.ext
        have H := H.call0 Hc155
        refine ⟨_, rfl, H.sel [] (by decide), fun a S => ?_⟩
        refine lx_q (.bool (!x156)) S trivial (by decide) (q_not rfl) (fun a S => ?_)
        refine lx_nil ?_
        refine thenN ?_
        refine cond_b S rfl (fun hc159 => ?_) (fun hc159 => ?_)
        · have hm := ite_t hc159 hm
          refine wp_seq ?_
          refine region_plain ?_
          refine lx_q (.bool false) S trivial (by decide) (q_assign rfl) (fun a S => ?_)
          refine lx_nil ?_
          refine thenN ?_
          refine wp_ret ?_
          refine inBlock_ret ?_
          refine then_ret ?_
          refine then_ret ?_
          refine inBlock_ret ?_
          refine then_ret ?_
          refine then_ret ?_
          obtain rfl := it_brk hm hc120
          have hm := ctl_inr hk117
          obtain rfl := Option.some.inj hm
          exact leave1 S rfl rfl ⟨rfl, H⟩
        · have hm := ite_f hc159 hm
          refine wp_skip ?_
          refine inBlock_norm ?_
          refine thenN ?_
          refine region_plain ?_
          refine lx_q (.int .i64 x72) S trivial (by decide) (q_move rfl) (fun a S => ?_)
          refine lx_q (.int .i64 (W (x72 + (1 : Int)))) S trivial (by decide) (q_add rfl rfl) (fun a S => ?_)
          refine lx_q (.int .i64 (W (x72 + (1 : Int)))) S trivial (by decide) (q_assign rfl) (fun a S => ?_)
          refine lx_nil ?_
          exact ⟨m118, Nat.lt_succ_self _, (W (x72 + (1 : Int))), S.sub ⟨rfl, rfl, rfl, trivial⟩, H, it_cont hm hc120⟩
      · have hm := ite_f hc121 hm
        refine wp_exit ?_
        refine then_exit ?_
        refine then_exit ?_
        refine inBlock_exit ?_
        obtain rfl := it_brk hm hc120
        exact ⟨S.sub trivial, H, rfl⟩

/-- laws.markInt64S -/
def laws_markInt64S_m (fuel : Nat) (a0 : (List Int)) (a1 : Int) : Option (Int × (List Int)) :=
  (iter (fun (s : (List Int) × (Int) × (Int)) => (match s with | (xs38, x39, x40) => (if (decide (x40 < (xs38.length : Int))) = true then (idx xs38 x40).bind fun _ => some (.inl ((xs38.set x40.toNat x39), (W (x39 + (1 : Int))), (W (x40 + (1 : Int))))) else some (.inr (.inl (x39, xs38)))) : Option (((List Int) × (Int) × (Int)) ⊕ ((Int × (List Int)) ⊕ (Int × (List Int)))))) fuel (a0, a1, (0 : Int))).bind fun res50 => ctl (β := Int × (List Int)) (ρ := Int × (List Int)) (τ := Int × (List Int)) res50 (fun (x48, xs49) => some ((x48, xs49))) (fun q => some (q))
set_option maxRecDepth 20000 in
theorem laws_markInt64S_ok {w0 : World} {fuel : Nat} {p0 : Value} {a0 : (List Int)} {a1 : Int} {w00 : World} {L : List Asrt} {r : Int × (List Int)} (H : Heap w00 (oA (rList (rInt .i64)) p0 a0 :: L) w0) (hm : laws_markInt64S_m fuel a0 a1 = some r) :
    Calls Try.prog 30 #[p0, .int .i64 a1] w0 fun e w => e = .returned (.int .i64 r.1) ∧ Heap w00 (oA (rList (rInt .i64)) p0 r.2 :: L) w := by
  unfold laws_markInt64S_m at hm
  refine enter (args := [p0, .int .i64 a1]) Try.func30 rfl 19 rfl (Nat.le_of_ble_eq_true rfl) (fun a S => ?_)
  refine wp_seq ?_
  refine region_plain ?_
  refine lx_q (.int .i64 (0 : Int)) S trivial (by decide) (q_assign rfl) (fun a S => ?_)
  refine lx_nil ?_
  refine thenN ?_
  refine wp_seq ?_
  refine wp_seq ?_
  refine region_plain ?_
  refine lx_q (.int .i64 (0 : Int)) S trivial (by decide) (q_assign rfl) (fun a S => ?_)
  refine lx_nil ?_
  refine thenN ?_
  obtain ⟨res50, hit51, hk54⟩ := bind_some hm
  obtain ⟨f52, hf53, hit51⟩ := iter_name hit51
  refine block_loop (fun a w => ∃ (x48 : Int) (xs49 : List Int), Slots a 19 [(1, (.int .i64 x48))] ∧ Heap w00 (oA (rList (rInt .i64)) p0 xs49 :: L) w ∧ res50 = .inl (x48, xs49)) ?_ ?_
  · rintro a w ⟨x48, xs49, S, H, rfl⟩
    have hm := ctl_inl hk54
    refine thenN ?_
    refine wp_seq ?_
    refine region_plain ?_
    refine lx_q (.int .i64 x48) S trivial (by decide) (q_move rfl) (fun a S => ?_)
    refine lx_q (.int .i64 x48) S trivial (by decide) (q_assign rfl) (fun a S => ?_)
    refine lx_nil ?_
    refine thenN ?_
    refine wp_ret ?_
    obtain rfl := Option.some.inj hm
    exact leave1 S rfl rfl ⟨rfl, H⟩
  · skip
    refine loop_ghost (fun n a w => ∃ (xs38 : List Int) (x39 : Int) (x40 : Int), Slots a 19 [(0, p0), (1, (.int .i64 x39)), (5, (.int .i64 x40))] ∧ Heap w00 (oA (rList (rInt .i64)) p0 xs38 :: L) w ∧ iter f52 n (xs38, x39, x40) = some res50) _ ⟨a0, a1, (0 : Int), S.sub ⟨rfl, rfl, rfl, trivial⟩, H, hit51⟩ ?_
    rintro n a w ⟨xs38, x39, x40, S, H, hit51⟩
    obtain ⟨m55, o56, rfl, hm, hc57⟩ := iter_step hit51
    rw [hf53] at hm
    refine wp_seq ?_
    refine wp_seq ?_
    refine region_plain ?_
    refine lx_q (.int .i64 x40) S trivial (by decide) (q_move rfl) (fun a S => ?_)
    refine lx_q p0 S trivial (by decide) (q_move rfl) (fun a S => ?_)
    refine lx_q (.int .i64 (xs38.length : Int)) S trivial (by decide) (q_lenSl rfl (H.isSl 0 rfl) rfl Try.underlying23) (fun a S => ?_)
    refine lx_q (.bool (decide (x40 < (xs38.length : Int)))) S trivial (by decide) (q_lss rfl rfl) (fun a S => ?_)
    refine lx_nil ?_
    refine thenN ?_
    refine cond_b S rfl (fun hc58 => ?_) (fun hc58 => ?_)
    · have hm := ite_t hc58 hm
      refine wp_skip ?_
      refine thenN ?_
      refine wp_seq ?_
      refine wp_block ?_
      refine wp_seq ?_
      refine region_plain ?_
      refine lx_q p0 S trivial (by decide) (q_move rfl) (fun a S => ?_)
      refine lx_q (.int .i64 x40) S trivial (by decide) (q_move rfl) (fun a S => ?_)
      refine lx_q (.int .i64 x39) S trivial (by decide) (q_move rfl) (fun a S => ?_)
      obtain ⟨x59, e60, hm⟩ := bind_some hm
      have hlt := lt_of_idx (idx_some e60).2
      refine lx_q (ePtr p0 (x40.toNat * 1)) S trivial (by decide) (q_indexAddr rfl (H.isSl 0 rfl) rfl (idx_some e60).1 hlt Try.underlying23 Try.sizeOf2) (fun a S => ?_)
      refine lx_storeElem (r := (rInt .i64)) (us := [(.int .i64 x39)]) (off := 0) (e' := x39) S trivial rfl H.putE (by rw [pAdd_zero]; rfl) rfl (idx_some e60).2 rfl Try.sizeOf2 (Nat.le_of_ble_eq_true rfl) (List.forall_mem_cons.2 ⟨rfl, (fun _ h => nomatch h)⟩) (Upd.full rfl (fun w G hG => by cases (show G = [] from hG); exact ⟨rfl, rfl⟩)) (fun w61 H => ⟨trivial, fun a S => ?_⟩)
      refine lx_nil ?_
      refine thenN ?_
      refine region_plain ?_
      refine lx_q (.int .i64 x39) S trivial (by decide) (q_move rfl) (fun a S => ?_)
      refine lx_q (.int .i64 (W (x39 + (1 : Int)))) S trivial (by decide) (q_add rfl rfl) (fun a S => ?_)
      refine lx_q (.int .i64 (W (x39 + (1 : Int)))) S trivial (by decide) (q_assign rfl) (fun a S => ?_)
      refine lx_nil ?_
      refine inBlock_norm ?_
      refine thenN ?_
      refine region_plain ?_
      refine lx_q (.int .i64 x40) S trivial (by decide) (q_move rfl) (fun a S => ?_)
      refine lx_q (.int .i64 (W (x40 + (1 : Int)))) S trivial (by decide) (q_add rfl rfl) (fun a S => ?_)
      refine lx_q (.int .i64 (W (x40 + (1 : Int)))) S trivial (by decide) (q_assign rfl) (fun a S => ?_)
      refine lx_nil ?_
      exact ⟨m55, Nat.lt_succ_self _, (xs38.set x40.toNat x39), (W (x39 + (1 : Int))), (W (x40 + (1 : Int))), S.sub ⟨rfl, rfl, rfl, trivial⟩, H, it_cont hm hc57⟩
    · have hm := ite_f hc58 hm
      refine wp_exit ?_
      refine then_exit ?_
      refine then_exit ?_
      refine inBlock_exit ?_
      obtain rfl := it_brk hm hc57
      exact ⟨x39, xs38, S.sub ⟨rfl, trivial⟩, H, rfl⟩

/-- laws.markEquationS -/
def laws_markEquationS_m (fuel : Nat) (a0 : (List Timpl_Equation)) (a1 : Int) : Option (Int × (List Timpl_Equation)) :=
  (iter (fun (s : (List Timpl_Equation) × (Int) × (Int)) => (match s with | (xs62, x63, x64) => (if (decide (x64 < (xs62.length : Int))) = true then (idx xs62 x64).bind fun x107 => (idx (xs62.set x64.toNat (((x63.tmod (3 : Int)) == (0 : Int)), x107.2.1, x107.2.2)) x64).bind fun x110 => (idx ((xs62.set x64.toNat (((x63.tmod (3 : Int)) == (0 : Int)), x107.2.1, x107.2.2)).set x64.toNat (x110.1, (((W (x63 + (1 : Int))).tmod (3 : Int)) == (0 : Int)), x110.2.2)) x64).bind fun x113 => (laws_markInt64S_m fuel x113.2.2 (W ((W (x63 + (1 : Int))) + (1 : Int)))).bind fun x130 => some (.inl ((((xs62.set x64.toNat (((x63.tmod (3 : Int)) == (0 : Int)), x107.2.1, x107.2.2)).set x64.toNat (x110.1, (((W (x63 + (1 : Int))).tmod (3 : Int)) == (0 : Int)), x110.2.2)).set x64.toNat (x113.1, x113.2.1, x130.2)), x130.1, (W (x64 + (1 : Int))))) else some (.inr (.inl (x63, xs62)))) : Option (((List Timpl_Equation) × (Int) × (Int)) ⊕ ((Int × (List Timpl_Equation)) ⊕ (Int × (List Timpl_Equation)))))) fuel (a0, a1, (0 : Int))).bind fun res98 => ctl (β := Int × (List Timpl_Equation)) (ρ := Int × (List Timpl_Equation)) (τ := Int × (List Timpl_Equation)) res98 (fun (x96, xs97) => some ((x96, xs97))) (fun q => some (q))
set_option maxRecDepth 20000 in
theorem laws_markEquationS_ok {w0 : World} {fuel : Nat} {p0 : Value} {a0 : (List Timpl_Equation)} {a1 : Int} {w00 : World} {L : List Asrt} {r : Int × (List Timpl_Equation)} (H : Heap w00 (oA (rList Rimpl_Equation) p0 a0 :: L) w0) (hm : laws_markEquationS_m fuel a0 a1 = some r) :
    Calls Try.prog 25 #[p0, .int .i64 a1] w0 fun e w => e = .returned (.int .i64 r.1) ∧ Heap w00 (oA (rList Rimpl_Equation) p0 r.2 :: L) w := by
  unfold laws_markEquationS_m at hm
  refine enter (args := [p0, .int .i64 a1]) Try.func25 rfl 38 rfl (Nat.le_of_ble_eq_true rfl) (fun a S => ?_)
  refine wp_seq ?_
  refine region_plain ?_
  refine lx_q (.int .i64 (0 : Int)) S trivial (by decide) (q_assign rfl) (fun a S => ?_)
  refine lx_nil ?_
  refine thenN ?_
  refine wp_seq ?_
  refine wp_seq ?_
  refine region_plain ?_
  refine lx_q (.int .i64 (0 : Int)) S trivial (by decide) (q_assign rfl) (fun a S => ?_)
  refine lx_nil ?_
  refine thenN ?_
  obtain ⟨res98, hit99, hk102⟩ := bind_some hm
  obtain ⟨f100, hf101, hit99⟩ := iter_name hit99
  refine block_loop (fun a w => ∃ (x96 : Int) (xs97 : List Timpl_Equation), Slots a 38 [(1, (.int .i64 x96))] ∧ Heap w00 (oA (rList Rimpl_Equation) p0 xs97 :: L) w ∧ res98 = .inl (x96, xs97)) ?_ ?_
  · rintro a w ⟨x96, xs97, S, H, rfl⟩
    have hm := ctl_inl hk102
    refine thenN ?_
    refine wp_seq ?_
    refine region_plain ?_
    refine lx_q (.int .i64 x96) S trivial (by decide) (q_move rfl) (fun a S => ?_)
    refine lx_q (.int .i64 x96) S trivial (by decide) (q_assign rfl) (fun a S => ?_)
    refine lx_nil ?_
    refine thenN ?_
    refine wp_ret ?_
    obtain rfl := Option.some.inj hm
    exact leave1 S rfl rfl ⟨rfl, H⟩
  · skip
    refine loop_ghost (fun n a w => ∃ (xs62 : List Timpl_Equation) (x63 : Int) (x64 : Int), Slots a 38 [(0, p0), (1, (.int .i64 x63)), (5, (.int .i64 x64))] ∧ Heap w00 (oA (rList Rimpl_Equation) p0 xs62 :: L) w ∧ iter f100 n (xs62, x63, x64) = some res98) _ ⟨a0, a1, (0 : Int), S.sub ⟨rfl, rfl, rfl, trivial⟩, H, hit99⟩ ?_
    rintro n a w ⟨xs62, x63, x64, S, H, hit99⟩
    obtain ⟨m103, o104, rfl, hm, hc105⟩ := iter_step hit99
    rw [hf101] at hm
    refine wp_seq ?_
    refine wp_seq ?_
    refine region_plain ?_
    refine lx_q (.int .i64 x64) S trivial (by decide) (q_move rfl) (fun a S => ?_)
    refine lx_q p0 S trivial (by decide) (q_move rfl) (fun a S => ?_)
    refine lx_q (.int .i64 (xs62.length : Int)) S trivial (by decide) (q_lenSl rfl (H.isSl 0 rfl) rfl Try.underlying36) (fun a S => ?_)
    refine lx_q (.bool (decide (x64 < (xs62.length : Int)))) S trivial (by decide) (q_lss rfl rfl) (fun a S => ?_)
    refine lx_nil ?_
    refine thenN ?_
    refine cond_b S rfl (fun hc106 => ?_) (fun hc106 => ?_)
    · have hm := ite_t hc106 hm
      refine wp_skip ?_
      refine thenN ?_
      refine wp_seq ?_
      refine wp_block ?_
      refine wp_seq ?_
      refine region_plain ?_
      refine lx_q p0 S trivial (by decide) (q_move rfl) (fun a S => ?_)
      refine lx_q (.int .i64 x64) S trivial (by decide) (q_move rfl) (fun a S => ?_)
      refine lx_q (.int .i64 x63) S trivial (by decide) (q_move rfl) (fun a S => ?_)
      refine lx_q (.int .i64 (x63.tmod (3 : Int))) S trivial (by decide) (q_rem rfl rfl (show (3 : Int) ≠ 0 from by decide)) (fun a S => ?_)
      refine lx_q (.bool ((x63.tmod (3 : Int)) == (0 : Int))) S trivial (by decide) (q_eql rfl rfl) (fun a S => ?_)
      obtain ⟨x107, e108, hm⟩ := bind_some hm
      have hlt := lt_of_idx (idx_some e108).2
      refine lx_q (ePtr p0 (x64.toNat * 3)) S trivial (by decide) (q_indexAddr rfl (H.isSl 0 rfl) rfl (idx_some e108).1 hlt Try.underlying36 Try.sizeOf85) (fun a S => ?_)
      refine lx_q (pAdd (ePtr p0 (x64.toNat * 3)) 0) S trivial (by decide) (q_fieldAddr' 0 4 rfl (((H.isSl 0 rfl)).ptr (lt_of_idx (idx_some e108).2) _) Try.underlying85 rfl Try.sizeOf4) (fun a S => ?_)
      refine lx_storeElem (r := Rimpl_Equation) (us := [(.bool ((x63.tmod (3 : Int)) == (0 : Int)))]) (off := 0) (e' := (((x63.tmod (3 : Int)) == (0 : Int)), x107.2.1, x107.2.2)) S trivial rfl H.putE rfl rfl (idx_some e108).2 rfl Try.sizeOf4 (Nat.le_of_ble_eq_true rfl) (List.forall_mem_cons.2 ⟨rfl, (fun _ h => nomatch h)⟩) (Upd.fst (off := 0) (Nat.le_of_ble_eq_true rfl) (Upd.full rfl (fun w G hG => by cases (show G = [] from hG); exact ⟨rfl, rfl⟩))) (fun w109 H => ⟨trivial, fun a S => ?_⟩)
      refine lx_nil ?_
      refine thenN ?_
      refine wp_seq ?_
      refine region_plain ?_
      refine lx_q (.int .i64 x63) S trivial (by decide) (q_move rfl) (fun a S => ?_)
      refine lx_q (.int .i64 (W (x63 + (1 : Int)))) S trivial (by decide) (q_add rfl rfl) (fun a S => ?_)
      refine lx_q (.int .i64 (W (x63 + (1 : Int)))) S trivial (by decide) (q_assign rfl) (fun a S => ?_)
      refine lx_nil ?_
      refine thenN ?_
      refine wp_seq ?_
      refine region_plain ?_
      refine lx_q p0 S trivial (by decide) (q_move rfl) (fun a S => ?_)
      refine lx_q (.int .i64 x64) S trivial (by decide) (q_move rfl) (fun a S => ?_)
      refine lx_q (.int .i64 (W (x63 + (1 : Int)))) S trivial (by decide) (q_move rfl) (fun a S => ?_)
      refine lx_q (.int .i64 ((W (x63 + (1 : Int))).tmod (3 : Int))) S trivial (by decide) (q_rem rfl rfl (show (3 : Int) ≠ 0 from by decide)) (fun a S => ?_)
      refine lx_q (.bool (((W (x63 + (1 : Int))).tmod (3 : Int)) == (0 : Int))) S trivial (by decide) (q_eql rfl rfl) (fun a S => ?_)
      obtain ⟨x110, e111, hm⟩ := bind_some hm
      have hlt := lt_of_idx (idx_some e111).2
      refine lx_q (ePtr p0 (x64.toNat * 3)) S trivial (by decide) (q_indexAddr rfl (H.isSl 0 rfl) rfl (idx_some e111).1 hlt Try.underlying36 Try.sizeOf85) (fun a S => ?_)
      refine lx_q (pAdd (ePtr p0 (x64.toNat * 3)) 1) S trivial (by decide) (q_fieldAddr' 1 4 rfl (((H.isSl 0 rfl)).ptr (lt_of_idx (idx_some e111).2) _) Try.underlying85 rfl Try.sizeOf4) (fun a S => ?_)
      refine lx_storeElem (r := Rimpl_Equation) (us := [(.bool (((W (x63 + (1 : Int))).tmod (3 : Int)) == (0 : Int)))]) (off := 1) (e' := (x110.1, (((W (x63 + (1 : Int))).tmod (3 : Int)) == (0 : Int)), x110.2.2)) S trivial rfl H.putE rfl rfl (idx_some e111).2 rfl Try.sizeOf4 (Nat.le_of_ble_eq_true rfl) (List.forall_mem_cons.2 ⟨rfl, (fun _ h => nomatch h)⟩) (Upd.snd (off := 0) (Upd.fst (off := 0) (Nat.le_of_ble_eq_true rfl) (Upd.full rfl (fun w G hG => by cases (show G = [] from hG); exact ⟨rfl, rfl⟩)))) (fun w112 H => ⟨trivial, fun a S => ?_⟩)
      refine lx_nil ?_
      refine thenN ?_
      refine wp_seq ?_
      refine region_plain ?_
      refine lx_q (.int .i64 (W (x63 + (1 : Int)))) S trivial (by decide) (q_move rfl) (fun a S => ?_)
      refine lx_q (.int .i64 (W ((W (x63 + (1 : Int))) + (1 : Int)))) S trivial (by decide) (q_add rfl rfl) (fun a S => ?_)
      refine lx_q (.int .i64 (W ((W (x63 + (1 : Int))) + (1 : Int)))) S trivial (by decide) (q_assign rfl) (fun a S => ?_)
      refine lx_nil ?_
      refine thenN ?_
      refine region_plain ?_
      refine lx_q p0 S trivial (by decide) (q_move rfl) (fun a S => ?_)
      refine lx_q (.int .i64 x64) S trivial (by decide) (q_move rfl) (fun a S => ?_)
      obtain ⟨x113, e114, hm⟩ := bind_some hm
      have hlt := lt_of_idx (idx_some e114).2
      refine lx_q (ePtr p0 (x64.toNat * 3)) S trivial (by decide) (q_indexAddr rfl (H.isSl 0 rfl) rfl (idx_some e114).1 hlt Try.underlying36 Try.sizeOf85) (fun a S => ?_)
      refine lx_q (pAdd (ePtr p0 (x64.toNat * 3)) 2) S trivial (by decide) (q_fieldAddr' 2 23 rfl (((H.isSl 0 rfl)).ptr (lt_of_idx (idx_some e114).2) _) Try.underlying85 rfl Try.sizeOf23) (fun a S => ?_)
      obtain ⟨c115, h116, hat117⟩ := (H.rdAt 0 rfl).elem (idx_some e114).2
      obtain ⟨c120, c121, rfl, h122, h123⟩ := h116
      obtain rfl := h122
      obtain ⟨c124, c125, rfl, h126, h127⟩ := h123
      obtain rfl := h126
      obtain ⟨v118, rfl, h119⟩ := rd_list h127
      refine lx_e v118 S trivial (by decide) rfl trivial (q_load1 rfl Try.isAgg23 (by rintro _ rfl; exact (At.of_add (m := 2) (j := 0) (hat117 2 _ rfl)))) (fun a S => ?_)
      refine lx_q (.int .i64 (W ((W (x63 + (1 : Int))) + (1 : Int)))) S trivial (by decide) (q_move rfl) (fun a S => ?_)
      obtain ⟨x130, e131, hm⟩ := bind_some hm
      obtain ⟨u132, hat133, H⟩ := H.lend (idx_some e114).2 (Lend.snd (off := 1) (Lend.snd (off := 0) (Lend.here)))
      obtain rfl : v118 = u132 := At.eq (hat117 2 _ rfl) hat133
      refine lx_call (xs := [.tmp 34, .tmp 35]) S trivial (by decide) rfl rfl Try.call30 ((laws_markInt64S_ok H  e131).mono ?_)
      rintro e w128 ⟨rfl, H⟩
      have H : Heap w00 (oA (rList Rimpl_Equation) p0 (((xs62.set x64.toNat (((x63.tmod (3 : Int)) == (0 : Int)), x107.2.1, x107.2.2)).set x64.toNat (x110.1, (((W (x63 + (1 : Int))).tmod (3 : Int)) == (0 : Int)), x110.2.2)).set x64.toNat (x113.1, x113.2.1, x130.2)) :: L) w128 := H.back
      refine ⟨_, rfl, trivial, fun a S => ?_⟩
      refine lx_q (.int .i64 x130.1) S trivial (by decide) (q_assign rfl) (fun a S => ?_)
      refine lx_nil ?_
      refine inBlock_norm ?_
      refine thenN ?_
      refine region_plain ?_
      refine lx_q (.int .i64 x64) S trivial (by decide) (q_move rfl) (fun a S => ?_)
      refine lx_q (.int .i64 (W (x64 + (1 : Int)))) S trivial (by decide) (q_add rfl rfl) (fun a S => ?_)
      refine lx_q (.int .i64 (W (x64 + (1 : Int)))) S trivial (by decide) (q_assign rfl) (fun a S => ?_)
      refine lx_nil ?_
      exact ⟨m103, Nat.lt_succ_self _, (((xs62.set x64.toNat (((x63.tmod (3 : Int)) == (0 : Int)), x107.2.1, x107.2.2)).set x64.toNat (x110.1, (((W (x63 + (1 : Int))).tmod (3 : Int)) == (0 : Int)), x110.2.2)).set x64.toNat (x113.1, x113.2.1, x130.2)), x130.1, (W (x64 + (1 : Int))), S.sub ⟨rfl, rfl, rfl, trivial⟩, H, it_cont hm hc105⟩
    · have hm := ite_f hc106 hm
      refine wp_exit ?_
      refine then_exit ?_
      refine then_exit ?_
      refine inBlock_exit ?_
      obtain rfl := it_brk hm hc105
      exact ⟨x63, xs62, S.sub ⟨rfl, trivial⟩, H, rfl⟩

/-- laws.markVertexS -/
def laws_markVertexS_m (fuel : Nat) (a0 : (List Timpl_Vertex)) (a1 : Int) : Option (Int × (List Timpl_Vertex)) :=
  (iter (fun (s : (List Timpl_Vertex) × (Int) × (Int)) => (match s with | (xs62, x63, x64) => (if (decide (x64 < (xs62.length : Int))) = true then (idx xs62 x64).bind fun x107 => (idx (xs62.set x64.toNat (x63, x107.2.1, x107.2.2)) x64).bind fun x110 => (idx ((xs62.set x64.toNat (x63, x107.2.1, x107.2.2)).set x64.toNat (x110.1, (W (x63 + (1 : Int))), x110.2.2)) x64).bind fun x113 => (laws_markInt64S_m fuel x113.2.2 (W ((W (x63 + (1 : Int))) + (1 : Int)))).bind fun x130 => some (.inl ((((xs62.set x64.toNat (x63, x107.2.1, x107.2.2)).set x64.toNat (x110.1, (W (x63 + (1 : Int))), x110.2.2)).set x64.toNat (x113.1, x113.2.1, x130.2)), x130.1, (W (x64 + (1 : Int))))) else some (.inr (.inl (x63, xs62)))) : Option (((List Timpl_Vertex) × (Int) × (Int)) ⊕ ((Int × (List Timpl_Vertex)) ⊕ (Int × (List Timpl_Vertex)))))) fuel (a0, a1, (0 : Int))).bind fun res98 => ctl (β := Int × (List Timpl_Vertex)) (ρ := Int × (List Timpl_Vertex)) (τ := Int × (List Timpl_Vertex)) res98 (fun (x96, xs97) => some ((x96, xs97))) (fun q => some (q))
set_option maxRecDepth 20000 in
theorem laws_markVertexS_ok {w0 : World} {fuel : Nat} {p0 : Value} {a0 : (List Timpl_Vertex)} {a1 : Int} {w00 : World} {L : List Asrt} {r : Int × (List Timpl_Vertex)} (H : Heap w00 (oA (rList Rimpl_Vertex) p0 a0 :: L) w0) (hm : laws_markVertexS_m fuel a0 a1 = some r) :
    Calls Try.prog 26 #[p0, .int .i64 a1] w0 fun e w => e = .returned (.int .i64 r.1) ∧ Heap w00 (oA (rList Rimpl_Vertex) p0 r.2 :: L) w := by
  unfold laws_markVertexS_m at hm
  refine enter (args := [p0, .int .i64 a1]) Try.func26 rfl 34 rfl (Nat.le_of_ble_eq_true rfl) (fun a S => ?_)
  refine wp_seq ?_
  refine region_plain ?_
  refine lx_q (.int .i64 (0 : Int)) S trivial (by decide) (q_assign rfl) (fun a S => ?_)
  refine lx_nil ?_
  refine thenN ?_
  refine wp_seq ?_
  refine wp_seq ?_
  refine region_plain ?_
  refine lx_q (.int .i64 (0 : Int)) S trivial (by decide) (q_assign rfl) (fun a S => ?_)
  refine lx_nil ?_
  refine thenN ?_
  obtain ⟨res98, hit99, hk102⟩ := bind_some hm
  obtain ⟨f100, hf101, hit99⟩ := iter_name hit99
  refine block_loop (fun a w => ∃ (x96 : Int) (xs97 : List Timpl_Vertex), Slots a 34 [(1, (.int .i64 x96))] ∧ Heap w00 (oA (rList Rimpl_Vertex) p0 xs97 :: L) w ∧ res98 = .inl (x96, xs97)) ?_ ?_
  · rintro a w ⟨x96, xs97, S, H, rfl⟩
    have hm := ctl_inl hk102
    refine thenN ?_
    refine wp_seq ?_
    refine region_plain ?_
    refine lx_q (.int .i64 x96) S trivial (by decide) (q_move rfl) (fun a S => ?_)
    refine lx_q (.int .i64 x96) S trivial (by decide) (q_assign rfl) (fun a S => ?_)
    refine lx_nil ?_
    refine thenN ?_
    refine wp_ret ?_
    obtain rfl := Option.some.inj hm
    exact leave1 S rfl rfl ⟨rfl, H⟩
  · skip
    refine loop_ghost (fun n a w => ∃ (xs62 : List Timpl_Vertex) (x63 : Int) (x64 : Int), Slots a 34 [(0, p0), (1, (.int .i64 x63)), (5, (.int .i64 x64))] ∧ Heap w00 (oA (rList Rimpl_Vertex) p0 xs62 :: L) w ∧ iter f100 n (xs62, x63, x64) = some res98) _ ⟨a0, a1, (0 : Int), S.sub ⟨rfl, rfl, rfl, trivial⟩, H, hit99⟩ ?_
    rintro n a w ⟨xs62, x63, x64, S, H, hit99⟩
    obtain ⟨m103, o104, rfl, hm, hc105⟩ := iter_step hit99
    rw [hf101] at hm
    refine wp_seq ?_
    refine wp_seq ?_
    refine region_plain ?_
    refine lx_q (.int .i64 x64) S trivial (by decide) (q_move rfl) (fun a S => ?_)
    refine lx_q p0 S trivial (by decide) (q_move rfl) (fun a S => ?_)
    refine lx_q (.int .i64 (xs62.length : Int)) S trivial (by decide) (q_lenSl rfl (H.isSl 0 rfl) rfl Try.underlying26) (fun a S => ?_)
    refine lx_q (.bool (decide (x64 < (xs62.length : Int)))) S trivial (by decide) (q_lss rfl rfl) (fun a S => ?_)
    refine lx_nil ?_
    refine thenN ?_
    refine cond_b S rfl (fun hc106 => ?_) (fun hc106 => ?_)
    · have hm := ite_t hc106 hm
      refine wp_skip ?_
      refine thenN ?_
      refine wp_seq ?_
      refine wp_block ?_
      refine wp_seq ?_
      refine region_plain ?_
      refine lx_q p0 S trivial (by decide) (q_move rfl) (fun a S => ?_)
      refine lx_q (.int .i64 x64) S trivial (by decide) (q_move rfl) (fun a S => ?_)
      refine lx_q (.int .i64 x63) S trivial (by decide) (q_move rfl) (fun a S => ?_)
      obtain ⟨x107, e108, hm⟩ := bind_some hm
      have hlt := lt_of_idx (idx_some e108).2
      refine lx_q (ePtr p0 (x64.toNat * 3)) S trivial (by decide) (q_indexAddr rfl (H.isSl 0 rfl) rfl (idx_some e108).1 hlt Try.underlying26 Try.sizeOf71) (fun a S => ?_)
      refine lx_q (pAdd (ePtr p0 (x64.toNat * 3)) 0) S trivial (by decide) (q_fieldAddr' 0 2 rfl (((H.isSl 0 rfl)).ptr (lt_of_idx (idx_some e108).2) _) Try.underlying71 rfl Try.sizeOf2) (fun a S => ?_)
      refine lx_storeElem (r := Rimpl_Vertex) (us := [(.int .i64 x63)]) (off := 0) (e' := (x63, x107.2.1, x107.2.2)) S trivial rfl H.putE rfl rfl (idx_some e108).2 rfl Try.sizeOf2 (Nat.le_of_ble_eq_true rfl) (List.forall_mem_cons.2 ⟨rfl, (fun _ h => nomatch h)⟩) (Upd.fst (off := 0) (Nat.le_of_ble_eq_true rfl) (Upd.full rfl (fun w G hG => by cases (show G = [] from hG); exact ⟨rfl, rfl⟩))) (fun w109 H => ⟨trivial, fun a S => ?_⟩)
      refine lx_nil ?_
      refine thenN ?_
      refine wp_seq ?_
      refine region_plain ?_
      refine lx_q (.int .i64 x63) S trivial (by decide) (q_move rfl) (fun a S => ?_)
      refine lx_q (.int .i64 (W (x63 + (1 : Int)))) S trivial (by decide) (q_add rfl rfl) (fun a S => ?_)
      refine lx_q (.int .i64 (W (x63 + (1 : Int)))) S trivial (by decide) (q_assign rfl) (fun a S => ?_)
      refine lx_nil ?_
      refine thenN ?_
      refine wp_seq ?_
      refine region_plain ?_
      refine lx_q p0 S trivial (by decide) (q_move rfl) (fun a S => ?_)
      refine lx_q (.int .i64 x64) S trivial (by decide) (q_move rfl) (fun a S => ?_)
      refine lx_q (.int .i64 (W (x63 + (1 : Int)))) S trivial (by decide) (q_move rfl) (fun a S => ?_)
      obtain ⟨x110, e111, hm⟩ := bind_some hm
      have hlt := lt_of_idx (idx_some e111).2
      refine lx_q (ePtr p0 (x64.toNat * 3)) S trivial (by decide) (q_indexAddr rfl (H.isSl 0 rfl) rfl (idx_some e111).1 hlt Try.underlying26 Try.sizeOf71) (fun a S => ?_)
      refine lx_q (pAdd (ePtr p0 (x64.toNat * 3)) 1) S trivial (by decide) (q_fieldAddr' 1 2 rfl (((H.isSl 0 rfl)).ptr (lt_of_idx (idx_some e111).2) _) Try.underlying71 rfl Try.sizeOf2) (fun a S => ?_)
      refine lx_storeElem (r := Rimpl_Vertex) (us := [(.int .i64 (W (x63 + (1 : Int))))]) (off := 1) (e' := (x110.1, (W (x63 + (1 : Int))), x110.2.2)) S trivial rfl H.putE rfl rfl (idx_some e111).2 rfl Try.sizeOf2 (Nat.le_of_ble_eq_true rfl) (List.forall_mem_cons.2 ⟨rfl, (fun _ h => nomatch h)⟩) (Upd.snd (off := 0) (Upd.fst (off := 0) (Nat.le_of_ble_eq_true rfl) (Upd.full rfl (fun w G hG => by cases (show G = [] from hG); exact ⟨rfl, rfl⟩)))) (fun w112 H => ⟨trivial, fun a S => ?_⟩)
      refine lx_nil ?_
      refine thenN ?_
      refine wp_seq ?_
      refine region_plain ?_
      refine lx_q (.int .i64 (W (x63 + (1 : Int)))) S trivial (by decide) (q_move rfl) (fun a S => ?_)
      refine lx_q (.int .i64 (W ((W (x63 + (1 : Int))) + (1 : Int)))) S trivial (by decide) (q_add rfl rfl) (fun a S => ?_)
      refine lx_q (.int .i64 (W ((W (x63 + (1 : Int))) + (1 : Int)))) S trivial (by decide) (q_assign rfl) (fun a S => ?_)
      refine lx_nil ?_
      refine thenN ?_
      refine region_plain ?_
      refine lx_q p0 S trivial (by decide) (q_move rfl) (fun a S => ?_)
      refine lx_q (.int .i64 x64) S trivial (by decide) (q_move rfl) (fun a S => ?_)
      obtain ⟨x113, e114, hm⟩ := bind_some hm
      have hlt := lt_of_idx (idx_some e114).2
      refine lx_q (ePtr p0 (x64.toNat * 3)) S trivial (by decide) (q_indexAddr rfl (H.isSl 0 rfl) rfl (idx_some e114).1 hlt Try.underlying26 Try.sizeOf71) (fun a S => ?_)
      refine lx_q (pAdd (ePtr p0 (x64.toNat * 3)) 2) S trivial (by decide) (q_fieldAddr' 2 23 rfl (((H.isSl 0 rfl)).ptr (lt_of_idx (idx_some e114).2) _) Try.underlying71 rfl Try.sizeOf23) (fun a S => ?_)
      obtain ⟨c115, h116, hat117⟩ := (H.rdAt 0 rfl).elem (idx_some e114).2
      obtain ⟨c120, c121, rfl, h122, h123⟩ := h116
      obtain rfl := h122
      obtain ⟨c124, c125, rfl, h126, h127⟩ := h123
      obtain rfl := h126
      obtain ⟨v118, rfl, h119⟩ := rd_list h127
      refine lx_e v118 S trivial (by decide) rfl trivial (q_load1 rfl Try.isAgg23 (by rintro _ rfl; exact (At.of_add (m := 2) (j := 0) (hat117 2 _ rfl)))) (fun a S => ?_)
      refine lx_q (.int .i64 (W ((W (x63 + (1 : Int))) + (1 : Int)))) S trivial (by decide) (q_move rfl) (fun a S => ?_)
      obtain ⟨x130, e131, hm⟩ := bind_some hm
      obtain ⟨u132, hat133, H⟩ := H.lend (idx_some e114).2 (Lend.snd (off := 1) (Lend.snd (off := 0) (Lend.here)))
      obtain rfl : v118 = u132 := At.eq (hat117 2 _ rfl) hat133
      refine lx_call (xs := [.tmp 30, .tmp 31]) S trivial (by decide) rfl rfl Try.call30 ((laws_markInt64S_ok H  e131).mono ?_)
      rintro e w128 ⟨rfl, H⟩
      have H : Heap w00 (oA (rList Rimpl_Vertex) p0 (((xs62.set x64.toNat (x63, x107.2.1, x107.2.2)).set x64.toNat (x110.1, (W (x63 + (1 : Int))), x110.2.2)).set x64.toNat (x113.1, x113.2.1, x130.2)) :: L) w128 := H.back
      refine ⟨_, rfl, trivial, fun a S => ?_⟩
      refine lx_q (.int .i64 x130.1) S trivial (by decide) (q_assign rfl) (fun a S => ?_)
      refine lx_nil ?_
      refine inBlock_norm ?_
      refine thenN ?_
      refine region_plain ?_
      refine lx_q (.int .i64 x64) S trivial (by decide) (q_move rfl) (fun a S => ?_)
      refine lx_q (.int .i64 (W (x64 + (1 : Int)))) S trivial (by decide) (q_add rfl rfl) (fun a S => ?_)
      refine lx_q (.int .i64 (W (x64 + (1 : Int)))) S trivial (by decide) (q_assign rfl) (fun a S => ?_)
      refine lx_nil ?_
      exact ⟨m103, Nat.lt_succ_self _, (((xs62.set x64.toNat (x63, x107.2.1, x107.2.2)).set x64.toNat (x110.1, (W (x63 + (1 : Int))), x110.2.2)).set x64.toNat (x113.1, x113.2.1, x130.2)), x130.1, (W (x64 + (1 : Int))), S.sub ⟨rfl, rfl, rfl, trivial⟩, H, it_cont hm hc105⟩
    · have hm := ite_f hc106 hm
      refine wp_exit ?_
      refine then_exit ?_
      refine then_exit ?_
      refine inBlock_exit ?_
      obtain rfl := it_brk hm hc105
      exact ⟨x63, xs62, S.sub ⟨rfl, trivial⟩, H, rfl⟩

/-- laws.heldInt64S -/
def laws_heldInt64S_m (fuel : Nat) (a0 : (List Int)) (a1 : Int) : Option (Int) :=
  (iter (fun (s : (Int) × (Int)) => (match s with | (x40, x41) => (if (decide (x41 < (a0.length : Int))) = true then (idx a0 x41).bind fun x61 => (if (x61 != x40) = true then some (.inr (.inr (-1 : Int))) else some (.inl ((W (x40 + (1 : Int))), (W (x41 + (1 : Int)))))) else some (.inr (.inl (x40)))) : Option (((Int) × (Int)) ⊕ ((Int) ⊕ (Int))))) fuel (a1, (0 : Int))).bind fun res52 => ctl (β := Int) (ρ := Int) (τ := Int) res52 (fun (x51) => some (x51)) (fun q => some (q))
set_option maxRecDepth 20000 in
theorem laws_heldInt64S_ok {w0 : World} {fuel : Nat} {p0 : Value} {a0 : (List Int)} {a1 : Int} {r : Int} (h0 : Rd (rList (rInt .i64)) w0 p0 a0) (hm : laws_heldInt64S_m fuel a0 a1 = some r) :
    Calls Try.prog 31 #[p0, .int .i64 a1] w0 fun e w => e = .returned (.int .i64 r) ∧ Heap w0 [] w := by
  unfold laws_heldInt64S_m at hm
  have H := Heap.start w0
  refine enter (args := [p0, .int .i64 a1]) Try.func31 rfl 21 rfl (Nat.le_of_ble_eq_true rfl) (fun a S => ?_)
  refine wp_seq ?_
  refine region_plain ?_
  refine lx_q (.int .i64 (0 : Int)) S trivial (by decide) (q_assign rfl) (fun a S => ?_)
  refine lx_nil ?_
  refine thenN ?_
  refine wp_seq ?_
  refine wp_seq ?_
  refine region_plain ?_
  refine lx_q (.int .i64 (0 : Int)) S trivial (by decide) (q_assign rfl) (fun a S => ?_)
  refine lx_nil ?_
  refine thenN ?_
  obtain ⟨res52, hit53, hk56⟩ := bind_some hm
  obtain ⟨f54, hf55, hit53⟩ := iter_name hit53
  refine block_loop (fun a w => ∃ (x51 : Int), Slots a 21 [(1, (.int .i64 x51))] ∧ Heap w0 [] w ∧ res52 = .inl (x51)) ?_ ?_
  · rintro a w ⟨x51, S, H, rfl⟩
    have hm := ctl_inl hk56
    refine thenN ?_
    refine wp_seq ?_
    refine region_plain ?_
    refine lx_q (.int .i64 x51) S trivial (by decide) (q_move rfl) (fun a S => ?_)
    refine lx_q (.int .i64 x51) S trivial (by decide) (q_assign rfl) (fun a S => ?_)
    refine lx_nil ?_
    refine thenN ?_
    refine wp_ret ?_
    obtain rfl := Option.some.inj hm
    exact leave1 S rfl rfl ⟨rfl, H⟩
  · skip
    refine loop_ghost (fun n a w => ∃ (x40 : Int) (x41 : Int), Slots a 21 [(0, p0), (1, (.int .i64 x40)), (5, (.int .i64 x41))] ∧ Heap w0 [] w ∧ iter f54 n (x40, x41) = some res52) _ ⟨a1, (0 : Int), S.sub ⟨rfl, rfl, rfl, trivial⟩, H, hit53⟩ ?_
    rintro n a w ⟨x40, x41, S, H, hit53⟩
    obtain ⟨m57, o58, rfl, hm, hc59⟩ := iter_step hit53
    rw [hf55] at hm
    refine wp_seq ?_
    refine wp_seq ?_
    refine region_plain ?_
    refine lx_q (.int .i64 x41) S trivial (by decide) (q_move rfl) (fun a S => ?_)
    refine lx_q p0 S trivial (by decide) (q_move rfl) (fun a S => ?_)
    refine lx_q (.int .i64 (a0.length : Int)) S trivial (by decide) (q_lenSl rfl (h0).isSl rfl Try.underlying23) (fun a S => ?_)
    refine lx_q (.bool (decide (x41 < (a0.length : Int)))) S trivial (by decide) (q_lss rfl rfl) (fun a S => ?_)
    refine lx_nil ?_
    refine thenN ?_
    refine cond_b S rfl (fun hc60 => ?_) (fun hc60 => ?_)
    · have hm := ite_t hc60 hm
      refine wp_skip ?_
      refine thenN ?_
      refine wp_seq ?_
      refine wp_block ?_
      refine wp_seq ?_
      refine wp_seq ?_
      refine region_plain ?_
      refine lx_q p0 S trivial (by decide) (q_move rfl) (fun a S => ?_)
      refine lx_q (.int .i64 x41) S trivial (by decide) (q_move rfl) (fun a S => ?_)
      obtain ⟨x61, e62, hm⟩ := bind_some hm
      obtain ⟨c63, h64, hat65⟩ := (h0).elem (idx_some e62).2
      obtain rfl := h64
      have hlt := lt_of_idx (idx_some e62).2
      refine lx_q (ePtr p0 (x41.toNat * 1)) S trivial (by decide) (q_indexAddr rfl (h0).isSl rfl (idx_some e62).1 hlt Try.underlying23 Try.sizeOf2) (fun a S => ?_)
      refine lx_e (.int .i64 x61) S trivial (by decide) rfl trivial (q_load1 rfl Try.isAgg2 (by rintro _ rfl; exact ((hat65 0 _ rfl).ext H.ext))) (fun a S => ?_)
      refine lx_q (.int .i64 x40) S trivial (by decide) (q_move rfl) (fun a S => ?_)
      refine lx_q (.bool (x61 != x40)) S trivial (by decide) (q_neq rfl rfl) (fun a S => ?_)
      refine lx_nil ?_
      refine thenN ?_
      refine cond_b S rfl (fun hc66 => ?_) (fun hc66 => ?_)
      · have hm := ite_t hc66 hm
        refine wp_seq ?_
        refine region_plain ?_
        refine lx_q (.int .i64 (-1 : Int)) S trivial (by decide) (q_assign rfl) (fun a S => ?_)
        refine lx_nil ?_
        refine thenN ?_
        refine wp_ret ?_
        refine then_ret ?_
        refine inBlock_ret ?_
        refine then_ret ?_
        refine then_ret ?_
        refine inBlock_ret ?_
        refine then_ret ?_
        refine then_ret ?_
        obtain rfl := it_brk hm hc59
        have hm := ctl_inr hk56
        obtain rfl := Option.some.inj hm
        exact leave1 S rfl rfl ⟨rfl, H⟩
      · have hm := ite_f hc66 hm
        refine wp_skip ?_
        refine thenN ?_
        refine region_plain ?_
        refine lx_q (.int .i64 x40) S trivial (by decide) (q_move rfl) (fun a S => ?_)
        refine lx_q (.int .i64 (W (x40 + (1 : Int)))) S trivial (by decide) (q_add rfl rfl) (fun a S => ?_)
        refine lx_q (.int .i64 (W (x40 + (1 : Int)))) S trivial (by decide) (q_assign rfl) (fun a S => ?_)
        refine lx_nil ?_
        refine inBlock_norm ?_
        refine thenN ?_
        refine region_plain ?_
        refine lx_q (.int .i64 x41) S trivial (by decide) (q_move rfl) (fun a S => ?_)
        refine lx_q (.int .i64 (W (x41 + (1 : Int)))) S trivial (by decide) (q_add rfl rfl) (fun a S => ?_)
        refine lx_q (.int .i64 (W (x41 + (1 : Int)))) S trivial (by decide) (q_assign rfl) (fun a S => ?_)
        refine lx_nil ?_
        exact ⟨m57, Nat.lt_succ_self _, (W (x40 + (1 : Int))), (W (x41 + (1 : Int))), S.sub ⟨rfl, rfl, rfl, trivial⟩, H, it_cont hm hc59⟩
    · have hm := ite_f hc60 hm
      refine wp_exit ?_
      refine then_exit ?_
      refine then_exit ?_
      refine inBlock_exit ?_
      obtain rfl := it_brk hm hc59
      exact ⟨x40, S.sub ⟨rfl, trivial⟩, H, rfl⟩

/-- laws.heldVertexS -/
def laws_heldVertexS_m (fuel : Nat) (a0 : (List Timpl_Vertex)) (a1 : Int) : Option (Int) :=
  (iter (fun (s : (Int) × (Int)) => (match s with | (x87, x88) => (if (decide (x88 < (a0.length : Int))) = true then (idx a0 x88).bind fun x155 => (if (x155.1 != x87) = true then some (.inr (.inr (-1 : Int))) else (idx a0 x88).bind fun x171 => (if (x171.2.1 != (W (x87 + (1 : Int)))) = true then some (.inr (.inr (-1 : Int))) else (idx a0 x88).bind fun x187 => (laws_heldInt64S_m fuel x187.2.2 (W ((W (x87 + (1 : Int))) + (1 : Int)))).bind fun x204 => (if (decide (x204 < (0 : Int))) = true then some (.inr (.inr (-1 : Int))) else some (.inl (x204, (W (x88 + (1 : Int)))))))) else some (.inr (.inl (x87)))) : Option (((Int) × (Int)) ⊕ ((Int) ⊕ (Int))))) fuel (a1, (0 : Int))).bind fun res146 => ctl (β := Int) (ρ := Int) (τ := Int) res146 (fun (x145) => some (x145)) (fun q => some (q))
set_option maxRecDepth 20000 in
theorem laws_heldVertexS_ok {w0 : World} {fuel : Nat} {p0 : Value} {a0 : (List Timpl_Vertex)} {a1 : Int} {r : Int} (h0 : Rd (rList Rimpl_Vertex) w0 p0 a0) (hm : laws_heldVertexS_m fuel a0 a1 = some r) :
    Calls Try.prog 27 #[p0, .int .i64 a1] w0 fun e w => e = .returned (.int .i64 r) ∧ Heap w0 [] w := by
  unfold laws_heldVertexS_m at hm
  have H := Heap.start w0
  refine enter (args := [p0, .int .i64 a1]) Try.func27 rfl 40 rfl (Nat.le_of_ble_eq_true rfl) (fun a S => ?_)
  refine wp_seq ?_
  refine region_plain ?_
  refine lx_q (.int .i64 (0 : Int)) S trivial (by decide) (q_assign rfl) (fun a S => ?_)
  refine lx_nil ?_
  refine thenN ?_
  refine wp_seq ?_
  refine wp_seq ?_
  refine region_plain ?_
  refine lx_q (.int .i64 (0 : Int)) S trivial (by decide) (q_assign rfl) (fun a S => ?_)
  refine lx_nil ?_
  refine thenN ?_
  obtain ⟨res146, hit147, hk150⟩ := bind_some hm
  obtain ⟨f148, hf149, hit147⟩ := iter_name hit147
  refine block_loop (fun a w => ∃ (x145 : Int), Slots a 40 [(1, (.int .i64 x145))] ∧ Heap w0 [] w ∧ res146 = .inl (x145)) ?_ ?_
  · rintro a w ⟨x145, S, H, rfl⟩
    have hm := ctl_inl hk150
    refine thenN ?_
    refine wp_seq ?_
    refine region_plain ?_
    refine lx_q (.int .i64 x145) S trivial (by decide) (q_move rfl) (fun a S => ?_)
    refine lx_q (.int .i64 x145) S trivial (by decide) (q_assign rfl) (fun a S => ?_)
    refine lx_nil ?_
    refine thenN ?_
    refine wp_ret ?_
    obtain rfl := Option.some.inj hm
    exact leave1 S rfl rfl ⟨rfl, H⟩
  · skip
    refine loop_ghost (fun n a w => ∃ (x87 : Int) (x88 : Int), Slots a 40 [(0, p0), (1, (.int .i64 x87)), (5, (.int .i64 x88))] ∧ Heap w0 [] w ∧ iter f148 n (x87, x88) = some res146) _ ⟨a1, (0 : Int), S.sub ⟨rfl, rfl, rfl, trivial⟩, H, hit147⟩ ?_
    rintro n a w ⟨x87, x88, S, H, hit147⟩
    obtain ⟨m151, o152, rfl, hm, hc153⟩ := iter_step hit147
    rw [hf149] at hm
    refine wp_seq ?_
    refine wp_seq ?_
    refine region_plain ?_
    refine lx_q (.int .i64 x88) S trivial (by decide) (q_move rfl) (fun a S => ?_)
    refine lx_q p0 S trivial (by decide) (q_move rfl) (fun a S => ?_)
    refine lx_q (.int .i64 (a0.length : Int)) S trivial (by decide) (q_lenSl rfl (h0).isSl rfl Try.underlying26) (fun a S => ?_)
    refine lx_q (.bool (decide (x88 < (a0.length : Int)))) S trivial (by decide) (q_lss rfl rfl) (fun a S => ?_)
    refine lx_nil ?_
    refine thenN ?_
    refine cond_b S rfl (fun hc154 => ?_) (fun hc154 => ?_)
    · have hm := ite_t hc154 hm
      refine wp_skip ?_
      refine thenN ?_
      refine wp_seq ?_
      refine wp_block ?_
      refine wp_seq ?_
      refine wp_seq ?_
      refine region_plain ?_
      refine lx_q p0 S trivial (by decide) (q_move rfl) (fun a S => ?_)
      refine lx_q (.int .i64 x88) S trivial (by decide) (q_move rfl) (fun a S => ?_)
      obtain ⟨x155, e156, hm⟩ := bind_some hm
      obtain ⟨c157, h158, hat159⟩ := (h0).elem (idx_some e156).2
      obtain ⟨c162, c163, rfl, h164, h165⟩ := h158
      obtain rfl := h164
      obtain ⟨c166, c167, rfl, h168, h169⟩ := h165
      obtain rfl := h168
      obtain ⟨v160, rfl, h161⟩ := rd_list h169
      have hlt := lt_of_idx (idx_some e156).2
      refine lx_q (ePtr p0 (x88.toNat * 3)) S trivial (by decide) (q_indexAddr rfl (h0).isSl rfl (idx_some e156).1 hlt Try.underlying26 Try.sizeOf71) (fun a S => ?_)
      refine lx_q (pAdd (ePtr p0 (x88.toNat * 3)) 0) S trivial (by decide) (q_fieldAddr' 0 2 rfl ((hat159 0 _ rfl).isP) Try.underlying71 rfl Try.sizeOf2) (fun a S => ?_)
      refine lx_e (.int .i64 x155.1) S trivial (by decide) rfl trivial (q_load1 rfl Try.isAgg2 (by rintro _ rfl; exact (At.of_add (m := 0) (j := 0) ((hat159 0 _ rfl).ext H.ext)))) (fun a S => ?_)
      refine lx_q (.int .i64 x87) S trivial (by decide) (q_move rfl) (fun a S => ?_)
      refine lx_q (.bool (x155.1 != x87)) S trivial (by decide) (q_neq rfl rfl) (fun a S => ?_)
      refine lx_nil ?_
      refine thenN ?_
      refine cond_b S rfl (fun hc170 => ?_) (fun hc170 => ?_)
      · have hm := ite_t hc170 hm
        refine wp_seq ?_
        refine region_plain ?_
        refine lx_q (.int .i64 (-1 : Int)) S trivial (by decide) (q_assign rfl) (fun a S => ?_)
        refine lx_nil ?_
        refine thenN ?_
        refine wp_ret ?_
        refine then_ret ?_
        refine inBlock_ret ?_
        refine then_ret ?_
        refine then_ret ?_
        refine inBlock_ret ?_
        refine then_ret ?_
        refine then_ret ?_
        obtain rfl := it_brk hm hc153
        have hm := ctl_inr hk150
        obtain rfl := Option.some.inj hm
        exact leave1 S rfl rfl ⟨rfl, H⟩
      · have hm := ite_f hc170 hm
        refine wp_skip ?_
        refine thenN ?_
        refine wp_seq ?_
        refine region_plain ?_
        refine lx_q (.int .i64 x87) S trivial (by decide) (q_move rfl) (fun a S => ?_)
        refine lx_q (.int .i64 (W (x87 + (1 : Int)))) S trivial (by decide) (q_add rfl rfl) (fun a S => ?_)
        refine lx_q (.int .i64 (W (x87 + (1 : Int)))) S trivial (by decide) (q_assign rfl) (fun a S => ?_)
        refine lx_nil ?_
        refine thenN ?_
        refine wp_seq ?_
        refine wp_seq ?_
        refine region_plain ?_
        refine lx_q p0 S trivial (by decide) (q_move rfl) (fun a S => ?_)
        refine lx_q (.int .i64 x88) S trivial (by decide) (q_move rfl) (fun a S => ?_)
        obtain ⟨x171, e172, hm⟩ := bind_some hm
        obtain ⟨c173, h174, hat175⟩ := (h0).elem (idx_some e172).2
        obtain ⟨c178, c179, rfl, h180, h181⟩ := h174
        obtain rfl := h180
        obtain ⟨c182, c183, rfl, h184, h185⟩ := h181
        obtain rfl := h184
        obtain ⟨v176, rfl, h177⟩ := rd_list h185
        have hlt := lt_of_idx (idx_some e172).2
        refine lx_q (ePtr p0 (x88.toNat * 3)) S trivial (by decide) (q_indexAddr rfl (h0).isSl rfl (idx_some e172).1 hlt Try.underlying26 Try.sizeOf71) (fun a S => ?_)
        refine lx_q (pAdd (ePtr p0 (x88.toNat * 3)) 1) S trivial (by decide) (q_fieldAddr' 1 2 rfl ((hat175 0 _ rfl).isP) Try.underlying71 rfl Try.sizeOf2) (fun a S => ?_)
        refine lx_e (.int .i64 x171.2.1) S trivial (by decide) rfl trivial (q_load1 rfl Try.isAgg2 (by rintro _ rfl; exact (At.of_add (m := 1) (j := 0) ((hat175 1 _ rfl).ext H.ext)))) (fun a S => ?_)
        refine lx_q (.int .i64 (W (x87 + (1 : Int)))) S trivial (by decide) (q_move rfl) (fun a S => ?_)
        refine lx_q (.bool (x171.2.1 != (W (x87 + (1 : Int))))) S trivial (by decide) (q_neq rfl rfl) (fun a S => ?_)
        refine lx_nil ?_
        refine thenN ?_
        refine cond_b S rfl (fun hc186 => ?_) (fun hc186 => ?_)
        · have hm := ite_t hc186 hm
          refine wp_seq ?_
          refine region_plain ?_
          refine lx_q (.int .i64 (-1 : Int)) S trivial (by decide) (q_assign rfl) (fun a S => ?_)
          refine lx_nil ?_
          refine thenN ?_
          refine wp_ret ?_
          refine then_ret ?_
          refine inBlock_ret ?_
          refine then_ret ?_
          refine then_ret ?_
          refine inBlock_ret ?_
          refine then_ret ?_
          refine then_ret ?_
          obtain rfl := it_brk hm hc153
          have hm := ctl_inr hk150
          obtain rfl := Option.some.inj hm
          exact leave1 S rfl rfl ⟨rfl, H⟩
        · have hm := ite_f hc186 hm
          refine wp_skip ?_
          refine thenN ?_
          refine wp_seq ?_
          refine region_plain ?_
          refine lx_q (.int .i64 (W (x87 + (1 : Int)))) S trivial (by decide) (q_move rfl) (fun a S => ?_)
          refine lx_q (.int .i64 (W ((W (x87 + (1 : Int))) + (1 : Int)))) S trivial (by decide) (q_add rfl rfl) (fun a S => ?_)
          refine lx_q (.int .i64 (W ((W (x87 + (1 : Int))) + (1 : Int)))) S trivial (by decide) (q_assign rfl) (fun a S => ?_)
          refine lx_nil ?_
          refine thenN ?_
          refine wp_seq ?_
          refine region_plain ?_
          refine lx_q p0 S trivial (by decide) (q_move rfl) (fun a S => ?_)
          refine lx_q (.int .i64 x88) S trivial (by decide) (q_move rfl) (fun a S => ?_)
          obtain ⟨x187, e188, hm⟩ := bind_some hm
          obtain ⟨c189, h190, hat191⟩ := (h0).elem (idx_some e188).2
          obtain ⟨c194, c195, rfl, h196, h197⟩ := h190
          obtain rfl := h196
          obtain ⟨c198, c199, rfl, h200, h201⟩ := h197
          obtain rfl := h200
          obtain ⟨v192, rfl, h193⟩ := rd_list h201
          have hlt := lt_of_idx (idx_some e188).2
          refine lx_q (ePtr p0 (x88.toNat * 3)) S trivial (by decide) (q_indexAddr rfl (h0).isSl rfl (idx_some e188).1 hlt Try.underlying26 Try.sizeOf71) (fun a S => ?_)
          refine lx_q (pAdd (ePtr p0 (x88.toNat * 3)) 2) S trivial (by decide) (q_fieldAddr' 2 23 rfl ((hat191 0 _ rfl).isP) Try.underlying71 rfl Try.sizeOf23) (fun a S => ?_)
          refine lx_e v192 S trivial (by decide) rfl trivial (q_load1 rfl Try.isAgg23 (by rintro _ rfl; exact (At.of_add (m := 2) (j := 0) ((hat191 2 _ rfl).ext H.ext)))) (fun a S => ?_)
          refine lx_q (.int .i64 (W ((W (x87 + (1 : Int))) + (1 : Int)))) S trivial (by decide) (q_move rfl) (fun a S => ?_)
          obtain ⟨x204, e205, hm⟩ := bind_some hm
          refine lx_call (xs := [.tmp 34, .tmp 35]) S trivial (by decide) rfl rfl Try.call31 ((laws_heldInt64S_ok (H.arg h193)  e205).mono ?_)
          rintro e w202 ⟨rfl, Hc203⟩
          have he206 := Hc203.ext
          have H := H.call0 Hc203
          refine ⟨_, rfl, trivial, fun a S => ?_⟩
          refine lx_q (.int .i64 x204) S trivial (by decide) (q_assign rfl) (fun a S => ?_)
          refine lx_nil ?_
          refine thenN ?_
          refine wp_seq ?_
          refine region_plain ?_
          refine lx_q (.int .i64 x204) S trivial (by decide) (q_move rfl) (fun a S => ?_)
          refine lx_q (.bool (decide (x204 < (0 : Int)))) S trivial (by decide) (q_lss rfl rfl) (fun a S => ?_)
          refine lx_nil ?_
          refine thenN ?_
          refine cond_b S rfl (fun hc207 => ?_) (fun hc207 => ?_)
          · have hm := ite_t hc207 hm
            refine wp_seq ?_
            refine region_plain ?_
            refine lx_q (.int .i64 (-1 : Int)) S trivial (by decide) (q_assign rfl) (fun a S => ?_)
            refine lx_nil ?_
            refine thenN ?_
            refine wp_ret ?_
            refine inBlock_ret ?_
            refine then_ret ?_
            refine then_ret ?_
            refine inBlock_ret ?_
            refine then_ret ?_
            refine then_ret ?_
            obtain rfl := it_brk hm hc153
            have hm := ctl_inr hk150
            obtain rfl := Option.some.inj hm
            exact leave1 S rfl rfl ⟨rfl, H⟩
          · have hm := ite_f hc207 hm
            refine wp_skip ?_
            refine inBlock_norm ?_
            refine thenN ?_
            refine region_plain ?_
            refine lx_q (.int .i64 x88) S trivial (by decide) (q_move rfl) (fun a S => ?_)
            refine lx_q (.int .i64 (W (x88 + (1 : Int)))) S trivial (by decide) (q_add rfl rfl) (fun a S => ?_)
            refine lx_q (.int .i64 (W (x88 + (1 : Int)))) S trivial (by decide) (q_assign rfl) (fun a S => ?_)
            refine lx_nil ?_
            exact ⟨m151, Nat.lt_succ_self _, x204, (W (x88 + (1 : Int))), S.sub ⟨rfl, rfl, rfl, trivial⟩, H, it_cont hm hc153⟩
    · have hm := ite_f hc154 hm
      refine wp_exit ?_
      refine then_exit ?_
      refine then_exit ?_
      refine inBlock_exit ?_
      obtain rfl := it_brk hm hc153
      exact ⟨x87, S.sub ⟨rfl, trivial⟩, H, rfl⟩
end Go.Proofs.Ytecknjdlbmmmiaa
