/- The model of a statement and its walk (printed by a program of this repo). -/
import Derived.Test.YtghhodobmlgpfaaF0
import Derived.Test.YtghhodobmlgpfaaF3
import Derived.Test.YtghhodobmlgpfaaF4
import Derived.Test.YtghhodobmlgpfaaF5
import Derived.Test.YtghhodobmlgpfaaFS
import Derived.Test.YtghhodobmlgpfaaGxMx
import Derived.Test.YtghhodobmlgpfaaGxT
import Derived.Test.YtghhodobmlgpfaaGxY
namespace Go.Proofs.Ytghhodobmlgpfaa
open Go.RowKit Go.Gx

/-- spec.l23Own -/
def spec_l23Own_m (fuel : Nat) (a0 : (List Timpl_Vertex)) : Option ((List Timpl_Vertex)) :=
  (iter (fun (s : (List Timpl_Vertex) × (Int)) => (match s with | (xs102, x104) => (if (decide (x104 < (a0.length : Int))) = true then (idx a0 x104).bind fun x186 => (idx a0 x104).bind fun x201 => (idx a0 x104).bind fun x216 => (spec_l00Own_m fuel x216.2.2).bind fun x233 => (app xs102 [(x186.1, x201.2.1, x233)]).bind fun x241 => some (.inl (x241, (W (x104 + (1 : Int))))) else some (.inr (.inl (xs102)))) : Option (((List Timpl_Vertex) × (Int)) ⊕ (((List Timpl_Vertex)) ⊕ ((List Timpl_Vertex)))))) fuel (([] : List Timpl_Vertex), (0 : Int))).bind fun res175 => ctl (β := (List Timpl_Vertex)) (ρ := (List Timpl_Vertex)) (τ := (List Timpl_Vertex)) res175 (fun (xs173) => some (xs173)) (fun q => some (q))
set_option maxRecDepth 20000 in
theorem spec_l23Own_ok {w0 : World} {fuel : Nat} {p0 : Value} {a0 : (List Timpl_Vertex)} {r : (List Timpl_Vertex)} (h0 : Rd (rList Rimpl_Vertex) w0 p0 a0) (hm : spec_l23Own_m fuel a0 = some r) :
  Calls Try.prog 53 #[p0] w0 fun e w => ∃ (v0 : Value), e = .returned (v0) ∧ Heap w0 [oA (rList Rimpl_Vertex) v0 r] w := by
 unfold spec_l23Own_m at hm
 have H := Heap.start w0
 refine enter (args := [p0]) Try.func53 rfl 33 rfl (Nat.le_of_ble_eq_true rfl) (fun a S => ?_)
 refine wp_seq (region_plain ?_)
 refine lq (.slice none 0 0) S (q_assign rfl) fun a S => ?_
 refine lx_nil (thenN ?_)
 refine wp_seq (region_plain ?_)
 refine lx_buildSlice0 (r := Rimpl_Vertex) S trivial (by decide) rfl H Try.underlying42 Try.sizeOf75 (fun v31 w32 H => ⟨trivial, fun a S => ?_⟩)
 refine lq v31 S (q_assign rfl) fun a S => ?_
 refine lx_nil (thenN ?_)
 refine wp_seq (wp_seq (region_plain ?_))
 refine lq (.int .i64 (0 : Int)) S (q_assign rfl) fun a S => ?_
 refine lx_nil (thenN ?_)
 obtain ⟨res175, hit176, hk179⟩ := bind_some hm
 obtain ⟨f177, hf178, hit176⟩ := iter_name hit176
 refine block_loop (fun a w => ∃ (xs173 : List Timpl_Vertex) (v172 : Value), Slots a 33 [(3, v172)] ∧ Heap w0 [oA (rList Rimpl_Vertex) v172 xs173] w ∧ res175 = .inl (xs173)) ?_ ?_
 ·rintro a w ⟨xs173, v172, S, H, rfl⟩
  have hm := ctl_inl hk179
  refine thenN ?_
  refine wp_seq (region_plain ?_)
  refine lq v172 S (q_move rfl) fun a S => ?_
  refine lq v172 S (q_assign rfl) fun a S => ?_
  refine lx_nil (thenN ?_)
  refine wp_ret ?_
  obtain rfl := Option.some.inj hm
  exact leave1 S rfl rfl ⟨v172, rfl, H⟩
 ·skip
  refine loop_ghost (fun n a w => ∃ (xs102 : List Timpl_Vertex) (x104 : Int) (v101 : Value), Slots a 33 [(0, p0), (3, v101), (4, (.int .i64 x104))] ∧ Heap w0 [oA (rList Rimpl_Vertex) v101 xs102] w ∧ iter f177 n (xs102, x104) = some res175) _ ⟨([] : List Timpl_Vertex), (0 : Int), v31, S.sub ⟨rfl, rfl, rfl, trivial⟩, H, hit176⟩ ?_
  rintro n a w ⟨xs102, x104, v101, S, H, hit176⟩
  obtain ⟨m180, o181, rfl, hm, hc182⟩ := iter_step hit176
  rw [hf178] at hm
  refine wp_seq (wp_seq (region_plain ?_))
  refine lq (.int .i64 x104) S (q_move rfl) fun a S => ?_
  refine lq p0 S (q_move rfl) fun a S => ?_
  refine lq (.int .i64 (a0.length : Int)) S (q_lenSl rfl (h0).isSl rfl Try.underlying42) fun a S => ?_
  refine lq (.bool (decide (x104 < (a0.length : Int)))) S (q_lss rfl rfl) fun a S => ?_
  refine lx_nil (thenN ?_)
  refine cond_b S rfl (fun hc183 => ?_) (fun hc183 => ?_)
  ·have hm := ite_t hc183 hm
   refine wp_skip (thenN ?_)
   refine wp_seq ?_
   refine wp_block ?_
   refine region_drawG (fun w1 => Heap w0 [] w1) (fun i => [16, 18, 19].contains i) mixed (by kernel_rfl) (fun w185 he184 => ?_)
   have H := H.later he184
   refine ⟨H.sel [] (by decide), ?_⟩
   refine lq v101 S (q_move rfl) fun a S => ?_
   refine lq p0 S (q_move rfl) fun a S => ?_
   refine lq (.int .i64 x104) S (q_move rfl) fun a S => ?_
   obtain ⟨x186, e187, hm⟩ := bind_some hm
   obtain ⟨c188, h189, hat190⟩ := (h0).elem (idx_some e187).2
   obtain ⟨c193, c194, rfl, h195, h196⟩ := h189
   obtain rfl := h195
   obtain ⟨c197, c198, rfl, h199, h200⟩ := h196
   obtain rfl := h199
   obtain ⟨v191, rfl, h192⟩ := rd_list h200
   have hlt := lt_of_idx (idx_some e187).2
   refine lq (ePtr p0 (x104.toNat * 3)) S (q_indexAddr rfl (h0).isSl rfl (idx_some e187).1 hlt Try.underlying42 Try.sizeOf75) fun a S => ?_
   refine lq (pAdd (ePtr p0 (x104.toNat * 3)) 0) S (q_fieldAddr' 0 2 rfl ((hat190 0 _ rfl).isP) Try.underlying75 rfl Try.sizeOf2) fun a S => ?_
   refine lq (.int .i64 x186.1) S (q_load1 rfl Try.isAgg2 (fun w1 hC => (At.of_add (m := 0) (j := 0) ((hat190 0 _ rfl).ext hC.ext)))) fun a S => ?_
   refine lq p0 S (q_move rfl) fun a S => ?_
   refine lq (.int .i64 x104) S (q_move rfl) fun a S => ?_
   obtain ⟨x201, e202, hm⟩ := bind_some hm
   obtain ⟨c203, h204, hat205⟩ := (h0).elem (idx_some e202).2
   obtain ⟨c208, c209, rfl, h210, h211⟩ := h204
   obtain rfl := h210
   obtain ⟨c212, c213, rfl, h214, h215⟩ := h211
   obtain rfl := h214
   obtain ⟨v206, rfl, h207⟩ := rd_list h215
   have hlt := lt_of_idx (idx_some e202).2
   refine lq (ePtr p0 (x104.toNat * 3)) S (q_indexAddr rfl (h0).isSl rfl (idx_some e202).1 hlt Try.underlying42 Try.sizeOf75) fun a S => ?_
   refine lq (pAdd (ePtr p0 (x104.toNat * 3)) 1) S (q_fieldAddr' 1 2 rfl ((hat205 0 _ rfl).isP) Try.underlying75 rfl Try.sizeOf2) fun a S => ?_
   refine lq (.int .i64 x201.2.1) S (q_load1 rfl Try.isAgg2 (fun w1 hC => (At.of_add (m := 1) (j := 0) ((hat205 1 _ rfl).ext hC.ext)))) fun a S => ?_
   refine lq p0 S (q_move rfl) fun a S => ?_
   refine lq (.int .i64 x104) S (q_move rfl) fun a S => ?_
   obtain ⟨x216, e217, hm⟩ := bind_some hm
   obtain ⟨c218, h219, hat220⟩ := (h0).elem (idx_some e217).2
   obtain ⟨c223, c224, rfl, h225, h226⟩ := h219
   obtain rfl := h225
   obtain ⟨c227, c228, rfl, h229, h230⟩ := h226
   obtain rfl := h229
   obtain ⟨v221, rfl, h222⟩ := rd_list h230
   have hlt := lt_of_idx (idx_some e217).2
   refine lq (ePtr p0 (x104.toNat * 3)) S (q_indexAddr rfl (h0).isSl rfl (idx_some e217).1 hlt Try.underlying42 Try.sizeOf75) fun a S => ?_
   refine lq (pAdd (ePtr p0 (x104.toNat * 3)) 2) S (q_fieldAddr' 2 29 rfl ((hat220 0 _ rfl).isP) Try.underlying75 rfl Try.sizeOf29) fun a S => ?_
   refine lq v221 S (q_load1 rfl Try.isAgg29 (fun w1 hC => (At.of_add (m := 2) (j := 0) ((hat220 2 _ rfl).ext hC.ext)))) fun a S => ?_
   obtain ⟨x233, e234, hm⟩ := bind_some hm
   refine lx_call (xs := [.tmp 27]) S trivial (by decide) rfl rfl Try.call58 ((spec_l00Own_ok (H.arg h222) e234).mono ?_)
   rintro e w231 ⟨v235, rfl, Hc232⟩
   have H := H.call1 Hc232
   refine ⟨_, rfl, H.sel [] (by decide), fun a S => ?_⟩
   refine lq (.agg #[(.int .i64 x186.1), (.int .i64 x201.2.1), v235]) S (q_build (zs := [(.int .i64 (0 : Int)), (.int .i64 (0 : Int)), (.slice none 0 0)]) (szs := [1, 1, 1]) (ps := [(0, [(.int .i64 x186.1)]), (1, [(.int .i64 x201.2.1)]), (2, [v235])]) (parts := [(0, .tmp 17), (1, .tmp 22), (2, .tmp 28)]) rfl Try.underlying75 Try.zeroValue75 (fun w => by simp [Try.sizeOf2, Try.sizeOf29]) ⟨rfl, rfl, Nat.le_of_ble_eq_true rfl, ⟨rfl, rfl, Nat.le_of_ble_eq_true rfl, ⟨rfl, (cells_sl (H.isSl 0 rfl)), Nat.le_of_ble_eq_true rfl, trivial⟩⟩⟩ rfl) fun a S => ?_
   refine lx_buildSlice (r := Rimpl_Vertex) (xs := [(x186.1, x201.2.1, x233)]) (ps := [(0, [(.int .i64 x186.1), (.int .i64 x201.2.1), v235])]) (cs := [(.int .i64 x186.1), (.int .i64 x201.2.1), v235]) (parts := [(0, .tmp 29)]) S trivial (by decide) rfl H rfl Try.underlying42 Try.sizeOf75 Try.zeroValue75 (by decide) ⟨rfl, rfl, Nat.le_of_ble_eq_true rfl, trivial⟩ (by intro zs hz; exact fill_dense hz ⟨rfl, trivial⟩ rfl rfl) rfl (by decide) (fun w F hA => ownL_one_mk (ownF ⟨_, _, [(.int .i64 x186.1)], [(.int .i64 x201.2.1), v235], rfl, rfl, ⟨rfl, rfl⟩, ⟨_, _, [(.int .i64 x201.2.1)], [v235], rfl, rfl, ⟨rfl, rfl⟩, (oA_list.1 hA)⟩⟩)) (fun v238 w239 H => ⟨H.sel [] (by decide), fun a S => ?_⟩)
   obtain ⟨x241, e242, hm⟩ := bind_some hm
   obtain ⟨hle, hap⟩ := app_some e242
   replace hap := hap.symm
   subst hap
   have H : Heap w0 [oA (rList Rimpl_Vertex) v238 [(x186.1, x201.2.1, x233)], oA (rList Rimpl_Vertex) v101 xs102] w239 := H.front 0 rfl
   have H : Heap w0 [oA (rList Rimpl_Vertex) v101 xs102, oA (rList Rimpl_Vertex) v238 [(x186.1, x201.2.1, x233)]] w239 := H.front 1 rfl
   refine lx_appendOwn (r := Rimpl_Vertex) S trivial (by decide) rfl H rfl rfl Try.underlying42 Try.ti75 rfl rfl rfl (Nat.le_of_ble_eq_true rfl) (by decide) hle (fun v243 w244 H => ⟨H.sel [] (by decide), fun a S => ?_⟩)
   refine lq v243 S (q_assign rfl) fun a S => ?_
   refine lx_nil ?_
   refine inBlock_norm ?_
   refine thenN ?_
   refine region_plain ?_
   refine lq (.int .i64 x104) S (q_move rfl) fun a S => ?_
   refine lq (.int .i64 (W (x104 + (1 : Int)))) S (q_add rfl rfl) fun a S => ?_
   refine lq (.int .i64 (W (x104 + (1 : Int)))) S (q_assign rfl) fun a S => ?_
   refine lx_nil ?_
   exact ⟨m180, Nat.lt_succ_self _, (xs102 ++ [(x186.1, x201.2.1, x233)]), (W (x104 + (1 : Int))), v243, S.sub ⟨rfl, rfl, rfl, trivial⟩, H, it_cont hm hc182⟩
  ·have hm := ite_f hc183 hm
   refine wp_exit ?_
   refine then_exit ?_
   refine then_exit ?_
   refine inBlock_exit ?_
   obtain rfl := it_brk hm hc182
   exact ⟨xs102, v101, S.sub ⟨rfl, trivial⟩, H, rfl⟩

/-- spec.DualGame -/
def spec_DualGame_m (fuel : Nat) (a0 : (List Timpl_Vertex)) : Option (((List Timpl_Vertex) × Int)) :=
  (spec_l23Is_m fuel a0).bind fun x33 => (if (!x33) = true then some (([], (1 : Int))) else (spec_l23Own_m fuel a0).bind fun x40 => (iter (fun (s : (List Timpl_Vertex) × (Int)) => (match s with | (xs100, x101) => (if (decide (x101 < (xs100.length : Int))) = true then (idx xs100 x101).bind fun x167 => (idx xs100 x101).bind fun x182 => (idx (xs100.set x101.toNat ((W ((1 : Int) - x167.1)), x182.2.1, x182.2.2)) x101).bind fun x185 => (idx (xs100.set x101.toNat ((W ((1 : Int) - x167.1)), x182.2.1, x182.2.2)) x101).bind fun x200 => (idx ((xs100.set x101.toNat ((W ((1 : Int) - x167.1)), x182.2.1, x182.2.2)).set x101.toNat (x200.1, (W (x185.2.1 + (1 : Int))), x200.2.2)) x101).bind fun x203 => (if (decide ((9 : Int) < x203.2.1)) = true then some (.inr (.inr ([], (5 : Int)))) else some (.inl (((xs100.set x101.toNat ((W ((1 : Int) - x167.1)), x182.2.1, x182.2.2)).set x101.toNat (x200.1, (W (x185.2.1 + (1 : Int))), x200.2.2)), (W (x101 + (1 : Int)))))) else some (.inr (.inl (xs100)))) : Option (((List Timpl_Vertex) × (Int)) ⊕ (((List Timpl_Vertex)) ⊕ (((List Timpl_Vertex) × Int)))))) fuel (x40, (0 : Int))).bind fun res158 => ctl (β := (List Timpl_Vertex)) (ρ := ((List Timpl_Vertex) × Int)) (τ := ((List Timpl_Vertex) × Int)) res158 (fun (xs157) => some ((xs157, (0 : Int)))) (fun q => some (q)))
set_option maxRecDepth 20000 in
theorem spec_DualGame_ok {w0 : World} {fuel : Nat} {p0 : Value} {a0 : (List Timpl_Vertex)} {r : ((List Timpl_Vertex) × Int)} (h0 : Rd (rList Rimpl_Vertex) w0 p0 a0) (hm : spec_DualGame_m fuel a0 = some r) :
  Calls Try.prog 25 #[p0] w0 fun e w => ∃ (v0 : Value), e = .returned (.tuple #[v0, .int .i64 r.2]) ∧ Heap w0 [oA (rList Rimpl_Vertex) v0 r.1] w := by
 unfold spec_DualGame_m at hm
 have H := Heap.start w0
 refine enter (args := [p0]) Try.func25 rfl 42 rfl (Nat.le_of_ble_eq_true rfl) (fun a S => ?_)
 refine wp_seq (region_plain ?_)
 refine lq (.slice none 0 0) S (q_assign rfl) fun a S => ?_
 refine lq (.int .i64 (0 : Int)) S (q_assign rfl) fun a S => ?_
 refine lx_nil (thenN ?_)
 refine wp_seq (wp_seq (region_plain ?_))
 refine lq p0 S (q_move rfl) fun a S => ?_
 obtain ⟨x33, e34, hm⟩ := bind_some hm
 refine lx_call (xs := [.tmp 6]) S trivial (by decide) rfl rfl Try.call52 ((spec_l23Is_ok (H.arg h0) e34).mono ?_)
 rintro e w31 ⟨rfl, Hc32⟩
 have H := H.call0 Hc32
 refine ⟨_, rfl, trivial, fun a S => ?_⟩
 refine lq (.bool (!x33)) S (q_not rfl) fun a S => ?_
 refine lx_nil (thenN ?_)
 refine cond_b S rfl (fun hc36 => ?_) (fun hc36 => ?_)
 ·have hm := ite_t hc36 hm
  refine wp_seq (region_plain ?_)
  refine lq (.slice none 0 0) S (q_assign rfl) fun a S => ?_
  refine lq (.int .i64 (1 : Int)) S (q_assign rfl) fun a S => ?_
  refine lx_nil (thenN ?_)
  refine wp_ret (then_ret ?_)
  obtain rfl := Option.some.inj hm
  have H : Heap w0 [oA (rList Rimpl_Vertex) (.slice none 0 0) ([] : List Timpl_Vertex)] w31 := H.nilList Rimpl_Vertex
  exact leave2 S rfl rfl rfl ⟨(.slice none 0 0), rfl, H⟩
 ·have hm := ite_f hc36 hm
  refine wp_skip (thenN ?_)
  refine wp_seq (region_plain ?_)
  refine lq p0 S (q_move rfl) fun a S => ?_
  obtain ⟨x40, e41, hm⟩ := bind_some hm
  refine lx_call (xs := [.tmp 9]) S trivial (by decide) rfl rfl Try.call53 ((spec_l23Own_ok (H.arg h0) e41).mono ?_)
  rintro e w38 ⟨v42, rfl, Hc39⟩
  have H := H.call1 Hc39
  refine ⟨_, rfl, trivial, fun a S => ?_⟩
  refine lq v42 S (q_assign rfl) fun a S => ?_
  refine lx_nil (thenN ?_)
  refine wp_seq (wp_seq (region_plain ?_))
  refine lq (.int .i64 (0 : Int)) S (q_assign rfl) fun a S => ?_
  refine lx_nil (thenN ?_)
  obtain ⟨res158, hit159, hk162⟩ := bind_some hm
  obtain ⟨f160, hf161, hit159⟩ := iter_name hit159
  refine block_loop (fun a w => ∃ (xs157 : List Timpl_Vertex), Slots a 42 [(4, v42)] ∧ Heap w0 [oA (rList Rimpl_Vertex) v42 xs157] w ∧ res158 = .inl (xs157)) ?_ ?_
  ·rintro a w ⟨xs157, S, H, rfl⟩
   have hm := ctl_inl hk162
   refine thenN ?_
   refine wp_seq (region_plain ?_)
   refine lq v42 S (q_move rfl) fun a S => ?_
   refine lq v42 S (q_assign rfl) fun a S => ?_
   refine lq (.int .i64 (0 : Int)) S (q_assign rfl) fun a S => ?_
   refine lx_nil (thenN ?_)
   refine wp_ret ?_
   obtain rfl := Option.some.inj hm
   exact leave2 S rfl rfl rfl ⟨v42, rfl, H⟩
  ·skip
   refine loop_ghost (fun n a w => ∃ (xs100 : List Timpl_Vertex) (x101 : Int), Slots a 42 [(4, v42), (5, (.int .i64 x101))] ∧ Heap w0 [oA (rList Rimpl_Vertex) v42 xs100] w ∧ iter f160 n (xs100, x101) = some res158) _ ⟨x40, (0 : Int), S.sub ⟨rfl, rfl, trivial⟩, H, hit159⟩ ?_
   rintro n a w ⟨xs100, x101, S, H, hit159⟩
   obtain ⟨m163, o164, rfl, hm, hc165⟩ := iter_step hit159
   rw [hf161] at hm
   refine wp_seq (wp_seq (region_plain ?_))
   refine lq (.int .i64 x101) S (q_move rfl) fun a S => ?_
   refine lq v42 S (q_move rfl) fun a S => ?_
   refine lq (.int .i64 (xs100.length : Int)) S (q_lenSl rfl (H.isSl 0 rfl) rfl Try.underlying42) fun a S => ?_
   refine lq (.bool (decide (x101 < (xs100.length : Int)))) S (q_lss rfl rfl) fun a S => ?_
   refine lx_nil (thenN ?_)
   refine cond_b S rfl (fun hc166 => ?_) (fun hc166 => ?_)
   ·have hm := ite_t hc166 hm
    refine wp_skip (thenN ?_)
    refine wp_seq ?_
    refine wp_block ?_
    refine wp_seq (region_plain ?_)
    refine lq v42 S (q_move rfl) fun a S => ?_
    refine lq (.int .i64 x101) S (q_move rfl) fun a S => ?_
    refine lq v42 S (q_move rfl) fun a S => ?_
    refine lq (.int .i64 x101) S (q_move rfl) fun a S => ?_
    obtain ⟨x167, e168, hm⟩ := bind_some hm
    have hlt := lt_of_idx (idx_some e168).2
    refine lq (ePtr v42 (x101.toNat * 3)) S (q_indexAddr rfl (H.isSl 0 rfl) rfl (idx_some e168).1 hlt Try.underlying42 Try.sizeOf75) fun a S => ?_
    refine lq (pAdd (ePtr v42 (x101.toNat * 3)) 0) S (q_fieldAddr' 0 2 rfl (((H.isSl 0 rfl)).ptr (lt_of_idx (idx_some e168).2) _) Try.underlying75 rfl Try.sizeOf2) fun a S => ?_
    obtain ⟨c169, h170, hat171⟩ := (H.rdAt 0 rfl).elem (idx_some e168).2
    obtain ⟨c174, c175, rfl, h176, h177⟩ := h170
    obtain rfl := h176
    obtain ⟨c178, c179, rfl, h180, h181⟩ := h177
    obtain rfl := h180
    obtain ⟨v172, rfl, h173⟩ := rd_list h181
    refine lx_e (.int .i64 x167.1) S trivial (by decide) rfl trivial (q_load1 rfl Try.isAgg2 (by rintro _ rfl; exact (At.of_add (m := 0) (j := 0) (hat171 0 _ rfl)))) (fun a S => ?_)
    refine lq (.int .i64 (W ((1 : Int) - x167.1))) S (q_sub rfl rfl) fun a S => ?_
    obtain ⟨x182, e183, hm⟩ := bind_some hm
    have hlt := lt_of_idx (idx_some e183).2
    refine lq (ePtr v42 (x101.toNat * 3)) S (q_indexAddr rfl (H.isSl 0 rfl) rfl (idx_some e183).1 hlt Try.underlying42 Try.sizeOf75) fun a S => ?_
    refine lq (pAdd (ePtr v42 (x101.toNat * 3)) 0) S (q_fieldAddr' 0 2 rfl (((H.isSl 0 rfl)).ptr (lt_of_idx (idx_some e183).2) _) Try.underlying75 rfl Try.sizeOf2) fun a S => ?_
    refine lx_storeElem (r := Rimpl_Vertex) (us := [(.int .i64 (W ((1 : Int) - x167.1)))]) (off := 0) (e' := ((W ((1 : Int) - x167.1)), x182.2.1, x182.2.2)) S trivial rfl H.putE rfl rfl (idx_some e183).2 rfl Try.sizeOf2 (Nat.le_of_ble_eq_true rfl) (List.forall_mem_cons.2 ⟨rfl, (fun _ h => nomatch h)⟩) (Upd.fst (off := 0) (Nat.le_of_ble_eq_true rfl) (Upd.full rfl (fun w G hG => by cases (show G = [] from hG); exact ⟨rfl, rfl⟩))) (fun w184 H => ⟨trivial, fun a S => ?_⟩)
    refine lx_nil (thenN ?_)
    refine wp_seq (region_plain ?_)
    refine lq v42 S (q_move rfl) fun a S => ?_
    refine lq (.int .i64 x101) S (q_move rfl) fun a S => ?_
    obtain ⟨x185, e186, hm⟩ := bind_some hm
    have hlt := lt_of_idx (idx_some e186).2
    refine lq (ePtr v42 (x101.toNat * 3)) S (q_indexAddr rfl (H.isSl 0 rfl) rfl (idx_some e186).1 hlt Try.underlying42 Try.sizeOf75) fun a S => ?_
    refine lq (pAdd (ePtr v42 (x101.toNat * 3)) 1) S (q_fieldAddr' 1 2 rfl (((H.isSl 0 rfl)).ptr (lt_of_idx (idx_some e186).2) _) Try.underlying75 rfl Try.sizeOf2) fun a S => ?_
    obtain ⟨c187, h188, hat189⟩ := (H.rdAt 0 rfl).elem (idx_some e186).2
    obtain ⟨c192, c193, rfl, h194, h195⟩ := h188
    obtain rfl := h194
    obtain ⟨c196, c197, rfl, h198, h199⟩ := h195
    obtain rfl := h198
    obtain ⟨v190, rfl, h191⟩ := rd_list h199
    refine lx_e (.int .i64 x185.2.1) S trivial (by decide) rfl trivial (q_load1 rfl Try.isAgg2 (by rintro _ rfl; exact (At.of_add (m := 1) (j := 0) (hat189 1 _ rfl)))) (fun a S => ?_)
    refine lq (.int .i64 (W (x185.2.1 + (1 : Int)))) S (q_add rfl rfl) fun a S => ?_
    obtain ⟨x200, e201, hm⟩ := bind_some hm
    have hlt := lt_of_idx (idx_some e201).2
    refine lq (ePtr v42 (x101.toNat * 3)) S (q_indexAddr rfl (H.isSl 0 rfl) rfl (idx_some e201).1 hlt Try.underlying42 Try.sizeOf75) fun a S => ?_
    refine lq (pAdd (ePtr v42 (x101.toNat * 3)) 1) S (q_fieldAddr' 1 2 rfl (((H.isSl 0 rfl)).ptr (lt_of_idx (idx_some e201).2) _) Try.underlying75 rfl Try.sizeOf2) fun a S => ?_
    refine lx_storeElem (r := Rimpl_Vertex) (us := [(.int .i64 (W (x185.2.1 + (1 : Int))))]) (off := 1) (e' := (x200.1, (W (x185.2.1 + (1 : Int))), x200.2.2)) S trivial rfl H.putE rfl rfl (idx_some e201).2 rfl Try.sizeOf2 (Nat.le_of_ble_eq_true rfl) (List.forall_mem_cons.2 ⟨rfl, (fun _ h => nomatch h)⟩) (Upd.snd (off := 0) (Upd.fst (off := 0) (Nat.le_of_ble_eq_true rfl) (Upd.full rfl (fun w G hG => by cases (show G = [] from hG); exact ⟨rfl, rfl⟩)))) (fun w202 H => ⟨trivial, fun a S => ?_⟩)
    refine lx_nil (thenN ?_)
    refine wp_seq (region_plain ?_)
    refine lq v42 S (q_move rfl) fun a S => ?_
    refine lq (.int .i64 x101) S (q_move rfl) fun a S => ?_
    obtain ⟨x203, e204, hm⟩ := bind_some hm
    have hlt := lt_of_idx (idx_some e204).2
    refine lq (ePtr v42 (x101.toNat * 3)) S (q_indexAddr rfl (H.isSl 0 rfl) rfl (idx_some e204).1 hlt Try.underlying42 Try.sizeOf75) fun a S => ?_
    refine lq (pAdd (ePtr v42 (x101.toNat * 3)) 1) S (q_fieldAddr' 1 2 rfl (((H.isSl 0 rfl)).ptr (lt_of_idx (idx_some e204).2) _) Try.underlying75 rfl Try.sizeOf2) fun a S => ?_
    obtain ⟨c205, h206, hat207⟩ := (H.rdAt 0 rfl).elem (idx_some e204).2
    obtain ⟨c210, c211, rfl, h212, h213⟩ := h206
    obtain rfl := h212
    obtain ⟨c214, c215, rfl, h216, h217⟩ := h213
    obtain rfl := h216
    obtain ⟨v208, rfl, h209⟩ := rd_list h217
    refine lx_e (.int .i64 x203.2.1) S trivial (by decide) rfl trivial (q_load1 rfl Try.isAgg2 (by rintro _ rfl; exact (At.of_add (m := 1) (j := 0) (hat207 1 _ rfl)))) (fun a S => ?_)
    refine lq (.bool (decide ((9 : Int) < x203.2.1))) S (q_gtr rfl rfl) fun a S => ?_
    refine lx_nil (thenN ?_)
    refine cond_b S rfl (fun hc218 => ?_) (fun hc218 => ?_)
    ·have hm := ite_t hc218 hm
     refine wp_seq (region_plain ?_)
     refine lq (.slice none 0 0) S (q_assign rfl) fun a S => ?_
     refine lq (.int .i64 (5 : Int)) S (q_assign rfl) fun a S => ?_
     refine lx_nil (thenN ?_)
     refine wp_ret (inBlock_ret ?_)
     refine then_ret ?_
     refine then_ret ?_
     refine inBlock_ret ?_
     refine then_ret ?_
     refine then_ret ?_
     obtain rfl := it_brk hm hc165
     have hm := ctl_inr hk162
     obtain rfl := Option.some.inj hm
     have H : Heap w0 [oA (rList Rimpl_Vertex) (.slice none 0 0) ([] : List Timpl_Vertex), oA (rList Rimpl_Vertex) v42 ((xs100.set x101.toNat ((W ((1 : Int) - x167.1)), x182.2.1, x182.2.2)).set x101.toNat (x200.1, (W (x185.2.1 + (1 : Int))), x200.2.2))] w202 := H.nilList Rimpl_Vertex
     have H : Heap w0 [oA (rList Rimpl_Vertex) (.slice none 0 0) ([] : List Timpl_Vertex)] w202 := H.sel [0] (by decide)
     exact leave2 S rfl rfl rfl ⟨(.slice none 0 0), rfl, H⟩
    ·have hm := ite_f hc218 hm
     refine wp_skip ?_
     refine inBlock_norm ?_
     refine thenN ?_
     refine region_plain ?_
     refine lq (.int .i64 x101) S (q_move rfl) fun a S => ?_
     refine lq (.int .i64 (W (x101 + (1 : Int)))) S (q_add rfl rfl) fun a S => ?_
     refine lq (.int .i64 (W (x101 + (1 : Int)))) S (q_assign rfl) fun a S => ?_
     refine lx_nil ?_
     exact ⟨m163, Nat.lt_succ_self _, ((xs100.set x101.toNat ((W ((1 : Int) - x167.1)), x182.2.1, x182.2.2)).set x101.toNat (x200.1, (W (x185.2.1 + (1 : Int))), x200.2.2)), (W (x101 + (1 : Int))), S.sub ⟨rfl, rfl, trivial⟩, H, it_cont hm hc165⟩
   ·have hm := ite_f hc166 hm
    refine wp_exit ?_
    refine then_exit ?_
    refine then_exit ?_
    refine inBlock_exit ?_
    obtain rfl := it_brk hm hc165
    exact ⟨xs100, S.sub ⟨rfl, trivial⟩, H, rfl⟩

/-- impl.cloneGame -/
def impl_cloneGame_m (fuel : Nat) (a0 : (List Timpl_Vertex)) : Option ((List Timpl_Vertex)) :=
  (slices_Clone__impl_Vertex_impl_Vertex_m fuel a0).bind fun x33 => (iter (fun (s : (List (Int × Int × (Mx (List Int)))) × (Int)) => (match s with | (xs68, x69) => (if (decide (x69 < (x33.length : Int))) = true then (idx xs68 x69).bind fun x112 => (Mx.val x112.2.2).bind fun x119 => (slices_Clone__int64_int64_m fuel x119).bind fun x131 => (idx xs68 x69).bind fun x136 => some (.inl ((xs68.set x69.toNat (x136.1, x136.2.1, (Mx.own x131))), (W (x69 + (1 : Int))))) else some (.inr (.inl (xs68)))) : Option (((List (Int × Int × (Mx (List Int)))) × (Int)) ⊕ (((List (Int × Int × (Mx (List Int))))) ⊕ ((List Timpl_Vertex)))))) fuel (x33, (0 : Int))).bind fun res101 => ctl (β := (List (Int × Int × (Mx (List Int))))) (ρ := (List Timpl_Vertex)) (τ := (List Timpl_Vertex)) res101 (fun (xs100) => (allO (prodO some (prodO some Mx.mine)) xs100).bind fun ys106 => some (ys106)) (fun q => some (q))
set_option maxRecDepth 20000 in
theorem impl_cloneGame_ok {w0 : World} {fuel : Nat} {p0 : Value} {a0 : (List Timpl_Vertex)} {r : (List Timpl_Vertex)} (h0 : Rd (rList Rimpl_Vertex) w0 p0 a0) (hm : impl_cloneGame_m fuel a0 = some r) :
  Calls Try.prog 56 #[p0] w0 fun e w => ∃ (v0 : Value), e = .returned (v0) ∧ Heap w0 [oA (rList Rimpl_Vertex) v0 r] w := by
 unfold impl_cloneGame_m at hm
 have H := Heap.start w0
 refine enter (args := [p0]) Try.func56 rfl 24 rfl (Nat.le_of_ble_eq_true rfl) (fun a S => ?_)
 refine wp_seq (region_plain ?_)
 refine lq (.slice none 0 0) S (q_assign rfl) fun a S => ?_
 refine lx_nil (thenN ?_)
 refine wp_seq (region_plain ?_)
 refine lq p0 S (q_move rfl) fun a S => ?_
 obtain ⟨x33, e34, hm⟩ := bind_some hm
 refine lx_call (xs := [.tmp 5]) S trivial (by decide) rfl rfl Try.call75 ((slices_Clone__impl_Vertex_impl_Vertex_ok (H.arg h0) e34).mono ?_)
 rintro e w31 ⟨v35, rfl, Hc32⟩
 have H := H.call1 Hc32
 refine ⟨_, rfl, trivial, fun a S => ?_⟩
 refine lq v35 S (q_assign rfl) fun a S => ?_
 refine lx_nil (thenN ?_)
 refine wp_seq (wp_seq (region_plain ?_))
 refine lq v35 S (q_move rfl) fun a S => ?_
 refine lq (.int .i64 (x33.length : Int)) S (q_lenSl rfl (H.isSl 0 rfl) rfl Try.underlying42) fun a S => ?_
 refine lq (.int .i64 (0 : Int)) S (q_move rfl) fun a S => ?_
 refine lx_nil (thenN ?_)
 obtain ⟨res101, hit102, hk105⟩ := bind_some hm
 obtain ⟨f103, hf104, hit102⟩ := iter_name hit102
 refine block_loop (fun a w => ∃ (xs100 : List (Int × Int × (Mx (List Int)))), Slots a 24 [(3, v35)] ∧ Heap w0 [oA (rList (rProd (rInt .i64) (rProd (rInt .i64) (rMx w0 (rList (rInt .i64)))))) v35 xs100] w ∧ res101 = .inl (xs100)) ?_ ?_
 ·rintro a w ⟨xs100, S, H, rfl⟩
  have hm := ctl_inl hk105
  refine thenN ?_
  refine wp_seq (region_plain ?_)
  refine lq v35 S (q_move rfl) fun a S => ?_
  refine lq v35 S (q_assign rfl) fun a S => ?_
  refine lx_nil (thenN ?_)
  refine wp_ret ?_
  obtain ⟨ys106, ey107, hm⟩ := bind_some hm
  have H : Heap w0 [oA (rList Rimpl_Vertex) v35 ys106] w := H.mine (CvO.prod CvO.same (CvO.prod CvO.same CvO.mx)) ey107
  obtain rfl := Option.some.inj hm
  exact leave1 S rfl rfl ⟨v35, rfl, H⟩
 ·skip
  refine loop_ghost (fun n a w => ∃ (xs68 : List (Int × Int × (Mx (List Int)))) (x69 : Int), Slots a 24 [(3, v35), (8, (.int .i64 (x33.length : Int))), (9, (.int .i64 x69))] ∧ Heap w0 [oA (rList (rProd (rInt .i64) (rProd (rInt .i64) (rMx w0 (rList (rInt .i64)))))) v35 xs68] w ∧ iter f103 n (xs68, x69) = some res101) _ ⟨x33, (0 : Int), S.sub ⟨rfl, rfl, rfl, trivial⟩, H, hit102⟩ ?_
  rintro n a w ⟨xs68, x69, S, H, hit102⟩
  obtain ⟨m108, o109, rfl, hm, hc110⟩ := iter_step hit102
  rw [hf104] at hm
  refine wp_seq (region_plain ?_)
  refine lq (.bool (decide (x69 < (x33.length : Int)))) S (q_lss rfl rfl) fun a S => ?_
  refine lx_nil (thenN ?_)
  refine wp_seq ?_
  refine cond_b S rfl (fun hc111 => ?_) (fun hc111 => ?_)
  ·have hm := ite_t hc111 hm
   refine wp_skip (thenN ?_)
   refine wp_seq ?_
   refine wp_block ?_
   refine wp_seq (region_plain ?_)
   refine lq (.int .i64 x69) S (q_move rfl) fun a S => ?_
   refine lq (.int .i64 x69) S (q_assign rfl) fun a S => ?_
   refine lx_nil (thenN ?_)
   refine region_plain ?_
   refine lq v35 S (q_move rfl) fun a S => ?_
   refine lq (.int .i64 x69) S (q_move rfl) fun a S => ?_
   refine lq v35 S (q_move rfl) fun a S => ?_
   refine lq (.int .i64 x69) S (q_move rfl) fun a S => ?_
   obtain ⟨x112, e113, hm⟩ := bind_some hm
   have hlt := lt_of_idx (idx_some e113).2
   refine lq (ePtr v35 (x69.toNat * 3)) S (q_indexAddr rfl (H.isSl 0 rfl) rfl (idx_some e113).1 hlt Try.underlying42 Try.sizeOf75) fun a S => ?_
   refine lq (pAdd (ePtr v35 (x69.toNat * 3)) 2) S (q_fieldAddr' 2 29 rfl (((H.isSl 0 rfl)).ptr (lt_of_idx (idx_some e113).2) _) Try.underlying75 rfl Try.sizeOf29) fun a S => ?_
   obtain ⟨c114, h115, hat116⟩ := (H.rdAt 0 rfl).elem (idx_some e113).2
   obtain ⟨x119, e120, hm⟩ := bind_some hm
   obtain ⟨c121, c122, rfl, h123, h124⟩ := h115
   obtain rfl := h123
   obtain ⟨c125, c126, rfl, h127, h128⟩ := h124
   obtain rfl := h127
   obtain ⟨v117, rfl, h118⟩ := rd_list (mx_val h128 H.ext (Nat.le_refl _) e120)
   refine lx_e v117 S trivial (by decide) rfl trivial (q_load1 rfl Try.isAgg29 (by rintro _ rfl; exact (At.of_add (m := 2) (j := 0) (hat116 2 _ rfl)))) (fun a S => ?_)
   obtain ⟨x131, e132, hm⟩ := bind_some hm
   refine lx_call (xs := [.tmp 18]) S trivial (by decide) rfl rfl Try.call59 ((slices_Clone__int64_int64_ok (h118.ext (Ext.refl _)) e132).mono ?_)
   rintro e w129 ⟨v133, rfl, Hc130⟩
   have H := H.call1 Hc130
   refine ⟨_, rfl, trivial, fun a S => ?_⟩
   obtain ⟨x136, e137, hm⟩ := bind_some hm
   have hlt := lt_of_idx (idx_some e137).2
   refine lq (ePtr v35 (x69.toNat * 3)) S (q_indexAddr rfl (H.isSl 1 rfl) rfl (idx_some e137).1 hlt Try.underlying42 Try.sizeOf75) fun a S => ?_
   refine lq (pAdd (ePtr v35 (x69.toNat * 3)) 2) S (q_fieldAddr' 2 29 rfl (((H.isSl 1 rfl)).ptr (lt_of_idx (idx_some e137).2) _) Try.underlying75 rfl Try.sizeOf29) fun a S => ?_
   have hcl : Value.cells v133 = List.toArray [v133] := (cells_sl (H.isSl 0 rfl))
   have hon : ∀ c ∈ ([v133] : List Value), c.oneCell' = true := (List.forall_mem_cons.2 ⟨one_sl (H.isSl 0 rfl), (fun _ h => nomatch h)⟩)
   have H : Heap w0 [oA (rList (rProd (rInt .i64) (rProd (rInt .i64) (rMx w0 (rList (rInt .i64)))))) v35 xs68, oA (rList (rInt .i64)) v133 x131] w129 := H.front 1 rfl
   refine lx_storeElem (r := (rProd (rInt .i64) (rProd (rInt .i64) (rMx w0 (rList (rInt .i64)))))) (us := [v133]) (off := 2) (e' := (x136.1, x136.2.1, (Mx.own x131))) S trivial rfl H rfl rfl (idx_some e137).2 hcl Try.sizeOf29 (Nat.le_of_ble_eq_true rfl) hon (Upd.snd (off := 1) (Upd.snd (off := 0) (Upd.full rfl (fun w G hG => oA_list.1 hG)))) (fun w138 H => ⟨trivial, fun a S => ?_⟩)
   refine lx_nil ?_
   refine inBlock_norm ?_
   refine thenN ?_
   refine region_plain ?_
   refine lq (.int .i64 (W (x69 + (1 : Int)))) S (q_add rfl rfl) fun a S => ?_
   refine lq (.int .i64 (W (x69 + (1 : Int)))) S (q_move rfl) fun a S => ?_
   refine lx_nil ?_
   exact ⟨m108, Nat.lt_succ_self _, (xs68.set x69.toNat (x136.1, x136.2.1, (Mx.own x131))), (W (x69 + (1 : Int))), S.sub ⟨rfl, rfl, rfl, trivial⟩, H, it_cont hm hc110⟩
  ·have hm := ite_f hc111 hm
   refine wp_exit ?_
   refine then_exit ?_
   refine then_exit ?_
   refine inBlock_exit ?_
   obtain rfl := it_brk hm hc110
   exact ⟨xs68, S.sub ⟨rfl, trivial⟩, H, rfl⟩

/-- impl.DualGame -/
def impl_DualGame_m (fuel : Nat) (a0 : (List Timpl_Vertex)) : Option (((List Timpl_Vertex) × Int)) :=
  (impl_ValidGame_m fuel a0).bind fun x33 => (if (!x33) = true then some (([], (1 : Int))) else (impl_cloneGame_m fuel a0).bind fun x40 => (iter (fun (s : (List Timpl_Vertex) × (Int)) => (match s with | (xs84, x85) => (if (decide (x85 < (x40.length : Int))) = true then (idx xs84 x85).bind fun x142 => (idx xs84 x85).bind fun x157 => (idx (xs84.set x85.toNat ((W ((1 : Int) - x142.1)), x157.2.1, x157.2.2)) x85).bind fun x160 => (idx (xs84.set x85.toNat ((W ((1 : Int) - x142.1)), x157.2.1, x157.2.2)) x85).bind fun x175 => some (.inl (((xs84.set x85.toNat ((W ((1 : Int) - x142.1)), x157.2.1, x157.2.2)).set x85.toNat (x175.1, (W (x160.2.1 + (1 : Int))), x175.2.2)), (W (x85 + (1 : Int))))) else some (.inr (.inl (xs84)))) : Option (((List Timpl_Vertex) × (Int)) ⊕ (((List Timpl_Vertex)) ⊕ (((List Timpl_Vertex) × Int)))))) fuel (x40, (0 : Int))).bind fun res126 => ctl (β := (List Timpl_Vertex)) (ρ := ((List Timpl_Vertex) × Int)) (τ := ((List Timpl_Vertex) × Int)) res126 (fun (xs125) => (impl_ValidGame_m fuel xs125).bind fun x133 => (if (!x133) = true then some (([], (5 : Int))) else some ((xs125, (0 : Int))))) (fun q => some (q)))
set_option maxRecDepth 20000 in
theorem impl_DualGame_ok {w0 : World} {fuel : Nat} {p0 : Value} {a0 : (List Timpl_Vertex)} {r : ((List Timpl_Vertex) × Int)} (h0 : Rd (rList Rimpl_Vertex) w0 p0 a0) (hm : impl_DualGame_m fuel a0 = some r) :
  Calls Try.prog 27 #[p0] w0 fun e w => ∃ (v0 : Value), e = .returned (.tuple #[v0, .int .i64 r.2]) ∧ Heap w0 [oA (rList Rimpl_Vertex) v0 r.1] w := by
 unfold impl_DualGame_m at hm
 have H := Heap.start w0
 refine enter (args := [p0]) Try.func27 rfl 39 rfl (Nat.le_of_ble_eq_true rfl) (fun a S => ?_)
 refine wp_seq (region_plain ?_)
 refine lq (.slice none 0 0) S (q_assign rfl) fun a S => ?_
 refine lq (.int .i64 (0 : Int)) S (q_assign rfl) fun a S => ?_
 refine lx_nil (thenN ?_)
 refine wp_seq (wp_seq (region_plain ?_))
 refine lq p0 S (q_move rfl) fun a S => ?_
 obtain ⟨x33, e34, hm⟩ := bind_some hm
 refine lx_call (xs := [.tmp 6]) S trivial (by decide) rfl rfl Try.call55 ((impl_ValidGame_ok (H.arg h0) e34).mono ?_)
 rintro e w31 ⟨rfl, Hc32⟩
 have H := H.call0 Hc32
 refine ⟨_, rfl, trivial, fun a S => ?_⟩
 refine lq (.bool (!x33)) S (q_not rfl) fun a S => ?_
 refine lx_nil (thenN ?_)
 refine cond_b S rfl (fun hc36 => ?_) (fun hc36 => ?_)
 ·have hm := ite_t hc36 hm
  refine wp_seq (region_plain ?_)
  refine lq (.slice none 0 0) S (q_assign rfl) fun a S => ?_
  refine lq (.int .i64 (1 : Int)) S (q_assign rfl) fun a S => ?_
  refine lx_nil (thenN ?_)
  refine wp_ret (then_ret ?_)
  obtain rfl := Option.some.inj hm
  have H : Heap w0 [oA (rList Rimpl_Vertex) (.slice none 0 0) ([] : List Timpl_Vertex)] w31 := H.nilList Rimpl_Vertex
  exact leave2 S rfl rfl rfl ⟨(.slice none 0 0), rfl, H⟩
 ·have hm := ite_f hc36 hm
  refine wp_skip (thenN ?_)
  refine wp_seq (region_plain ?_)
  refine lq p0 S (q_move rfl) fun a S => ?_
  obtain ⟨x40, e41, hm⟩ := bind_some hm
  refine lx_call (xs := [.tmp 9]) S trivial (by decide) rfl rfl Try.call56 ((impl_cloneGame_ok (H.arg h0) e41).mono ?_)
  rintro e w38 ⟨v42, rfl, Hc39⟩
  have H := H.call1 Hc39
  refine ⟨_, rfl, trivial, fun a S => ?_⟩
  refine lq v42 S (q_assign rfl) fun a S => ?_
  refine lx_nil (thenN ?_)
  refine wp_seq (wp_seq (region_plain ?_))
  refine lq v42 S (q_move rfl) fun a S => ?_
  refine lq (.int .i64 (x40.length : Int)) S (q_lenSl rfl (H.isSl 0 rfl) rfl Try.underlying42) fun a S => ?_
  refine lq (.int .i64 (0 : Int)) S (q_move rfl) fun a S => ?_
  refine lx_nil (thenN ?_)
  obtain ⟨res126, hit127, hk130⟩ := bind_some hm
  obtain ⟨f128, hf129, hit127⟩ := iter_name hit127
  refine block_loop (fun a w => ∃ (xs125 : List Timpl_Vertex), Slots a 39 [(4, v42)] ∧ Heap w0 [oA (rList Rimpl_Vertex) v42 xs125] w ∧ res126 = .inl (xs125)) ?_ ?_
  ·rintro a w ⟨xs125, S, H, rfl⟩
   have hm := ctl_inl hk130
   refine thenN ?_
   refine wp_seq (wp_seq (region_plain ?_))
   refine lq v42 S (q_move rfl) fun a S => ?_
   obtain ⟨x133, e134, hm⟩ := bind_some hm
   refine lx_call (xs := [.tmp 35]) S trivial (by decide) rfl rfl Try.call55 ((impl_ValidGame_ok (H.rdAt 0 rfl) e134).mono ?_)
   rintro e w131 ⟨rfl, Hc132⟩
   have H := H.call0 Hc132
   refine ⟨_, rfl, trivial, fun a S => ?_⟩
   refine lq (.bool (!x133)) S (q_not rfl) fun a S => ?_
   refine lx_nil (thenN ?_)
   refine cond_b S rfl (fun hc136 => ?_) (fun hc136 => ?_)
   ·have hm := ite_t hc136 hm
    refine wp_seq (region_plain ?_)
    refine lq (.slice none 0 0) S (q_assign rfl) fun a S => ?_
    refine lq (.int .i64 (5 : Int)) S (q_assign rfl) fun a S => ?_
    refine lx_nil (thenN ?_)
    refine wp_ret (then_ret ?_)
    obtain rfl := Option.some.inj hm
    have H : Heap w0 [oA (rList Rimpl_Vertex) (.slice none 0 0) ([] : List Timpl_Vertex), oA (rList Rimpl_Vertex) v42 xs125] w131 := H.nilList Rimpl_Vertex
    have H : Heap w0 [oA (rList Rimpl_Vertex) (.slice none 0 0) ([] : List Timpl_Vertex)] w131 := H.sel [0] (by decide)
    exact leave2 S rfl rfl rfl ⟨(.slice none 0 0), rfl, H⟩
   ·have hm := ite_f hc136 hm
    refine wp_skip (thenN ?_)
    refine wp_seq (region_plain ?_)
    refine lq v42 S (q_move rfl) fun a S => ?_
    refine lq v42 S (q_assign rfl) fun a S => ?_
    refine lq (.int .i64 (0 : Int)) S (q_assign rfl) fun a S => ?_
    refine lx_nil (thenN ?_)
    refine wp_ret ?_
    obtain rfl := Option.some.inj hm
    exact leave2 S rfl rfl rfl ⟨v42, rfl, H⟩
  ·skip
   refine loop_ghost (fun n a w => ∃ (xs84 : List Timpl_Vertex) (x85 : Int), Slots a 39 [(4, v42), (12, (.int .i64 (x40.length : Int))), (13, (.int .i64 x85))] ∧ Heap w0 [oA (rList Rimpl_Vertex) v42 xs84] w ∧ iter f128 n (xs84, x85) = some res126) _ ⟨x40, (0 : Int), S.sub ⟨rfl, rfl, rfl, trivial⟩, H, hit127⟩ ?_
   rintro n a w ⟨xs84, x85, S, H, hit127⟩
   obtain ⟨m138, o139, rfl, hm, hc140⟩ := iter_step hit127
   rw [hf129] at hm
   refine wp_seq (region_plain ?_)
   refine lq (.bool (decide (x85 < (x40.length : Int)))) S (q_lss rfl rfl) fun a S => ?_
   refine lx_nil (thenN ?_)
   refine wp_seq ?_
   refine cond_b S rfl (fun hc141 => ?_) (fun hc141 => ?_)
   ·have hm := ite_t hc141 hm
    refine wp_skip (thenN ?_)
    refine wp_seq ?_
    refine wp_block ?_
    refine wp_seq (region_plain ?_)
    refine lq (.int .i64 x85) S (q_move rfl) fun a S => ?_
    refine lq (.int .i64 x85) S (q_assign rfl) fun a S => ?_
    refine lx_nil (thenN ?_)
    refine wp_seq (region_plain ?_)
    refine lq v42 S (q_move rfl) fun a S => ?_
    refine lq (.int .i64 x85) S (q_move rfl) fun a S => ?_
    refine lq v42 S (q_move rfl) fun a S => ?_
    refine lq (.int .i64 x85) S (q_move rfl) fun a S => ?_
    obtain ⟨x142, e143, hm⟩ := bind_some hm
    have hlt := lt_of_idx (idx_some e143).2
    refine lq (ePtr v42 (x85.toNat * 3)) S (q_indexAddr rfl (H.isSl 0 rfl) rfl (idx_some e143).1 hlt Try.underlying42 Try.sizeOf75) fun a S => ?_
    refine lq (pAdd (ePtr v42 (x85.toNat * 3)) 0) S (q_fieldAddr' 0 2 rfl (((H.isSl 0 rfl)).ptr (lt_of_idx (idx_some e143).2) _) Try.underlying75 rfl Try.sizeOf2) fun a S => ?_
    obtain ⟨c144, h145, hat146⟩ := (H.rdAt 0 rfl).elem (idx_some e143).2
    obtain ⟨c149, c150, rfl, h151, h152⟩ := h145
    obtain rfl := h151
    obtain ⟨c153, c154, rfl, h155, h156⟩ := h152
    obtain rfl := h155
    obtain ⟨v147, rfl, h148⟩ := rd_list h156
    refine lx_e (.int .i64 x142.1) S trivial (by decide) rfl trivial (q_load1 rfl Try.isAgg2 (by rintro _ rfl; exact (At.of_add (m := 0) (j := 0) (hat146 0 _ rfl)))) (fun a S => ?_)
    refine lq (.int .i64 (W ((1 : Int) - x142.1))) S (q_sub rfl rfl) fun a S => ?_
    obtain ⟨x157, e158, hm⟩ := bind_some hm
    have hlt := lt_of_idx (idx_some e158).2
    refine lq (ePtr v42 (x85.toNat * 3)) S (q_indexAddr rfl (H.isSl 0 rfl) rfl (idx_some e158).1 hlt Try.underlying42 Try.sizeOf75) fun a S => ?_
    refine lq (pAdd (ePtr v42 (x85.toNat * 3)) 0) S (q_fieldAddr' 0 2 rfl (((H.isSl 0 rfl)).ptr (lt_of_idx (idx_some e158).2) _) Try.underlying75 rfl Try.sizeOf2) fun a S => ?_
    refine lx_storeElem (r := Rimpl_Vertex) (us := [(.int .i64 (W ((1 : Int) - x142.1)))]) (off := 0) (e' := ((W ((1 : Int) - x142.1)), x157.2.1, x157.2.2)) S trivial rfl H.putE rfl rfl (idx_some e158).2 rfl Try.sizeOf2 (Nat.le_of_ble_eq_true rfl) (List.forall_mem_cons.2 ⟨rfl, (fun _ h => nomatch h)⟩) (Upd.fst (off := 0) (Nat.le_of_ble_eq_true rfl) (Upd.full rfl (fun w G hG => by cases (show G = [] from hG); exact ⟨rfl, rfl⟩))) (fun w159 H => ⟨trivial, fun a S => ?_⟩)
    refine lx_nil (thenN ?_)
    refine region_plain ?_
    refine lq v42 S (q_move rfl) fun a S => ?_
    refine lq (.int .i64 x85) S (q_move rfl) fun a S => ?_
    obtain ⟨x160, e161, hm⟩ := bind_some hm
    have hlt := lt_of_idx (idx_some e161).2
    refine lq (ePtr v42 (x85.toNat * 3)) S (q_indexAddr rfl (H.isSl 0 rfl) rfl (idx_some e161).1 hlt Try.underlying42 Try.sizeOf75) fun a S => ?_
    refine lq (pAdd (ePtr v42 (x85.toNat * 3)) 1) S (q_fieldAddr' 1 2 rfl (((H.isSl 0 rfl)).ptr (lt_of_idx (idx_some e161).2) _) Try.underlying75 rfl Try.sizeOf2) fun a S => ?_
    obtain ⟨c162, h163, hat164⟩ := (H.rdAt 0 rfl).elem (idx_some e161).2
    obtain ⟨c167, c168, rfl, h169, h170⟩ := h163
    obtain rfl := h169
    obtain ⟨c171, c172, rfl, h173, h174⟩ := h170
    obtain rfl := h173
    obtain ⟨v165, rfl, h166⟩ := rd_list h174
    refine lx_e (.int .i64 x160.2.1) S trivial (by decide) rfl trivial (q_load1 rfl Try.isAgg2 (by rintro _ rfl; exact (At.of_add (m := 1) (j := 0) (hat164 1 _ rfl)))) (fun a S => ?_)
    refine lq (.int .i64 (W (x160.2.1 + (1 : Int)))) S (q_add rfl rfl) fun a S => ?_
    obtain ⟨x175, e176, hm⟩ := bind_some hm
    have hlt := lt_of_idx (idx_some e176).2
    refine lq (ePtr v42 (x85.toNat * 3)) S (q_indexAddr rfl (H.isSl 0 rfl) rfl (idx_some e176).1 hlt Try.underlying42 Try.sizeOf75) fun a S => ?_
    refine lq (pAdd (ePtr v42 (x85.toNat * 3)) 1) S (q_fieldAddr' 1 2 rfl (((H.isSl 0 rfl)).ptr (lt_of_idx (idx_some e176).2) _) Try.underlying75 rfl Try.sizeOf2) fun a S => ?_
    refine lx_storeElem (r := Rimpl_Vertex) (us := [(.int .i64 (W (x160.2.1 + (1 : Int))))]) (off := 1) (e' := (x175.1, (W (x160.2.1 + (1 : Int))), x175.2.2)) S trivial rfl H.putE rfl rfl (idx_some e176).2 rfl Try.sizeOf2 (Nat.le_of_ble_eq_true rfl) (List.forall_mem_cons.2 ⟨rfl, (fun _ h => nomatch h)⟩) (Upd.snd (off := 0) (Upd.fst (off := 0) (Nat.le_of_ble_eq_true rfl) (Upd.full rfl (fun w G hG => by cases (show G = [] from hG); exact ⟨rfl, rfl⟩)))) (fun w177 H => ⟨trivial, fun a S => ?_⟩)
    refine lx_nil ?_
    refine inBlock_norm ?_
    refine thenN ?_
    refine region_plain ?_
    refine lq (.int .i64 (W (x85 + (1 : Int)))) S (q_add rfl rfl) fun a S => ?_
    refine lq (.int .i64 (W (x85 + (1 : Int)))) S (q_move rfl) fun a S => ?_
    refine lx_nil ?_
    exact ⟨m138, Nat.lt_succ_self _, ((xs84.set x85.toNat ((W ((1 : Int) - x142.1)), x157.2.1, x157.2.2)).set x85.toNat (x175.1, (W (x160.2.1 + (1 : Int))), x175.2.2)), (W (x85 + (1 : Int))), S.sub ⟨rfl, rfl, rfl, trivial⟩, H, it_cont hm hc140⟩
   ·have hm := ite_f hc141 hm
    refine wp_exit ?_
    refine then_exit ?_
    refine then_exit ?_
    refine inBlock_exit ?_
    obtain rfl := it_brk hm hc140
    exact ⟨xs84, S.sub ⟨rfl, trivial⟩, H, rfl⟩

/-- laws.heldVertexS -/
def laws_heldVertexS_m (fuel : Nat) (a0 : (List Timpl_Vertex)) (a1 : Int) : Option (Int) :=
  (iter (fun (s : (Int) × (Int)) => (match s with | (x87, x88) => (if (decide (x88 < (a0.length : Int))) = true then (idx a0 x88).bind fun x155 => (if (x155.1 != x87) = true then some (.inr (.inr (-1 : Int))) else (idx a0 x88).bind fun x171 => (if (x171.2.1 != (W (x87 + (1 : Int)))) = true then some (.inr (.inr (-1 : Int))) else (idx a0 x88).bind fun x187 => (laws_heldInt64S_m fuel x187.2.2 (W ((W (x87 + (1 : Int))) + (1 : Int)))).bind fun x204 => (if (decide (x204 < (0 : Int))) = true then some (.inr (.inr (-1 : Int))) else some (.inl (x204, (W (x88 + (1 : Int)))))))) else some (.inr (.inl (x87)))) : Option (((Int) × (Int)) ⊕ ((Int) ⊕ (Int))))) fuel (a1, (0 : Int))).bind fun res146 => ctl (β := Int) (ρ := Int) (τ := Int) res146 (fun (x145) => some (x145)) (fun q => some (q))
set_option maxRecDepth 20000 in
theorem laws_heldVertexS_ok {w0 : World} {fuel : Nat} {p0 : Value} {a0 : (List Timpl_Vertex)} {a1 : Int} {r : Int} (h0 : Rd (rList Rimpl_Vertex) w0 p0 a0) (hm : laws_heldVertexS_m fuel a0 a1 = some r) :
  Calls Try.prog 30 #[p0, .int .i64 a1] w0 fun e w => e = .returned (.int .i64 r) ∧ Heap w0 [] w := by
 unfold laws_heldVertexS_m at hm
 have H := Heap.start w0
 refine enter (args := [p0, .int .i64 a1]) Try.func30 rfl 40 rfl (Nat.le_of_ble_eq_true rfl) (fun a S => ?_)
 refine wp_seq (region_plain ?_)
 refine lq (.int .i64 (0 : Int)) S (q_assign rfl) fun a S => ?_
 refine lx_nil (thenN ?_)
 refine wp_seq (wp_seq (region_plain ?_))
 refine lq (.int .i64 (0 : Int)) S (q_assign rfl) fun a S => ?_
 refine lx_nil (thenN ?_)
 obtain ⟨res146, hit147, hk150⟩ := bind_some hm
 obtain ⟨f148, hf149, hit147⟩ := iter_name hit147
 refine block_loop (fun a w => ∃ (x145 : Int), Slots a 40 [(1, (.int .i64 x145))] ∧ Heap w0 [] w ∧ res146 = .inl (x145)) ?_ ?_
 ·rintro a w ⟨x145, S, H, rfl⟩
  have hm := ctl_inl hk150
  refine thenN ?_
  refine wp_seq (region_plain ?_)
  refine lq (.int .i64 x145) S (q_move rfl) fun a S => ?_
  refine lq (.int .i64 x145) S (q_assign rfl) fun a S => ?_
  refine lx_nil (thenN ?_)
  refine wp_ret ?_
  obtain rfl := Option.some.inj hm
  exact leave1 S rfl rfl ⟨rfl, H⟩
 ·skip
  refine loop_ghost (fun n a w => ∃ (x87 : Int) (x88 : Int), Slots a 40 [(0, p0), (1, (.int .i64 x87)), (5, (.int .i64 x88))] ∧ Heap w0 [] w ∧ iter f148 n (x87, x88) = some res146) _ ⟨a1, (0 : Int), S.sub ⟨rfl, rfl, rfl, trivial⟩, H, hit147⟩ ?_
  rintro n a w ⟨x87, x88, S, H, hit147⟩
  obtain ⟨m151, o152, rfl, hm, hc153⟩ := iter_step hit147
  rw [hf149] at hm
  refine wp_seq (wp_seq (region_plain ?_))
  refine lq (.int .i64 x88) S (q_move rfl) fun a S => ?_
  refine lq p0 S (q_move rfl) fun a S => ?_
  refine lq (.int .i64 (a0.length : Int)) S (q_lenSl rfl (h0).isSl rfl Try.underlying42) fun a S => ?_
  refine lq (.bool (decide (x88 < (a0.length : Int)))) S (q_lss rfl rfl) fun a S => ?_
  refine lx_nil (thenN ?_)
  refine cond_b S rfl (fun hc154 => ?_) (fun hc154 => ?_)
  ·have hm := ite_t hc154 hm
   refine wp_skip (thenN ?_)
   refine wp_seq ?_
   refine wp_block ?_
   refine wp_seq (wp_seq (region_plain ?_))
   refine lq p0 S (q_move rfl) fun a S => ?_
   refine lq (.int .i64 x88) S (q_move rfl) fun a S => ?_
   obtain ⟨x155, e156, hm⟩ := bind_some hm
   obtain ⟨c157, h158, hat159⟩ := (h0).elem (idx_some e156).2
   obtain ⟨c162, c163, rfl, h164, h165⟩ := h158
   obtain rfl := h164
   obtain ⟨c166, c167, rfl, h168, h169⟩ := h165
   obtain rfl := h168
   obtain ⟨v160, rfl, h161⟩ := rd_list h169
   have hlt := lt_of_idx (idx_some e156).2
   refine lq (ePtr p0 (x88.toNat * 3)) S (q_indexAddr rfl (h0).isSl rfl (idx_some e156).1 hlt Try.underlying42 Try.sizeOf75) fun a S => ?_
   refine lq (pAdd (ePtr p0 (x88.toNat * 3)) 0) S (q_fieldAddr' 0 2 rfl ((hat159 0 _ rfl).isP) Try.underlying75 rfl Try.sizeOf2) fun a S => ?_
   refine lx_e (.int .i64 x155.1) S trivial (by decide) rfl trivial (q_load1 rfl Try.isAgg2 (by rintro _ rfl; exact (At.of_add (m := 0) (j := 0) ((hat159 0 _ rfl).ext H.ext)))) (fun a S => ?_)
   refine lq (.int .i64 x87) S (q_move rfl) fun a S => ?_
   refine lq (.bool (x155.1 != x87)) S (q_neq rfl rfl) fun a S => ?_
   refine lx_nil (thenN ?_)
   refine cond_b S rfl (fun hc170 => ?_) (fun hc170 => ?_)
   ·have hm := ite_t hc170 hm
    refine wp_seq (region_plain ?_)
    refine lq (.int .i64 (-1 : Int)) S (q_assign rfl) fun a S => ?_
    refine lx_nil (thenN ?_)
    refine wp_ret (then_ret ?_)
    refine inBlock_ret ?_
    refine then_ret ?_
    refine then_ret ?_
    refine inBlock_ret ?_
    refine then_ret ?_
    refine then_ret ?_
    obtain rfl := it_brk hm hc153
    have hm := ctl_inr hk150
    obtain rfl := Option.some.inj hm
    exact leave1 S rfl rfl ⟨rfl, H⟩
   ·have hm := ite_f hc170 hm
    refine wp_skip (thenN ?_)
    refine wp_seq (region_plain ?_)
    refine lq (.int .i64 x87) S (q_move rfl) fun a S => ?_
    refine lq (.int .i64 (W (x87 + (1 : Int)))) S (q_add rfl rfl) fun a S => ?_
    refine lq (.int .i64 (W (x87 + (1 : Int)))) S (q_assign rfl) fun a S => ?_
    refine lx_nil (thenN ?_)
    refine wp_seq (wp_seq (region_plain ?_))
    refine lq p0 S (q_move rfl) fun a S => ?_
    refine lq (.int .i64 x88) S (q_move rfl) fun a S => ?_
    obtain ⟨x171, e172, hm⟩ := bind_some hm
    obtain ⟨c173, h174, hat175⟩ := (h0).elem (idx_some e172).2
    obtain ⟨c178, c179, rfl, h180, h181⟩ := h174
    obtain rfl := h180
    obtain ⟨c182, c183, rfl, h184, h185⟩ := h181
    obtain rfl := h184
    obtain ⟨v176, rfl, h177⟩ := rd_list h185
    have hlt := lt_of_idx (idx_some e172).2
    refine lq (ePtr p0 (x88.toNat * 3)) S (q_indexAddr rfl (h0).isSl rfl (idx_some e172).1 hlt Try.underlying42 Try.sizeOf75) fun a S => ?_
    refine lq (pAdd (ePtr p0 (x88.toNat * 3)) 1) S (q_fieldAddr' 1 2 rfl ((hat175 0 _ rfl).isP) Try.underlying75 rfl Try.sizeOf2) fun a S => ?_
    refine lx_e (.int .i64 x171.2.1) S trivial (by decide) rfl trivial (q_load1 rfl Try.isAgg2 (by rintro _ rfl; exact (At.of_add (m := 1) (j := 0) ((hat175 1 _ rfl).ext H.ext)))) (fun a S => ?_)
    refine lq (.int .i64 (W (x87 + (1 : Int)))) S (q_move rfl) fun a S => ?_
    refine lq (.bool (x171.2.1 != (W (x87 + (1 : Int))))) S (q_neq rfl rfl) fun a S => ?_
    refine lx_nil (thenN ?_)
    refine cond_b S rfl (fun hc186 => ?_) (fun hc186 => ?_)
    ·have hm := ite_t hc186 hm
     refine wp_seq (region_plain ?_)
     refine lq (.int .i64 (-1 : Int)) S (q_assign rfl) fun a S => ?_
     refine lx_nil (thenN ?_)
     refine wp_ret (then_ret ?_)
     refine inBlock_ret ?_
     refine then_ret ?_
     refine then_ret ?_
     refine inBlock_ret ?_
     refine then_ret ?_
     refine then_ret ?_
     obtain rfl := it_brk hm hc153
     have hm := ctl_inr hk150
     obtain rfl := Option.some.inj hm
     exact leave1 S rfl rfl ⟨rfl, H⟩
    ·have hm := ite_f hc186 hm
     refine wp_skip (thenN ?_)
     refine wp_seq (region_plain ?_)
     refine lq (.int .i64 (W (x87 + (1 : Int)))) S (q_move rfl) fun a S => ?_
     refine lq (.int .i64 (W ((W (x87 + (1 : Int))) + (1 : Int)))) S (q_add rfl rfl) fun a S => ?_
     refine lq (.int .i64 (W ((W (x87 + (1 : Int))) + (1 : Int)))) S (q_assign rfl) fun a S => ?_
     refine lx_nil (thenN ?_)
     refine wp_seq (region_plain ?_)
     refine lq p0 S (q_move rfl) fun a S => ?_
     refine lq (.int .i64 x88) S (q_move rfl) fun a S => ?_
     obtain ⟨x187, e188, hm⟩ := bind_some hm
     obtain ⟨c189, h190, hat191⟩ := (h0).elem (idx_some e188).2
     obtain ⟨c194, c195, rfl, h196, h197⟩ := h190
     obtain rfl := h196
     obtain ⟨c198, c199, rfl, h200, h201⟩ := h197
     obtain rfl := h200
     obtain ⟨v192, rfl, h193⟩ := rd_list h201
     have hlt := lt_of_idx (idx_some e188).2
     refine lq (ePtr p0 (x88.toNat * 3)) S (q_indexAddr rfl (h0).isSl rfl (idx_some e188).1 hlt Try.underlying42 Try.sizeOf75) fun a S => ?_
     refine lq (pAdd (ePtr p0 (x88.toNat * 3)) 2) S (q_fieldAddr' 2 29 rfl ((hat191 0 _ rfl).isP) Try.underlying75 rfl Try.sizeOf29) fun a S => ?_
     refine lx_e v192 S trivial (by decide) rfl trivial (q_load1 rfl Try.isAgg29 (by rintro _ rfl; exact (At.of_add (m := 2) (j := 0) ((hat191 2 _ rfl).ext H.ext)))) (fun a S => ?_)
     refine lq (.int .i64 (W ((W (x87 + (1 : Int))) + (1 : Int)))) S (q_move rfl) fun a S => ?_
     obtain ⟨x204, e205, hm⟩ := bind_some hm
     refine lx_call (xs := [.tmp 34, .tmp 35]) S trivial (by decide) rfl rfl Try.call19 ((laws_heldInt64S_ok (H.arg h193)  e205).mono ?_)
     rintro e w202 ⟨rfl, Hc203⟩
     have H := H.call0 Hc203
     refine ⟨_, rfl, trivial, fun a S => ?_⟩
     refine lq (.int .i64 x204) S (q_assign rfl) fun a S => ?_
     refine lx_nil (thenN ?_)
     refine wp_seq (region_plain ?_)
     refine lq (.int .i64 x204) S (q_move rfl) fun a S => ?_
     refine lq (.bool (decide (x204 < (0 : Int)))) S (q_lss rfl rfl) fun a S => ?_
     refine lx_nil (thenN ?_)
     refine cond_b S rfl (fun hc207 => ?_) (fun hc207 => ?_)
     ·have hm := ite_t hc207 hm
      refine wp_seq (region_plain ?_)
      refine lq (.int .i64 (-1 : Int)) S (q_assign rfl) fun a S => ?_
      refine lx_nil (thenN ?_)
      refine wp_ret (inBlock_ret ?_)
      refine then_ret ?_
      refine then_ret ?_
      refine inBlock_ret ?_
      refine then_ret ?_
      refine then_ret ?_
      obtain rfl := it_brk hm hc153
      have hm := ctl_inr hk150
      obtain rfl := Option.some.inj hm
      exact leave1 S rfl rfl ⟨rfl, H⟩
     ·have hm := ite_f hc207 hm
      refine wp_skip ?_
      refine inBlock_norm ?_
      refine thenN ?_
      refine region_plain ?_
      refine lq (.int .i64 x88) S (q_move rfl) fun a S => ?_
      refine lq (.int .i64 (W (x88 + (1 : Int)))) S (q_add rfl rfl) fun a S => ?_
      refine lq (.int .i64 (W (x88 + (1 : Int)))) S (q_assign rfl) fun a S => ?_
      refine lx_nil ?_
      exact ⟨m151, Nat.lt_succ_self _, x204, (W (x88 + (1 : Int))), S.sub ⟨rfl, rfl, rfl, trivial⟩, H, it_cont hm hc153⟩
  ·have hm := ite_f hc154 hm
   refine wp_exit ?_
   refine then_exit ?_
   refine then_exit ?_
   refine inBlock_exit ?_
   obtain rfl := it_brk hm hc153
   exact ⟨x87, S.sub ⟨rfl, trivial⟩, H, rfl⟩

/-- laws.FnExactDualGame -/
def laws_FnExactDualGame_m (fuel : Nat) (a0 : (List Tlaws_Vertex)) : Option (Bool) :=
  (laws_szVertexS_m fuel a0 (1048576 : Int)).bind fun x33 => (if (decide (x33 < (0 : Int))) = true then some (true) else (laws_toVertexS_m fuel a0).bind fun x39 => (spec_DualGame_m fuel x39).bind fun x46 => (laws_toVertexS_m fuel a0).bind fun x53 => (impl_DualGame_m fuel x53).bind fun x60 => (laws_eqVertexS_m fuel x60.1 x46.1).bind fun x67 => (if (!x67) = true then some true else some (x60.2 != x46.2)).bind fun t70 => (if t70 = true then some (false) else (laws_toVertexS_m fuel a0).bind fun x76 => (laws_eqVertexS_m fuel x53 x76).bind fun x83 => (if (!x83) = true then some (false) else (laws_markVertexS_m fuel x53 (1 : Int)).bind fun x89 => (if (decide (x89.1 < (0 : Int))) = true then some true else (laws_eqVertexS_m fuel x60.1 x46.1).bind fun x96 => some (!x96)).bind fun t91 => (if t91 = true then some true else some (x60.2 != x46.2)).bind fun t99 => (if t99 = true then some (false) else (laws_markVertexS_m fuel x60.1 (1 : Int)).bind fun x105 => (laws_heldVertexS_m fuel x105.2 (1 : Int)).bind fun x109 => (if (decide (x109 < (0 : Int))) = true then some (false) else (if (x109 != x105.1) = true then some (false) else (laws_toVertexS_m fuel a0).bind fun x116 => (impl_DualGame_m fuel x116).bind fun x123 => (laws_eqVertexS_m fuel x123.1 x46.1).bind fun x130 => (if (!x130) = true then some true else some (x123.2 != x46.2)).bind fun t133 => (if t133 = true then some (false) else (laws_heldVertexS_m fuel x105.2 (1 : Int)).bind fun x139 => (if (decide (x139 < (0 : Int))) = true then some (false) else (if (x139 != x105.1) = true then some (false) else some (true))))))))))
set_option maxRecDepth 20000 in
theorem laws_FnExactDualGame_ok {w0 : World} {fuel : Nat} {p0 : Value} {a0 : (List Tlaws_Vertex)} {r : Bool} (h0 : Rd (rList Rlaws_Vertex) w0 p0 a0) (hm : laws_FnExactDualGame_m fuel a0 = some r) :
  Calls Try.prog 6 #[p0] w0 fun e w => e = .returned (.bool r) ∧ Heap w0 [] w := by
 unfold laws_FnExactDualGame_m at hm
 have H := Heap.start w0
 refine enter (args := [p0]) Try.func6 rfl 96 rfl (Nat.le_of_ble_eq_true rfl) (fun a S => ?_)
 refine wp_seq (region_plain ?_)
 refine lq (.bool false) S (q_assign rfl) fun a S => ?_
 refine lx_nil (thenN ?_)
 refine wp_seq (region_plain ?_)
 refine lq (.int .i64 (1048576 : Int)) S (q_assign rfl) fun a S => ?_
 refine lx_nil (thenN ?_)
 refine wp_seq (region_plain ?_)
 refine lq p0 S (q_move rfl) fun a S => ?_
 refine lq (.int .i64 (1048576 : Int)) S (q_move rfl) fun a S => ?_
 obtain ⟨x33, e34, hm⟩ := bind_some hm
 refine lx_call (xs := [.tmp 14, .tmp 15]) S trivial (by decide) rfl rfl Try.call24 ((laws_szVertexS_ok (H.arg h0)  e34).mono ?_)
 rintro e w31 ⟨rfl, Hc32⟩
 have H := H.call0 Hc32
 refine ⟨_, rfl, trivial, fun a S => ?_⟩
 refine lq (.int .i64 x33) S (q_assign rfl) fun a S => ?_
 refine lx_nil (thenN ?_)
 refine wp_seq (wp_seq (region_plain ?_))
 refine lq (.int .i64 x33) S (q_move rfl) fun a S => ?_
 refine lq (.bool (decide (x33 < (0 : Int)))) S (q_lss rfl rfl) fun a S => ?_
 refine lx_nil (thenN ?_)
 refine cond_b S rfl (fun hc36 => ?_) (fun hc36 => ?_)
 ·have hm := ite_t hc36 hm
  refine wp_seq (region_plain ?_)
  refine lq (.bool true) S (q_assign rfl) fun a S => ?_
  refine lx_nil (thenN ?_)
  refine wp_ret (then_ret ?_)
  obtain rfl := Option.some.inj hm
  exact leave1 S rfl rfl ⟨rfl, H⟩
 ·have hm := ite_f hc36 hm
  refine wp_skip (thenN ?_)
  refine wp_seq (region_plain ?_)
  refine lq p0 S (q_move rfl) fun a S => ?_
  obtain ⟨x39, e40, hm⟩ := bind_some hm
  refine lx_call (xs := [.tmp 20]) S trivial (by decide) rfl rfl Try.call26 ((laws_toVertexS_ok (H.arg h0) e40).mono ?_)
  rintro e w37 ⟨v41, rfl, Hc38⟩
  have H := H.call1 Hc38
  refine ⟨_, rfl, trivial, fun a S => ?_⟩
  obtain ⟨x46, e47, hm⟩ := bind_some hm
  refine lx_call (xs := [.tmp 21]) S trivial (by decide) rfl rfl Try.call25 ((spec_DualGame_ok (H.rdAt 0 rfl) e47).mono ?_)
  rintro e w44 ⟨v48, rfl, Hc45⟩
  have H := H.call1 Hc45
  refine ⟨_, rfl, trivial, fun a S => ?_⟩
  refine lq (.tuple #[v48, (.int .i64 x46.2)]) S (q_move rfl) fun a S => ?_
  refine lq v48 S (q_extract rfl rfl) fun a S => ?_
  refine lq (.int .i64 x46.2) S (q_extract rfl rfl) fun a S => ?_
  refine lq v48 S (q_assign rfl) fun a S => ?_
  refine lq (.int .i64 x46.2) S (q_assign rfl) fun a S => ?_
  refine lx_nil (thenN ?_)
  refine wp_seq (region_plain ?_)
  refine lq p0 S (q_move rfl) fun a S => ?_
  obtain ⟨x53, e54, hm⟩ := bind_some hm
  refine lx_call (xs := [.tmp 25]) S trivial (by decide) rfl rfl Try.call26 ((laws_toVertexS_ok (H.arg h0) e54).mono ?_)
  rintro e w51 ⟨v55, rfl, Hc52⟩
  have H := H.call1 Hc52
  refine ⟨_, rfl, trivial, fun a S => ?_⟩
  refine lq v55 S (q_assign rfl) fun a S => ?_
  refine lx_nil (thenN ?_)
  refine wp_seq (region_plain ?_)
  refine lq v55 S (q_move rfl) fun a S => ?_
  obtain ⟨x60, e61, hm⟩ := bind_some hm
  refine lx_call (xs := [.tmp 28]) S trivial (by decide) rfl rfl Try.call27 ((impl_DualGame_ok (H.rdAt 0 rfl) e61).mono ?_)
  rintro e w58 ⟨v62, rfl, Hc59⟩
  have H := H.call1 Hc59
  refine ⟨_, rfl, trivial, fun a S => ?_⟩
  refine lq (.tuple #[v62, (.int .i64 x60.2)]) S (q_move rfl) fun a S => ?_
  refine lq v62 S (q_extract rfl rfl) fun a S => ?_
  refine lq (.int .i64 x60.2) S (q_extract rfl rfl) fun a S => ?_
  refine lq v62 S (q_assign rfl) fun a S => ?_
  refine lq (.int .i64 x60.2) S (q_assign rfl) fun a S => ?_
  refine lx_nil (thenN ?_)
  refine wp_seq (wp_seq (region_plain ?_))
  refine lq v62 S (q_move rfl) fun a S => ?_
  refine lq v48 S (q_move rfl) fun a S => ?_
  obtain ⟨x67, e68, hm⟩ := bind_some hm
  refine lx_call (xs := [.tmp 32, .tmp 33]) S trivial (by decide) rfl rfl Try.call28 ((laws_eqVertexS_ok (H.rdAt 0 rfl) (H.rdAt 2 rfl) e68).mono ?_)
  rintro e w65 ⟨rfl, Hc66⟩
  have H := H.call0 Hc66
  refine ⟨_, rfl, trivial, fun a S => ?_⟩
  refine lq (.bool (!x67)) S (q_not rfl) fun a S => ?_
  refine lq (.bool (!x67)) S (q_move rfl) fun a S => ?_
  obtain ⟨t70, e71, hm⟩ := bind_some hm
  refine lx_cut 4 (fun a w => Slots a 96 [(0, p0), (4, v48), (5, (.int .i64 x46.2)), (6, v55), (7, v62), (8, (.int .i64 x60.2)), (40, (.bool t70))] ∧ Heap w0 [oA (rList Rimpl_Vertex) v62 x60.1, oA (rList Rimpl_Vertex) v55 x53, oA (rList Rimpl_Vertex) v48 x46.1] w) ?_ ?_
  ·by_cases hc72 : (!x67) = true
   ·have hm := ite_t hc72 e71
    refine lx_skip S rfl rfl (isB_ne hc72) (by decide) (fun a S => ?_)
    refine lx_skip S rfl rfl (isB_ne hc72) (by decide) (fun a S => ?_)
    refine lx_skip S rfl rfl (isB_ne hc72) (by decide) (fun a S => ?_)
    refine lq (.bool true) S (q_pickT' rfl hc72 rfl) fun a S => ?_
    refine lx_nil ?_
    obtain rfl := Option.some.inj hm
    have H := H.sel [0, 1, 2] (by decide)
    exact ⟨S.sub ⟨rfl, rfl, rfl, rfl, rfl, rfl, rfl, trivial⟩, H⟩
   ·have hm := ite_f (eq_false_of_ne_true hc72) e71
    have hc72 : (!x67) = false := eq_false_of_ne_true hc72
    refine lx_q (.int .i64 x60.2) S (want_b rfl rfl hc72) (by decide) (q_move rfl) (fun a S => ?_)
    refine lx_q (.int .i64 x46.2) S (want_b rfl rfl hc72) (by decide) (q_move rfl) (fun a S => ?_)
    refine lx_q (.bool (x60.2 != x46.2)) S (want_b rfl rfl hc72) (by decide) (q_neq rfl rfl) (fun a S => ?_)
    refine lq (.bool (x60.2 != x46.2)) S (q_pickF' rfl hc72 rfl) fun a S => ?_
    refine lx_nil ?_
    obtain rfl := Option.some.inj hm
    have H := H.sel [0, 1, 2] (by decide)
    exact ⟨S.sub ⟨rfl, rfl, rfl, rfl, rfl, rfl, rfl, trivial⟩, H⟩
  ·rintro a w ⟨S, H⟩
   refine lx_nil (thenN ?_)
   refine cond_b S rfl (fun hc73 => ?_) (fun hc73 => ?_)
   ·have hm := ite_t hc73 hm
    refine wp_seq (region_plain ?_)
    refine lq (.bool false) S (q_assign rfl) fun a S => ?_
    refine lx_nil (thenN ?_)
    refine wp_ret (then_ret ?_)
    obtain rfl := Option.some.inj hm
    have H : Heap w0 [] w := H.sel [] (by decide)
    exact leave1 S rfl rfl ⟨rfl, H⟩
   ·have hm := ite_f hc73 hm
    refine wp_skip (thenN ?_)
    refine wp_seq (wp_seq (region_plain ?_))
    refine lq v55 S (q_move rfl) fun a S => ?_
    refine lq p0 S (q_move rfl) fun a S => ?_
    obtain ⟨x76, e77, hm⟩ := bind_some hm
    refine lx_call (xs := [.tmp 42]) S trivial (by decide) rfl rfl Try.call26 ((laws_toVertexS_ok (H.arg h0) e77).mono ?_)
    rintro e w74 ⟨v78, rfl, Hc75⟩
    have H := H.call1 Hc75
    refine ⟨_, rfl, trivial, fun a S => ?_⟩
    obtain ⟨x83, e84, hm⟩ := bind_some hm
    refine lx_call (xs := [.tmp 41, .tmp 43]) S trivial (by decide) rfl rfl Try.call28 ((laws_eqVertexS_ok (H.rdAt 2 rfl) (H.rdAt 0 rfl) e84).mono ?_)
    rintro e w81 ⟨rfl, Hc82⟩
    have H := H.call0 Hc82
    refine ⟨_, rfl, trivial, fun a S => ?_⟩
    refine lq (.bool (!x83)) S (q_not rfl) fun a S => ?_
    refine lx_nil (thenN ?_)
    refine cond_b S rfl (fun hc86 => ?_) (fun hc86 => ?_)
    ·have hm := ite_t hc86 hm
     refine wp_seq (region_plain ?_)
     refine lq (.bool false) S (q_assign rfl) fun a S => ?_
     refine lx_nil (thenN ?_)
     refine wp_ret (then_ret ?_)
     obtain rfl := Option.some.inj hm
     have H : Heap w0 [] w81 := H.sel [] (by decide)
     exact leave1 S rfl rfl ⟨rfl, H⟩
    ·have hm := ite_f hc86 hm
     refine wp_skip (thenN ?_)
     refine wp_seq (region_plain ?_)
     refine lq (.int .i64 (1 : Int)) S (q_assign rfl) fun a S => ?_
     refine lx_nil (thenN ?_)
     refine wp_seq (region_plain ?_)
     refine lq v55 S (q_move rfl) fun a S => ?_
     refine lq (.int .i64 (1 : Int)) S (q_move rfl) fun a S => ?_
     obtain ⟨x89, e90, hm⟩ := bind_some hm
     have H : Heap w0 [oA (rList Rimpl_Vertex) v55 x53, oA (rList Rimpl_Vertex) v78 x76, oA (rList Rimpl_Vertex) v62 x60.1, oA (rList Rimpl_Vertex) v48 x46.1] w81 := H.front 2 rfl
     refine lx_call (xs := [.tmp 46, .tmp 47]) S trivial (by decide) rfl rfl Try.call29 ((laws_markVertexS_ok H  e90).mono ?_)
     rintro e w87 ⟨rfl, H⟩
     refine ⟨_, rfl, trivial, fun a S => ?_⟩
     refine lq (.int .i64 x89.1) S (q_assign rfl) fun a S => ?_
     refine lx_nil (thenN ?_)
     refine wp_seq (wp_seq (region_plain ?_))
     refine lq (.int .i64 x89.1) S (q_move rfl) fun a S => ?_
     refine lq (.bool (decide (x89.1 < (0 : Int)))) S (q_lss rfl rfl) fun a S => ?_
     refine lq (.bool (decide (x89.1 < (0 : Int)))) S (q_move rfl) fun a S => ?_
     obtain ⟨t91, e92, hm⟩ := bind_some hm
     refine lx_cut 5 (fun a w => Slots a 96 [(0, p0), (4, v48), (5, (.int .i64 x46.2)), (7, v62), (8, (.int .i64 x60.2)), (56, (.bool t91))] ∧ Heap w0 [oA (rList Rimpl_Vertex) v62 x60.1, oA (rList Rimpl_Vertex) v48 x46.1] w) ?_ ?_
     ·by_cases hc93 : (decide (x89.1 < (0 : Int))) = true
      ·have hm := ite_t hc93 e92
       refine lx_skip S rfl rfl (isB_ne hc93) (by decide) (fun a S => ?_)
       refine lx_skip S rfl rfl (isB_ne hc93) (by decide) (fun a S => ?_)
       refine lx_skip S rfl rfl (isB_ne hc93) (by decide) (fun a S => ?_)
       refine lx_skip S rfl rfl (isB_ne hc93) (by decide) (fun a S => ?_)
       refine lq (.bool true) S (q_pickT' rfl hc93 rfl) fun a S => ?_
       refine lx_nil ?_
       obtain rfl := Option.some.inj hm
       have H := H.sel [2, 3] (by decide)
       exact ⟨S.sub ⟨rfl, rfl, rfl, rfl, rfl, rfl, trivial⟩, H⟩
      ·have hm := ite_f (eq_false_of_ne_true hc93) e92
       have hc93 : (decide (x89.1 < (0 : Int))) = false := eq_false_of_ne_true hc93
       refine lx_q v62 S (want_b rfl rfl hc93) (by decide) (q_move rfl) (fun a S => ?_)
       refine lx_q v48 S (want_b rfl rfl hc93) (by decide) (q_move rfl) (fun a S => ?_)
       obtain ⟨x96, e97, hm⟩ := bind_some hm
       refine lx_call (xs := [.tmp 52, .tmp 53]) S (want_b rfl rfl hc93) (by decide) rfl rfl Try.call28 ((laws_eqVertexS_ok (H.rdAt 2 rfl) (H.rdAt 3 rfl) e97).mono ?_)
       rintro e w94 ⟨rfl, Hc95⟩
       have H := H.call0 Hc95
       refine ⟨_, rfl, trivial, fun a S => ?_⟩
       refine lx_q (.bool (!x96)) S (want_b rfl rfl hc93) (by decide) (q_not rfl) (fun a S => ?_)
       refine lq (.bool (!x96)) S (q_pickF' rfl hc93 rfl) fun a S => ?_
       refine lx_nil ?_
       obtain rfl := Option.some.inj hm
       have H := H.sel [2, 3] (by decide)
       exact ⟨S.sub ⟨rfl, rfl, rfl, rfl, rfl, rfl, trivial⟩, H⟩
     ·rintro a w ⟨S, H⟩
      refine lq (.bool t91) S (q_move rfl) fun a S => ?_
      obtain ⟨t99, e100, hm⟩ := bind_some hm
      refine lx_cut 4 (fun a w => Slots a 96 [(0, p0), (4, v48), (5, (.int .i64 x46.2)), (7, v62), (61, (.bool t99))] ∧ Heap w0 [oA (rList Rimpl_Vertex) v62 x60.1, oA (rList Rimpl_Vertex) v48 x46.1] w) ?_ ?_
      ·by_cases hc101 : t91 = true
       ·have hm := ite_t hc101 e100
        refine lx_skip S rfl rfl (isB_ne hc101) (by decide) (fun a S => ?_)
        refine lx_skip S rfl rfl (isB_ne hc101) (by decide) (fun a S => ?_)
        refine lx_skip S rfl rfl (isB_ne hc101) (by decide) (fun a S => ?_)
        refine lq (.bool true) S (q_pickT' rfl hc101 rfl) fun a S => ?_
        refine lx_nil ?_
        obtain rfl := Option.some.inj hm
        exact ⟨S.sub ⟨rfl, rfl, rfl, rfl, rfl, trivial⟩, H⟩
       ·have hm := ite_f (eq_false_of_ne_true hc101) e100
        have hc101 : t91 = false := eq_false_of_ne_true hc101
        refine lx_q (.int .i64 x60.2) S (want_b rfl rfl hc101) (by decide) (q_move rfl) (fun a S => ?_)
        refine lx_q (.int .i64 x46.2) S (want_b rfl rfl hc101) (by decide) (q_move rfl) (fun a S => ?_)
        refine lx_q (.bool (x60.2 != x46.2)) S (want_b rfl rfl hc101) (by decide) (q_neq rfl rfl) (fun a S => ?_)
        refine lq (.bool (x60.2 != x46.2)) S (q_pickF' rfl hc101 rfl) fun a S => ?_
        refine lx_nil ?_
        obtain rfl := Option.some.inj hm
        exact ⟨S.sub ⟨rfl, rfl, rfl, rfl, rfl, trivial⟩, H⟩
      ·rintro a w ⟨S, H⟩
       refine lx_nil (thenN ?_)
       refine cond_b S rfl (fun hc102 => ?_) (fun hc102 => ?_)
       ·have hm := ite_t hc102 hm
        refine wp_seq (region_plain ?_)
        refine lq (.bool false) S (q_assign rfl) fun a S => ?_
        refine lx_nil (thenN ?_)
        refine wp_ret (then_ret ?_)
        obtain rfl := Option.some.inj hm
        have H : Heap w0 [] w := H.sel [] (by decide)
        exact leave1 S rfl rfl ⟨rfl, H⟩
       ·have hm := ite_f hc102 hm
        refine wp_skip (thenN ?_)
        refine wp_seq (region_plain ?_)
        refine lq (.int .i64 (1 : Int)) S (q_assign rfl) fun a S => ?_
        refine lx_nil (thenN ?_)
        refine wp_seq (region_plain ?_)
        refine lq v62 S (q_move rfl) fun a S => ?_
        refine lq (.int .i64 (1 : Int)) S (q_move rfl) fun a S => ?_
        obtain ⟨x105, e106, hm⟩ := bind_some hm
        refine lx_call (xs := [.tmp 62, .tmp 63]) S trivial (by decide) rfl rfl Try.call29 ((laws_markVertexS_ok H  e106).mono ?_)
        rintro e w103 ⟨rfl, H⟩
        refine ⟨_, rfl, trivial, fun a S => ?_⟩
        refine lq (.int .i64 x105.1) S (q_assign rfl) fun a S => ?_
        refine lx_nil (thenN ?_)
        refine wp_seq (region_plain ?_)
        refine lq (.int .i64 (1 : Int)) S (q_assign rfl) fun a S => ?_
        refine lx_nil (thenN ?_)
        refine wp_seq (region_plain ?_)
        refine lq v62 S (q_move rfl) fun a S => ?_
        refine lq (.int .i64 (1 : Int)) S (q_move rfl) fun a S => ?_
        obtain ⟨x109, e110, hm⟩ := bind_some hm
        refine lx_call (xs := [.tmp 65, .tmp 66]) S trivial (by decide) rfl rfl Try.call30 ((laws_heldVertexS_ok (H.rdAt 0 rfl)  e110).mono ?_)
        rintro e w107 ⟨rfl, Hc108⟩
        have H := H.call0 Hc108
        refine ⟨_, rfl, trivial, fun a S => ?_⟩
        refine lq (.int .i64 x109) S (q_assign rfl) fun a S => ?_
        refine lx_nil (thenN ?_)
        refine wp_seq (wp_seq (region_plain ?_))
        refine lq (.int .i64 x109) S (q_move rfl) fun a S => ?_
        refine lq (.bool (decide (x109 < (0 : Int)))) S (q_lss rfl rfl) fun a S => ?_
        refine lx_nil (thenN ?_)
        refine cond_b S rfl (fun hc112 => ?_) (fun hc112 => ?_)
        ·have hm := ite_t hc112 hm
         refine wp_seq (region_plain ?_)
         refine lq (.bool false) S (q_assign rfl) fun a S => ?_
         refine lx_nil (thenN ?_)
         refine wp_ret (then_ret ?_)
         obtain rfl := Option.some.inj hm
         have H : Heap w0 [] w107 := H.sel [] (by decide)
         exact leave1 S rfl rfl ⟨rfl, H⟩
        ·have hm := ite_f hc112 hm
         refine wp_skip (thenN ?_)
         refine wp_seq (wp_seq (region_plain ?_))
         refine lq (.int .i64 x109) S (q_move rfl) fun a S => ?_
         refine lq (.int .i64 x105.1) S (q_move rfl) fun a S => ?_
         refine lq (.bool (x109 != x105.1)) S (q_neq rfl rfl) fun a S => ?_
         refine lx_nil (thenN ?_)
         refine cond_b S rfl (fun hc113 => ?_) (fun hc113 => ?_)
         ·have hm := ite_t hc113 hm
          refine wp_seq (region_plain ?_)
          refine lq (.bool false) S (q_assign rfl) fun a S => ?_
          refine lx_nil (thenN ?_)
          refine wp_ret (then_ret ?_)
          obtain rfl := Option.some.inj hm
          have H : Heap w0 [] w107 := H.sel [] (by decide)
          exact leave1 S rfl rfl ⟨rfl, H⟩
         ·have hm := ite_f hc113 hm
          refine wp_skip (thenN ?_)
          refine wp_seq (region_plain ?_)
          refine lq p0 S (q_move rfl) fun a S => ?_
          obtain ⟨x116, e117, hm⟩ := bind_some hm
          refine lx_call (xs := [.tmp 74]) S trivial (by decide) rfl rfl Try.call26 ((laws_toVertexS_ok (H.arg h0) e117).mono ?_)
          rintro e w114 ⟨v118, rfl, Hc115⟩
          have H := H.call1 Hc115
          refine ⟨_, rfl, trivial, fun a S => ?_⟩
          obtain ⟨x123, e124, hm⟩ := bind_some hm
          refine lx_call (xs := [.tmp 75]) S trivial (by decide) rfl rfl Try.call27 ((impl_DualGame_ok (H.rdAt 0 rfl) e124).mono ?_)
          rintro e w121 ⟨v125, rfl, Hc122⟩
          have H := H.call1 Hc122
          refine ⟨_, rfl, trivial, fun a S => ?_⟩
          refine lq (.tuple #[v125, (.int .i64 x123.2)]) S (q_move rfl) fun a S => ?_
          refine lq v125 S (q_extract rfl rfl) fun a S => ?_
          refine lq (.int .i64 x123.2) S (q_extract rfl rfl) fun a S => ?_
          refine lq v125 S (q_assign rfl) fun a S => ?_
          refine lq (.int .i64 x123.2) S (q_assign rfl) fun a S => ?_
          refine lx_nil (thenN ?_)
          refine wp_seq (wp_seq (region_plain ?_))
          refine lq v125 S (q_move rfl) fun a S => ?_
          refine lq v48 S (q_move rfl) fun a S => ?_
          obtain ⟨x130, e131, hm⟩ := bind_some hm
          refine lx_call (xs := [.tmp 79, .tmp 80]) S trivial (by decide) rfl rfl Try.call28 ((laws_eqVertexS_ok (H.rdAt 0 rfl) (H.rdAt 3 rfl) e131).mono ?_)
          rintro e w128 ⟨rfl, Hc129⟩
          have H := H.call0 Hc129
          refine ⟨_, rfl, trivial, fun a S => ?_⟩
          refine lq (.bool (!x130)) S (q_not rfl) fun a S => ?_
          refine lq (.bool (!x130)) S (q_move rfl) fun a S => ?_
          obtain ⟨t133, e134, hm⟩ := bind_some hm
          refine lx_cut 4 (fun a w => Slots a 96 [(7, v62), (10, (.int .i64 x105.1)), (87, (.bool t133))] ∧ Heap w0 [oA (rList Rimpl_Vertex) v62 x105.2] w) ?_ ?_
          ·by_cases hc135 : (!x130) = true
           ·have hm := ite_t hc135 e134
            refine lx_skip S rfl rfl (isB_ne hc135) (by decide) (fun a S => ?_)
            refine lx_skip S rfl rfl (isB_ne hc135) (by decide) (fun a S => ?_)
            refine lx_skip S rfl rfl (isB_ne hc135) (by decide) (fun a S => ?_)
            refine lq (.bool true) S (q_pickT' rfl hc135 rfl) fun a S => ?_
            refine lx_nil ?_
            obtain rfl := Option.some.inj hm
            have H := H.sel [2] (by decide)
            exact ⟨S.sub ⟨rfl, rfl, rfl, trivial⟩, H⟩
           ·have hm := ite_f (eq_false_of_ne_true hc135) e134
            have hc135 : (!x130) = false := eq_false_of_ne_true hc135
            refine lx_q (.int .i64 x123.2) S (want_b rfl rfl hc135) (by decide) (q_move rfl) (fun a S => ?_)
            refine lx_q (.int .i64 x46.2) S (want_b rfl rfl hc135) (by decide) (q_move rfl) (fun a S => ?_)
            refine lx_q (.bool (x123.2 != x46.2)) S (want_b rfl rfl hc135) (by decide) (q_neq rfl rfl) (fun a S => ?_)
            refine lq (.bool (x123.2 != x46.2)) S (q_pickF' rfl hc135 rfl) fun a S => ?_
            refine lx_nil ?_
            obtain rfl := Option.some.inj hm
            have H := H.sel [2] (by decide)
            exact ⟨S.sub ⟨rfl, rfl, rfl, trivial⟩, H⟩
          ·rintro a w ⟨S, H⟩
           refine lx_nil (thenN ?_)
           refine cond_b S rfl (fun hc136 => ?_) (fun hc136 => ?_)
           ·have hm := ite_t hc136 hm
            refine wp_seq (region_plain ?_)
            refine lq (.bool false) S (q_assign rfl) fun a S => ?_
            refine lx_nil (thenN ?_)
            refine wp_ret (then_ret ?_)
            obtain rfl := Option.some.inj hm
            have H : Heap w0 [] w := H.sel [] (by decide)
            exact leave1 S rfl rfl ⟨rfl, H⟩
           ·have hm := ite_f hc136 hm
            refine wp_skip (thenN ?_)
            refine wp_seq (region_plain ?_)
            refine lq (.int .i64 (1 : Int)) S (q_assign rfl) fun a S => ?_
            refine lx_nil (thenN ?_)
            refine wp_seq (region_plain ?_)
            refine lq v62 S (q_move rfl) fun a S => ?_
            refine lq (.int .i64 (1 : Int)) S (q_move rfl) fun a S => ?_
            obtain ⟨x139, e140, hm⟩ := bind_some hm
            refine lx_call (xs := [.tmp 88, .tmp 89]) S trivial (by decide) rfl rfl Try.call30 ((laws_heldVertexS_ok (H.rdAt 0 rfl)  e140).mono ?_)
            rintro e w137 ⟨rfl, Hc138⟩
            have H := H.call0 Hc138
            refine ⟨_, rfl, trivial, fun a S => ?_⟩
            refine lq (.int .i64 x139) S (q_assign rfl) fun a S => ?_
            refine lx_nil (thenN ?_)
            refine wp_seq (wp_seq (region_plain ?_))
            refine lq (.int .i64 x139) S (q_move rfl) fun a S => ?_
            refine lq (.bool (decide (x139 < (0 : Int)))) S (q_lss rfl rfl) fun a S => ?_
            refine lx_nil (thenN ?_)
            refine cond_b S rfl (fun hc142 => ?_) (fun hc142 => ?_)
            ·have hm := ite_t hc142 hm
             refine wp_seq (region_plain ?_)
             refine lq (.bool false) S (q_assign rfl) fun a S => ?_
             refine lx_nil (thenN ?_)
             refine wp_ret (then_ret ?_)
             obtain rfl := Option.some.inj hm
             have H : Heap w0 [] w137 := H.sel [] (by decide)
             exact leave1 S rfl rfl ⟨rfl, H⟩
            ·have hm := ite_f hc142 hm
             refine wp_skip (thenN ?_)
             refine wp_seq (wp_seq (region_plain ?_))
             refine lq (.int .i64 x139) S (q_move rfl) fun a S => ?_
             refine lq (.int .i64 x105.1) S (q_move rfl) fun a S => ?_
             refine lq (.bool (x139 != x105.1)) S (q_neq rfl rfl) fun a S => ?_
             refine lx_nil (thenN ?_)
             refine cond_b S rfl (fun hc143 => ?_) (fun hc143 => ?_)
             ·have hm := ite_t hc143 hm
              refine wp_seq (region_plain ?_)
              refine lq (.bool false) S (q_assign rfl) fun a S => ?_
              refine lx_nil (thenN ?_)
              refine wp_ret (then_ret ?_)
              obtain rfl := Option.some.inj hm
              have H : Heap w0 [] w137 := H.sel [] (by decide)
              exact leave1 S rfl rfl ⟨rfl, H⟩
             ·have hm := ite_f hc143 hm
              refine wp_skip (thenN ?_)
              refine wp_seq (region_plain ?_)
              refine lq (.bool true) S (q_assign rfl) fun a S => ?_
              refine lx_nil (thenN ?_)
              refine wp_ret ?_
              obtain rfl := Option.some.inj hm
              have H : Heap w0 [] w137 := H.sel [] (by decide)
              exact leave1 S rfl rfl ⟨rfl, H⟩
end Go.Proofs.Ytghhodobmlgpfaa
