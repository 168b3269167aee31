/- The models of some functions and their walks (printed by a program of this repo). -/
import Derived.Test.YtcddkipbedfhkaaF0
import Derived.Test.YtcddkipbedfhkaaGxT
import Derived.Test.YtcddkipbedfhkaaGxY
namespace Go.Proofs.Ytcddkipbedfhkaa
open Go.RowKit Go.Gx

/-- slices.Clone[[]int64,int64] -/
def slices_Clone__int64_int64_m (_ : Nat) (a0 : (List Int)) : Option ((List Int)) :=
  (app ([] : List Int) a0).bind fun x38 => some (x38)
set_option maxRecDepth 20000 in
theorem slices_Clone__int64_int64_ok [dr : Dr] {w0 : World} {fuel : Nat} {p0 : Value} {a0 : (List Int)} {r : (List Int)} (h0 : Rd (rList (rInt .i64)) w0 p0 a0) (hm : slices_Clone__int64_int64_m fuel a0 = some r) :
  Calls Try.prog 88 #[p0] w0 fun e w => ∃ (v0 : Value), e = .returned (v0) ∧ Heap w0 [oA (rList (rInt .i64)) v0 r] w := by
 unfold slices_Clone__int64_int64_m at hm
 have H := Heap.start w0
 refine enter (args := [p0]) Try.func88 rfl 8 rfl (Nat.le_of_ble_eq_true rfl) (fun a S => ?_)
 refine wp_seq (region_plain ?_)
 refine lq (.slice none 0 0) S (q_assign rfl) fun a S => ?_
 refine lx_nil (thenN ?_)
 refine wp_seq (wp_seq (region_plain ?_))
 refine lq p0 S (q_move rfl) fun a S => ?_
 obtain ⟨bn31, hqn, hb32⟩ := ((H.arg h0)).isNil (P := Try.prog) Try.underlying38
 refine lq (.bool bn31) S (hqn rfl rfl) fun a S => ?_
 refine lx_nil (thenN ?_)
 refine cond_b S rfl (fun hc33 => ?_) (fun hc33 => ?_)
 ·obtain rfl := hb32 hc33
  replace hm : some [] = some r := by simpa [app] using hm
  refine wp_seq (region_plain ?_)
  refine lq (.slice none 0 0) S (q_assign rfl) fun a S => ?_
  refine lx_nil (thenN ?_)
  refine wp_ret (then_ret ?_)
  obtain rfl := Option.some.inj hm
  have H : Heap w0 [oA (rList (rInt .i64)) (.slice none 0 0) ([] : List Int)] w0 := H.nilList (rInt .i64)
  exact leave1 S rfl rfl ⟨(.slice none 0 0), rfl, H⟩
 ·skip
  refine wp_skip (thenN ?_)
  refine wp_seq (region_plain ?_)
  refine lx_buildSlice0 (r := (rInt .i64)) S trivial (by decide) rfl H Try.underlying38 Try.sizeOf2 (fun v35 w36 H => ⟨trivial, fun a S => ?_⟩)
  refine lq p0 S (q_move rfl) fun a S => ?_
  obtain ⟨x38, e39, hm⟩ := bind_some hm
  obtain ⟨hle, hap⟩ := app_some e39
  replace hap := hap.symm
  subst hap
  refine lx_appendRd (r := (rInt .i64)) S trivial (by decide) rfl H (flat_int _) (H.arg h0) rfl rfl Try.underlying38 Try.ti2 rfl rfl rfl (Nat.le_of_ble_eq_true rfl) (by decide) hle (fun v40 w41 H => ⟨trivial, fun a S => ?_⟩)
  refine lq v40 S (q_assign rfl) fun a S => ?_
  refine lx_nil (thenN ?_)
  refine wp_ret ?_
  obtain rfl := Option.some.inj hm
  exact leave1 S rfl rfl ⟨v40, rfl, H⟩

/-- laws.markInt64S -/
def laws_markInt64S_m (fuel : Nat) (a0 : (List Int)) (a1 : Int) : Option (Int × (List Int)) :=
  (iter (fun (s : (List Int) × (Int) × (Int)) => (match s with | (xs38, x39, x40) => (if (decide (x40 < (xs38.length : Int))) = true then (idx xs38 x40).bind fun _ => some (.inl ((xs38.set x40.toNat x39), (W (x39 + (1 : Int))), (W (x40 + (1 : Int))))) else some (.inr (.inl (x39, xs38)))) : Option (((List Int) × (Int) × (Int)) ⊕ ((Int × (List Int)) ⊕ (Int × (List Int)))))) fuel (a0, a1, (0 : Int))).bind fun res50 => ctl (β := Int × (List Int)) (ρ := Int × (List Int)) (τ := Int × (List Int)) res50 (fun (x48, xs49) => some ((x48, xs49))) (fun q => some (q))
set_option maxRecDepth 20000 in
theorem laws_markInt64S_ok [dr : Dr] {w0 : World} {fuel : Nat} {p0 : Value} {a0 : (List Int)} {a1 : Int} {w00 : World} {L : List Asrt} {r : Int × (List Int)} (H : Heap w00 (oA (rList (rInt .i64)) p0 a0 :: L) w0) (hm : laws_markInt64S_m fuel a0 a1 = some r) :
  Calls Try.prog 24 #[p0, .int .i64 a1] w0 fun e w => e = .returned (.int .i64 r.1) ∧ Heap w00 (oA (rList (rInt .i64)) p0 r.2 :: L) w := by
 unfold laws_markInt64S_m at hm
 refine enter (args := [p0, .int .i64 a1]) Try.func24 rfl 19 rfl (Nat.le_of_ble_eq_true rfl) (fun a S => ?_)
 refine wp_seq (region_plain ?_)
 refine lq (.int .i64 (0 : Int)) S (q_assign rfl) fun a S => ?_
 refine lx_nil (thenN ?_)
 refine wp_seq (wp_seq (region_plain ?_))
 refine lq (.int .i64 (0 : Int)) S (q_assign rfl) fun a S => ?_
 refine lx_nil (thenN ?_)
 obtain ⟨res50, hit51, hk54⟩ := bind_some hm
 obtain ⟨f52, hf53, hit51⟩ := iter_name hit51
 refine block_loop (fun a w => ∃ (x48 : Int) (xs49 : List Int), Slots a 19 [(1, (.int .i64 x48))] ∧ Heap w00 (oA (rList (rInt .i64)) p0 xs49 :: L) w ∧ res50 = .inl (x48, xs49)) ?_ ?_
 ·rintro a w ⟨x48, xs49, S, H, rfl⟩
  have hm := ctl_inl hk54
  refine thenN ?_
  refine wp_seq (region_plain ?_)
  refine lq (.int .i64 x48) S (q_move rfl) fun a S => ?_
  refine lq (.int .i64 x48) S (q_assign rfl) fun a S => ?_
  refine lx_nil (thenN ?_)
  refine wp_ret ?_
  obtain rfl := Option.some.inj hm
  exact leave1 S rfl rfl ⟨rfl, H⟩
 ·skip
  refine loop_ghost (fun n a w => ∃ (xs38 : List Int) (x39 : Int) (x40 : Int), Slots a 19 [(0, p0), (1, (.int .i64 x39)), (5, (.int .i64 x40))] ∧ Heap w00 (oA (rList (rInt .i64)) p0 xs38 :: L) w ∧ iter f52 n (xs38, x39, x40) = some res50) _ ⟨a0, a1, (0 : Int), S.sub ⟨rfl, rfl, rfl, trivial⟩, H, hit51⟩ ?_
  rintro n a w ⟨xs38, x39, x40, S, H, hit51⟩
  obtain ⟨m55, o56, rfl, hm, hc57⟩ := iter_step hit51
  rw [hf53] at hm
  refine wp_seq (wp_seq (region_plain ?_))
  refine lq (.int .i64 x40) S (q_move rfl) fun a S => ?_
  refine lq p0 S (q_move rfl) fun a S => ?_
  refine lq (.int .i64 (xs38.length : Int)) S (q_lenSl rfl (H.isSl 0 rfl) rfl Try.underlying38) fun a S => ?_
  refine lq (.bool (decide (x40 < (xs38.length : Int)))) S (q_lss rfl rfl) fun a S => ?_
  refine lx_nil (thenN ?_)
  refine cond_b S rfl (fun hc58 => ?_) (fun hc58 => ?_)
  ·have hm := ite_t hc58 hm
   refine wp_skip (thenN ?_)
   refine wp_seq ?_
   refine wp_block ?_
   refine wp_seq (region_plain ?_)
   refine lq p0 S (q_move rfl) fun a S => ?_
   refine lq (.int .i64 x40) S (q_move rfl) fun a S => ?_
   refine lq (.int .i64 x39) S (q_move rfl) fun a S => ?_
   obtain ⟨x59, e60, hm⟩ := bind_some hm
   have hlt := lt_of_idx (idx_some e60).2
   refine lq (ePtr p0 (x40.toNat * 1)) S (q_indexAddr rfl (H.isSl 0 rfl) rfl (idx_some e60).1 hlt Try.underlying38 Try.sizeOf2) fun a S => ?_
   refine lx_storeElem (r := (rInt .i64)) (us := [(.int .i64 x39)]) (off := 0) (e' := x39) S trivial rfl H.putE (ev_zero rfl) rfl (idx_some e60).2 rfl Try.sizeOf2 (Nat.le_of_ble_eq_true rfl) (List.forall_mem_cons.2 ⟨rfl, (List.forall_mem_nil _)⟩) (Upd.full rfl (fun w G hG => by cases (show G = [] from hG); exact ⟨rfl, rfl⟩)) (fun w61 H => ⟨trivial, fun a S => ?_⟩)
   refine lx_nil (thenN ?_)
   refine region_plain ?_
   refine lq (.int .i64 x39) S (q_move rfl) fun a S => ?_
   refine lq (.int .i64 (W (x39 + (1 : Int)))) S (q_add rfl rfl) fun a S => ?_
   refine lq (.int .i64 (W (x39 + (1 : Int)))) S (q_assign rfl) fun a S => ?_
   refine lx_nil ?_
   refine inBlock_norm ?_
   refine thenN ?_
   refine region_plain ?_
   refine lq (.int .i64 x40) S (q_move rfl) fun a S => ?_
   refine lq (.int .i64 (W (x40 + (1 : Int)))) S (q_add rfl rfl) fun a S => ?_
   refine lq (.int .i64 (W (x40 + (1 : Int)))) S (q_assign rfl) fun a S => ?_
   refine lx_nil ?_
   exact ⟨m55, Nat.lt_succ_self _, (xs38.set x40.toNat x39), (W (x39 + (1 : Int))), (W (x40 + (1 : Int))), S.sub ⟨rfl, rfl, rfl, trivial⟩, H, it_cont hm hc57⟩
  ·have hm := ite_f hc58 hm
   refine wp_exit ?_
   refine then_exit ?_
   refine then_exit ?_
   refine inBlock_exit ?_
   obtain rfl := it_brk hm hc57
   exact ⟨x39, xs38, S.sub ⟨rfl, trivial⟩, H, rfl⟩

/-- laws.markVertexS -/
def laws_markVertexS_m (fuel : Nat) (a0 : (List Timpl_Vertex)) (a1 : Int) : Option (Int × (List Timpl_Vertex)) :=
  (iter (fun (s : (List Timpl_Vertex) × (Int) × (Int)) => (match s with | (xs62, x63, x64) => (if (decide (x64 < (xs62.length : Int))) = true then (idx xs62 x64).bind fun x107 => (idx (xs62.set x64.toNat (x63, x107.2.1, x107.2.2)) x64).bind fun x110 => (idx ((xs62.set x64.toNat (x63, x107.2.1, x107.2.2)).set x64.toNat (x110.1, (W (x63 + (1 : Int))), x110.2.2)) x64).bind fun x113 => (laws_markInt64S_m fuel x113.2.2 (W ((W (x63 + (1 : Int))) + (1 : Int)))).bind fun x130 => some (.inl ((((xs62.set x64.toNat (x63, x107.2.1, x107.2.2)).set x64.toNat (x110.1, (W (x63 + (1 : Int))), x110.2.2)).set x64.toNat (x113.1, x113.2.1, x130.2)), x130.1, (W (x64 + (1 : Int))))) else some (.inr (.inl (x63, xs62)))) : Option (((List Timpl_Vertex) × (Int) × (Int)) ⊕ ((Int × (List Timpl_Vertex)) ⊕ (Int × (List Timpl_Vertex)))))) fuel (a0, a1, (0 : Int))).bind fun res98 => ctl (β := Int × (List Timpl_Vertex)) (ρ := Int × (List Timpl_Vertex)) (τ := Int × (List Timpl_Vertex)) res98 (fun (x96, xs97) => some ((x96, xs97))) (fun q => some (q))
set_option maxRecDepth 20000 in
theorem laws_markVertexS_ok [dr : Dr] {w0 : World} {fuel : Nat} {p0 : Value} {a0 : (List Timpl_Vertex)} {a1 : Int} {w00 : World} {L : List Asrt} {r : Int × (List Timpl_Vertex)} (H : Heap w00 (oA (rList Rimpl_Vertex) p0 a0 :: L) w0) (hm : laws_markVertexS_m fuel a0 a1 = some r) :
  Calls Try.prog 16 #[p0, .int .i64 a1] w0 fun e w => e = .returned (.int .i64 r.1) ∧ Heap w00 (oA (rList Rimpl_Vertex) p0 r.2 :: L) w := by
 unfold laws_markVertexS_m at hm
 refine enter (args := [p0, .int .i64 a1]) Try.func16 rfl 34 rfl (Nat.le_of_ble_eq_true rfl) (fun a S => ?_)
 refine wp_seq (region_plain ?_)
 refine lq (.int .i64 (0 : Int)) S (q_assign rfl) fun a S => ?_
 refine lx_nil (thenN ?_)
 refine wp_seq (wp_seq (region_plain ?_))
 refine lq (.int .i64 (0 : Int)) S (q_assign rfl) fun a S => ?_
 refine lx_nil (thenN ?_)
 obtain ⟨res98, hit99, hk102⟩ := bind_some hm
 obtain ⟨f100, hf101, hit99⟩ := iter_name hit99
 refine block_loop (fun a w => ∃ (x96 : Int) (xs97 : List Timpl_Vertex), Slots a 34 [(1, (.int .i64 x96))] ∧ Heap w00 (oA (rList Rimpl_Vertex) p0 xs97 :: L) w ∧ res98 = .inl (x96, xs97)) ?_ ?_
 ·rintro a w ⟨x96, xs97, S, H, rfl⟩
  have hm := ctl_inl hk102
  refine thenN ?_
  refine wp_seq (region_plain ?_)
  refine lq (.int .i64 x96) S (q_move rfl) fun a S => ?_
  refine lq (.int .i64 x96) S (q_assign rfl) fun a S => ?_
  refine lx_nil (thenN ?_)
  refine wp_ret ?_
  obtain rfl := Option.some.inj hm
  exact leave1 S rfl rfl ⟨rfl, H⟩
 ·skip
  refine loop_ghost (fun n a w => ∃ (xs62 : List Timpl_Vertex) (x63 : Int) (x64 : Int), Slots a 34 [(0, p0), (1, (.int .i64 x63)), (5, (.int .i64 x64))] ∧ Heap w00 (oA (rList Rimpl_Vertex) p0 xs62 :: L) w ∧ iter f100 n (xs62, x63, x64) = some res98) _ ⟨a0, a1, (0 : Int), S.sub ⟨rfl, rfl, rfl, trivial⟩, H, hit99⟩ ?_
  rintro n a w ⟨xs62, x63, x64, S, H, hit99⟩
  obtain ⟨m103, o104, rfl, hm, hc105⟩ := iter_step hit99
  rw [hf101] at hm
  refine wp_seq (wp_seq (region_plain ?_))
  refine lq (.int .i64 x64) S (q_move rfl) fun a S => ?_
  refine lq p0 S (q_move rfl) fun a S => ?_
  refine lq (.int .i64 (xs62.length : Int)) S (q_lenSl rfl (H.isSl 0 rfl) rfl Try.underlying27) fun a S => ?_
  refine lq (.bool (decide (x64 < (xs62.length : Int)))) S (q_lss rfl rfl) fun a S => ?_
  refine lx_nil (thenN ?_)
  refine cond_b S rfl (fun hc106 => ?_) (fun hc106 => ?_)
  ·have hm := ite_t hc106 hm
   refine wp_skip (thenN ?_)
   refine wp_seq ?_
   refine wp_block ?_
   refine wp_seq (region_plain ?_)
   refine lq p0 S (q_move rfl) fun a S => ?_
   refine lq (.int .i64 x64) S (q_move rfl) fun a S => ?_
   refine lq (.int .i64 x63) S (q_move rfl) fun a S => ?_
   obtain ⟨x107, e108, hm⟩ := bind_some hm
   have hlt := lt_of_idx (idx_some e108).2
   refine lq (ePtr p0 (x64.toNat * 3)) S (q_indexAddr rfl (H.isSl 0 rfl) rfl (idx_some e108).1 hlt Try.underlying27 Try.sizeOf53) fun a S => ?_
   refine lq (pAdd (ePtr p0 (x64.toNat * 3)) 0) S (q_fieldAddr' 0 2 rfl (((H.isSl 0 rfl)).ptr (lt_of_idx (idx_some e108).2) _) Try.underlying53 rfl Try.sizeOf2) fun a S => ?_
   refine lx_storeElem (r := Rimpl_Vertex) (us := [(.int .i64 x63)]) (off := 0) (e' := (x63, x107.2.1, x107.2.2)) S trivial rfl H.putE rfl rfl (idx_some e108).2 rfl Try.sizeOf2 (Nat.le_of_ble_eq_true rfl) (List.forall_mem_cons.2 ⟨rfl, (List.forall_mem_nil _)⟩) (Upd.fst (off := 0) (Nat.le_of_ble_eq_true rfl) (Upd.full rfl (fun w G hG => by cases (show G = [] from hG); exact ⟨rfl, rfl⟩))) (fun w109 H => ⟨trivial, fun a S => ?_⟩)
   refine lx_nil (thenN ?_)
   refine wp_seq (region_plain ?_)
   refine lq (.int .i64 x63) S (q_move rfl) fun a S => ?_
   refine lq (.int .i64 (W (x63 + (1 : Int)))) S (q_add rfl rfl) fun a S => ?_
   refine lq (.int .i64 (W (x63 + (1 : Int)))) S (q_assign rfl) fun a S => ?_
   refine lx_nil (thenN ?_)
   refine wp_seq (region_plain ?_)
   refine lq p0 S (q_move rfl) fun a S => ?_
   refine lq (.int .i64 x64) S (q_move rfl) fun a S => ?_
   refine lq (.int .i64 (W (x63 + (1 : Int)))) S (q_move rfl) fun a S => ?_
   obtain ⟨x110, e111, hm⟩ := bind_some hm
   have hlt := lt_of_idx (idx_some e111).2
   refine lq (ePtr p0 (x64.toNat * 3)) S (q_indexAddr rfl (H.isSl 0 rfl) rfl (idx_some e111).1 hlt Try.underlying27 Try.sizeOf53) fun a S => ?_
   refine lq (pAdd (ePtr p0 (x64.toNat * 3)) 1) S (q_fieldAddr' 1 2 rfl (((H.isSl 0 rfl)).ptr (lt_of_idx (idx_some e111).2) _) Try.underlying53 rfl Try.sizeOf2) fun a S => ?_
   refine lx_storeElem (r := Rimpl_Vertex) (us := [(.int .i64 (W (x63 + (1 : Int))))]) (off := 1) (e' := (x110.1, (W (x63 + (1 : Int))), x110.2.2)) S trivial rfl H.putE rfl rfl (idx_some e111).2 rfl Try.sizeOf2 (Nat.le_of_ble_eq_true rfl) (List.forall_mem_cons.2 ⟨rfl, (List.forall_mem_nil _)⟩) (Upd.snd (off := 0) (Upd.fst (off := 0) (Nat.le_of_ble_eq_true rfl) (Upd.full rfl (fun w G hG => by cases (show G = [] from hG); exact ⟨rfl, rfl⟩)))) (fun w112 H => ⟨trivial, fun a S => ?_⟩)
   refine lx_nil (thenN ?_)
   refine wp_seq (region_plain ?_)
   refine lq (.int .i64 (W (x63 + (1 : Int)))) S (q_move rfl) fun a S => ?_
   refine lq (.int .i64 (W ((W (x63 + (1 : Int))) + (1 : Int)))) S (q_add rfl rfl) fun a S => ?_
   refine lq (.int .i64 (W ((W (x63 + (1 : Int))) + (1 : Int)))) S (q_assign rfl) fun a S => ?_
   refine lx_nil (thenN ?_)
   refine region_plain ?_
   refine lq p0 S (q_move rfl) fun a S => ?_
   refine lq (.int .i64 x64) S (q_move rfl) fun a S => ?_
   obtain ⟨x113, e114, hm⟩ := bind_some hm
   have hlt := lt_of_idx (idx_some e114).2
   refine lq (ePtr p0 (x64.toNat * 3)) S (q_indexAddr rfl (H.isSl 0 rfl) rfl (idx_some e114).1 hlt Try.underlying27 Try.sizeOf53) fun a S => ?_
   refine lq (pAdd (ePtr p0 (x64.toNat * 3)) 2) S (q_fieldAddr' 2 38 rfl (((H.isSl 0 rfl)).ptr (lt_of_idx (idx_some e114).2) _) Try.underlying53 rfl Try.sizeOf38) fun a S => ?_
   obtain ⟨c115, h116, hat117⟩ := (H.rdAt 0 rfl).elem (idx_some e114).2
   obtain ⟨c120, c121, rfl, h122, h123⟩ := h116
   obtain rfl := h122
   obtain ⟨c124, c125, rfl, h126, h127⟩ := h123
   obtain rfl := h126
   obtain ⟨v118, rfl, h119⟩ := rd_list h127
   refine lx_e v118 S trivial (by decide) rfl trivial (q_load1 rfl Try.isAgg38 (by rintro _ rfl; exact (At.of_add (m := 2) (j := 0) (hat117 2 _ rfl)))) (fun a S => ?_)
   refine lq (.int .i64 (W ((W (x63 + (1 : Int))) + (1 : Int)))) S (q_move rfl) fun a S => ?_
   obtain ⟨x130, e131, hm⟩ := bind_some hm
   obtain ⟨u132, hat133, H⟩ := H.lend (idx_some e114).2 (Lend.snd (off := 1) (Lend.snd (off := 0) (Lend.here)))
   obtain rfl : v118 = u132 := At.eq (hat117 2 _ rfl) hat133
   refine lx_call (xs := [.tmp 30, .tmp 31]) S trivial (by decide) rfl rfl Try.call24 ((laws_markInt64S_ok H  e131).mono ?_)
   rintro e w128 ⟨rfl, H⟩
   have H : Heap w00 (oA (rList Rimpl_Vertex) p0 (((xs62.set x64.toNat (x63, x107.2.1, x107.2.2)).set x64.toNat (x110.1, (W (x63 + (1 : Int))), x110.2.2)).set x64.toNat (x113.1, x113.2.1, x130.2)) :: L) w128 := H.back
   refine ⟨_, rfl, trivial, fun a S => ?_⟩
   refine lq (.int .i64 x130.1) S (q_assign rfl) fun a S => ?_
   refine lx_nil ?_
   refine inBlock_norm ?_
   refine thenN ?_
   refine region_plain ?_
   refine lq (.int .i64 x64) S (q_move rfl) fun a S => ?_
   refine lq (.int .i64 (W (x64 + (1 : Int)))) S (q_add rfl rfl) fun a S => ?_
   refine lq (.int .i64 (W (x64 + (1 : Int)))) S (q_assign rfl) fun a S => ?_
   refine lx_nil ?_
   exact ⟨m103, Nat.lt_succ_self _, (((xs62.set x64.toNat (x63, x107.2.1, x107.2.2)).set x64.toNat (x110.1, (W (x63 + (1 : Int))), x110.2.2)).set x64.toNat (x113.1, x113.2.1, x130.2)), x130.1, (W (x64 + (1 : Int))), S.sub ⟨rfl, rfl, rfl, trivial⟩, H, it_cont hm hc105⟩
  ·have hm := ite_f hc106 hm
   refine wp_exit ?_
   refine then_exit ?_
   refine then_exit ?_
   refine inBlock_exit ?_
   obtain rfl := it_brk hm hc105
   exact ⟨x63, xs62, S.sub ⟨rfl, trivial⟩, H, rfl⟩

/-- laws.heldInt64S -/
def laws_heldInt64S_m (fuel : Nat) (a0 : (List Int)) (a1 : Int) : Option (Int) :=
  (iter (fun (s : (Int) × (Int)) => (match s with | (x40, x41) => (if (decide (x41 < (a0.length : Int))) = true then (idx a0 x41).bind fun x61 => (if (x61 != x40) = true then some (.inr (.inr (-1 : Int))) else some (.inl ((W (x40 + (1 : Int))), (W (x41 + (1 : Int)))))) else some (.inr (.inl (x40)))) : Option (((Int) × (Int)) ⊕ ((Int) ⊕ (Int))))) fuel (a1, (0 : Int))).bind fun res52 => ctl (β := Int) (ρ := Int) (τ := Int) res52 (fun (x51) => some (x51)) (fun q => some (q))
set_option maxRecDepth 20000 in
theorem laws_heldInt64S_ok [dr : Dr] {w0 : World} {fuel : Nat} {p0 : Value} {a0 : (List Int)} {a1 : Int} {r : Int} (h0 : Rd (rList (rInt .i64)) w0 p0 a0) (hm : laws_heldInt64S_m fuel a0 a1 = some r) :
  Calls Try.prog 26 #[p0, .int .i64 a1] w0 fun e w => e = .returned (.int .i64 r) ∧ Heap w0 [] w := by
 unfold laws_heldInt64S_m at hm
 have H := Heap.start w0
 refine enter (args := [p0, .int .i64 a1]) Try.func26 rfl 21 rfl (Nat.le_of_ble_eq_true rfl) (fun a S => ?_)
 refine wp_seq (region_plain ?_)
 refine lq (.int .i64 (0 : Int)) S (q_assign rfl) fun a S => ?_
 refine lx_nil (thenN ?_)
 refine wp_seq (wp_seq (region_plain ?_))
 refine lq (.int .i64 (0 : Int)) S (q_assign rfl) fun a S => ?_
 refine lx_nil (thenN ?_)
 obtain ⟨res52, hit53, hk56⟩ := bind_some hm
 obtain ⟨f54, hf55, hit53⟩ := iter_name hit53
 refine block_loop (fun a w => ∃ (x51 : Int), Slots a 21 [(1, (.int .i64 x51))] ∧ Heap w0 [] w ∧ res52 = .inl (x51)) ?_ ?_
 ·rintro a w ⟨x51, S, H, rfl⟩
  have hm := ctl_inl hk56
  refine thenN ?_
  refine wp_seq (region_plain ?_)
  refine lq (.int .i64 x51) S (q_move rfl) fun a S => ?_
  refine lq (.int .i64 x51) S (q_assign rfl) fun a S => ?_
  refine lx_nil (thenN ?_)
  refine wp_ret ?_
  obtain rfl := Option.some.inj hm
  exact leave1 S rfl rfl ⟨rfl, H⟩
 ·skip
  refine loop_ghost (fun n a w => ∃ (x40 : Int) (x41 : Int), Slots a 21 [(0, p0), (1, (.int .i64 x40)), (5, (.int .i64 x41))] ∧ Heap w0 [] w ∧ iter f54 n (x40, x41) = some res52) _ ⟨a1, (0 : Int), S.sub ⟨rfl, rfl, rfl, trivial⟩, H, hit53⟩ ?_
  rintro n a w ⟨x40, x41, S, H, hit53⟩
  obtain ⟨m57, o58, rfl, hm, hc59⟩ := iter_step hit53
  rw [hf55] at hm
  refine wp_seq (wp_seq (region_plain ?_))
  refine lq (.int .i64 x41) S (q_move rfl) fun a S => ?_
  refine lq p0 S (q_move rfl) fun a S => ?_
  refine lq (.int .i64 (a0.length : Int)) S (q_lenSl rfl (h0).isSl rfl Try.underlying38) fun a S => ?_
  refine lq (.bool (decide (x41 < (a0.length : Int)))) S (q_lss rfl rfl) fun a S => ?_
  refine lx_nil (thenN ?_)
  refine cond_b S rfl (fun hc60 => ?_) (fun hc60 => ?_)
  ·have hm := ite_t hc60 hm
   refine wp_skip (thenN ?_)
   refine wp_seq ?_
   refine wp_block ?_
   refine wp_seq (wp_seq (region_plain ?_))
   refine lq p0 S (q_move rfl) fun a S => ?_
   refine lq (.int .i64 x41) S (q_move rfl) fun a S => ?_
   obtain ⟨x61, e62, hm⟩ := bind_some hm
   obtain ⟨c63, h64, hat65⟩ := (h0).elem (idx_some e62).2
   obtain rfl := h64
   have hlt := lt_of_idx (idx_some e62).2
   refine lq (ePtr p0 (x41.toNat * 1)) S (q_indexAddr rfl (h0).isSl rfl (idx_some e62).1 hlt Try.underlying38 Try.sizeOf2) fun a S => ?_
   refine lx_e (.int .i64 x61) S trivial (by decide) rfl trivial (q_load1 rfl Try.isAgg2 (by rintro _ rfl; exact ((hat65 0 _ rfl).ext H.ext))) (fun a S => ?_)
   refine lq (.int .i64 x40) S (q_move rfl) fun a S => ?_
   refine lq (.bool (x61 != x40)) S (q_neq rfl rfl) fun a S => ?_
   refine lx_nil (thenN ?_)
   refine cond_b S rfl (fun hc66 => ?_) (fun hc66 => ?_)
   ·have hm := ite_t hc66 hm
    refine wp_seq (region_plain ?_)
    refine lq (.int .i64 (-1 : Int)) S (q_assign rfl) fun a S => ?_
    refine lx_nil (thenN ?_)
    refine wp_ret (then_ret ?_)
    refine inBlock_ret ?_
    refine then_ret ?_
    refine then_ret ?_
    refine inBlock_ret ?_
    refine then_ret ?_
    refine then_ret ?_
    obtain rfl := it_brk hm hc59
    have hm := ctl_inr hk56
    obtain rfl := Option.some.inj hm
    exact leave1 S rfl rfl ⟨rfl, H⟩
   ·have hm := ite_f hc66 hm
    refine wp_skip (thenN ?_)
    refine region_plain ?_
    refine lq (.int .i64 x40) S (q_move rfl) fun a S => ?_
    refine lq (.int .i64 (W (x40 + (1 : Int)))) S (q_add rfl rfl) fun a S => ?_
    refine lq (.int .i64 (W (x40 + (1 : Int)))) S (q_assign rfl) fun a S => ?_
    refine lx_nil ?_
    refine inBlock_norm ?_
    refine thenN ?_
    refine region_plain ?_
    refine lq (.int .i64 x41) S (q_move rfl) fun a S => ?_
    refine lq (.int .i64 (W (x41 + (1 : Int)))) S (q_add rfl rfl) fun a S => ?_
    refine lq (.int .i64 (W (x41 + (1 : Int)))) S (q_assign rfl) fun a S => ?_
    refine lx_nil ?_
    exact ⟨m57, Nat.lt_succ_self _, (W (x40 + (1 : Int))), (W (x41 + (1 : Int))), S.sub ⟨rfl, rfl, rfl, trivial⟩, H, it_cont hm hc59⟩
  ·have hm := ite_f hc60 hm
   refine wp_exit ?_
   refine then_exit ?_
   refine then_exit ?_
   refine inBlock_exit ?_
   obtain rfl := it_brk hm hc59
   exact ⟨x40, S.sub ⟨rfl, trivial⟩, H, rfl⟩
end Go.Proofs.Ytcddkipbedfhkaa
