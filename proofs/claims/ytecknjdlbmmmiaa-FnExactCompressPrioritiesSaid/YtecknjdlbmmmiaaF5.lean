/- The models of some functions and their walks (printed by a program of this repo). -/
import Derived.Test.YtecknjdlbmmmiaaF0
import Derived.Test.YtecknjdlbmmmiaaF1
import Derived.Test.YtecknjdlbmmmiaaF2
import Derived.Test.YtecknjdlbmmmiaaF4
import Derived.Test.YtecknjdlbmmmiaaGxT
import Derived.Test.YtecknjdlbmmmiaaGxY
namespace Go.Proofs.Ytecknjdlbmmmiaa
open Go.RowKit Go.Gx

/-- laws.markVertexS -/
def laws_markVertexS_m (fuel : Nat) (a0 : (List Timpl_Vertex)) (a1 : Int) : Option (Int × (List Timpl_Vertex)) :=
  (iter (fun (s : (List Timpl_Vertex) × (Int) × (Int)) => (match s with | (xs62, x63, x64) => (if (decide (x64 < (xs62.length : Int))) = true then (idx xs62 x64).bind fun x107 => (idx (xs62.set x64.toNat (x63, x107.2.1, x107.2.2)) x64).bind fun x110 => (idx ((xs62.set x64.toNat (x63, x107.2.1, x107.2.2)).set x64.toNat (x110.1, (W (x63 + (1 : Int))), x110.2.2)) x64).bind fun x113 => (laws_markInt64S_m fuel x113.2.2 (W ((W (x63 + (1 : Int))) + (1 : Int)))).bind fun x130 => some (.inl ((((xs62.set x64.toNat (x63, x107.2.1, x107.2.2)).set x64.toNat (x110.1, (W (x63 + (1 : Int))), x110.2.2)).set x64.toNat (x113.1, x113.2.1, x130.2)), x130.1, (W (x64 + (1 : Int))))) else some (.inr (.inl (x63, xs62)))) : Option (((List Timpl_Vertex) × (Int) × (Int)) ⊕ ((Int × (List Timpl_Vertex)) ⊕ (Int × (List Timpl_Vertex)))))) fuel (a0, a1, (0 : Int))).bind fun res98 => ctl (β := Int × (List Timpl_Vertex)) (ρ := Int × (List Timpl_Vertex)) (τ := Int × (List Timpl_Vertex)) res98 (fun (x96, xs97) => some ((x96, xs97))) (fun q => some (q))
set_option maxRecDepth 20000 in
theorem laws_markVertexS_ok {w0 : World} {fuel : Nat} {p0 : Value} {a0 : (List Timpl_Vertex)} {a1 : Int} {w00 : World} {L : List Asrt} {r : Int × (List Timpl_Vertex)} (H : Heap w00 (oA (rList Rimpl_Vertex) p0 a0 :: L) w0) (hm : laws_markVertexS_m fuel a0 a1 = some r) :
  Calls Try.prog 26 #[p0, .int .i64 a1] w0 fun e w => e = .returned (.int .i64 r.1) ∧ Heap w00 (oA (rList Rimpl_Vertex) p0 r.2 :: L) w := by
 unfold laws_markVertexS_m at hm
 refine enter (args := [p0, .int .i64 a1]) Try.func26 rfl 34 rfl (Nat.le_of_ble_eq_true rfl) (fun a S => ?_)
 refine wp_seq (region_plain ?_)
 refine lq (.int .i64 (0 : Int)) S (q_assign rfl) fun a S => ?_
 refine lx_nil (thenN ?_)
 refine wp_seq (wp_seq (region_plain ?_))
 refine lq (.int .i64 (0 : Int)) S (q_assign rfl) fun a S => ?_
 refine lx_nil (thenN ?_)
 obtain ⟨res98, hit99, hk102⟩ := bind_some hm
 obtain ⟨f100, hf101, hit99⟩ := iter_name hit99
 refine block_loop (fun a w => ∃ (x96 : Int) (xs97 : List Timpl_Vertex), Slots a 34 [(1, (.int .i64 x96))] ∧ Heap w00 (oA (rList Rimpl_Vertex) p0 xs97 :: L) w ∧ res98 = .inl (x96, xs97)) ?_ ?_
 ·rintro a w ⟨x96, xs97, S, H, rfl⟩
  have hm := ctl_inl hk102
  refine thenN ?_
  refine wp_seq (region_plain ?_)
  refine lq (.int .i64 x96) S (q_move rfl) fun a S => ?_
  refine lq (.int .i64 x96) S (q_assign rfl) fun a S => ?_
  refine lx_nil (thenN ?_)
  refine wp_ret ?_
  obtain rfl := Option.some.inj hm
  exact leave1 S rfl rfl ⟨rfl, H⟩
 ·skip
  refine loop_ghost (fun n a w => ∃ (xs62 : List Timpl_Vertex) (x63 : Int) (x64 : Int), Slots a 34 [(0, p0), (1, (.int .i64 x63)), (5, (.int .i64 x64))] ∧ Heap w00 (oA (rList Rimpl_Vertex) p0 xs62 :: L) w ∧ iter f100 n (xs62, x63, x64) = some res98) _ ⟨a0, a1, (0 : Int), S.sub ⟨rfl, rfl, rfl, trivial⟩, H, hit99⟩ ?_
  rintro n a w ⟨xs62, x63, x64, S, H, hit99⟩
  obtain ⟨m103, o104, rfl, hm, hc105⟩ := iter_step hit99
  rw [hf101] at hm
  refine wp_seq (wp_seq (region_plain ?_))
  refine lq (.int .i64 x64) S (q_move rfl) fun a S => ?_
  refine lq p0 S (q_move rfl) fun a S => ?_
  refine lq (.int .i64 (xs62.length : Int)) S (q_lenSl rfl (H.isSl 0 rfl) rfl Try.underlying26) fun a S => ?_
  refine lq (.bool (decide (x64 < (xs62.length : Int)))) S (q_lss rfl rfl) fun a S => ?_
  refine lx_nil (thenN ?_)
  refine cond_b S rfl (fun hc106 => ?_) (fun hc106 => ?_)
  ·have hm := ite_t hc106 hm
   refine wp_skip (thenN ?_)
   refine wp_seq ?_
   refine wp_block ?_
   refine wp_seq (region_plain ?_)
   refine lq p0 S (q_move rfl) fun a S => ?_
   refine lq (.int .i64 x64) S (q_move rfl) fun a S => ?_
   refine lq (.int .i64 x63) S (q_move rfl) fun a S => ?_
   obtain ⟨x107, e108, hm⟩ := bind_some hm
   have hlt := lt_of_idx (idx_some e108).2
   refine lq (ePtr p0 (x64.toNat * 3)) S (q_indexAddr rfl (H.isSl 0 rfl) rfl (idx_some e108).1 hlt Try.underlying26 Try.sizeOf71) fun a S => ?_
   refine lq (pAdd (ePtr p0 (x64.toNat * 3)) 0) S (q_fieldAddr' 0 2 rfl (((H.isSl 0 rfl)).ptr (lt_of_idx (idx_some e108).2) _) Try.underlying71 rfl Try.sizeOf2) fun a S => ?_
   refine lx_storeElem (r := Rimpl_Vertex) (us := [(.int .i64 x63)]) (off := 0) (e' := (x63, x107.2.1, x107.2.2)) S trivial rfl H.putE rfl rfl (idx_some e108).2 rfl Try.sizeOf2 (Nat.le_of_ble_eq_true rfl) (List.forall_mem_cons.2 ⟨rfl, (fun _ h => nomatch h)⟩) (Upd.fst (off := 0) (Nat.le_of_ble_eq_true rfl) (Upd.full rfl (fun w G hG => by cases (show G = [] from hG); exact ⟨rfl, rfl⟩))) (fun w109 H => ⟨trivial, fun a S => ?_⟩)
   refine lx_nil (thenN ?_)
   refine wp_seq (region_plain ?_)
   refine lq (.int .i64 x63) S (q_move rfl) fun a S => ?_
   refine lq (.int .i64 (W (x63 + (1 : Int)))) S (q_add rfl rfl) fun a S => ?_
   refine lq (.int .i64 (W (x63 + (1 : Int)))) S (q_assign rfl) fun a S => ?_
   refine lx_nil (thenN ?_)
   refine wp_seq (region_plain ?_)
   refine lq p0 S (q_move rfl) fun a S => ?_
   refine lq (.int .i64 x64) S (q_move rfl) fun a S => ?_
   refine lq (.int .i64 (W (x63 + (1 : Int)))) S (q_move rfl) fun a S => ?_
   obtain ⟨x110, e111, hm⟩ := bind_some hm
   have hlt := lt_of_idx (idx_some e111).2
   refine lq (ePtr p0 (x64.toNat * 3)) S (q_indexAddr rfl (H.isSl 0 rfl) rfl (idx_some e111).1 hlt Try.underlying26 Try.sizeOf71) fun a S => ?_
   refine lq (pAdd (ePtr p0 (x64.toNat * 3)) 1) S (q_fieldAddr' 1 2 rfl (((H.isSl 0 rfl)).ptr (lt_of_idx (idx_some e111).2) _) Try.underlying71 rfl Try.sizeOf2) fun a S => ?_
   refine lx_storeElem (r := Rimpl_Vertex) (us := [(.int .i64 (W (x63 + (1 : Int))))]) (off := 1) (e' := (x110.1, (W (x63 + (1 : Int))), x110.2.2)) S trivial rfl H.putE rfl rfl (idx_some e111).2 rfl Try.sizeOf2 (Nat.le_of_ble_eq_true rfl) (List.forall_mem_cons.2 ⟨rfl, (fun _ h => nomatch h)⟩) (Upd.snd (off := 0) (Upd.fst (off := 0) (Nat.le_of_ble_eq_true rfl) (Upd.full rfl (fun w G hG => by cases (show G = [] from hG); exact ⟨rfl, rfl⟩)))) (fun w112 H => ⟨trivial, fun a S => ?_⟩)
   refine lx_nil (thenN ?_)
   refine wp_seq (region_plain ?_)
   refine lq (.int .i64 (W (x63 + (1 : Int)))) S (q_move rfl) fun a S => ?_
   refine lq (.int .i64 (W ((W (x63 + (1 : Int))) + (1 : Int)))) S (q_add rfl rfl) fun a S => ?_
   refine lq (.int .i64 (W ((W (x63 + (1 : Int))) + (1 : Int)))) S (q_assign rfl) fun a S => ?_
   refine lx_nil (thenN ?_)
   refine region_plain ?_
   refine lq p0 S (q_move rfl) fun a S => ?_
   refine lq (.int .i64 x64) S (q_move rfl) fun a S => ?_
   obtain ⟨x113, e114, hm⟩ := bind_some hm
   have hlt := lt_of_idx (idx_some e114).2
   refine lq (ePtr p0 (x64.toNat * 3)) S (q_indexAddr rfl (H.isSl 0 rfl) rfl (idx_some e114).1 hlt Try.underlying26 Try.sizeOf71) fun a S => ?_
   refine lq (pAdd (ePtr p0 (x64.toNat * 3)) 2) S (q_fieldAddr' 2 23 rfl (((H.isSl 0 rfl)).ptr (lt_of_idx (idx_some e114).2) _) Try.underlying71 rfl Try.sizeOf23) fun a S => ?_
   obtain ⟨c115, h116, hat117⟩ := (H.rdAt 0 rfl).elem (idx_some e114).2
   obtain ⟨c120, c121, rfl, h122, h123⟩ := h116
   obtain rfl := h122
   obtain ⟨c124, c125, rfl, h126, h127⟩ := h123
   obtain rfl := h126
   obtain ⟨v118, rfl, h119⟩ := rd_list h127
   refine lx_e v118 S trivial (by decide) rfl trivial (q_load1 rfl Try.isAgg23 (by rintro _ rfl; exact (At.of_add (m := 2) (j := 0) (hat117 2 _ rfl)))) (fun a S => ?_)
   refine lq (.int .i64 (W ((W (x63 + (1 : Int))) + (1 : Int)))) S (q_move rfl) fun a S => ?_
   obtain ⟨x130, e131, hm⟩ := bind_some hm
   obtain ⟨u132, hat133, H⟩ := H.lend (idx_some e114).2 (Lend.snd (off := 1) (Lend.snd (off := 0) (Lend.here)))
   obtain rfl : v118 = u132 := At.eq (hat117 2 _ rfl) hat133
   refine lx_call (xs := [.tmp 30, .tmp 31]) S trivial (by decide) rfl rfl Try.call30 ((laws_markInt64S_ok H  e131).mono ?_)
   rintro e w128 ⟨rfl, H⟩
   have H : Heap w00 (oA (rList Rimpl_Vertex) p0 (((xs62.set x64.toNat (x63, x107.2.1, x107.2.2)).set x64.toNat (x110.1, (W (x63 + (1 : Int))), x110.2.2)).set x64.toNat (x113.1, x113.2.1, x130.2)) :: L) w128 := H.back
   refine ⟨_, rfl, trivial, fun a S => ?_⟩
   refine lq (.int .i64 x130.1) S (q_assign rfl) fun a S => ?_
   refine lx_nil ?_
   refine inBlock_norm ?_
   refine thenN ?_
   refine region_plain ?_
   refine lq (.int .i64 x64) S (q_move rfl) fun a S => ?_
   refine lq (.int .i64 (W (x64 + (1 : Int)))) S (q_add rfl rfl) fun a S => ?_
   refine lq (.int .i64 (W (x64 + (1 : Int)))) S (q_assign rfl) fun a S => ?_
   refine lx_nil ?_
   exact ⟨m103, Nat.lt_succ_self _, (((xs62.set x64.toNat (x63, x107.2.1, x107.2.2)).set x64.toNat (x110.1, (W (x63 + (1 : Int))), x110.2.2)).set x64.toNat (x113.1, x113.2.1, x130.2)), x130.1, (W (x64 + (1 : Int))), S.sub ⟨rfl, rfl, rfl, trivial⟩, H, it_cont hm hc105⟩
  ·have hm := ite_f hc106 hm
   refine wp_exit ?_
   refine then_exit ?_
   refine then_exit ?_
   refine inBlock_exit ?_
   obtain rfl := it_brk hm hc105
   exact ⟨x63, xs62, S.sub ⟨rfl, trivial⟩, H, rfl⟩

/-- spec.l00Own -/
def spec_l00Own_m (_ : Nat) (a0 : (List Int)) : Option ((List Int)) :=
  (app ([] : List Int) a0).bind fun x34 => some (x34)
set_option maxRecDepth 20000 in
theorem spec_l00Own_ok {w0 : World} {fuel : Nat} {p0 : Value} {a0 : (List Int)} {r : (List Int)} (h0 : Rd (rList (rInt .i64)) w0 p0 a0) (hm : spec_l00Own_m fuel a0 = some r) :
  Calls Try.prog 119 #[p0] w0 fun e w => ∃ (v0 : Value), e = .returned (v0) ∧ Heap w0 [oA (rList (rInt .i64)) v0 r] w := by
 unfold spec_l00Own_m at hm
 have H := Heap.start w0
 refine enter (args := [p0]) Try.func119 rfl 6 rfl (Nat.le_of_ble_eq_true rfl) (fun a S => ?_)
 refine wp_seq (region_plain ?_)
 refine lq (.slice none 0 0) S (q_assign rfl) fun a S => ?_
 refine lx_nil (thenN ?_)
 refine wp_seq (region_plain ?_)
 refine lx_buildSlice0 (r := (rInt .i64)) S trivial (by decide) rfl H Try.underlying23 Try.sizeOf2 (fun v31 w32 H => ⟨trivial, fun a S => ?_⟩)
 refine lq p0 S (q_move rfl) fun a S => ?_
 obtain ⟨x34, e35, hm⟩ := bind_some hm
 obtain ⟨hle, hap⟩ := app_some e35
 replace hap := hap.symm
 subst hap
 refine lx_appendRd (r := (rInt .i64)) S trivial (by decide) rfl H (flat_int _) (H.arg h0) rfl rfl Try.underlying23 Try.ti2 rfl rfl rfl (Nat.le_of_ble_eq_true rfl) (by decide) hle (fun v36 w37 H => ⟨trivial, fun a S => ?_⟩)
 refine lq v36 S (q_assign rfl) fun a S => ?_
 refine lx_nil (thenN ?_)
 refine wp_ret ?_
 obtain rfl := Option.some.inj hm
 exact leave1 S rfl rfl ⟨v36, rfl, H⟩

/-- slices.Contains[[]int64,int64] -/
def slices_Contains__int64_int64_m (fuel : Nat) (a0 : (List Int)) (a1 : Int) : Option (Bool) :=
  (slices_Index__int64_int64_m fuel a0 a1).bind fun x33 => some ((decide ((0 : Int) ≤ x33)))
set_option maxRecDepth 20000 in
theorem slices_Contains__int64_int64_ok {w0 : World} {fuel : Nat} {p0 : Value} {a0 : (List Int)} {a1 : Int} {r : Bool} (h0 : Rd (rList (rInt .i64)) w0 p0 a0) (hm : slices_Contains__int64_int64_m fuel a0 a1 = some r) :
  Calls Try.prog 62 #[p0, .int .i64 a1] w0 fun e w => e = .returned (.bool r) ∧ Heap w0 [] w := by
 unfold slices_Contains__int64_int64_m at hm
 have H := Heap.start w0
 refine enter (args := [p0, .int .i64 a1]) Try.func62 rfl 9 rfl (Nat.le_of_ble_eq_true rfl) (fun a S => ?_)
 refine wp_seq (region_plain ?_)
 refine lq (.bool false) S (q_assign rfl) fun a S => ?_
 refine lx_nil (thenN ?_)
 refine wp_seq (region_plain ?_)
 refine lq p0 S (q_move rfl) fun a S => ?_
 refine lq (.int .i64 a1) S (q_move rfl) fun a S => ?_
 obtain ⟨x33, e34, hm⟩ := bind_some hm
 refine lx_call (xs := [.tmp 5, .tmp 6]) S trivial (by decide) rfl rfl Try.call116 ((slices_Index__int64_int64_ok (H.arg h0)  e34).mono ?_)
 rintro e w31 ⟨rfl, Hc32⟩
 have H := H.call0 Hc32
 refine ⟨_, rfl, trivial, fun a S => ?_⟩
 refine lq (.bool (decide ((0 : Int) ≤ x33))) S (q_geq rfl rfl) fun a S => ?_
 refine lq (.bool (decide ((0 : Int) ≤ x33))) S (q_assign rfl) fun a S => ?_
 refine lx_nil (thenN ?_)
 refine wp_ret ?_
 obtain rfl := Option.some.inj hm
 exact leave1 S rfl rfl ⟨rfl, H⟩

/-- slices.IndexFunc[[]int64,int64] -/
def slices_IndexFunc__int64_int64_m (fuel : Nat) (a0 : (List Int)) (a1 : (Int → Option Bool)) : Option (Int) :=
  (iter (fun (s : (Int)) => (match s with | (x46) => (if (decide (x46 < (a0.length : Int))) = true then (idx a0 x46).bind fun x71 => (a1 x71).bind fun x80 => (if x80 = true then some (.inr (.inr x46)) else some (.inl ((W (x46 + (1 : Int)))))) else some (.inr (.inl ()))) : Option (((Int)) ⊕ ((Unit) ⊕ (Int))))) fuel ((0 : Int))).bind fun res62 => ctl (β := Unit) (ρ := Int) (τ := Int) res62 (fun _ => some ((-1 : Int))) (fun q => some (q))
set_option maxRecDepth 20000 in
theorem slices_IndexFunc__int64_int64_ok {w0 : World} {fuel : Nat} {p0 : Value} {a0 : (List Int)} {a1 : (Int → Option Bool)} {f1 : Nat} {fs1 cp1 : List Value} {r : Int} (h0 : Rd (rList (rInt .i64)) w0 p0 a0) (hcf1 : ∀ args w, (callFunc f1 args).run Try.prog w = .ok (.enter f1 args) w) (hf1 : ∀ {w : World} {x0_ : Int} {y : Bool}, Ext w0 w → a1 x0_ = some y → Calls Try.prog f1 (fs1 ++ ([.int .i64 x0_] : List Value) ++ cp1).toArray w fun e w' => e = .returned (.bool y) ∧ Heap w [] w') (hm : slices_IndexFunc__int64_int64_m fuel a0 a1 = some r) :
  Calls Try.prog 117 #[p0, .func (.func f1) fs1.toArray cp1.toArray] w0 fun e w => e = .returned (.int .i64 r) ∧ Heap w0 [] w := by
 unfold slices_IndexFunc__int64_int64_m at hm
 have H := Heap.start w0
 refine enter (args := [p0, .func (.func f1) fs1.toArray cp1.toArray]) Try.func117 rfl 19 rfl (Nat.le_of_ble_eq_true rfl) (fun a S => ?_)
 refine wp_seq (region_plain ?_)
 refine lq (.int .i64 (0 : Int)) S (q_assign rfl) fun a S => ?_
 refine lx_nil (thenN ?_)
 refine wp_seq (wp_seq (region_plain ?_))
 refine lq p0 S (q_move rfl) fun a S => ?_
 refine lq (.int .i64 (a0.length : Int)) S (q_lenSl rfl (h0).isSl rfl Try.underlying23) fun a S => ?_
 refine lq (.int .i64 (0 : Int)) S (q_move rfl) fun a S => ?_
 refine lx_nil (thenN ?_)
 obtain ⟨res62, hit63, hk66⟩ := bind_some hm
 obtain ⟨f64, hf65, hit63⟩ := iter_name hit63
 refine block_loop (fun a w => Slots a 19 [] ∧ Heap w0 [] w ∧ res62 = .inl ()) ?_ ?_
 ·rintro a w ⟨S, H, rfl⟩
  have hm := ctl_inl hk66
  refine thenN ?_
  refine wp_seq (region_plain ?_)
  refine lq (.int .i64 (-1 : Int)) S (q_assign rfl) fun a S => ?_
  refine lx_nil (thenN ?_)
  refine wp_ret ?_
  obtain rfl := Option.some.inj hm
  exact leave1 S rfl rfl ⟨rfl, H⟩
 ·skip
  refine loop_ghost (fun n a w => ∃ (x46 : Int), Slots a 19 [(0, p0), (1, (.func (.func f1) fs1.toArray cp1.toArray)), (7, (.int .i64 (a0.length : Int))), (8, (.int .i64 x46))] ∧ Heap w0 [] w ∧ iter f64 n (x46) = some res62) _ ⟨(0 : Int), S.sub ⟨rfl, rfl, rfl, rfl, trivial⟩, H, hit63⟩ ?_
  rintro n a w ⟨x46, S, H, hit63⟩
  obtain ⟨m67, o68, rfl, hm, hc69⟩ := iter_step hit63
  rw [hf65] at hm
  refine wp_seq (region_plain ?_)
  refine lq (.bool (decide (x46 < (a0.length : Int)))) S (q_lss rfl rfl) fun a S => ?_
  refine lx_nil (thenN ?_)
  refine wp_seq ?_
  refine cond_b S rfl (fun hc70 => ?_) (fun hc70 => ?_)
  ·have hm := ite_t hc70 hm
   refine wp_skip (thenN ?_)
   refine wp_seq ?_
   refine wp_block ?_
   refine wp_seq (region_plain ?_)
   refine lq (.int .i64 x46) S (q_move rfl) fun a S => ?_
   refine lq (.int .i64 x46) S (q_assign rfl) fun a S => ?_
   refine lx_nil (thenN ?_)
   refine wp_seq (region_plain ?_)
   refine lq (.func (.func f1) fs1.toArray cp1.toArray) S (q_move rfl) fun a S => ?_
   refine lq p0 S (q_move rfl) fun a S => ?_
   refine lq (.int .i64 x46) S (q_move rfl) fun a S => ?_
   obtain ⟨x71, e72, hm⟩ := bind_some hm
   obtain ⟨c73, h74, hat75⟩ := (h0).elem (idx_some e72).2
   obtain rfl := h74
   have hlt := lt_of_idx (idx_some e72).2
   refine lq (ePtr p0 (x46.toNat * 1)) S (q_indexAddr rfl (h0).isSl rfl (idx_some e72).1 hlt Try.underlying23 Try.sizeOf2) fun a S => ?_
   refine lx_e (.int .i64 x71) S trivial (by decide) rfl trivial (q_load1 rfl Try.isAgg2 (by rintro _ rfl; exact ((hat75 0 _ rfl).ext H.ext))) (fun a S => ?_)
   obtain ⟨x80, e81, hm⟩ := bind_some hm
   refine lx_callV (f := f1) (first := fs1) (cap := cp1) (xs := [.tmp 15]) S trivial (by decide) rfl rfl rfl hcf1 ((hf1 H.ext  e81).mono ?_)
   rintro e w78 ⟨rfl, Hc79⟩
   have H := H.call0 Hc79
   refine ⟨_, rfl, trivial, fun a S => ?_⟩
   refine lx_nil (thenN ?_)
   refine cond_b S rfl (fun hc83 => ?_) (fun hc83 => ?_)
   ·have hm := ite_t hc83 hm
    refine wp_seq (region_plain ?_)
    refine lq (.int .i64 x46) S (q_move rfl) fun a S => ?_
    refine lq (.int .i64 x46) S (q_assign rfl) fun a S => ?_
    refine lx_nil (thenN ?_)
    refine wp_ret (inBlock_ret ?_)
    refine then_ret ?_
    refine then_ret ?_
    refine inBlock_ret ?_
    refine then_ret ?_
    refine then_ret ?_
    obtain rfl := it_brk hm hc69
    have hm := ctl_inr hk66
    obtain rfl := Option.some.inj hm
    exact leave1 S rfl rfl ⟨rfl, H⟩
   ·have hm := ite_f hc83 hm
    refine wp_skip ?_
    refine inBlock_norm ?_
    refine thenN ?_
    refine region_plain ?_
    refine lq (.int .i64 (W (x46 + (1 : Int)))) S (q_add rfl rfl) fun a S => ?_
    refine lq (.int .i64 (W (x46 + (1 : Int)))) S (q_move rfl) fun a S => ?_
    refine lx_nil ?_
    exact ⟨m67, Nat.lt_succ_self _, (W (x46 + (1 : Int))), S.sub ⟨rfl, rfl, rfl, rfl, trivial⟩, H, it_cont hm hc69⟩
  ·have hm := ite_f hc70 hm
   refine wp_exit ?_
   refine then_exit ?_
   refine then_exit ?_
   refine inBlock_exit ?_
   obtain rfl := it_brk hm hc69
   exact ⟨S.sub trivial, H, rfl⟩

/-- laws.szEquation -/
def laws_szEquation_m (fuel : Nat) (a0 : Tlaws_Equation) (a1 : Int) : Option (Int) :=
  (laws_szInt64S_m fuel a0.2.2 a1).bind fun x48 => (if (decide (x48 < (0 : Int))) = true then some ((-1 : Int)) else some (x48))
set_option maxRecDepth 20000 in
theorem laws_szEquation_ok {w0 : World} {fuel : Nat} {p0 : Value} {a0 : Tlaws_Equation} {a1 : Int} {r : Int} (h0 : Rd Rlaws_Equation w0 p0 a0) (hm : laws_szEquation_m fuel a0 a1 = some r) :
  Calls Try.prog 67 #[p0, .int .i64 a1] w0 fun e w => e = .returned (.int .i64 r) ∧ Heap w0 [] w := by
 unfold laws_szEquation_m at hm
 have H := Heap.start w0
 obtain ⟨c31, rfl, h32⟩ := h0
 obtain ⟨c35, c36, rfl, h37, h38⟩ := h32
 obtain rfl := h37
 obtain ⟨c39, c40, rfl, h41, h42⟩ := h38
 obtain rfl := h41
 obtain ⟨v33, rfl, h34⟩ := rd_list h42
 refine enter (args := [(.agg #[(.bool a0.1), (.bool a0.2.1), v33]), .int .i64 a1]) Try.func67 rfl 12 rfl (Nat.le_of_ble_eq_true rfl) (fun a S => ?_)
 refine wp_seq (region_plain ?_)
 refine lx_box S trivial (by decide) rfl H rfl rfl (fun b43 w44 H => ⟨trivial, fun a S => ?_⟩)
 refine lq (.int .i64 (0 : Int)) S (q_assign rfl) fun a S => ?_
 refine lx_nil (thenN ?_)
 refine wp_seq (region_plain ?_)
 refine lq (pAdd (bp b43) 2) S (q_fieldAddr' 2 23 rfl (isP_bp _) Try.underlying82 rfl Try.sizeOf23) fun a S => ?_
 refine lx_e v33 S trivial (by decide) rfl trivial (q_load1 rfl Try.isAgg23 (by rintro _ rfl; exact (At.of_add (m := 2) (j := 0) (boxAt (i := 0) H rfl (j := 2) rfl)))) (fun a S => ?_)
 refine lq (.int .i64 a1) S (q_move rfl) fun a S => ?_
 obtain ⟨x48, e49, hm⟩ := bind_some hm
 refine lx_call (xs := [.tmp 6, .tmp 7]) S trivial (by decide) rfl rfl Try.call78 ((laws_szInt64S_ok (H.arg h34)  e49).mono ?_)
 rintro e w46 ⟨rfl, Hc47⟩
 have H := H.call0 Hc47
 refine ⟨_, rfl, trivial, fun a S => ?_⟩
 refine lq (.int .i64 x48) S (q_assign rfl) fun a S => ?_
 refine lx_nil (thenN ?_)
 refine wp_seq (wp_seq (region_plain ?_))
 refine lq (.int .i64 x48) S (q_move rfl) fun a S => ?_
 refine lq (.bool (decide (x48 < (0 : Int)))) S (q_lss rfl rfl) fun a S => ?_
 refine lx_nil (thenN ?_)
 refine cond_b S rfl (fun hc51 => ?_) (fun hc51 => ?_)
 ·have hm := ite_t hc51 hm
  refine wp_seq (region_plain ?_)
  refine lq (.int .i64 (-1 : Int)) S (q_assign rfl) fun a S => ?_
  refine lx_nil (thenN ?_)
  refine wp_ret (then_ret ?_)
  obtain rfl := Option.some.inj hm
  have H : Heap w0 [] w46 := H.sel [] (by decide)
  exact leave1 S rfl rfl ⟨rfl, H⟩
 ·have hm := ite_f hc51 hm
  refine wp_skip (thenN ?_)
  refine wp_seq (region_plain ?_)
  refine lq (.int .i64 x48) S (q_move rfl) fun a S => ?_
  refine lq (.int .i64 x48) S (q_assign rfl) fun a S => ?_
  refine lx_nil (thenN ?_)
  refine wp_ret ?_
  obtain rfl := Option.some.inj hm
  have H : Heap w0 [] w46 := H.sel [] (by decide)
  exact leave1 S rfl rfl ⟨rfl, H⟩

/-- laws.szEquationS -/
def laws_szEquationS_m (fuel : Nat) (a0 : (List Tlaws_Equation)) (a1 : Int) : Option (Int) :=
  (if (decide ((W (a1 - (a0.length : Int))) < (0 : Int))) = true then some ((-1 : Int)) else (iter (fun (s : (Int) × (Int)) => (match s with | (x56, x57) => (if (decide (x57 < (a0.length : Int))) = true then (idx a0 x57).bind fun x92 => (laws_szEquation_m fuel (x92.1, x92.2.1, x92.2.2) x56).bind fun x109 => (if (decide (x109 < (0 : Int))) = true then some (.inr (.inr (-1 : Int))) else some (.inl (x109, (W (x57 + (1 : Int)))))) else some (.inr (.inl (x56)))) : Option (((Int) × (Int)) ⊕ ((Int) ⊕ (Int))))) fuel ((W (a1 - (a0.length : Int))), (0 : Int))).bind fun res83 => ctl (β := Int) (ρ := Int) (τ := Int) res83 (fun (x82) => some (x82)) (fun q => some (q)))
set_option maxRecDepth 20000 in
theorem laws_szEquationS_ok {w0 : World} {fuel : Nat} {p0 : Value} {a0 : (List Tlaws_Equation)} {a1 : Int} {r : Int} (h0 : Rd (rList Rlaws_Equation) w0 p0 a0) (hm : laws_szEquationS_m fuel a0 a1 = some r) :
  Calls Try.prog 20 #[p0, .int .i64 a1] w0 fun e w => e = .returned (.int .i64 r) ∧ Heap w0 [] w := by
 unfold laws_szEquationS_m at hm
 have H := Heap.start w0
 refine enter (args := [p0, .int .i64 a1]) Try.func20 rfl 27 rfl (Nat.le_of_ble_eq_true rfl) (fun a S => ?_)
 refine wp_seq (region_plain ?_)
 refine lq (.int .i64 (0 : Int)) S (q_assign rfl) fun a S => ?_
 refine lx_nil (thenN ?_)
 refine wp_seq (region_plain ?_)
 refine lq (.int .i64 a1) S (q_move rfl) fun a S => ?_
 refine lq p0 S (q_move rfl) fun a S => ?_
 refine lq (.int .i64 (a0.length : Int)) S (q_lenSl rfl (h0).isSl rfl Try.underlying32) fun a S => ?_
 refine lq (.int .i64 (W (a1 - (a0.length : Int)))) S (q_sub rfl rfl) fun a S => ?_
 refine lq (.int .i64 (W (a1 - (a0.length : Int)))) S (q_assign rfl) fun a S => ?_
 refine lx_nil (thenN ?_)
 refine wp_seq (wp_seq (region_plain ?_))
 refine lq (.int .i64 (W (a1 - (a0.length : Int)))) S (q_move rfl) fun a S => ?_
 refine lq (.bool (decide ((W (a1 - (a0.length : Int))) < (0 : Int)))) S (q_lss rfl rfl) fun a S => ?_
 refine lx_nil (thenN ?_)
 refine cond_b S rfl (fun hc31 => ?_) (fun hc31 => ?_)
 ·have hm := ite_t hc31 hm
  refine wp_seq (region_plain ?_)
  refine lq (.int .i64 (-1 : Int)) S (q_assign rfl) fun a S => ?_
  refine lx_nil (thenN ?_)
  refine wp_ret (then_ret ?_)
  obtain rfl := Option.some.inj hm
  exact leave1 S rfl rfl ⟨rfl, H⟩
 ·have hm := ite_f hc31 hm
  refine wp_skip (thenN ?_)
  refine wp_seq (wp_seq (region_plain ?_))
  refine lq (.int .i64 (0 : Int)) S (q_assign rfl) fun a S => ?_
  refine lx_nil (thenN ?_)
  obtain ⟨res83, hit84, hk87⟩ := bind_some hm
  obtain ⟨f85, hf86, hit84⟩ := iter_name hit84
  refine block_loop (fun a w => ∃ (x82 : Int), Slots a 27 [(1, (.int .i64 x82))] ∧ Heap w0 [] w ∧ res83 = .inl (x82)) ?_ ?_
  ·rintro a w ⟨x82, S, H, rfl⟩
   have hm := ctl_inl hk87
   refine thenN ?_
   refine wp_seq (region_plain ?_)
   refine lq (.int .i64 x82) S (q_move rfl) fun a S => ?_
   refine lq (.int .i64 x82) S (q_assign rfl) fun a S => ?_
   refine lx_nil (thenN ?_)
   refine wp_ret ?_
   obtain rfl := Option.some.inj hm
   exact leave1 S rfl rfl ⟨rfl, H⟩
  ·skip
   refine loop_ghost (fun n a w => ∃ (x56 : Int) (x57 : Int), Slots a 27 [(0, p0), (1, (.int .i64 x56)), (5, (.int .i64 x57))] ∧ Heap w0 [] w ∧ iter f85 n (x56, x57) = some res83) _ ⟨(W (a1 - (a0.length : Int))), (0 : Int), S.sub ⟨rfl, rfl, rfl, trivial⟩, H, hit84⟩ ?_
   rintro n a w ⟨x56, x57, S, H, hit84⟩
   obtain ⟨m88, o89, rfl, hm, hc90⟩ := iter_step hit84
   rw [hf86] at hm
   refine wp_seq (wp_seq (region_plain ?_))
   refine lq (.int .i64 x57) S (q_move rfl) fun a S => ?_
   refine lq p0 S (q_move rfl) fun a S => ?_
   refine lq (.int .i64 (a0.length : Int)) S (q_lenSl rfl (h0).isSl rfl Try.underlying32) fun a S => ?_
   refine lq (.bool (decide (x57 < (a0.length : Int)))) S (q_lss rfl rfl) fun a S => ?_
   refine lx_nil (thenN ?_)
   refine cond_b S rfl (fun hc91 => ?_) (fun hc91 => ?_)
   ·have hm := ite_t hc91 hm
    refine wp_skip (thenN ?_)
    refine wp_seq ?_
    refine wp_block ?_
    refine wp_seq (region_plain ?_)
    refine lq p0 S (q_move rfl) fun a S => ?_
    refine lq (.int .i64 x57) S (q_move rfl) fun a S => ?_
    obtain ⟨x92, e93, hm⟩ := bind_some hm
    obtain ⟨c94, h95, hat96⟩ := (h0).elem (idx_some e93).2
    obtain ⟨c99, c100, rfl, h101, h102⟩ := h95
    obtain rfl := h101
    obtain ⟨c103, c104, rfl, h105, h106⟩ := h102
    obtain rfl := h105
    obtain ⟨v97, rfl, h98⟩ := rd_list h106
    have hlt := lt_of_idx (idx_some e93).2
    refine lq (ePtr p0 (x57.toNat * 3)) S (q_indexAddr rfl (h0).isSl rfl (idx_some e93).1 hlt Try.underlying32 Try.sizeOf82) fun a S => ?_
    refine lx_e (.agg #[(.bool x92.1), (.bool x92.2.1), v97]) S trivial (by decide) rfl trivial (q_loadA (cs := [(.bool x92.1), (.bool x92.2.1), v97]) rfl ((hat96 0 _ rfl).isP) Try.isAgg82 Try.sizeOf82 (by rintro _ rfl; exact (fun j u hu => (hat96 j u hu).ext H.ext))) (fun a S => ?_)
    refine lq (.int .i64 x56) S (q_move rfl) fun a S => ?_
    obtain ⟨x109, e110, hm⟩ := bind_some hm
    refine lx_call (xs := [.tmp 21, .tmp 22]) S trivial (by decide) rfl rfl Try.call67 ((laws_szEquation_ok ⟨[(.bool x92.1), (.bool x92.2.1), v97], rfl, ⟨[(.bool x92.1)], [(.bool x92.2.1), v97], rfl, rfl, ⟨[(.bool x92.2.1)], [v97], rfl, rfl, ((H.arg h98)).list_rd⟩⟩⟩  e110).mono ?_)
    rintro e w107 ⟨rfl, Hc108⟩
    have H := H.call0 Hc108
    refine ⟨_, rfl, trivial, fun a S => ?_⟩
    refine lq (.int .i64 x109) S (q_assign rfl) fun a S => ?_
    refine lx_nil (thenN ?_)
    refine wp_seq (region_plain ?_)
    refine lq (.int .i64 x109) S (q_move rfl) fun a S => ?_
    refine lq (.bool (decide (x109 < (0 : Int)))) S (q_lss rfl rfl) fun a S => ?_
    refine lx_nil (thenN ?_)
    refine cond_b S rfl (fun hc112 => ?_) (fun hc112 => ?_)
    ·have hm := ite_t hc112 hm
     refine wp_seq (region_plain ?_)
     refine lq (.int .i64 (-1 : Int)) S (q_assign rfl) fun a S => ?_
     refine lx_nil (thenN ?_)
     refine wp_ret (inBlock_ret ?_)
     refine then_ret ?_
     refine then_ret ?_
     refine inBlock_ret ?_
     refine then_ret ?_
     refine then_ret ?_
     obtain rfl := it_brk hm hc90
     have hm := ctl_inr hk87
     obtain rfl := Option.some.inj hm
     exact leave1 S rfl rfl ⟨rfl, H⟩
    ·have hm := ite_f hc112 hm
     refine wp_skip ?_
     refine inBlock_norm ?_
     refine thenN ?_
     refine region_plain ?_
     refine lq (.int .i64 x57) S (q_move rfl) fun a S => ?_
     refine lq (.int .i64 (W (x57 + (1 : Int)))) S (q_add rfl rfl) fun a S => ?_
     refine lq (.int .i64 (W (x57 + (1 : Int)))) S (q_assign rfl) fun a S => ?_
     refine lx_nil ?_
     exact ⟨m88, Nat.lt_succ_self _, x109, (W (x57 + (1 : Int))), S.sub ⟨rfl, rfl, rfl, trivial⟩, H, it_cont hm hc90⟩
   ·have hm := ite_f hc91 hm
    refine wp_exit ?_
    refine then_exit ?_
    refine then_exit ?_
    refine inBlock_exit ?_
    obtain rfl := it_brk hm hc90
    exact ⟨x56, S.sub ⟨rfl, trivial⟩, H, rfl⟩

/-- laws.toEquation -/
def laws_toEquation_m (fuel : Nat) (a0 : Tlaws_Equation) : Option (Timpl_Equation) :=
  (laws_toInt64S_m fuel a0.2.2).bind fun x56 => some ((a0.1, a0.2.1, x56))
set_option maxRecDepth 20000 in
theorem laws_toEquation_ok {w0 : World} {fuel : Nat} {p0 : Value} {a0 : Tlaws_Equation} {r : Timpl_Equation} (h0 : Rd Rlaws_Equation w0 p0 a0) (hm : laws_toEquation_m fuel a0 = some r) :
  Calls Try.prog 70 #[p0] w0 fun e w => ∃ (v0 : Value), e = .returned (.agg #[.bool r.1, .bool r.2.1, v0]) ∧ Heap w0 [oA (rList (rInt .i64)) v0 r.2.2] w := by
 unfold laws_toEquation_m at hm
 have H := Heap.start w0
 obtain ⟨c31, rfl, h32⟩ := h0
 obtain ⟨c35, c36, rfl, h37, h38⟩ := h32
 obtain rfl := h37
 obtain ⟨c39, c40, rfl, h41, h42⟩ := h38
 obtain rfl := h41
 obtain ⟨v33, rfl, h34⟩ := rd_list h42
 refine enter (args := [(.agg #[(.bool a0.1), (.bool a0.2.1), v33])]) Try.func70 rfl 15 rfl (Nat.le_of_ble_eq_true rfl) (fun a S => ?_)
 refine wp_seq (region_plain ?_)
 refine lx_box S trivial (by decide) rfl H rfl rfl (fun b43 w44 H => ⟨trivial, fun a S => ?_⟩)
 refine lx_alloc S trivial (by decide) rfl H Try.zeroValue85 rfl (fun b46 w47 H => ⟨trivial, fun a S => ?_⟩)
 refine lx_nil (thenN ?_)
 refine wp_seq (region_plain ?_)
 refine lx_alloc S trivial (by decide) rfl H Try.zeroValue85 rfl (fun b49 w50 H => ⟨trivial, fun a S => ?_⟩)
 refine lx_nil (thenN ?_)
 refine wp_seq (region_plain ?_)
 refine lq (pAdd (bp b43) 0) S (q_fieldAddr' 0 4 rfl (isP_bp _) Try.underlying82 rfl Try.sizeOf4) fun a S => ?_
 refine lx_e (.bool a0.1) S trivial (by decide) rfl trivial (q_load1 rfl Try.isAgg4 (by rintro _ rfl; exact (At.of_add (m := 0) (j := 0) (boxAt (i := 2) H rfl (j := 0) rfl)))) (fun a S => ?_)
 refine lq (pAdd (bp b49) 0) S (q_fieldAddr' 0 4 rfl (isP_bp _) Try.underlying85 rfl Try.sizeOf4) fun a S => ?_
 refine lx_storeBox (o := 0) (i := 0) (us := [(.bool a0.1)]) (cs' := [(.bool a0.1), (.bool false), (.slice none 0 0)]) S trivial rfl H rfl rfl rfl rfl Try.sizeOf4 (Nat.le_of_ble_eq_true rfl) (List.forall_mem_cons.2 ⟨rfl, (fun _ h => nomatch h)⟩) rfl (fun w52 H => ⟨trivial, fun a S => ?_⟩)
 change Heap w0 [bA b49 [(.bool a0.1), (.bool false), (.slice none 0 0)] 85, bA b46 [(.bool false), (.bool false), (.slice none 0 0)] 85, bA b43 [(.bool a0.1), (.bool a0.2.1), v33] 82] w52 at H
 refine lx_nil (thenN ?_)
 refine wp_seq (region_plain ?_)
 refine lq (pAdd (bp b43) 1) S (q_fieldAddr' 1 4 rfl (isP_bp _) Try.underlying82 rfl Try.sizeOf4) fun a S => ?_
 refine lx_e (.bool a0.2.1) S trivial (by decide) rfl trivial (q_load1 rfl Try.isAgg4 (by rintro _ rfl; exact (At.of_add (m := 1) (j := 0) (boxAt (i := 2) H rfl (j := 1) rfl)))) (fun a S => ?_)
 refine lq (pAdd (bp b49) 1) S (q_fieldAddr' 1 4 rfl (isP_bp _) Try.underlying85 rfl Try.sizeOf4) fun a S => ?_
 refine lx_storeBox (o := 1) (i := 0) (us := [(.bool a0.2.1)]) (cs' := [(.bool a0.1), (.bool a0.2.1), (.slice none 0 0)]) S trivial rfl H rfl rfl rfl rfl Try.sizeOf4 (Nat.le_of_ble_eq_true rfl) (List.forall_mem_cons.2 ⟨rfl, (fun _ h => nomatch h)⟩) rfl (fun w53 H => ⟨trivial, fun a S => ?_⟩)
 change Heap w0 [bA b49 [(.bool a0.1), (.bool a0.2.1), (.slice none 0 0)] 85, bA b46 [(.bool false), (.bool false), (.slice none 0 0)] 85, bA b43 [(.bool a0.1), (.bool a0.2.1), v33] 82] w53 at H
 refine lx_nil (thenN ?_)
 refine wp_seq (region_plain ?_)
 refine lq (pAdd (bp b43) 2) S (q_fieldAddr' 2 23 rfl (isP_bp _) Try.underlying82 rfl Try.sizeOf23) fun a S => ?_
 refine lx_e v33 S trivial (by decide) rfl trivial (q_load1 rfl Try.isAgg23 (by rintro _ rfl; exact (At.of_add (m := 2) (j := 0) (boxAt (i := 2) H rfl (j := 2) rfl)))) (fun a S => ?_)
 obtain ⟨x56, e57, hm⟩ := bind_some hm
 refine lx_call (xs := [.tmp 11]) S trivial (by decide) rfl rfl Try.call16 ((laws_toInt64S_ok (H.arg h34) e57).mono ?_)
 rintro e w54 ⟨v58, rfl, Hc55⟩
 have H := H.call1 Hc55
 refine ⟨_, rfl, trivial, fun a S => ?_⟩
 refine lq (pAdd (bp b49) 2) S (q_fieldAddr' 2 23 rfl (isP_bp _) Try.underlying85 rfl Try.sizeOf23) fun a S => ?_
 refine lx_storeBox (o := 2) (i := 1) (us := [v58]) (cs' := [(.bool a0.1), (.bool a0.2.1), v58]) S trivial rfl H rfl rfl rfl (cells_sl (H.isSl 0 rfl)) Try.sizeOf23 (Nat.le_of_ble_eq_true rfl) (List.forall_mem_cons.2 ⟨one_sl (H.isSl 0 rfl), (fun _ h => nomatch h)⟩) rfl (fun w61 H => ⟨trivial, fun a S => ?_⟩)
 change Heap w0 [oA (rList (rInt .i64)) v58 x56, bA b49 [(.bool a0.1), (.bool a0.2.1), v58] 85, bA b46 [(.bool false), (.bool false), (.slice none 0 0)] 85, bA b43 [(.bool a0.1), (.bool a0.2.1), v33] 82] w61 at H
 refine lx_nil (thenN ?_)
 refine wp_seq (region_plain ?_)
 refine lx_e (.agg #[(.bool a0.1), (.bool a0.2.1), v58]) S trivial (by decide) rfl trivial (q_loadA (cs := [(.bool a0.1), (.bool a0.2.1), v58]) rfl (isP_bp _) Try.isAgg85 Try.sizeOf85 (by rintro _ rfl; exact (fun j u hu => boxAt (i := 1) H rfl hu))) (fun a S => ?_)
 refine lx_storeBox (o := 0) (i := 2) (us := [(.bool a0.1), (.bool a0.2.1), v58]) (cs' := [(.bool a0.1), (.bool a0.2.1), v58]) S trivial rfl H rfl rfl rfl rfl Try.sizeOf85 (Nat.le_of_ble_eq_true rfl) (List.forall_mem_cons.2 ⟨rfl, (List.forall_mem_cons.2 ⟨rfl, (List.forall_mem_cons.2 ⟨one_sl (H.isSl 0 rfl), (fun _ h => nomatch h)⟩)⟩)⟩) rfl (fun w62 H => ⟨trivial, fun a S => ?_⟩)
 change Heap w0 [oA (rList (rInt .i64)) v58 x56, bA b49 [(.bool a0.1), (.bool a0.2.1), v58] 85, bA b46 [(.bool a0.1), (.bool a0.2.1), v58] 85, bA b43 [(.bool a0.1), (.bool a0.2.1), v33] 82] w62 at H
 refine lx_nil (thenN ?_)
 refine wp_ret ?_
 have hrv0 := RV.cellA (t := 85) (q := 2) (env := [(0, (.agg #[(.bool a0.1), (.bool a0.2.1), v33])), (1, (bp b43)), (2, (bp b46)), (3, (bp b49)), (4, (pAdd (bp b43) 0)), (5, (.bool a0.1)), (6, (pAdd (bp b49) 0)), (7, (pAdd (bp b43) 1)), (8, (.bool a0.2.1)), (9, (pAdd (bp b49) 1)), (10, (pAdd (bp b43) 2)), (11, v33), (12, v58), (13, (pAdd (bp b49) 2)), (14, (.agg #[(.bool a0.1), (.bool a0.2.1), v58]))]) H (i := 2) rfl rfl Try.isAgg85 Try.sizeOf85
 obtain rfl := Option.some.inj hm
 have H : Heap w0 [oA (rList (rInt .i64)) v58 x56] w62 := H.sel [0] (by decide)
 exact leaveR1 S rfl hrv0 ⟨v58, rfl, H⟩

/-- laws.toEquationS -/
def laws_toEquationS_m (fuel : Nat) (a0 : (List Tlaws_Equation)) : Option ((List Timpl_Equation)) :=
  (mks (a0.length : Int) (false, false, [])).bind fun x31 => (iter (fun (s : (List Timpl_Equation) × (Int)) => (match s with | (xs65, x66) => (if (decide (x66 < (a0.length : Int))) = true then (idx a0 x66).bind fun x105 => (laws_toEquation_m fuel (x105.1, x105.2.1, x105.2.2)).bind fun x122 => (idx xs65 x66).bind fun _ => some (.inl ((xs65.set x66.toNat (x122.1, x122.2.1, x122.2.2)), (W (x66 + (1 : Int))))) else some (.inr (.inl (xs65)))) : Option (((List Timpl_Equation) × (Int)) ⊕ (((List Timpl_Equation)) ⊕ ((List Timpl_Equation)))))) fuel (x31, (0 : Int))).bind fun res96 => ctl (β := (List Timpl_Equation)) (ρ := (List Timpl_Equation)) (τ := (List Timpl_Equation)) res96 (fun (xs95) => some (xs95)) (fun q => some (q))
set_option maxRecDepth 20000 in
theorem laws_toEquationS_ok {w0 : World} {fuel : Nat} {p0 : Value} {a0 : (List Tlaws_Equation)} {r : (List Timpl_Equation)} (h0 : Rd (rList Rlaws_Equation) w0 p0 a0) (hm : laws_toEquationS_m fuel a0 = some r) :
  Calls Try.prog 22 #[p0] w0 fun e w => ∃ (v0 : Value), e = .returned (v0) ∧ Heap w0 [oA (rList Rimpl_Equation) v0 r] w := by
 unfold laws_toEquationS_m at hm
 have H := Heap.start w0
 refine enter (args := [p0]) Try.func22 rfl 23 rfl (Nat.le_of_ble_eq_true rfl) (fun a S => ?_)
 refine wp_seq (region_plain ?_)
 refine lq (.slice none 0 0) S (q_assign rfl) fun a S => ?_
 refine lx_nil (thenN ?_)
 refine wp_seq (region_plain ?_)
 refine lq p0 S (q_move rfl) fun a S => ?_
 refine lq (.int .i64 (a0.length : Int)) S (q_lenSl rfl (h0).isSl rfl Try.underlying32) fun a S => ?_
 obtain ⟨x31, e32, hm⟩ := bind_some hm
 obtain ⟨m33, hn, hn2, rfl⟩ := mks_some e32
 refine lx_make (r := Rimpl_Equation) (z0 := (false, false, [])) (n := m33) S trivial (by decide) rfl H (by rw [← hn]; rfl) (by rw [← hn]; rfl) Try.underlying36 (Try.ti85) rfl rfl (Nat.le_of_ble_eq_true rfl) (fun w => ⟨_, _, [(.bool false)], [(.bool false), (.slice none 0 0)], rfl, rfl, ⟨rfl, rfl⟩, ⟨_, _, [(.bool false)], [(.slice none 0 0)], rfl, rfl, ⟨rfl, rfl⟩, (oA_list.1 drop_nil_own)⟩⟩) hn2 (by decide) (fun v34 w35 H => ⟨trivial, fun a S => ?_⟩)
 refine lq v34 S (q_assign rfl) fun a S => ?_
 refine lx_nil (thenN ?_)
 refine wp_seq (wp_seq (region_plain ?_))
 refine lq (.int .i64 (0 : Int)) S (q_assign rfl) fun a S => ?_
 refine lx_nil (thenN ?_)
 obtain ⟨res96, hit97, hk100⟩ := bind_some hm
 obtain ⟨f98, hf99, hit97⟩ := iter_name hit97
 refine block_loop (fun a w => ∃ (xs95 : List Timpl_Equation), Slots a 23 [(3, v34)] ∧ Heap w0 [oA (rList Rimpl_Equation) v34 xs95] w ∧ res96 = .inl (xs95)) ?_ ?_
 ·rintro a w ⟨xs95, S, H, rfl⟩
  have hm := ctl_inl hk100
  refine thenN ?_
  refine wp_seq (region_plain ?_)
  refine lq v34 S (q_move rfl) fun a S => ?_
  refine lq v34 S (q_assign rfl) fun a S => ?_
  refine lx_nil (thenN ?_)
  refine wp_ret ?_
  obtain rfl := Option.some.inj hm
  exact leave1 S rfl rfl ⟨v34, rfl, H⟩
 ·skip
  refine loop_ghost (fun n a w => ∃ (xs65 : List Timpl_Equation) (x66 : Int), Slots a 23 [(0, p0), (3, v34), (4, (.int .i64 x66))] ∧ Heap w0 [oA (rList Rimpl_Equation) v34 xs65] w ∧ iter f98 n (xs65, x66) = some res96) _ ⟨(List.replicate m33 (false, false, [])), (0 : Int), S.sub ⟨rfl, rfl, rfl, trivial⟩, H, hit97⟩ ?_
  rintro n a w ⟨xs65, x66, S, H, hit97⟩
  obtain ⟨m101, o102, rfl, hm, hc103⟩ := iter_step hit97
  rw [hf99] at hm
  refine wp_seq (wp_seq (region_plain ?_))
  refine lq (.int .i64 x66) S (q_move rfl) fun a S => ?_
  refine lq p0 S (q_move rfl) fun a S => ?_
  refine lq (.int .i64 (a0.length : Int)) S (q_lenSl rfl (h0).isSl rfl Try.underlying32) fun a S => ?_
  refine lq (.bool (decide (x66 < (a0.length : Int)))) S (q_lss rfl rfl) fun a S => ?_
  refine lx_nil (thenN ?_)
  refine cond_b S rfl (fun hc104 => ?_) (fun hc104 => ?_)
  ·have hm := ite_t hc104 hm
   refine wp_skip (thenN ?_)
   refine wp_seq ?_
   refine wp_block ?_
   refine region_plain ?_
   refine lq v34 S (q_move rfl) fun a S => ?_
   refine lq (.int .i64 x66) S (q_move rfl) fun a S => ?_
   refine lq p0 S (q_move rfl) fun a S => ?_
   refine lq (.int .i64 x66) S (q_move rfl) fun a S => ?_
   obtain ⟨x105, e106, hm⟩ := bind_some hm
   obtain ⟨c107, h108, hat109⟩ := (h0).elem (idx_some e106).2
   obtain ⟨c112, c113, rfl, h114, h115⟩ := h108
   obtain rfl := h114
   obtain ⟨c116, c117, rfl, h118, h119⟩ := h115
   obtain rfl := h118
   obtain ⟨v110, rfl, h111⟩ := rd_list h119
   have hlt := lt_of_idx (idx_some e106).2
   refine lq (ePtr p0 (x66.toNat * 3)) S (q_indexAddr rfl (h0).isSl rfl (idx_some e106).1 hlt Try.underlying32 Try.sizeOf82) fun a S => ?_
   refine lx_e (.agg #[(.bool x105.1), (.bool x105.2.1), v110]) S trivial (by decide) rfl trivial (q_loadA (cs := [(.bool x105.1), (.bool x105.2.1), v110]) rfl ((hat109 0 _ rfl).isP) Try.isAgg82 Try.sizeOf82 (by rintro _ rfl; exact (fun j u hu => (hat109 j u hu).ext H.ext))) (fun a S => ?_)
   obtain ⟨x122, e123, hm⟩ := bind_some hm
   refine lx_call (xs := [.tmp 19]) S trivial (by decide) rfl rfl Try.call70 ((laws_toEquation_ok ⟨[(.bool x105.1), (.bool x105.2.1), v110], rfl, ⟨[(.bool x105.1)], [(.bool x105.2.1), v110], rfl, rfl, ⟨[(.bool x105.2.1)], [v110], rfl, rfl, ((H.arg h111)).list_rd⟩⟩⟩ e123).mono ?_)
   rintro e w120 ⟨v124, rfl, Hc121⟩
   have H := H.call1 Hc121
   refine ⟨_, rfl, trivial, fun a S => ?_⟩
   obtain ⟨x127, e128, hm⟩ := bind_some hm
   have hlt := lt_of_idx (idx_some e128).2
   refine lq (ePtr v34 (x66.toNat * 3)) S (q_indexAddr rfl (H.isSl 1 rfl) rfl (idx_some e128).1 hlt Try.underlying36 Try.sizeOf85) fun a S => ?_
   have hcl : Value.cells (.agg #[(.bool x122.1), (.bool x122.2.1), v124]) = List.toArray [(.bool x122.1), (.bool x122.2.1), v124] := rfl
   have hon : ∀ c ∈ ([(.bool x122.1), (.bool x122.2.1), v124] : List Value), c.oneCell' = true := (List.forall_mem_cons.2 ⟨rfl, (List.forall_mem_cons.2 ⟨rfl, (List.forall_mem_cons.2 ⟨one_sl (H.isSl 0 rfl), (fun _ h => nomatch h)⟩)⟩)⟩)
   have H : Heap w0 [oA (rList Rimpl_Equation) v34 xs65, oA (rList (rInt .i64)) v124 x122.2.2] w120 := H.front 1 rfl
   refine lx_storeElem (r := Rimpl_Equation) (us := [(.bool x122.1), (.bool x122.2.1), v124]) (off := 0) (e' := (x122.1, x122.2.1, x122.2.2)) S trivial rfl H (ev_zero rfl) rfl (idx_some e128).2 hcl Try.sizeOf85 (Nat.le_of_ble_eq_true rfl) hon (Upd.full rfl (fun w G hG => ownF ⟨_, _, [(.bool x122.1)], [(.bool x122.2.1), v124], rfl, rfl, ⟨rfl, rfl⟩, ⟨_, _, [(.bool x122.2.1)], [v124], rfl, rfl, ⟨rfl, rfl⟩, (oA_list.1 hG)⟩⟩)) (fun w129 H => ⟨trivial, fun a S => ?_⟩)
   refine lx_nil ?_
   refine inBlock_norm ?_
   refine thenN ?_
   refine region_plain ?_
   refine lq (.int .i64 x66) S (q_move rfl) fun a S => ?_
   refine lq (.int .i64 (W (x66 + (1 : Int)))) S (q_add rfl rfl) fun a S => ?_
   refine lq (.int .i64 (W (x66 + (1 : Int)))) S (q_assign rfl) fun a S => ?_
   refine lx_nil ?_
   exact ⟨m101, Nat.lt_succ_self _, (xs65.set x66.toNat (x122.1, x122.2.1, x122.2.2)), (W (x66 + (1 : Int))), S.sub ⟨rfl, rfl, rfl, trivial⟩, H, it_cont hm hc103⟩
  ·have hm := ite_f hc104 hm
   refine wp_exit ?_
   refine then_exit ?_
   refine then_exit ?_
   refine inBlock_exit ?_
   obtain rfl := it_brk hm hc103
   exact ⟨xs65, S.sub ⟨rfl, trivial⟩, H, rfl⟩

/-- spec.l22Is -/
def spec_l22Is_m (fuel : Nat) (a0 : (List Timpl_Equation)) : Option (Bool) :=
  (if (decide ((a0.length : Int) < (1 : Int))) = true then some true else some (decide ((120 : Int) < (a0.length : Int)))).bind fun t31 => (if t31 = true then some true else (spec_l22Count_m fuel a0).bind fun x39 => some (decide ((9 : Int) < x39))).bind fun t34 => (if t34 = true then some (false) else (iter (fun (s : (Int)) => (match s with | (x66) => (if (decide (x66 < (a0.length : Int))) = true then (idx a0 x66).bind fun x99 => (spec_l00Rises_m fuel x99.2.2 (0 : Int) (W ((a0.length : Int) - (1 : Int)))).bind fun x116 => (if (!x116) = true then some (.inr (.inr false)) else some (.inl ((W (x66 + (1 : Int)))))) else some (.inr (.inl ()))) : Option (((Int)) ⊕ ((Unit) ⊕ (Bool))))) fuel ((0 : Int))).bind fun res90 => ctl (β := Unit) (ρ := Bool) (τ := Bool) res90 (fun _ => some (true)) (fun q => some (q)))
set_option maxRecDepth 20000 in
theorem spec_l22Is_ok {w0 : World} {fuel : Nat} {p0 : Value} {a0 : (List Timpl_Equation)} {r : Bool} (h0 : Rd (rList Rimpl_Equation) w0 p0 a0) (hm : spec_l22Is_m fuel a0 = some r) :
  Calls Try.prog 68 #[p0] w0 fun e w => e = .returned (.bool r) ∧ Heap w0 [] w := by
 unfold spec_l22Is_m at hm
 have H := Heap.start w0
 refine enter (args := [p0]) Try.func68 rfl 33 rfl (Nat.le_of_ble_eq_true rfl) (fun a S => ?_)
 refine wp_seq (region_plain ?_)
 refine lq (.bool false) S (q_assign rfl) fun a S => ?_
 refine lx_nil (thenN ?_)
 refine wp_seq (wp_seq (region_plain ?_))
 refine lq p0 S (q_move rfl) fun a S => ?_
 refine lq (.int .i64 (a0.length : Int)) S (q_lenSl rfl (h0).isSl rfl Try.underlying36) fun a S => ?_
 refine lq (.bool (decide ((a0.length : Int) < (1 : Int)))) S (q_lss rfl rfl) fun a S => ?_
 refine lq (.bool (decide ((a0.length : Int) < (1 : Int)))) S (q_move rfl) fun a S => ?_
 obtain ⟨t31, e32, hm⟩ := bind_some hm
 refine lx_cut 4 (fun a w => Slots a 33 [(0, p0), (11, (.bool t31))] ∧ Heap w0 [] w) ?_ ?_
 ·by_cases hc33 : (decide ((a0.length : Int) < (1 : Int))) = true
  ·have hm := ite_t hc33 e32
   refine lx_skip S rfl rfl (isB_ne hc33) (by decide) (fun a S => ?_)
   refine lx_skip S rfl rfl (isB_ne hc33) (by decide) (fun a S => ?_)
   refine lx_skip S rfl rfl (isB_ne hc33) (by decide) (fun a S => ?_)
   refine lq (.bool true) S (q_pickT' rfl hc33 rfl) fun a S => ?_
   refine lx_nil ?_
   obtain rfl := Option.some.inj hm
   exact ⟨S.sub ⟨rfl, rfl, trivial⟩, H⟩
  ·have hm := ite_f (eq_false_of_ne_true hc33) e32
   have hc33 : (decide ((a0.length : Int) < (1 : Int))) = false := eq_false_of_ne_true hc33
   refine lx_q p0 S (want_b rfl rfl hc33) (by decide) (q_move rfl) (fun a S => ?_)
   refine lx_q (.int .i64 (a0.length : Int)) S (want_b rfl rfl hc33) (by decide) (q_lenSl rfl (h0).isSl rfl Try.underlying36) (fun a S => ?_)
   refine lx_q (.bool (decide ((120 : Int) < (a0.length : Int)))) S (want_b rfl rfl hc33) (by decide) (q_gtr rfl rfl) (fun a S => ?_)
   refine lq (.bool (decide ((120 : Int) < (a0.length : Int)))) S (q_pickF' rfl hc33 rfl) fun a S => ?_
   refine lx_nil ?_
   obtain rfl := Option.some.inj hm
   exact ⟨S.sub ⟨rfl, rfl, trivial⟩, H⟩
 ·rintro a w ⟨S, H⟩
  refine lq (.bool t31) S (q_move rfl) fun a S => ?_
  obtain ⟨t34, e35, hm⟩ := bind_some hm
  refine lx_cut 4 (fun a w => Slots a 33 [(0, p0), (16, (.bool t34))] ∧ Heap w0 [] w) ?_ ?_
  ·by_cases hc36 : t31 = true
   ·have hm := ite_t hc36 e35
    refine lx_skip S rfl rfl (isB_ne hc36) (by decide) (fun a S => ?_)
    refine lx_skip S rfl rfl (isB_ne hc36) (by decide) (fun a S => ?_)
    refine lx_skip S rfl rfl (isB_ne hc36) (by decide) (fun a S => ?_)
    refine lq (.bool true) S (q_pickT' rfl hc36 rfl) fun a S => ?_
    refine lx_nil ?_
    obtain rfl := Option.some.inj hm
    exact ⟨S.sub ⟨rfl, rfl, trivial⟩, H⟩
   ·have hm := ite_f (eq_false_of_ne_true hc36) e35
    have hc36 : t31 = false := eq_false_of_ne_true hc36
    refine lx_q p0 S (want_b rfl rfl hc36) (by decide) (q_move rfl) (fun a S => ?_)
    obtain ⟨x39, e40, hm⟩ := bind_some hm
    refine lx_call (xs := [.tmp 13]) S (want_b rfl rfl hc36) (by decide) rfl rfl Try.call103 ((spec_l22Count_ok (H.arg h0) e40).mono ?_)
    rintro e w37 ⟨rfl, Hc38⟩
    have H := H.call0 Hc38
    refine ⟨_, rfl, trivial, fun a S => ?_⟩
    refine lx_q (.bool (decide ((9 : Int) < x39))) S (want_b rfl rfl hc36) (by decide) (q_gtr rfl rfl) (fun a S => ?_)
    refine lq (.bool (decide ((9 : Int) < x39))) S (q_pickF' rfl hc36 rfl) fun a S => ?_
    refine lx_nil ?_
    obtain rfl := Option.some.inj hm
    exact ⟨S.sub ⟨rfl, rfl, trivial⟩, H⟩
  ·rintro a w ⟨S, H⟩
   refine lx_nil (thenN ?_)
   refine cond_b S rfl (fun hc42 => ?_) (fun hc42 => ?_)
   ·have hm := ite_t hc42 hm
    refine wp_seq (region_plain ?_)
    refine lq (.bool false) S (q_assign rfl) fun a S => ?_
    refine lx_nil (thenN ?_)
    refine wp_ret (then_ret ?_)
    obtain rfl := Option.some.inj hm
    exact leave1 S rfl rfl ⟨rfl, H⟩
   ·have hm := ite_f hc42 hm
    refine wp_skip (thenN ?_)
    refine wp_seq (wp_seq (region_plain ?_))
    refine lq (.int .i64 (0 : Int)) S (q_assign rfl) fun a S => ?_
    refine lx_nil (thenN ?_)
    obtain ⟨res90, hit91, hk94⟩ := bind_some hm
    obtain ⟨f92, hf93, hit91⟩ := iter_name hit91
    refine block_loop (fun a w => Slots a 33 [] ∧ Heap w0 [] w ∧ res90 = .inl ()) ?_ ?_
    ·rintro a w ⟨S, H, rfl⟩
     have hm := ctl_inl hk94
     refine thenN ?_
     refine wp_seq (region_plain ?_)
     refine lq (.bool true) S (q_assign rfl) fun a S => ?_
     refine lx_nil (thenN ?_)
     refine wp_ret ?_
     obtain rfl := Option.some.inj hm
     exact leave1 S rfl rfl ⟨rfl, H⟩
    ·skip
     refine loop_ghost (fun n a w => ∃ (x66 : Int), Slots a 33 [(0, p0), (3, (.int .i64 x66))] ∧ Heap w0 [] w ∧ iter f92 n (x66) = some res90) _ ⟨(0 : Int), S.sub ⟨rfl, rfl, trivial⟩, H, hit91⟩ ?_
     rintro n a w ⟨x66, S, H, hit91⟩
     obtain ⟨m95, o96, rfl, hm, hc97⟩ := iter_step hit91
     rw [hf93] at hm
     refine wp_seq (wp_seq (region_plain ?_))
     refine lq (.int .i64 x66) S (q_move rfl) fun a S => ?_
     refine lq p0 S (q_move rfl) fun a S => ?_
     refine lq (.int .i64 (a0.length : Int)) S (q_lenSl rfl (h0).isSl rfl Try.underlying36) fun a S => ?_
     refine lq (.bool (decide (x66 < (a0.length : Int)))) S (q_lss rfl rfl) fun a S => ?_
     refine lx_nil (thenN ?_)
     refine cond_b S rfl (fun hc98 => ?_) (fun hc98 => ?_)
     ·have hm := ite_t hc98 hm
      refine wp_skip (thenN ?_)
      refine wp_seq ?_
      refine wp_block ?_
      refine wp_seq (region_plain ?_)
      refine lq p0 S (q_move rfl) fun a S => ?_
      refine lq (.int .i64 x66) S (q_move rfl) fun a S => ?_
      obtain ⟨x99, e100, hm⟩ := bind_some hm
      obtain ⟨c101, h102, hat103⟩ := (h0).elem (idx_some e100).2
      obtain ⟨c106, c107, rfl, h108, h109⟩ := h102
      obtain rfl := h108
      obtain ⟨c110, c111, rfl, h112, h113⟩ := h109
      obtain rfl := h112
      obtain ⟨v104, rfl, h105⟩ := rd_list h113
      have hlt := lt_of_idx (idx_some e100).2
      refine lq (ePtr p0 (x66.toNat * 3)) S (q_indexAddr rfl (h0).isSl rfl (idx_some e100).1 hlt Try.underlying36 Try.sizeOf85) fun a S => ?_
      refine lq (pAdd (ePtr p0 (x66.toNat * 3)) 2) S (q_fieldAddr' 2 23 rfl ((hat103 0 _ rfl).isP) Try.underlying85 rfl Try.sizeOf23) fun a S => ?_
      refine lx_e v104 S trivial (by decide) rfl trivial (q_load1 rfl Try.isAgg23 (by rintro _ rfl; exact (At.of_add (m := 2) (j := 0) ((hat103 2 _ rfl).ext H.ext)))) (fun a S => ?_)
      refine lq p0 S (q_move rfl) fun a S => ?_
      refine lq (.int .i64 (a0.length : Int)) S (q_lenSl rfl (h0).isSl rfl Try.underlying36) fun a S => ?_
      refine lq (.int .i64 (W ((a0.length : Int) - (1 : Int)))) S (q_sub rfl rfl) fun a S => ?_
      obtain ⟨x116, e117, hm⟩ := bind_some hm
      refine lx_call (xs := [.tmp 27, .const (.int .i64 (0)), .tmp 30]) S trivial (by decide) rfl rfl Try.call55 ((spec_l00Rises_ok (H.arg h105)   e117).mono ?_)
      rintro e w114 ⟨rfl, Hc115⟩
      have H := H.call0 Hc115
      refine ⟨_, rfl, trivial, fun a S => ?_⟩
      refine lq (.bool (!x116)) S (q_not rfl) fun a S => ?_
      refine lx_nil (thenN ?_)
      refine cond_b S rfl (fun hc119 => ?_) (fun hc119 => ?_)
      ·have hm := ite_t hc119 hm
       refine wp_seq (region_plain ?_)
       refine lq (.bool false) S (q_assign rfl) fun a S => ?_
       refine lx_nil (thenN ?_)
       refine wp_ret (inBlock_ret ?_)
       refine then_ret ?_
       refine then_ret ?_
       refine inBlock_ret ?_
       refine then_ret ?_
       refine then_ret ?_
       obtain rfl := it_brk hm hc97
       have hm := ctl_inr hk94
       obtain rfl := Option.some.inj hm
       exact leave1 S rfl rfl ⟨rfl, H⟩
      ·have hm := ite_f hc119 hm
       refine wp_skip ?_
       refine inBlock_norm ?_
       refine thenN ?_
       refine region_plain ?_
       refine lq (.int .i64 x66) S (q_move rfl) fun a S => ?_
       refine lq (.int .i64 (W (x66 + (1 : Int)))) S (q_add rfl rfl) fun a S => ?_
       refine lq (.int .i64 (W (x66 + (1 : Int)))) S (q_assign rfl) fun a S => ?_
       refine lx_nil ?_
       exact ⟨m95, Nat.lt_succ_self _, (W (x66 + (1 : Int))), S.sub ⟨rfl, rfl, trivial⟩, H, it_cont hm hc97⟩
     ·have hm := ite_f hc98 hm
      refine wp_exit ?_
      refine then_exit ?_
      refine then_exit ?_
      refine inBlock_exit ?_
      obtain rfl := it_brk hm hc97
      exact ⟨S.sub trivial, H, rfl⟩

/-- impl.ValidEquations$1 -/
def impl_ValidEquations_1_m (fuel : Nat) (a0 : Timpl_Equation) (a1 : (List Timpl_Equation)) : Option (Bool) :=
  (impl_increasing_m fuel a0.2.2 (a1.length : Int)).bind fun x53 => some ((!x53))
set_option maxRecDepth 20000 in
theorem impl_ValidEquations_1_ok {w0 : World} {fuel : Nat} {p0 p1 : Value} {a0 : Timpl_Equation} {a1 : (List Timpl_Equation)} {r : Bool} (h0 : Rd Rimpl_Equation w0 p0 a0) (h1 : Rd (rPtr (rList Rimpl_Equation)) w0 p1 a1) (hm : impl_ValidEquations_1_m fuel a0 a1 = some r) :
  Calls Try.prog 121 #[p0, p1] w0 fun e w => e = .returned (.bool r) ∧ Heap w0 [] w := by
 unfold impl_ValidEquations_1_m at hm
 have H := Heap.start w0
 obtain ⟨c31, rfl, h32⟩ := h0
 obtain ⟨c35, c36, rfl, h37, h38⟩ := h32
 obtain rfl := h37
 obtain ⟨c39, c40, rfl, h41, h42⟩ := h38
 obtain rfl := h41
 obtain ⟨v33, rfl, h34⟩ := rd_list h42
 obtain ⟨c43, h44, hat45⟩ := h1.ptr
 obtain ⟨v46, rfl, h47⟩ := rd_list h44
 refine enter (args := [(.agg #[(.bool a0.1), (.bool a0.2.1), v33]), p1]) Try.func121 rfl 10 rfl (Nat.le_of_ble_eq_true rfl) (fun a S => ?_)
 refine wp_seq (region_plain ?_)
 refine lx_box S trivial (by decide) rfl H rfl rfl (fun b48 w49 H => ⟨trivial, fun a S => ?_⟩)
 refine lq (.bool false) S (q_assign rfl) fun a S => ?_
 refine lx_nil (thenN ?_)
 refine wp_seq (region_plain ?_)
 refine lq (pAdd (bp b48) 2) S (q_fieldAddr' 2 23 rfl (isP_bp _) Try.underlying85 rfl Try.sizeOf23) fun a S => ?_
 refine lx_e v33 S trivial (by decide) rfl trivial (q_load1 rfl Try.isAgg23 (by rintro _ rfl; exact (At.of_add (m := 2) (j := 0) (boxAt (i := 0) H rfl (j := 2) rfl)))) (fun a S => ?_)
 refine lx_e v46 S trivial (by decide) rfl trivial (q_load1 rfl Try.isAgg36 (by rintro _ rfl; exact ((hat45 0 _ rfl).ext H.ext))) (fun a S => ?_)
 refine lq (.int .i64 (a1.length : Int)) S (q_lenSl rfl (h47).isSl rfl Try.underlying36) fun a S => ?_
 obtain ⟨x53, e54, hm⟩ := bind_some hm
 refine lx_call (xs := [.tmp 5, .tmp 7]) S trivial (by decide) rfl rfl Try.call61 ((impl_increasing_ok (H.arg h34)  e54).mono ?_)
 rintro e w51 ⟨rfl, Hc52⟩
 have H := H.call0 Hc52
 refine ⟨_, rfl, trivial, fun a S => ?_⟩
 refine lq (.bool (!x53)) S (q_not rfl) fun a S => ?_
 refine lq (.bool (!x53)) S (q_assign rfl) fun a S => ?_
 refine lx_nil (thenN ?_)
 refine wp_ret ?_
 obtain rfl := Option.some.inj hm
 have H : Heap w0 [] w51 := H.sel [] (by decide)
 exact leave1 S rfl rfl ⟨rfl, H⟩

/-- slices.IndexFunc[[]impl.Equation,impl.Equation] -/
def slices_IndexFunc__impl_Equation_impl_Equation_m (fuel : Nat) (a0 : (List Timpl_Equation)) (a1 : (Timpl_Equation → Option Bool)) : Option (Int) :=
  (iter (fun (s : (Int)) => (match s with | (x56) => (if (decide (x56 < (a0.length : Int))) = true then (idx a0 x56).bind fun x91 => (a1 (x91.1, x91.2.1, x91.2.2)).bind fun x110 => (if x110 = true then some (.inr (.inr x56)) else some (.inl ((W (x56 + (1 : Int)))))) else some (.inr (.inl ()))) : Option (((Int)) ⊕ ((Unit) ⊕ (Int))))) fuel ((0 : Int))).bind fun res82 => ctl (β := Unit) (ρ := Int) (τ := Int) res82 (fun _ => some ((-1 : Int))) (fun q => some (q))
set_option maxRecDepth 20000 in
theorem slices_IndexFunc__impl_Equation_impl_Equation_ok {w0 : World} {fuel : Nat} {p0 : Value} {a0 : (List Timpl_Equation)} {a1 : (Timpl_Equation → Option Bool)} {f1 : Nat} {fs1 cp1 : List Value} {r : Int} (h0 : Rd (rList Rimpl_Equation) w0 p0 a0) (hcf1 : ∀ args w, (callFunc f1 args).run Try.prog w = .ok (.enter f1 args) w) (hf1 : ∀ {w : World} {x0_ : Timpl_Equation} {v0_ : Value} {y : Bool}, Ext w0 w → Rd Rimpl_Equation w v0_ x0_ → a1 x0_ = some y → Calls Try.prog f1 (fs1 ++ ([v0_] : List Value) ++ cp1).toArray w fun e w' => e = .returned (.bool y) ∧ Heap w [] w') (hm : slices_IndexFunc__impl_Equation_impl_Equation_m fuel a0 a1 = some r) :
  Calls Try.prog 141 #[p0, .func (.func f1) fs1.toArray cp1.toArray] w0 fun e w => e = .returned (.int .i64 r) ∧ Heap w0 [] w := by
 unfold slices_IndexFunc__impl_Equation_impl_Equation_m at hm
 have H := Heap.start w0
 refine enter (args := [p0, .func (.func f1) fs1.toArray cp1.toArray]) Try.func141 rfl 19 rfl (Nat.le_of_ble_eq_true rfl) (fun a S => ?_)
 refine wp_seq (region_plain ?_)
 refine lq (.int .i64 (0 : Int)) S (q_assign rfl) fun a S => ?_
 refine lx_nil (thenN ?_)
 refine wp_seq (wp_seq (region_plain ?_))
 refine lq p0 S (q_move rfl) fun a S => ?_
 refine lq (.int .i64 (a0.length : Int)) S (q_lenSl rfl (h0).isSl rfl Try.underlying36) fun a S => ?_
 refine lq (.int .i64 (0 : Int)) S (q_move rfl) fun a S => ?_
 refine lx_nil (thenN ?_)
 obtain ⟨res82, hit83, hk86⟩ := bind_some hm
 obtain ⟨f84, hf85, hit83⟩ := iter_name hit83
 refine block_loop (fun a w => Slots a 19 [] ∧ Heap w0 [] w ∧ res82 = .inl ()) ?_ ?_
 ·rintro a w ⟨S, H, rfl⟩
  have hm := ctl_inl hk86
  refine thenN ?_
  refine wp_seq (region_plain ?_)
  refine lq (.int .i64 (-1 : Int)) S (q_assign rfl) fun a S => ?_
  refine lx_nil (thenN ?_)
  refine wp_ret ?_
  obtain rfl := Option.some.inj hm
  exact leave1 S rfl rfl ⟨rfl, H⟩
 ·skip
  refine loop_ghost (fun n a w => ∃ (x56 : Int), Slots a 19 [(0, p0), (1, (.func (.func f1) fs1.toArray cp1.toArray)), (7, (.int .i64 (a0.length : Int))), (8, (.int .i64 x56))] ∧ Heap w0 [] w ∧ iter f84 n (x56) = some res82) _ ⟨(0 : Int), S.sub ⟨rfl, rfl, rfl, rfl, trivial⟩, H, hit83⟩ ?_
  rintro n a w ⟨x56, S, H, hit83⟩
  obtain ⟨m87, o88, rfl, hm, hc89⟩ := iter_step hit83
  rw [hf85] at hm
  refine wp_seq (region_plain ?_)
  refine lq (.bool (decide (x56 < (a0.length : Int)))) S (q_lss rfl rfl) fun a S => ?_
  refine lx_nil (thenN ?_)
  refine wp_seq ?_
  refine cond_b S rfl (fun hc90 => ?_) (fun hc90 => ?_)
  ·have hm := ite_t hc90 hm
   refine wp_skip (thenN ?_)
   refine wp_seq ?_
   refine wp_block ?_
   refine wp_seq (region_plain ?_)
   refine lq (.int .i64 x56) S (q_move rfl) fun a S => ?_
   refine lq (.int .i64 x56) S (q_assign rfl) fun a S => ?_
   refine lx_nil (thenN ?_)
   refine wp_seq (region_plain ?_)
   refine lq (.func (.func f1) fs1.toArray cp1.toArray) S (q_move rfl) fun a S => ?_
   refine lq p0 S (q_move rfl) fun a S => ?_
   refine lq (.int .i64 x56) S (q_move rfl) fun a S => ?_
   obtain ⟨x91, e92, hm⟩ := bind_some hm
   obtain ⟨c93, h94, hat95⟩ := (h0).elem (idx_some e92).2
   obtain ⟨c98, c99, rfl, h100, h101⟩ := h94
   obtain rfl := h100
   obtain ⟨c102, c103, rfl, h104, h105⟩ := h101
   obtain rfl := h104
   obtain ⟨v96, rfl, h97⟩ := rd_list h105
   have hlt := lt_of_idx (idx_some e92).2
   refine lq (ePtr p0 (x56.toNat * 3)) S (q_indexAddr rfl (h0).isSl rfl (idx_some e92).1 hlt Try.underlying36 Try.sizeOf85) fun a S => ?_
   refine lx_e (.agg #[(.bool x91.1), (.bool x91.2.1), v96]) S trivial (by decide) rfl trivial (q_loadA (cs := [(.bool x91.1), (.bool x91.2.1), v96]) rfl ((hat95 0 _ rfl).isP) Try.isAgg85 Try.sizeOf85 (by rintro _ rfl; exact (fun j u hu => (hat95 j u hu).ext H.ext))) (fun a S => ?_)
   obtain ⟨x110, e111, hm⟩ := bind_some hm
   refine lx_callV (f := f1) (first := fs1) (cap := cp1) (xs := [.tmp 15]) S trivial (by decide) rfl rfl rfl hcf1 ((hf1 H.ext ⟨[(.bool x91.1), (.bool x91.2.1), v96], rfl, ⟨[(.bool x91.1)], [(.bool x91.2.1), v96], rfl, rfl, ⟨[(.bool x91.2.1)], [v96], rfl, rfl, ((H.arg h97)).list_rd⟩⟩⟩ e111).mono ?_)
   rintro e w108 ⟨rfl, Hc109⟩
   have H := H.call0 Hc109
   refine ⟨_, rfl, trivial, fun a S => ?_⟩
   refine lx_nil (thenN ?_)
   refine cond_b S rfl (fun hc113 => ?_) (fun hc113 => ?_)
   ·have hm := ite_t hc113 hm
    refine wp_seq (region_plain ?_)
    refine lq (.int .i64 x56) S (q_move rfl) fun a S => ?_
    refine lq (.int .i64 x56) S (q_assign rfl) fun a S => ?_
    refine lx_nil (thenN ?_)
    refine wp_ret (inBlock_ret ?_)
    refine then_ret ?_
    refine then_ret ?_
    refine inBlock_ret ?_
    refine then_ret ?_
    refine then_ret ?_
    obtain rfl := it_brk hm hc89
    have hm := ctl_inr hk86
    obtain rfl := Option.some.inj hm
    exact leave1 S rfl rfl ⟨rfl, H⟩
   ·have hm := ite_f hc113 hm
    refine wp_skip ?_
    refine inBlock_norm ?_
    refine thenN ?_
    refine region_plain ?_
    refine lq (.int .i64 (W (x56 + (1 : Int)))) S (q_add rfl rfl) fun a S => ?_
    refine lq (.int .i64 (W (x56 + (1 : Int)))) S (q_move rfl) fun a S => ?_
    refine lx_nil ?_
    exact ⟨m87, Nat.lt_succ_self _, (W (x56 + (1 : Int))), S.sub ⟨rfl, rfl, rfl, rfl, trivial⟩, H, it_cont hm hc89⟩
  ·have hm := ite_f hc90 hm
   refine wp_exit ?_
   refine then_exit ?_
   refine then_exit ?_
   refine inBlock_exit ?_
   obtain rfl := it_brk hm hc89
   exact ⟨S.sub trivial, H, rfl⟩

/-- slices.ContainsFunc[[]impl.Equation,impl.Equation] -/
def slices_ContainsFunc__impl_Equation_impl_Equation_m (fuel : Nat) (a0 : (List Timpl_Equation)) (a1 : (Timpl_Equation → Option Bool)) : Option (Bool) :=
  (slices_IndexFunc__impl_Equation_impl_Equation_m fuel a0 a1).bind fun x33 => some ((decide ((0 : Int) ≤ x33)))
set_option maxRecDepth 20000 in
theorem slices_ContainsFunc__impl_Equation_impl_Equation_ok {w0 : World} {fuel : Nat} {p0 : Value} {a0 : (List Timpl_Equation)} {a1 : (Timpl_Equation → Option Bool)} {f1 : Nat} {fs1 cp1 : List Value} {r : Bool} (h0 : Rd (rList Rimpl_Equation) w0 p0 a0) (hcf1 : ∀ args w, (callFunc f1 args).run Try.prog w = .ok (.enter f1 args) w) (hf1 : ∀ {w : World} {x0_ : Timpl_Equation} {v0_ : Value} {y : Bool}, Ext w0 w → Rd Rimpl_Equation w v0_ x0_ → a1 x0_ = some y → Calls Try.prog f1 (fs1 ++ ([v0_] : List Value) ++ cp1).toArray w fun e w' => e = .returned (.bool y) ∧ Heap w [] w') (hm : slices_ContainsFunc__impl_Equation_impl_Equation_m fuel a0 a1 = some r) :
  Calls Try.prog 120 #[p0, .func (.func f1) fs1.toArray cp1.toArray] w0 fun e w => e = .returned (.bool r) ∧ Heap w0 [] w := by
 unfold slices_ContainsFunc__impl_Equation_impl_Equation_m at hm
 have H := Heap.start w0
 refine enter (args := [p0, .func (.func f1) fs1.toArray cp1.toArray]) Try.func120 rfl 9 rfl (Nat.le_of_ble_eq_true rfl) (fun a S => ?_)
 refine wp_seq (region_plain ?_)
 refine lq (.bool false) S (q_assign rfl) fun a S => ?_
 refine lx_nil (thenN ?_)
 refine wp_seq (region_plain ?_)
 refine lq p0 S (q_move rfl) fun a S => ?_
 refine lq (.func (.func f1) fs1.toArray cp1.toArray) S (q_move rfl) fun a S => ?_
 obtain ⟨x33, e34, hm⟩ := bind_some hm
 refine lx_call (xs := [.tmp 5, .tmp 6]) S trivial (by decide) rfl rfl Try.call141 ((slices_IndexFunc__impl_Equation_impl_Equation_ok (f1 := f1) (fs1 := fs1) (cp1 := cp1) (a1 := a1) (H.arg h0) hcf1 (fun he h0_ hm => hf1 ((H.ext).trans he) h0_ hm) e34).mono ?_)
 rintro e w31 ⟨rfl, Hc32⟩
 have H := H.call0 Hc32
 refine ⟨_, rfl, trivial, fun a S => ?_⟩
 refine lq (.bool (decide ((0 : Int) ≤ x33))) S (q_geq rfl rfl) fun a S => ?_
 refine lq (.bool (decide ((0 : Int) ≤ x33))) S (q_assign rfl) fun a S => ?_
 refine lx_nil (thenN ?_)
 refine wp_ret ?_
 obtain rfl := Option.some.inj hm
 exact leave1 S rfl rfl ⟨rfl, H⟩

/-- impl.ValidEquations -/
def impl_ValidEquations_m (fuel : Nat) (a0 : (List Timpl_Equation)) : Option (Bool) :=
  (impl_within_m fuel (a0.length : Int) (1 : Int) (120 : Int)).bind fun x36 => (if (!x36) = true then some true else (impl_blocksFit_m fuel a0).bind fun x44 => some (!x44)).bind fun t39 => (if t39 = true then some (false) else (slices_ContainsFunc__impl_Equation_impl_Equation_m fuel a0 (fun (z0 : Timpl_Equation) => impl_ValidEquations_1_m fuel z0 a0)).bind fun x50 => some ((!x50)))
set_option maxRecDepth 20000 in
theorem impl_ValidEquations_ok {w0 : World} {fuel : Nat} {p0 : Value} {a0 : (List Timpl_Equation)} {r : Bool} (h0 : Rd (rList Rimpl_Equation) w0 p0 a0) (hm : impl_ValidEquations_m fuel a0 = some r) :
  Calls Try.prog 71 #[p0] w0 fun e w => e = .returned (.bool r) ∧ Heap w0 [] w := by
 unfold impl_ValidEquations_m at hm
 have H := Heap.start w0
 refine enter (args := [p0]) Try.func71 rfl 16 rfl (Nat.le_of_ble_eq_true rfl) (fun a S => ?_)
 refine wp_seq (region_plain ?_)
 refine lx_box S trivial (by decide) rfl H rfl (cells_sl (h0).isSl) (fun b31 w32 H => ⟨trivial, fun a S => ?_⟩)
 refine lq (.bool false) S (q_assign rfl) fun a S => ?_
 refine lx_nil (thenN ?_)
 refine wp_seq (wp_seq (region_plain ?_))
 refine lx_e p0 S trivial (by decide) rfl trivial (q_load1 rfl Try.isAgg36 (by rintro _ rfl; exact (boxAt (i := 0) H rfl (j := 0) rfl))) (fun a S => ?_)
 refine lq (.int .i64 (a0.length : Int)) S (q_lenSl rfl (h0).isSl rfl Try.underlying36) fun a S => ?_
 obtain ⟨x36, e37, hm⟩ := bind_some hm
 refine lx_call (xs := [.tmp 4, .const (.int .i64 (1)), .const (.int .i64 (120))]) S trivial (by decide) rfl rfl Try.call112 ((impl_within_ok    e37).mono ?_)
 rintro e w34 ⟨rfl, Hc35⟩
 have H := H.call0 Hc35
 refine ⟨_, rfl, trivial, fun a S => ?_⟩
 refine lq (.bool (!x36)) S (q_not rfl) fun a S => ?_
 refine lq (.bool (!x36)) S (q_move rfl) fun a S => ?_
 obtain ⟨t39, e40, hm⟩ := bind_some hm
 refine lx_cut 4 (fun a w => Slots a 16 [(1, (bp b31)), (11, (.bool t39))] ∧ Heap w0 [bA b31 [p0] 36] w) ?_ ?_
 ·by_cases hc41 : (!x36) = true
  ·have hm := ite_t hc41 e40
   refine lx_skip S rfl rfl (isB_ne hc41) (by decide) (fun a S => ?_)
   refine lx_skip S rfl rfl (isB_ne hc41) (by decide) (fun a S => ?_)
   refine lx_skip S rfl rfl (isB_ne hc41) (by decide) (fun a S => ?_)
   refine lq (.bool true) S (q_pickT' rfl hc41 rfl) fun a S => ?_
   refine lx_nil ?_
   obtain rfl := Option.some.inj hm
   exact ⟨S.sub ⟨rfl, rfl, trivial⟩, H⟩
  ·have hm := ite_f (eq_false_of_ne_true hc41) e40
   have hc41 : (!x36) = false := eq_false_of_ne_true hc41
   refine lx_e p0 S (want_b rfl rfl hc41) (by decide) rfl trivial (q_load1 rfl Try.isAgg36 (by rintro _ rfl; exact (boxAt (i := 0) H rfl (j := 0) rfl))) (fun a S => ?_)
   obtain ⟨x44, e45, hm⟩ := bind_some hm
   refine lx_call (xs := [.tmp 8]) S (want_b rfl rfl hc41) (by decide) rfl rfl Try.call109 ((impl_blocksFit_ok (H.arg h0) e45).mono ?_)
   rintro e w42 ⟨rfl, Hc43⟩
   have H := H.call0 Hc43
   refine ⟨_, rfl, trivial, fun a S => ?_⟩
   refine lx_q (.bool (!x44)) S (want_b rfl rfl hc41) (by decide) (q_not rfl) (fun a S => ?_)
   refine lq (.bool (!x44)) S (q_pickF' rfl hc41 rfl) fun a S => ?_
   refine lx_nil ?_
   obtain rfl := Option.some.inj hm
   exact ⟨S.sub ⟨rfl, rfl, trivial⟩, H⟩
 ·rintro a w ⟨S, H⟩
  refine lx_nil (thenN ?_)
  refine cond_b S rfl (fun hc47 => ?_) (fun hc47 => ?_)
  ·have hm := ite_t hc47 hm
   refine wp_seq (region_plain ?_)
   refine lq (.bool false) S (q_assign rfl) fun a S => ?_
   refine lx_nil (thenN ?_)
   refine wp_ret (then_ret ?_)
   obtain rfl := Option.some.inj hm
   have H : Heap w0 [] w := H.sel [] (by decide)
   exact leave1 S rfl rfl ⟨rfl, H⟩
  ·have hm := ite_f hc47 hm
   refine wp_skip (thenN ?_)
   refine wp_seq (region_plain ?_)
   refine lx_e p0 S trivial (by decide) rfl trivial (q_load1 rfl Try.isAgg36 (by rintro _ rfl; exact (boxAt (i := 0) H rfl (j := 0) rfl))) (fun a S => ?_)
   refine lq (.func (.func 121) #[] #[(bp b31)]) S (q_makeFunc (xs := []) (ys := [.tmp 1]) rfl rfl) fun a S => ?_
   obtain ⟨x50, e51, hm⟩ := bind_some hm
   have hcap52 : Rd (rPtr (rList Rimpl_Equation)) w (bp b31) a0 := (rdPtr_box H 0 rfl ((H.arg h0)).list_rd)
   refine lx_call (xs := [.tmp 12, .tmp 13]) S trivial (by decide) rfl rfl Try.call120 ((slices_ContainsFunc__impl_Equation_impl_Equation_ok (f1 := 121) (fs1 := ([] : List Value)) (cp1 := ([(bp b31)] : List Value)) (a1 := (fun (z0 : Timpl_Equation) => impl_ValidEquations_1_m fuel z0 a0)) (H.arg h0) Try.call121 (fun he h0_ hm => impl_ValidEquations_1_ok  h0_ (hcap52.ext he) hm) e51).mono ?_)
   rintro e w48 ⟨rfl, Hc49⟩
   have H := H.call0 Hc49
   refine ⟨_, rfl, trivial, fun a S => ?_⟩
   refine lq (.bool (!x50)) S (q_not rfl) fun a S => ?_
   refine lq (.bool (!x50)) S (q_assign rfl) fun a S => ?_
   refine lx_nil (thenN ?_)
   refine wp_ret ?_
   obtain rfl := Option.some.inj hm
   have H : Heap w0 [] w48 := H.sel [] (by decide)
   exact leave1 S rfl rfl ⟨rfl, H⟩
end Go.Proofs.Ytecknjdlbmmmiaa
