/- The model of a statement and its walk (printed by a program of this repo). -/
import Derived.Test.YtecknjdlbmmmiaaF0
import Derived.Test.YtecknjdlbmmmiaaF10
import Derived.Test.YtecknjdlbmmmiaaF2
import Derived.Test.YtecknjdlbmmmiaaF3
import Derived.Test.YtecknjdlbmmmiaaF4
import Derived.Test.YtecknjdlbmmmiaaF5
import Derived.Test.YtecknjdlbmmmiaaF6
import Derived.Test.YtecknjdlbmmmiaaF7
import Derived.Test.YtecknjdlbmmmiaaFS
import Derived.Test.YtecknjdlbmmmiaaGxJ
import Derived.Test.YtecknjdlbmmmiaaGxMx
import Derived.Test.YtecknjdlbmmmiaaGxT
import Derived.Test.YtecknjdlbmmmiaaGxY
namespace Go.Proofs.Ytecknjdlbmmmiaa
open Go.RowKit Go.Gx

/-- spec.CompressPriorities -/
def spec_CompressPriorities_m (fuel : Nat) (a0 : (List Timpl_Vertex)) : Option (((List Timpl_Vertex) × Int)) :=
  (spec_l23Is_m fuel a0).bind fun x33 => (if (!x33) = true then some (([], (1 : Int))) else (iter (fun (s : (List Int) × (Int)) => (match s with | (xs69, x71) => (if (decide (x71 < (a0.length : Int))) = true then (idx a0 x71).bind fun x360 => (spec_l00Put_m fuel xs69 x360.2.1).bind fun x377 => some (.inl (x377, (W (x71 + (1 : Int))))) else some (.inr (.inl (xs69)))) : Option (((List Int) × (Int)) ⊕ (((List Int)) ⊕ (((List Timpl_Vertex) × Int)))))) fuel (([] : List Int), (0 : Int))).bind fun res102 => ctl (β := (List Int)) (ρ := ((List Timpl_Vertex) × Int)) (τ := ((List Timpl_Vertex) × Int)) res102 (fun (xs100) => (iter (fun (s : (List Int) × (Int)) => (match s with | (xs153, x155) => (if (decide (x155 < (xs100.length : Int))) = true then join (κ := List Int → Option (((List Int) × (Int)) ⊕ (((List Int)) ⊕ (((List Timpl_Vertex) × Int))))) (fun (xs320 : List Int) => some (.inl (xs320, (W (x155 + (1 : Int)))))) (fun K322 => (if (x155 == (0 : Int)) = true then (idx xs100 (0 : Int)).bind fun x325 => (app xs153 [(x325.tmod (2 : Int))]).bind fun x333 => (K322 x333) else (idx xs153 (W (x155 - (1 : Int)))).bind fun x338 => (idx xs100 x155).bind fun x343 => (app xs153 [(W (x338 + ((W (x343 + x338)).tmod (2 : Int))))]).bind fun x351 => (K322 x351))) else some (.inr (.inl (xs153)))) : Option (((List Int) × (Int)) ⊕ (((List Int)) ⊕ (((List Timpl_Vertex) × Int)))))) fuel (([] : List Int), (0 : Int))).bind fun res201 => ctl (β := (List Int)) (ρ := ((List Timpl_Vertex) × Int)) (τ := ((List Timpl_Vertex) × Int)) res201 (fun (xs199) => (spec_l23Own_m fuel a0).bind fun x208 => (iter (fun (s : (List Timpl_Vertex) × (Int)) => (match s with | (xs244, x245) => (if (decide (x245 < (xs244.length : Int))) = true then (idx xs244 x245).bind fun x287 => (spec_l11Place_m fuel xs100 x287.2.1).bind fun x304 => (idx xs199 x304).bind fun x307 => (idx xs244 x245).bind fun x312 => some (.inl ((xs244.set x245.toNat (x312.1, x307, x312.2.2)), (W (x245 + (1 : Int))))) else some (.inr (.inl (xs244)))) : Option (((List Timpl_Vertex) × (Int)) ⊕ (((List Timpl_Vertex)) ⊕ (((List Timpl_Vertex) × Int)))))) fuel (x208, (0 : Int))).bind fun res278 => ctl (β := (List Timpl_Vertex)) (ρ := ((List Timpl_Vertex) × Int)) (τ := ((List Timpl_Vertex) × Int)) res278 (fun (xs277) => some ((xs277, (0 : Int)))) (fun q => some (q))) (fun q => some (q))) (fun q => some (q)))
set_option maxRecDepth 20000 in
theorem spec_CompressPriorities_ok {w0 : World} {fuel : Nat} {p0 : Value} {a0 : (List Timpl_Vertex)} {r : ((List Timpl_Vertex) × Int)} (h0 : Rd (rList Rimpl_Vertex) w0 p0 a0) (hm : spec_CompressPriorities_m fuel a0 = some r) :
  Calls Try.prog 45 #[p0] w0 fun e w => ∃ (v0 : Value), e = .returned (.tuple #[v0, .int .i64 r.2]) ∧ Heap w0 [oA (rList Rimpl_Vertex) v0 r.1] w := by
 unfold spec_CompressPriorities_m at hm
 have H := Heap.start w0
 refine enter (args := [p0]) Try.func45 rfl 84 rfl (Nat.le_of_ble_eq_true rfl) (fun a S => ?_)
 refine wp_seq (region_plain ?_)
 refine lq (.slice none 0 0) S (q_assign rfl) fun a S => ?_
 refine lq (.int .i64 (0 : Int)) S (q_assign rfl) fun a S => ?_
 refine lx_nil (thenN ?_)
 refine wp_seq (wp_seq (region_plain ?_))
 refine lq p0 S (q_move rfl) fun a S => ?_
 obtain ⟨x33, e34, hm⟩ := bind_some hm
 refine lx_call (xs := [.tmp 11]) S trivial (by decide) rfl rfl Try.call53 ((spec_l23Is_ok (H.arg h0) e34).mono ?_)
 rintro e w31 ⟨rfl, Hc32⟩
 have H := H.call0 Hc32
 refine ⟨_, rfl, trivial, fun a S => ?_⟩
 refine lq (.bool (!x33)) S (q_not rfl) fun a S => ?_
 refine lx_nil (thenN ?_)
 refine cond_b S rfl (fun hc36 => ?_) (fun hc36 => ?_)
 ·have hm := ite_t hc36 hm
  refine wp_seq (region_plain ?_)
  refine lq (.slice none 0 0) S (q_assign rfl) fun a S => ?_
  refine lq (.int .i64 (1 : Int)) S (q_assign rfl) fun a S => ?_
  refine lx_nil (thenN ?_)
  refine wp_ret (then_ret ?_)
  obtain rfl := Option.some.inj hm
  have H : Heap w0 [oA (rList Rimpl_Vertex) (.slice none 0 0) ([] : List Timpl_Vertex)] w31 := H.nilList Rimpl_Vertex
  exact leave2 S rfl rfl rfl ⟨(.slice none 0 0), rfl, H⟩
 ·have hm := ite_f hc36 hm
  refine wp_skip (thenN ?_)
  refine wp_seq (region_plain ?_)
  refine lx_buildSlice0 (r := (rInt .i64)) S trivial (by decide) rfl H Try.underlying23 Try.sizeOf2 (fun v38 w39 H => ⟨trivial, fun a S => ?_⟩)
  refine lq v38 S (q_assign rfl) fun a S => ?_
  refine lx_nil (thenN ?_)
  refine wp_seq (wp_seq (region_plain ?_))
  refine lq (.int .i64 (0 : Int)) S (q_assign rfl) fun a S => ?_
  refine lx_nil (thenN ?_)
  obtain ⟨res102, hit103, hk106⟩ := bind_some hm
  obtain ⟨f104, hf105, hit103⟩ := iter_name hit103
  refine block_loop (fun a w => ∃ (xs100 : List Int) (v99 : Value), Slots a 84 [(0, p0), (4, v99)] ∧ Heap w0 [oA (rList (rInt .i64)) v99 xs100] w ∧ res102 = .inl (xs100)) ?_ ?_
  ·rintro a w ⟨xs100, v99, S, H, rfl⟩
   have hm := ctl_inl hk106
   refine thenN ?_
   refine wp_seq (region_plain ?_)
   refine lx_buildSlice0 (r := (rInt .i64)) S trivial (by decide) rfl H Try.underlying23 Try.sizeOf2 (fun v107 w108 H => ⟨trivial, fun a S => ?_⟩)
   refine lq v107 S (q_assign rfl) fun a S => ?_
   refine lx_nil (thenN ?_)
   refine wp_seq (wp_seq (region_plain ?_))
   refine lq (.int .i64 (0 : Int)) S (q_assign rfl) fun a S => ?_
   refine lx_nil (thenN ?_)
   obtain ⟨res201, hit202, hk205⟩ := bind_some hm
   obtain ⟨f203, hf204, hit202⟩ := iter_name hit202
   refine block_loop (fun a w => ∃ (xs199 : List Int) (v198 : Value), Slots a 84 [(0, p0), (4, v99), (6, v198)] ∧ Heap w0 [oA (rList (rInt .i64)) v99 xs100, oA (rList (rInt .i64)) v198 xs199] w ∧ res201 = .inl (xs199)) ?_ ?_
   ·rintro a w ⟨xs199, v198, S, H, rfl⟩
    have hm := ctl_inl hk205
    refine thenN ?_
    refine wp_seq (region_plain ?_)
    refine lq p0 S (q_move rfl) fun a S => ?_
    obtain ⟨x208, e209, hm⟩ := bind_some hm
    refine lx_call (xs := [.tmp 61]) S trivial (by decide) rfl rfl Try.call100 ((spec_l23Own_ok (H.arg h0) e209).mono ?_)
    rintro e w206 ⟨v210, rfl, Hc207⟩
    have H := H.call1 Hc207
    refine ⟨_, rfl, trivial, fun a S => ?_⟩
    refine lq v210 S (q_assign rfl) fun a S => ?_
    refine lx_nil (thenN ?_)
    refine wp_seq (wp_seq (region_plain ?_))
    refine lq (.int .i64 (0 : Int)) S (q_assign rfl) fun a S => ?_
    refine lx_nil (thenN ?_)
    obtain ⟨res278, hit279, hk282⟩ := bind_some hm
    obtain ⟨f280, hf281, hit279⟩ := iter_name hit279
    refine block_loop (fun a w => ∃ (xs277 : List Timpl_Vertex), Slots a 84 [(9, v210)] ∧ Heap w0 [oA (rList Rimpl_Vertex) v210 xs277] w ∧ res278 = .inl (xs277)) ?_ ?_
    ·rintro a w ⟨xs277, S, H, rfl⟩
     have hm := ctl_inl hk282
     refine thenN ?_
     refine wp_seq (region_plain ?_)
     refine lq v210 S (q_move rfl) fun a S => ?_
     refine lq v210 S (q_assign rfl) fun a S => ?_
     refine lq (.int .i64 (0 : Int)) S (q_assign rfl) fun a S => ?_
     refine lx_nil (thenN ?_)
     refine wp_ret ?_
     obtain rfl := Option.some.inj hm
     exact leave2 S rfl rfl rfl ⟨v210, rfl, H⟩
    ·skip
     have H : Heap w0 [oA (rList (rInt .i64)) v198 xs199, oA (rList Rimpl_Vertex) v210 x208, oA (rList (rInt .i64)) v99 xs100] w206 := H.front 2 rfl
     have H : Heap w0 [oA (rList (rInt .i64)) v99 xs100, oA (rList (rInt .i64)) v198 xs199, oA (rList Rimpl_Vertex) v210 x208] w206 := H.front 2 rfl
     refine loop_ghost (fun n a w => ∃ (xs244 : List Timpl_Vertex) (x245 : Int), Slots a 84 [(4, v99), (6, v198), (9, v210), (10, (.int .i64 x245))] ∧ Heap w0 [oA (rList (rInt .i64)) v99 xs100, oA (rList (rInt .i64)) v198 xs199, oA (rList Rimpl_Vertex) v210 xs244] w ∧ iter f280 n (xs244, x245) = some res278) _ ⟨x208, (0 : Int), S.sub ⟨rfl, rfl, rfl, rfl, trivial⟩, H, hit279⟩ ?_
     rintro n a w ⟨xs244, x245, S, H, hit279⟩
     obtain ⟨m283, o284, rfl, hm, hc285⟩ := iter_step hit279
     rw [hf281] at hm
     refine wp_seq (wp_seq (region_plain ?_))
     refine lq (.int .i64 x245) S (q_move rfl) fun a S => ?_
     refine lq v210 S (q_move rfl) fun a S => ?_
     refine lq (.int .i64 (xs244.length : Int)) S (q_lenSl rfl (H.isSl 2 rfl) rfl Try.underlying26) fun a S => ?_
     refine lq (.bool (decide (x245 < (xs244.length : Int)))) S (q_lss rfl rfl) fun a S => ?_
     refine lx_nil (thenN ?_)
     refine cond_b S rfl (fun hc286 => ?_) (fun hc286 => ?_)
     ·have hm := ite_t hc286 hm
      refine wp_skip (thenN ?_)
      refine wp_seq ?_
      refine wp_block ?_
      refine region_plain ?_
      refine lq v210 S (q_move rfl) fun a S => ?_
      refine lq (.int .i64 x245) S (q_move rfl) fun a S => ?_
      refine lq v198 S (q_move rfl) fun a S => ?_
      refine lq v99 S (q_move rfl) fun a S => ?_
      refine lq v210 S (q_move rfl) fun a S => ?_
      refine lq (.int .i64 x245) S (q_move rfl) fun a S => ?_
      obtain ⟨x287, e288, hm⟩ := bind_some hm
      have hlt := lt_of_idx (idx_some e288).2
      refine lq (ePtr v210 (x245.toNat * 3)) S (q_indexAddr rfl (H.isSl 2 rfl) rfl (idx_some e288).1 hlt Try.underlying26 Try.sizeOf71) fun a S => ?_
      refine lq (pAdd (ePtr v210 (x245.toNat * 3)) 1) S (q_fieldAddr' 1 2 rfl (((H.isSl 2 rfl)).ptr (lt_of_idx (idx_some e288).2) _) Try.underlying71 rfl Try.sizeOf2) fun a S => ?_
      obtain ⟨c289, h290, hat291⟩ := (H.rdAt 2 rfl).elem (idx_some e288).2
      obtain ⟨c294, c295, rfl, h296, h297⟩ := h290
      obtain rfl := h296
      obtain ⟨c298, c299, rfl, h300, h301⟩ := h297
      obtain rfl := h300
      obtain ⟨v292, rfl, h293⟩ := rd_list h301
      refine lx_e (.int .i64 x287.2.1) S trivial (by decide) rfl trivial (q_load1 rfl Try.isAgg2 (by rintro _ rfl; exact (At.of_add (m := 1) (j := 0) (hat291 1 _ rfl)))) (fun a S => ?_)
      obtain ⟨x304, e305, hm⟩ := bind_some hm
      refine lx_call (xs := [.tmp 72, .tmp 77]) S trivial (by decide) rfl rfl Try.call94 ((spec_l11Place_ok (H.rdAt 0 rfl)  e305).mono ?_)
      rintro e w302 ⟨rfl, Hc303⟩
      have H := H.call0 Hc303
      refine ⟨_, rfl, trivial, fun a S => ?_⟩
      obtain ⟨x307, e308, hm⟩ := bind_some hm
      have hlt := lt_of_idx (idx_some e308).2
      refine lq (ePtr v198 (x304.toNat * 1)) S (q_indexAddr rfl (H.isSl 1 rfl) rfl (idx_some e308).1 hlt Try.underlying23 Try.sizeOf2) fun a S => ?_
      obtain ⟨c309, h310, hat311⟩ := (H.rdAt 1 rfl).elem (idx_some e308).2
      obtain rfl := h310
      refine lx_e (.int .i64 x307) S trivial (by decide) rfl trivial (q_load1 rfl Try.isAgg2 (by rintro _ rfl; exact (hat311 0 _ rfl))) (fun a S => ?_)
      obtain ⟨x312, e313, hm⟩ := bind_some hm
      have hlt := lt_of_idx (idx_some e313).2
      refine lq (ePtr v210 (x245.toNat * 3)) S (q_indexAddr rfl (H.isSl 2 rfl) rfl (idx_some e313).1 hlt Try.underlying26 Try.sizeOf71) fun a S => ?_
      refine lq (pAdd (ePtr v210 (x245.toNat * 3)) 1) S (q_fieldAddr' 1 2 rfl (((H.isSl 2 rfl)).ptr (lt_of_idx (idx_some e313).2) _) Try.underlying71 rfl Try.sizeOf2) fun a S => ?_
      have H : Heap w0 [oA (rList Rimpl_Vertex) v210 xs244, oA (rList (rInt .i64)) v99 xs100, oA (rList (rInt .i64)) v198 xs199] w302 := H.front 2 rfl
      refine lx_storeElem (r := Rimpl_Vertex) (us := [(.int .i64 x307)]) (off := 1) (e' := (x312.1, x307, x312.2.2)) S trivial rfl H.putE rfl rfl (idx_some e313).2 rfl Try.sizeOf2 (Nat.le_of_ble_eq_true rfl) (List.forall_mem_cons.2 ⟨rfl, (fun _ h => nomatch h)⟩) (Upd.snd (off := 0) (Upd.fst (off := 0) (Nat.le_of_ble_eq_true rfl) (Upd.full rfl (fun w G hG => by cases (show G = [] from hG); exact ⟨rfl, rfl⟩)))) (fun w314 H => ⟨trivial, fun a S => ?_⟩)
      refine lx_nil ?_
      refine inBlock_norm ?_
      refine thenN ?_
      refine region_plain ?_
      refine lq (.int .i64 x245) S (q_move rfl) fun a S => ?_
      refine lq (.int .i64 (W (x245 + (1 : Int)))) S (q_add rfl rfl) fun a S => ?_
      refine lq (.int .i64 (W (x245 + (1 : Int)))) S (q_assign rfl) fun a S => ?_
      refine lx_nil ?_
      have H : Heap w0 [oA (rList (rInt .i64)) v198 xs199, oA (rList Rimpl_Vertex) v210 (xs244.set x245.toNat (x312.1, x307, x312.2.2)), oA (rList (rInt .i64)) v99 xs100] w314 := H.front 2 rfl
      have H : Heap w0 [oA (rList (rInt .i64)) v99 xs100, oA (rList (rInt .i64)) v198 xs199, oA (rList Rimpl_Vertex) v210 (xs244.set x245.toNat (x312.1, x307, x312.2.2))] w314 := H.front 2 rfl
      exact ⟨m283, Nat.lt_succ_self _, (xs244.set x245.toNat (x312.1, x307, x312.2.2)), (W (x245 + (1 : Int))), S.sub ⟨rfl, rfl, rfl, rfl, trivial⟩, H, it_cont hm hc285⟩
     ·have hm := ite_f hc286 hm
      refine wp_exit ?_
      refine then_exit ?_
      refine then_exit ?_
      refine inBlock_exit ?_
      obtain rfl := it_brk hm hc285
      have H : Heap w0 [oA (rList Rimpl_Vertex) v210 xs244] w := H.sel [2] (by decide)
      exact ⟨xs244, S.sub ⟨rfl, trivial⟩, H, rfl⟩
   ·skip
    have H : Heap w0 [oA (rList (rInt .i64)) v99 xs100, oA (rList (rInt .i64)) v107 ([] : List Int)] w108 := H.front 1 rfl
    refine loop_ghost (fun n a w => ∃ (xs153 : List Int) (x155 : Int) (v152 : Value), Slots a 84 [(0, p0), (4, v99), (6, v152), (7, (.int .i64 x155))] ∧ Heap w0 [oA (rList (rInt .i64)) v99 xs100, oA (rList (rInt .i64)) v152 xs153] w ∧ iter f203 n (xs153, x155) = some res201) _ ⟨([] : List Int), (0 : Int), v107, S.sub ⟨rfl, rfl, rfl, rfl, trivial⟩, H, hit202⟩ ?_
    rintro n a w ⟨xs153, x155, v152, S, H, hit202⟩
    obtain ⟨m315, o316, rfl, hm, hc317⟩ := iter_step hit202
    rw [hf204] at hm
    refine wp_seq (wp_seq (region_plain ?_))
    refine lq (.int .i64 x155) S (q_move rfl) fun a S => ?_
    refine lq v99 S (q_move rfl) fun a S => ?_
    refine lq (.int .i64 (xs100.length : Int)) S (q_lenSl rfl (H.isSl 0 rfl) rfl Try.underlying23) fun a S => ?_
    refine lq (.bool (decide (x155 < (xs100.length : Int)))) S (q_lss rfl rfl) fun a S => ?_
    refine lx_nil (thenN ?_)
    refine cond_b S rfl (fun hc318 => ?_) (fun hc318 => ?_)
    ·have hm := ite_t hc318 hm
     refine wp_skip (thenN ?_)
     obtain ⟨K322, hK323, hm⟩ := join_elim hm
     refine seq_cut (fun a w => ∃ (xs320 : List Int) (v319 : Value), Slots a 84 [(0, p0), (4, v99), (6, v319), (7, (.int .i64 x155))] ∧ Heap w0 [oA (rList (rInt .i64)) v99 xs100, oA (rList (rInt .i64)) v319 xs320] w ∧ K322 xs320 = some o316) ?_ ?_
     ·rintro a w ⟨xs320, v319, S, H, hm⟩
      subst hK323
      refine region_plain ?_
      refine lq (.int .i64 x155) S (q_move rfl) fun a S => ?_
      refine lq (.int .i64 (W (x155 + (1 : Int)))) S (q_add rfl rfl) fun a S => ?_
      refine lq (.int .i64 (W (x155 + (1 : Int)))) S (q_assign rfl) fun a S => ?_
      refine lx_nil ?_
      exact ⟨m315, Nat.lt_succ_self _, xs320, (W (x155 + (1 : Int))), v319, S.sub ⟨rfl, rfl, rfl, rfl, trivial⟩, H, it_cont hm hc317⟩
     ·skip
      refine wp_block ?_
      refine wp_seq (wp_seq (region_plain ?_))
      refine lq (.int .i64 x155) S (q_move rfl) fun a S => ?_
      refine lq (.bool (x155 == (0 : Int))) S (q_eql rfl rfl) fun a S => ?_
      refine lx_nil (thenN ?_)
      refine cond_b S rfl (fun hc324 => ?_) (fun hc324 => ?_)
      ·have hm := ite_t hc324 hm
       refine wp_seq (region_plain ?_)
       refine lq v152 S (q_move rfl) fun a S => ?_
       refine lq v99 S (q_move rfl) fun a S => ?_
       obtain ⟨x325, e326, hm⟩ := bind_some hm
       have hlt := lt_of_idx (idx_some e326).2
       refine lq (ePtr v99 ((0 : Int).toNat * 1)) S (q_indexAddr rfl (H.isSl 0 rfl) rfl (idx_some e326).1 hlt Try.underlying23 Try.sizeOf2) fun a S => ?_
       obtain ⟨c327, h328, hat329⟩ := (H.rdAt 0 rfl).elem (idx_some e326).2
       obtain rfl := h328
       refine lx_e (.int .i64 x325) S trivial (by decide) rfl trivial (q_load1 rfl Try.isAgg2 (by rintro _ rfl; exact (hat329 0 _ rfl))) (fun a S => ?_)
       refine lq (.int .i64 (x325.tmod (2 : Int))) S (q_rem rfl rfl (show (2 : Int) ≠ 0 from by decide)) fun a S => ?_
       refine lx_buildSlice (r := (rInt .i64)) (xs := [(x325.tmod (2 : Int))]) (ps := [(0, [(.int .i64 (x325.tmod (2 : Int)))])]) (cs := [(.int .i64 (x325.tmod (2 : Int)))]) (parts := [(0, .tmp 41)]) S trivial (by decide) rfl (H.put0 (A := eA) rfl) rfl Try.underlying23 Try.sizeOf2 Try.zeroValue2 (by decide) ⟨rfl, rfl, Nat.le_of_ble_eq_true rfl, trivial⟩ (by intro zs hz; exact fill_dense hz ⟨rfl, trivial⟩ rfl rfl) rfl (by decide) (fun w F hA => by cases (show F = [] from hA); exact ⟨_, _, [(.int .i64 (x325.tmod (2 : Int)))], _, rfl, rfl, ⟨rfl, rfl⟩, ⟨rfl, rfl⟩⟩) (fun v330 w331 H => ⟨trivial, fun a S => ?_⟩)
       obtain ⟨x333, e334, hm⟩ := bind_some hm
       obtain ⟨hle, hap⟩ := app_some e334
       replace hap := hap.symm
       subst hap
       have H : Heap w0 [oA (rList (rInt .i64)) v330 [(x325.tmod (2 : Int))], oA (rList (rInt .i64)) v99 xs100, oA (rList (rInt .i64)) v152 xs153] w331 := H.front 0 rfl
       have H : Heap w0 [oA (rList (rInt .i64)) v152 xs153, oA (rList (rInt .i64)) v330 [(x325.tmod (2 : Int))], oA (rList (rInt .i64)) v99 xs100] w331 := H.front 2 rfl
       refine lx_appendOwn (r := (rInt .i64)) S trivial (by decide) rfl H rfl rfl Try.underlying23 Try.ti2 rfl rfl rfl (Nat.le_of_ble_eq_true rfl) (by decide) hle (fun v335 w336 H => ⟨trivial, fun a S => ?_⟩)
       refine lq v335 S (q_assign rfl) fun a S => ?_
       refine lx_nil (thenN ?_)
       refine wp_exit ?_
       refine then_exit ?_
       refine inBlock_exit ?_
       have H : Heap w0 [oA (rList (rInt .i64)) v99 xs100, oA (rList (rInt .i64)) v335 (xs153 ++ [(x325.tmod (2 : Int))])] w336 := H.front 1 rfl
       exact ⟨(xs153 ++ [(x325.tmod (2 : Int))]), v335, S.sub ⟨rfl, rfl, rfl, rfl, trivial⟩, H, hm⟩
      ·have hm := ite_f hc324 hm
       refine wp_skip (thenN ?_)
       refine wp_seq (region_plain ?_)
       refine lq v152 S (q_move rfl) fun a S => ?_
       refine lq (.int .i64 x155) S (q_move rfl) fun a S => ?_
       refine lq (.int .i64 (W (x155 - (1 : Int)))) S (q_sub rfl rfl) fun a S => ?_
       obtain ⟨x338, e339, hm⟩ := bind_some hm
       have hlt := lt_of_idx (idx_some e339).2
       refine lq (ePtr v152 ((W (x155 - (1 : Int))).toNat * 1)) S (q_indexAddr rfl (H.isSl 1 rfl) rfl (idx_some e339).1 hlt Try.underlying23 Try.sizeOf2) fun a S => ?_
       obtain ⟨c340, h341, hat342⟩ := (H.rdAt 1 rfl).elem (idx_some e339).2
       obtain rfl := h341
       refine lx_e (.int .i64 x338) S trivial (by decide) rfl trivial (q_load1 rfl Try.isAgg2 (by rintro _ rfl; exact (hat342 0 _ rfl))) (fun a S => ?_)
       refine lq (.int .i64 x338) S (q_assign rfl) fun a S => ?_
       refine lx_nil (thenN ?_)
       refine region_plain ?_
       refine lq v152 S (q_move rfl) fun a S => ?_
       refine lq (.int .i64 x338) S (q_move rfl) fun a S => ?_
       refine lq v99 S (q_move rfl) fun a S => ?_
       refine lq (.int .i64 x155) S (q_move rfl) fun a S => ?_
       obtain ⟨x343, e344, hm⟩ := bind_some hm
       have hlt := lt_of_idx (idx_some e344).2
       refine lq (ePtr v99 (x155.toNat * 1)) S (q_indexAddr rfl (H.isSl 0 rfl) rfl (idx_some e344).1 hlt Try.underlying23 Try.sizeOf2) fun a S => ?_
       obtain ⟨c345, h346, hat347⟩ := (H.rdAt 0 rfl).elem (idx_some e344).2
       obtain rfl := h346
       refine lx_e (.int .i64 x343) S trivial (by decide) rfl trivial (q_load1 rfl Try.isAgg2 (by rintro _ rfl; exact (hat347 0 _ rfl))) (fun a S => ?_)
       refine lq (.int .i64 x338) S (q_move rfl) fun a S => ?_
       refine lq (.int .i64 (W (x343 + x338))) S (q_add rfl rfl) fun a S => ?_
       refine lq (.int .i64 ((W (x343 + x338)).tmod (2 : Int))) S (q_rem rfl rfl (show (2 : Int) ≠ 0 from by decide)) fun a S => ?_
       refine lq (.int .i64 (W (x338 + ((W (x343 + x338)).tmod (2 : Int))))) S (q_add rfl rfl) fun a S => ?_
       refine lx_buildSlice (r := (rInt .i64)) (xs := [(W (x338 + ((W (x343 + x338)).tmod (2 : Int))))]) (ps := [(0, [(.int .i64 (W (x338 + ((W (x343 + x338)).tmod (2 : Int)))))])]) (cs := [(.int .i64 (W (x338 + ((W (x343 + x338)).tmod (2 : Int)))))]) (parts := [(0, .tmp 58)]) S trivial (by decide) rfl (H.put0 (A := eA) rfl) rfl Try.underlying23 Try.sizeOf2 Try.zeroValue2 (by decide) ⟨rfl, rfl, Nat.le_of_ble_eq_true rfl, trivial⟩ (by intro zs hz; exact fill_dense hz ⟨rfl, trivial⟩ rfl rfl) rfl (by decide) (fun w F hA => by cases (show F = [] from hA); exact ⟨_, _, [(.int .i64 (W (x338 + ((W (x343 + x338)).tmod (2 : Int)))))], _, rfl, rfl, ⟨rfl, rfl⟩, ⟨rfl, rfl⟩⟩) (fun v348 w349 H => ⟨trivial, fun a S => ?_⟩)
       obtain ⟨x351, e352, hm⟩ := bind_some hm
       obtain ⟨hle, hap⟩ := app_some e352
       replace hap := hap.symm
       subst hap
       have H : Heap w0 [oA (rList (rInt .i64)) v348 [(W (x338 + ((W (x343 + x338)).tmod (2 : Int))))], oA (rList (rInt .i64)) v99 xs100, oA (rList (rInt .i64)) v152 xs153] w349 := H.front 0 rfl
       have H : Heap w0 [oA (rList (rInt .i64)) v152 xs153, oA (rList (rInt .i64)) v348 [(W (x338 + ((W (x343 + x338)).tmod (2 : Int))))], oA (rList (rInt .i64)) v99 xs100] w349 := H.front 2 rfl
       refine lx_appendOwn (r := (rInt .i64)) S trivial (by decide) rfl H rfl rfl Try.underlying23 Try.ti2 rfl rfl rfl (Nat.le_of_ble_eq_true rfl) (by decide) hle (fun v353 w354 H => ⟨trivial, fun a S => ?_⟩)
       refine lq v353 S (q_assign rfl) fun a S => ?_
       refine lx_nil ?_
       refine inBlock_norm ?_
       have H : Heap w0 [oA (rList (rInt .i64)) v99 xs100, oA (rList (rInt .i64)) v353 (xs153 ++ [(W (x338 + ((W (x343 + x338)).tmod (2 : Int))))])] w354 := H.front 1 rfl
       exact ⟨(xs153 ++ [(W (x338 + ((W (x343 + x338)).tmod (2 : Int))))]), v353, S.sub ⟨rfl, rfl, rfl, rfl, trivial⟩, H, hm⟩
    ·have hm := ite_f hc318 hm
     refine wp_exit ?_
     refine then_exit ?_
     refine then_exit ?_
     refine inBlock_exit ?_
     obtain rfl := it_brk hm hc317
     exact ⟨xs153, v152, S.sub ⟨rfl, rfl, rfl, trivial⟩, H, rfl⟩
  ·skip
   refine loop_ghost (fun n a w => ∃ (xs69 : List Int) (x71 : Int) (v68 : Value), Slots a 84 [(0, p0), (4, v68), (5, (.int .i64 x71))] ∧ Heap w0 [oA (rList (rInt .i64)) v68 xs69] w ∧ iter f104 n (xs69, x71) = some res102) _ ⟨([] : List Int), (0 : Int), v38, S.sub ⟨rfl, rfl, rfl, trivial⟩, H, hit103⟩ ?_
   rintro n a w ⟨xs69, x71, v68, S, H, hit103⟩
   obtain ⟨m356, o357, rfl, hm, hc358⟩ := iter_step hit103
   rw [hf105] at hm
   refine wp_seq (wp_seq (region_plain ?_))
   refine lq (.int .i64 x71) S (q_move rfl) fun a S => ?_
   refine lq p0 S (q_move rfl) fun a S => ?_
   refine lq (.int .i64 (a0.length : Int)) S (q_lenSl rfl (h0).isSl rfl Try.underlying26) fun a S => ?_
   refine lq (.bool (decide (x71 < (a0.length : Int)))) S (q_lss rfl rfl) fun a S => ?_
   refine lx_nil (thenN ?_)
   refine cond_b S rfl (fun hc359 => ?_) (fun hc359 => ?_)
   ·have hm := ite_t hc359 hm
    refine wp_skip (thenN ?_)
    refine wp_seq ?_
    refine wp_block ?_
    refine region_plain ?_
    refine lq v68 S (q_move rfl) fun a S => ?_
    refine lq p0 S (q_move rfl) fun a S => ?_
    refine lq (.int .i64 x71) S (q_move rfl) fun a S => ?_
    obtain ⟨x360, e361, hm⟩ := bind_some hm
    obtain ⟨c362, h363, hat364⟩ := (h0).elem (idx_some e361).2
    obtain ⟨c367, c368, rfl, h369, h370⟩ := h363
    obtain rfl := h369
    obtain ⟨c371, c372, rfl, h373, h374⟩ := h370
    obtain rfl := h373
    obtain ⟨v365, rfl, h366⟩ := rd_list h374
    have hlt := lt_of_idx (idx_some e361).2
    refine lq (ePtr p0 (x71.toNat * 3)) S (q_indexAddr rfl (h0).isSl rfl (idx_some e361).1 hlt Try.underlying26 Try.sizeOf71) fun a S => ?_
    refine lq (pAdd (ePtr p0 (x71.toNat * 3)) 1) S (q_fieldAddr' 1 2 rfl ((hat364 0 _ rfl).isP) Try.underlying71 rfl Try.sizeOf2) fun a S => ?_
    refine lx_e (.int .i64 x360.2.1) S trivial (by decide) rfl trivial (q_load1 rfl Try.isAgg2 (by rintro _ rfl; exact (At.of_add (m := 1) (j := 0) ((hat364 1 _ rfl).ext H.ext)))) (fun a S => ?_)
    obtain ⟨x377, e378, hm⟩ := bind_some hm
    refine lx_call (xs := [.tmp 21, .tmp 26]) S trivial (by decide) rfl rfl Try.call99 ((spec_l00Put_ok (H.rdAt 0 rfl)  e378).mono ?_)
    rintro e w375 ⟨v379, rfl, Hc376⟩
    have H := H.call1 Hc376
    refine ⟨_, rfl, trivial, fun a S => ?_⟩
    refine lq v379 S (q_assign rfl) fun a S => ?_
    refine lx_nil ?_
    refine inBlock_norm ?_
    refine thenN ?_
    refine region_plain ?_
    refine lq (.int .i64 x71) S (q_move rfl) fun a S => ?_
    refine lq (.int .i64 (W (x71 + (1 : Int)))) S (q_add rfl rfl) fun a S => ?_
    refine lq (.int .i64 (W (x71 + (1 : Int)))) S (q_assign rfl) fun a S => ?_
    refine lx_nil ?_
    have H : Heap w0 [oA (rList (rInt .i64)) v379 x377] w375 := H.sel [0] (by decide)
    exact ⟨m356, Nat.lt_succ_self _, x377, (W (x71 + (1 : Int))), v379, S.sub ⟨rfl, rfl, rfl, trivial⟩, H, it_cont hm hc358⟩
   ·have hm := ite_f hc359 hm
    refine wp_exit ?_
    refine then_exit ?_
    refine then_exit ?_
    refine inBlock_exit ?_
    obtain rfl := it_brk hm hc358
    exact ⟨xs69, v68, S.sub ⟨rfl, rfl, trivial⟩, H, rfl⟩

/-- impl.cloneGame -/
def impl_cloneGame_m (fuel : Nat) (a0 : (List Timpl_Vertex)) : Option ((List Timpl_Vertex)) :=
  (slices_Clone__impl_Vertex_impl_Vertex_m fuel a0).bind fun x33 => (iter (fun (s : (List (Int × Int × (Mx (List Int)))) × (Int)) => (match s with | (xs68, x69) => (if (decide (x69 < (x33.length : Int))) = true then (idx xs68 x69).bind fun x112 => (Mx.val x112.2.2).bind fun x119 => (slices_Clone__int64_int64_m fuel x119).bind fun x131 => (idx xs68 x69).bind fun x136 => some (.inl ((xs68.set x69.toNat (x136.1, x136.2.1, (Mx.own x131))), (W (x69 + (1 : Int))))) else some (.inr (.inl (xs68)))) : Option (((List (Int × Int × (Mx (List Int)))) × (Int)) ⊕ (((List (Int × Int × (Mx (List Int))))) ⊕ ((List Timpl_Vertex)))))) fuel (x33, (0 : Int))).bind fun res101 => ctl (β := (List (Int × Int × (Mx (List Int))))) (ρ := (List Timpl_Vertex)) (τ := (List Timpl_Vertex)) res101 (fun (xs100) => (allO (prodO some (prodO some Mx.mine)) xs100).bind fun ys106 => some (ys106)) (fun q => some (q))
set_option maxRecDepth 20000 in
theorem impl_cloneGame_ok {w0 : World} {fuel : Nat} {p0 : Value} {a0 : (List Timpl_Vertex)} {r : (List Timpl_Vertex)} (h0 : Rd (rList Rimpl_Vertex) w0 p0 a0) (hm : impl_cloneGame_m fuel a0 = some r) :
  Calls Try.prog 102 #[p0] w0 fun e w => ∃ (v0 : Value), e = .returned (v0) ∧ Heap w0 [oA (rList Rimpl_Vertex) v0 r] w := by
 unfold impl_cloneGame_m at hm
 have H := Heap.start w0
 refine enter (args := [p0]) Try.func102 rfl 24 rfl (Nat.le_of_ble_eq_true rfl) (fun a S => ?_)
 refine wp_seq (region_plain ?_)
 refine lq (.slice none 0 0) S (q_assign rfl) fun a S => ?_
 refine lx_nil (thenN ?_)
 refine wp_seq (region_plain ?_)
 refine lq p0 S (q_move rfl) fun a S => ?_
 obtain ⟨x33, e34, hm⟩ := bind_some hm
 refine lx_call (xs := [.tmp 5]) S trivial (by decide) rfl rfl Try.call135 ((slices_Clone__impl_Vertex_impl_Vertex_ok (H.arg h0) e34).mono ?_)
 rintro e w31 ⟨v35, rfl, Hc32⟩
 have H := H.call1 Hc32
 refine ⟨_, rfl, trivial, fun a S => ?_⟩
 refine lq v35 S (q_assign rfl) fun a S => ?_
 refine lx_nil (thenN ?_)
 refine wp_seq (wp_seq (region_plain ?_))
 refine lq v35 S (q_move rfl) fun a S => ?_
 refine lq (.int .i64 (x33.length : Int)) S (q_lenSl rfl (H.isSl 0 rfl) rfl Try.underlying26) fun a S => ?_
 refine lq (.int .i64 (0 : Int)) S (q_move rfl) fun a S => ?_
 refine lx_nil (thenN ?_)
 obtain ⟨res101, hit102, hk105⟩ := bind_some hm
 obtain ⟨f103, hf104, hit102⟩ := iter_name hit102
 refine block_loop (fun a w => ∃ (xs100 : List (Int × Int × (Mx (List Int)))), Slots a 24 [(3, v35)] ∧ Heap w0 [oA (rList (rProd (rInt .i64) (rProd (rInt .i64) (rMx w0 (rList (rInt .i64)))))) v35 xs100] w ∧ res101 = .inl (xs100)) ?_ ?_
 ·rintro a w ⟨xs100, S, H, rfl⟩
  have hm := ctl_inl hk105
  refine thenN ?_
  refine wp_seq (region_plain ?_)
  refine lq v35 S (q_move rfl) fun a S => ?_
  refine lq v35 S (q_assign rfl) fun a S => ?_
  refine lx_nil (thenN ?_)
  refine wp_ret ?_
  obtain ⟨ys106, ey107, hm⟩ := bind_some hm
  have H : Heap w0 [oA (rList Rimpl_Vertex) v35 ys106] w := H.mine (CvO.prod CvO.same (CvO.prod CvO.same CvO.mx)) ey107
  obtain rfl := Option.some.inj hm
  exact leave1 S rfl rfl ⟨v35, rfl, H⟩
 ·skip
  refine loop_ghost (fun n a w => ∃ (xs68 : List (Int × Int × (Mx (List Int)))) (x69 : Int), Slots a 24 [(3, v35), (8, (.int .i64 (x33.length : Int))), (9, (.int .i64 x69))] ∧ Heap w0 [oA (rList (rProd (rInt .i64) (rProd (rInt .i64) (rMx w0 (rList (rInt .i64)))))) v35 xs68] w ∧ iter f103 n (xs68, x69) = some res101) _ ⟨x33, (0 : Int), S.sub ⟨rfl, rfl, rfl, trivial⟩, H, hit102⟩ ?_
  rintro n a w ⟨xs68, x69, S, H, hit102⟩
  obtain ⟨m108, o109, rfl, hm, hc110⟩ := iter_step hit102
  rw [hf104] at hm
  refine wp_seq (region_plain ?_)
  refine lq (.bool (decide (x69 < (x33.length : Int)))) S (q_lss rfl rfl) fun a S => ?_
  refine lx_nil (thenN ?_)
  refine wp_seq ?_
  refine cond_b S rfl (fun hc111 => ?_) (fun hc111 => ?_)
  ·have hm := ite_t hc111 hm
   refine wp_skip (thenN ?_)
   refine wp_seq ?_
   refine wp_block ?_
   refine wp_seq (region_plain ?_)
   refine lq (.int .i64 x69) S (q_move rfl) fun a S => ?_
   refine lq (.int .i64 x69) S (q_assign rfl) fun a S => ?_
   refine lx_nil (thenN ?_)
   refine region_plain ?_
   refine lq v35 S (q_move rfl) fun a S => ?_
   refine lq (.int .i64 x69) S (q_move rfl) fun a S => ?_
   refine lq v35 S (q_move rfl) fun a S => ?_
   refine lq (.int .i64 x69) S (q_move rfl) fun a S => ?_
   obtain ⟨x112, e113, hm⟩ := bind_some hm
   have hlt := lt_of_idx (idx_some e113).2
   refine lq (ePtr v35 (x69.toNat * 3)) S (q_indexAddr rfl (H.isSl 0 rfl) rfl (idx_some e113).1 hlt Try.underlying26 Try.sizeOf71) fun a S => ?_
   refine lq (pAdd (ePtr v35 (x69.toNat * 3)) 2) S (q_fieldAddr' 2 23 rfl (((H.isSl 0 rfl)).ptr (lt_of_idx (idx_some e113).2) _) Try.underlying71 rfl Try.sizeOf23) fun a S => ?_
   obtain ⟨c114, h115, hat116⟩ := (H.rdAt 0 rfl).elem (idx_some e113).2
   obtain ⟨x119, e120, hm⟩ := bind_some hm
   obtain ⟨c121, c122, rfl, h123, h124⟩ := h115
   obtain rfl := h123
   obtain ⟨c125, c126, rfl, h127, h128⟩ := h124
   obtain rfl := h127
   obtain ⟨v117, rfl, h118⟩ := rd_list (mx_val h128 H.ext (Nat.le_refl _) e120)
   refine lx_e v117 S trivial (by decide) rfl trivial (q_load1 rfl Try.isAgg23 (by rintro _ rfl; exact (At.of_add (m := 2) (j := 0) (hat116 2 _ rfl)))) (fun a S => ?_)
   obtain ⟨x131, e132, hm⟩ := bind_some hm
   refine lx_call (xs := [.tmp 18]) S trivial (by decide) rfl rfl Try.call96 ((slices_Clone__int64_int64_ok (h118.ext (Ext.refl _)) e132).mono ?_)
   rintro e w129 ⟨v133, rfl, Hc130⟩
   have H := H.call1 Hc130
   refine ⟨_, rfl, trivial, fun a S => ?_⟩
   obtain ⟨x136, e137, hm⟩ := bind_some hm
   have hlt := lt_of_idx (idx_some e137).2
   refine lq (ePtr v35 (x69.toNat * 3)) S (q_indexAddr rfl (H.isSl 1 rfl) rfl (idx_some e137).1 hlt Try.underlying26 Try.sizeOf71) fun a S => ?_
   refine lq (pAdd (ePtr v35 (x69.toNat * 3)) 2) S (q_fieldAddr' 2 23 rfl (((H.isSl 1 rfl)).ptr (lt_of_idx (idx_some e137).2) _) Try.underlying71 rfl Try.sizeOf23) fun a S => ?_
   have hcl : Value.cells v133 = List.toArray [v133] := (cells_sl (H.isSl 0 rfl))
   have hon : ∀ c ∈ ([v133] : List Value), c.oneCell' = true := (List.forall_mem_cons.2 ⟨one_sl (H.isSl 0 rfl), (fun _ h => nomatch h)⟩)
   have H : Heap w0 [oA (rList (rProd (rInt .i64) (rProd (rInt .i64) (rMx w0 (rList (rInt .i64)))))) v35 xs68, oA (rList (rInt .i64)) v133 x131] w129 := H.front 1 rfl
   refine lx_storeElem (r := (rProd (rInt .i64) (rProd (rInt .i64) (rMx w0 (rList (rInt .i64)))))) (us := [v133]) (off := 2) (e' := (x136.1, x136.2.1, (Mx.own x131))) S trivial rfl H rfl rfl (idx_some e137).2 hcl Try.sizeOf23 (Nat.le_of_ble_eq_true rfl) hon (Upd.snd (off := 1) (Upd.snd (off := 0) (Upd.full rfl (fun w G hG => oA_list.1 hG)))) (fun w138 H => ⟨trivial, fun a S => ?_⟩)
   refine lx_nil ?_
   refine inBlock_norm ?_
   refine thenN ?_
   refine region_plain ?_
   refine lq (.int .i64 (W (x69 + (1 : Int)))) S (q_add rfl rfl) fun a S => ?_
   refine lq (.int .i64 (W (x69 + (1 : Int)))) S (q_move rfl) fun a S => ?_
   refine lx_nil ?_
   exact ⟨m108, Nat.lt_succ_self _, (xs68.set x69.toNat (x136.1, x136.2.1, (Mx.own x131))), (W (x69 + (1 : Int))), S.sub ⟨rfl, rfl, rfl, trivial⟩, H, it_cont hm hc110⟩
  ·have hm := ite_f hc111 hm
   refine wp_exit ?_
   refine then_exit ?_
   refine then_exit ?_
   refine inBlock_exit ?_
   obtain rfl := it_brk hm hc110
   exact ⟨xs68, S.sub ⟨rfl, trivial⟩, H, rfl⟩

/-- impl.CompressPriorities -/
def impl_CompressPriorities_m (fuel : Nat) (a0 : (List Timpl_Vertex)) : Option (((List Timpl_Vertex) × Int)) :=
  (impl_ValidGame_m fuel a0).bind fun x33 => (if (!x33) = true then some (([], (1 : Int))) else (iter (fun (s : (List Int) × (Int)) => (match s with | (xs72, x74) => (if (decide (x74 < (a0.length : Int))) = true then (idx a0 x74).bind fun x311 => (app xs72 [x311.2.1]).bind fun x333 => some (.inl (x333, (W (x74 + (1 : Int))))) else some (.inr (.inl (xs72)))) : Option (((List Int) × (Int)) ⊕ (((List Int)) ⊕ (((List Timpl_Vertex) × Int)))))) fuel ([], (0 : Int))).bind fun res110 => ctl (β := (List Int)) (ρ := ((List Timpl_Vertex) × Int)) (τ := ((List Timpl_Vertex) × Int)) res110 (fun (xs108) => (impl_sortedSet_m fuel xs108).bind fun x117 => (iter (fun (s : (List (Int × Int)) × (Int)) => (match s with | (m156, x157) => (if (decide (x157 < (x117.length : Int))) = true then join (κ := List (Int × Int) → Option (((List (Int × Int)) × (Int)) ⊕ (((List (Int × Int))) ⊕ (((List Timpl_Vertex) × Int))))) (fun (m278 : List (Int × Int)) => some (.inl (m278, (W (x157 + (1 : Int)))))) (fun K279 => (idx x117 x157).bind fun x281 => (if (x157 == (0 : Int)) = true then (K279 (mset m156 x281 (x281.tmod (2 : Int)))) else (idx x117 (W (x157 - (1 : Int)))).bind fun x288 => (if ((x281.tmod (2 : Int)) == (x288.tmod (2 : Int))) = true then (idx x117 (W (x157 - (1 : Int)))).bind fun x294 => (K279 (mset m156 x281 ((mget m156 x294).getD (0 : Int)))) else (idx x117 (W (x157 - (1 : Int)))).bind fun x300 => (K279 (mset m156 x281 (W (((mget m156 x300).getD (0 : Int)) + (1 : Int)))))))) else some (.inr (.inl (m156)))) : Option (((List (Int × Int)) × (Int)) ⊕ (((List (Int × Int))) ⊕ (((List Timpl_Vertex) × Int)))))) fuel (([] : List (Int × Int)), (0 : Int))).bind fun res190 => ctl (β := (List (Int × Int))) (ρ := ((List Timpl_Vertex) × Int)) (τ := ((List Timpl_Vertex) × Int)) res190 (fun (m189) => (impl_cloneGame_m fuel a0).bind fun x197 => (iter (fun (s : (List Timpl_Vertex) × (Int)) => (match s with | (xs223, x224) => (if (decide (x224 < (x197.length : Int))) = true then (idx xs223 x224).bind fun x256 => (idx xs223 x224).bind fun x271 => some (.inl ((xs223.set x224.toNat (x271.1, ((mget m189 x256.2.1).getD (0 : Int)), x271.2.2)), (W (x224 + (1 : Int))))) else some (.inr (.inl (xs223)))) : Option (((List Timpl_Vertex) × (Int)) ⊕ (((List Timpl_Vertex)) ⊕ (((List Timpl_Vertex) × Int)))))) fuel (x197, (0 : Int))).bind fun res247 => ctl (β := (List Timpl_Vertex)) (ρ := ((List Timpl_Vertex) × Int)) (τ := ((List Timpl_Vertex) × Int)) res247 (fun (xs246) => some ((xs246, (0 : Int)))) (fun q => some (q))) (fun q => some (q))) (fun q => some (q)))
set_option maxRecDepth 20000 in
theorem impl_CompressPriorities_ok {w0 : World} {fuel : Nat} {p0 : Value} {a0 : (List Timpl_Vertex)} {r : ((List Timpl_Vertex) × Int)} (h0 : Rd (rList Rimpl_Vertex) w0 p0 a0) (hm : impl_CompressPriorities_m fuel a0 = some r) :
  Calls Try.prog 46 #[p0] w0 fun e w => ∃ (v0 : Value), e = .returned (.tuple #[v0, .int .i64 r.2]) ∧ Heap w0 [oA (rList Rimpl_Vertex) v0 r.1] w := by
 unfold impl_CompressPriorities_m at hm
 have H := Heap.start w0
 refine enter (args := [p0]) Try.func46 rfl 94 rfl (Nat.le_of_ble_eq_true rfl) (fun a S => ?_)
 refine wp_seq (region_plain ?_)
 refine lq (.slice none 0 0) S (q_assign rfl) fun a S => ?_
 refine lq (.int .i64 (0 : Int)) S (q_assign rfl) fun a S => ?_
 refine lx_nil (thenN ?_)
 refine wp_seq (wp_seq (region_plain ?_))
 refine lq p0 S (q_move rfl) fun a S => ?_
 obtain ⟨x33, e34, hm⟩ := bind_some hm
 refine lx_call (xs := [.tmp 12]) S trivial (by decide) rfl rfl Try.call59 ((impl_ValidGame_ok (H.arg h0) e34).mono ?_)
 rintro e w31 ⟨rfl, Hc32⟩
 have H := H.call0 Hc32
 refine ⟨_, rfl, trivial, fun a S => ?_⟩
 refine lq (.bool (!x33)) S (q_not rfl) fun a S => ?_
 refine lx_nil (thenN ?_)
 refine cond_b S rfl (fun hc36 => ?_) (fun hc36 => ?_)
 ·have hm := ite_t hc36 hm
  refine wp_seq (region_plain ?_)
  refine lq (.slice none 0 0) S (q_assign rfl) fun a S => ?_
  refine lq (.int .i64 (1 : Int)) S (q_assign rfl) fun a S => ?_
  refine lx_nil (thenN ?_)
  refine wp_ret (then_ret ?_)
  obtain rfl := Option.some.inj hm
  have H : Heap w0 [oA (rList Rimpl_Vertex) (.slice none 0 0) ([] : List Timpl_Vertex)] w31 := H.nilList Rimpl_Vertex
  exact leave2 S rfl rfl rfl ⟨(.slice none 0 0), rfl, H⟩
 ·have hm := ite_f hc36 hm
  refine wp_skip (thenN ?_)
  refine wp_seq (region_plain ?_)
  refine lq (.slice none 0 0) S (q_assign rfl) fun a S => ?_
  refine lx_nil (thenN ?_)
  refine wp_seq (wp_seq (region_plain ?_))
  refine lq p0 S (q_move rfl) fun a S => ?_
  refine lq (.int .i64 (a0.length : Int)) S (q_lenSl rfl (h0).isSl rfl Try.underlying26) fun a S => ?_
  refine lq (.int .i64 (0 : Int)) S (q_move rfl) fun a S => ?_
  refine lx_nil (thenN ?_)
  obtain ⟨res110, hit111, hk114⟩ := bind_some hm
  obtain ⟨f112, hf113, hit111⟩ := iter_name hit111
  refine block_loop (fun a w => ∃ (xs108 : List Int) (v107 : Value), Slots a 94 [(0, p0), (4, v107)] ∧ Heap w0 [oA (rList (rInt .i64)) v107 xs108] w ∧ res110 = .inl (xs108)) ?_ ?_
  ·rintro a w ⟨xs108, v107, S, H, rfl⟩
   have hm := ctl_inl hk114
   refine thenN ?_
   refine wp_seq (region_plain ?_)
   refine lq v107 S (q_move rfl) fun a S => ?_
   obtain ⟨x117, e118, hm⟩ := bind_some hm
   refine lx_call (xs := [.tmp 27]) S trivial (by decide) rfl rfl Try.call101 ((impl_sortedSet_ok (H.rdAt 0 rfl) e118).mono ?_)
   rintro e w115 ⟨v119, rfl, Hc116⟩
   have H := H.call1 Hc116
   refine ⟨_, rfl, trivial, fun a S => ?_⟩
   refine lq v119 S (q_assign rfl) fun a S => ?_
   refine lx_nil (thenN ?_)
   refine wp_seq (region_plain ?_)
   refine lx_makeMap (fun n : Int => Value.int .i64 n) (fun n : Int => Value.int .i64 n) S trivial (by decide) rfl H (fun r122 w123 H => ⟨trivial, fun a S => ?_⟩)
   refine lq (.map (some r122)) S (q_assign rfl) fun a S => ?_
   refine lx_nil (thenN ?_)
   refine wp_seq (wp_seq (region_plain ?_))
   refine lq v119 S (q_move rfl) fun a S => ?_
   refine lq (.int .i64 (x117.length : Int)) S (q_lenSl rfl (H.isSl 1 rfl) rfl Try.underlying23) fun a S => ?_
   refine lq (.int .i64 (0 : Int)) S (q_move rfl) fun a S => ?_
   refine lx_nil (thenN ?_)
   obtain ⟨res190, hit191, hk194⟩ := bind_some hm
   obtain ⟨f192, hf193, hit191⟩ := iter_name hit191
   refine block_loop (fun a w => ∃ (m189 : List (Int × Int)), Slots a 94 [(0, p0), (7, (.map (some r122)))] ∧ Heap w0 [mapA (fun n : Int => Value.int .i64 n) (fun n : Int => Value.int .i64 n) r122 m189] w ∧ res190 = .inl (m189)) ?_ ?_
   ·rintro a w ⟨m189, S, H, rfl⟩
    have hm := ctl_inl hk194
    refine thenN ?_
    refine wp_seq (region_plain ?_)
    refine lq p0 S (q_move rfl) fun a S => ?_
    obtain ⟨x197, e198, hm⟩ := bind_some hm
    refine lx_call (xs := [.tmp 74]) S trivial (by decide) rfl rfl Try.call102 ((impl_cloneGame_ok (H.arg h0) e198).mono ?_)
    rintro e w195 ⟨v199, rfl, Hc196⟩
    have H := H.call1 Hc196
    refine ⟨_, rfl, trivial, fun a S => ?_⟩
    refine lq v199 S (q_assign rfl) fun a S => ?_
    refine lx_nil (thenN ?_)
    refine wp_seq (wp_seq (region_plain ?_))
    refine lq v199 S (q_move rfl) fun a S => ?_
    refine lq (.int .i64 (x197.length : Int)) S (q_lenSl rfl (H.isSl 0 rfl) rfl Try.underlying26) fun a S => ?_
    refine lq (.int .i64 (0 : Int)) S (q_move rfl) fun a S => ?_
    refine lx_nil (thenN ?_)
    obtain ⟨res247, hit248, hk251⟩ := bind_some hm
    obtain ⟨f249, hf250, hit248⟩ := iter_name hit248
    refine block_loop (fun a w => ∃ (xs246 : List Timpl_Vertex), Slots a 94 [(10, v199)] ∧ Heap w0 [oA (rList Rimpl_Vertex) v199 xs246] w ∧ res247 = .inl (xs246)) ?_ ?_
    ·rintro a w ⟨xs246, S, H, rfl⟩
     have hm := ctl_inl hk251
     refine thenN ?_
     refine wp_seq (region_plain ?_)
     refine lq v199 S (q_move rfl) fun a S => ?_
     refine lq v199 S (q_assign rfl) fun a S => ?_
     refine lq (.int .i64 (0 : Int)) S (q_assign rfl) fun a S => ?_
     refine lx_nil (thenN ?_)
     refine wp_ret ?_
     obtain rfl := Option.some.inj hm
     exact leave2 S rfl rfl rfl ⟨v199, rfl, H⟩
    ·skip
     have H : Heap w0 [mapA (fun n : Int => Value.int .i64 n) (fun n : Int => Value.int .i64 n) r122 m189, oA (rList Rimpl_Vertex) v199 x197] w195 := H.front 1 rfl
     refine loop_ghost (fun n a w => ∃ (xs223 : List Timpl_Vertex) (x224 : Int), Slots a 94 [(7, (.map (some r122))), (10, v199), (77, (.int .i64 (x197.length : Int))), (78, (.int .i64 x224))] ∧ Heap w0 [mapA (fun n : Int => Value.int .i64 n) (fun n : Int => Value.int .i64 n) r122 m189, oA (rList Rimpl_Vertex) v199 xs223] w ∧ iter f249 n (xs223, x224) = some res247) _ ⟨x197, (0 : Int), S.sub ⟨rfl, rfl, rfl, rfl, trivial⟩, H, hit248⟩ ?_
     rintro n a w ⟨xs223, x224, S, H, hit248⟩
     obtain ⟨m252, o253, rfl, hm, hc254⟩ := iter_step hit248
     rw [hf250] at hm
     refine wp_seq (region_plain ?_)
     refine lq (.bool (decide (x224 < (x197.length : Int)))) S (q_lss rfl rfl) fun a S => ?_
     refine lx_nil (thenN ?_)
     refine wp_seq ?_
     refine cond_b S rfl (fun hc255 => ?_) (fun hc255 => ?_)
     ·have hm := ite_t hc255 hm
      refine wp_skip (thenN ?_)
      refine wp_seq ?_
      refine wp_block ?_
      refine wp_seq (region_plain ?_)
      refine lq (.int .i64 x224) S (q_move rfl) fun a S => ?_
      refine lq (.int .i64 x224) S (q_assign rfl) fun a S => ?_
      refine lx_nil (thenN ?_)
      refine region_plain ?_
      refine lq v199 S (q_move rfl) fun a S => ?_
      refine lq (.int .i64 x224) S (q_move rfl) fun a S => ?_
      refine lq (.map (some r122)) S (q_move rfl) fun a S => ?_
      refine lq v199 S (q_move rfl) fun a S => ?_
      refine lq (.int .i64 x224) S (q_move rfl) fun a S => ?_
      obtain ⟨x256, e257, hm⟩ := bind_some hm
      have hlt := lt_of_idx (idx_some e257).2
      refine lq (ePtr v199 (x224.toNat * 3)) S (q_indexAddr rfl (H.isSl 1 rfl) rfl (idx_some e257).1 hlt Try.underlying26 Try.sizeOf71) fun a S => ?_
      refine lq (pAdd (ePtr v199 (x224.toNat * 3)) 1) S (q_fieldAddr' 1 2 rfl (((H.isSl 1 rfl)).ptr (lt_of_idx (idx_some e257).2) _) Try.underlying71 rfl Try.sizeOf2) fun a S => ?_
      obtain ⟨c258, h259, hat260⟩ := (H.rdAt 1 rfl).elem (idx_some e257).2
      obtain ⟨c263, c264, rfl, h265, h266⟩ := h259
      obtain rfl := h265
      obtain ⟨c267, c268, rfl, h269, h270⟩ := h266
      obtain rfl := h269
      obtain ⟨v261, rfl, h262⟩ := rd_list h270
      refine lx_e (.int .i64 x256.2.1) S trivial (by decide) rfl trivial (q_load1 rfl Try.isAgg2 (by rintro _ rfl; exact (At.of_add (m := 1) (j := 0) (hat260 1 _ rfl)))) (fun a S => ?_)
      refine lx_e (.int .i64 ((mget m189 x256.2.1).getD (0 : Int))) S trivial (by decide) rfl trivial (q_lookup1 (key := x256.2.1) (z0 := (0 : Int)) (keys_int .i64) rfl rfl Try.underlying107 Try.underlying2 Try.zeroValue2 (by rintro _ rfl; exact H.mapAt 0 rfl)) (fun a S => ?_)
      obtain ⟨x271, e272, hm⟩ := bind_some hm
      have hlt := lt_of_idx (idx_some e272).2
      refine lq (ePtr v199 (x224.toNat * 3)) S (q_indexAddr rfl (H.isSl 1 rfl) rfl (idx_some e272).1 hlt Try.underlying26 Try.sizeOf71) fun a S => ?_
      refine lq (pAdd (ePtr v199 (x224.toNat * 3)) 1) S (q_fieldAddr' 1 2 rfl (((H.isSl 1 rfl)).ptr (lt_of_idx (idx_some e272).2) _) Try.underlying71 rfl Try.sizeOf2) fun a S => ?_
      have H : Heap w0 [oA (rList Rimpl_Vertex) v199 xs223, mapA (fun n : Int => Value.int .i64 n) (fun n : Int => Value.int .i64 n) r122 m189] w := H.front 1 rfl
      refine lx_storeElem (r := Rimpl_Vertex) (us := [(.int .i64 ((mget m189 x256.2.1).getD (0 : Int)))]) (off := 1) (e' := (x271.1, ((mget m189 x256.2.1).getD (0 : Int)), x271.2.2)) S trivial rfl H.putE rfl rfl (idx_some e272).2 rfl Try.sizeOf2 (Nat.le_of_ble_eq_true rfl) (List.forall_mem_cons.2 ⟨rfl, (fun _ h => nomatch h)⟩) (Upd.snd (off := 0) (Upd.fst (off := 0) (Nat.le_of_ble_eq_true rfl) (Upd.full rfl (fun w G hG => by cases (show G = [] from hG); exact ⟨rfl, rfl⟩)))) (fun w273 H => ⟨trivial, fun a S => ?_⟩)
      refine lx_nil ?_
      refine inBlock_norm ?_
      refine thenN ?_
      refine region_plain ?_
      refine lq (.int .i64 (W (x224 + (1 : Int)))) S (q_add rfl rfl) fun a S => ?_
      refine lq (.int .i64 (W (x224 + (1 : Int)))) S (q_move rfl) fun a S => ?_
      refine lx_nil ?_
      have H : Heap w0 [mapA (fun n : Int => Value.int .i64 n) (fun n : Int => Value.int .i64 n) r122 m189, oA (rList Rimpl_Vertex) v199 (xs223.set x224.toNat (x271.1, ((mget m189 x256.2.1).getD (0 : Int)), x271.2.2))] w273 := H.front 1 rfl
      exact ⟨m252, Nat.lt_succ_self _, (xs223.set x224.toNat (x271.1, ((mget m189 x256.2.1).getD (0 : Int)), x271.2.2)), (W (x224 + (1 : Int))), S.sub ⟨rfl, rfl, rfl, rfl, trivial⟩, H, it_cont hm hc254⟩
     ·have hm := ite_f hc255 hm
      refine wp_exit ?_
      refine then_exit ?_
      refine then_exit ?_
      refine inBlock_exit ?_
      obtain rfl := it_brk hm hc254
      have H : Heap w0 [oA (rList Rimpl_Vertex) v199 xs223] w := H.sel [1] (by decide)
      exact ⟨xs223, S.sub ⟨rfl, trivial⟩, H, rfl⟩
   ·skip
    have H : Heap w0 [oA (rList (rInt .i64)) v119 x117, mapA (fun n : Int => Value.int .i64 n) (fun n : Int => Value.int .i64 n) r122 ([] : List (Int × Int)), oA (rList (rInt .i64)) v107 xs108] w123 := H.front 1 rfl
    have H : Heap w0 [oA (rList (rInt .i64)) v119 x117, mapA (fun n : Int => Value.int .i64 n) (fun n : Int => Value.int .i64 n) r122 ([] : List (Int × Int))] w123 := H.sel [0, 1] (by decide)
    refine loop_ghost (fun n a w => ∃ (m156 : List (Int × Int)) (x157 : Int), Slots a 94 [(0, p0), (4, v119), (7, (.map (some r122))), (30, v119), (31, (.int .i64 (x117.length : Int))), (32, (.int .i64 x157))] ∧ Heap w0 [oA (rList (rInt .i64)) v119 x117, mapA (fun n : Int => Value.int .i64 n) (fun n : Int => Value.int .i64 n) r122 m156] w ∧ iter f192 n (m156, x157) = some res190) _ ⟨([] : List (Int × Int)), (0 : Int), S.sub ⟨rfl, rfl, rfl, rfl, rfl, rfl, trivial⟩, H, hit191⟩ ?_
    rintro n a w ⟨m156, x157, S, H, hit191⟩
    obtain ⟨m274, o275, rfl, hm, hc276⟩ := iter_step hit191
    rw [hf193] at hm
    refine wp_seq (region_plain ?_)
    refine lq (.bool (decide (x157 < (x117.length : Int)))) S (q_lss rfl rfl) fun a S => ?_
    refine lx_nil (thenN ?_)
    refine wp_seq ?_
    refine cond_b S rfl (fun hc277 => ?_) (fun hc277 => ?_)
    ·have hm := ite_t hc277 hm
     refine wp_skip (thenN ?_)
     obtain ⟨K279, hK280, hm⟩ := join_elim hm
     refine seq_cut (fun a w => ∃ (m278 : List (Int × Int)), Slots a 94 [(0, p0), (4, v119), (7, (.map (some r122))), (30, v119), (31, (.int .i64 (x117.length : Int))), (32, (.int .i64 x157))] ∧ Heap w0 [oA (rList (rInt .i64)) v119 x117, mapA (fun n : Int => Value.int .i64 n) (fun n : Int => Value.int .i64 n) r122 m278] w ∧ K279 m278 = some o275) ?_ ?_
     ·rintro a w ⟨m278, S, H, hm⟩
      subst hK280
      refine region_plain ?_
      refine lq (.int .i64 (W (x157 + (1 : Int)))) S (q_add rfl rfl) fun a S => ?_
      refine lq (.int .i64 (W (x157 + (1 : Int)))) S (q_move rfl) fun a S => ?_
      refine lx_nil ?_
      exact ⟨m274, Nat.lt_succ_self _, m278, (W (x157 + (1 : Int))), S.sub ⟨rfl, rfl, rfl, rfl, rfl, rfl, trivial⟩, H, it_cont hm hc276⟩
     ·skip
      refine wp_block ?_
      refine wp_seq (region_plain ?_)
      refine lq (.int .i64 x157) S (q_move rfl) fun a S => ?_
      obtain ⟨x281, e282, hm⟩ := bind_some hm
      have hlt := lt_of_idx (idx_some e282).2
      refine lq (ePtr v119 (x157.toNat * 1)) S (q_indexAddr rfl (H.isSl 0 rfl) rfl (idx_some e282).1 hlt Try.underlying23 Try.sizeOf2) fun a S => ?_
      obtain ⟨c283, h284, hat285⟩ := (H.rdAt 0 rfl).elem (idx_some e282).2
      obtain rfl := h284
      refine lx_e (.int .i64 x281) S trivial (by decide) rfl trivial (q_load1 rfl Try.isAgg2 (by rintro _ rfl; exact (hat285 0 _ rfl))) (fun a S => ?_)
      refine lq (.int .i64 x157) S (q_assign rfl) fun a S => ?_
      refine lq (.int .i64 x281) S (q_assign rfl) fun a S => ?_
      refine lx_nil (thenN ?_)
      refine wp_block ?_
      refine wp_seq (region_plain ?_)
      refine lq (.int .i64 x157) S (q_move rfl) fun a S => ?_
      refine lq (.bool (x157 == (0 : Int))) S (q_eql rfl rfl) fun a S => ?_
      refine lq (.bool (x157 == (0 : Int))) S (q_assign rfl) fun a S => ?_
      refine lx_nil (thenN ?_)
      refine cond_b S rfl (fun hc286 => ?_) (fun hc286 => ?_)
      ·have hm := ite_t hc286 hm
       refine region_plain ?_
       refine lq (.map (some r122)) S (q_move rfl) fun a S => ?_
       refine lq (.int .i64 x281) S (q_move rfl) fun a S => ?_
       refine lq (.int .i64 x281) S (q_move rfl) fun a S => ?_
       refine lq (.int .i64 (x281.tmod (2 : Int))) S (q_rem rfl rfl (show (2 : Int) ≠ 0 from by decide)) fun a S => ?_
       have H : Heap w0 [mapA (fun n : Int => Value.int .i64 n) (fun n : Int => Value.int .i64 n) r122 m156, oA (rList (rInt .i64)) v119 x117] w := H.front 1 rfl
       refine lx_mapUpdate (key := x281) (val := (x281.tmod (2 : Int))) (keys_int .i64) S trivial rfl H rfl rfl rfl Try.underlying107 Try.underlying2 (fun w287 H => ⟨trivial, fun a S => ?_⟩)
       refine lx_nil ?_
       refine inBlock_norm ?_
       refine inBlock_norm ?_
       have H : Heap w0 [oA (rList (rInt .i64)) v119 x117, mapA (fun n : Int => Value.int .i64 n) (fun n : Int => Value.int .i64 n) r122 (mset m156 x281 (x281.tmod (2 : Int)))] w287 := H.front 1 rfl
       exact ⟨(mset m156 x281 (x281.tmod (2 : Int))), S.sub ⟨rfl, rfl, rfl, rfl, rfl, rfl, trivial⟩, H, hm⟩
      ·have hm := ite_f hc286 hm
       refine wp_seq (region_plain ?_)
       refine lq (.int .i64 x281) S (q_move rfl) fun a S => ?_
       refine lq (.int .i64 (x281.tmod (2 : Int))) S (q_rem rfl rfl (show (2 : Int) ≠ 0 from by decide)) fun a S => ?_
       refine lq v119 S (q_move rfl) fun a S => ?_
       refine lq (.int .i64 x157) S (q_move rfl) fun a S => ?_
       refine lq (.int .i64 (W (x157 - (1 : Int)))) S (q_sub rfl rfl) fun a S => ?_
       obtain ⟨x288, e289, hm⟩ := bind_some hm
       have hlt := lt_of_idx (idx_some e289).2
       refine lq (ePtr v119 ((W (x157 - (1 : Int))).toNat * 1)) S (q_indexAddr rfl (H.isSl 0 rfl) rfl (idx_some e289).1 hlt Try.underlying23 Try.sizeOf2) fun a S => ?_
       obtain ⟨c290, h291, hat292⟩ := (H.rdAt 0 rfl).elem (idx_some e289).2
       obtain rfl := h291
       refine lx_e (.int .i64 x288) S trivial (by decide) rfl trivial (q_load1 rfl Try.isAgg2 (by rintro _ rfl; exact (hat292 0 _ rfl))) (fun a S => ?_)
       refine lq (.int .i64 (x288.tmod (2 : Int))) S (q_rem rfl rfl (show (2 : Int) ≠ 0 from by decide)) fun a S => ?_
       refine lq (.bool ((x281.tmod (2 : Int)) == (x288.tmod (2 : Int)))) S (q_eql rfl rfl) fun a S => ?_
       refine lq (.bool ((x281.tmod (2 : Int)) == (x288.tmod (2 : Int)))) S (q_assign rfl) fun a S => ?_
       refine lx_nil (thenN ?_)
       refine cond_b S rfl (fun hc293 => ?_) (fun hc293 => ?_)
       ·have hm := ite_t hc293 hm
        refine region_plain ?_
        refine lq (.map (some r122)) S (q_move rfl) fun a S => ?_
        refine lq (.int .i64 x281) S (q_move rfl) fun a S => ?_
        refine lq (.map (some r122)) S (q_move rfl) fun a S => ?_
        refine lq v119 S (q_move rfl) fun a S => ?_
        refine lq (.int .i64 x157) S (q_move rfl) fun a S => ?_
        refine lq (.int .i64 (W (x157 - (1 : Int)))) S (q_sub rfl rfl) fun a S => ?_
        obtain ⟨x294, e295, hm⟩ := bind_some hm
        have hlt := lt_of_idx (idx_some e295).2
        refine lq (ePtr v119 ((W (x157 - (1 : Int))).toNat * 1)) S (q_indexAddr rfl (H.isSl 0 rfl) rfl (idx_some e295).1 hlt Try.underlying23 Try.sizeOf2) fun a S => ?_
        obtain ⟨c296, h297, hat298⟩ := (H.rdAt 0 rfl).elem (idx_some e295).2
        obtain rfl := h297
        refine lx_e (.int .i64 x294) S trivial (by decide) rfl trivial (q_load1 rfl Try.isAgg2 (by rintro _ rfl; exact (hat298 0 _ rfl))) (fun a S => ?_)
        refine lx_e (.int .i64 ((mget m156 x294).getD (0 : Int))) S trivial (by decide) rfl trivial (q_lookup1 (key := x294) (z0 := (0 : Int)) (keys_int .i64) rfl rfl Try.underlying107 Try.underlying2 Try.zeroValue2 (by rintro _ rfl; exact H.mapAt 1 rfl)) (fun a S => ?_)
        have H : Heap w0 [mapA (fun n : Int => Value.int .i64 n) (fun n : Int => Value.int .i64 n) r122 m156, oA (rList (rInt .i64)) v119 x117] w := H.front 1 rfl
        refine lx_mapUpdate (key := x281) (val := ((mget m156 x294).getD (0 : Int))) (keys_int .i64) S trivial rfl H rfl rfl rfl Try.underlying107 Try.underlying2 (fun w299 H => ⟨trivial, fun a S => ?_⟩)
        refine lx_nil ?_
        refine inBlock_norm ?_
        refine inBlock_norm ?_
        have H : Heap w0 [oA (rList (rInt .i64)) v119 x117, mapA (fun n : Int => Value.int .i64 n) (fun n : Int => Value.int .i64 n) r122 (mset m156 x281 ((mget m156 x294).getD (0 : Int)))] w299 := H.front 1 rfl
        exact ⟨(mset m156 x281 ((mget m156 x294).getD (0 : Int))), S.sub ⟨rfl, rfl, rfl, rfl, rfl, rfl, trivial⟩, H, hm⟩
       ·have hm := ite_f hc293 hm
        refine region_plain ?_
        refine lq (.map (some r122)) S (q_move rfl) fun a S => ?_
        refine lq (.int .i64 x281) S (q_move rfl) fun a S => ?_
        refine lq (.map (some r122)) S (q_move rfl) fun a S => ?_
        refine lq v119 S (q_move rfl) fun a S => ?_
        refine lq (.int .i64 x157) S (q_move rfl) fun a S => ?_
        refine lq (.int .i64 (W (x157 - (1 : Int)))) S (q_sub rfl rfl) fun a S => ?_
        obtain ⟨x300, e301, hm⟩ := bind_some hm
        have hlt := lt_of_idx (idx_some e301).2
        refine lq (ePtr v119 ((W (x157 - (1 : Int))).toNat * 1)) S (q_indexAddr rfl (H.isSl 0 rfl) rfl (idx_some e301).1 hlt Try.underlying23 Try.sizeOf2) fun a S => ?_
        obtain ⟨c302, h303, hat304⟩ := (H.rdAt 0 rfl).elem (idx_some e301).2
        obtain rfl := h303
        refine lx_e (.int .i64 x300) S trivial (by decide) rfl trivial (q_load1 rfl Try.isAgg2 (by rintro _ rfl; exact (hat304 0 _ rfl))) (fun a S => ?_)
        refine lx_e (.int .i64 ((mget m156 x300).getD (0 : Int))) S trivial (by decide) rfl trivial (q_lookup1 (key := x300) (z0 := (0 : Int)) (keys_int .i64) rfl rfl Try.underlying107 Try.underlying2 Try.zeroValue2 (by rintro _ rfl; exact H.mapAt 1 rfl)) (fun a S => ?_)
        refine lq (.int .i64 (W (((mget m156 x300).getD (0 : Int)) + (1 : Int)))) S (q_add rfl rfl) fun a S => ?_
        have H : Heap w0 [mapA (fun n : Int => Value.int .i64 n) (fun n : Int => Value.int .i64 n) r122 m156, oA (rList (rInt .i64)) v119 x117] w := H.front 1 rfl
        refine lx_mapUpdate (key := x281) (val := (W (((mget m156 x300).getD (0 : Int)) + (1 : Int)))) (keys_int .i64) S trivial rfl H rfl rfl rfl Try.underlying107 Try.underlying2 (fun w305 H => ⟨trivial, fun a S => ?_⟩)
        refine lx_nil ?_
        refine inBlock_norm ?_
        refine inBlock_norm ?_
        have H : Heap w0 [oA (rList (rInt .i64)) v119 x117, mapA (fun n : Int => Value.int .i64 n) (fun n : Int => Value.int .i64 n) r122 (mset m156 x281 (W (((mget m156 x300).getD (0 : Int)) + (1 : Int))))] w305 := H.front 1 rfl
        exact ⟨(mset m156 x281 (W (((mget m156 x300).getD (0 : Int)) + (1 : Int)))), S.sub ⟨rfl, rfl, rfl, rfl, rfl, rfl, trivial⟩, H, hm⟩
    ·have hm := ite_f hc277 hm
     refine wp_exit ?_
     refine then_exit ?_
     refine then_exit ?_
     refine inBlock_exit ?_
     obtain rfl := it_brk hm hc276
     have H : Heap w0 [mapA (fun n : Int => Value.int .i64 n) (fun n : Int => Value.int .i64 n) r122 m156] w := H.sel [1] (by decide)
     exact ⟨m156, S.sub ⟨rfl, rfl, trivial⟩, H, rfl⟩
  ·skip
   have H : Heap w0 [oA (rList (rInt .i64)) (.slice none 0 0) ([] : List Int)] w31 := H.nilList (rInt .i64)
   refine loop_ghost (fun n a w => ∃ (xs72 : List Int) (x74 : Int) (v71 : Value), Slots a 94 [(0, p0), (4, v71), (15, p0), (16, (.int .i64 (a0.length : Int))), (17, (.int .i64 x74))] ∧ Heap w0 [oA (rList (rInt .i64)) v71 xs72] w ∧ iter f112 n (xs72, x74) = some res110) _ ⟨[], (0 : Int), (.slice none 0 0), S.sub ⟨rfl, rfl, rfl, rfl, rfl, trivial⟩, H, hit111⟩ ?_
   rintro n a w ⟨xs72, x74, v71, S, H, hit111⟩
   obtain ⟨m307, o308, rfl, hm, hc309⟩ := iter_step hit111
   rw [hf113] at hm
   refine wp_seq (region_plain ?_)
   refine lq (.bool (decide (x74 < (a0.length : Int)))) S (q_lss rfl rfl) fun a S => ?_
   refine lx_nil (thenN ?_)
   refine wp_seq ?_
   refine cond_b S rfl (fun hc310 => ?_) (fun hc310 => ?_)
   ·have hm := ite_t hc310 hm
    refine wp_skip (thenN ?_)
    refine wp_seq ?_
    refine wp_block ?_
    refine wp_seq (region_plain ?_)
    obtain ⟨x311, e312, hm⟩ := bind_some hm
    obtain ⟨c313, h314, hat315⟩ := (h0).elem (idx_some e312).2
    obtain ⟨c318, c319, rfl, h320, h321⟩ := h314
    obtain rfl := h320
    obtain ⟨c322, c323, rfl, h324, h325⟩ := h321
    obtain rfl := h324
    obtain ⟨v316, rfl, h317⟩ := rd_list h325
    have hlt := lt_of_idx (idx_some e312).2
    refine lq (ePtr p0 (x74.toNat * 3)) S (q_indexAddr rfl (h0).isSl rfl (idx_some e312).1 hlt Try.underlying26 Try.sizeOf71) fun a S => ?_
    refine lx_e (.agg #[(.int .i64 x311.1), (.int .i64 x311.2.1), v316]) S trivial (by decide) rfl trivial (q_loadA (cs := [(.int .i64 x311.1), (.int .i64 x311.2.1), v316]) rfl ((hat315 0 _ rfl).isP) Try.isAgg71 Try.sizeOf71 (by rintro _ rfl; exact (fun j u hu => (hat315 j u hu).ext H.ext))) (fun a S => ?_)
    refine lx_alloc S trivial (by decide) rfl H Try.zeroValue71 rfl (fun b326 w327 H => ⟨trivial, fun a S => ?_⟩)
    refine lx_storeBox (o := 0) (i := 0) (us := [(.int .i64 x311.1), (.int .i64 x311.2.1), v316]) (cs' := [(.int .i64 x311.1), (.int .i64 x311.2.1), v316]) S trivial rfl H rfl rfl rfl rfl Try.sizeOf71 (Nat.le_of_ble_eq_true rfl) (List.forall_mem_cons.2 ⟨rfl, (List.forall_mem_cons.2 ⟨rfl, (List.forall_mem_cons.2 ⟨one_sl (h317).isSl, (fun _ h => nomatch h)⟩)⟩)⟩) rfl (fun w329 H => ⟨trivial, fun a S => ?_⟩)
    change Heap w0 [bA b326 [(.int .i64 x311.1), (.int .i64 x311.2.1), v316] 71, oA (rList (rInt .i64)) v71 xs72] w329 at H
    refine lx_nil (thenN ?_)
    refine region_plain ?_
    refine lq v71 S (q_move rfl) fun a S => ?_
    refine lq (pAdd (bp b326) 1) S (q_fieldAddr' 1 2 rfl (isP_bp _) Try.underlying71 rfl Try.sizeOf2) fun a S => ?_
    refine lx_e (.int .i64 x311.2.1) S trivial (by decide) rfl trivial (q_load1 rfl Try.isAgg2 (by rintro _ rfl; exact (At.of_add (m := 1) (j := 0) (boxAt (i := 0) H rfl (j := 1) rfl)))) (fun a S => ?_)
    refine lx_buildSlice (r := (rInt .i64)) (xs := [x311.2.1]) (ps := [(0, [(.int .i64 x311.2.1)])]) (cs := [(.int .i64 x311.2.1)]) (parts := [(0, .tmp 23)]) S trivial (by decide) rfl (H.put0 (A := eA) rfl) rfl Try.underlying23 Try.sizeOf2 Try.zeroValue2 (by decide) ⟨rfl, rfl, Nat.le_of_ble_eq_true rfl, trivial⟩ (by intro zs hz; exact fill_dense hz ⟨rfl, trivial⟩ rfl rfl) rfl (by decide) (fun w F hA => by cases (show F = [] from hA); exact ⟨_, _, [(.int .i64 x311.2.1)], _, rfl, rfl, ⟨rfl, rfl⟩, ⟨rfl, rfl⟩⟩) (fun v330 w331 H => ⟨trivial, fun a S => ?_⟩)
    obtain ⟨x333, e334, hm⟩ := bind_some hm
    obtain ⟨hle, hap⟩ := app_some e334
    replace hap := hap.symm
    subst hap
    have H : Heap w0 [oA (rList (rInt .i64)) v330 [x311.2.1], bA b326 [(.int .i64 x311.1), (.int .i64 x311.2.1), v316] 71, oA (rList (rInt .i64)) v71 xs72] w331 := H.front 0 rfl
    have H : Heap w0 [oA (rList (rInt .i64)) v71 xs72, oA (rList (rInt .i64)) v330 [x311.2.1], bA b326 [(.int .i64 x311.1), (.int .i64 x311.2.1), v316] 71] w331 := H.front 2 rfl
    refine lx_appendOwn (r := (rInt .i64)) S trivial (by decide) rfl H rfl rfl Try.underlying23 Try.ti2 rfl rfl rfl (Nat.le_of_ble_eq_true rfl) (by decide) hle (fun v335 w336 H => ⟨trivial, fun a S => ?_⟩)
    refine lq v335 S (q_assign rfl) fun a S => ?_
    refine lx_nil ?_
    refine inBlock_norm ?_
    refine thenN ?_
    refine region_plain ?_
    refine lq (.int .i64 (W (x74 + (1 : Int)))) S (q_add rfl rfl) fun a S => ?_
    refine lq (.int .i64 (W (x74 + (1 : Int)))) S (q_move rfl) fun a S => ?_
    refine lx_nil ?_
    have H : Heap w0 [oA (rList (rInt .i64)) v335 (xs72 ++ [x311.2.1])] w336 := H.sel [0] (by decide)
    exact ⟨m307, Nat.lt_succ_self _, (xs72 ++ [x311.2.1]), (W (x74 + (1 : Int))), v335, S.sub ⟨rfl, rfl, rfl, rfl, rfl, trivial⟩, H, it_cont hm hc309⟩
   ·have hm := ite_f hc310 hm
    refine wp_exit ?_
    refine then_exit ?_
    refine then_exit ?_
    refine inBlock_exit ?_
    obtain rfl := it_brk hm hc309
    exact ⟨xs72, v71, S.sub ⟨rfl, rfl, trivial⟩, H, rfl⟩

/-- laws.FnExactCompressPriorities -/
def laws_FnExactCompressPriorities_m (fuel : Nat) (a0 : (List Tlaws_Vertex)) : Option (Bool) :=
  (laws_szVertexS_m fuel a0 (1048576 : Int)).bind fun x33 => (if (decide (x33 < (0 : Int))) = true then some (true) else (laws_toVertexS_m fuel a0).bind fun x39 => (spec_CompressPriorities_m fuel x39).bind fun x46 => (laws_toVertexS_m fuel a0).bind fun x53 => (impl_CompressPriorities_m fuel x53).bind fun x60 => (laws_eqVertexS_m fuel x60.1 x46.1).bind fun x67 => (if (!x67) = true then some true else some (x60.2 != x46.2)).bind fun t70 => (if t70 = true then some (false) else (laws_toVertexS_m fuel a0).bind fun x76 => (laws_eqVertexS_m fuel x53 x76).bind fun x83 => (if (!x83) = true then some (false) else (laws_markVertexS_m fuel x53 (1 : Int)).bind fun x89 => (if (decide (x89.1 < (0 : Int))) = true then some true else (laws_eqVertexS_m fuel x60.1 x46.1).bind fun x96 => some (!x96)).bind fun t91 => (if t91 = true then some true else some (x60.2 != x46.2)).bind fun t99 => (if t99 = true then some (false) else (laws_markVertexS_m fuel x60.1 (1 : Int)).bind fun x105 => (laws_heldVertexS_m fuel x105.2 (1 : Int)).bind fun x109 => (if (decide (x109 < (0 : Int))) = true then some (false) else (if (x109 != x105.1) = true then some (false) else (laws_toVertexS_m fuel a0).bind fun x116 => (impl_CompressPriorities_m fuel x116).bind fun x123 => (laws_eqVertexS_m fuel x123.1 x46.1).bind fun x130 => (if (!x130) = true then some true else some (x123.2 != x46.2)).bind fun t133 => (if t133 = true then some (false) else (laws_heldVertexS_m fuel x105.2 (1 : Int)).bind fun x139 => (if (decide (x139 < (0 : Int))) = true then some (false) else (if (x139 != x105.1) = true then some (false) else some (true))))))))))
set_option maxRecDepth 20000 in
theorem laws_FnExactCompressPriorities_ok {w0 : World} {fuel : Nat} {p0 : Value} {a0 : (List Tlaws_Vertex)} {r : Bool} (h0 : Rd (rList Rlaws_Vertex) w0 p0 a0) (hm : laws_FnExactCompressPriorities_m fuel a0 = some r) :
  Calls Try.prog 10 #[p0] w0 fun e w => e = .returned (.bool r) ∧ Heap w0 [] w := by
 unfold laws_FnExactCompressPriorities_m at hm
 have H := Heap.start w0
 refine enter (args := [p0]) Try.func10 rfl 96 rfl (Nat.le_of_ble_eq_true rfl) (fun a S => ?_)
 refine wp_seq (region_plain ?_)
 refine lq (.bool false) S (q_assign rfl) fun a S => ?_
 refine lx_nil (thenN ?_)
 refine wp_seq (region_plain ?_)
 refine lq (.int .i64 (1048576 : Int)) S (q_assign rfl) fun a S => ?_
 refine lx_nil (thenN ?_)
 refine wp_seq (region_plain ?_)
 refine lq p0 S (q_move rfl) fun a S => ?_
 refine lq (.int .i64 (1048576 : Int)) S (q_move rfl) fun a S => ?_
 obtain ⟨x33, e34, hm⟩ := bind_some hm
 refine lx_call (xs := [.tmp 14, .tmp 15]) S trivial (by decide) rfl rfl Try.call13 ((laws_szVertexS_ok (H.arg h0)  e34).mono ?_)
 rintro e w31 ⟨rfl, Hc32⟩
 have H := H.call0 Hc32
 refine ⟨_, rfl, trivial, fun a S => ?_⟩
 refine lq (.int .i64 x33) S (q_assign rfl) fun a S => ?_
 refine lx_nil (thenN ?_)
 refine wp_seq (wp_seq (region_plain ?_))
 refine lq (.int .i64 x33) S (q_move rfl) fun a S => ?_
 refine lq (.bool (decide (x33 < (0 : Int)))) S (q_lss rfl rfl) fun a S => ?_
 refine lx_nil (thenN ?_)
 refine cond_b S rfl (fun hc36 => ?_) (fun hc36 => ?_)
 ·have hm := ite_t hc36 hm
  refine wp_seq (region_plain ?_)
  refine lq (.bool true) S (q_assign rfl) fun a S => ?_
  refine lx_nil (thenN ?_)
  refine wp_ret (then_ret ?_)
  obtain rfl := Option.some.inj hm
  exact leave1 S rfl rfl ⟨rfl, H⟩
 ·have hm := ite_f hc36 hm
  refine wp_skip (thenN ?_)
  refine wp_seq (region_plain ?_)
  refine lq p0 S (q_move rfl) fun a S => ?_
  obtain ⟨x39, e40, hm⟩ := bind_some hm
  refine lx_call (xs := [.tmp 20]) S trivial (by decide) rfl rfl Try.call15 ((laws_toVertexS_ok (H.arg h0) e40).mono ?_)
  rintro e w37 ⟨v41, rfl, Hc38⟩
  have H := H.call1 Hc38
  refine ⟨_, rfl, trivial, fun a S => ?_⟩
  obtain ⟨x46, e47, hm⟩ := bind_some hm
  refine lx_call (xs := [.tmp 21]) S trivial (by decide) rfl rfl Try.call45 ((spec_CompressPriorities_ok (H.rdAt 0 rfl) e47).mono ?_)
  rintro e w44 ⟨v48, rfl, Hc45⟩
  have H := H.call1 Hc45
  refine ⟨_, rfl, trivial, fun a S => ?_⟩
  refine lq (.tuple #[v48, (.int .i64 x46.2)]) S (q_move rfl) fun a S => ?_
  refine lq v48 S (q_extract rfl rfl) fun a S => ?_
  refine lq (.int .i64 x46.2) S (q_extract rfl rfl) fun a S => ?_
  refine lq v48 S (q_assign rfl) fun a S => ?_
  refine lq (.int .i64 x46.2) S (q_assign rfl) fun a S => ?_
  refine lx_nil (thenN ?_)
  refine wp_seq (region_plain ?_)
  refine lq p0 S (q_move rfl) fun a S => ?_
  obtain ⟨x53, e54, hm⟩ := bind_some hm
  refine lx_call (xs := [.tmp 25]) S trivial (by decide) rfl rfl Try.call15 ((laws_toVertexS_ok (H.arg h0) e54).mono ?_)
  rintro e w51 ⟨v55, rfl, Hc52⟩
  have H := H.call1 Hc52
  refine ⟨_, rfl, trivial, fun a S => ?_⟩
  refine lq v55 S (q_assign rfl) fun a S => ?_
  refine lx_nil (thenN ?_)
  refine wp_seq (region_plain ?_)
  refine lq v55 S (q_move rfl) fun a S => ?_
  obtain ⟨x60, e61, hm⟩ := bind_some hm
  refine lx_call (xs := [.tmp 28]) S trivial (by decide) rfl rfl Try.call46 ((impl_CompressPriorities_ok (H.rdAt 0 rfl) e61).mono ?_)
  rintro e w58 ⟨v62, rfl, Hc59⟩
  have H := H.call1 Hc59
  refine ⟨_, rfl, trivial, fun a S => ?_⟩
  refine lq (.tuple #[v62, (.int .i64 x60.2)]) S (q_move rfl) fun a S => ?_
  refine lq v62 S (q_extract rfl rfl) fun a S => ?_
  refine lq (.int .i64 x60.2) S (q_extract rfl rfl) fun a S => ?_
  refine lq v62 S (q_assign rfl) fun a S => ?_
  refine lq (.int .i64 x60.2) S (q_assign rfl) fun a S => ?_
  refine lx_nil (thenN ?_)
  refine wp_seq (wp_seq (region_plain ?_))
  refine lq v62 S (q_move rfl) fun a S => ?_
  refine lq v48 S (q_move rfl) fun a S => ?_
  obtain ⟨x67, e68, hm⟩ := bind_some hm
  refine lx_call (xs := [.tmp 32, .tmp 33]) S trivial (by decide) rfl rfl Try.call18 ((laws_eqVertexS_ok (H.rdAt 0 rfl) (H.rdAt 2 rfl) e68).mono ?_)
  rintro e w65 ⟨rfl, Hc66⟩
  have H := H.call0 Hc66
  refine ⟨_, rfl, trivial, fun a S => ?_⟩
  refine lq (.bool (!x67)) S (q_not rfl) fun a S => ?_
  refine lq (.bool (!x67)) S (q_move rfl) fun a S => ?_
  obtain ⟨t70, e71, hm⟩ := bind_some hm
  refine lx_cut 4 (fun a w => Slots a 96 [(0, p0), (4, v48), (5, (.int .i64 x46.2)), (6, v55), (7, v62), (8, (.int .i64 x60.2)), (40, (.bool t70))] ∧ Heap w0 [oA (rList Rimpl_Vertex) v62 x60.1, oA (rList Rimpl_Vertex) v55 x53, oA (rList Rimpl_Vertex) v48 x46.1] w) ?_ ?_
  ·by_cases hc72 : (!x67) = true
   ·have hm := ite_t hc72 e71
    refine lx_skip S rfl rfl (isB_ne hc72) (by decide) (fun a S => ?_)
    refine lx_skip S rfl rfl (isB_ne hc72) (by decide) (fun a S => ?_)
    refine lx_skip S rfl rfl (isB_ne hc72) (by decide) (fun a S => ?_)
    refine lq (.bool true) S (q_pickT' rfl hc72 rfl) fun a S => ?_
    refine lx_nil ?_
    obtain rfl := Option.some.inj hm
    have H := H.sel [0, 1, 2] (by decide)
    exact ⟨S.sub ⟨rfl, rfl, rfl, rfl, rfl, rfl, rfl, trivial⟩, H⟩
   ·have hm := ite_f (eq_false_of_ne_true hc72) e71
    have hc72 : (!x67) = false := eq_false_of_ne_true hc72
    refine lx_q (.int .i64 x60.2) S (want_b rfl rfl hc72) (by decide) (q_move rfl) (fun a S => ?_)
    refine lx_q (.int .i64 x46.2) S (want_b rfl rfl hc72) (by decide) (q_move rfl) (fun a S => ?_)
    refine lx_q (.bool (x60.2 != x46.2)) S (want_b rfl rfl hc72) (by decide) (q_neq rfl rfl) (fun a S => ?_)
    refine lq (.bool (x60.2 != x46.2)) S (q_pickF' rfl hc72 rfl) fun a S => ?_
    refine lx_nil ?_
    obtain rfl := Option.some.inj hm
    have H := H.sel [0, 1, 2] (by decide)
    exact ⟨S.sub ⟨rfl, rfl, rfl, rfl, rfl, rfl, rfl, trivial⟩, H⟩
  ·rintro a w ⟨S, H⟩
   refine lx_nil (thenN ?_)
   refine cond_b S rfl (fun hc73 => ?_) (fun hc73 => ?_)
   ·have hm := ite_t hc73 hm
    refine wp_seq (region_plain ?_)
    refine lq (.bool false) S (q_assign rfl) fun a S => ?_
    refine lx_nil (thenN ?_)
    refine wp_ret (then_ret ?_)
    obtain rfl := Option.some.inj hm
    have H : Heap w0 [] w := H.sel [] (by decide)
    exact leave1 S rfl rfl ⟨rfl, H⟩
   ·have hm := ite_f hc73 hm
    refine wp_skip (thenN ?_)
    refine wp_seq (wp_seq (region_plain ?_))
    refine lq v55 S (q_move rfl) fun a S => ?_
    refine lq p0 S (q_move rfl) fun a S => ?_
    obtain ⟨x76, e77, hm⟩ := bind_some hm
    refine lx_call (xs := [.tmp 42]) S trivial (by decide) rfl rfl Try.call15 ((laws_toVertexS_ok (H.arg h0) e77).mono ?_)
    rintro e w74 ⟨v78, rfl, Hc75⟩
    have H := H.call1 Hc75
    refine ⟨_, rfl, trivial, fun a S => ?_⟩
    obtain ⟨x83, e84, hm⟩ := bind_some hm
    refine lx_call (xs := [.tmp 41, .tmp 43]) S trivial (by decide) rfl rfl Try.call18 ((laws_eqVertexS_ok (H.rdAt 2 rfl) (H.rdAt 0 rfl) e84).mono ?_)
    rintro e w81 ⟨rfl, Hc82⟩
    have H := H.call0 Hc82
    refine ⟨_, rfl, trivial, fun a S => ?_⟩
    refine lq (.bool (!x83)) S (q_not rfl) fun a S => ?_
    refine lx_nil (thenN ?_)
    refine cond_b S rfl (fun hc86 => ?_) (fun hc86 => ?_)
    ·have hm := ite_t hc86 hm
     refine wp_seq (region_plain ?_)
     refine lq (.bool false) S (q_assign rfl) fun a S => ?_
     refine lx_nil (thenN ?_)
     refine wp_ret (then_ret ?_)
     obtain rfl := Option.some.inj hm
     have H : Heap w0 [] w81 := H.sel [] (by decide)
     exact leave1 S rfl rfl ⟨rfl, H⟩
    ·have hm := ite_f hc86 hm
     refine wp_skip (thenN ?_)
     refine wp_seq (region_plain ?_)
     refine lq (.int .i64 (1 : Int)) S (q_assign rfl) fun a S => ?_
     refine lx_nil (thenN ?_)
     refine wp_seq (region_plain ?_)
     refine lq v55 S (q_move rfl) fun a S => ?_
     refine lq (.int .i64 (1 : Int)) S (q_move rfl) fun a S => ?_
     obtain ⟨x89, e90, hm⟩ := bind_some hm
     have H : Heap w0 [oA (rList Rimpl_Vertex) v55 x53, oA (rList Rimpl_Vertex) v78 x76, oA (rList Rimpl_Vertex) v62 x60.1, oA (rList Rimpl_Vertex) v48 x46.1] w81 := H.front 2 rfl
     refine lx_call (xs := [.tmp 46, .tmp 47]) S trivial (by decide) rfl rfl Try.call26 ((laws_markVertexS_ok H  e90).mono ?_)
     rintro e w87 ⟨rfl, H⟩
     refine ⟨_, rfl, trivial, fun a S => ?_⟩
     refine lq (.int .i64 x89.1) S (q_assign rfl) fun a S => ?_
     refine lx_nil (thenN ?_)
     refine wp_seq (wp_seq (region_plain ?_))
     refine lq (.int .i64 x89.1) S (q_move rfl) fun a S => ?_
     refine lq (.bool (decide (x89.1 < (0 : Int)))) S (q_lss rfl rfl) fun a S => ?_
     refine lq (.bool (decide (x89.1 < (0 : Int)))) S (q_move rfl) fun a S => ?_
     obtain ⟨t91, e92, hm⟩ := bind_some hm
     refine lx_cut 5 (fun a w => Slots a 96 [(0, p0), (4, v48), (5, (.int .i64 x46.2)), (7, v62), (8, (.int .i64 x60.2)), (56, (.bool t91))] ∧ Heap w0 [oA (rList Rimpl_Vertex) v62 x60.1, oA (rList Rimpl_Vertex) v48 x46.1] w) ?_ ?_
     ·by_cases hc93 : (decide (x89.1 < (0 : Int))) = true
      ·have hm := ite_t hc93 e92
       refine lx_skip S rfl rfl (isB_ne hc93) (by decide) (fun a S => ?_)
       refine lx_skip S rfl rfl (isB_ne hc93) (by decide) (fun a S => ?_)
       refine lx_skip S rfl rfl (isB_ne hc93) (by decide) (fun a S => ?_)
       refine lx_skip S rfl rfl (isB_ne hc93) (by decide) (fun a S => ?_)
       refine lq (.bool true) S (q_pickT' rfl hc93 rfl) fun a S => ?_
       refine lx_nil ?_
       obtain rfl := Option.some.inj hm
       have H := H.sel [2, 3] (by decide)
       exact ⟨S.sub ⟨rfl, rfl, rfl, rfl, rfl, rfl, trivial⟩, H⟩
      ·have hm := ite_f (eq_false_of_ne_true hc93) e92
       have hc93 : (decide (x89.1 < (0 : Int))) = false := eq_false_of_ne_true hc93
       refine lx_q v62 S (want_b rfl rfl hc93) (by decide) (q_move rfl) (fun a S => ?_)
       refine lx_q v48 S (want_b rfl rfl hc93) (by decide) (q_move rfl) (fun a S => ?_)
       obtain ⟨x96, e97, hm⟩ := bind_some hm
       refine lx_call (xs := [.tmp 52, .tmp 53]) S (want_b rfl rfl hc93) (by decide) rfl rfl Try.call18 ((laws_eqVertexS_ok (H.rdAt 2 rfl) (H.rdAt 3 rfl) e97).mono ?_)
       rintro e w94 ⟨rfl, Hc95⟩
       have H := H.call0 Hc95
       refine ⟨_, rfl, trivial, fun a S => ?_⟩
       refine lx_q (.bool (!x96)) S (want_b rfl rfl hc93) (by decide) (q_not rfl) (fun a S => ?_)
       refine lq (.bool (!x96)) S (q_pickF' rfl hc93 rfl) fun a S => ?_
       refine lx_nil ?_
       obtain rfl := Option.some.inj hm
       have H := H.sel [2, 3] (by decide)
       exact ⟨S.sub ⟨rfl, rfl, rfl, rfl, rfl, rfl, trivial⟩, H⟩
     ·rintro a w ⟨S, H⟩
      refine lq (.bool t91) S (q_move rfl) fun a S => ?_
      obtain ⟨t99, e100, hm⟩ := bind_some hm
      refine lx_cut 4 (fun a w => Slots a 96 [(0, p0), (4, v48), (5, (.int .i64 x46.2)), (7, v62), (61, (.bool t99))] ∧ Heap w0 [oA (rList Rimpl_Vertex) v62 x60.1, oA (rList Rimpl_Vertex) v48 x46.1] w) ?_ ?_
      ·by_cases hc101 : t91 = true
       ·have hm := ite_t hc101 e100
        refine lx_skip S rfl rfl (isB_ne hc101) (by decide) (fun a S => ?_)
        refine lx_skip S rfl rfl (isB_ne hc101) (by decide) (fun a S => ?_)
        refine lx_skip S rfl rfl (isB_ne hc101) (by decide) (fun a S => ?_)
        refine lq (.bool true) S (q_pickT' rfl hc101 rfl) fun a S => ?_
        refine lx_nil ?_
        obtain rfl := Option.some.inj hm
        exact ⟨S.sub ⟨rfl, rfl, rfl, rfl, rfl, trivial⟩, H⟩
       ·have hm := ite_f (eq_false_of_ne_true hc101) e100
        have hc101 : t91 = false := eq_false_of_ne_true hc101
        refine lx_q (.int .i64 x60.2) S (want_b rfl rfl hc101) (by decide) (q_move rfl) (fun a S => ?_)
        refine lx_q (.int .i64 x46.2) S (want_b rfl rfl hc101) (by decide) (q_move rfl) (fun a S => ?_)
        refine lx_q (.bool (x60.2 != x46.2)) S (want_b rfl rfl hc101) (by decide) (q_neq rfl rfl) (fun a S => ?_)
        refine lq (.bool (x60.2 != x46.2)) S (q_pickF' rfl hc101 rfl) fun a S => ?_
        refine lx_nil ?_
        obtain rfl := Option.some.inj hm
        exact ⟨S.sub ⟨rfl, rfl, rfl, rfl, rfl, trivial⟩, H⟩
      ·rintro a w ⟨S, H⟩
       refine lx_nil (thenN ?_)
       refine cond_b S rfl (fun hc102 => ?_) (fun hc102 => ?_)
       ·have hm := ite_t hc102 hm
        refine wp_seq (region_plain ?_)
        refine lq (.bool false) S (q_assign rfl) fun a S => ?_
        refine lx_nil (thenN ?_)
        refine wp_ret (then_ret ?_)
        obtain rfl := Option.some.inj hm
        have H : Heap w0 [] w := H.sel [] (by decide)
        exact leave1 S rfl rfl ⟨rfl, H⟩
       ·have hm := ite_f hc102 hm
        refine wp_skip (thenN ?_)
        refine wp_seq (region_plain ?_)
        refine lq (.int .i64 (1 : Int)) S (q_assign rfl) fun a S => ?_
        refine lx_nil (thenN ?_)
        refine wp_seq (region_plain ?_)
        refine lq v62 S (q_move rfl) fun a S => ?_
        refine lq (.int .i64 (1 : Int)) S (q_move rfl) fun a S => ?_
        obtain ⟨x105, e106, hm⟩ := bind_some hm
        refine lx_call (xs := [.tmp 62, .tmp 63]) S trivial (by decide) rfl rfl Try.call26 ((laws_markVertexS_ok H  e106).mono ?_)
        rintro e w103 ⟨rfl, H⟩
        refine ⟨_, rfl, trivial, fun a S => ?_⟩
        refine lq (.int .i64 x105.1) S (q_assign rfl) fun a S => ?_
        refine lx_nil (thenN ?_)
        refine wp_seq (region_plain ?_)
        refine lq (.int .i64 (1 : Int)) S (q_assign rfl) fun a S => ?_
        refine lx_nil (thenN ?_)
        refine wp_seq (region_plain ?_)
        refine lq v62 S (q_move rfl) fun a S => ?_
        refine lq (.int .i64 (1 : Int)) S (q_move rfl) fun a S => ?_
        obtain ⟨x109, e110, hm⟩ := bind_some hm
        refine lx_call (xs := [.tmp 65, .tmp 66]) S trivial (by decide) rfl rfl Try.call27 ((laws_heldVertexS_ok (H.rdAt 0 rfl)  e110).mono ?_)
        rintro e w107 ⟨rfl, Hc108⟩
        have H := H.call0 Hc108
        refine ⟨_, rfl, trivial, fun a S => ?_⟩
        refine lq (.int .i64 x109) S (q_assign rfl) fun a S => ?_
        refine lx_nil (thenN ?_)
        refine wp_seq (wp_seq (region_plain ?_))
        refine lq (.int .i64 x109) S (q_move rfl) fun a S => ?_
        refine lq (.bool (decide (x109 < (0 : Int)))) S (q_lss rfl rfl) fun a S => ?_
        refine lx_nil (thenN ?_)
        refine cond_b S rfl (fun hc112 => ?_) (fun hc112 => ?_)
        ·have hm := ite_t hc112 hm
         refine wp_seq (region_plain ?_)
         refine lq (.bool false) S (q_assign rfl) fun a S => ?_
         refine lx_nil (thenN ?_)
         refine wp_ret (then_ret ?_)
         obtain rfl := Option.some.inj hm
         have H : Heap w0 [] w107 := H.sel [] (by decide)
         exact leave1 S rfl rfl ⟨rfl, H⟩
        ·have hm := ite_f hc112 hm
         refine wp_skip (thenN ?_)
         refine wp_seq (wp_seq (region_plain ?_))
         refine lq (.int .i64 x109) S (q_move rfl) fun a S => ?_
         refine lq (.int .i64 x105.1) S (q_move rfl) fun a S => ?_
         refine lq (.bool (x109 != x105.1)) S (q_neq rfl rfl) fun a S => ?_
         refine lx_nil (thenN ?_)
         refine cond_b S rfl (fun hc113 => ?_) (fun hc113 => ?_)
         ·have hm := ite_t hc113 hm
          refine wp_seq (region_plain ?_)
          refine lq (.bool false) S (q_assign rfl) fun a S => ?_
          refine lx_nil (thenN ?_)
          refine wp_ret (then_ret ?_)
          obtain rfl := Option.some.inj hm
          have H : Heap w0 [] w107 := H.sel [] (by decide)
          exact leave1 S rfl rfl ⟨rfl, H⟩
         ·have hm := ite_f hc113 hm
          refine wp_skip (thenN ?_)
          refine wp_seq (region_plain ?_)
          refine lq p0 S (q_move rfl) fun a S => ?_
          obtain ⟨x116, e117, hm⟩ := bind_some hm
          refine lx_call (xs := [.tmp 74]) S trivial (by decide) rfl rfl Try.call15 ((laws_toVertexS_ok (H.arg h0) e117).mono ?_)
          rintro e w114 ⟨v118, rfl, Hc115⟩
          have H := H.call1 Hc115
          refine ⟨_, rfl, trivial, fun a S => ?_⟩
          obtain ⟨x123, e124, hm⟩ := bind_some hm
          refine lx_call (xs := [.tmp 75]) S trivial (by decide) rfl rfl Try.call46 ((impl_CompressPriorities_ok (H.rdAt 0 rfl) e124).mono ?_)
          rintro e w121 ⟨v125, rfl, Hc122⟩
          have H := H.call1 Hc122
          refine ⟨_, rfl, trivial, fun a S => ?_⟩
          refine lq (.tuple #[v125, (.int .i64 x123.2)]) S (q_move rfl) fun a S => ?_
          refine lq v125 S (q_extract rfl rfl) fun a S => ?_
          refine lq (.int .i64 x123.2) S (q_extract rfl rfl) fun a S => ?_
          refine lq v125 S (q_assign rfl) fun a S => ?_
          refine lq (.int .i64 x123.2) S (q_assign rfl) fun a S => ?_
          refine lx_nil (thenN ?_)
          refine wp_seq (wp_seq (region_plain ?_))
          refine lq v125 S (q_move rfl) fun a S => ?_
          refine lq v48 S (q_move rfl) fun a S => ?_
          obtain ⟨x130, e131, hm⟩ := bind_some hm
          refine lx_call (xs := [.tmp 79, .tmp 80]) S trivial (by decide) rfl rfl Try.call18 ((laws_eqVertexS_ok (H.rdAt 0 rfl) (H.rdAt 3 rfl) e131).mono ?_)
          rintro e w128 ⟨rfl, Hc129⟩
          have H := H.call0 Hc129
          refine ⟨_, rfl, trivial, fun a S => ?_⟩
          refine lq (.bool (!x130)) S (q_not rfl) fun a S => ?_
          refine lq (.bool (!x130)) S (q_move rfl) fun a S => ?_
          obtain ⟨t133, e134, hm⟩ := bind_some hm
          refine lx_cut 4 (fun a w => Slots a 96 [(7, v62), (10, (.int .i64 x105.1)), (87, (.bool t133))] ∧ Heap w0 [oA (rList Rimpl_Vertex) v62 x105.2] w) ?_ ?_
          ·by_cases hc135 : (!x130) = true
           ·have hm := ite_t hc135 e134
            refine lx_skip S rfl rfl (isB_ne hc135) (by decide) (fun a S => ?_)
            refine lx_skip S rfl rfl (isB_ne hc135) (by decide) (fun a S => ?_)
            refine lx_skip S rfl rfl (isB_ne hc135) (by decide) (fun a S => ?_)
            refine lq (.bool true) S (q_pickT' rfl hc135 rfl) fun a S => ?_
            refine lx_nil ?_
            obtain rfl := Option.some.inj hm
            have H := H.sel [2] (by decide)
            exact ⟨S.sub ⟨rfl, rfl, rfl, trivial⟩, H⟩
           ·have hm := ite_f (eq_false_of_ne_true hc135) e134
            have hc135 : (!x130) = false := eq_false_of_ne_true hc135
            refine lx_q (.int .i64 x123.2) S (want_b rfl rfl hc135) (by decide) (q_move rfl) (fun a S => ?_)
            refine lx_q (.int .i64 x46.2) S (want_b rfl rfl hc135) (by decide) (q_move rfl) (fun a S => ?_)
            refine lx_q (.bool (x123.2 != x46.2)) S (want_b rfl rfl hc135) (by decide) (q_neq rfl rfl) (fun a S => ?_)
            refine lq (.bool (x123.2 != x46.2)) S (q_pickF' rfl hc135 rfl) fun a S => ?_
            refine lx_nil ?_
            obtain rfl := Option.some.inj hm
            have H := H.sel [2] (by decide)
            exact ⟨S.sub ⟨rfl, rfl, rfl, trivial⟩, H⟩
          ·rintro a w ⟨S, H⟩
           refine lx_nil (thenN ?_)
           refine cond_b S rfl (fun hc136 => ?_) (fun hc136 => ?_)
           ·have hm := ite_t hc136 hm
            refine wp_seq (region_plain ?_)
            refine lq (.bool false) S (q_assign rfl) fun a S => ?_
            refine lx_nil (thenN ?_)
            refine wp_ret (then_ret ?_)
            obtain rfl := Option.some.inj hm
            have H : Heap w0 [] w := H.sel [] (by decide)
            exact leave1 S rfl rfl ⟨rfl, H⟩
           ·have hm := ite_f hc136 hm
            refine wp_skip (thenN ?_)
            refine wp_seq (region_plain ?_)
            refine lq (.int .i64 (1 : Int)) S (q_assign rfl) fun a S => ?_
            refine lx_nil (thenN ?_)
            refine wp_seq (region_plain ?_)
            refine lq v62 S (q_move rfl) fun a S => ?_
            refine lq (.int .i64 (1 : Int)) S (q_move rfl) fun a S => ?_
            obtain ⟨x139, e140, hm⟩ := bind_some hm
            refine lx_call (xs := [.tmp 88, .tmp 89]) S trivial (by decide) rfl rfl Try.call27 ((laws_heldVertexS_ok (H.rdAt 0 rfl)  e140).mono ?_)
            rintro e w137 ⟨rfl, Hc138⟩
            have H := H.call0 Hc138
            refine ⟨_, rfl, trivial, fun a S => ?_⟩
            refine lq (.int .i64 x139) S (q_assign rfl) fun a S => ?_
            refine lx_nil (thenN ?_)
            refine wp_seq (wp_seq (region_plain ?_))
            refine lq (.int .i64 x139) S (q_move rfl) fun a S => ?_
            refine lq (.bool (decide (x139 < (0 : Int)))) S (q_lss rfl rfl) fun a S => ?_
            refine lx_nil (thenN ?_)
            refine cond_b S rfl (fun hc142 => ?_) (fun hc142 => ?_)
            ·have hm := ite_t hc142 hm
             refine wp_seq (region_plain ?_)
             refine lq (.bool false) S (q_assign rfl) fun a S => ?_
             refine lx_nil (thenN ?_)
             refine wp_ret (then_ret ?_)
             obtain rfl := Option.some.inj hm
             have H : Heap w0 [] w137 := H.sel [] (by decide)
             exact leave1 S rfl rfl ⟨rfl, H⟩
            ·have hm := ite_f hc142 hm
             refine wp_skip (thenN ?_)
             refine wp_seq (wp_seq (region_plain ?_))
             refine lq (.int .i64 x139) S (q_move rfl) fun a S => ?_
             refine lq (.int .i64 x105.1) S (q_move rfl) fun a S => ?_
             refine lq (.bool (x139 != x105.1)) S (q_neq rfl rfl) fun a S => ?_
             refine lx_nil (thenN ?_)
             refine cond_b S rfl (fun hc143 => ?_) (fun hc143 => ?_)
             ·have hm := ite_t hc143 hm
              refine wp_seq (region_plain ?_)
              refine lq (.bool false) S (q_assign rfl) fun a S => ?_
              refine lx_nil (thenN ?_)
              refine wp_ret (then_ret ?_)
              obtain rfl := Option.some.inj hm
              have H : Heap w0 [] w137 := H.sel [] (by decide)
              exact leave1 S rfl rfl ⟨rfl, H⟩
             ·have hm := ite_f hc143 hm
              refine wp_skip (thenN ?_)
              refine wp_seq (region_plain ?_)
              refine lq (.bool true) S (q_assign rfl) fun a S => ?_
              refine lx_nil (thenN ?_)
              refine wp_ret ?_
              obtain rfl := Option.some.inj hm
              have H : Heap w0 [] w137 := H.sel [] (by decide)
              exact leave1 S rfl rfl ⟨rfl, H⟩
end Go.Proofs.Ytecknjdlbmmmiaa
