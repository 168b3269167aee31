/- The model of a statement and its walk (printed by a program of this repo). -/
import Derived.Test.YtkgkfbmcnchdbaaGreatDoorF0
import Derived.Test.YtkgkfbmcnchdbaaGreatDoorF1
import Derived.Test.YtkgkfbmcnchdbaaGreatDoorF11
import Derived.Test.YtkgkfbmcnchdbaaGreatDoorF14
import Derived.Test.YtkgkfbmcnchdbaaGreatDoorF2
import Derived.Test.YtkgkfbmcnchdbaaGreatDoorF4
import Derived.Test.YtkgkfbmcnchdbaaGreatDoorF5
import Derived.Test.YtkgkfbmcnchdbaaGreatDoorF8
import Derived.Test.YtkgkfbmcnchdbaaGreatDoorF9
import Derived.Test.YtkgkfbmcnchdbaaGreatDoorGxT
import Derived.Test.YtkgkfbmcnchdbaaGreatDoorGxY
namespace Go.Proofs.YtkgkfbmcnchdbaaGreatDoor
open Go.RowKit Go.Gx

/-- spec.l11Next -/
def spec_l11Next_m (fuel : Nat) (a0 : Timpl_Lts) (a1 : Int) (a2 : Int) : Option ((List Int)) :=
  (iter (fun (s : (List Int) × (Int)) => (match s with | (xs115, x117) => (if (decide (x117 < (a0.2.2.2.length : Int))) = true then join (κ := List Int → Option (((List Int) × (Int)) ⊕ (((List Int)) ⊕ ((List Int))))) (fun (xs192 : List Int) => some (.inl (xs192, (W (x117 + (1 : Int)))))) (fun K194 => (idx a0.2.2.2 x117).bind fun x196 => (if (x196.1 == a1) = true then (idx a0.2.2.2 x117).bind fun x212 => some (x212.2.1 == a2) else some false).bind fun t209 => (if t209 = true then (idx a0.2.2.2 x117).bind fun x226 => (app xs115 [x226.2.2]).bind fun x242 => (K194 x242) else (K194 xs115))) else some (.inr (.inl (xs115)))) : Option (((List Int) × (Int)) ⊕ (((List Int)) ⊕ ((List Int)))))) fuel (([] : List Int), (0 : Int))).bind fun res182 => ctl (β := (List Int)) (ρ := (List Int)) (τ := (List Int)) res182 (fun (xs180) => some (xs180)) (fun q => some (q))
set_option maxRecDepth 20000 in
theorem spec_l11Next_ok {w0 : World} {fuel : Nat} {p0 : Value} {a0 : Timpl_Lts} {a1 : Int} {a2 : Int} {r : (List Int)} (h0 : Rd (rPtr Rimpl_Lts) w0 p0 a0) (hm : spec_l11Next_m fuel a0 a1 a2 = some r) :
  Calls Tryz.prog 107 #[p0, .int .i64 a1, .int .i64 a2] w0 fun e w => ∃ (v0 : Value), e = .returned (v0) ∧ Heap w0 [oA (rList (rInt .i64)) v0 r] w := by
 unfold spec_l11Next_m at hm
 have H := Heap.start w0
 obtain ⟨c31, h32, hat33⟩ := h0.ptr
 obtain ⟨c38, c39, rfl, h40, h41⟩ := h32
 obtain rfl := h40
 obtain ⟨c42, c43, rfl, h44, h45⟩ := h41
 obtain rfl := h44
 obtain ⟨c46, c47, rfl, h48, h49⟩ := h45
 obtain ⟨v34, rfl, h35⟩ := rd_list h48
 obtain ⟨v36, rfl, h37⟩ := rd_list h49
 refine enter (args := [p0, .int .i64 a1, .int .i64 a2]) Tryz.func107 rfl 53 rfl (Nat.le_of_ble_eq_true rfl) (fun a S => ?_)
 refine wp_seq (region_plain ?_)
 refine lq (.slice none 0 0) S (q_assign rfl) fun a S => ?_
 refine lx_nil (thenN ?_)
 refine wp_seq (region_plain ?_)
 refine lx_buildSlice0 (r := (rInt .i64)) S trivial (by decide) rfl H Tryz.underlying34 Tryz.sizeOf2 (fun v50 w51 H => ⟨trivial, fun a S => ?_⟩)
 refine lq v50 S (q_assign rfl) fun a S => ?_
 refine lx_nil (thenN ?_)
 refine wp_seq (wp_seq (region_plain ?_))
 refine lq (.int .i64 (0 : Int)) S (q_assign rfl) fun a S => ?_
 refine lx_nil (thenN ?_)
 obtain ⟨res182, hit183, hk186⟩ := bind_some hm
 obtain ⟨f184, hf185, hit183⟩ := iter_name hit183
 refine block_loop (fun a w => ∃ (xs180 : List Int) (v179 : Value), Slots a 53 [(7, v179)] ∧ Heap w0 [oA (rList (rInt .i64)) v179 xs180] w ∧ res182 = .inl (xs180)) ?_ ?_
 ·rintro a w ⟨xs180, v179, S, H, rfl⟩
  have hm := ctl_inl hk186
  refine thenN ?_
  refine wp_seq (region_plain ?_)
  refine lq v179 S (q_move rfl) fun a S => ?_
  refine lq v179 S (q_assign rfl) fun a S => ?_
  refine lx_nil (thenN ?_)
  refine wp_ret ?_
  obtain rfl := Option.some.inj hm
  exact leave1 S rfl rfl ⟨v179, rfl, H⟩
 ·skip
  refine loop_ghost (fun n a w => ∃ (xs115 : List Int) (x117 : Int) (v114 : Value), Slots a 53 [(0, p0), (1, (.int .i64 a1)), (2, (.int .i64 a2)), (7, v114), (8, (.int .i64 x117))] ∧ Heap w0 [oA (rList (rInt .i64)) v114 xs115] w ∧ iter f184 n (xs115, x117) = some res182) _ ⟨([] : List Int), (0 : Int), v50, S.sub ⟨rfl, rfl, rfl, rfl, rfl, trivial⟩, H, hit183⟩ ?_
  rintro n a w ⟨xs115, x117, v114, S, H, hit183⟩
  obtain ⟨m187, o188, rfl, hm, hc189⟩ := iter_step hit183
  rw [hf185] at hm
  refine wp_seq (wp_seq (region_plain ?_))
  refine lq (.int .i64 x117) S (q_move rfl) fun a S => ?_
  refine lq p0 S (q_move rfl) fun a S => ?_
  refine lq p0 S (q_nilCheck rfl ((hat33 0 _ rfl).isP)) fun a S => ?_
  refine lq (pAdd p0 3) S (q_fieldAddr' 3 28 rfl ((hat33 0 _ rfl).isP) Tryz.underlying30 rfl Tryz.sizeOf28) fun a S => ?_
  refine lx_e v36 S trivial (by decide) rfl trivial (q_load1 rfl Tryz.isAgg28 (by rintro _ rfl; exact (At.of_add (m := 3) (j := 0) ((hat33 3 _ rfl).ext H.ext)))) (fun a S => ?_)
  refine lq (.int .i64 (a0.2.2.2.length : Int)) S (q_lenSl rfl (h37).isSl rfl Tryz.underlying28) fun a S => ?_
  refine lq (.bool (decide (x117 < (a0.2.2.2.length : Int)))) S (q_lss rfl rfl) fun a S => ?_
  refine lx_nil (thenN ?_)
  refine cond_b S rfl (fun hc190 => ?_) (fun hc190 => ?_)
  ·have hm := ite_t hc190 hm
   refine wp_skip (thenN ?_)
   obtain ⟨K194, hK195, hm⟩ := join_elim hm
   refine seq_cut (fun a w => ∃ (xs192 : List Int) (v191 : Value), Slots a 53 [(0, p0), (1, (.int .i64 a1)), (2, (.int .i64 a2)), (7, v191), (8, (.int .i64 x117))] ∧ Heap w0 [oA (rList (rInt .i64)) v191 xs192] w ∧ K194 xs192 = some o188) ?_ ?_
   ·rintro a w ⟨xs192, v191, S, H, hm⟩
    subst hK195
    refine region_plain ?_
    refine lq (.int .i64 x117) S (q_move rfl) fun a S => ?_
    refine lq (.int .i64 (W (x117 + (1 : Int)))) S (q_add rfl rfl) fun a S => ?_
    refine lq (.int .i64 (W (x117 + (1 : Int)))) S (q_assign rfl) fun a S => ?_
    refine lx_nil ?_
    exact ⟨m187, Nat.lt_succ_self _, xs192, (W (x117 + (1 : Int))), v191, S.sub ⟨rfl, rfl, rfl, rfl, rfl, trivial⟩, H, it_cont hm hc189⟩
   ·skip
    refine wp_block ?_
    refine wp_seq (region_plain ?_)
    refine lq p0 S (q_move rfl) fun a S => ?_
    refine lq p0 S (q_nilCheck rfl ((hat33 0 _ rfl).isP)) fun a S => ?_
    refine lq (pAdd p0 3) S (q_fieldAddr' 3 28 rfl ((hat33 0 _ rfl).isP) Tryz.underlying30 rfl Tryz.sizeOf28) fun a S => ?_
    refine lx_e v36 S trivial (by decide) rfl trivial (q_load1 rfl Tryz.isAgg28 (by rintro _ rfl; exact (At.of_add (m := 3) (j := 0) ((hat33 3 _ rfl).ext H.ext)))) (fun a S => ?_)
    refine lq (.int .i64 x117) S (q_move rfl) fun a S => ?_
    obtain ⟨x196, e197, hm⟩ := bind_some hm
    obtain ⟨c198, h199, hat200⟩ := (h37).elem (idx_some e197).2
    obtain ⟨c201, c202, rfl, h203, h204⟩ := h199
    obtain rfl := h203
    obtain ⟨c205, c206, rfl, h207, h208⟩ := h204
    obtain rfl := h207
    obtain rfl := h208
    have hlt := lt_of_idx (idx_some e197).2
    refine lq (ePtr v36 (x117.toNat * 3)) S (q_indexAddr rfl (h37).isSl rfl (idx_some e197).1 hlt Tryz.underlying28 Tryz.sizeOf72) fun a S => ?_
    refine lq (pAdd (ePtr v36 (x117.toNat * 3)) 0) S (q_fieldAddr' 0 2 rfl ((hat200 0 _ rfl).isP) Tryz.underlying72 rfl Tryz.sizeOf2) fun a S => ?_
    refine lx_e (.int .i64 x196.1) S trivial (by decide) rfl trivial (q_load1 rfl Tryz.isAgg2 (by rintro _ rfl; exact (At.of_add (m := 0) (j := 0) ((hat200 0 _ rfl).ext H.ext)))) (fun a S => ?_)
    refine lq (.int .i64 a1) S (q_move rfl) fun a S => ?_
    refine lq (.bool (x196.1 == a1)) S (q_eql rfl rfl) fun a S => ?_
    refine lq (.bool (x196.1 == a1)) S (q_move rfl) fun a S => ?_
    obtain ⟨t209, e210, hm⟩ := bind_some hm
    refine lx_cut 11 (fun a w => Slots a 53 [(0, p0), (1, (.int .i64 a1)), (2, (.int .i64 a2)), (7, v114), (8, (.int .i64 x117)), (40, (.bool t209))] ∧ Heap w0 [oA (rList (rInt .i64)) v114 xs115] w) ?_ ?_
    ·by_cases hc211 : (x196.1 == a1) = true
     ·have hm := ite_t hc211 e210
      refine lx_q p0 S (want_b rfl rfl hc211) (by decide) (q_move rfl) (fun a S => ?_)
      refine lx_q p0 S (want_b rfl rfl hc211) (by decide) (q_nilCheck rfl ((hat33 0 _ rfl).isP)) (fun a S => ?_)
      refine lx_q (pAdd p0 3) S (want_b rfl rfl hc211) (by decide) (q_fieldAddr' 3 28 rfl ((hat33 0 _ rfl).isP) Tryz.underlying30 rfl Tryz.sizeOf28) (fun a S => ?_)
      refine lx_e v36 S (want_b rfl rfl hc211) (by decide) rfl trivial (q_load1 rfl Tryz.isAgg28 (by rintro _ rfl; exact (At.of_add (m := 3) (j := 0) ((hat33 3 _ rfl).ext H.ext)))) (fun a S => ?_)
      refine lx_q (.int .i64 x117) S (want_b rfl rfl hc211) (by decide) (q_move rfl) (fun a S => ?_)
      obtain ⟨x212, e213, hm⟩ := bind_some hm
      obtain ⟨c214, h215, hat216⟩ := (h37).elem (idx_some e213).2
      obtain ⟨c217, c218, rfl, h219, h220⟩ := h215
      obtain rfl := h219
      obtain ⟨c221, c222, rfl, h223, h224⟩ := h220
      obtain rfl := h223
      obtain rfl := h224
      have hlt := lt_of_idx (idx_some e213).2
      refine lx_q (ePtr v36 (x117.toNat * 3)) S (want_b rfl rfl hc211) (by decide) (q_indexAddr rfl (h37).isSl rfl (idx_some e213).1 hlt Tryz.underlying28 Tryz.sizeOf72) (fun a S => ?_)
      refine lx_q (pAdd (ePtr v36 (x117.toNat * 3)) 1) S (want_b rfl rfl hc211) (by decide) (q_fieldAddr' 1 2 rfl ((hat216 0 _ rfl).isP) Tryz.underlying72 rfl Tryz.sizeOf2) (fun a S => ?_)
      refine lx_e (.int .i64 x212.2.1) S (want_b rfl rfl hc211) (by decide) rfl trivial (q_load1 rfl Tryz.isAgg2 (by rintro _ rfl; exact (At.of_add (m := 1) (j := 0) ((hat216 1 _ rfl).ext H.ext)))) (fun a S => ?_)
      refine lx_q (.int .i64 a2) S (want_b rfl rfl hc211) (by decide) (q_move rfl) (fun a S => ?_)
      refine lx_q (.bool (x212.2.1 == a2)) S (want_b rfl rfl hc211) (by decide) (q_eql rfl rfl) (fun a S => ?_)
      refine lq (.bool (x212.2.1 == a2)) S (q_pickT' rfl hc211 rfl) fun a S => ?_
      refine lx_nil ?_
      obtain rfl := Option.some.inj hm
      exact ⟨S.sub ⟨rfl, rfl, rfl, rfl, rfl, rfl, trivial⟩, H⟩
     ·have hm := ite_f (eq_false_of_ne_true hc211) e210
      have hc211 : (x196.1 == a1) = false := eq_false_of_ne_true hc211
      refine lx_skip S rfl rfl (isB_ne hc211) (by decide) (fun a S => ?_)
      refine lx_skip S rfl rfl (isB_ne hc211) (by decide) (fun a S => ?_)
      refine lx_skip S rfl rfl (isB_ne hc211) (by decide) (fun a S => ?_)
      refine lx_skip S rfl rfl (isB_ne hc211) (by decide) (fun a S => ?_)
      refine lx_skip S rfl rfl (isB_ne hc211) (by decide) (fun a S => ?_)
      refine lx_skip S rfl rfl (isB_ne hc211) (by decide) (fun a S => ?_)
      refine lx_skip S rfl rfl (isB_ne hc211) (by decide) (fun a S => ?_)
      refine lx_skip S rfl rfl (isB_ne hc211) (by decide) (fun a S => ?_)
      refine lx_skip S rfl rfl (isB_ne hc211) (by decide) (fun a S => ?_)
      refine lx_skip S rfl rfl (isB_ne hc211) (by decide) (fun a S => ?_)
      refine lq (.bool false) S (q_pickF' rfl hc211 rfl) fun a S => ?_
      refine lx_nil ?_
      obtain rfl := Option.some.inj hm
      exact ⟨S.sub ⟨rfl, rfl, rfl, rfl, rfl, rfl, trivial⟩, H⟩
    ·rintro a w ⟨S, H⟩
     refine lx_nil (thenN ?_)
     refine cond_b S rfl (fun hc225 => ?_) (fun hc225 => ?_)
     ·have hm := ite_t hc225 hm
      refine region_plain ?_
      refine lq v114 S (q_move rfl) fun a S => ?_
      refine lq p0 S (q_move rfl) fun a S => ?_
      refine lq p0 S (q_nilCheck rfl ((hat33 0 _ rfl).isP)) fun a S => ?_
      refine lq (pAdd p0 3) S (q_fieldAddr' 3 28 rfl ((hat33 0 _ rfl).isP) Tryz.underlying30 rfl Tryz.sizeOf28) fun a S => ?_
      refine lx_e v36 S trivial (by decide) rfl trivial (q_load1 rfl Tryz.isAgg28 (by rintro _ rfl; exact (At.of_add (m := 3) (j := 0) ((hat33 3 _ rfl).ext H.ext)))) (fun a S => ?_)
      refine lq (.int .i64 x117) S (q_move rfl) fun a S => ?_
      obtain ⟨x226, e227, hm⟩ := bind_some hm
      obtain ⟨c228, h229, hat230⟩ := (h37).elem (idx_some e227).2
      obtain ⟨c231, c232, rfl, h233, h234⟩ := h229
      obtain rfl := h233
      obtain ⟨c235, c236, rfl, h237, h238⟩ := h234
      obtain rfl := h237
      obtain rfl := h238
      have hlt := lt_of_idx (idx_some e227).2
      refine lq (ePtr v36 (x117.toNat * 3)) S (q_indexAddr rfl (h37).isSl rfl (idx_some e227).1 hlt Tryz.underlying28 Tryz.sizeOf72) fun a S => ?_
      refine lq (pAdd (ePtr v36 (x117.toNat * 3)) 2) S (q_fieldAddr' 2 2 rfl ((hat230 0 _ rfl).isP) Tryz.underlying72 rfl Tryz.sizeOf2) fun a S => ?_
      refine lx_e (.int .i64 x226.2.2) S trivial (by decide) rfl trivial (q_load1 rfl Tryz.isAgg2 (by rintro _ rfl; exact (At.of_add (m := 2) (j := 0) ((hat230 2 _ rfl).ext H.ext)))) (fun a S => ?_)
      refine lx_buildSlice (r := (rInt .i64)) (xs := [x226.2.2]) (ps := [(0, [(.int .i64 x226.2.2)])]) (cs := [(.int .i64 x226.2.2)]) (parts := [(0, .tmp 49)]) S trivial (by decide) rfl (H.put0 (A := eA) rfl) rfl Tryz.underlying34 Tryz.sizeOf2 Tryz.zeroValue2 (by decide) ⟨rfl, rfl, Nat.le_of_ble_eq_true rfl, trivial⟩ (by intro zs hz; exact fill_dense hz ⟨rfl, trivial⟩ rfl rfl) rfl (by decide) (fun w F hA => by cases (show F = [] from hA); exact ⟨_, _, [(.int .i64 x226.2.2)], _, rfl, rfl, ⟨rfl, rfl⟩, ⟨rfl, rfl⟩⟩) (fun v239 w240 H => ⟨trivial, fun a S => ?_⟩)
      obtain ⟨x242, e243, hm⟩ := bind_some hm
      obtain ⟨hle, hap⟩ := app_some e243
      replace hap := hap.symm
      subst hap
      have H : Heap w0 [oA (rList (rInt .i64)) v239 [x226.2.2], oA (rList (rInt .i64)) v114 xs115] w240 := H.front 0 rfl
      have H : Heap w0 [oA (rList (rInt .i64)) v114 xs115, oA (rList (rInt .i64)) v239 [x226.2.2]] w240 := H.front 1 rfl
      refine lx_appendOwn (r := (rInt .i64)) S trivial (by decide) rfl H rfl rfl Tryz.underlying34 Tryz.ti2 rfl rfl rfl (by decide) (by decide) hle (fun v244 w245 H => ⟨trivial, fun a S => ?_⟩)
      refine lq v244 S (q_assign rfl) fun a S => ?_
      refine lx_nil ?_
      refine inBlock_norm ?_
      exact ⟨(xs115 ++ [x226.2.2]), v244, S.sub ⟨rfl, rfl, rfl, rfl, rfl, trivial⟩, H, hm⟩
     ·have hm := ite_f hc225 hm
      refine wp_skip ?_
      refine inBlock_norm ?_
      exact ⟨xs115, v114, S.sub ⟨rfl, rfl, rfl, rfl, rfl, trivial⟩, H, hm⟩
  ·have hm := ite_f hc190 hm
   refine wp_exit ?_
   refine then_exit ?_
   refine then_exit ?_
   refine inBlock_exit ?_
   obtain rfl := it_brk hm hc189
   exact ⟨xs115, v114, S.sub ⟨rfl, trivial⟩, H, rfl⟩

/-- spec.SuccessorsOf -/
def spec_SuccessorsOf_m (fuel : Nat) (a0 : Timpl_Lts) (a1 : Int) (a2 : Str) : Option (((List Int) × Int)) :=
  (spec_l11Is_m fuel (a0.1, a0.2.1, a0.2.2.1, a0.2.2.2)).bind fun x54 => (if (!x54) = true then some (([], (1 : Int))) else (spec_l11State_m fuel (a0.1, a0.2.1, a0.2.2.1, a0.2.2.2) a1).bind fun x61 => (if (!x61) = true then some (([], (2 : Int))) else (spec_l11Find_m fuel a0.2.2.1 a2).bind fun x68 => (if (decide (x68 < (0 : Int))) = true then some (([], (3 : Int))) else (spec_l11Next_m fuel (a0.1, a0.2.1, a0.2.2.1, a0.2.2.2) a1 x68).bind fun x75 => some ((x75, (0 : Int))))))
set_option maxRecDepth 20000 in
theorem spec_SuccessorsOf_ok {w0 : World} {fuel : Nat} {p0 : Value} {a0 : Timpl_Lts} {a1 : Int} {a2 : Str} {r : ((List Int) × Int)} (h0 : Rd Rimpl_Lts w0 p0 a0) (hm : spec_SuccessorsOf_m fuel a0 a1 a2 = some r) :
  Calls Tryz.prog 55 #[p0, .int .i64 a1, sv a2] w0 fun e w => ∃ (v0 : Value), e = .returned (.tuple #[v0, .int .i64 r.2]) ∧ Heap w0 [oA (rList (rInt .i64)) v0 r.1] w := by
 unfold spec_SuccessorsOf_m at hm
 have H := Heap.start w0
 obtain ⟨c31, rfl, h32⟩ := h0
 obtain ⟨c37, c38, rfl, h39, h40⟩ := h32
 obtain rfl := h39
 obtain ⟨c41, c42, rfl, h43, h44⟩ := h40
 obtain rfl := h43
 obtain ⟨c45, c46, rfl, h47, h48⟩ := h44
 obtain ⟨v33, rfl, h34⟩ := rd_list h47
 obtain ⟨v35, rfl, h36⟩ := rd_list h48
 refine enter (args := [(.agg #[(.int .i64 a0.1), (.int .i64 a0.2.1), v33, v35]), .int .i64 a1, sv a2]) Tryz.func55 rfl 23 rfl (Nat.le_of_ble_eq_true rfl) (fun a S => ?_)
 refine wp_seq (region_plain ?_)
 refine lx_box S trivial (by decide) rfl H rfl rfl (fun b49 w50 H => ⟨trivial, fun a S => ?_⟩)
 refine lq (.slice none 0 0) S (q_assign rfl) fun a S => ?_
 refine lq (.int .i64 (0 : Int)) S (q_assign rfl) fun a S => ?_
 refine lx_nil (thenN ?_)
 refine wp_seq (wp_seq (region_plain ?_))
 obtain ⟨x54, e55, hm⟩ := bind_some hm
 refine lx_call (xs := [.tmp 3]) S trivial (by decide) rfl rfl Tryz.call70 ((spec_l11Is_ok (rdPtr_box H 0 rfl ⟨[(.int .i64 a0.1)], [(.int .i64 a0.2.1), v33, v35], rfl, rfl, ⟨[(.int .i64 a0.2.1)], [v33, v35], rfl, rfl, ⟨[v33], [v35], rfl, ((H.arg h34)).list_rd, ((H.arg h36)).list_rd⟩⟩⟩) e55).mono ?_)
 rintro e w52 ⟨rfl, Hc53⟩
 have H := H.call0 Hc53
 refine ⟨_, rfl, trivial, fun a S => ?_⟩
 refine lq (.bool (!x54)) S (q_not rfl) fun a S => ?_
 refine lx_nil (thenN ?_)
 refine cond_b S rfl (fun hc57 => ?_) (fun hc57 => ?_)
 ·have hm := ite_t hc57 hm
  refine wp_seq (region_plain ?_)
  refine lq (.slice none 0 0) S (q_assign rfl) fun a S => ?_
  refine lq (.int .i64 (1 : Int)) S (q_assign rfl) fun a S => ?_
  refine lx_nil (thenN ?_)
  refine wp_ret (then_ret ?_)
  obtain rfl := Option.some.inj hm
  have H : Heap w0 [oA (rList (rInt .i64)) (.slice none 0 0) ([] : List Int), bA b49 [(.int .i64 a0.1), (.int .i64 a0.2.1), v33, v35] 30] w52 := H.nilList (rInt .i64)
  have H : Heap w0 [oA (rList (rInt .i64)) (.slice none 0 0) ([] : List Int)] w52 := H.sel [0] (by decide)
  exact leave2 S rfl rfl rfl ⟨(.slice none 0 0), rfl, H⟩
 ·have hm := ite_f hc57 hm
  refine wp_skip (thenN ?_)
  refine wp_seq (wp_seq (region_plain ?_))
  refine lq (.int .i64 a1) S (q_move rfl) fun a S => ?_
  obtain ⟨x61, e62, hm⟩ := bind_some hm
  refine lx_call (xs := [.tmp 3, .tmp 11]) S trivial (by decide) rfl rfl Tryz.call80 ((spec_l11State_ok (rdPtr_box H 0 rfl ⟨[(.int .i64 a0.1)], [(.int .i64 a0.2.1), v33, v35], rfl, rfl, ⟨[(.int .i64 a0.2.1)], [v33, v35], rfl, rfl, ⟨[v33], [v35], rfl, ((H.arg h34)).list_rd, ((H.arg h36)).list_rd⟩⟩⟩)  e62).mono ?_)
  rintro e w59 ⟨rfl, Hc60⟩
  have H := H.call0 Hc60
  refine ⟨_, rfl, trivial, fun a S => ?_⟩
  refine lq (.bool (!x61)) S (q_not rfl) fun a S => ?_
  refine lx_nil (thenN ?_)
  refine cond_b S rfl (fun hc64 => ?_) (fun hc64 => ?_)
  ·have hm := ite_t hc64 hm
   refine wp_seq (region_plain ?_)
   refine lq (.slice none 0 0) S (q_assign rfl) fun a S => ?_
   refine lq (.int .i64 (2 : Int)) S (q_assign rfl) fun a S => ?_
   refine lx_nil (thenN ?_)
   refine wp_ret (then_ret ?_)
   obtain rfl := Option.some.inj hm
   have H : Heap w0 [oA (rList (rInt .i64)) (.slice none 0 0) ([] : List Int), bA b49 [(.int .i64 a0.1), (.int .i64 a0.2.1), v33, v35] 30] w59 := H.nilList (rInt .i64)
   have H : Heap w0 [oA (rList (rInt .i64)) (.slice none 0 0) ([] : List Int)] w59 := H.sel [0] (by decide)
   exact leave2 S rfl rfl rfl ⟨(.slice none 0 0), rfl, H⟩
  ·have hm := ite_f hc64 hm
   refine wp_skip (thenN ?_)
   refine wp_seq (region_plain ?_)
   refine lq (pAdd (bp b49) 2) S (q_fieldAddr' 2 22 rfl (isP_bp _) Tryz.underlying30 rfl Tryz.sizeOf22) fun a S => ?_
   refine lx_e v33 S trivial (by decide) rfl trivial (q_load1 rfl Tryz.isAgg22 (by rintro _ rfl; exact (At.of_add (m := 2) (j := 0) (boxAt (i := 0) H rfl (j := 2) rfl)))) (fun a S => ?_)
   refine lq (sv a2) S (q_move rfl) fun a S => ?_
   obtain ⟨x68, e69, hm⟩ := bind_some hm
   refine lx_call (xs := [.tmp 15, .tmp 16]) S trivial (by decide) rfl rfl Tryz.call106 ((spec_l11Find_ok (H.arg h34)  e69).mono ?_)
   rintro e w66 ⟨rfl, Hc67⟩
   have H := H.call0 Hc67
   refine ⟨_, rfl, trivial, fun a S => ?_⟩
   refine lq (.int .i64 x68) S (q_assign rfl) fun a S => ?_
   refine lx_nil (thenN ?_)
   refine wp_seq (wp_seq (region_plain ?_))
   refine lq (.int .i64 x68) S (q_move rfl) fun a S => ?_
   refine lq (.bool (decide (x68 < (0 : Int)))) S (q_lss rfl rfl) fun a S => ?_
   refine lx_nil (thenN ?_)
   refine cond_b S rfl (fun hc71 => ?_) (fun hc71 => ?_)
   ·have hm := ite_t hc71 hm
    refine wp_seq (region_plain ?_)
    refine lq (.slice none 0 0) S (q_assign rfl) fun a S => ?_
    refine lq (.int .i64 (3 : Int)) S (q_assign rfl) fun a S => ?_
    refine lx_nil (thenN ?_)
    refine wp_ret (then_ret ?_)
    obtain rfl := Option.some.inj hm
    have H : Heap w0 [oA (rList (rInt .i64)) (.slice none 0 0) ([] : List Int), bA b49 [(.int .i64 a0.1), (.int .i64 a0.2.1), v33, v35] 30] w66 := H.nilList (rInt .i64)
    have H : Heap w0 [oA (rList (rInt .i64)) (.slice none 0 0) ([] : List Int)] w66 := H.sel [0] (by decide)
    exact leave2 S rfl rfl rfl ⟨(.slice none 0 0), rfl, H⟩
   ·have hm := ite_f hc71 hm
    refine wp_skip (thenN ?_)
    refine wp_seq (region_plain ?_)
    refine lq (.int .i64 a1) S (q_move rfl) fun a S => ?_
    refine lq (.int .i64 x68) S (q_move rfl) fun a S => ?_
    obtain ⟨x75, e76, hm⟩ := bind_some hm
    refine lx_call (xs := [.tmp 3, .tmp 20, .tmp 21]) S trivial (by decide) rfl rfl Tryz.call107 ((spec_l11Next_ok (rdPtr_box H 0 rfl ⟨[(.int .i64 a0.1)], [(.int .i64 a0.2.1), v33, v35], rfl, rfl, ⟨[(.int .i64 a0.2.1)], [v33, v35], rfl, rfl, ⟨[v33], [v35], rfl, ((H.arg h34)).list_rd, ((H.arg h36)).list_rd⟩⟩⟩)   e76).mono ?_)
    rintro e w73 ⟨v77, rfl, Hc74⟩
    have H := H.call1 Hc74
    refine ⟨_, rfl, trivial, fun a S => ?_⟩
    refine lq v77 S (q_assign rfl) fun a S => ?_
    refine lq (.int .i64 (0 : Int)) S (q_assign rfl) fun a S => ?_
    refine lx_nil (thenN ?_)
    refine wp_ret ?_
    obtain rfl := Option.some.inj hm
    have H : Heap w0 [oA (rList (rInt .i64)) v77 x75] w73 := H.sel [0] (by decide)
    exact leave2 S rfl rfl rfl ⟨v77, rfl, H⟩

/-- impl.SuccessorsOf -/
def impl_SuccessorsOf_m (fuel : Nat) (a0 : Timpl_Lts) (a1 : Int) (a2 : Str) : Option (((List Int) × Int)) :=
  (impl_ltsCode_m fuel (a0.1, a0.2.1, a0.2.2.1, a0.2.2.2) a1).bind fun x54 => (if (x54 != (0 : Int)) = true then some (([], x54)) else (slices_Contains__string_string_m fuel a0.2.2.1 a2).bind fun x61 => (if (!x61) = true then some (([], (3 : Int))) else (impl_Lts_follow_m fuel (a0.1, a0.2.1, a0.2.2.1, a0.2.2.2) [a1] a2).bind fun x71 => some ((x71, (0 : Int)))))
set_option maxRecDepth 20000 in
theorem impl_SuccessorsOf_ok {w0 : World} {fuel : Nat} {p0 : Value} {a0 : Timpl_Lts} {a1 : Int} {a2 : Str} {r : ((List Int) × Int)} (hG : Glob Tryz.prog w0) (h0 : Rd Rimpl_Lts w0 p0 a0) (hm : impl_SuccessorsOf_m fuel a0 a1 a2 = some r) :
  Calls Tryz.prog 56 #[p0, .int .i64 a1, sv a2] w0 fun e w => ∃ (v0 : Value), e = .returned (.tuple #[v0, .int .i64 r.2]) ∧ Heap w0 [oA (rList (rInt .i64)) v0 r.1] w := by
 unfold impl_SuccessorsOf_m at hm
 have H := Heap.start w0
 obtain ⟨c31, rfl, h32⟩ := h0
 obtain ⟨c37, c38, rfl, h39, h40⟩ := h32
 obtain rfl := h39
 obtain ⟨c41, c42, rfl, h43, h44⟩ := h40
 obtain rfl := h43
 obtain ⟨c45, c46, rfl, h47, h48⟩ := h44
 obtain ⟨v33, rfl, h34⟩ := rd_list h47
 obtain ⟨v35, rfl, h36⟩ := rd_list h48
 refine enter (args := [(.agg #[(.int .i64 a0.1), (.int .i64 a0.2.1), v33, v35]), .int .i64 a1, sv a2]) Tryz.func56 rfl 25 rfl (Nat.le_of_ble_eq_true rfl) (fun a S => ?_)
 refine wp_seq (region_plain ?_)
 refine lx_box S trivial (by decide) rfl H rfl rfl (fun b49 w50 H => ⟨trivial, fun a S => ?_⟩)
 refine lq (.slice none 0 0) S (q_assign rfl) fun a S => ?_
 refine lq (.int .i64 (0 : Int)) S (q_assign rfl) fun a S => ?_
 refine lx_nil (thenN ?_)
 refine wp_seq (wp_seq (region_plain ?_))
 refine lx_e (.agg #[(.int .i64 a0.1), (.int .i64 a0.2.1), v33, v35]) S trivial (by decide) rfl trivial (q_loadA (cs := [(.int .i64 a0.1), (.int .i64 a0.2.1), v33, v35]) rfl (isP_bp _) Tryz.isAgg30 Tryz.sizeOf30 (by rintro _ rfl; exact (fun j u hu => boxAt (i := 0) H rfl hu))) (fun a S => ?_)
 refine lq (.int .i64 a1) S (q_move rfl) fun a S => ?_
 obtain ⟨x54, e55, hm⟩ := bind_some hm
 refine lx_call (xs := [.tmp 9, .tmp 10]) S trivial (by decide) rfl rfl Tryz.call82 ((impl_ltsCode_ok (hG.ext H.ext) ⟨[(.int .i64 a0.1), (.int .i64 a0.2.1), v33, v35], rfl, ⟨[(.int .i64 a0.1)], [(.int .i64 a0.2.1), v33, v35], rfl, rfl, ⟨[(.int .i64 a0.2.1)], [v33, v35], rfl, rfl, ⟨[v33], [v35], rfl, ((H.arg h34)).list_rd, ((H.arg h36)).list_rd⟩⟩⟩⟩  e55).mono ?_)
 rintro e w52 ⟨rfl, Hc53⟩
 have H := H.call0 Hc53
 refine ⟨_, rfl, trivial, fun a S => ?_⟩
 refine lq (.int .i64 x54) S (q_assign rfl) fun a S => ?_
 refine lx_nil (thenN ?_)
 refine wp_seq (region_plain ?_)
 refine lq (.int .i64 x54) S (q_move rfl) fun a S => ?_
 refine lq (.bool (x54 != (0 : Int))) S (q_neq rfl rfl) fun a S => ?_
 refine lx_nil (thenN ?_)
 refine cond_b S rfl (fun hc57 => ?_) (fun hc57 => ?_)
 ·have hm := ite_t hc57 hm
  refine wp_seq (region_plain ?_)
  refine lq (.int .i64 x54) S (q_move rfl) fun a S => ?_
  refine lq (.slice none 0 0) S (q_assign rfl) fun a S => ?_
  refine lq (.int .i64 x54) S (q_assign rfl) fun a S => ?_
  refine lx_nil (thenN ?_)
  refine wp_ret (then_ret ?_)
  obtain rfl := Option.some.inj hm
  have H : Heap w0 [oA (rList (rInt .i64)) (.slice none 0 0) ([] : List Int), bA b49 [(.int .i64 a0.1), (.int .i64 a0.2.1), v33, v35] 30] w52 := H.nilList (rInt .i64)
  have H : Heap w0 [oA (rList (rInt .i64)) (.slice none 0 0) ([] : List Int)] w52 := H.sel [0] (by decide)
  exact leave2 S rfl rfl rfl ⟨(.slice none 0 0), rfl, H⟩
 ·have hm := ite_f hc57 hm
  refine wp_skip (thenN ?_)
  refine wp_seq (wp_seq (region_plain ?_))
  refine lq (pAdd (bp b49) 2) S (q_fieldAddr' 2 22 rfl (isP_bp _) Tryz.underlying30 rfl Tryz.sizeOf22) fun a S => ?_
  refine lx_e v33 S trivial (by decide) rfl trivial (q_load1 rfl Tryz.isAgg22 (by rintro _ rfl; exact (At.of_add (m := 2) (j := 0) (boxAt (i := 0) H rfl (j := 2) rfl)))) (fun a S => ?_)
  refine lq (sv a2) S (q_move rfl) fun a S => ?_
  obtain ⟨x61, e62, hm⟩ := bind_some hm
  refine lx_call (xs := [.tmp 16, .tmp 17]) S trivial (by decide) rfl rfl Tryz.call108 ((slices_Contains__string_string_ok (H.arg h34)  e62).mono ?_)
  rintro e w59 ⟨rfl, Hc60⟩
  have H := H.call0 Hc60
  refine ⟨_, rfl, trivial, fun a S => ?_⟩
  refine lq (.bool (!x61)) S (q_not rfl) fun a S => ?_
  refine lx_nil (thenN ?_)
  refine cond_b S rfl (fun hc64 => ?_) (fun hc64 => ?_)
  ·have hm := ite_t hc64 hm
   refine wp_seq (region_plain ?_)
   refine lq (.slice none 0 0) S (q_assign rfl) fun a S => ?_
   refine lq (.int .i64 (3 : Int)) S (q_assign rfl) fun a S => ?_
   refine lx_nil (thenN ?_)
   refine wp_ret (then_ret ?_)
   obtain rfl := Option.some.inj hm
   have H : Heap w0 [oA (rList (rInt .i64)) (.slice none 0 0) ([] : List Int), bA b49 [(.int .i64 a0.1), (.int .i64 a0.2.1), v33, v35] 30] w59 := H.nilList (rInt .i64)
   have H : Heap w0 [oA (rList (rInt .i64)) (.slice none 0 0) ([] : List Int)] w59 := H.sel [0] (by decide)
   exact leave2 S rfl rfl rfl ⟨(.slice none 0 0), rfl, H⟩
  ·have hm := ite_f hc64 hm
   refine wp_skip (thenN ?_)
   refine wp_seq (region_plain ?_)
   refine lx_e (.agg #[(.int .i64 a0.1), (.int .i64 a0.2.1), v33, v35]) S trivial (by decide) rfl trivial (q_loadA (cs := [(.int .i64 a0.1), (.int .i64 a0.2.1), v33, v35]) rfl (isP_bp _) Tryz.isAgg30 Tryz.sizeOf30 (by rintro _ rfl; exact (fun j u hu => boxAt (i := 0) H rfl hu))) (fun a S => ?_)
   refine lq (.int .i64 a1) S (q_move rfl) fun a S => ?_
   refine lx_buildSlice (r := (rInt .i64)) (xs := [a1]) (ps := [(0, [(.int .i64 a1)])]) (cs := [(.int .i64 a1)]) (parts := [(0, .tmp 21)]) S trivial (by decide) rfl (H.put0 (A := eA) rfl) rfl Tryz.underlying34 Tryz.sizeOf2 Tryz.zeroValue2 (by decide) ⟨rfl, rfl, Nat.le_of_ble_eq_true rfl, trivial⟩ (by intro zs hz; exact fill_dense hz ⟨rfl, trivial⟩ rfl rfl) rfl (by decide) (fun w F hA => by cases (show F = [] from hA); exact ⟨_, _, [(.int .i64 a1)], _, rfl, rfl, ⟨rfl, rfl⟩, ⟨rfl, rfl⟩⟩) (fun v66 w67 H => ⟨trivial, fun a S => ?_⟩)
   refine lq (sv a2) S (q_move rfl) fun a S => ?_
   obtain ⟨x71, e72, hm⟩ := bind_some hm
   refine lx_call (xs := [.tmp 20, .tmp 22, .tmp 23]) S trivial (by decide) rfl rfl Tryz.call109 ((impl_Lts_follow_ok ⟨[(.int .i64 a0.1), (.int .i64 a0.2.1), v33, v35], rfl, ⟨[(.int .i64 a0.1)], [(.int .i64 a0.2.1), v33, v35], rfl, rfl, ⟨[(.int .i64 a0.2.1)], [v33, v35], rfl, rfl, ⟨[v33], [v35], rfl, ((H.arg h34)).list_rd, ((H.arg h36)).list_rd⟩⟩⟩⟩ (H.rdAt 0 rfl)  e72).mono ?_)
   rintro e w69 ⟨v73, rfl, Hc70⟩
   have H := H.call1 Hc70
   refine ⟨_, rfl, trivial, fun a S => ?_⟩
   refine lq v73 S (q_assign rfl) fun a S => ?_
   refine lq (.int .i64 (0 : Int)) S (q_assign rfl) fun a S => ?_
   refine lx_nil (thenN ?_)
   refine wp_ret ?_
   obtain rfl := Option.some.inj hm
   have H : Heap w0 [oA (rList (rInt .i64)) v73 x71] w69 := H.sel [0] (by decide)
   exact leave2 S rfl rfl rfl ⟨v73, rfl, H⟩

/-- laws.FnExactSuccessorsOf -/
def laws_FnExactSuccessorsOf_m (fuel : Nat) (a0 : Tlaws_Lts) (a1 : Int) (a2 : Str) : Option (Bool) :=
  (if (decide ((1048576 : Int) < (a2.length : Int))) = true then some (true) else (laws_szLts_m fuel (a0.1, a0.2.1, a0.2.2.1, a0.2.2.2) (1048576 : Int)).bind fun x55 => (if (decide (x55 < (0 : Int))) = true then some (true) else (laws_toLts_m fuel (a0.1, a0.2.1, a0.2.2.1, a0.2.2.2)).bind fun x61 => (spec_SuccessorsOf_m fuel (x61.1, x61.2.1, x61.2.2.1, x61.2.2.2) a1 a2).bind fun x70 => (laws_toLts_m fuel (a0.1, a0.2.1, a0.2.2.1, a0.2.2.2)).bind fun x77 => (impl_SuccessorsOf_m fuel (x77.1, x77.2.1, x77.2.2.1, x77.2.2.2) a1 a2).bind fun x90 => (laws_eqInt64S_m fuel x90.1 x70.1).bind fun x97 => (if (!x97) = true then some true else some (x90.2 != x70.2)).bind fun t100 => (if t100 = true then some (false) else (laws_toLts_m fuel (a0.1, a0.2.1, a0.2.2.1, a0.2.2.2)).bind fun x108 => (laws_eqLts_m fuel (x77.1, x77.2.1, x77.2.2.1, x77.2.2.2) (x108.1, x108.2.1, x108.2.2.1, x108.2.2.2)).bind fun x117 => (if (!x117) = true then some (false) else (laws_markLts_m fuel (x77.1, x77.2.1, x77.2.2.1, x77.2.2.2) (1 : Int)).bind fun x123 => (if (decide (x123.1 < (0 : Int))) = true then some true else (laws_eqInt64S_m fuel x90.1 x70.1).bind fun x130 => some (!x130)).bind fun t125 => (if t125 = true then some true else some (x90.2 != x70.2)).bind fun t133 => (if t133 = true then some (false) else (laws_markInt64S_m fuel x90.1 (1 : Int)).bind fun x139 => (laws_heldInt64S_m fuel x139.2 (1 : Int)).bind fun x143 => (if (decide (x143 < (0 : Int))) = true then some (false) else (if (x143 != x139.1) = true then some (false) else (laws_toLts_m fuel (a0.1, a0.2.1, a0.2.2.1, a0.2.2.2)).bind fun x150 => (impl_SuccessorsOf_m fuel (x150.1, x150.2.1, x150.2.2.1, x150.2.2.2) a1 a2).bind fun x159 => (laws_eqInt64S_m fuel x159.1 x70.1).bind fun x166 => (if (!x166) = true then some true else some (x159.2 != x70.2)).bind fun t169 => (if t169 = true then some (false) else (laws_heldInt64S_m fuel x139.2 (1 : Int)).bind fun x175 => (if (decide (x175 < (0 : Int))) = true then some (false) else (if (x175 != x139.1) = true then some (false) else some (true)))))))))))
set_option maxRecDepth 20000 in
theorem laws_FnExactSuccessorsOf_ok {w0 : World} {fuel : Nat} {p0 : Value} {a0 : Tlaws_Lts} {a1 : Int} {a2 : Str} {r : Bool} (hG : Glob Tryz.prog w0) (h0 : Rd Rlaws_Lts w0 p0 a0) (hm : laws_FnExactSuccessorsOf_m fuel a0 a1 a2 = some r) :
  Calls Tryz.prog 14 #[p0, .int .i64 a1, sv a2] w0 fun e w => e = .returned (.bool r) ∧ Heap w0 [] w := by
 unfold laws_FnExactSuccessorsOf_m at hm
 have H := Heap.start w0
 obtain ⟨c31, rfl, h32⟩ := h0
 obtain ⟨c37, c38, rfl, h39, h40⟩ := h32
 obtain rfl := h39
 obtain ⟨c41, c42, rfl, h43, h44⟩ := h40
 obtain rfl := h43
 obtain ⟨c45, c46, rfl, h47, h48⟩ := h44
 obtain ⟨v33, rfl, h34⟩ := rd_list h47
 obtain ⟨v35, rfl, h36⟩ := rd_list h48
 refine enter (args := [(.agg #[(.int .i64 a0.1), (.int .i64 a0.2.1), v33, v35]), .int .i64 a1, sv a2]) Tryz.func14 rfl 109 rfl (Nat.le_of_ble_eq_true rfl) (fun a S => ?_)
 refine wp_seq (region_plain ?_)
 refine lx_box S trivial (by decide) rfl H rfl rfl (fun b49 w50 H => ⟨trivial, fun a S => ?_⟩)
 refine lq (.bool false) S (q_assign rfl) fun a S => ?_
 refine lx_nil (thenN ?_)
 refine wp_seq (wp_seq (region_plain ?_))
 refine lq (sv a2) S (q_move rfl) fun a S => ?_
 refine lq (.int .i64 (a2.length : Int)) S (q_lenStr rfl rfl Tryz.underlying9) fun a S => ?_
 refine lq (.bool (decide ((1048576 : Int) < (a2.length : Int)))) S (q_gtr rfl rfl) fun a S => ?_
 refine lx_nil (thenN ?_)
 refine cond_b S rfl (fun hc52 => ?_) (fun hc52 => ?_)
 ·have hm := ite_t hc52 hm
  refine wp_seq (region_plain ?_)
  refine lq (.bool true) S (q_assign rfl) fun a S => ?_
  refine lx_nil (thenN ?_)
  refine wp_ret (then_ret ?_)
  obtain rfl := Option.some.inj hm
  have H : Heap w0 [] w50 := H.sel [] (by decide)
  exact leave1 S rfl rfl ⟨rfl, H⟩
 ·have hm := ite_f hc52 hm
  refine wp_skip (thenN ?_)
  refine wp_seq (region_plain ?_)
  refine lq (.int .i64 (1048576 : Int)) S (q_assign rfl) fun a S => ?_
  refine lx_nil (thenN ?_)
  refine wp_seq (region_plain ?_)
  refine lx_e (.agg #[(.int .i64 a0.1), (.int .i64 a0.2.1), v33, v35]) S trivial (by decide) rfl trivial (q_loadA (cs := [(.int .i64 a0.1), (.int .i64 a0.2.1), v33, v35]) rfl (isP_bp _) Tryz.isAgg25 Tryz.sizeOf25 (by rintro _ rfl; exact (fun j u hu => boxAt (i := 0) H rfl hu))) (fun a S => ?_)
  refine lq (.int .i64 (1048576 : Int)) S (q_move rfl) fun a S => ?_
  obtain ⟨x55, e56, hm⟩ := bind_some hm
  refine lx_call (xs := [.tmp 21, .tmp 22]) S trivial (by decide) rfl rfl Tryz.call19 ((laws_szLts_ok ⟨[(.int .i64 a0.1), (.int .i64 a0.2.1), v33, v35], rfl, ⟨[(.int .i64 a0.1)], [(.int .i64 a0.2.1), v33, v35], rfl, rfl, ⟨[(.int .i64 a0.2.1)], [v33, v35], rfl, rfl, ⟨[v33], [v35], rfl, ((H.arg h34)).list_rd, ((H.arg h36)).list_rd⟩⟩⟩⟩  e56).mono ?_)
  rintro e w53 ⟨rfl, Hc54⟩
  have H := H.call0 Hc54
  refine ⟨_, rfl, trivial, fun a S => ?_⟩
  refine lq (.int .i64 x55) S (q_assign rfl) fun a S => ?_
  refine lx_nil (thenN ?_)
  refine wp_seq (wp_seq (region_plain ?_))
  refine lq (.int .i64 x55) S (q_move rfl) fun a S => ?_
  refine lq (.bool (decide (x55 < (0 : Int)))) S (q_lss rfl rfl) fun a S => ?_
  refine lx_nil (thenN ?_)
  refine cond_b S rfl (fun hc58 => ?_) (fun hc58 => ?_)
  ·have hm := ite_t hc58 hm
   refine wp_seq (region_plain ?_)
   refine lq (.bool true) S (q_assign rfl) fun a S => ?_
   refine lx_nil (thenN ?_)
   refine wp_ret (then_ret ?_)
   obtain rfl := Option.some.inj hm
   have H : Heap w0 [] w53 := H.sel [] (by decide)
   exact leave1 S rfl rfl ⟨rfl, H⟩
  ·have hm := ite_f hc58 hm
   refine wp_skip (thenN ?_)
   refine wp_seq (region_plain ?_)
   refine lx_e (.agg #[(.int .i64 a0.1), (.int .i64 a0.2.1), v33, v35]) S trivial (by decide) rfl trivial (q_loadA (cs := [(.int .i64 a0.1), (.int .i64 a0.2.1), v33, v35]) rfl (isP_bp _) Tryz.isAgg25 Tryz.sizeOf25 (by rintro _ rfl; exact (fun j u hu => boxAt (i := 0) H rfl hu))) (fun a S => ?_)
   obtain ⟨x61, e62, hm⟩ := bind_some hm
   refine lx_call (xs := [.tmp 27]) S trivial (by decide) rfl rfl Tryz.call21 ((laws_toLts_ok ⟨[(.int .i64 a0.1), (.int .i64 a0.2.1), v33, v35], rfl, ⟨[(.int .i64 a0.1)], [(.int .i64 a0.2.1), v33, v35], rfl, rfl, ⟨[(.int .i64 a0.2.1)], [v33, v35], rfl, rfl, ⟨[v33], [v35], rfl, ((H.arg h34)).list_rd, ((H.arg h36)).list_rd⟩⟩⟩⟩ e62).mono ?_)
   rintro e w59 ⟨v63, v64, rfl, Hc60⟩
   have H := H.call2 Hc60
   refine ⟨_, rfl, trivial, fun a S => ?_⟩
   refine lq (.int .i64 a1) S (q_move rfl) fun a S => ?_
   refine lq (sv a2) S (q_move rfl) fun a S => ?_
   obtain ⟨x70, e71, hm⟩ := bind_some hm
   refine lx_call (xs := [.tmp 28, .tmp 29, .tmp 30]) S trivial (by decide) rfl rfl Tryz.call55 ((spec_SuccessorsOf_ok ⟨[(.int .i64 x61.1), (.int .i64 x61.2.1), v63, v64], rfl, ⟨[(.int .i64 x61.1)], [(.int .i64 x61.2.1), v63, v64], rfl, rfl, ⟨[(.int .i64 x61.2.1)], [v63, v64], rfl, rfl, ⟨[v63], [v64], rfl, ((H.rdAt 0 rfl)).list_rd, ((H.rdAt 1 rfl)).list_rd⟩⟩⟩⟩   e71).mono ?_)
   rintro e w68 ⟨v72, rfl, Hc69⟩
   have H := H.call1 Hc69
   refine ⟨_, rfl, trivial, fun a S => ?_⟩
   refine lq (.tuple #[v72, (.int .i64 x70.2)]) S (q_move rfl) fun a S => ?_
   refine lq v72 S (q_extract rfl rfl) fun a S => ?_
   refine lq (.int .i64 x70.2) S (q_extract rfl rfl) fun a S => ?_
   refine lq v72 S (q_assign rfl) fun a S => ?_
   refine lq (.int .i64 x70.2) S (q_assign rfl) fun a S => ?_
   refine lx_nil (thenN ?_)
   refine wp_seq (region_plain ?_)
   refine lx_e (.agg #[(.int .i64 a0.1), (.int .i64 a0.2.1), v33, v35]) S trivial (by decide) rfl trivial (q_loadA (cs := [(.int .i64 a0.1), (.int .i64 a0.2.1), v33, v35]) rfl (isP_bp _) Tryz.isAgg25 Tryz.sizeOf25 (by rintro _ rfl; exact (fun j u hu => boxAt (i := 3) H rfl hu))) (fun a S => ?_)
   obtain ⟨x77, e78, hm⟩ := bind_some hm
   refine lx_call (xs := [.tmp 34]) S trivial (by decide) rfl rfl Tryz.call21 ((laws_toLts_ok ⟨[(.int .i64 a0.1), (.int .i64 a0.2.1), v33, v35], rfl, ⟨[(.int .i64 a0.1)], [(.int .i64 a0.2.1), v33, v35], rfl, rfl, ⟨[(.int .i64 a0.2.1)], [v33, v35], rfl, rfl, ⟨[v33], [v35], rfl, ((H.arg h34)).list_rd, ((H.arg h36)).list_rd⟩⟩⟩⟩ e78).mono ?_)
   rintro e w75 ⟨v79, v80, rfl, Hc76⟩
   have H := H.call2 Hc76
   refine ⟨_, rfl, trivial, fun a S => ?_⟩
   refine lx_alloc S trivial (by decide) rfl H Tryz.zeroValue30 rfl (fun b84 w85 H => ⟨trivial, fun a S => ?_⟩)
   refine lx_storeBox (o := 0) (i := 0) (us := [(.int .i64 x77.1), (.int .i64 x77.2.1), v79, v80]) (cs' := [(.int .i64 x77.1), (.int .i64 x77.2.1), v79, v80]) S trivial rfl H rfl rfl rfl rfl Tryz.sizeOf30 (Nat.le_of_ble_eq_true rfl) (List.forall_mem_cons.2 ⟨rfl, (List.forall_mem_cons.2 ⟨rfl, (List.forall_mem_cons.2 ⟨one_sl (H.isSl 1 rfl), (List.forall_mem_cons.2 ⟨one_sl (H.isSl 2 rfl), (fun _ h => nomatch h)⟩)⟩)⟩)⟩) rfl (fun w87 H => ⟨trivial, fun a S => ?_⟩)
   change Heap w0 [bA b84 [(.int .i64 x77.1), (.int .i64 x77.2.1), v79, v80] 30, oA (rList rStr) v79 x77.2.2.1, oA (rList Rimpl_Edge) v80 x77.2.2.2, oA (rList (rInt .i64)) v72 x70.1, oA (rList rStr) v63 x61.2.2.1, oA (rList Rimpl_Edge) v64 x61.2.2.2, bA b49 [(.int .i64 a0.1), (.int .i64 a0.2.1), v33, v35] 25] w87 at H
   refine lx_nil (thenN ?_)
   refine wp_seq (region_plain ?_)
   refine lx_e (.agg #[(.int .i64 x77.1), (.int .i64 x77.2.1), v79, v80]) S trivial (by decide) rfl trivial (q_loadA (cs := [(.int .i64 x77.1), (.int .i64 x77.2.1), v79, v80]) rfl (isP_bp _) Tryz.isAgg30 Tryz.sizeOf30 (by rintro _ rfl; exact (fun j u hu => boxAt (i := 0) H rfl hu))) (fun a S => ?_)
   refine lq (.int .i64 a1) S (q_move rfl) fun a S => ?_
   refine lq (sv a2) S (q_move rfl) fun a S => ?_
   obtain ⟨x90, e91, hm⟩ := bind_some hm
   refine lx_call (xs := [.tmp 37, .tmp 38, .tmp 39]) S trivial (by decide) rfl rfl Tryz.call56 ((impl_SuccessorsOf_ok (hG.ext H.ext) ⟨[(.int .i64 x77.1), (.int .i64 x77.2.1), v79, v80], rfl, ⟨[(.int .i64 x77.1)], [(.int .i64 x77.2.1), v79, v80], rfl, rfl, ⟨[(.int .i64 x77.2.1)], [v79, v80], rfl, rfl, ⟨[v79], [v80], rfl, ((H.rdAt 1 rfl)).list_rd, ((H.rdAt 2 rfl)).list_rd⟩⟩⟩⟩   e91).mono ?_)
   rintro e w88 ⟨v92, rfl, Hc89⟩
   have H := H.call1 Hc89
   refine ⟨_, rfl, trivial, fun a S => ?_⟩
   refine lq (.tuple #[v92, (.int .i64 x90.2)]) S (q_move rfl) fun a S => ?_
   refine lq v92 S (q_extract rfl rfl) fun a S => ?_
   refine lq (.int .i64 x90.2) S (q_extract rfl rfl) fun a S => ?_
   refine lq v92 S (q_assign rfl) fun a S => ?_
   refine lq (.int .i64 x90.2) S (q_assign rfl) fun a S => ?_
   refine lx_nil (thenN ?_)
   refine wp_seq (wp_seq (region_plain ?_))
   refine lq v92 S (q_move rfl) fun a S => ?_
   refine lq v72 S (q_move rfl) fun a S => ?_
   obtain ⟨x97, e98, hm⟩ := bind_some hm
   refine lx_call (xs := [.tmp 43, .tmp 44]) S trivial (by decide) rfl rfl Tryz.call29 ((laws_eqInt64S_ok (H.rdAt 0 rfl) (H.rdAt 4 rfl) e98).mono ?_)
   rintro e w95 ⟨rfl, Hc96⟩
   have H := H.call0 Hc96
   refine ⟨_, rfl, trivial, fun a S => ?_⟩
   refine lq (.bool (!x97)) S (q_not rfl) fun a S => ?_
   refine lq (.bool (!x97)) S (q_move rfl) fun a S => ?_
   obtain ⟨t100, e101, hm⟩ := bind_some hm
   refine lx_cut 4 (fun a w => Slots a 109 [(1, (.int .i64 a1)), (2, (sv a2)), (3, (bp b49)), (8, v72), (9, (.int .i64 x70.2)), (10, (bp b84)), (11, v92), (12, (.int .i64 x90.2)), (51, (.bool t100))] ∧ Heap w0 [oA (rList (rInt .i64)) v92 x90.1, bA b84 [(.int .i64 x77.1), (.int .i64 x77.2.1), v79, v80] 30, oA (rList rStr) v79 x77.2.2.1, oA (rList Rimpl_Edge) v80 x77.2.2.2, oA (rList (rInt .i64)) v72 x70.1, bA b49 [(.int .i64 a0.1), (.int .i64 a0.2.1), v33, v35] 25] w) ?_ ?_
   ·by_cases hc102 : (!x97) = true
    ·have hm := ite_t hc102 e101
     refine lx_skip S rfl rfl (isB_ne hc102) (by decide) (fun a S => ?_)
     refine lx_skip S rfl rfl (isB_ne hc102) (by decide) (fun a S => ?_)
     refine lx_skip S rfl rfl (isB_ne hc102) (by decide) (fun a S => ?_)
     refine lq (.bool true) S (q_pickT' rfl hc102 rfl) fun a S => ?_
     refine lx_nil ?_
     obtain rfl := Option.some.inj hm
     have H := H.sel [0, 1, 2, 3, 4, 7] (by decide)
     exact ⟨S.sub ⟨rfl, rfl, rfl, rfl, rfl, rfl, rfl, rfl, rfl, trivial⟩, H⟩
    ·have hm := ite_f (eq_false_of_ne_true hc102) e101
     have hc102 : (!x97) = false := eq_false_of_ne_true hc102
     refine lx_q (.int .i64 x90.2) S (want_b rfl rfl hc102) (by decide) (q_move rfl) (fun a S => ?_)
     refine lx_q (.int .i64 x70.2) S (want_b rfl rfl hc102) (by decide) (q_move rfl) (fun a S => ?_)
     refine lx_q (.bool (x90.2 != x70.2)) S (want_b rfl rfl hc102) (by decide) (q_neq rfl rfl) (fun a S => ?_)
     refine lq (.bool (x90.2 != x70.2)) S (q_pickF' rfl hc102 rfl) fun a S => ?_
     refine lx_nil ?_
     obtain rfl := Option.some.inj hm
     have H := H.sel [0, 1, 2, 3, 4, 7] (by decide)
     exact ⟨S.sub ⟨rfl, rfl, rfl, rfl, rfl, rfl, rfl, rfl, rfl, trivial⟩, H⟩
   ·rintro a w ⟨S, H⟩
    refine lx_nil (thenN ?_)
    refine cond_b S rfl (fun hc103 => ?_) (fun hc103 => ?_)
    ·have hm := ite_t hc103 hm
     refine wp_seq (region_plain ?_)
     refine lq (.bool false) S (q_assign rfl) fun a S => ?_
     refine lx_nil (thenN ?_)
     refine wp_ret (then_ret ?_)
     obtain rfl := Option.some.inj hm
     have H : Heap w0 [] w := H.sel [] (by decide)
     exact leave1 S rfl rfl ⟨rfl, H⟩
    ·have hm := ite_f hc103 hm
     refine wp_skip (thenN ?_)
     refine wp_seq ?_
     refine wp_seq ?_
     refine region_drawG (fun w1 => Heap w0 [bA b84 [(.int .i64 x77.1), (.int .i64 x77.2.1), v79, v80] 30, bA b49 [(.int .i64 a0.1), (.int .i64 a0.2.1), v33, v35] 25] w1) (fun i => [2, 3].contains i) mixed (by kernel_rfl) (fun w105 he104 => ?_)
     have H := H.later he104
     refine ⟨H.sel [1, 5] (by decide), ?_⟩
     refine lq (.agg #[(.int .i64 x77.1), (.int .i64 x77.2.1), v79, v80]) S (q_loadA (cs := [(.int .i64 x77.1), (.int .i64 x77.2.1), v79, v80]) rfl (isP_bp _) Tryz.isAgg30 Tryz.sizeOf30 (fun w1 hC => (fun j u hu => boxAt (i := 0) hC rfl hu))) fun a S => ?_
     refine lq (.agg #[(.int .i64 a0.1), (.int .i64 a0.2.1), v33, v35]) S (q_loadA (cs := [(.int .i64 a0.1), (.int .i64 a0.2.1), v33, v35]) rfl (isP_bp _) Tryz.isAgg25 Tryz.sizeOf25 (fun w1 hC => (fun j u hu => boxAt (i := 1) hC rfl hu))) fun a S => ?_
     obtain ⟨x108, e109, hm⟩ := bind_some hm
     refine lx_call (xs := [.tmp 53]) S trivial (by decide) rfl rfl Tryz.call21 ((laws_toLts_ok ⟨[(.int .i64 a0.1), (.int .i64 a0.2.1), v33, v35], rfl, ⟨[(.int .i64 a0.1)], [(.int .i64 a0.2.1), v33, v35], rfl, rfl, ⟨[(.int .i64 a0.2.1)], [v33, v35], rfl, rfl, ⟨[v33], [v35], rfl, ((H.arg h34)).list_rd, ((H.arg h36)).list_rd⟩⟩⟩⟩ e109).mono ?_)
     rintro e w106 ⟨v110, v111, rfl, Hc107⟩
     have H := H.call2 Hc107
     refine ⟨_, rfl, H.sel [3, 7] (by decide), fun a S => ?_⟩
     obtain ⟨x117, e118, hm⟩ := bind_some hm
     refine lx_call (xs := [.tmp 52, .tmp 54]) S trivial (by decide) rfl rfl Tryz.call23 ((laws_eqLts_ok ⟨[(.int .i64 x77.1), (.int .i64 x77.2.1), v79, v80], rfl, ⟨[(.int .i64 x77.1)], [(.int .i64 x77.2.1), v79, v80], rfl, rfl, ⟨[(.int .i64 x77.2.1)], [v79, v80], rfl, rfl, ⟨[v79], [v80], rfl, ((H.rdAt 4 rfl)).list_rd, ((H.rdAt 5 rfl)).list_rd⟩⟩⟩⟩ ⟨[(.int .i64 x108.1), (.int .i64 x108.2.1), v110, v111], rfl, ⟨[(.int .i64 x108.1)], [(.int .i64 x108.2.1), v110, v111], rfl, rfl, ⟨[(.int .i64 x108.2.1)], [v110, v111], rfl, rfl, ⟨[v110], [v111], rfl, ((H.rdAt 0 rfl)).list_rd, ((H.rdAt 1 rfl)).list_rd⟩⟩⟩⟩ e118).mono ?_)
     rintro e w115 ⟨rfl, Hc116⟩
     have H := H.call0 Hc116
     refine ⟨_, rfl, H.sel [3, 7] (by decide), fun a S => ?_⟩
     refine lq (.bool (!x117)) S (q_not rfl) fun a S => ?_
     refine lx_nil (thenN ?_)
     refine cond_b S rfl (fun hc120 => ?_) (fun hc120 => ?_)
     ·have hm := ite_t hc120 hm
      refine wp_seq (region_plain ?_)
      refine lq (.bool false) S (q_assign rfl) fun a S => ?_
      refine lx_nil (thenN ?_)
      refine wp_ret (then_ret ?_)
      obtain rfl := Option.some.inj hm
      have H : Heap w0 [] w115 := H.sel [] (by decide)
      exact leave1 S rfl rfl ⟨rfl, H⟩
     ·have hm := ite_f hc120 hm
      refine wp_skip (thenN ?_)
      refine wp_seq (region_plain ?_)
      refine lq (.int .i64 (1 : Int)) S (q_assign rfl) fun a S => ?_
      refine lx_nil (thenN ?_)
      refine wp_seq (region_plain ?_)
      refine lx_e (.agg #[(.int .i64 x77.1), (.int .i64 x77.2.1), v79, v80]) S trivial (by decide) rfl trivial (q_loadA (cs := [(.int .i64 x77.1), (.int .i64 x77.2.1), v79, v80]) rfl (isP_bp _) Tryz.isAgg30 Tryz.sizeOf30 (by rintro _ rfl; exact (fun j u hu => boxAt (i := 3) H rfl hu))) (fun a S => ?_)
      refine lq (.int .i64 (1 : Int)) S (q_move rfl) fun a S => ?_
      obtain ⟨x123, e124, hm⟩ := bind_some hm
      have H : Heap w0 [oA (rList Rimpl_Edge) v80 x77.2.2.2, oA (rList rStr) v110 x108.2.2.1, oA (rList Rimpl_Edge) v111 x108.2.2.2, oA (rList (rInt .i64)) v92 x90.1, bA b84 [(.int .i64 x77.1), (.int .i64 x77.2.1), v79, v80] 30, oA (rList rStr) v79 x77.2.2.1, oA (rList (rInt .i64)) v72 x70.1, bA b49 [(.int .i64 a0.1), (.int .i64 a0.2.1), v33, v35] 25] w115 := H.front 5 rfl
      have H : Heap w0 [oA (rList rStr) v79 x77.2.2.1, oA (rList Rimpl_Edge) v80 x77.2.2.2, oA (rList rStr) v110 x108.2.2.1, oA (rList Rimpl_Edge) v111 x108.2.2.2, oA (rList (rInt .i64)) v92 x90.1, bA b84 [(.int .i64 x77.1), (.int .i64 x77.2.1), v79, v80] 30, oA (rList (rInt .i64)) v72 x70.1, bA b49 [(.int .i64 a0.1), (.int .i64 a0.2.1), v33, v35] 25] w115 := H.front 5 rfl
      refine lx_call (xs := [.tmp 57, .tmp 58]) S trivial (by decide) rfl rfl Tryz.call33 ((laws_markLts_ok H  e124).mono ?_)
      rintro e w121 ⟨rfl, H⟩
      refine ⟨_, rfl, trivial, fun a S => ?_⟩
      refine lq (.int .i64 x123.1) S (q_assign rfl) fun a S => ?_
      refine lx_nil (thenN ?_)
      refine wp_seq (wp_seq (region_plain ?_))
      refine lq (.int .i64 x123.1) S (q_move rfl) fun a S => ?_
      refine lq (.bool (decide (x123.1 < (0 : Int)))) S (q_lss rfl rfl) fun a S => ?_
      refine lq (.bool (decide (x123.1 < (0 : Int)))) S (q_move rfl) fun a S => ?_
      obtain ⟨t125, e126, hm⟩ := bind_some hm
      refine lx_cut 5 (fun a w => Slots a 109 [(1, (.int .i64 a1)), (2, (sv a2)), (3, (bp b49)), (8, v72), (9, (.int .i64 x70.2)), (11, v92), (12, (.int .i64 x90.2)), (67, (.bool t125))] ∧ Heap w0 [oA (rList (rInt .i64)) v92 x90.1, oA (rList (rInt .i64)) v72 x70.1, bA b49 [(.int .i64 a0.1), (.int .i64 a0.2.1), v33, v35] 25] w) ?_ ?_
      ·by_cases hc127 : (decide (x123.1 < (0 : Int))) = true
       ·have hm := ite_t hc127 e126
        refine lx_skip S rfl rfl (isB_ne hc127) (by decide) (fun a S => ?_)
        refine lx_skip S rfl rfl (isB_ne hc127) (by decide) (fun a S => ?_)
        refine lx_skip S rfl rfl (isB_ne hc127) (by decide) (fun a S => ?_)
        refine lx_skip S rfl rfl (isB_ne hc127) (by decide) (fun a S => ?_)
        refine lq (.bool true) S (q_pickT' rfl hc127 rfl) fun a S => ?_
        refine lx_nil ?_
        obtain rfl := Option.some.inj hm
        have H := H.sel [4, 6, 7] (by decide)
        exact ⟨S.sub ⟨rfl, rfl, rfl, rfl, rfl, rfl, rfl, rfl, trivial⟩, H⟩
       ·have hm := ite_f (eq_false_of_ne_true hc127) e126
        have hc127 : (decide (x123.1 < (0 : Int))) = false := eq_false_of_ne_true hc127
        refine lx_q v92 S (want_b rfl rfl hc127) (by decide) (q_move rfl) (fun a S => ?_)
        refine lx_q v72 S (want_b rfl rfl hc127) (by decide) (q_move rfl) (fun a S => ?_)
        obtain ⟨x130, e131, hm⟩ := bind_some hm
        refine lx_call (xs := [.tmp 63, .tmp 64]) S (want_b rfl rfl hc127) (by decide) rfl rfl Tryz.call29 ((laws_eqInt64S_ok (H.rdAt 4 rfl) (H.rdAt 6 rfl) e131).mono ?_)
        rintro e w128 ⟨rfl, Hc129⟩
        have H := H.call0 Hc129
        refine ⟨_, rfl, trivial, fun a S => ?_⟩
        refine lx_q (.bool (!x130)) S (want_b rfl rfl hc127) (by decide) (q_not rfl) (fun a S => ?_)
        refine lq (.bool (!x130)) S (q_pickF' rfl hc127 rfl) fun a S => ?_
        refine lx_nil ?_
        obtain rfl := Option.some.inj hm
        have H := H.sel [4, 6, 7] (by decide)
        exact ⟨S.sub ⟨rfl, rfl, rfl, rfl, rfl, rfl, rfl, rfl, trivial⟩, H⟩
      ·rintro a w ⟨S, H⟩
       refine lq (.bool t125) S (q_move rfl) fun a S => ?_
       obtain ⟨t133, e134, hm⟩ := bind_some hm
       refine lx_cut 4 (fun a w => Slots a 109 [(1, (.int .i64 a1)), (2, (sv a2)), (3, (bp b49)), (8, v72), (9, (.int .i64 x70.2)), (11, v92), (72, (.bool t133))] ∧ Heap w0 [oA (rList (rInt .i64)) v92 x90.1, oA (rList (rInt .i64)) v72 x70.1, bA b49 [(.int .i64 a0.1), (.int .i64 a0.2.1), v33, v35] 25] w) ?_ ?_
       ·by_cases hc135 : t125 = true
        ·have hm := ite_t hc135 e134
         refine lx_skip S rfl rfl (isB_ne hc135) (by decide) (fun a S => ?_)
         refine lx_skip S rfl rfl (isB_ne hc135) (by decide) (fun a S => ?_)
         refine lx_skip S rfl rfl (isB_ne hc135) (by decide) (fun a S => ?_)
         refine lq (.bool true) S (q_pickT' rfl hc135 rfl) fun a S => ?_
         refine lx_nil ?_
         obtain rfl := Option.some.inj hm
         exact ⟨S.sub ⟨rfl, rfl, rfl, rfl, rfl, rfl, rfl, trivial⟩, H⟩
        ·have hm := ite_f (eq_false_of_ne_true hc135) e134
         have hc135 : t125 = false := eq_false_of_ne_true hc135
         refine lx_q (.int .i64 x90.2) S (want_b rfl rfl hc135) (by decide) (q_move rfl) (fun a S => ?_)
         refine lx_q (.int .i64 x70.2) S (want_b rfl rfl hc135) (by decide) (q_move rfl) (fun a S => ?_)
         refine lx_q (.bool (x90.2 != x70.2)) S (want_b rfl rfl hc135) (by decide) (q_neq rfl rfl) (fun a S => ?_)
         refine lq (.bool (x90.2 != x70.2)) S (q_pickF' rfl hc135 rfl) fun a S => ?_
         refine lx_nil ?_
         obtain rfl := Option.some.inj hm
         exact ⟨S.sub ⟨rfl, rfl, rfl, rfl, rfl, rfl, rfl, trivial⟩, H⟩
       ·rintro a w ⟨S, H⟩
        refine lx_nil (thenN ?_)
        refine cond_b S rfl (fun hc136 => ?_) (fun hc136 => ?_)
        ·have hm := ite_t hc136 hm
         refine wp_seq (region_plain ?_)
         refine lq (.bool false) S (q_assign rfl) fun a S => ?_
         refine lx_nil (thenN ?_)
         refine wp_ret (then_ret ?_)
         obtain rfl := Option.some.inj hm
         have H : Heap w0 [] w := H.sel [] (by decide)
         exact leave1 S rfl rfl ⟨rfl, H⟩
        ·have hm := ite_f hc136 hm
         refine wp_skip (thenN ?_)
         refine wp_seq (region_plain ?_)
         refine lq (.int .i64 (1 : Int)) S (q_assign rfl) fun a S => ?_
         refine lx_nil (thenN ?_)
         refine wp_seq (region_plain ?_)
         refine lq v92 S (q_move rfl) fun a S => ?_
         refine lq (.int .i64 (1 : Int)) S (q_move rfl) fun a S => ?_
         obtain ⟨x139, e140, hm⟩ := bind_some hm
         refine lx_call (xs := [.tmp 73, .tmp 74]) S trivial (by decide) rfl rfl Tryz.call39 ((laws_markInt64S_ok H  e140).mono ?_)
         rintro e w137 ⟨rfl, H⟩
         refine ⟨_, rfl, trivial, fun a S => ?_⟩
         refine lq (.int .i64 x139.1) S (q_assign rfl) fun a S => ?_
         refine lx_nil (thenN ?_)
         refine wp_seq (region_plain ?_)
         refine lq (.int .i64 (1 : Int)) S (q_assign rfl) fun a S => ?_
         refine lx_nil (thenN ?_)
         refine wp_seq (region_plain ?_)
         refine lq v92 S (q_move rfl) fun a S => ?_
         refine lq (.int .i64 (1 : Int)) S (q_move rfl) fun a S => ?_
         obtain ⟨x143, e144, hm⟩ := bind_some hm
         refine lx_call (xs := [.tmp 76, .tmp 77]) S trivial (by decide) rfl rfl Tryz.call44 ((laws_heldInt64S_ok (H.rdAt 0 rfl)  e144).mono ?_)
         rintro e w141 ⟨rfl, Hc142⟩
         have H := H.call0 Hc142
         refine ⟨_, rfl, trivial, fun a S => ?_⟩
         refine lq (.int .i64 x143) S (q_assign rfl) fun a S => ?_
         refine lx_nil (thenN ?_)
         refine wp_seq (wp_seq (region_plain ?_))
         refine lq (.int .i64 x143) S (q_move rfl) fun a S => ?_
         refine lq (.bool (decide (x143 < (0 : Int)))) S (q_lss rfl rfl) fun a S => ?_
         refine lx_nil (thenN ?_)
         refine cond_b S rfl (fun hc146 => ?_) (fun hc146 => ?_)
         ·have hm := ite_t hc146 hm
          refine wp_seq (region_plain ?_)
          refine lq (.bool false) S (q_assign rfl) fun a S => ?_
          refine lx_nil (thenN ?_)
          refine wp_ret (then_ret ?_)
          obtain rfl := Option.some.inj hm
          have H : Heap w0 [] w141 := H.sel [] (by decide)
          exact leave1 S rfl rfl ⟨rfl, H⟩
         ·have hm := ite_f hc146 hm
          refine wp_skip (thenN ?_)
          refine wp_seq (wp_seq (region_plain ?_))
          refine lq (.int .i64 x143) S (q_move rfl) fun a S => ?_
          refine lq (.int .i64 x139.1) S (q_move rfl) fun a S => ?_
          refine lq (.bool (x143 != x139.1)) S (q_neq rfl rfl) fun a S => ?_
          refine lx_nil (thenN ?_)
          refine cond_b S rfl (fun hc147 => ?_) (fun hc147 => ?_)
          ·have hm := ite_t hc147 hm
           refine wp_seq (region_plain ?_)
           refine lq (.bool false) S (q_assign rfl) fun a S => ?_
           refine lx_nil (thenN ?_)
           refine wp_ret (then_ret ?_)
           obtain rfl := Option.some.inj hm
           have H : Heap w0 [] w141 := H.sel [] (by decide)
           exact leave1 S rfl rfl ⟨rfl, H⟩
          ·have hm := ite_f hc147 hm
           refine wp_skip (thenN ?_)
           refine wp_seq (region_plain ?_)
           refine lx_e (.agg #[(.int .i64 a0.1), (.int .i64 a0.2.1), v33, v35]) S trivial (by decide) rfl trivial (q_loadA (cs := [(.int .i64 a0.1), (.int .i64 a0.2.1), v33, v35]) rfl (isP_bp _) Tryz.isAgg25 Tryz.sizeOf25 (by rintro _ rfl; exact (fun j u hu => boxAt (i := 2) H rfl hu))) (fun a S => ?_)
           obtain ⟨x150, e151, hm⟩ := bind_some hm
           refine lx_call (xs := [.tmp 85]) S trivial (by decide) rfl rfl Tryz.call21 ((laws_toLts_ok ⟨[(.int .i64 a0.1), (.int .i64 a0.2.1), v33, v35], rfl, ⟨[(.int .i64 a0.1)], [(.int .i64 a0.2.1), v33, v35], rfl, rfl, ⟨[(.int .i64 a0.2.1)], [v33, v35], rfl, rfl, ⟨[v33], [v35], rfl, ((H.arg h34)).list_rd, ((H.arg h36)).list_rd⟩⟩⟩⟩ e151).mono ?_)
           rintro e w148 ⟨v152, v153, rfl, Hc149⟩
           have H := H.call2 Hc149
           refine ⟨_, rfl, trivial, fun a S => ?_⟩
           refine lq (.int .i64 a1) S (q_move rfl) fun a S => ?_
           refine lq (sv a2) S (q_move rfl) fun a S => ?_
           obtain ⟨x159, e160, hm⟩ := bind_some hm
           refine lx_call (xs := [.tmp 86, .tmp 87, .tmp 88]) S trivial (by decide) rfl rfl Tryz.call56 ((impl_SuccessorsOf_ok (hG.ext H.ext) ⟨[(.int .i64 x150.1), (.int .i64 x150.2.1), v152, v153], rfl, ⟨[(.int .i64 x150.1)], [(.int .i64 x150.2.1), v152, v153], rfl, rfl, ⟨[(.int .i64 x150.2.1)], [v152, v153], rfl, rfl, ⟨[v152], [v153], rfl, ((H.rdAt 0 rfl)).list_rd, ((H.rdAt 1 rfl)).list_rd⟩⟩⟩⟩   e160).mono ?_)
           rintro e w157 ⟨v161, rfl, Hc158⟩
           have H := H.call1 Hc158
           refine ⟨_, rfl, trivial, fun a S => ?_⟩
           refine lq (.tuple #[v161, (.int .i64 x159.2)]) S (q_move rfl) fun a S => ?_
           refine lq v161 S (q_extract rfl rfl) fun a S => ?_
           refine lq (.int .i64 x159.2) S (q_extract rfl rfl) fun a S => ?_
           refine lq v161 S (q_assign rfl) fun a S => ?_
           refine lq (.int .i64 x159.2) S (q_assign rfl) fun a S => ?_
           refine lx_nil (thenN ?_)
           refine wp_seq (wp_seq (region_plain ?_))
           refine lq v161 S (q_move rfl) fun a S => ?_
           refine lq v72 S (q_move rfl) fun a S => ?_
           obtain ⟨x166, e167, hm⟩ := bind_some hm
           refine lx_call (xs := [.tmp 92, .tmp 93]) S trivial (by decide) rfl rfl Tryz.call29 ((laws_eqInt64S_ok (H.rdAt 0 rfl) (H.rdAt 4 rfl) e167).mono ?_)
           rintro e w164 ⟨rfl, Hc165⟩
           have H := H.call0 Hc165
           refine ⟨_, rfl, trivial, fun a S => ?_⟩
           refine lq (.bool (!x166)) S (q_not rfl) fun a S => ?_
           refine lq (.bool (!x166)) S (q_move rfl) fun a S => ?_
           obtain ⟨t169, e170, hm⟩ := bind_some hm
           refine lx_cut 4 (fun a w => Slots a 109 [(11, v92), (14, (.int .i64 x139.1)), (100, (.bool t169))] ∧ Heap w0 [oA (rList (rInt .i64)) v92 x139.2] w) ?_ ?_
           ·by_cases hc171 : (!x166) = true
            ·have hm := ite_t hc171 e170
             refine lx_skip S rfl rfl (isB_ne hc171) (by decide) (fun a S => ?_)
             refine lx_skip S rfl rfl (isB_ne hc171) (by decide) (fun a S => ?_)
             refine lx_skip S rfl rfl (isB_ne hc171) (by decide) (fun a S => ?_)
             refine lq (.bool true) S (q_pickT' rfl hc171 rfl) fun a S => ?_
             refine lx_nil ?_
             obtain rfl := Option.some.inj hm
             have H := H.sel [3] (by decide)
             exact ⟨S.sub ⟨rfl, rfl, rfl, trivial⟩, H⟩
            ·have hm := ite_f (eq_false_of_ne_true hc171) e170
             have hc171 : (!x166) = false := eq_false_of_ne_true hc171
             refine lx_q (.int .i64 x159.2) S (want_b rfl rfl hc171) (by decide) (q_move rfl) (fun a S => ?_)
             refine lx_q (.int .i64 x70.2) S (want_b rfl rfl hc171) (by decide) (q_move rfl) (fun a S => ?_)
             refine lx_q (.bool (x159.2 != x70.2)) S (want_b rfl rfl hc171) (by decide) (q_neq rfl rfl) (fun a S => ?_)
             refine lq (.bool (x159.2 != x70.2)) S (q_pickF' rfl hc171 rfl) fun a S => ?_
             refine lx_nil ?_
             obtain rfl := Option.some.inj hm
             have H := H.sel [3] (by decide)
             exact ⟨S.sub ⟨rfl, rfl, rfl, trivial⟩, H⟩
           ·rintro a w ⟨S, H⟩
            refine lx_nil (thenN ?_)
            refine cond_b S rfl (fun hc172 => ?_) (fun hc172 => ?_)
            ·have hm := ite_t hc172 hm
             refine wp_seq (region_plain ?_)
             refine lq (.bool false) S (q_assign rfl) fun a S => ?_
             refine lx_nil (thenN ?_)
             refine wp_ret (then_ret ?_)
             obtain rfl := Option.some.inj hm
             have H : Heap w0 [] w := H.sel [] (by decide)
             exact leave1 S rfl rfl ⟨rfl, H⟩
            ·have hm := ite_f hc172 hm
             refine wp_skip (thenN ?_)
             refine wp_seq (region_plain ?_)
             refine lq (.int .i64 (1 : Int)) S (q_assign rfl) fun a S => ?_
             refine lx_nil (thenN ?_)
             refine wp_seq (region_plain ?_)
             refine lq v92 S (q_move rfl) fun a S => ?_
             refine lq (.int .i64 (1 : Int)) S (q_move rfl) fun a S => ?_
             obtain ⟨x175, e176, hm⟩ := bind_some hm
             refine lx_call (xs := [.tmp 101, .tmp 102]) S trivial (by decide) rfl rfl Tryz.call44 ((laws_heldInt64S_ok (H.rdAt 0 rfl)  e176).mono ?_)
             rintro e w173 ⟨rfl, Hc174⟩
             have H := H.call0 Hc174
             refine ⟨_, rfl, trivial, fun a S => ?_⟩
             refine lq (.int .i64 x175) S (q_assign rfl) fun a S => ?_
             refine lx_nil (thenN ?_)
             refine wp_seq (wp_seq (region_plain ?_))
             refine lq (.int .i64 x175) S (q_move rfl) fun a S => ?_
             refine lq (.bool (decide (x175 < (0 : Int)))) S (q_lss rfl rfl) fun a S => ?_
             refine lx_nil (thenN ?_)
             refine cond_b S rfl (fun hc178 => ?_) (fun hc178 => ?_)
             ·have hm := ite_t hc178 hm
              refine wp_seq (region_plain ?_)
              refine lq (.bool false) S (q_assign rfl) fun a S => ?_
              refine lx_nil (thenN ?_)
              refine wp_ret (then_ret ?_)
              obtain rfl := Option.some.inj hm
              have H : Heap w0 [] w173 := H.sel [] (by decide)
              exact leave1 S rfl rfl ⟨rfl, H⟩
             ·have hm := ite_f hc178 hm
              refine wp_skip (thenN ?_)
              refine wp_seq (wp_seq (region_plain ?_))
              refine lq (.int .i64 x175) S (q_move rfl) fun a S => ?_
              refine lq (.int .i64 x139.1) S (q_move rfl) fun a S => ?_
              refine lq (.bool (x175 != x139.1)) S (q_neq rfl rfl) fun a S => ?_
              refine lx_nil (thenN ?_)
              refine cond_b S rfl (fun hc179 => ?_) (fun hc179 => ?_)
              ·have hm := ite_t hc179 hm
               refine wp_seq (region_plain ?_)
               refine lq (.bool false) S (q_assign rfl) fun a S => ?_
               refine lx_nil (thenN ?_)
               refine wp_ret (then_ret ?_)
               obtain rfl := Option.some.inj hm
               have H : Heap w0 [] w173 := H.sel [] (by decide)
               exact leave1 S rfl rfl ⟨rfl, H⟩
              ·have hm := ite_f hc179 hm
               refine wp_skip (thenN ?_)
               refine wp_seq (region_plain ?_)
               refine lq (.bool true) S (q_assign rfl) fun a S => ?_
               refine lx_nil (thenN ?_)
               refine wp_ret ?_
               obtain rfl := Option.some.inj hm
               have H : Heap w0 [] w173 := H.sel [] (by decide)
               exact leave1 S rfl rfl ⟨rfl, H⟩
end Go.Proofs.YtkgkfbmcnchdbaaGreatDoor
