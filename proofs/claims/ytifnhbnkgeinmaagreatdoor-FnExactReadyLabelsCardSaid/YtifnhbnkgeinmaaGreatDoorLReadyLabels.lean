/- The model of a statement and its walk (printed by a program of this repo). -/
import Derived.Test.YtifnhbnkgeinmaaGreatDoorF0
import Derived.Test.YtifnhbnkgeinmaaGreatDoorF1
import Derived.Test.YtifnhbnkgeinmaaGreatDoorF2
import Derived.Test.YtifnhbnkgeinmaaGreatDoorF3
import Derived.Test.YtifnhbnkgeinmaaGreatDoorF4
import Derived.Test.YtifnhbnkgeinmaaGreatDoorFS
import Derived.Test.YtifnhbnkgeinmaaGreatDoorGxT
import Derived.Test.YtifnhbnkgeinmaaGreatDoorGxY
namespace Go.Proofs.YtifnhbnkgeinmaaGreatDoor
open Go.RowKit Go.Gx

/-- spec.l11State -/
def spec_l11State_m (fuel : Nat) (a0 : Timpl_Lts) (a1 : Int) : Option (Bool) :=
  (spec_l00In_m fuel a1 (0 : Int) (W (a0.1 - (1 : Int)))).bind fun x52 => some (x52)
set_option maxRecDepth 20000 in
theorem spec_l11State_ok {w0 : World} {fuel : Nat} {p0 : Value} {a0 : Timpl_Lts} {a1 : Int} {r : Bool} (h0 : Rd (rPtr Rimpl_Lts) w0 p0 a0) (hm : spec_l11State_m fuel a0 a1 = some r) :
  Calls Tryz.prog 40 #[p0, .int .i64 a1] w0 fun e w => e = .returned (.bool r) ∧ Heap w0 [] w := by
 unfold spec_l11State_m at hm
 have H := Heap.start w0
 obtain ⟨c31, h32, hat33⟩ := h0.ptr
 obtain ⟨c38, c39, rfl, h40, h41⟩ := h32
 obtain rfl := h40
 obtain ⟨c42, c43, rfl, h44, h45⟩ := h41
 obtain rfl := h44
 obtain ⟨c46, c47, rfl, h48, h49⟩ := h45
 obtain ⟨v34, rfl, h35⟩ := rd_list h48
 obtain ⟨v36, rfl, h37⟩ := rd_list h49
 refine enter (args := [p0, .int .i64 a1]) Tryz.func40 rfl 12 rfl (Nat.le_of_ble_eq_true rfl) (fun a S => ?_)
 refine wp_seq (region_plain ?_)
 refine lq (.bool false) S (q_assign rfl) fun a S => ?_
 refine lx_nil (thenN ?_)
 refine wp_seq (region_plain ?_)
 refine lq (.int .i64 a1) S (q_move rfl) fun a S => ?_
 refine lq p0 S (q_move rfl) fun a S => ?_
 refine lq p0 S (q_nilCheck rfl ((hat33 0 _ rfl).isP)) fun a S => ?_
 refine lq (pAdd p0 0) S (q_fieldAddr' 0 2 rfl ((hat33 0 _ rfl).isP) Tryz.underlying33 rfl Tryz.sizeOf2) fun a S => ?_
 refine lx_e (.int .i64 a0.1) S trivial (by decide) rfl trivial (q_load1 rfl Tryz.isAgg2 (by rintro _ rfl; exact (At.of_add (m := 0) (j := 0) ((hat33 0 _ rfl).ext H.ext)))) (fun a S => ?_)
 refine lq (.int .i64 (W (a0.1 - (1 : Int)))) S (q_sub rfl rfl) fun a S => ?_
 obtain ⟨x52, e53, hm⟩ := bind_some hm
 refine lx_call (xs := [.tmp 5, .const (.int .i64 (0)), .tmp 10]) S trivial (by decide) rfl rfl Tryz.call44 ((spec_l00In_ok    e53).mono ?_)
 rintro e w50 ⟨rfl, Hc51⟩
 have H := H.call0 Hc51
 refine ⟨_, rfl, trivial, fun a S => ?_⟩
 refine lq (.bool x52) S (q_assign rfl) fun a S => ?_
 refine lx_nil (thenN ?_)
 refine wp_ret ?_
 obtain rfl := Option.some.inj hm
 exact leave1 S rfl rfl ⟨rfl, H⟩

/-- spec.l11Next -/
def spec_l11Next_m (fuel : Nat) (a0 : Timpl_Lts) (a1 : Int) (a2 : Int) : Option ((List Int)) :=
  (iter (fun (s : (List Int) × (Int)) => (match s with | (xs115, x117) => (if (decide (x117 < (a0.2.2.2.length : Int))) = true then join (κ := List Int → Option (((List Int) × (Int)) ⊕ (((List Int)) ⊕ ((List Int))))) (fun (xs192 : List Int) => some (.inl (xs192, (W (x117 + (1 : Int)))))) (fun K194 => (idx a0.2.2.2 x117).bind fun x196 => (if (x196.1 == a1) = true then (idx a0.2.2.2 x117).bind fun x212 => some (x212.2.1 == a2) else some false).bind fun t209 => (if t209 = true then (idx a0.2.2.2 x117).bind fun x226 => (app xs115 [x226.2.2]).bind fun x242 => (K194 x242) else (K194 xs115))) else some (.inr (.inl (xs115)))) : Option (((List Int) × (Int)) ⊕ (((List Int)) ⊕ ((List Int)))))) fuel (([] : List Int), (0 : Int))).bind fun res182 => ctl (β := (List Int)) (ρ := (List Int)) (τ := (List Int)) res182 (fun (xs180) => some (xs180)) (fun q => some (q))
set_option maxRecDepth 20000 in
theorem spec_l11Next_ok {w0 : World} {fuel : Nat} {p0 : Value} {a0 : Timpl_Lts} {a1 : Int} {a2 : Int} {r : (List Int)} (h0 : Rd (rPtr Rimpl_Lts) w0 p0 a0) (hm : spec_l11Next_m fuel a0 a1 a2 = some r) :
  Calls Tryz.prog 66 #[p0, .int .i64 a1, .int .i64 a2] w0 fun e w => ∃ (v0 : Value), e = .returned (v0) ∧ Heap w0 [oA (rList (rInt .i64)) v0 r] w := by
 unfold spec_l11Next_m at hm
 have H := Heap.start w0
 obtain ⟨c31, h32, hat33⟩ := h0.ptr
 obtain ⟨c38, c39, rfl, h40, h41⟩ := h32
 obtain rfl := h40
 obtain ⟨c42, c43, rfl, h44, h45⟩ := h41
 obtain rfl := h44
 obtain ⟨c46, c47, rfl, h48, h49⟩ := h45
 obtain ⟨v34, rfl, h35⟩ := rd_list h48
 obtain ⟨v36, rfl, h37⟩ := rd_list h49
 refine enter (args := [p0, .int .i64 a1, .int .i64 a2]) Tryz.func66 rfl 53 rfl (Nat.le_of_ble_eq_true rfl) (fun a S => ?_)
 refine wp_seq (region_plain ?_)
 refine lq (.slice none 0 0) S (q_assign rfl) fun a S => ?_
 refine lx_nil (thenN ?_)
 refine wp_seq (region_plain ?_)
 refine lx_buildSlice0 (r := (rInt .i64)) S trivial (by decide) rfl H Tryz.underlying28 Tryz.sizeOf2 (fun v50 w51 H => ⟨trivial, fun a S => ?_⟩)
 refine lq v50 S (q_assign rfl) fun a S => ?_
 refine lx_nil (thenN ?_)
 refine wp_seq (wp_seq (region_plain ?_))
 refine lq (.int .i64 (0 : Int)) S (q_assign rfl) fun a S => ?_
 refine lx_nil (thenN ?_)
 obtain ⟨res182, hit183, hk186⟩ := bind_some hm
 obtain ⟨f184, hf185, hit183⟩ := iter_name hit183
 refine block_loop (fun a w => ∃ (xs180 : List Int) (v179 : Value), Slots a 53 [(7, v179)] ∧ Heap w0 [oA (rList (rInt .i64)) v179 xs180] w ∧ res182 = .inl (xs180)) ?_ ?_
 ·rintro a w ⟨xs180, v179, S, H, rfl⟩
  have hm := ctl_inl hk186
  refine thenN ?_
  refine wp_seq (region_plain ?_)
  refine lq v179 S (q_move rfl) fun a S => ?_
  refine lq v179 S (q_assign rfl) fun a S => ?_
  refine lx_nil (thenN ?_)
  refine wp_ret ?_
  obtain rfl := Option.some.inj hm
  exact leave1 S rfl rfl ⟨v179, rfl, H⟩
 ·skip
  refine loop_ghost (fun n a w => ∃ (xs115 : List Int) (x117 : Int) (v114 : Value), Slots a 53 [(0, p0), (1, (.int .i64 a1)), (2, (.int .i64 a2)), (7, v114), (8, (.int .i64 x117))] ∧ Heap w0 [oA (rList (rInt .i64)) v114 xs115] w ∧ iter f184 n (xs115, x117) = some res182) _ ⟨([] : List Int), (0 : Int), v50, S.sub ⟨rfl, rfl, rfl, rfl, rfl, trivial⟩, H, hit183⟩ ?_
  rintro n a w ⟨xs115, x117, v114, S, H, hit183⟩
  obtain ⟨m187, o188, rfl, hm, hc189⟩ := iter_step hit183
  rw [hf185] at hm
  refine wp_seq (wp_seq (region_plain ?_))
  refine lq (.int .i64 x117) S (q_move rfl) fun a S => ?_
  refine lq p0 S (q_move rfl) fun a S => ?_
  refine lq p0 S (q_nilCheck rfl ((hat33 0 _ rfl).isP)) fun a S => ?_
  refine lq (pAdd p0 3) S (q_fieldAddr' 3 31 rfl ((hat33 0 _ rfl).isP) Tryz.underlying33 rfl Tryz.sizeOf31) fun a S => ?_
  refine lx_e v36 S trivial (by decide) rfl trivial (q_load1 rfl Tryz.isAgg31 (by rintro _ rfl; exact (At.of_add (m := 3) (j := 0) ((hat33 3 _ rfl).ext H.ext)))) (fun a S => ?_)
  refine lq (.int .i64 (a0.2.2.2.length : Int)) S (q_lenSl rfl (h37).isSl rfl Tryz.underlying31) fun a S => ?_
  refine lq (.bool (decide (x117 < (a0.2.2.2.length : Int)))) S (q_lss rfl rfl) fun a S => ?_
  refine lx_nil (thenN ?_)
  refine cond_b S rfl (fun hc190 => ?_) (fun hc190 => ?_)
  ·have hm := ite_t hc190 hm
   refine wp_skip (thenN ?_)
   obtain ⟨K194, hK195, hm⟩ := join_elim hm
   refine seq_cut (fun a w => ∃ (xs192 : List Int) (v191 : Value), Slots a 53 [(0, p0), (1, (.int .i64 a1)), (2, (.int .i64 a2)), (7, v191), (8, (.int .i64 x117))] ∧ Heap w0 [oA (rList (rInt .i64)) v191 xs192] w ∧ K194 xs192 = some o188) ?_ ?_
   ·rintro a w ⟨xs192, v191, S, H, hm⟩
    subst hK195
    refine region_plain ?_
    refine lq (.int .i64 x117) S (q_move rfl) fun a S => ?_
    refine lq (.int .i64 (W (x117 + (1 : Int)))) S (q_add rfl rfl) fun a S => ?_
    refine lq (.int .i64 (W (x117 + (1 : Int)))) S (q_assign rfl) fun a S => ?_
    refine lx_nil ?_
    exact ⟨m187, Nat.lt_succ_self _, xs192, (W (x117 + (1 : Int))), v191, S.sub ⟨rfl, rfl, rfl, rfl, rfl, trivial⟩, H, it_cont hm hc189⟩
   ·skip
    refine wp_block ?_
    refine wp_seq (region_plain ?_)
    refine lq p0 S (q_move rfl) fun a S => ?_
    refine lq p0 S (q_nilCheck rfl ((hat33 0 _ rfl).isP)) fun a S => ?_
    refine lq (pAdd p0 3) S (q_fieldAddr' 3 31 rfl ((hat33 0 _ rfl).isP) Tryz.underlying33 rfl Tryz.sizeOf31) fun a S => ?_
    refine lx_e v36 S trivial (by decide) rfl trivial (q_load1 rfl Tryz.isAgg31 (by rintro _ rfl; exact (At.of_add (m := 3) (j := 0) ((hat33 3 _ rfl).ext H.ext)))) (fun a S => ?_)
    refine lq (.int .i64 x117) S (q_move rfl) fun a S => ?_
    obtain ⟨x196, e197, hm⟩ := bind_some hm
    obtain ⟨c198, h199, hat200⟩ := (h37).elem (idx_some e197).2
    obtain ⟨c201, c202, rfl, h203, h204⟩ := h199
    obtain rfl := h203
    obtain ⟨c205, c206, rfl, h207, h208⟩ := h204
    obtain rfl := h207
    obtain rfl := h208
    have hlt := lt_of_idx (idx_some e197).2
    refine lq (ePtr v36 (x117.toNat * 3)) S (q_indexAddr rfl (h37).isSl rfl (idx_some e197).1 hlt Tryz.underlying31 Tryz.sizeOf57) fun a S => ?_
    refine lq (pAdd (ePtr v36 (x117.toNat * 3)) 0) S (q_fieldAddr' 0 2 rfl ((hat200 0 _ rfl).isP) Tryz.underlying57 rfl Tryz.sizeOf2) fun a S => ?_
    refine lx_e (.int .i64 x196.1) S trivial (by decide) rfl trivial (q_load1 rfl Tryz.isAgg2 (by rintro _ rfl; exact (At.of_add (m := 0) (j := 0) ((hat200 0 _ rfl).ext H.ext)))) (fun a S => ?_)
    refine lq (.int .i64 a1) S (q_move rfl) fun a S => ?_
    refine lq (.bool (x196.1 == a1)) S (q_eql rfl rfl) fun a S => ?_
    refine lq (.bool (x196.1 == a1)) S (q_move rfl) fun a S => ?_
    obtain ⟨t209, e210, hm⟩ := bind_some hm
    refine lx_cut 11 (fun a w => Slots a 53 [(0, p0), (1, (.int .i64 a1)), (2, (.int .i64 a2)), (7, v114), (8, (.int .i64 x117)), (40, (.bool t209))] ∧ Heap w0 [oA (rList (rInt .i64)) v114 xs115] w) ?_ ?_
    ·by_cases hc211 : (x196.1 == a1) = true
     ·have hm := ite_t hc211 e210
      refine lx_q p0 S (want_b rfl rfl hc211) (by decide) (q_move rfl) (fun a S => ?_)
      refine lx_q p0 S (want_b rfl rfl hc211) (by decide) (q_nilCheck rfl ((hat33 0 _ rfl).isP)) (fun a S => ?_)
      refine lx_q (pAdd p0 3) S (want_b rfl rfl hc211) (by decide) (q_fieldAddr' 3 31 rfl ((hat33 0 _ rfl).isP) Tryz.underlying33 rfl Tryz.sizeOf31) (fun a S => ?_)
      refine lx_e v36 S (want_b rfl rfl hc211) (by decide) rfl trivial (q_load1 rfl Tryz.isAgg31 (by rintro _ rfl; exact (At.of_add (m := 3) (j := 0) ((hat33 3 _ rfl).ext H.ext)))) (fun a S => ?_)
      refine lx_q (.int .i64 x117) S (want_b rfl rfl hc211) (by decide) (q_move rfl) (fun a S => ?_)
      obtain ⟨x212, e213, hm⟩ := bind_some hm
      obtain ⟨c214, h215, hat216⟩ := (h37).elem (idx_some e213).2
      obtain ⟨c217, c218, rfl, h219, h220⟩ := h215
      obtain rfl := h219
      obtain ⟨c221, c222, rfl, h223, h224⟩ := h220
      obtain rfl := h223
      obtain rfl := h224
      have hlt := lt_of_idx (idx_some e213).2
      refine lx_q (ePtr v36 (x117.toNat * 3)) S (want_b rfl rfl hc211) (by decide) (q_indexAddr rfl (h37).isSl rfl (idx_some e213).1 hlt Tryz.underlying31 Tryz.sizeOf57) (fun a S => ?_)
      refine lx_q (pAdd (ePtr v36 (x117.toNat * 3)) 1) S (want_b rfl rfl hc211) (by decide) (q_fieldAddr' 1 2 rfl ((hat216 0 _ rfl).isP) Tryz.underlying57 rfl Tryz.sizeOf2) (fun a S => ?_)
      refine lx_e (.int .i64 x212.2.1) S (want_b rfl rfl hc211) (by decide) rfl trivial (q_load1 rfl Tryz.isAgg2 (by rintro _ rfl; exact (At.of_add (m := 1) (j := 0) ((hat216 1 _ rfl).ext H.ext)))) (fun a S => ?_)
      refine lx_q (.int .i64 a2) S (want_b rfl rfl hc211) (by decide) (q_move rfl) (fun a S => ?_)
      refine lx_q (.bool (x212.2.1 == a2)) S (want_b rfl rfl hc211) (by decide) (q_eql rfl rfl) (fun a S => ?_)
      refine lq (.bool (x212.2.1 == a2)) S (q_pickT' rfl hc211 rfl) fun a S => ?_
      refine lx_nil ?_
      obtain rfl := Option.some.inj hm
      exact ⟨S.sub ⟨rfl, rfl, rfl, rfl, rfl, rfl, trivial⟩, H⟩
     ·have hm := ite_f (eq_false_of_ne_true hc211) e210
      have hc211 : (x196.1 == a1) = false := eq_false_of_ne_true hc211
      refine lx_skip S rfl rfl (isB_ne hc211) (by decide) (fun a S => ?_)
      refine lx_skip S rfl rfl (isB_ne hc211) (by decide) (fun a S => ?_)
      refine lx_skip S rfl rfl (isB_ne hc211) (by decide) (fun a S => ?_)
      refine lx_skip S rfl rfl (isB_ne hc211) (by decide) (fun a S => ?_)
      refine lx_skip S rfl rfl (isB_ne hc211) (by decide) (fun a S => ?_)
      refine lx_skip S rfl rfl (isB_ne hc211) (by decide) (fun a S => ?_)
      refine lx_skip S rfl rfl (isB_ne hc211) (by decide) (fun a S => ?_)
      refine lx_skip S rfl rfl (isB_ne hc211) (by decide) (fun a S => ?_)
      refine lx_skip S rfl rfl (isB_ne hc211) (by decide) (fun a S => ?_)
      refine lx_skip S rfl rfl (isB_ne hc211) (by decide) (fun a S => ?_)
      refine lq (.bool false) S (q_pickF' rfl hc211 rfl) fun a S => ?_
      refine lx_nil ?_
      obtain rfl := Option.some.inj hm
      exact ⟨S.sub ⟨rfl, rfl, rfl, rfl, rfl, rfl, trivial⟩, H⟩
    ·rintro a w ⟨S, H⟩
     refine lx_nil (thenN ?_)
     refine cond_b S rfl (fun hc225 => ?_) (fun hc225 => ?_)
     ·have hm := ite_t hc225 hm
      refine region_plain ?_
      refine lq v114 S (q_move rfl) fun a S => ?_
      refine lq p0 S (q_move rfl) fun a S => ?_
      refine lq p0 S (q_nilCheck rfl ((hat33 0 _ rfl).isP)) fun a S => ?_
      refine lq (pAdd p0 3) S (q_fieldAddr' 3 31 rfl ((hat33 0 _ rfl).isP) Tryz.underlying33 rfl Tryz.sizeOf31) fun a S => ?_
      refine lx_e v36 S trivial (by decide) rfl trivial (q_load1 rfl Tryz.isAgg31 (by rintro _ rfl; exact (At.of_add (m := 3) (j := 0) ((hat33 3 _ rfl).ext H.ext)))) (fun a S => ?_)
      refine lq (.int .i64 x117) S (q_move rfl) fun a S => ?_
      obtain ⟨x226, e227, hm⟩ := bind_some hm
      obtain ⟨c228, h229, hat230⟩ := (h37).elem (idx_some e227).2
      obtain ⟨c231, c232, rfl, h233, h234⟩ := h229
      obtain rfl := h233
      obtain ⟨c235, c236, rfl, h237, h238⟩ := h234
      obtain rfl := h237
      obtain rfl := h238
      have hlt := lt_of_idx (idx_some e227).2
      refine lq (ePtr v36 (x117.toNat * 3)) S (q_indexAddr rfl (h37).isSl rfl (idx_some e227).1 hlt Tryz.underlying31 Tryz.sizeOf57) fun a S => ?_
      refine lq (pAdd (ePtr v36 (x117.toNat * 3)) 2) S (q_fieldAddr' 2 2 rfl ((hat230 0 _ rfl).isP) Tryz.underlying57 rfl Tryz.sizeOf2) fun a S => ?_
      refine lx_e (.int .i64 x226.2.2) S trivial (by decide) rfl trivial (q_load1 rfl Tryz.isAgg2 (by rintro _ rfl; exact (At.of_add (m := 2) (j := 0) ((hat230 2 _ rfl).ext H.ext)))) (fun a S => ?_)
      refine lx_buildSlice (r := (rInt .i64)) (xs := [x226.2.2]) (ps := [(0, [(.int .i64 x226.2.2)])]) (cs := [(.int .i64 x226.2.2)]) (parts := [(0, .tmp 49)]) S trivial (by decide) rfl (H.put0 (A := eA) rfl) rfl Tryz.underlying28 Tryz.sizeOf2 Tryz.zeroValue2 (by decide) ⟨rfl, rfl, Nat.le_of_ble_eq_true rfl, trivial⟩ (by intro zs hz; exact fill_dense hz ⟨rfl, trivial⟩ rfl rfl) rfl (by decide) (fun w F hA => by cases (show F = [] from hA); exact ⟨_, _, [(.int .i64 x226.2.2)], _, rfl, rfl, ⟨rfl, rfl⟩, ⟨rfl, rfl⟩⟩) (fun v239 w240 H => ⟨trivial, fun a S => ?_⟩)
      obtain ⟨x242, e243, hm⟩ := bind_some hm
      obtain ⟨hle, hap⟩ := app_some e243
      replace hap := hap.symm
      subst hap
      have H : Heap w0 [oA (rList (rInt .i64)) v239 [x226.2.2], oA (rList (rInt .i64)) v114 xs115] w240 := H.front 0 rfl
      have H : Heap w0 [oA (rList (rInt .i64)) v114 xs115, oA (rList (rInt .i64)) v239 [x226.2.2]] w240 := H.front 1 rfl
      refine lx_appendOwn (r := (rInt .i64)) S trivial (by decide) rfl H rfl rfl Tryz.underlying28 Tryz.ti2 rfl rfl rfl (by decide) (by decide) hle (fun v244 w245 H => ⟨trivial, fun a S => ?_⟩)
      refine lq v244 S (q_assign rfl) fun a S => ?_
      refine lx_nil ?_
      refine inBlock_norm ?_
      exact ⟨(xs115 ++ [x226.2.2]), v244, S.sub ⟨rfl, rfl, rfl, rfl, rfl, trivial⟩, H, hm⟩
     ·have hm := ite_f hc225 hm
      refine wp_skip ?_
      refine inBlock_norm ?_
      exact ⟨xs115, v114, S.sub ⟨rfl, rfl, rfl, rfl, rfl, trivial⟩, H, hm⟩
  ·have hm := ite_f hc190 hm
   refine wp_exit ?_
   refine then_exit ?_
   refine then_exit ?_
   refine inBlock_exit ?_
   obtain rfl := it_brk hm hc189
   exact ⟨xs115, v114, S.sub ⟨rfl, trivial⟩, H, rfl⟩

/-- spec.l17Ready -/
def spec_l17Ready_m (fuel : Nat) (a0 : Timpl_Lts) (a1 : Int) : Option ((List Str)) :=
  (iter (fun (s : (List Str) × (Int)) => (match s with | (xs85, x87) => (if (decide (x87 < (a0.2.2.1.length : Int))) = true then join (κ := List Str → Option (((List Str) × (Int)) ⊕ (((List Str)) ⊕ ((List Str))))) (fun (xs132 : List Str) => some (.inl (xs132, (W (x87 + (1 : Int)))))) (fun K134 => (spec_l11Next_m fuel a0 a1 x87).bind fun x138 => (if (decide ((0 : Int) < (x138.length : Int))) = true then (idx a0.2.2.1 x87).bind fun x144 => (app xs85 [x144]).bind fun x152 => (K134 x152) else (K134 xs85))) else some (.inr (.inl (xs85)))) : Option (((List Str) × (Int)) ⊕ (((List Str)) ⊕ ((List Str)))))) fuel (([] : List Str), (0 : Int))).bind fun res122 => ctl (β := (List Str)) (ρ := (List Str)) (τ := (List Str)) res122 (fun (xs120) => some (xs120)) (fun q => some (q))
set_option maxRecDepth 20000 in
theorem spec_l17Ready_ok {w0 : World} {fuel : Nat} {p0 : Value} {a0 : Timpl_Lts} {a1 : Int} {r : (List Str)} (h0 : Rd (rPtr Rimpl_Lts) w0 p0 a0) (hm : spec_l17Ready_m fuel a0 a1 = some r) :
  Calls Tryz.prog 41 #[p0, .int .i64 a1] w0 fun e w => ∃ (v0 : Value), e = .returned (v0) ∧ Heap w0 [oA (rList rStr) v0 r] w := by
 unfold spec_l17Ready_m at hm
 have H := Heap.start w0
 obtain ⟨c31, h32, hat33⟩ := h0.ptr
 obtain ⟨c38, c39, rfl, h40, h41⟩ := h32
 obtain rfl := h40
 obtain ⟨c42, c43, rfl, h44, h45⟩ := h41
 obtain rfl := h44
 obtain ⟨c46, c47, rfl, h48, h49⟩ := h45
 obtain ⟨v34, rfl, h35⟩ := rd_list h48
 obtain ⟨v36, rfl, h37⟩ := rd_list h49
 refine enter (args := [p0, .int .i64 a1]) Tryz.func41 rfl 34 rfl (Nat.le_of_ble_eq_true rfl) (fun a S => ?_)
 refine wp_seq (region_plain ?_)
 refine lq (.slice none 0 0) S (q_assign rfl) fun a S => ?_
 refine lx_nil (thenN ?_)
 refine wp_seq (region_plain ?_)
 refine lx_buildSlice0 (r := rStr) S trivial (by decide) rfl H Tryz.underlying22 Tryz.sizeOf9 (fun v50 w51 H => ⟨trivial, fun a S => ?_⟩)
 refine lq v50 S (q_assign rfl) fun a S => ?_
 refine lx_nil (thenN ?_)
 refine wp_seq (wp_seq (region_plain ?_))
 refine lq (.int .i64 (0 : Int)) S (q_assign rfl) fun a S => ?_
 refine lx_nil (thenN ?_)
 obtain ⟨res122, hit123, hk126⟩ := bind_some hm
 obtain ⟨f124, hf125, hit123⟩ := iter_name hit123
 refine block_loop (fun a w => ∃ (xs120 : List Str) (v119 : Value), Slots a 34 [(5, v119)] ∧ Heap w0 [oA (rList rStr) v119 xs120] w ∧ res122 = .inl (xs120)) ?_ ?_
 ·rintro a w ⟨xs120, v119, S, H, rfl⟩
  have hm := ctl_inl hk126
  refine thenN ?_
  refine wp_seq (region_plain ?_)
  refine lq v119 S (q_move rfl) fun a S => ?_
  refine lq v119 S (q_assign rfl) fun a S => ?_
  refine lx_nil (thenN ?_)
  refine wp_ret ?_
  obtain rfl := Option.some.inj hm
  exact leave1 S rfl rfl ⟨v119, rfl, H⟩
 ·skip
  refine loop_ghost (fun n a w => ∃ (xs85 : List Str) (x87 : Int) (v84 : Value), Slots a 34 [(0, p0), (1, (.int .i64 a1)), (5, v84), (6, (.int .i64 x87))] ∧ Heap w0 [oA (rList rStr) v84 xs85] w ∧ iter f124 n (xs85, x87) = some res122) _ ⟨([] : List Str), (0 : Int), v50, S.sub ⟨rfl, rfl, rfl, rfl, trivial⟩, H, hit123⟩ ?_
  rintro n a w ⟨xs85, x87, v84, S, H, hit123⟩
  obtain ⟨m127, o128, rfl, hm, hc129⟩ := iter_step hit123
  rw [hf125] at hm
  refine wp_seq (wp_seq (region_plain ?_))
  refine lq (.int .i64 x87) S (q_move rfl) fun a S => ?_
  refine lq p0 S (q_move rfl) fun a S => ?_
  refine lq p0 S (q_nilCheck rfl ((hat33 0 _ rfl).isP)) fun a S => ?_
  refine lq (pAdd p0 2) S (q_fieldAddr' 2 22 rfl ((hat33 0 _ rfl).isP) Tryz.underlying33 rfl Tryz.sizeOf22) fun a S => ?_
  refine lx_e v34 S trivial (by decide) rfl trivial (q_load1 rfl Tryz.isAgg22 (by rintro _ rfl; exact (At.of_add (m := 2) (j := 0) ((hat33 2 _ rfl).ext H.ext)))) (fun a S => ?_)
  refine lq (.int .i64 (a0.2.2.1.length : Int)) S (q_lenSl rfl (h35).isSl rfl Tryz.underlying22) fun a S => ?_
  refine lq (.bool (decide (x87 < (a0.2.2.1.length : Int)))) S (q_lss rfl rfl) fun a S => ?_
  refine lx_nil (thenN ?_)
  refine cond_b S rfl (fun hc130 => ?_) (fun hc130 => ?_)
  ·have hm := ite_t hc130 hm
   refine wp_skip (thenN ?_)
   obtain ⟨K134, hK135, hm⟩ := join_elim hm
   refine seq_cut (fun a w => ∃ (xs132 : List Str) (v131 : Value), Slots a 34 [(0, p0), (1, (.int .i64 a1)), (5, v131), (6, (.int .i64 x87))] ∧ Heap w0 [oA (rList rStr) v131 xs132] w ∧ K134 xs132 = some o128) ?_ ?_
   ·rintro a w ⟨xs132, v131, S, H, hm⟩
    subst hK135
    refine region_plain ?_
    refine lq (.int .i64 x87) S (q_move rfl) fun a S => ?_
    refine lq (.int .i64 (W (x87 + (1 : Int)))) S (q_add rfl rfl) fun a S => ?_
    refine lq (.int .i64 (W (x87 + (1 : Int)))) S (q_assign rfl) fun a S => ?_
    refine lx_nil ?_
    exact ⟨m127, Nat.lt_succ_self _, xs132, (W (x87 + (1 : Int))), v131, S.sub ⟨rfl, rfl, rfl, rfl, trivial⟩, H, it_cont hm hc129⟩
   ·skip
    refine wp_block ?_
    refine wp_seq (region_plain ?_)
    refine lq p0 S (q_move rfl) fun a S => ?_
    refine lq (.int .i64 a1) S (q_move rfl) fun a S => ?_
    refine lq (.int .i64 x87) S (q_move rfl) fun a S => ?_
    obtain ⟨x138, e139, hm⟩ := bind_some hm
    refine lx_call (xs := [.tmp 17, .tmp 18, .tmp 19]) S trivial (by decide) rfl rfl Tryz.call66 ((spec_l11Next_ok (H.arg h0)   e139).mono ?_)
    rintro e w136 ⟨v140, rfl, Hc137⟩
    have H := H.call1 Hc137
    refine ⟨_, rfl, trivial, fun a S => ?_⟩
    refine lq (.int .i64 (x138.length : Int)) S (q_lenSl rfl (H.isSl 0 rfl) rfl Tryz.underlying28) fun a S => ?_
    refine lq (.bool (decide ((0 : Int) < (x138.length : Int)))) S (q_gtr rfl rfl) fun a S => ?_
    refine lx_nil (thenN ?_)
    refine cond_b S rfl (fun hc143 => ?_) (fun hc143 => ?_)
    ·have hm := ite_t hc143 hm
     refine region_plain ?_
     refine lq v84 S (q_move rfl) fun a S => ?_
     refine lq p0 S (q_move rfl) fun a S => ?_
     refine lq p0 S (q_nilCheck rfl ((hat33 0 _ rfl).isP)) fun a S => ?_
     refine lq (pAdd p0 2) S (q_fieldAddr' 2 22 rfl ((hat33 0 _ rfl).isP) Tryz.underlying33 rfl Tryz.sizeOf22) fun a S => ?_
     refine lx_e v34 S trivial (by decide) rfl trivial (q_load1 rfl Tryz.isAgg22 (by rintro _ rfl; exact (At.of_add (m := 2) (j := 0) ((hat33 2 _ rfl).ext H.ext)))) (fun a S => ?_)
     refine lq (.int .i64 x87) S (q_move rfl) fun a S => ?_
     obtain ⟨x144, e145, hm⟩ := bind_some hm
     obtain ⟨c146, h147, hat148⟩ := (h35).elem (idx_some e145).2
     obtain rfl := h147
     have hlt := lt_of_idx (idx_some e145).2
     refine lq (ePtr v34 (x87.toNat * 1)) S (q_indexAddr rfl (h35).isSl rfl (idx_some e145).1 hlt Tryz.underlying22 Tryz.sizeOf9) fun a S => ?_
     refine lx_e (sv x144) S trivial (by decide) rfl trivial (q_load1 rfl Tryz.isAgg9 (by rintro _ rfl; exact ((hat148 0 _ rfl).ext H.ext))) (fun a S => ?_)
     refine lx_buildSlice (r := rStr) (xs := [x144]) (ps := [(0, [(sv x144)])]) (cs := [(sv x144)]) (parts := [(0, .tmp 30)]) S trivial (by decide) rfl (H.put0 (A := eA) rfl) rfl Tryz.underlying22 Tryz.sizeOf9 Tryz.zeroValue9 (by decide) ⟨rfl, rfl, Nat.le_of_ble_eq_true rfl, trivial⟩ (by intro zs hz; exact fill_dense hz ⟨rfl, trivial⟩ rfl rfl) rfl (by decide) (fun w F hA => by cases (show F = [] from hA); exact ⟨_, _, [(sv x144)], _, rfl, rfl, ⟨rfl, rfl⟩, ⟨rfl, rfl⟩⟩) (fun v149 w150 H => ⟨trivial, fun a S => ?_⟩)
     obtain ⟨x152, e153, hm⟩ := bind_some hm
     obtain ⟨hle, hap⟩ := app_some e153
     replace hap := hap.symm
     subst hap
     have H : Heap w0 [oA (rList rStr) v149 [x144], oA (rList (rInt .i64)) v140 x138, oA (rList rStr) v84 xs85] w150 := H.front 0 rfl
     have H : Heap w0 [oA (rList rStr) v84 xs85, oA (rList rStr) v149 [x144], oA (rList (rInt .i64)) v140 x138] w150 := H.front 2 rfl
     refine lx_appendOwn (r := rStr) S trivial (by decide) rfl H rfl rfl Tryz.underlying22 Tryz.ti9 rfl rfl rfl (by decide) (by decide) hle (fun v154 w155 H => ⟨trivial, fun a S => ?_⟩)
     refine lq v154 S (q_assign rfl) fun a S => ?_
     refine lx_nil ?_
     refine inBlock_norm ?_
     have H : Heap w0 [oA (rList rStr) v154 (xs85 ++ [x144])] w155 := H.sel [0] (by decide)
     exact ⟨(xs85 ++ [x144]), v154, S.sub ⟨rfl, rfl, rfl, rfl, trivial⟩, H, hm⟩
    ·have hm := ite_f hc143 hm
     refine wp_skip ?_
     refine inBlock_norm ?_
     have H : Heap w0 [oA (rList rStr) v84 xs85] w136 := H.sel [1] (by decide)
     exact ⟨xs85, v84, S.sub ⟨rfl, rfl, rfl, rfl, trivial⟩, H, hm⟩
  ·have hm := ite_f hc130 hm
   refine wp_exit ?_
   refine then_exit ?_
   refine then_exit ?_
   refine inBlock_exit ?_
   obtain rfl := it_brk hm hc129
   exact ⟨xs85, v84, S.sub ⟨rfl, trivial⟩, H, rfl⟩

/-- spec.ReadyLabels -/
def spec_ReadyLabels_m (fuel : Nat) (a0 : Timpl_Lts) (a1 : Int) : Option (((List Str) × Int)) :=
  (spec_l11Is_m fuel (a0.1, a0.2.1, a0.2.2.1, a0.2.2.2)).bind fun x54 => (if (!x54) = true then some (([], (1 : Int))) else (spec_l11State_m fuel (a0.1, a0.2.1, a0.2.2.1, a0.2.2.2) a1).bind fun x61 => (if (!x61) = true then some (([], (2 : Int))) else (spec_l17Ready_m fuel (a0.1, a0.2.1, a0.2.2.1, a0.2.2.2) a1).bind fun x68 => some ((x68, (0 : Int)))))
set_option maxRecDepth 20000 in
theorem spec_ReadyLabels_ok {w0 : World} {fuel : Nat} {p0 : Value} {a0 : Timpl_Lts} {a1 : Int} {r : ((List Str) × Int)} (h0 : Rd Rimpl_Lts w0 p0 a0) (hm : spec_ReadyLabels_m fuel a0 a1 = some r) :
  Calls Tryz.prog 21 #[p0, .int .i64 a1] w0 fun e w => ∃ (v0 : Value), e = .returned (.tuple #[v0, .int .i64 r.2]) ∧ Heap w0 [oA (rList rStr) v0 r.1] w := by
 unfold spec_ReadyLabels_m at hm
 have H := Heap.start w0
 obtain ⟨c31, rfl, h32⟩ := h0
 obtain ⟨c37, c38, rfl, h39, h40⟩ := h32
 obtain rfl := h39
 obtain ⟨c41, c42, rfl, h43, h44⟩ := h40
 obtain rfl := h43
 obtain ⟨c45, c46, rfl, h47, h48⟩ := h44
 obtain ⟨v33, rfl, h34⟩ := rd_list h47
 obtain ⟨v35, rfl, h36⟩ := rd_list h48
 refine enter (args := [(.agg #[(.int .i64 a0.1), (.int .i64 a0.2.1), v33, v35]), .int .i64 a1]) Tryz.func21 rfl 13 rfl (Nat.le_of_ble_eq_true rfl) (fun a S => ?_)
 refine wp_seq (region_plain ?_)
 refine lx_box S trivial (by decide) rfl H rfl rfl (fun b49 w50 H => ⟨trivial, fun a S => ?_⟩)
 refine lq (.slice none 0 0) S (q_assign rfl) fun a S => ?_
 refine lq (.int .i64 (0 : Int)) S (q_assign rfl) fun a S => ?_
 refine lx_nil (thenN ?_)
 refine wp_seq (wp_seq (region_plain ?_))
 obtain ⟨x54, e55, hm⟩ := bind_some hm
 refine lx_call (xs := [.tmp 2]) S trivial (by decide) rfl rfl Tryz.call25 ((spec_l11Is_ok (rdPtr_box H 0 rfl ⟨[(.int .i64 a0.1)], [(.int .i64 a0.2.1), v33, v35], rfl, rfl, ⟨[(.int .i64 a0.2.1)], [v33, v35], rfl, rfl, ⟨[v33], [v35], rfl, ((H.arg h34)).list_rd, ((H.arg h36)).list_rd⟩⟩⟩) e55).mono ?_)
 rintro e w52 ⟨rfl, Hc53⟩
 have H := H.call0 Hc53
 refine ⟨_, rfl, trivial, fun a S => ?_⟩
 refine lq (.bool (!x54)) S (q_not rfl) fun a S => ?_
 refine lx_nil (thenN ?_)
 refine cond_b S rfl (fun hc57 => ?_) (fun hc57 => ?_)
 ·have hm := ite_t hc57 hm
  refine wp_seq (region_plain ?_)
  refine lq (.slice none 0 0) S (q_assign rfl) fun a S => ?_
  refine lq (.int .i64 (1 : Int)) S (q_assign rfl) fun a S => ?_
  refine lx_nil (thenN ?_)
  refine wp_ret (then_ret ?_)
  obtain rfl := Option.some.inj hm
  have H : Heap w0 [oA (rList rStr) (.slice none 0 0) ([] : List Str), bA b49 [(.int .i64 a0.1), (.int .i64 a0.2.1), v33, v35] 33] w52 := H.nilList rStr
  have H : Heap w0 [oA (rList rStr) (.slice none 0 0) ([] : List Str)] w52 := H.sel [0] (by decide)
  exact leave2 S rfl rfl rfl ⟨(.slice none 0 0), rfl, H⟩
 ·have hm := ite_f hc57 hm
  refine wp_skip (thenN ?_)
  refine wp_seq (wp_seq (region_plain ?_))
  refine lq (.int .i64 a1) S (q_move rfl) fun a S => ?_
  obtain ⟨x61, e62, hm⟩ := bind_some hm
  refine lx_call (xs := [.tmp 2, .tmp 8]) S trivial (by decide) rfl rfl Tryz.call40 ((spec_l11State_ok (rdPtr_box H 0 rfl ⟨[(.int .i64 a0.1)], [(.int .i64 a0.2.1), v33, v35], rfl, rfl, ⟨[(.int .i64 a0.2.1)], [v33, v35], rfl, rfl, ⟨[v33], [v35], rfl, ((H.arg h34)).list_rd, ((H.arg h36)).list_rd⟩⟩⟩)  e62).mono ?_)
  rintro e w59 ⟨rfl, Hc60⟩
  have H := H.call0 Hc60
  refine ⟨_, rfl, trivial, fun a S => ?_⟩
  refine lq (.bool (!x61)) S (q_not rfl) fun a S => ?_
  refine lx_nil (thenN ?_)
  refine cond_b S rfl (fun hc64 => ?_) (fun hc64 => ?_)
  ·have hm := ite_t hc64 hm
   refine wp_seq (region_plain ?_)
   refine lq (.slice none 0 0) S (q_assign rfl) fun a S => ?_
   refine lq (.int .i64 (2 : Int)) S (q_assign rfl) fun a S => ?_
   refine lx_nil (thenN ?_)
   refine wp_ret (then_ret ?_)
   obtain rfl := Option.some.inj hm
   have H : Heap w0 [oA (rList rStr) (.slice none 0 0) ([] : List Str), bA b49 [(.int .i64 a0.1), (.int .i64 a0.2.1), v33, v35] 33] w59 := H.nilList rStr
   have H : Heap w0 [oA (rList rStr) (.slice none 0 0) ([] : List Str)] w59 := H.sel [0] (by decide)
   exact leave2 S rfl rfl rfl ⟨(.slice none 0 0), rfl, H⟩
  ·have hm := ite_f hc64 hm
   refine wp_skip (thenN ?_)
   refine wp_seq (region_plain ?_)
   refine lq (.int .i64 a1) S (q_move rfl) fun a S => ?_
   obtain ⟨x68, e69, hm⟩ := bind_some hm
   refine lx_call (xs := [.tmp 2, .tmp 11]) S trivial (by decide) rfl rfl Tryz.call41 ((spec_l17Ready_ok (rdPtr_box H 0 rfl ⟨[(.int .i64 a0.1)], [(.int .i64 a0.2.1), v33, v35], rfl, rfl, ⟨[(.int .i64 a0.2.1)], [v33, v35], rfl, rfl, ⟨[v33], [v35], rfl, ((H.arg h34)).list_rd, ((H.arg h36)).list_rd⟩⟩⟩)  e69).mono ?_)
   rintro e w66 ⟨v70, rfl, Hc67⟩
   have H := H.call1 Hc67
   refine ⟨_, rfl, trivial, fun a S => ?_⟩
   refine lq v70 S (q_assign rfl) fun a S => ?_
   refine lq (.int .i64 (0 : Int)) S (q_assign rfl) fun a S => ?_
   refine lx_nil (thenN ?_)
   refine wp_ret ?_
   obtain rfl := Option.some.inj hm
   have H : Heap w0 [oA (rList rStr) v70 x68] w66 := H.sel [0] (by decide)
   exact leave2 S rfl rfl rfl ⟨v70, rfl, H⟩

/-- impl.ltsCode -/
def impl_ltsCode_m (fuel : Nat) (a0 : Timpl_Lts) (a1 : Int) : Option (Int) :=
  (impl_ValidLts_m fuel (a0.1, a0.2.1, a0.2.2.1, a0.2.2.2)).bind fun x54 => (if (!x54) = true then some ((1 : Int)) else (impl_Lts_isState_m fuel (a0.1, a0.2.1, a0.2.2.1, a0.2.2.2) a1).bind fun x60 => (if (!x60) = true then some ((2 : Int)) else some ((0 : Int))))
set_option maxRecDepth 20000 in
theorem impl_ltsCode_ok {w0 : World} {fuel : Nat} {p0 : Value} {a0 : Timpl_Lts} {a1 : Int} {r : Int} (hG : Glob Tryz.prog w0) (h0 : Rd Rimpl_Lts w0 p0 a0) (hm : impl_ltsCode_m fuel a0 a1 = some r) :
  Calls Tryz.prog 42 #[p0, .int .i64 a1] w0 fun e w => e = .returned (.int .i64 r) ∧ Heap w0 [] w := by
 unfold impl_ltsCode_m at hm
 have H := Heap.start w0
 obtain ⟨c31, rfl, h32⟩ := h0
 obtain ⟨c37, c38, rfl, h39, h40⟩ := h32
 obtain rfl := h39
 obtain ⟨c41, c42, rfl, h43, h44⟩ := h40
 obtain rfl := h43
 obtain ⟨c45, c46, rfl, h47, h48⟩ := h44
 obtain ⟨v33, rfl, h34⟩ := rd_list h47
 obtain ⟨v35, rfl, h36⟩ := rd_list h48
 refine enter (args := [(.agg #[(.int .i64 a0.1), (.int .i64 a0.2.1), v33, v35]), .int .i64 a1]) Tryz.func42 rfl 14 rfl (Nat.le_of_ble_eq_true rfl) (fun a S => ?_)
 refine wp_seq (region_plain ?_)
 refine lx_box S trivial (by decide) rfl H rfl rfl (fun b49 w50 H => ⟨trivial, fun a S => ?_⟩)
 refine lq (.int .i64 (0 : Int)) S (q_assign rfl) fun a S => ?_
 refine lx_nil (thenN ?_)
 refine wp_seq ?_
 refine wp_block ?_
 refine wp_seq (region_plain ?_)
 refine lx_e (.agg #[(.int .i64 a0.1), (.int .i64 a0.2.1), v33, v35]) S trivial (by decide) rfl trivial (q_loadA (cs := [(.int .i64 a0.1), (.int .i64 a0.2.1), v33, v35]) rfl (isP_bp _) Tryz.isAgg33 Tryz.sizeOf33 (by rintro _ rfl; exact (fun j u hu => boxAt (i := 0) H rfl hu))) (fun a S => ?_)
 obtain ⟨x54, e55, hm⟩ := bind_some hm
 refine lx_call (xs := [.tmp 6]) S trivial (by decide) rfl rfl Tryz.call29 ((impl_ValidLts_ok (hG.ext H.ext) ⟨[(.int .i64 a0.1), (.int .i64 a0.2.1), v33, v35], rfl, ⟨[(.int .i64 a0.1)], [(.int .i64 a0.2.1), v33, v35], rfl, rfl, ⟨[(.int .i64 a0.2.1)], [v33, v35], rfl, rfl, ⟨[v33], [v35], rfl, ((H.arg h34)).list_rd, ((H.arg h36)).list_rd⟩⟩⟩⟩ e55).mono ?_)
 rintro e w52 ⟨rfl, Hc53⟩
 have H := H.call0 Hc53
 refine ⟨_, rfl, trivial, fun a S => ?_⟩
 refine lq (.bool (!x54)) S (q_not rfl) fun a S => ?_
 refine lq (.bool (!x54)) S (q_assign rfl) fun a S => ?_
 refine lx_nil (thenN ?_)
 refine cond_b S rfl (fun hc57 => ?_) (fun hc57 => ?_)
 ·have hm := ite_t hc57 hm
  refine wp_seq (region_plain ?_)
  refine lq (.int .i64 (1 : Int)) S (q_assign rfl) fun a S => ?_
  refine lx_nil (thenN ?_)
  refine wp_ret (inBlock_ret ?_)
  refine then_ret ?_
  obtain rfl := Option.some.inj hm
  have H : Heap w0 [] w52 := H.sel [] (by decide)
  exact leave1 S rfl rfl ⟨rfl, H⟩
 ·have hm := ite_f hc57 hm
  refine wp_seq (region_plain ?_)
  refine lx_e (.agg #[(.int .i64 a0.1), (.int .i64 a0.2.1), v33, v35]) S trivial (by decide) rfl trivial (q_loadA (cs := [(.int .i64 a0.1), (.int .i64 a0.2.1), v33, v35]) rfl (isP_bp _) Tryz.isAgg33 Tryz.sizeOf33 (by rintro _ rfl; exact (fun j u hu => boxAt (i := 0) H rfl hu))) (fun a S => ?_)
  refine lq (.int .i64 a1) S (q_move rfl) fun a S => ?_
  obtain ⟨x60, e61, hm⟩ := bind_some hm
  refine lx_call (xs := [.tmp 10, .tmp 11]) S trivial (by decide) rfl rfl Tryz.call53 ((impl_Lts_isState_ok ⟨[(.int .i64 a0.1), (.int .i64 a0.2.1), v33, v35], rfl, ⟨[(.int .i64 a0.1)], [(.int .i64 a0.2.1), v33, v35], rfl, rfl, ⟨[(.int .i64 a0.2.1)], [v33, v35], rfl, rfl, ⟨[v33], [v35], rfl, ((H.arg h34)).list_rd, ((H.arg h36)).list_rd⟩⟩⟩⟩  e61).mono ?_)
  rintro e w58 ⟨rfl, Hc59⟩
  have H := H.call0 Hc59
  refine ⟨_, rfl, trivial, fun a S => ?_⟩
  refine lq (.bool (!x60)) S (q_not rfl) fun a S => ?_
  refine lq (.bool (!x60)) S (q_assign rfl) fun a S => ?_
  refine lx_nil (thenN ?_)
  refine cond_b S rfl (fun hc63 => ?_) (fun hc63 => ?_)
  ·have hm := ite_t hc63 hm
   refine wp_seq (region_plain ?_)
   refine lq (.int .i64 (2 : Int)) S (q_assign rfl) fun a S => ?_
   refine lx_nil (thenN ?_)
   refine wp_ret (inBlock_ret ?_)
   refine then_ret ?_
   obtain rfl := Option.some.inj hm
   have H : Heap w0 [] w58 := H.sel [] (by decide)
   exact leave1 S rfl rfl ⟨rfl, H⟩
  ·have hm := ite_f hc63 hm
   refine wp_skip ?_
   refine inBlock_norm ?_
   refine thenN ?_
   refine wp_seq (region_plain ?_)
   refine lq (.int .i64 (0 : Int)) S (q_assign rfl) fun a S => ?_
   refine lx_nil (thenN ?_)
   refine wp_ret ?_
   obtain rfl := Option.some.inj hm
   have H : Heap w0 [] w58 := H.sel [] (by decide)
   exact leave1 S rfl rfl ⟨rfl, H⟩

/-- (impl.Lts).out -/
def impl_Lts_out_m (fuel : Nat) (a0 : Timpl_Lts) (a1 : Int) : Option ((List Timpl_Edge)) :=
  (iter (fun (s : (List Timpl_Edge) × (Int)) => (match s with | (xs91, x93) => (if (decide (x93 < (a0.2.2.2.length : Int))) = true then join (κ := List Timpl_Edge → Option (((List Timpl_Edge) × (Int)) ⊕ (((List Timpl_Edge)) ⊕ ((List Timpl_Edge))))) (fun (xs144 : List Timpl_Edge) => some (.inl (xs144, (W (x93 + (1 : Int)))))) (fun K146 => (idx a0.2.2.2 x93).bind fun x148 => (if (x148.1 == a1) = true then (app xs91 [(x148.1, x148.2.1, x148.2.2)]).bind fun x169 => (K146 x169) else (K146 xs91))) else some (.inr (.inl (xs91)))) : Option (((List Timpl_Edge) × (Int)) ⊕ (((List Timpl_Edge)) ⊕ ((List Timpl_Edge)))))) fuel ([], (0 : Int))).bind fun res133 => ctl (β := (List Timpl_Edge)) (ρ := (List Timpl_Edge)) (τ := (List Timpl_Edge)) res133 (fun (xs131) => some (xs131)) (fun q => some (q))
set_option maxRecDepth 20000 in
theorem impl_Lts_out_ok {w0 : World} {fuel : Nat} {p0 : Value} {a0 : Timpl_Lts} {a1 : Int} {r : (List Timpl_Edge)} (h0 : Rd Rimpl_Lts w0 p0 a0) (hm : impl_Lts_out_m fuel a0 a1 = some r) :
  Calls Tryz.prog 67 #[p0, .int .i64 a1] w0 fun e w => ∃ (v0 : Value), e = .returned (v0) ∧ Heap w0 [oA (rList Rimpl_Edge) v0 r] w := by
 unfold impl_Lts_out_m at hm
 have H := Heap.start w0
 obtain ⟨c31, rfl, h32⟩ := h0
 obtain ⟨c37, c38, rfl, h39, h40⟩ := h32
 obtain rfl := h39
 obtain ⟨c41, c42, rfl, h43, h44⟩ := h40
 obtain rfl := h43
 obtain ⟨c45, c46, rfl, h47, h48⟩ := h44
 obtain ⟨v33, rfl, h34⟩ := rd_list h47
 obtain ⟨v35, rfl, h36⟩ := rd_list h48
 refine enter (args := [(.agg #[(.int .i64 a0.1), (.int .i64 a0.2.1), v33, v35]), .int .i64 a1]) Tryz.func67 rfl 25 rfl (Nat.le_of_ble_eq_true rfl) (fun a S => ?_)
 refine wp_seq (region_plain ?_)
 refine lx_box S trivial (by decide) rfl H rfl rfl (fun b49 w50 H => ⟨trivial, fun a S => ?_⟩)
 refine lq (.slice none 0 0) S (q_assign rfl) fun a S => ?_
 refine lx_nil (thenN ?_)
 refine wp_seq (region_plain ?_)
 refine lq (.slice none 0 0) S (q_assign rfl) fun a S => ?_
 refine lx_nil (thenN ?_)
 refine wp_seq (wp_seq (region_plain ?_))
 refine lq (pAdd (bp b49) 3) S (q_fieldAddr' 3 31 rfl (isP_bp _) Tryz.underlying33 rfl Tryz.sizeOf31) fun a S => ?_
 refine lx_e v35 S trivial (by decide) rfl trivial (q_load1 rfl Tryz.isAgg31 (by rintro _ rfl; exact (At.of_add (m := 3) (j := 0) (boxAt (i := 0) H rfl (j := 3) rfl)))) (fun a S => ?_)
 refine lq (.int .i64 (a0.2.2.2.length : Int)) S (q_lenSl rfl (h36).isSl rfl Tryz.underlying31) fun a S => ?_
 refine lq (.int .i64 (0 : Int)) S (q_move rfl) fun a S => ?_
 refine lx_nil (thenN ?_)
 obtain ⟨res133, hit134, hk137⟩ := bind_some hm
 obtain ⟨f135, hf136, hit134⟩ := iter_name hit134
 refine block_loop (fun a w => ∃ (xs131 : List Timpl_Edge) (v130 : Value), Slots a 25 [(5, v130)] ∧ Heap w0 [oA (rList Rimpl_Edge) v130 xs131] w ∧ res133 = .inl (xs131)) ?_ ?_
 ·rintro a w ⟨xs131, v130, S, H, rfl⟩
  have hm := ctl_inl hk137
  refine thenN ?_
  refine wp_seq (region_plain ?_)
  refine lq v130 S (q_move rfl) fun a S => ?_
  refine lq v130 S (q_assign rfl) fun a S => ?_
  refine lx_nil (thenN ?_)
  refine wp_ret ?_
  obtain rfl := Option.some.inj hm
  exact leave1 S rfl rfl ⟨v130, rfl, H⟩
 ·skip
  have H : Heap w0 [oA (rList Rimpl_Edge) (.slice none 0 0) ([] : List Timpl_Edge), bA b49 [(.int .i64 a0.1), (.int .i64 a0.2.1), v33, v35] 33] w50 := H.nilList Rimpl_Edge
  have H : Heap w0 [oA (rList Rimpl_Edge) (.slice none 0 0) ([] : List Timpl_Edge)] w50 := H.sel [0] (by decide)
  refine loop_ghost (fun n a w => ∃ (xs91 : List Timpl_Edge) (x93 : Int) (v90 : Value), Slots a 25 [(1, (.int .i64 a1)), (5, v90), (9, v35), (10, (.int .i64 (a0.2.2.2.length : Int))), (11, (.int .i64 x93))] ∧ Heap w0 [oA (rList Rimpl_Edge) v90 xs91] w ∧ iter f135 n (xs91, x93) = some res133) _ ⟨[], (0 : Int), (.slice none 0 0), S.sub ⟨rfl, rfl, rfl, rfl, rfl, trivial⟩, H, hit134⟩ ?_
  rintro n a w ⟨xs91, x93, v90, S, H, hit134⟩
  obtain ⟨m139, o140, rfl, hm, hc141⟩ := iter_step hit134
  rw [hf136] at hm
  refine wp_seq (region_plain ?_)
  refine lq (.bool (decide (x93 < (a0.2.2.2.length : Int)))) S (q_lss rfl rfl) fun a S => ?_
  refine lx_nil (thenN ?_)
  refine wp_seq ?_
  refine cond_b S rfl (fun hc142 => ?_) (fun hc142 => ?_)
  ·have hm := ite_t hc142 hm
   refine wp_skip (thenN ?_)
   obtain ⟨K146, hK147, hm⟩ := join_elim hm
   refine seq_cut (fun a w => ∃ (xs144 : List Timpl_Edge) (v143 : Value), Slots a 25 [(1, (.int .i64 a1)), (5, v143), (9, v35), (10, (.int .i64 (a0.2.2.2.length : Int))), (11, (.int .i64 x93))] ∧ Heap w0 [oA (rList Rimpl_Edge) v143 xs144] w ∧ K146 xs144 = some o140) ?_ ?_
   ·rintro a w ⟨xs144, v143, S, H, hm⟩
    subst hK147
    refine region_plain ?_
    refine lq (.int .i64 (W (x93 + (1 : Int)))) S (q_add rfl rfl) fun a S => ?_
    refine lq (.int .i64 (W (x93 + (1 : Int)))) S (q_move rfl) fun a S => ?_
    refine lx_nil ?_
    exact ⟨m139, Nat.lt_succ_self _, xs144, (W (x93 + (1 : Int))), v143, S.sub ⟨rfl, rfl, rfl, rfl, rfl, trivial⟩, H, it_cont hm hc141⟩
   ·skip
    refine wp_block ?_
    refine wp_seq (region_plain ?_)
    obtain ⟨x148, e149, hm⟩ := bind_some hm
    obtain ⟨c150, h151, hat152⟩ := (h36).elem (idx_some e149).2
    obtain ⟨c153, c154, rfl, h155, h156⟩ := h151
    obtain rfl := h155
    obtain ⟨c157, c158, rfl, h159, h160⟩ := h156
    obtain rfl := h159
    obtain rfl := h160
    have hlt := lt_of_idx (idx_some e149).2
    refine lq (ePtr v35 (x93.toNat * 3)) S (q_indexAddr rfl (h36).isSl rfl (idx_some e149).1 hlt Tryz.underlying31 Tryz.sizeOf57) fun a S => ?_
    refine lx_e (.agg #[(.int .i64 x148.1), (.int .i64 x148.2.1), (.int .i64 x148.2.2)]) S trivial (by decide) rfl trivial (q_loadA (cs := [(.int .i64 x148.1), (.int .i64 x148.2.1), (.int .i64 x148.2.2)]) rfl ((hat152 0 _ rfl).isP) Tryz.isAgg57 Tryz.sizeOf57 (by rintro _ rfl; exact (fun j u hu => (hat152 j u hu).ext H.ext))) (fun a S => ?_)
    refine lx_alloc S trivial (by decide) rfl H Tryz.zeroValue57 rfl (fun b161 w162 H => ⟨trivial, fun a S => ?_⟩)
    refine lx_storeBox (o := 0) (i := 0) (us := [(.int .i64 x148.1), (.int .i64 x148.2.1), (.int .i64 x148.2.2)]) (cs' := [(.int .i64 x148.1), (.int .i64 x148.2.1), (.int .i64 x148.2.2)]) S trivial rfl H rfl rfl rfl rfl Tryz.sizeOf57 (Nat.le_of_ble_eq_true rfl) (List.forall_mem_cons.2 ⟨rfl, (List.forall_mem_cons.2 ⟨rfl, (List.forall_mem_cons.2 ⟨rfl, (fun _ h => nomatch h)⟩)⟩)⟩) rfl (fun w164 H => ⟨trivial, fun a S => ?_⟩)
    change Heap w0 [bA b161 [(.int .i64 x148.1), (.int .i64 x148.2.1), (.int .i64 x148.2.2)] 57, oA (rList Rimpl_Edge) v90 xs91] w164 at H
    refine lx_nil (thenN ?_)
    refine wp_seq (region_plain ?_)
    refine lq (pAdd (bp b161) 0) S (q_fieldAddr' 0 2 rfl (isP_bp _) Tryz.underlying57 rfl Tryz.sizeOf2) fun a S => ?_
    refine lx_e (.int .i64 x148.1) S trivial (by decide) rfl trivial (q_load1 rfl Tryz.isAgg2 (by rintro _ rfl; exact (At.of_add (m := 0) (j := 0) (boxAt (i := 0) H rfl (j := 0) rfl)))) (fun a S => ?_)
    refine lq (.int .i64 a1) S (q_move rfl) fun a S => ?_
    refine lq (.bool (x148.1 == a1)) S (q_eql rfl rfl) fun a S => ?_
    refine lx_nil (thenN ?_)
    refine cond_b S rfl (fun hc165 => ?_) (fun hc165 => ?_)
    ·have hm := ite_t hc165 hm
     refine region_plain ?_
     refine lq v90 S (q_move rfl) fun a S => ?_
     refine lx_e (.agg #[(.int .i64 x148.1), (.int .i64 x148.2.1), (.int .i64 x148.2.2)]) S trivial (by decide) rfl trivial (q_loadA (cs := [(.int .i64 x148.1), (.int .i64 x148.2.1), (.int .i64 x148.2.2)]) rfl (isP_bp _) Tryz.isAgg57 Tryz.sizeOf57 (by rintro _ rfl; exact (fun j u hu => boxAt (i := 0) H rfl hu))) (fun a S => ?_)
     refine lx_buildSlice (r := Rimpl_Edge) (xs := [(x148.1, x148.2.1, x148.2.2)]) (ps := [(0, [(.int .i64 x148.1), (.int .i64 x148.2.1), (.int .i64 x148.2.2)])]) (cs := [(.int .i64 x148.1), (.int .i64 x148.2.1), (.int .i64 x148.2.2)]) (parts := [(0, .tmp 20)]) S trivial (by decide) rfl (H.put0 (A := eA) rfl) rfl Tryz.underlying31 Tryz.sizeOf57 Tryz.zeroValue57 (by decide) ⟨rfl, rfl, Nat.le_of_ble_eq_true rfl, trivial⟩ (by intro zs hz; exact fill_dense hz ⟨rfl, trivial⟩ rfl rfl) rfl (by decide) (fun w F hA => by cases (show F = [] from hA); exact ⟨_, _, [(.int .i64 x148.1), (.int .i64 x148.2.1), (.int .i64 x148.2.2)], _, rfl, rfl, ⟨_, _, [(.int .i64 x148.1)], [(.int .i64 x148.2.1), (.int .i64 x148.2.2)], rfl, rfl, ⟨rfl, rfl⟩, ⟨_, _, [(.int .i64 x148.2.1)], [(.int .i64 x148.2.2)], rfl, rfl, ⟨rfl, rfl⟩, ⟨rfl, rfl⟩⟩⟩, ⟨rfl, rfl⟩⟩) (fun v166 w167 H => ⟨trivial, fun a S => ?_⟩)
     obtain ⟨x169, e170, hm⟩ := bind_some hm
     obtain ⟨hle, hap⟩ := app_some e170
     replace hap := hap.symm
     subst hap
     have H : Heap w0 [oA (rList Rimpl_Edge) v166 [(x148.1, x148.2.1, x148.2.2)], bA b161 [(.int .i64 x148.1), (.int .i64 x148.2.1), (.int .i64 x148.2.2)] 57, oA (rList Rimpl_Edge) v90 xs91] w167 := H.front 0 rfl
     have H : Heap w0 [oA (rList Rimpl_Edge) v90 xs91, oA (rList Rimpl_Edge) v166 [(x148.1, x148.2.1, x148.2.2)], bA b161 [(.int .i64 x148.1), (.int .i64 x148.2.1), (.int .i64 x148.2.2)] 57] w167 := H.front 2 rfl
     refine lx_appendOwn (r := Rimpl_Edge) S trivial (by decide) rfl H rfl rfl Tryz.underlying31 Tryz.ti57 rfl rfl rfl (by decide) (by decide) hle (fun v171 w172 H => ⟨trivial, fun a S => ?_⟩)
     refine lq v171 S (q_assign rfl) fun a S => ?_
     refine lx_nil ?_
     refine inBlock_norm ?_
     have H : Heap w0 [oA (rList Rimpl_Edge) v171 (xs91 ++ [(x148.1, x148.2.1, x148.2.2)])] w172 := H.sel [0] (by decide)
     exact ⟨(xs91 ++ [(x148.1, x148.2.1, x148.2.2)]), v171, S.sub ⟨rfl, rfl, rfl, rfl, rfl, trivial⟩, H, hm⟩
    ·have hm := ite_f hc165 hm
     refine wp_skip ?_
     refine inBlock_norm ?_
     have H : Heap w0 [oA (rList Rimpl_Edge) v90 xs91] w164 := H.sel [1] (by decide)
     exact ⟨xs91, v90, S.sub ⟨rfl, rfl, rfl, rfl, rfl, trivial⟩, H, hm⟩
  ·have hm := ite_f hc142 hm
   refine wp_exit ?_
   refine then_exit ?_
   refine then_exit ?_
   refine inBlock_exit ?_
   obtain rfl := it_brk hm hc141
   exact ⟨xs91, v90, S.sub ⟨rfl, trivial⟩, H, rfl⟩

/-- impl.compareLabels -/
def impl_compareLabels_m (fuel : Nat) (a0 : Str) (a1 : Str) : Option (Int) :=
  (if (a0 == a1) = true then some ((0 : Int)) else (if (a0 == ([116, 97, 117] : Str)) = true then some ((-1 : Int)) else (if (a1 == ([116, 97, 117] : Str)) = true then some ((1 : Int)) else (strings_Compare_m fuel a0 a1).bind fun x36 => some (x36))))
set_option maxRecDepth 20000 in
theorem impl_compareLabels_ok {w0 : World} {fuel : Nat} {a0 : Str} {a1 : Str} {r : Int} (hm : impl_compareLabels_m fuel a0 a1 = some r) :
  Calls Tryz.prog 69 #[sv a0, sv a1] w0 fun e w => e = .returned (.int .i64 r) ∧ Heap w0 [] w := by
 unfold impl_compareLabels_m at hm
 have H := Heap.start w0
 refine enter (args := [sv a0, sv a1]) Tryz.func69 rfl 18 rfl (Nat.le_of_ble_eq_true rfl) (fun a S => ?_)
 refine wp_seq (region_plain ?_)
 refine lq (.int .i64 (0 : Int)) S (q_assign rfl) fun a S => ?_
 refine lx_nil (thenN ?_)
 refine wp_seq ?_
 refine wp_block ?_
 refine wp_seq (region_plain ?_)
 refine lq (sv a0) S (q_move rfl) fun a S => ?_
 refine lq (sv a1) S (q_move rfl) fun a S => ?_
 refine lq (.bool (a0 == a1)) S (q_seql rfl rfl) fun a S => ?_
 refine lq (.bool (a0 == a1)) S (q_assign rfl) fun a S => ?_
 refine lx_nil (thenN ?_)
 refine cond_b S rfl (fun hc31 => ?_) (fun hc31 => ?_)
 ·have hm := ite_t hc31 hm
  refine wp_seq (region_plain ?_)
  refine lq (.int .i64 (0 : Int)) S (q_assign rfl) fun a S => ?_
  refine lx_nil (thenN ?_)
  refine wp_ret (inBlock_ret ?_)
  refine then_ret ?_
  obtain rfl := Option.some.inj hm
  exact leave1 S rfl rfl ⟨rfl, H⟩
 ·have hm := ite_f hc31 hm
  refine wp_seq (region_plain ?_)
  refine lq (sv a0) S (q_move rfl) fun a S => ?_
  refine lq (.bool (a0 == ([116, 97, 117] : Str))) S (q_seql rfl rfl) fun a S => ?_
  refine lq (.bool (a0 == ([116, 97, 117] : Str))) S (q_assign rfl) fun a S => ?_
  refine lx_nil (thenN ?_)
  refine cond_b S rfl (fun hc32 => ?_) (fun hc32 => ?_)
  ·have hm := ite_t hc32 hm
   refine wp_seq (region_plain ?_)
   refine lq (.int .i64 (-1 : Int)) S (q_assign rfl) fun a S => ?_
   refine lx_nil (thenN ?_)
   refine wp_ret (inBlock_ret ?_)
   refine then_ret ?_
   obtain rfl := Option.some.inj hm
   exact leave1 S rfl rfl ⟨rfl, H⟩
  ·have hm := ite_f hc32 hm
   refine wp_seq (region_plain ?_)
   refine lq (sv a1) S (q_move rfl) fun a S => ?_
   refine lq (.bool (a1 == ([116, 97, 117] : Str))) S (q_seql rfl rfl) fun a S => ?_
   refine lq (.bool (a1 == ([116, 97, 117] : Str))) S (q_assign rfl) fun a S => ?_
   refine lx_nil (thenN ?_)
   refine cond_b S rfl (fun hc33 => ?_) (fun hc33 => ?_)
   ·have hm := ite_t hc33 hm
    refine wp_seq (region_plain ?_)
    refine lq (.int .i64 (1 : Int)) S (q_assign rfl) fun a S => ?_
    refine lx_nil (thenN ?_)
    refine wp_ret (inBlock_ret ?_)
    refine then_ret ?_
    obtain rfl := Option.some.inj hm
    exact leave1 S rfl rfl ⟨rfl, H⟩
   ·have hm := ite_f hc33 hm
    refine wp_skip ?_
    refine inBlock_norm ?_
    refine thenN ?_
    refine wp_seq (region_plain ?_)
    refine lq (sv a0) S (q_move rfl) fun a S => ?_
    refine lq (sv a1) S (q_move rfl) fun a S => ?_
    obtain ⟨x36, e37, hm⟩ := bind_some hm
    refine lx_call (xs := [.tmp 15, .tmp 16]) S trivial (by decide) rfl rfl Tryz.call85 ((strings_Compare_ok   e37).mono ?_)
    rintro e w34 ⟨rfl, Hc35⟩
    have H := H.call0 Hc35
    refine ⟨_, rfl, trivial, fun a S => ?_⟩
    refine lq (.int .i64 x36) S (q_assign rfl) fun a S => ?_
    refine lx_nil (thenN ?_)
    refine wp_ret ?_
    obtain rfl := Option.some.inj hm
    exact leave1 S rfl rfl ⟨rfl, H⟩

set_option maxRecDepth 20000 in
theorem impl_compareLabels_gr {w0 : World} {fuel : Nat} {a0 : Str} {a1 : Str} {r : Int} (hm : impl_compareLabels_m fuel a0 a1 = some r) :
  Calls Tryz.prog 69 #[sv a0, sv a1] w0 fun e w => e = .returned (.int .i64 r) ∧ w = w0 := by
 unfold impl_compareLabels_m at hm
 refine enter (args := [sv a0, sv a1]) Tryz.func69 rfl 18 rfl (Nat.le_of_ble_eq_true rfl) (fun a S => ?_)
 refine wp_seq (region_plain ?_)
 refine lq (.int .i64 (0 : Int)) S (q_assign rfl) fun a S => ?_
 refine lx_nil (thenN ?_)
 refine wp_seq ?_
 refine wp_block ?_
 refine wp_seq (region_plain ?_)
 refine lq (sv a0) S (q_move rfl) fun a S => ?_
 refine lq (sv a1) S (q_move rfl) fun a S => ?_
 refine lq (.bool (a0 == a1)) S (q_seql rfl rfl) fun a S => ?_
 refine lq (.bool (a0 == a1)) S (q_assign rfl) fun a S => ?_
 refine lx_nil (thenN ?_)
 refine cond_b S rfl (fun hc31 => ?_) (fun hc31 => ?_)
 ·have hm := ite_t hc31 hm
  refine wp_seq (region_plain ?_)
  refine lq (.int .i64 (0 : Int)) S (q_assign rfl) fun a S => ?_
  refine lx_nil (thenN ?_)
  refine wp_ret (inBlock_ret ?_)
  refine then_ret ?_
  obtain rfl := Option.some.inj hm
  exact leave1 S rfl rfl ⟨rfl, rfl⟩
 ·have hm := ite_f hc31 hm
  refine wp_seq (region_plain ?_)
  refine lq (sv a0) S (q_move rfl) fun a S => ?_
  refine lq (.bool (a0 == ([116, 97, 117] : Str))) S (q_seql rfl rfl) fun a S => ?_
  refine lq (.bool (a0 == ([116, 97, 117] : Str))) S (q_assign rfl) fun a S => ?_
  refine lx_nil (thenN ?_)
  refine cond_b S rfl (fun hc32 => ?_) (fun hc32 => ?_)
  ·have hm := ite_t hc32 hm
   refine wp_seq (region_plain ?_)
   refine lq (.int .i64 (-1 : Int)) S (q_assign rfl) fun a S => ?_
   refine lx_nil (thenN ?_)
   refine wp_ret (inBlock_ret ?_)
   refine then_ret ?_
   obtain rfl := Option.some.inj hm
   exact leave1 S rfl rfl ⟨rfl, rfl⟩
  ·have hm := ite_f hc32 hm
   refine wp_seq (region_plain ?_)
   refine lq (sv a1) S (q_move rfl) fun a S => ?_
   refine lq (.bool (a1 == ([116, 97, 117] : Str))) S (q_seql rfl rfl) fun a S => ?_
   refine lq (.bool (a1 == ([116, 97, 117] : Str))) S (q_assign rfl) fun a S => ?_
   refine lx_nil (thenN ?_)
   refine cond_b S rfl (fun hc33 => ?_) (fun hc33 => ?_)
   ·have hm := ite_t hc33 hm
    refine wp_seq (region_plain ?_)
    refine lq (.int .i64 (1 : Int)) S (q_assign rfl) fun a S => ?_
    refine lx_nil (thenN ?_)
    refine wp_ret (inBlock_ret ?_)
    refine then_ret ?_
    obtain rfl := Option.some.inj hm
    exact leave1 S rfl rfl ⟨rfl, rfl⟩
   ·have hm := ite_f hc33 hm
    refine wp_skip ?_
    refine inBlock_norm ?_
    refine thenN ?_
    refine wp_seq (region_plain ?_)
    refine lq (sv a0) S (q_move rfl) fun a S => ?_
    refine lq (sv a1) S (q_move rfl) fun a S => ?_
    obtain ⟨x36, e37, hm⟩ := bind_some hm
    refine lx_call (xs := [.tmp 15, .tmp 16]) S trivial (by decide) rfl rfl Tryz.call85 ((strings_Compare_gr e37).mono ?_)
    rintro e w34 ⟨rfl, rfl⟩
    refine ⟨_, rfl, trivial, fun a S => ?_⟩
    refine lq (.int .i64 x36) S (q_assign rfl) fun a S => ?_
    refine lx_nil (thenN ?_)
    refine wp_ret ?_
    obtain rfl := Option.some.inj hm
    exact leave1 S rfl rfl ⟨rfl, rfl⟩

/-- (impl.Lts).readyLabels -/
def impl_Lts_readyLabels_m (fuel : Nat) (a0 : Timpl_Lts) (a1 : Int) : Option ((List Str)) :=
  (impl_Lts_out_m fuel (a0.1, a0.2.1, a0.2.2.1, a0.2.2.2) a1).bind fun x54 => (iter (fun (s : (List Str) × (Int)) => (match s with | (xs96, x98) => (if (decide (x98 < (x54.length : Int))) = true then (idx x54 x98).bind fun x157 => (idx a0.2.2.1 x157.2.1).bind fun x174 => (app xs96 [x174]).bind fun x182 => some (.inl (x182, (W (x98 + (1 : Int))))) else some (.inr (.inl (xs96)))) : Option (((List Str) × (Int)) ⊕ (((List Str)) ⊕ ((List Str)))))) fuel ([], (0 : Int))).bind fun res137 => ctl (β := (List Str)) (ρ := (List Str)) (τ := (List Str)) res137 (fun (xs135) => (slices_SortFunc__string_string_m fuel xs135 (fun (z0 : Str) (z1 : Str) => impl_compareLabels_m fuel z0 z1)).bind fun x144 => (slices_Compact__string_string_m fuel x144).bind fun x148 => some (x148)) (fun q => some (q))
set_option maxRecDepth 20000 in
theorem impl_Lts_readyLabels_ok {w0 : World} {fuel : Nat} {p0 : Value} {a0 : Timpl_Lts} {a1 : Int} {r : (List Str)} (h0 : Rd Rimpl_Lts w0 p0 a0) (hm : impl_Lts_readyLabels_m fuel a0 a1 = some r) :
  Calls Tryz.prog 43 #[p0, .int .i64 a1] w0 fun e w => ∃ (v0 : Value), e = .returned (v0) ∧ Heap w0 [oA (rList rStr) v0 r] w := by
 unfold impl_Lts_readyLabels_m at hm
 have H := Heap.start w0
 obtain ⟨c31, rfl, h32⟩ := h0
 obtain ⟨c37, c38, rfl, h39, h40⟩ := h32
 obtain rfl := h39
 obtain ⟨c41, c42, rfl, h43, h44⟩ := h40
 obtain rfl := h43
 obtain ⟨c45, c46, rfl, h47, h48⟩ := h44
 obtain ⟨v33, rfl, h34⟩ := rd_list h47
 obtain ⟨v35, rfl, h36⟩ := rd_list h48
 refine enter (args := [(.agg #[(.int .i64 a0.1), (.int .i64 a0.2.1), v33, v35]), .int .i64 a1]) Tryz.func43 rfl 30 rfl (Nat.le_of_ble_eq_true rfl) (fun a S => ?_)
 refine wp_seq (region_plain ?_)
 refine lx_box S trivial (by decide) rfl H rfl rfl (fun b49 w50 H => ⟨trivial, fun a S => ?_⟩)
 refine lq (.slice none 0 0) S (q_assign rfl) fun a S => ?_
 refine lx_nil (thenN ?_)
 refine wp_seq (region_plain ?_)
 refine lq (.slice none 0 0) S (q_assign rfl) fun a S => ?_
 refine lx_nil (thenN ?_)
 refine wp_seq (wp_seq (region_plain ?_))
 refine lx_e (.agg #[(.int .i64 a0.1), (.int .i64 a0.2.1), v33, v35]) S trivial (by decide) rfl trivial (q_loadA (cs := [(.int .i64 a0.1), (.int .i64 a0.2.1), v33, v35]) rfl (isP_bp _) Tryz.isAgg33 Tryz.sizeOf33 (by rintro _ rfl; exact (fun j u hu => boxAt (i := 0) H rfl hu))) (fun a S => ?_)
 refine lq (.int .i64 a1) S (q_move rfl) fun a S => ?_
 obtain ⟨x54, e55, hm⟩ := bind_some hm
 refine lx_call (xs := [.tmp 8, .tmp 9]) S trivial (by decide) rfl rfl Tryz.call67 ((impl_Lts_out_ok ⟨[(.int .i64 a0.1), (.int .i64 a0.2.1), v33, v35], rfl, ⟨[(.int .i64 a0.1)], [(.int .i64 a0.2.1), v33, v35], rfl, rfl, ⟨[(.int .i64 a0.2.1)], [v33, v35], rfl, rfl, ⟨[v33], [v35], rfl, ((H.arg h34)).list_rd, ((H.arg h36)).list_rd⟩⟩⟩⟩  e55).mono ?_)
 rintro e w52 ⟨v56, rfl, Hc53⟩
 have H := H.call1 Hc53
 refine ⟨_, rfl, trivial, fun a S => ?_⟩
 refine lq (.int .i64 (x54.length : Int)) S (q_lenSl rfl (H.isSl 0 rfl) rfl Tryz.underlying31) fun a S => ?_
 refine lq (.int .i64 (0 : Int)) S (q_move rfl) fun a S => ?_
 refine lx_nil (thenN ?_)
 obtain ⟨res137, hit138, hk141⟩ := bind_some hm
 obtain ⟨f139, hf140, hit138⟩ := iter_name hit138
 refine block_loop (fun a w => ∃ (xs135 : List Str) (v134 : Value), Slots a 30 [(5, v134)] ∧ Heap w0 [oA (rList rStr) v134 xs135] w ∧ res137 = .inl (xs135)) ?_ ?_
 ·rintro a w ⟨xs135, v134, S, H, rfl⟩
  have hm := ctl_inl hk141
  refine thenN ?_
  refine wp_seq (region_plain ?_)
  refine lq v134 S (q_move rfl) fun a S => ?_
  obtain ⟨x144, e145, hm⟩ := bind_some hm
  refine lx_call (xs := [.tmp 26, .func 69]) S trivial (by decide) rfl rfl Tryz.call68 ((slices_SortFunc__string_string_ok (f1 := 69) (fs1 := ([] : List Value)) (cp1 := ([] : List Value)) (a1 := (fun (z0 : Str) (z1 : Str) => impl_compareLabels_m fuel z0 z1)) H Tryz.call69 (fun _ hm => gr_ext (impl_compareLabels_gr hm)) e145).mono ?_)
  rintro e w142 ⟨rfl, H⟩
  refine ⟨_, rfl, trivial, fun a S => ?_⟩
  refine lx_nil (thenN ?_)
  refine wp_seq (region_plain ?_)
  refine lq v134 S (q_move rfl) fun a S => ?_
  obtain ⟨x148, e149, hm⟩ := bind_some hm
  refine lx_call (xs := [.tmp 28]) S trivial (by decide) rfl rfl Tryz.call70 ((slices_Compact__string_string_ok H  e149).mono ?_)
  rintro e w146 ⟨v150, rfl, H⟩
  refine ⟨_, rfl, trivial, fun a S => ?_⟩
  refine lq v150 S (q_assign rfl) fun a S => ?_
  refine lx_nil (thenN ?_)
  refine wp_ret ?_
  obtain rfl := Option.some.inj hm
  exact leave1 S rfl rfl ⟨v150, rfl, H⟩
 ·skip
  have H : Heap w0 [oA (rList rStr) (.slice none 0 0) ([] : List Str), oA (rList Rimpl_Edge) v56 x54, bA b49 [(.int .i64 a0.1), (.int .i64 a0.2.1), v33, v35] 33] w52 := H.nilList rStr
  have H : Heap w0 [oA (rList Rimpl_Edge) v56 x54, oA (rList rStr) (.slice none 0 0) ([] : List Str), bA b49 [(.int .i64 a0.1), (.int .i64 a0.2.1), v33, v35] 33] w52 := H.front 1 rfl
  have H : Heap w0 [oA (rList rStr) (.slice none 0 0) ([] : List Str), oA (rList Rimpl_Edge) v56 x54, bA b49 [(.int .i64 a0.1), (.int .i64 a0.2.1), v33, v35] 33] w52 := H.front 1 rfl
  have H : Heap w0 [bA b49 [(.int .i64 a0.1), (.int .i64 a0.2.1), v33, v35] 33, oA (rList rStr) (.slice none 0 0) ([] : List Str), oA (rList Rimpl_Edge) v56 x54] w52 := H.front 2 rfl
  refine loop_ghost (fun n a w => ∃ (xs96 : List Str) (x98 : Int) (v95 : Value), Slots a 30 [(2, (bp b49)), (5, v95), (10, v56), (11, (.int .i64 (x54.length : Int))), (12, (.int .i64 x98))] ∧ Heap w0 [bA b49 [(.int .i64 a0.1), (.int .i64 a0.2.1), v33, v35] 33, oA (rList rStr) v95 xs96, oA (rList Rimpl_Edge) v56 x54] w ∧ iter f139 n (xs96, x98) = some res137) _ ⟨[], (0 : Int), (.slice none 0 0), S.sub ⟨rfl, rfl, rfl, rfl, rfl, trivial⟩, H, hit138⟩ ?_
  rintro n a w ⟨xs96, x98, v95, S, H, hit138⟩
  obtain ⟨m153, o154, rfl, hm, hc155⟩ := iter_step hit138
  rw [hf140] at hm
  refine wp_seq (region_plain ?_)
  refine lq (.bool (decide (x98 < (x54.length : Int)))) S (q_lss rfl rfl) fun a S => ?_
  refine lx_nil (thenN ?_)
  refine wp_seq ?_
  refine cond_b S rfl (fun hc156 => ?_) (fun hc156 => ?_)
  ·have hm := ite_t hc156 hm
   refine wp_skip (thenN ?_)
   refine wp_seq ?_
   refine wp_block ?_
   refine wp_seq (region_plain ?_)
   obtain ⟨x157, e158, hm⟩ := bind_some hm
   have hlt := lt_of_idx (idx_some e158).2
   refine lq (ePtr v56 (x98.toNat * 3)) S (q_indexAddr rfl (H.isSl 2 rfl) rfl (idx_some e158).1 hlt Tryz.underlying31 Tryz.sizeOf57) fun a S => ?_
   obtain ⟨c159, h160, hat161⟩ := (H.rdAt 2 rfl).elem (idx_some e158).2
   obtain ⟨c162, c163, rfl, h164, h165⟩ := h160
   obtain rfl := h164
   obtain ⟨c166, c167, rfl, h168, h169⟩ := h165
   obtain rfl := h168
   obtain rfl := h169
   refine lx_e (.agg #[(.int .i64 x157.1), (.int .i64 x157.2.1), (.int .i64 x157.2.2)]) S trivial (by decide) rfl trivial (q_loadA (cs := [(.int .i64 x157.1), (.int .i64 x157.2.1), (.int .i64 x157.2.2)]) rfl (((H.isSl 2 rfl)).ptr (lt_of_idx (idx_some e158).2) _) Tryz.isAgg57 Tryz.sizeOf57 (by rintro _ rfl; exact (fun j u hu => hat161 j u hu))) (fun a S => ?_)
   refine lx_alloc S trivial (by decide) rfl H Tryz.zeroValue57 rfl (fun b170 w171 H => ⟨trivial, fun a S => ?_⟩)
   refine lx_storeBox (o := 0) (i := 0) (us := [(.int .i64 x157.1), (.int .i64 x157.2.1), (.int .i64 x157.2.2)]) (cs' := [(.int .i64 x157.1), (.int .i64 x157.2.1), (.int .i64 x157.2.2)]) S trivial rfl H rfl rfl rfl rfl Tryz.sizeOf57 (Nat.le_of_ble_eq_true rfl) (List.forall_mem_cons.2 ⟨rfl, (List.forall_mem_cons.2 ⟨rfl, (List.forall_mem_cons.2 ⟨rfl, (fun _ h => nomatch h)⟩)⟩)⟩) rfl (fun w173 H => ⟨trivial, fun a S => ?_⟩)
   change Heap w0 [bA b170 [(.int .i64 x157.1), (.int .i64 x157.2.1), (.int .i64 x157.2.2)] 57, bA b49 [(.int .i64 a0.1), (.int .i64 a0.2.1), v33, v35] 33, oA (rList rStr) v95 xs96, oA (rList Rimpl_Edge) v56 x54] w173 at H
   refine lx_nil (thenN ?_)
   refine region_plain ?_
   refine lq v95 S (q_move rfl) fun a S => ?_
   refine lq (pAdd (bp b49) 2) S (q_fieldAddr' 2 22 rfl (isP_bp _) Tryz.underlying33 rfl Tryz.sizeOf22) fun a S => ?_
   refine lx_e v33 S trivial (by decide) rfl trivial (q_load1 rfl Tryz.isAgg22 (by rintro _ rfl; exact (At.of_add (m := 2) (j := 0) (boxAt (i := 1) H rfl (j := 2) rfl)))) (fun a S => ?_)
   refine lq (pAdd (bp b170) 1) S (q_fieldAddr' 1 2 rfl (isP_bp _) Tryz.underlying57 rfl Tryz.sizeOf2) fun a S => ?_
   refine lx_e (.int .i64 x157.2.1) S trivial (by decide) rfl trivial (q_load1 rfl Tryz.isAgg2 (by rintro _ rfl; exact (At.of_add (m := 1) (j := 0) (boxAt (i := 0) H rfl (j := 1) rfl)))) (fun a S => ?_)
   obtain ⟨x174, e175, hm⟩ := bind_some hm
   obtain ⟨c176, h177, hat178⟩ := (h34).elem (idx_some e175).2
   obtain rfl := h177
   have hlt := lt_of_idx (idx_some e175).2
   refine lq (ePtr v33 (x157.2.1.toNat * 1)) S (q_indexAddr rfl (h34).isSl rfl (idx_some e175).1 hlt Tryz.underlying22 Tryz.sizeOf9) fun a S => ?_
   refine lx_e (sv x174) S trivial (by decide) rfl trivial (q_load1 rfl Tryz.isAgg9 (by rintro _ rfl; exact ((hat178 0 _ rfl).ext H.ext))) (fun a S => ?_)
   refine lx_buildSlice (r := rStr) (xs := [x174]) (ps := [(0, [(sv x174)])]) (cs := [(sv x174)]) (parts := [(0, .tmp 22)]) S trivial (by decide) rfl (H.put0 (A := eA) rfl) rfl Tryz.underlying22 Tryz.sizeOf9 Tryz.zeroValue9 (by decide) ⟨rfl, rfl, Nat.le_of_ble_eq_true rfl, trivial⟩ (by intro zs hz; exact fill_dense hz ⟨rfl, trivial⟩ rfl rfl) rfl (by decide) (fun w F hA => by cases (show F = [] from hA); exact ⟨_, _, [(sv x174)], _, rfl, rfl, ⟨rfl, rfl⟩, ⟨rfl, rfl⟩⟩) (fun v179 w180 H => ⟨trivial, fun a S => ?_⟩)
   obtain ⟨x182, e183, hm⟩ := bind_some hm
   obtain ⟨hle, hap⟩ := app_some e183
   replace hap := hap.symm
   subst hap
   have H : Heap w0 [oA (rList rStr) v179 [x174], bA b170 [(.int .i64 x157.1), (.int .i64 x157.2.1), (.int .i64 x157.2.2)] 57, bA b49 [(.int .i64 a0.1), (.int .i64 a0.2.1), v33, v35] 33, oA (rList rStr) v95 xs96, oA (rList Rimpl_Edge) v56 x54] w180 := H.front 0 rfl
   have H : Heap w0 [oA (rList rStr) v95 xs96, oA (rList rStr) v179 [x174], bA b170 [(.int .i64 x157.1), (.int .i64 x157.2.1), (.int .i64 x157.2.2)] 57, bA b49 [(.int .i64 a0.1), (.int .i64 a0.2.1), v33, v35] 33, oA (rList Rimpl_Edge) v56 x54] w180 := H.front 3 rfl
   refine lx_appendOwn (r := rStr) S trivial (by decide) rfl H rfl rfl Tryz.underlying22 Tryz.ti9 rfl rfl rfl (by decide) (by decide) hle (fun v184 w185 H => ⟨trivial, fun a S => ?_⟩)
   refine lq v184 S (q_assign rfl) fun a S => ?_
   refine lx_nil ?_
   refine inBlock_norm ?_
   refine thenN ?_
   refine region_plain ?_
   refine lq (.int .i64 (W (x98 + (1 : Int)))) S (q_add rfl rfl) fun a S => ?_
   refine lq (.int .i64 (W (x98 + (1 : Int)))) S (q_move rfl) fun a S => ?_
   refine lx_nil ?_
   have H : Heap w0 [oA (rList Rimpl_Edge) v56 x54, oA (rList rStr) v184 (xs96 ++ [x174]), bA b170 [(.int .i64 x157.1), (.int .i64 x157.2.1), (.int .i64 x157.2.2)] 57, bA b49 [(.int .i64 a0.1), (.int .i64 a0.2.1), v33, v35] 33] w185 := H.front 3 rfl
   have H : Heap w0 [oA (rList rStr) v184 (xs96 ++ [x174]), oA (rList Rimpl_Edge) v56 x54, bA b170 [(.int .i64 x157.1), (.int .i64 x157.2.1), (.int .i64 x157.2.2)] 57, bA b49 [(.int .i64 a0.1), (.int .i64 a0.2.1), v33, v35] 33] w185 := H.front 1 rfl
   have H : Heap w0 [bA b49 [(.int .i64 a0.1), (.int .i64 a0.2.1), v33, v35] 33, oA (rList rStr) v184 (xs96 ++ [x174]), oA (rList Rimpl_Edge) v56 x54, bA b170 [(.int .i64 x157.1), (.int .i64 x157.2.1), (.int .i64 x157.2.2)] 57] w185 := H.front 3 rfl
   have H : Heap w0 [bA b49 [(.int .i64 a0.1), (.int .i64 a0.2.1), v33, v35] 33, oA (rList rStr) v184 (xs96 ++ [x174]), oA (rList Rimpl_Edge) v56 x54] w185 := H.sel [0, 1, 2] (by decide)
   exact ⟨m153, Nat.lt_succ_self _, (xs96 ++ [x174]), (W (x98 + (1 : Int))), v184, S.sub ⟨rfl, rfl, rfl, rfl, rfl, trivial⟩, H, it_cont hm hc155⟩
  ·have hm := ite_f hc156 hm
   refine wp_exit ?_
   refine then_exit ?_
   refine then_exit ?_
   refine inBlock_exit ?_
   obtain rfl := it_brk hm hc155
   have H : Heap w0 [oA (rList rStr) v95 xs96] w := H.sel [1] (by decide)
   exact ⟨xs96, v95, S.sub ⟨rfl, trivial⟩, H, rfl⟩

/-- impl.ReadyLabels -/
def impl_ReadyLabels_m (fuel : Nat) (a0 : Timpl_Lts) (a1 : Int) : Option (((List Str) × Int)) :=
  (impl_ltsCode_m fuel (a0.1, a0.2.1, a0.2.2.1, a0.2.2.2) a1).bind fun x54 => (if (x54 != (0 : Int)) = true then some (([], x54)) else (impl_Lts_readyLabels_m fuel (a0.1, a0.2.1, a0.2.2.1, a0.2.2.2) a1).bind fun x61 => some ((x61, (0 : Int))))
set_option maxRecDepth 20000 in
theorem impl_ReadyLabels_ok {w0 : World} {fuel : Nat} {p0 : Value} {a0 : Timpl_Lts} {a1 : Int} {r : ((List Str) × Int)} (hG : Glob Tryz.prog w0) (h0 : Rd Rimpl_Lts w0 p0 a0) (hm : impl_ReadyLabels_m fuel a0 a1 = some r) :
  Calls Tryz.prog 22 #[p0, .int .i64 a1] w0 fun e w => ∃ (v0 : Value), e = .returned (.tuple #[v0, .int .i64 r.2]) ∧ Heap w0 [oA (rList rStr) v0 r.1] w := by
 unfold impl_ReadyLabels_m at hm
 have H := Heap.start w0
 obtain ⟨c31, rfl, h32⟩ := h0
 obtain ⟨c37, c38, rfl, h39, h40⟩ := h32
 obtain rfl := h39
 obtain ⟨c41, c42, rfl, h43, h44⟩ := h40
 obtain rfl := h43
 obtain ⟨c45, c46, rfl, h47, h48⟩ := h44
 obtain ⟨v33, rfl, h34⟩ := rd_list h47
 obtain ⟨v35, rfl, h36⟩ := rd_list h48
 refine enter (args := [(.agg #[(.int .i64 a0.1), (.int .i64 a0.2.1), v33, v35]), .int .i64 a1]) Tryz.func22 rfl 16 rfl (Nat.le_of_ble_eq_true rfl) (fun a S => ?_)
 refine wp_seq (region_plain ?_)
 refine lx_box S trivial (by decide) rfl H rfl rfl (fun b49 w50 H => ⟨trivial, fun a S => ?_⟩)
 refine lq (.slice none 0 0) S (q_assign rfl) fun a S => ?_
 refine lq (.int .i64 (0 : Int)) S (q_assign rfl) fun a S => ?_
 refine lx_nil (thenN ?_)
 refine wp_seq (wp_seq (region_plain ?_))
 refine lx_e (.agg #[(.int .i64 a0.1), (.int .i64 a0.2.1), v33, v35]) S trivial (by decide) rfl trivial (q_loadA (cs := [(.int .i64 a0.1), (.int .i64 a0.2.1), v33, v35]) rfl (isP_bp _) Tryz.isAgg33 Tryz.sizeOf33 (by rintro _ rfl; exact (fun j u hu => boxAt (i := 0) H rfl hu))) (fun a S => ?_)
 refine lq (.int .i64 a1) S (q_move rfl) fun a S => ?_
 obtain ⟨x54, e55, hm⟩ := bind_some hm
 refine lx_call (xs := [.tmp 7, .tmp 8]) S trivial (by decide) rfl rfl Tryz.call42 ((impl_ltsCode_ok (hG.ext H.ext) ⟨[(.int .i64 a0.1), (.int .i64 a0.2.1), v33, v35], rfl, ⟨[(.int .i64 a0.1)], [(.int .i64 a0.2.1), v33, v35], rfl, rfl, ⟨[(.int .i64 a0.2.1)], [v33, v35], rfl, rfl, ⟨[v33], [v35], rfl, ((H.arg h34)).list_rd, ((H.arg h36)).list_rd⟩⟩⟩⟩  e55).mono ?_)
 rintro e w52 ⟨rfl, Hc53⟩
 have H := H.call0 Hc53
 refine ⟨_, rfl, trivial, fun a S => ?_⟩
 refine lq (.int .i64 x54) S (q_assign rfl) fun a S => ?_
 refine lx_nil (thenN ?_)
 refine wp_seq (region_plain ?_)
 refine lq (.int .i64 x54) S (q_move rfl) fun a S => ?_
 refine lq (.bool (x54 != (0 : Int))) S (q_neq rfl rfl) fun a S => ?_
 refine lx_nil (thenN ?_)
 refine cond_b S rfl (fun hc57 => ?_) (fun hc57 => ?_)
 ·have hm := ite_t hc57 hm
  refine wp_seq (region_plain ?_)
  refine lq (.int .i64 x54) S (q_move rfl) fun a S => ?_
  refine lq (.slice none 0 0) S (q_assign rfl) fun a S => ?_
  refine lq (.int .i64 x54) S (q_assign rfl) fun a S => ?_
  refine lx_nil (thenN ?_)
  refine wp_ret (then_ret ?_)
  obtain rfl := Option.some.inj hm
  have H : Heap w0 [oA (rList rStr) (.slice none 0 0) ([] : List Str), bA b49 [(.int .i64 a0.1), (.int .i64 a0.2.1), v33, v35] 33] w52 := H.nilList rStr
  have H : Heap w0 [oA (rList rStr) (.slice none 0 0) ([] : List Str)] w52 := H.sel [0] (by decide)
  exact leave2 S rfl rfl rfl ⟨(.slice none 0 0), rfl, H⟩
 ·have hm := ite_f hc57 hm
  refine wp_skip (thenN ?_)
  refine wp_seq (region_plain ?_)
  refine lx_e (.agg #[(.int .i64 a0.1), (.int .i64 a0.2.1), v33, v35]) S trivial (by decide) rfl trivial (q_loadA (cs := [(.int .i64 a0.1), (.int .i64 a0.2.1), v33, v35]) rfl (isP_bp _) Tryz.isAgg33 Tryz.sizeOf33 (by rintro _ rfl; exact (fun j u hu => boxAt (i := 0) H rfl hu))) (fun a S => ?_)
  refine lq (.int .i64 a1) S (q_move rfl) fun a S => ?_
  obtain ⟨x61, e62, hm⟩ := bind_some hm
  refine lx_call (xs := [.tmp 13, .tmp 14]) S trivial (by decide) rfl rfl Tryz.call43 ((impl_Lts_readyLabels_ok ⟨[(.int .i64 a0.1), (.int .i64 a0.2.1), v33, v35], rfl, ⟨[(.int .i64 a0.1)], [(.int .i64 a0.2.1), v33, v35], rfl, rfl, ⟨[(.int .i64 a0.2.1)], [v33, v35], rfl, rfl, ⟨[v33], [v35], rfl, ((H.arg h34)).list_rd, ((H.arg h36)).list_rd⟩⟩⟩⟩  e62).mono ?_)
  rintro e w59 ⟨v63, rfl, Hc60⟩
  have H := H.call1 Hc60
  refine ⟨_, rfl, trivial, fun a S => ?_⟩
  refine lq v63 S (q_assign rfl) fun a S => ?_
  refine lq (.int .i64 (0 : Int)) S (q_assign rfl) fun a S => ?_
  refine lx_nil (thenN ?_)
  refine wp_ret ?_
  obtain rfl := Option.some.inj hm
  have H : Heap w0 [oA (rList rStr) v63 x61] w59 := H.sel [0] (by decide)
  exact leave2 S rfl rfl rfl ⟨v63, rfl, H⟩

/-- laws.heldStringS -/
def laws_heldStringS_m (fuel : Nat) (a0 : (List Str)) (a1 : Int) : Option (Int) :=
  (iter (fun (s : (Int) × (Int)) => (match s with | (x47, x48) => (if (decide (x48 < (a0.length : Int))) = true then (idx a0 x48).bind fun x77 => (laws_markText_m fuel x47).bind fun x84 => (if (x77 != x84) = true then some (.inr (.inr (-1 : Int))) else some (.inl ((W (x47 + (1 : Int))), (W (x48 + (1 : Int)))))) else some (.inr (.inl (x47)))) : Option (((Int) × (Int)) ⊕ ((Int) ⊕ (Int))))) fuel (a1, (0 : Int))).bind fun res66 => ctl (β := Int) (ρ := Int) (τ := Int) res66 (fun (x65) => some (x65)) (fun q => some (q))
set_option maxRecDepth 20000 in
theorem laws_heldStringS_ok {w0 : World} {fuel : Nat} {p0 : Value} {a0 : (List Str)} {a1 : Int} {r : Int} (h0 : Rd (rList rStr) w0 p0 a0) (hm : laws_heldStringS_m fuel a0 a1 = some r) :
  Calls Tryz.prog 23 #[p0, .int .i64 a1] w0 fun e w => e = .returned (.int .i64 r) ∧ Heap w0 [] w := by
 unfold laws_heldStringS_m at hm
 have H := Heap.start w0
 refine enter (args := [p0, .int .i64 a1]) Tryz.func23 rfl 22 rfl (Nat.le_of_ble_eq_true rfl) (fun a S => ?_)
 refine wp_seq (region_plain ?_)
 refine lq (.int .i64 (0 : Int)) S (q_assign rfl) fun a S => ?_
 refine lx_nil (thenN ?_)
 refine wp_seq (wp_seq (region_plain ?_))
 refine lq (.int .i64 (0 : Int)) S (q_assign rfl) fun a S => ?_
 refine lx_nil (thenN ?_)
 obtain ⟨res66, hit67, hk70⟩ := bind_some hm
 obtain ⟨f68, hf69, hit67⟩ := iter_name hit67
 refine block_loop (fun a w => ∃ (x65 : Int), Slots a 22 [(1, (.int .i64 x65))] ∧ Heap w0 [] w ∧ res66 = .inl (x65)) ?_ ?_
 ·rintro a w ⟨x65, S, H, rfl⟩
  have hm := ctl_inl hk70
  refine thenN ?_
  refine wp_seq (region_plain ?_)
  refine lq (.int .i64 x65) S (q_move rfl) fun a S => ?_
  refine lq (.int .i64 x65) S (q_assign rfl) fun a S => ?_
  refine lx_nil (thenN ?_)
  refine wp_ret ?_
  obtain rfl := Option.some.inj hm
  exact leave1 S rfl rfl ⟨rfl, H⟩
 ·skip
  refine loop_ghost (fun n a w => ∃ (x47 : Int) (x48 : Int), Slots a 22 [(0, p0), (1, (.int .i64 x47)), (5, (.int .i64 x48))] ∧ Heap w0 [] w ∧ iter f68 n (x47, x48) = some res66) _ ⟨a1, (0 : Int), S.sub ⟨rfl, rfl, rfl, trivial⟩, H, hit67⟩ ?_
  rintro n a w ⟨x47, x48, S, H, hit67⟩
  obtain ⟨m71, o72, rfl, hm, hc73⟩ := iter_step hit67
  rw [hf69] at hm
  refine wp_seq (wp_seq (region_plain ?_))
  refine lq (.int .i64 x48) S (q_move rfl) fun a S => ?_
  refine lq p0 S (q_move rfl) fun a S => ?_
  refine lq (.int .i64 (a0.length : Int)) S (q_lenSl rfl (h0).isSl rfl Tryz.underlying22) fun a S => ?_
  refine lq (.bool (decide (x48 < (a0.length : Int)))) S (q_lss rfl rfl) fun a S => ?_
  refine lx_nil (thenN ?_)
  refine cond_b S rfl (fun hc74 => ?_) (fun hc74 => ?_)
  ·have hm := ite_t hc74 hm
   refine wp_skip (thenN ?_)
   refine wp_seq ?_
   refine wp_block ?_
   refine wp_seq ?_
   refine wp_seq ?_
   refine region_drawG (fun w1 => Heap w0 [] w1) (fun i => [5].contains i) mixed (by kernel_rfl) (fun w76 he75 => ?_)
   have H := H.later he75
   refine ⟨H.sel [] (by decide), ?_⟩
   refine lq p0 S (q_move rfl) fun a S => ?_
   refine lq (.int .i64 x48) S (q_move rfl) fun a S => ?_
   obtain ⟨x77, e78, hm⟩ := bind_some hm
   obtain ⟨c79, h80, hat81⟩ := (h0).elem (idx_some e78).2
   obtain rfl := h80
   have hlt := lt_of_idx (idx_some e78).2
   refine lq (ePtr p0 (x48.toNat * 1)) S (q_indexAddr rfl (h0).isSl rfl (idx_some e78).1 hlt Tryz.underlying22 Tryz.sizeOf9) fun a S => ?_
   refine lq (sv x77) S (q_load1 rfl Tryz.isAgg9 (fun w1 hC => ((hat81 0 _ rfl).ext hC.ext))) fun a S => ?_
   refine lq (.int .i64 x47) S (q_move rfl) fun a S => ?_
   obtain ⟨x84, e85, hm⟩ := bind_some hm
   refine lx_call (xs := [.tmp 16]) S trivial (by decide) rfl rfl Tryz.call34 ((laws_markText_ok  e85).mono ?_)
   rintro e w82 ⟨rfl, Hc83⟩
   have H := H.call0 Hc83
   refine ⟨_, rfl, H.sel [] (by decide), fun a S => ?_⟩
   refine lq (.bool (x77 != x84)) S (q_sneq rfl rfl) fun a S => ?_
   refine lx_nil (thenN ?_)
   refine cond_b S rfl (fun hc87 => ?_) (fun hc87 => ?_)
   ·have hm := ite_t hc87 hm
    refine wp_seq (region_plain ?_)
    refine lq (.int .i64 (-1 : Int)) S (q_assign rfl) fun a S => ?_
    refine lx_nil (thenN ?_)
    refine wp_ret (then_ret ?_)
    refine inBlock_ret ?_
    refine then_ret ?_
    refine then_ret ?_
    refine inBlock_ret ?_
    refine then_ret ?_
    refine then_ret ?_
    obtain rfl := it_brk hm hc73
    have hm := ctl_inr hk70
    obtain rfl := Option.some.inj hm
    exact leave1 S rfl rfl ⟨rfl, H⟩
   ·have hm := ite_f hc87 hm
    refine wp_skip (thenN ?_)
    refine region_plain ?_
    refine lq (.int .i64 x47) S (q_move rfl) fun a S => ?_
    refine lq (.int .i64 (W (x47 + (1 : Int)))) S (q_add rfl rfl) fun a S => ?_
    refine lq (.int .i64 (W (x47 + (1 : Int)))) S (q_assign rfl) fun a S => ?_
    refine lx_nil ?_
    refine inBlock_norm ?_
    refine thenN ?_
    refine region_plain ?_
    refine lq (.int .i64 x48) S (q_move rfl) fun a S => ?_
    refine lq (.int .i64 (W (x48 + (1 : Int)))) S (q_add rfl rfl) fun a S => ?_
    refine lq (.int .i64 (W (x48 + (1 : Int)))) S (q_assign rfl) fun a S => ?_
    refine lx_nil ?_
    exact ⟨m71, Nat.lt_succ_self _, (W (x47 + (1 : Int))), (W (x48 + (1 : Int))), S.sub ⟨rfl, rfl, rfl, trivial⟩, H, it_cont hm hc73⟩
  ·have hm := ite_f hc74 hm
   refine wp_exit ?_
   refine then_exit ?_
   refine then_exit ?_
   refine inBlock_exit ?_
   obtain rfl := it_brk hm hc73
   exact ⟨x47, S.sub ⟨rfl, trivial⟩, H, rfl⟩

/-- laws.FnExactReadyLabels -/
def laws_FnExactReadyLabels_m (fuel : Nat) (a0 : Tlaws_Lts) (a1 : Int) : Option (Bool) :=
  (laws_szLts_m fuel (a0.1, a0.2.1, a0.2.2.1, a0.2.2.2) (1048576 : Int)).bind fun x54 => (if (decide (x54 < (0 : Int))) = true then some (true) else (laws_toLts_m fuel (a0.1, a0.2.1, a0.2.2.1, a0.2.2.2)).bind fun x60 => (spec_ReadyLabels_m fuel (x60.1, x60.2.1, x60.2.2.1, x60.2.2.2) a1).bind fun x69 => (laws_toLts_m fuel (a0.1, a0.2.1, a0.2.2.1, a0.2.2.2)).bind fun x76 => (impl_ReadyLabels_m fuel (x76.1, x76.2.1, x76.2.2.1, x76.2.2.2) a1).bind fun x89 => (laws_eqStringS_m fuel x89.1 x69.1).bind fun x96 => (if (!x96) = true then some true else some (x89.2 != x69.2)).bind fun t99 => (if t99 = true then some (false) else (laws_toLts_m fuel (a0.1, a0.2.1, a0.2.2.1, a0.2.2.2)).bind fun x107 => (laws_eqLts_m fuel (x76.1, x76.2.1, x76.2.2.1, x76.2.2.2) (x107.1, x107.2.1, x107.2.2.1, x107.2.2.2)).bind fun x116 => (if (!x116) = true then some (false) else (laws_markLts_m fuel (x76.1, x76.2.1, x76.2.2.1, x76.2.2.2) (1 : Int)).bind fun x122 => (if (decide (x122.1 < (0 : Int))) = true then some true else (laws_eqStringS_m fuel x89.1 x69.1).bind fun x129 => some (!x129)).bind fun t124 => (if t124 = true then some true else some (x89.2 != x69.2)).bind fun t132 => (if t132 = true then some (false) else (laws_markStringS_m fuel x89.1 (1 : Int)).bind fun x138 => (laws_heldStringS_m fuel x138.2 (1 : Int)).bind fun x142 => (if (decide (x142 < (0 : Int))) = true then some (false) else (if (x142 != x138.1) = true then some (false) else (laws_toLts_m fuel (a0.1, a0.2.1, a0.2.2.1, a0.2.2.2)).bind fun x149 => (impl_ReadyLabels_m fuel (x149.1, x149.2.1, x149.2.2.1, x149.2.2.2) a1).bind fun x158 => (laws_eqStringS_m fuel x158.1 x69.1).bind fun x165 => (if (!x165) = true then some true else some (x158.2 != x69.2)).bind fun t168 => (if t168 = true then some (false) else (laws_heldStringS_m fuel x138.2 (1 : Int)).bind fun x174 => (if (decide (x174 < (0 : Int))) = true then some (false) else (if (x174 != x138.1) = true then some (false) else some (true))))))))))
set_option maxRecDepth 20000 in
theorem laws_FnExactReadyLabels_ok {w0 : World} {fuel : Nat} {p0 : Value} {a0 : Tlaws_Lts} {a1 : Int} {r : Bool} (hG : Glob Tryz.prog w0) (h0 : Rd Rlaws_Lts w0 p0 a0) (hm : laws_FnExactReadyLabels_m fuel a0 a1 = some r) :
  Calls Tryz.prog 5 #[p0, .int .i64 a1] w0 fun e w => e = .returned (.bool r) ∧ Heap w0 [] w := by
 unfold laws_FnExactReadyLabels_m at hm
 have H := Heap.start w0
 obtain ⟨c31, rfl, h32⟩ := h0
 obtain ⟨c37, c38, rfl, h39, h40⟩ := h32
 obtain rfl := h39
 obtain ⟨c41, c42, rfl, h43, h44⟩ := h40
 obtain rfl := h43
 obtain ⟨c45, c46, rfl, h47, h48⟩ := h44
 obtain ⟨v33, rfl, h34⟩ := rd_list h47
 obtain ⟨v35, rfl, h36⟩ := rd_list h48
 refine enter (args := [(.agg #[(.int .i64 a0.1), (.int .i64 a0.2.1), v33, v35]), .int .i64 a1]) Tryz.func5 rfl 101 rfl (Nat.le_of_ble_eq_true rfl) (fun a S => ?_)
 refine wp_seq (region_plain ?_)
 refine lx_box S trivial (by decide) rfl H rfl rfl (fun b49 w50 H => ⟨trivial, fun a S => ?_⟩)
 refine lq (.bool false) S (q_assign rfl) fun a S => ?_
 refine lx_nil (thenN ?_)
 refine wp_seq (region_plain ?_)
 refine lq (.int .i64 (1048576 : Int)) S (q_assign rfl) fun a S => ?_
 refine lx_nil (thenN ?_)
 refine wp_seq (region_plain ?_)
 refine lx_e (.agg #[(.int .i64 a0.1), (.int .i64 a0.2.1), v33, v35]) S trivial (by decide) rfl trivial (q_loadA (cs := [(.int .i64 a0.1), (.int .i64 a0.2.1), v33, v35]) rfl (isP_bp _) Tryz.isAgg25 Tryz.sizeOf25 (by rintro _ rfl; exact (fun j u hu => boxAt (i := 0) H rfl hu))) (fun a S => ?_)
 refine lq (.int .i64 (1048576 : Int)) S (q_move rfl) fun a S => ?_
 obtain ⟨x54, e55, hm⟩ := bind_some hm
 refine lx_call (xs := [.tmp 16, .tmp 17]) S trivial (by decide) rfl rfl Tryz.call6 ((laws_szLts_ok ⟨[(.int .i64 a0.1), (.int .i64 a0.2.1), v33, v35], rfl, ⟨[(.int .i64 a0.1)], [(.int .i64 a0.2.1), v33, v35], rfl, rfl, ⟨[(.int .i64 a0.2.1)], [v33, v35], rfl, rfl, ⟨[v33], [v35], rfl, ((H.arg h34)).list_rd, ((H.arg h36)).list_rd⟩⟩⟩⟩  e55).mono ?_)
 rintro e w52 ⟨rfl, Hc53⟩
 have H := H.call0 Hc53
 refine ⟨_, rfl, trivial, fun a S => ?_⟩
 refine lq (.int .i64 x54) S (q_assign rfl) fun a S => ?_
 refine lx_nil (thenN ?_)
 refine wp_seq (wp_seq (region_plain ?_))
 refine lq (.int .i64 x54) S (q_move rfl) fun a S => ?_
 refine lq (.bool (decide (x54 < (0 : Int)))) S (q_lss rfl rfl) fun a S => ?_
 refine lx_nil (thenN ?_)
 refine cond_b S rfl (fun hc57 => ?_) (fun hc57 => ?_)
 ·have hm := ite_t hc57 hm
  refine wp_seq (region_plain ?_)
  refine lq (.bool true) S (q_assign rfl) fun a S => ?_
  refine lx_nil (thenN ?_)
  refine wp_ret (then_ret ?_)
  obtain rfl := Option.some.inj hm
  have H : Heap w0 [] w52 := H.sel [] (by decide)
  exact leave1 S rfl rfl ⟨rfl, H⟩
 ·have hm := ite_f hc57 hm
  refine wp_skip (thenN ?_)
  refine wp_seq (region_plain ?_)
  refine lx_e (.agg #[(.int .i64 a0.1), (.int .i64 a0.2.1), v33, v35]) S trivial (by decide) rfl trivial (q_loadA (cs := [(.int .i64 a0.1), (.int .i64 a0.2.1), v33, v35]) rfl (isP_bp _) Tryz.isAgg25 Tryz.sizeOf25 (by rintro _ rfl; exact (fun j u hu => boxAt (i := 0) H rfl hu))) (fun a S => ?_)
  obtain ⟨x60, e61, hm⟩ := bind_some hm
  refine lx_call (xs := [.tmp 22]) S trivial (by decide) rfl rfl Tryz.call9 ((laws_toLts_ok ⟨[(.int .i64 a0.1), (.int .i64 a0.2.1), v33, v35], rfl, ⟨[(.int .i64 a0.1)], [(.int .i64 a0.2.1), v33, v35], rfl, rfl, ⟨[(.int .i64 a0.2.1)], [v33, v35], rfl, rfl, ⟨[v33], [v35], rfl, ((H.arg h34)).list_rd, ((H.arg h36)).list_rd⟩⟩⟩⟩ e61).mono ?_)
  rintro e w58 ⟨v62, v63, rfl, Hc59⟩
  have H := H.call2 Hc59
  refine ⟨_, rfl, trivial, fun a S => ?_⟩
  refine lq (.int .i64 a1) S (q_move rfl) fun a S => ?_
  obtain ⟨x69, e70, hm⟩ := bind_some hm
  refine lx_call (xs := [.tmp 23, .tmp 24]) S trivial (by decide) rfl rfl Tryz.call21 ((spec_ReadyLabels_ok ⟨[(.int .i64 x60.1), (.int .i64 x60.2.1), v62, v63], rfl, ⟨[(.int .i64 x60.1)], [(.int .i64 x60.2.1), v62, v63], rfl, rfl, ⟨[(.int .i64 x60.2.1)], [v62, v63], rfl, rfl, ⟨[v62], [v63], rfl, ((H.rdAt 0 rfl)).list_rd, ((H.rdAt 1 rfl)).list_rd⟩⟩⟩⟩  e70).mono ?_)
  rintro e w67 ⟨v71, rfl, Hc68⟩
  have H := H.call1 Hc68
  refine ⟨_, rfl, trivial, fun a S => ?_⟩
  refine lq (.tuple #[v71, (.int .i64 x69.2)]) S (q_move rfl) fun a S => ?_
  refine lq v71 S (q_extract rfl rfl) fun a S => ?_
  refine lq (.int .i64 x69.2) S (q_extract rfl rfl) fun a S => ?_
  refine lq v71 S (q_assign rfl) fun a S => ?_
  refine lq (.int .i64 x69.2) S (q_assign rfl) fun a S => ?_
  refine lx_nil (thenN ?_)
  refine wp_seq (region_plain ?_)
  refine lx_e (.agg #[(.int .i64 a0.1), (.int .i64 a0.2.1), v33, v35]) S trivial (by decide) rfl trivial (q_loadA (cs := [(.int .i64 a0.1), (.int .i64 a0.2.1), v33, v35]) rfl (isP_bp _) Tryz.isAgg25 Tryz.sizeOf25 (by rintro _ rfl; exact (fun j u hu => boxAt (i := 3) H rfl hu))) (fun a S => ?_)
  obtain ⟨x76, e77, hm⟩ := bind_some hm
  refine lx_call (xs := [.tmp 28]) S trivial (by decide) rfl rfl Tryz.call9 ((laws_toLts_ok ⟨[(.int .i64 a0.1), (.int .i64 a0.2.1), v33, v35], rfl, ⟨[(.int .i64 a0.1)], [(.int .i64 a0.2.1), v33, v35], rfl, rfl, ⟨[(.int .i64 a0.2.1)], [v33, v35], rfl, rfl, ⟨[v33], [v35], rfl, ((H.arg h34)).list_rd, ((H.arg h36)).list_rd⟩⟩⟩⟩ e77).mono ?_)
  rintro e w74 ⟨v78, v79, rfl, Hc75⟩
  have H := H.call2 Hc75
  refine ⟨_, rfl, trivial, fun a S => ?_⟩
  refine lx_alloc S trivial (by decide) rfl H Tryz.zeroValue33 rfl (fun b83 w84 H => ⟨trivial, fun a S => ?_⟩)
  refine lx_storeBox (o := 0) (i := 0) (us := [(.int .i64 x76.1), (.int .i64 x76.2.1), v78, v79]) (cs' := [(.int .i64 x76.1), (.int .i64 x76.2.1), v78, v79]) S trivial rfl H rfl rfl rfl rfl Tryz.sizeOf33 (Nat.le_of_ble_eq_true rfl) (List.forall_mem_cons.2 ⟨rfl, (List.forall_mem_cons.2 ⟨rfl, (List.forall_mem_cons.2 ⟨one_sl (H.isSl 1 rfl), (List.forall_mem_cons.2 ⟨one_sl (H.isSl 2 rfl), (fun _ h => nomatch h)⟩)⟩)⟩)⟩) rfl (fun w86 H => ⟨trivial, fun a S => ?_⟩)
  change Heap w0 [bA b83 [(.int .i64 x76.1), (.int .i64 x76.2.1), v78, v79] 33, oA (rList rStr) v78 x76.2.2.1, oA (rList Rimpl_Edge) v79 x76.2.2.2, oA (rList rStr) v71 x69.1, oA (rList rStr) v62 x60.2.2.1, oA (rList Rimpl_Edge) v63 x60.2.2.2, bA b49 [(.int .i64 a0.1), (.int .i64 a0.2.1), v33, v35] 25] w86 at H
  refine lx_nil (thenN ?_)
  refine wp_seq (region_plain ?_)
  refine lx_e (.agg #[(.int .i64 x76.1), (.int .i64 x76.2.1), v78, v79]) S trivial (by decide) rfl trivial (q_loadA (cs := [(.int .i64 x76.1), (.int .i64 x76.2.1), v78, v79]) rfl (isP_bp _) Tryz.isAgg33 Tryz.sizeOf33 (by rintro _ rfl; exact (fun j u hu => boxAt (i := 0) H rfl hu))) (fun a S => ?_)
  refine lq (.int .i64 a1) S (q_move rfl) fun a S => ?_
  obtain ⟨x89, e90, hm⟩ := bind_some hm
  refine lx_call (xs := [.tmp 31, .tmp 32]) S trivial (by decide) rfl rfl Tryz.call22 ((impl_ReadyLabels_ok (hG.ext H.ext) ⟨[(.int .i64 x76.1), (.int .i64 x76.2.1), v78, v79], rfl, ⟨[(.int .i64 x76.1)], [(.int .i64 x76.2.1), v78, v79], rfl, rfl, ⟨[(.int .i64 x76.2.1)], [v78, v79], rfl, rfl, ⟨[v78], [v79], rfl, ((H.rdAt 1 rfl)).list_rd, ((H.rdAt 2 rfl)).list_rd⟩⟩⟩⟩  e90).mono ?_)
  rintro e w87 ⟨v91, rfl, Hc88⟩
  have H := H.call1 Hc88
  refine ⟨_, rfl, trivial, fun a S => ?_⟩
  refine lq (.tuple #[v91, (.int .i64 x89.2)]) S (q_move rfl) fun a S => ?_
  refine lq v91 S (q_extract rfl rfl) fun a S => ?_
  refine lq (.int .i64 x89.2) S (q_extract rfl rfl) fun a S => ?_
  refine lq v91 S (q_assign rfl) fun a S => ?_
  refine lq (.int .i64 x89.2) S (q_assign rfl) fun a S => ?_
  refine lx_nil (thenN ?_)
  refine wp_seq (wp_seq (region_plain ?_))
  refine lq v91 S (q_move rfl) fun a S => ?_
  refine lq v71 S (q_move rfl) fun a S => ?_
  obtain ⟨x96, e97, hm⟩ := bind_some hm
  refine lx_call (xs := [.tmp 36, .tmp 37]) S trivial (by decide) rfl rfl Tryz.call14 ((laws_eqStringS_ok (H.rdAt 0 rfl) (H.rdAt 4 rfl) e97).mono ?_)
  rintro e w94 ⟨rfl, Hc95⟩
  have H := H.call0 Hc95
  refine ⟨_, rfl, trivial, fun a S => ?_⟩
  refine lq (.bool (!x96)) S (q_not rfl) fun a S => ?_
  refine lq (.bool (!x96)) S (q_move rfl) fun a S => ?_
  obtain ⟨t99, e100, hm⟩ := bind_some hm
  refine lx_cut 4 (fun a w => Slots a 101 [(1, (.int .i64 a1)), (2, (bp b49)), (6, v71), (7, (.int .i64 x69.2)), (8, (bp b83)), (9, v91), (10, (.int .i64 x89.2)), (44, (.bool t99))] ∧ Heap w0 [oA (rList rStr) v91 x89.1, bA b83 [(.int .i64 x76.1), (.int .i64 x76.2.1), v78, v79] 33, oA (rList rStr) v78 x76.2.2.1, oA (rList Rimpl_Edge) v79 x76.2.2.2, oA (rList rStr) v71 x69.1, bA b49 [(.int .i64 a0.1), (.int .i64 a0.2.1), v33, v35] 25] w) ?_ ?_
  ·by_cases hc101 : (!x96) = true
   ·have hm := ite_t hc101 e100
    refine lx_skip S rfl rfl (isB_ne hc101) (by decide) (fun a S => ?_)
    refine lx_skip S rfl rfl (isB_ne hc101) (by decide) (fun a S => ?_)
    refine lx_skip S rfl rfl (isB_ne hc101) (by decide) (fun a S => ?_)
    refine lq (.bool true) S (q_pickT' rfl hc101 rfl) fun a S => ?_
    refine lx_nil ?_
    obtain rfl := Option.some.inj hm
    have H := H.sel [0, 1, 2, 3, 4, 7] (by decide)
    exact ⟨S.sub ⟨rfl, rfl, rfl, rfl, rfl, rfl, rfl, rfl, trivial⟩, H⟩
   ·have hm := ite_f (eq_false_of_ne_true hc101) e100
    have hc101 : (!x96) = false := eq_false_of_ne_true hc101
    refine lx_q (.int .i64 x89.2) S (want_b rfl rfl hc101) (by decide) (q_move rfl) (fun a S => ?_)
    refine lx_q (.int .i64 x69.2) S (want_b rfl rfl hc101) (by decide) (q_move rfl) (fun a S => ?_)
    refine lx_q (.bool (x89.2 != x69.2)) S (want_b rfl rfl hc101) (by decide) (q_neq rfl rfl) (fun a S => ?_)
    refine lq (.bool (x89.2 != x69.2)) S (q_pickF' rfl hc101 rfl) fun a S => ?_
    refine lx_nil ?_
    obtain rfl := Option.some.inj hm
    have H := H.sel [0, 1, 2, 3, 4, 7] (by decide)
    exact ⟨S.sub ⟨rfl, rfl, rfl, rfl, rfl, rfl, rfl, rfl, trivial⟩, H⟩
  ·rintro a w ⟨S, H⟩
   refine lx_nil (thenN ?_)
   refine cond_b S rfl (fun hc102 => ?_) (fun hc102 => ?_)
   ·have hm := ite_t hc102 hm
    refine wp_seq (region_plain ?_)
    refine lq (.bool false) S (q_assign rfl) fun a S => ?_
    refine lx_nil (thenN ?_)
    refine wp_ret (then_ret ?_)
    obtain rfl := Option.some.inj hm
    have H : Heap w0 [] w := H.sel [] (by decide)
    exact leave1 S rfl rfl ⟨rfl, H⟩
   ·have hm := ite_f hc102 hm
    refine wp_skip (thenN ?_)
    refine wp_seq ?_
    refine wp_seq ?_
    refine region_drawG (fun w1 => Heap w0 [bA b83 [(.int .i64 x76.1), (.int .i64 x76.2.1), v78, v79] 33, bA b49 [(.int .i64 a0.1), (.int .i64 a0.2.1), v33, v35] 25] w1) (fun i => [2, 3].contains i) mixed (by kernel_rfl) (fun w104 he103 => ?_)
    have H := H.later he103
    refine ⟨H.sel [1, 5] (by decide), ?_⟩
    refine lq (.agg #[(.int .i64 x76.1), (.int .i64 x76.2.1), v78, v79]) S (q_loadA (cs := [(.int .i64 x76.1), (.int .i64 x76.2.1), v78, v79]) rfl (isP_bp _) Tryz.isAgg33 Tryz.sizeOf33 (fun w1 hC => (fun j u hu => boxAt (i := 0) hC rfl hu))) fun a S => ?_
    refine lq (.agg #[(.int .i64 a0.1), (.int .i64 a0.2.1), v33, v35]) S (q_loadA (cs := [(.int .i64 a0.1), (.int .i64 a0.2.1), v33, v35]) rfl (isP_bp _) Tryz.isAgg25 Tryz.sizeOf25 (fun w1 hC => (fun j u hu => boxAt (i := 1) hC rfl hu))) fun a S => ?_
    obtain ⟨x107, e108, hm⟩ := bind_some hm
    refine lx_call (xs := [.tmp 46]) S trivial (by decide) rfl rfl Tryz.call9 ((laws_toLts_ok ⟨[(.int .i64 a0.1), (.int .i64 a0.2.1), v33, v35], rfl, ⟨[(.int .i64 a0.1)], [(.int .i64 a0.2.1), v33, v35], rfl, rfl, ⟨[(.int .i64 a0.2.1)], [v33, v35], rfl, rfl, ⟨[v33], [v35], rfl, ((H.arg h34)).list_rd, ((H.arg h36)).list_rd⟩⟩⟩⟩ e108).mono ?_)
    rintro e w105 ⟨v109, v110, rfl, Hc106⟩
    have H := H.call2 Hc106
    refine ⟨_, rfl, H.sel [3, 7] (by decide), fun a S => ?_⟩
    obtain ⟨x116, e117, hm⟩ := bind_some hm
    refine lx_call (xs := [.tmp 45, .tmp 47]) S trivial (by decide) rfl rfl Tryz.call13 ((laws_eqLts_ok ⟨[(.int .i64 x76.1), (.int .i64 x76.2.1), v78, v79], rfl, ⟨[(.int .i64 x76.1)], [(.int .i64 x76.2.1), v78, v79], rfl, rfl, ⟨[(.int .i64 x76.2.1)], [v78, v79], rfl, rfl, ⟨[v78], [v79], rfl, ((H.rdAt 4 rfl)).list_rd, ((H.rdAt 5 rfl)).list_rd⟩⟩⟩⟩ ⟨[(.int .i64 x107.1), (.int .i64 x107.2.1), v109, v110], rfl, ⟨[(.int .i64 x107.1)], [(.int .i64 x107.2.1), v109, v110], rfl, rfl, ⟨[(.int .i64 x107.2.1)], [v109, v110], rfl, rfl, ⟨[v109], [v110], rfl, ((H.rdAt 0 rfl)).list_rd, ((H.rdAt 1 rfl)).list_rd⟩⟩⟩⟩ e117).mono ?_)
    rintro e w114 ⟨rfl, Hc115⟩
    have H := H.call0 Hc115
    refine ⟨_, rfl, H.sel [3, 7] (by decide), fun a S => ?_⟩
    refine lq (.bool (!x116)) S (q_not rfl) fun a S => ?_
    refine lx_nil (thenN ?_)
    refine cond_b S rfl (fun hc119 => ?_) (fun hc119 => ?_)
    ·have hm := ite_t hc119 hm
     refine wp_seq (region_plain ?_)
     refine lq (.bool false) S (q_assign rfl) fun a S => ?_
     refine lx_nil (thenN ?_)
     refine wp_ret (then_ret ?_)
     obtain rfl := Option.some.inj hm
     have H : Heap w0 [] w114 := H.sel [] (by decide)
     exact leave1 S rfl rfl ⟨rfl, H⟩
    ·have hm := ite_f hc119 hm
     refine wp_skip (thenN ?_)
     refine wp_seq (region_plain ?_)
     refine lq (.int .i64 (1 : Int)) S (q_assign rfl) fun a S => ?_
     refine lx_nil (thenN ?_)
     refine wp_seq (region_plain ?_)
     refine lx_e (.agg #[(.int .i64 x76.1), (.int .i64 x76.2.1), v78, v79]) S trivial (by decide) rfl trivial (q_loadA (cs := [(.int .i64 x76.1), (.int .i64 x76.2.1), v78, v79]) rfl (isP_bp _) Tryz.isAgg33 Tryz.sizeOf33 (by rintro _ rfl; exact (fun j u hu => boxAt (i := 3) H rfl hu))) (fun a S => ?_)
     refine lq (.int .i64 (1 : Int)) S (q_move rfl) fun a S => ?_
     obtain ⟨x122, e123, hm⟩ := bind_some hm
     have H : Heap w0 [oA (rList Rimpl_Edge) v79 x76.2.2.2, oA (rList rStr) v109 x107.2.2.1, oA (rList Rimpl_Edge) v110 x107.2.2.2, oA (rList rStr) v91 x89.1, bA b83 [(.int .i64 x76.1), (.int .i64 x76.2.1), v78, v79] 33, oA (rList rStr) v78 x76.2.2.1, oA (rList rStr) v71 x69.1, bA b49 [(.int .i64 a0.1), (.int .i64 a0.2.1), v33, v35] 25] w114 := H.front 5 rfl
     have H : Heap w0 [oA (rList rStr) v78 x76.2.2.1, oA (rList Rimpl_Edge) v79 x76.2.2.2, oA (rList rStr) v109 x107.2.2.1, oA (rList Rimpl_Edge) v110 x107.2.2.2, oA (rList rStr) v91 x89.1, bA b83 [(.int .i64 x76.1), (.int .i64 x76.2.1), v78, v79] 33, oA (rList rStr) v71 x69.1, bA b49 [(.int .i64 a0.1), (.int .i64 a0.2.1), v33, v35] 25] w114 := H.front 5 rfl
     refine lx_call (xs := [.tmp 50, .tmp 51]) S trivial (by decide) rfl rfl Tryz.call15 ((laws_markLts_ok H  e123).mono ?_)
     rintro e w120 ⟨rfl, H⟩
     refine ⟨_, rfl, trivial, fun a S => ?_⟩
     refine lq (.int .i64 x122.1) S (q_assign rfl) fun a S => ?_
     refine lx_nil (thenN ?_)
     refine wp_seq (wp_seq (region_plain ?_))
     refine lq (.int .i64 x122.1) S (q_move rfl) fun a S => ?_
     refine lq (.bool (decide (x122.1 < (0 : Int)))) S (q_lss rfl rfl) fun a S => ?_
     refine lq (.bool (decide (x122.1 < (0 : Int)))) S (q_move rfl) fun a S => ?_
     obtain ⟨t124, e125, hm⟩ := bind_some hm
     refine lx_cut 5 (fun a w => Slots a 101 [(1, (.int .i64 a1)), (2, (bp b49)), (6, v71), (7, (.int .i64 x69.2)), (9, v91), (10, (.int .i64 x89.2)), (60, (.bool t124))] ∧ Heap w0 [oA (rList rStr) v91 x89.1, oA (rList rStr) v71 x69.1, bA b49 [(.int .i64 a0.1), (.int .i64 a0.2.1), v33, v35] 25] w) ?_ ?_
     ·by_cases hc126 : (decide (x122.1 < (0 : Int))) = true
      ·have hm := ite_t hc126 e125
       refine lx_skip S rfl rfl (isB_ne hc126) (by decide) (fun a S => ?_)
       refine lx_skip S rfl rfl (isB_ne hc126) (by decide) (fun a S => ?_)
       refine lx_skip S rfl rfl (isB_ne hc126) (by decide) (fun a S => ?_)
       refine lx_skip S rfl rfl (isB_ne hc126) (by decide) (fun a S => ?_)
       refine lq (.bool true) S (q_pickT' rfl hc126 rfl) fun a S => ?_
       refine lx_nil ?_
       obtain rfl := Option.some.inj hm
       have H := H.sel [4, 6, 7] (by decide)
       exact ⟨S.sub ⟨rfl, rfl, rfl, rfl, rfl, rfl, rfl, trivial⟩, H⟩
      ·have hm := ite_f (eq_false_of_ne_true hc126) e125
       have hc126 : (decide (x122.1 < (0 : Int))) = false := eq_false_of_ne_true hc126
       refine lx_q v91 S (want_b rfl rfl hc126) (by decide) (q_move rfl) (fun a S => ?_)
       refine lx_q v71 S (want_b rfl rfl hc126) (by decide) (q_move rfl) (fun a S => ?_)
       obtain ⟨x129, e130, hm⟩ := bind_some hm
       refine lx_call (xs := [.tmp 56, .tmp 57]) S (want_b rfl rfl hc126) (by decide) rfl rfl Tryz.call14 ((laws_eqStringS_ok (H.rdAt 4 rfl) (H.rdAt 6 rfl) e130).mono ?_)
       rintro e w127 ⟨rfl, Hc128⟩
       have H := H.call0 Hc128
       refine ⟨_, rfl, trivial, fun a S => ?_⟩
       refine lx_q (.bool (!x129)) S (want_b rfl rfl hc126) (by decide) (q_not rfl) (fun a S => ?_)
       refine lq (.bool (!x129)) S (q_pickF' rfl hc126 rfl) fun a S => ?_
       refine lx_nil ?_
       obtain rfl := Option.some.inj hm
       have H := H.sel [4, 6, 7] (by decide)
       exact ⟨S.sub ⟨rfl, rfl, rfl, rfl, rfl, rfl, rfl, trivial⟩, H⟩
     ·rintro a w ⟨S, H⟩
      refine lq (.bool t124) S (q_move rfl) fun a S => ?_
      obtain ⟨t132, e133, hm⟩ := bind_some hm
      refine lx_cut 4 (fun a w => Slots a 101 [(1, (.int .i64 a1)), (2, (bp b49)), (6, v71), (7, (.int .i64 x69.2)), (9, v91), (65, (.bool t132))] ∧ Heap w0 [oA (rList rStr) v91 x89.1, oA (rList rStr) v71 x69.1, bA b49 [(.int .i64 a0.1), (.int .i64 a0.2.1), v33, v35] 25] w) ?_ ?_
      ·by_cases hc134 : t124 = true
       ·have hm := ite_t hc134 e133
        refine lx_skip S rfl rfl (isB_ne hc134) (by decide) (fun a S => ?_)
        refine lx_skip S rfl rfl (isB_ne hc134) (by decide) (fun a S => ?_)
        refine lx_skip S rfl rfl (isB_ne hc134) (by decide) (fun a S => ?_)
        refine lq (.bool true) S (q_pickT' rfl hc134 rfl) fun a S => ?_
        refine lx_nil ?_
        obtain rfl := Option.some.inj hm
        exact ⟨S.sub ⟨rfl, rfl, rfl, rfl, rfl, rfl, trivial⟩, H⟩
       ·have hm := ite_f (eq_false_of_ne_true hc134) e133
        have hc134 : t124 = false := eq_false_of_ne_true hc134
        refine lx_q (.int .i64 x89.2) S (want_b rfl rfl hc134) (by decide) (q_move rfl) (fun a S => ?_)
        refine lx_q (.int .i64 x69.2) S (want_b rfl rfl hc134) (by decide) (q_move rfl) (fun a S => ?_)
        refine lx_q (.bool (x89.2 != x69.2)) S (want_b rfl rfl hc134) (by decide) (q_neq rfl rfl) (fun a S => ?_)
        refine lq (.bool (x89.2 != x69.2)) S (q_pickF' rfl hc134 rfl) fun a S => ?_
        refine lx_nil ?_
        obtain rfl := Option.some.inj hm
        exact ⟨S.sub ⟨rfl, rfl, rfl, rfl, rfl, rfl, trivial⟩, H⟩
      ·rintro a w ⟨S, H⟩
       refine lx_nil (thenN ?_)
       refine cond_b S rfl (fun hc135 => ?_) (fun hc135 => ?_)
       ·have hm := ite_t hc135 hm
        refine wp_seq (region_plain ?_)
        refine lq (.bool false) S (q_assign rfl) fun a S => ?_
        refine lx_nil (thenN ?_)
        refine wp_ret (then_ret ?_)
        obtain rfl := Option.some.inj hm
        have H : Heap w0 [] w := H.sel [] (by decide)
        exact leave1 S rfl rfl ⟨rfl, H⟩
       ·have hm := ite_f hc135 hm
        refine wp_skip (thenN ?_)
        refine wp_seq (region_plain ?_)
        refine lq (.int .i64 (1 : Int)) S (q_assign rfl) fun a S => ?_
        refine lx_nil (thenN ?_)
        refine wp_seq (region_plain ?_)
        refine lq v91 S (q_move rfl) fun a S => ?_
        refine lq (.int .i64 (1 : Int)) S (q_move rfl) fun a S => ?_
        obtain ⟨x138, e139, hm⟩ := bind_some hm
        refine lx_call (xs := [.tmp 66, .tmp 67]) S trivial (by decide) rfl rfl Tryz.call16 ((laws_markStringS_ok H  e139).mono ?_)
        rintro e w136 ⟨rfl, H⟩
        refine ⟨_, rfl, trivial, fun a S => ?_⟩
        refine lq (.int .i64 x138.1) S (q_assign rfl) fun a S => ?_
        refine lx_nil (thenN ?_)
        refine wp_seq (region_plain ?_)
        refine lq (.int .i64 (1 : Int)) S (q_assign rfl) fun a S => ?_
        refine lx_nil (thenN ?_)
        refine wp_seq (region_plain ?_)
        refine lq v91 S (q_move rfl) fun a S => ?_
        refine lq (.int .i64 (1 : Int)) S (q_move rfl) fun a S => ?_
        obtain ⟨x142, e143, hm⟩ := bind_some hm
        refine lx_call (xs := [.tmp 69, .tmp 70]) S trivial (by decide) rfl rfl Tryz.call23 ((laws_heldStringS_ok (H.rdAt 0 rfl)  e143).mono ?_)
        rintro e w140 ⟨rfl, Hc141⟩
        have H := H.call0 Hc141
        refine ⟨_, rfl, trivial, fun a S => ?_⟩
        refine lq (.int .i64 x142) S (q_assign rfl) fun a S => ?_
        refine lx_nil (thenN ?_)
        refine wp_seq (wp_seq (region_plain ?_))
        refine lq (.int .i64 x142) S (q_move rfl) fun a S => ?_
        refine lq (.bool (decide (x142 < (0 : Int)))) S (q_lss rfl rfl) fun a S => ?_
        refine lx_nil (thenN ?_)
        refine cond_b S rfl (fun hc145 => ?_) (fun hc145 => ?_)
        ·have hm := ite_t hc145 hm
         refine wp_seq (region_plain ?_)
         refine lq (.bool false) S (q_assign rfl) fun a S => ?_
         refine lx_nil (thenN ?_)
         refine wp_ret (then_ret ?_)
         obtain rfl := Option.some.inj hm
         have H : Heap w0 [] w140 := H.sel [] (by decide)
         exact leave1 S rfl rfl ⟨rfl, H⟩
        ·have hm := ite_f hc145 hm
         refine wp_skip (thenN ?_)
         refine wp_seq (wp_seq (region_plain ?_))
         refine lq (.int .i64 x142) S (q_move rfl) fun a S => ?_
         refine lq (.int .i64 x138.1) S (q_move rfl) fun a S => ?_
         refine lq (.bool (x142 != x138.1)) S (q_neq rfl rfl) fun a S => ?_
         refine lx_nil (thenN ?_)
         refine cond_b S rfl (fun hc146 => ?_) (fun hc146 => ?_)
         ·have hm := ite_t hc146 hm
          refine wp_seq (region_plain ?_)
          refine lq (.bool false) S (q_assign rfl) fun a S => ?_
          refine lx_nil (thenN ?_)
          refine wp_ret (then_ret ?_)
          obtain rfl := Option.some.inj hm
          have H : Heap w0 [] w140 := H.sel [] (by decide)
          exact leave1 S rfl rfl ⟨rfl, H⟩
         ·have hm := ite_f hc146 hm
          refine wp_skip (thenN ?_)
          refine wp_seq (region_plain ?_)
          refine lx_e (.agg #[(.int .i64 a0.1), (.int .i64 a0.2.1), v33, v35]) S trivial (by decide) rfl trivial (q_loadA (cs := [(.int .i64 a0.1), (.int .i64 a0.2.1), v33, v35]) rfl (isP_bp _) Tryz.isAgg25 Tryz.sizeOf25 (by rintro _ rfl; exact (fun j u hu => boxAt (i := 2) H rfl hu))) (fun a S => ?_)
          obtain ⟨x149, e150, hm⟩ := bind_some hm
          refine lx_call (xs := [.tmp 78]) S trivial (by decide) rfl rfl Tryz.call9 ((laws_toLts_ok ⟨[(.int .i64 a0.1), (.int .i64 a0.2.1), v33, v35], rfl, ⟨[(.int .i64 a0.1)], [(.int .i64 a0.2.1), v33, v35], rfl, rfl, ⟨[(.int .i64 a0.2.1)], [v33, v35], rfl, rfl, ⟨[v33], [v35], rfl, ((H.arg h34)).list_rd, ((H.arg h36)).list_rd⟩⟩⟩⟩ e150).mono ?_)
          rintro e w147 ⟨v151, v152, rfl, Hc148⟩
          have H := H.call2 Hc148
          refine ⟨_, rfl, trivial, fun a S => ?_⟩
          refine lq (.int .i64 a1) S (q_move rfl) fun a S => ?_
          obtain ⟨x158, e159, hm⟩ := bind_some hm
          refine lx_call (xs := [.tmp 79, .tmp 80]) S trivial (by decide) rfl rfl Tryz.call22 ((impl_ReadyLabels_ok (hG.ext H.ext) ⟨[(.int .i64 x149.1), (.int .i64 x149.2.1), v151, v152], rfl, ⟨[(.int .i64 x149.1)], [(.int .i64 x149.2.1), v151, v152], rfl, rfl, ⟨[(.int .i64 x149.2.1)], [v151, v152], rfl, rfl, ⟨[v151], [v152], rfl, ((H.rdAt 0 rfl)).list_rd, ((H.rdAt 1 rfl)).list_rd⟩⟩⟩⟩  e159).mono ?_)
          rintro e w156 ⟨v160, rfl, Hc157⟩
          have H := H.call1 Hc157
          refine ⟨_, rfl, trivial, fun a S => ?_⟩
          refine lq (.tuple #[v160, (.int .i64 x158.2)]) S (q_move rfl) fun a S => ?_
          refine lq v160 S (q_extract rfl rfl) fun a S => ?_
          refine lq (.int .i64 x158.2) S (q_extract rfl rfl) fun a S => ?_
          refine lq v160 S (q_assign rfl) fun a S => ?_
          refine lq (.int .i64 x158.2) S (q_assign rfl) fun a S => ?_
          refine lx_nil (thenN ?_)
          refine wp_seq (wp_seq (region_plain ?_))
          refine lq v160 S (q_move rfl) fun a S => ?_
          refine lq v71 S (q_move rfl) fun a S => ?_
          obtain ⟨x165, e166, hm⟩ := bind_some hm
          refine lx_call (xs := [.tmp 84, .tmp 85]) S trivial (by decide) rfl rfl Tryz.call14 ((laws_eqStringS_ok (H.rdAt 0 rfl) (H.rdAt 4 rfl) e166).mono ?_)
          rintro e w163 ⟨rfl, Hc164⟩
          have H := H.call0 Hc164
          refine ⟨_, rfl, trivial, fun a S => ?_⟩
          refine lq (.bool (!x165)) S (q_not rfl) fun a S => ?_
          refine lq (.bool (!x165)) S (q_move rfl) fun a S => ?_
          obtain ⟨t168, e169, hm⟩ := bind_some hm
          refine lx_cut 4 (fun a w => Slots a 101 [(9, v91), (12, (.int .i64 x138.1)), (92, (.bool t168))] ∧ Heap w0 [oA (rList rStr) v91 x138.2] w) ?_ ?_
          ·by_cases hc170 : (!x165) = true
           ·have hm := ite_t hc170 e169
            refine lx_skip S rfl rfl (isB_ne hc170) (by decide) (fun a S => ?_)
            refine lx_skip S rfl rfl (isB_ne hc170) (by decide) (fun a S => ?_)
            refine lx_skip S rfl rfl (isB_ne hc170) (by decide) (fun a S => ?_)
            refine lq (.bool true) S (q_pickT' rfl hc170 rfl) fun a S => ?_
            refine lx_nil ?_
            obtain rfl := Option.some.inj hm
            have H := H.sel [3] (by decide)
            exact ⟨S.sub ⟨rfl, rfl, rfl, trivial⟩, H⟩
           ·have hm := ite_f (eq_false_of_ne_true hc170) e169
            have hc170 : (!x165) = false := eq_false_of_ne_true hc170
            refine lx_q (.int .i64 x158.2) S (want_b rfl rfl hc170) (by decide) (q_move rfl) (fun a S => ?_)
            refine lx_q (.int .i64 x69.2) S (want_b rfl rfl hc170) (by decide) (q_move rfl) (fun a S => ?_)
            refine lx_q (.bool (x158.2 != x69.2)) S (want_b rfl rfl hc170) (by decide) (q_neq rfl rfl) (fun a S => ?_)
            refine lq (.bool (x158.2 != x69.2)) S (q_pickF' rfl hc170 rfl) fun a S => ?_
            refine lx_nil ?_
            obtain rfl := Option.some.inj hm
            have H := H.sel [3] (by decide)
            exact ⟨S.sub ⟨rfl, rfl, rfl, trivial⟩, H⟩
          ·rintro a w ⟨S, H⟩
           refine lx_nil (thenN ?_)
           refine cond_b S rfl (fun hc171 => ?_) (fun hc171 => ?_)
           ·have hm := ite_t hc171 hm
            refine wp_seq (region_plain ?_)
            refine lq (.bool false) S (q_assign rfl) fun a S => ?_
            refine lx_nil (thenN ?_)
            refine wp_ret (then_ret ?_)
            obtain rfl := Option.some.inj hm
            have H : Heap w0 [] w := H.sel [] (by decide)
            exact leave1 S rfl rfl ⟨rfl, H⟩
           ·have hm := ite_f hc171 hm
            refine wp_skip (thenN ?_)
            refine wp_seq (region_plain ?_)
            refine lq (.int .i64 (1 : Int)) S (q_assign rfl) fun a S => ?_
            refine lx_nil (thenN ?_)
            refine wp_seq (region_plain ?_)
            refine lq v91 S (q_move rfl) fun a S => ?_
            refine lq (.int .i64 (1 : Int)) S (q_move rfl) fun a S => ?_
            obtain ⟨x174, e175, hm⟩ := bind_some hm
            refine lx_call (xs := [.tmp 93, .tmp 94]) S trivial (by decide) rfl rfl Tryz.call23 ((laws_heldStringS_ok (H.rdAt 0 rfl)  e175).mono ?_)
            rintro e w172 ⟨rfl, Hc173⟩
            have H := H.call0 Hc173
            refine ⟨_, rfl, trivial, fun a S => ?_⟩
            refine lq (.int .i64 x174) S (q_assign rfl) fun a S => ?_
            refine lx_nil (thenN ?_)
            refine wp_seq (wp_seq (region_plain ?_))
            refine lq (.int .i64 x174) S (q_move rfl) fun a S => ?_
            refine lq (.bool (decide (x174 < (0 : Int)))) S (q_lss rfl rfl) fun a S => ?_
            refine lx_nil (thenN ?_)
            refine cond_b S rfl (fun hc177 => ?_) (fun hc177 => ?_)
            ·have hm := ite_t hc177 hm
             refine wp_seq (region_plain ?_)
             refine lq (.bool false) S (q_assign rfl) fun a S => ?_
             refine lx_nil (thenN ?_)
             refine wp_ret (then_ret ?_)
             obtain rfl := Option.some.inj hm
             have H : Heap w0 [] w172 := H.sel [] (by decide)
             exact leave1 S rfl rfl ⟨rfl, H⟩
            ·have hm := ite_f hc177 hm
             refine wp_skip (thenN ?_)
             refine wp_seq (wp_seq (region_plain ?_))
             refine lq (.int .i64 x174) S (q_move rfl) fun a S => ?_
             refine lq (.int .i64 x138.1) S (q_move rfl) fun a S => ?_
             refine lq (.bool (x174 != x138.1)) S (q_neq rfl rfl) fun a S => ?_
             refine lx_nil (thenN ?_)
             refine cond_b S rfl (fun hc178 => ?_) (fun hc178 => ?_)
             ·have hm := ite_t hc178 hm
              refine wp_seq (region_plain ?_)
              refine lq (.bool false) S (q_assign rfl) fun a S => ?_
              refine lx_nil (thenN ?_)
              refine wp_ret (then_ret ?_)
              obtain rfl := Option.some.inj hm
              have H : Heap w0 [] w172 := H.sel [] (by decide)
              exact leave1 S rfl rfl ⟨rfl, H⟩
             ·have hm := ite_f hc178 hm
              refine wp_skip (thenN ?_)
              refine wp_seq (region_plain ?_)
              refine lq (.bool true) S (q_assign rfl) fun a S => ?_
              refine lx_nil (thenN ?_)
              refine wp_ret ?_
              obtain rfl := Option.some.inj hm
              have H : Heap w0 [] w172 := H.sel [] (by decide)
              exact leave1 S rfl rfl ⟨rfl, H⟩
end Go.Proofs.YtifnhbnkgeinmaaGreatDoor
