/- The model of a statement and its walk (printed by a program of this repo). -/
import Derived.Test.YtmiebbfdkfofhaaGreatDoorF0
import Derived.Test.YtmiebbfdkfofhaaGreatDoorF1
import Derived.Test.YtmiebbfdkfofhaaGreatDoorF2
import Derived.Test.YtmiebbfdkfofhaaGreatDoorF3
import Derived.Test.YtmiebbfdkfofhaaGreatDoorF4
import Derived.Test.YtmiebbfdkfofhaaGreatDoorFS
import Derived.Test.YtmiebbfdkfofhaaGreatDoorGxT
import Derived.Test.YtmiebbfdkfofhaaGreatDoorGxY
namespace Go.Proofs.YtmiebbfdkfofhaaGreatDoor
open Go.RowKit Go.Gx

/-- spec.l18Stable -/
def spec_l18Stable_m (fuel : Nat) (a0 : Timpl_Lts) (a1 : Int) : Option (Bool) :=
  (iter (fun (s : (Int)) => (match s with | (x82) => (if (decide (x82 < (a0.2.2.2.length : Int))) = true then (idx a0.2.2.2 x82).bind fun x124 => (if (x124.1 == a1) = true then (idx a0.2.2.2 x82).bind fun x140 => some (x140.2.1 == (0 : Int)) else some false).bind fun t137 => (if t137 = true then some (.inr (.inr false)) else some (.inl ((W (x82 + (1 : Int)))))) else some (.inr (.inl ()))) : Option (((Int)) ⊕ ((Unit) ⊕ (Bool))))) fuel ((0 : Int))).bind fun res115 => ctl (β := Unit) (ρ := Bool) (τ := Bool) res115 (fun _ => some (true)) (fun q => some (q))
set_option maxRecDepth 20000 in
theorem spec_l18Stable_ok {w0 : World} {fuel : Nat} {p0 : Value} {a0 : Timpl_Lts} {a1 : Int} {r : Bool} (h0 : Rd (rPtr Rimpl_Lts) w0 p0 a0) (hm : spec_l18Stable_m fuel a0 a1 = some r) :
  Calls Tryz.prog 23 #[p0, .int .i64 a1] w0 fun e w => e = .returned (.bool r) ∧ Heap w0 [] w := by
 unfold spec_l18Stable_m at hm
 have H := Heap.start w0
 obtain ⟨c31, h32, hat33⟩ := h0.ptr
 obtain ⟨c38, c39, rfl, h40, h41⟩ := h32
 obtain rfl := h40
 obtain ⟨c42, c43, rfl, h44, h45⟩ := h41
 obtain rfl := h44
 obtain ⟨c46, c47, rfl, h48, h49⟩ := h45
 obtain ⟨v34, rfl, h35⟩ := rd_list h48
 obtain ⟨v36, rfl, h37⟩ := rd_list h49
 refine enter (args := [p0, .int .i64 a1]) Tryz.func23 rfl 36 rfl (Nat.le_of_ble_eq_true rfl) (fun a S => ?_)
 refine wp_seq (region_plain ?_)
 refine lq (.bool false) S (q_assign rfl) fun a S => ?_
 refine lx_nil (thenN ?_)
 refine wp_seq (wp_seq (region_plain ?_))
 refine lq (.int .i64 (0 : Int)) S (q_assign rfl) fun a S => ?_
 refine lx_nil (thenN ?_)
 obtain ⟨res115, hit116, hk119⟩ := bind_some hm
 obtain ⟨f117, hf118, hit116⟩ := iter_name hit116
 refine block_loop (fun a w => Slots a 36 [] ∧ Heap w0 [] w ∧ res115 = .inl ()) ?_ ?_
 ·rintro a w ⟨S, H, rfl⟩
  have hm := ctl_inl hk119
  refine thenN ?_
  refine wp_seq (region_plain ?_)
  refine lq (.bool true) S (q_assign rfl) fun a S => ?_
  refine lx_nil (thenN ?_)
  refine wp_ret ?_
  obtain rfl := Option.some.inj hm
  exact leave1 S rfl rfl ⟨rfl, H⟩
 ·skip
  refine loop_ghost (fun n a w => ∃ (x82 : Int), Slots a 36 [(0, p0), (1, (.int .i64 a1)), (5, (.int .i64 x82))] ∧ Heap w0 [] w ∧ iter f117 n (x82) = some res115) _ ⟨(0 : Int), S.sub ⟨rfl, rfl, rfl, trivial⟩, H, hit116⟩ ?_
  rintro n a w ⟨x82, S, H, hit116⟩
  obtain ⟨m120, o121, rfl, hm, hc122⟩ := iter_step hit116
  rw [hf118] at hm
  refine wp_seq (wp_seq (region_plain ?_))
  refine lq (.int .i64 x82) S (q_move rfl) fun a S => ?_
  refine lq p0 S (q_move rfl) fun a S => ?_
  refine lq p0 S (q_nilCheck rfl ((hat33 0 _ rfl).isP)) fun a S => ?_
  refine lq (pAdd p0 3) S (q_fieldAddr' 3 29 rfl ((hat33 0 _ rfl).isP) Tryz.underlying31 rfl Tryz.sizeOf29) fun a S => ?_
  refine lx_e v36 S trivial (by decide) rfl trivial (q_load1 rfl Tryz.isAgg29 (by rintro _ rfl; exact (At.of_add (m := 3) (j := 0) ((hat33 3 _ rfl).ext H.ext)))) (fun a S => ?_)
  refine lq (.int .i64 (a0.2.2.2.length : Int)) S (q_lenSl rfl (h37).isSl rfl Tryz.underlying29) fun a S => ?_
  refine lq (.bool (decide (x82 < (a0.2.2.2.length : Int)))) S (q_lss rfl rfl) fun a S => ?_
  refine lx_nil (thenN ?_)
  refine cond_b S rfl (fun hc123 => ?_) (fun hc123 => ?_)
  ·have hm := ite_t hc123 hm
   refine wp_skip (thenN ?_)
   refine wp_seq ?_
   refine wp_block ?_
   refine wp_seq (region_plain ?_)
   refine lq p0 S (q_move rfl) fun a S => ?_
   refine lq p0 S (q_nilCheck rfl ((hat33 0 _ rfl).isP)) fun a S => ?_
   refine lq (pAdd p0 3) S (q_fieldAddr' 3 29 rfl ((hat33 0 _ rfl).isP) Tryz.underlying31 rfl Tryz.sizeOf29) fun a S => ?_
   refine lx_e v36 S trivial (by decide) rfl trivial (q_load1 rfl Tryz.isAgg29 (by rintro _ rfl; exact (At.of_add (m := 3) (j := 0) ((hat33 3 _ rfl).ext H.ext)))) (fun a S => ?_)
   refine lq (.int .i64 x82) S (q_move rfl) fun a S => ?_
   obtain ⟨x124, e125, hm⟩ := bind_some hm
   obtain ⟨c126, h127, hat128⟩ := (h37).elem (idx_some e125).2
   obtain ⟨c129, c130, rfl, h131, h132⟩ := h127
   obtain rfl := h131
   obtain ⟨c133, c134, rfl, h135, h136⟩ := h132
   obtain rfl := h135
   obtain rfl := h136
   have hlt := lt_of_idx (idx_some e125).2
   refine lq (ePtr v36 (x82.toNat * 3)) S (q_indexAddr rfl (h37).isSl rfl (idx_some e125).1 hlt Tryz.underlying29 Tryz.sizeOf68) fun a S => ?_
   refine lq (pAdd (ePtr v36 (x82.toNat * 3)) 0) S (q_fieldAddr' 0 2 rfl ((hat128 0 _ rfl).isP) Tryz.underlying68 rfl Tryz.sizeOf2) fun a S => ?_
   refine lx_e (.int .i64 x124.1) S trivial (by decide) rfl trivial (q_load1 rfl Tryz.isAgg2 (by rintro _ rfl; exact (At.of_add (m := 0) (j := 0) ((hat128 0 _ rfl).ext H.ext)))) (fun a S => ?_)
   refine lq (.int .i64 a1) S (q_move rfl) fun a S => ?_
   refine lq (.bool (x124.1 == a1)) S (q_eql rfl rfl) fun a S => ?_
   refine lq (.bool (x124.1 == a1)) S (q_move rfl) fun a S => ?_
   obtain ⟨t137, e138, hm⟩ := bind_some hm
   refine lx_cut 10 (fun a w => Slots a 36 [(0, p0), (1, (.int .i64 a1)), (5, (.int .i64 x82)), (35, (.bool t137))] ∧ Heap w0 [] w) ?_ ?_
   ·by_cases hc139 : (x124.1 == a1) = true
    ·have hm := ite_t hc139 e138
     refine lx_q p0 S (want_b rfl rfl hc139) (by decide) (q_move rfl) (fun a S => ?_)
     refine lx_q p0 S (want_b rfl rfl hc139) (by decide) (q_nilCheck rfl ((hat33 0 _ rfl).isP)) (fun a S => ?_)
     refine lx_q (pAdd p0 3) S (want_b rfl rfl hc139) (by decide) (q_fieldAddr' 3 29 rfl ((hat33 0 _ rfl).isP) Tryz.underlying31 rfl Tryz.sizeOf29) (fun a S => ?_)
     refine lx_e v36 S (want_b rfl rfl hc139) (by decide) rfl trivial (q_load1 rfl Tryz.isAgg29 (by rintro _ rfl; exact (At.of_add (m := 3) (j := 0) ((hat33 3 _ rfl).ext H.ext)))) (fun a S => ?_)
     refine lx_q (.int .i64 x82) S (want_b rfl rfl hc139) (by decide) (q_move rfl) (fun a S => ?_)
     obtain ⟨x140, e141, hm⟩ := bind_some hm
     obtain ⟨c142, h143, hat144⟩ := (h37).elem (idx_some e141).2
     obtain ⟨c145, c146, rfl, h147, h148⟩ := h143
     obtain rfl := h147
     obtain ⟨c149, c150, rfl, h151, h152⟩ := h148
     obtain rfl := h151
     obtain rfl := h152
     have hlt := lt_of_idx (idx_some e141).2
     refine lx_q (ePtr v36 (x82.toNat * 3)) S (want_b rfl rfl hc139) (by decide) (q_indexAddr rfl (h37).isSl rfl (idx_some e141).1 hlt Tryz.underlying29 Tryz.sizeOf68) (fun a S => ?_)
     refine lx_q (pAdd (ePtr v36 (x82.toNat * 3)) 1) S (want_b rfl rfl hc139) (by decide) (q_fieldAddr' 1 2 rfl ((hat144 0 _ rfl).isP) Tryz.underlying68 rfl Tryz.sizeOf2) (fun a S => ?_)
     refine lx_e (.int .i64 x140.2.1) S (want_b rfl rfl hc139) (by decide) rfl trivial (q_load1 rfl Tryz.isAgg2 (by rintro _ rfl; exact (At.of_add (m := 1) (j := 0) ((hat144 1 _ rfl).ext H.ext)))) (fun a S => ?_)
     refine lx_q (.bool (x140.2.1 == (0 : Int))) S (want_b rfl rfl hc139) (by decide) (q_eql rfl rfl) (fun a S => ?_)
     refine lq (.bool (x140.2.1 == (0 : Int))) S (q_pickT' rfl hc139 rfl) fun a S => ?_
     refine lx_nil ?_
     obtain rfl := Option.some.inj hm
     exact ⟨S.sub ⟨rfl, rfl, rfl, rfl, trivial⟩, H⟩
    ·have hm := ite_f (eq_false_of_ne_true hc139) e138
     have hc139 : (x124.1 == a1) = false := eq_false_of_ne_true hc139
     refine lx_skip S rfl rfl (isB_ne hc139) (by decide) (fun a S => ?_)
     refine lx_skip S rfl rfl (isB_ne hc139) (by decide) (fun a S => ?_)
     refine lx_skip S rfl rfl (isB_ne hc139) (by decide) (fun a S => ?_)
     refine lx_skip S rfl rfl (isB_ne hc139) (by decide) (fun a S => ?_)
     refine lx_skip S rfl rfl (isB_ne hc139) (by decide) (fun a S => ?_)
     refine lx_skip S rfl rfl (isB_ne hc139) (by decide) (fun a S => ?_)
     refine lx_skip S rfl rfl (isB_ne hc139) (by decide) (fun a S => ?_)
     refine lx_skip S rfl rfl (isB_ne hc139) (by decide) (fun a S => ?_)
     refine lx_skip S rfl rfl (isB_ne hc139) (by decide) (fun a S => ?_)
     refine lq (.bool false) S (q_pickF' rfl hc139 rfl) fun a S => ?_
     refine lx_nil ?_
     obtain rfl := Option.some.inj hm
     exact ⟨S.sub ⟨rfl, rfl, rfl, rfl, trivial⟩, H⟩
   ·rintro a w ⟨S, H⟩
    refine lx_nil (thenN ?_)
    refine cond_b S rfl (fun hc153 => ?_) (fun hc153 => ?_)
    ·have hm := ite_t hc153 hm
     refine wp_seq (region_plain ?_)
     refine lq (.bool false) S (q_assign rfl) fun a S => ?_
     refine lx_nil (thenN ?_)
     refine wp_ret (inBlock_ret ?_)
     refine then_ret ?_
     refine then_ret ?_
     refine inBlock_ret ?_
     refine then_ret ?_
     refine then_ret ?_
     obtain rfl := it_brk hm hc122
     have hm := ctl_inr hk119
     obtain rfl := Option.some.inj hm
     exact leave1 S rfl rfl ⟨rfl, H⟩
    ·have hm := ite_f hc153 hm
     refine wp_skip ?_
     refine inBlock_norm ?_
     refine thenN ?_
     refine region_plain ?_
     refine lq (.int .i64 x82) S (q_move rfl) fun a S => ?_
     refine lq (.int .i64 (W (x82 + (1 : Int)))) S (q_add rfl rfl) fun a S => ?_
     refine lq (.int .i64 (W (x82 + (1 : Int)))) S (q_assign rfl) fun a S => ?_
     refine lx_nil ?_
     exact ⟨m120, Nat.lt_succ_self _, (W (x82 + (1 : Int))), S.sub ⟨rfl, rfl, rfl, trivial⟩, H, it_cont hm hc122⟩
  ·have hm := ite_f hc123 hm
   refine wp_exit ?_
   refine then_exit ?_
   refine then_exit ?_
   refine inBlock_exit ?_
   obtain rfl := it_brk hm hc122
   exact ⟨S.sub trivial, H, rfl⟩

/-- spec.l18Offer -/
def spec_l18Offer_m (fuel : Nat) (a0 : Timpl_Lts) (a1 : Int) : Option ((List Str)) :=
  (iter (fun (s : (List Str) × (Int)) => (match s with | (xs115, x117) => (if (decide (x117 < (a0.2.2.2.length : Int))) = true then join (κ := List Str → Option (((List Str) × (Int)) ⊕ (((List Str)) ⊕ ((List Str))))) (fun (xs192 : List Str) => some (.inl (xs192, (W (x117 + (1 : Int)))))) (fun K194 => (idx a0.2.2.2 x117).bind fun x196 => (if (x196.1 == a1) = true then some (decide ((0 : Int) < x196.2.1)) else some false).bind fun t215 => (if t215 = true then (idx a0.2.2.1 x196.2.1).bind fun x221 => (spec_l11Find_m fuel xs115 x221).bind fun x228 => some (decide (x228 < (0 : Int))) else some false).bind fun t218 => (if t218 = true then (idx a0.2.2.1 x196.2.1).bind fun x234 => (app xs115 [x234]).bind fun x242 => (K194 x242) else (K194 xs115))) else some (.inr (.inl (xs115)))) : Option (((List Str) × (Int)) ⊕ (((List Str)) ⊕ ((List Str)))))) fuel (([] : List Str), (0 : Int))).bind fun res182 => ctl (β := (List Str)) (ρ := (List Str)) (τ := (List Str)) res182 (fun (xs180) => some (xs180)) (fun q => some (q))
set_option maxRecDepth 20000 in
theorem spec_l18Offer_ok {w0 : World} {fuel : Nat} {p0 : Value} {a0 : Timpl_Lts} {a1 : Int} {r : (List Str)} (h0 : Rd (rPtr Rimpl_Lts) w0 p0 a0) (hm : spec_l18Offer_m fuel a0 a1 = some r) :
  Calls Tryz.prog 25 #[p0, .int .i64 a1] w0 fun e w => ∃ (v0 : Value), e = .returned (v0) ∧ Heap w0 [oA (rList rStr) v0 r] w := by
 unfold spec_l18Offer_m at hm
 have H := Heap.start w0
 obtain ⟨c31, h32, hat33⟩ := h0.ptr
 obtain ⟨c38, c39, rfl, h40, h41⟩ := h32
 obtain rfl := h40
 obtain ⟨c42, c43, rfl, h44, h45⟩ := h41
 obtain rfl := h44
 obtain ⟨c46, c47, rfl, h48, h49⟩ := h45
 obtain ⟨v34, rfl, h35⟩ := rd_list h48
 obtain ⟨v36, rfl, h37⟩ := rd_list h49
 refine enter (args := [p0, .int .i64 a1]) Tryz.func25 rfl 59 rfl (Nat.le_of_ble_eq_true rfl) (fun a S => ?_)
 refine wp_seq (region_plain ?_)
 refine lq (.slice none 0 0) S (q_assign rfl) fun a S => ?_
 refine lx_nil (thenN ?_)
 refine wp_seq (region_plain ?_)
 refine lx_buildSlice0 (r := rStr) S trivial (by decide) rfl H Tryz.underlying22 Tryz.sizeOf9 (fun v50 w51 H => ⟨trivial, fun a S => ?_⟩)
 refine lq v50 S (q_assign rfl) fun a S => ?_
 refine lx_nil (thenN ?_)
 refine wp_seq (wp_seq (region_plain ?_))
 refine lq (.int .i64 (0 : Int)) S (q_assign rfl) fun a S => ?_
 refine lx_nil (thenN ?_)
 obtain ⟨res182, hit183, hk186⟩ := bind_some hm
 obtain ⟨f184, hf185, hit183⟩ := iter_name hit183
 refine block_loop (fun a w => ∃ (xs180 : List Str) (v179 : Value), Slots a 59 [(5, v179)] ∧ Heap w0 [oA (rList rStr) v179 xs180] w ∧ res182 = .inl (xs180)) ?_ ?_
 ·rintro a w ⟨xs180, v179, S, H, rfl⟩
  have hm := ctl_inl hk186
  refine thenN ?_
  refine wp_seq (region_plain ?_)
  refine lq v179 S (q_move rfl) fun a S => ?_
  refine lq v179 S (q_assign rfl) fun a S => ?_
  refine lx_nil (thenN ?_)
  refine wp_ret ?_
  obtain rfl := Option.some.inj hm
  exact leave1 S rfl rfl ⟨v179, rfl, H⟩
 ·skip
  refine loop_ghost (fun n a w => ∃ (xs115 : List Str) (x117 : Int) (v114 : Value), Slots a 59 [(0, p0), (1, (.int .i64 a1)), (5, v114), (6, (.int .i64 x117))] ∧ Heap w0 [oA (rList rStr) v114 xs115] w ∧ iter f184 n (xs115, x117) = some res182) _ ⟨([] : List Str), (0 : Int), v50, S.sub ⟨rfl, rfl, rfl, rfl, trivial⟩, H, hit183⟩ ?_
  rintro n a w ⟨xs115, x117, v114, S, H, hit183⟩
  obtain ⟨m187, o188, rfl, hm, hc189⟩ := iter_step hit183
  rw [hf185] at hm
  refine wp_seq (wp_seq (region_plain ?_))
  refine lq (.int .i64 x117) S (q_move rfl) fun a S => ?_
  refine lq p0 S (q_move rfl) fun a S => ?_
  refine lq p0 S (q_nilCheck rfl ((hat33 0 _ rfl).isP)) fun a S => ?_
  refine lq (pAdd p0 3) S (q_fieldAddr' 3 29 rfl ((hat33 0 _ rfl).isP) Tryz.underlying31 rfl Tryz.sizeOf29) fun a S => ?_
  refine lx_e v36 S trivial (by decide) rfl trivial (q_load1 rfl Tryz.isAgg29 (by rintro _ rfl; exact (At.of_add (m := 3) (j := 0) ((hat33 3 _ rfl).ext H.ext)))) (fun a S => ?_)
  refine lq (.int .i64 (a0.2.2.2.length : Int)) S (q_lenSl rfl (h37).isSl rfl Tryz.underlying29) fun a S => ?_
  refine lq (.bool (decide (x117 < (a0.2.2.2.length : Int)))) S (q_lss rfl rfl) fun a S => ?_
  refine lx_nil (thenN ?_)
  refine cond_b S rfl (fun hc190 => ?_) (fun hc190 => ?_)
  ·have hm := ite_t hc190 hm
   refine wp_skip (thenN ?_)
   obtain ⟨K194, hK195, hm⟩ := join_elim hm
   refine seq_cut (fun a w => ∃ (xs192 : List Str) (v191 : Value), Slots a 59 [(0, p0), (1, (.int .i64 a1)), (5, v191), (6, (.int .i64 x117))] ∧ Heap w0 [oA (rList rStr) v191 xs192] w ∧ K194 xs192 = some o188) ?_ ?_
   ·rintro a w ⟨xs192, v191, S, H, hm⟩
    subst hK195
    refine region_plain ?_
    refine lq (.int .i64 x117) S (q_move rfl) fun a S => ?_
    refine lq (.int .i64 (W (x117 + (1 : Int)))) S (q_add rfl rfl) fun a S => ?_
    refine lq (.int .i64 (W (x117 + (1 : Int)))) S (q_assign rfl) fun a S => ?_
    refine lx_nil ?_
    exact ⟨m187, Nat.lt_succ_self _, xs192, (W (x117 + (1 : Int))), v191, S.sub ⟨rfl, rfl, rfl, rfl, trivial⟩, H, it_cont hm hc189⟩
   ·skip
    refine wp_block ?_
    refine wp_seq (region_plain ?_)
    refine lq p0 S (q_move rfl) fun a S => ?_
    refine lq p0 S (q_nilCheck rfl ((hat33 0 _ rfl).isP)) fun a S => ?_
    refine lq (pAdd p0 3) S (q_fieldAddr' 3 29 rfl ((hat33 0 _ rfl).isP) Tryz.underlying31 rfl Tryz.sizeOf29) fun a S => ?_
    refine lx_e v36 S trivial (by decide) rfl trivial (q_load1 rfl Tryz.isAgg29 (by rintro _ rfl; exact (At.of_add (m := 3) (j := 0) ((hat33 3 _ rfl).ext H.ext)))) (fun a S => ?_)
    refine lq (.int .i64 x117) S (q_move rfl) fun a S => ?_
    obtain ⟨x196, e197, hm⟩ := bind_some hm
    obtain ⟨c198, h199, hat200⟩ := (h37).elem (idx_some e197).2
    obtain ⟨c201, c202, rfl, h203, h204⟩ := h199
    obtain rfl := h203
    obtain ⟨c205, c206, rfl, h207, h208⟩ := h204
    obtain rfl := h207
    obtain rfl := h208
    have hlt := lt_of_idx (idx_some e197).2
    refine lq (ePtr v36 (x117.toNat * 3)) S (q_indexAddr rfl (h37).isSl rfl (idx_some e197).1 hlt Tryz.underlying29 Tryz.sizeOf68) fun a S => ?_
    refine lx_e (.agg #[(.int .i64 x196.1), (.int .i64 x196.2.1), (.int .i64 x196.2.2)]) S trivial (by decide) rfl trivial (q_loadA (cs := [(.int .i64 x196.1), (.int .i64 x196.2.1), (.int .i64 x196.2.2)]) rfl ((hat200 0 _ rfl).isP) Tryz.isAgg68 Tryz.sizeOf68 (by rintro _ rfl; exact (fun j u hu => (hat200 j u hu).ext H.ext))) (fun a S => ?_)
    refine lx_alloc S trivial (by decide) rfl H Tryz.zeroValue68 rfl (fun b209 w210 H => ⟨trivial, fun a S => ?_⟩)
    refine lx_storeBox (o := 0) (i := 0) (us := [(.int .i64 x196.1), (.int .i64 x196.2.1), (.int .i64 x196.2.2)]) (cs' := [(.int .i64 x196.1), (.int .i64 x196.2.1), (.int .i64 x196.2.2)]) S trivial rfl H rfl rfl rfl rfl Tryz.sizeOf68 (Nat.le_of_ble_eq_true rfl) (List.forall_mem_cons.2 ⟨rfl, (List.forall_mem_cons.2 ⟨rfl, (List.forall_mem_cons.2 ⟨rfl, (fun _ h => nomatch h)⟩)⟩)⟩) rfl (fun w212 H => ⟨trivial, fun a S => ?_⟩)
    change Heap w0 [bA b209 [(.int .i64 x196.1), (.int .i64 x196.2.1), (.int .i64 x196.2.2)] 68, oA (rList rStr) v114 xs115] w212 at H
    refine lx_nil (thenN ?_)
    refine wp_seq ?_
    refine region_drawG (fun w1 => Heap w0 [bA b209 [(.int .i64 x196.1), (.int .i64 x196.2.1), (.int .i64 x196.2.2)] 68] w1) (fun i => [19].contains i) mixed (by kernel_rfl) (fun w214 he213 => ?_)
    have H := H.later he213
    refine ⟨H.sel [0] (by decide), ?_⟩
    refine lq (pAdd (bp b209) 0) S (q_fieldAddr' 0 2 rfl (isP_bp _) Tryz.underlying68 rfl Tryz.sizeOf2) fun a S => ?_
    refine lq (.int .i64 x196.1) S (q_load1 rfl Tryz.isAgg2 (fun w1 hC => (At.of_add (m := 0) (j := 0) (boxAt (i := 0) hC rfl (j := 0) rfl)))) fun a S => ?_
    refine lq (.int .i64 a1) S (q_move rfl) fun a S => ?_
    refine lq (.bool (x196.1 == a1)) S (q_eql rfl rfl) fun a S => ?_
    refine lq (.bool (x196.1 == a1)) S (q_move rfl) fun a S => ?_
    obtain ⟨t215, e216, hm⟩ := bind_some hm
    refine lx_cut 4 (fun a w => Slots a 59 [(0, p0), (1, (.int .i64 a1)), (5, v114), (6, (.int .i64 x117)), (7, (bp b209)), (33, (.bool t215))] ∧ Heap w0 [bA b209 [(.int .i64 x196.1), (.int .i64 x196.2.1), (.int .i64 x196.2.2)] 68, oA (rList rStr) v114 xs115] w) ?_ ?_
    ·by_cases hc217 : (x196.1 == a1) = true
     ·have hm := ite_t hc217 e216
      refine lx_q (pAdd (bp b209) 1) S (want_b rfl rfl hc217) (by decide) (q_fieldAddr' 1 2 rfl (isP_bp _) Tryz.underlying68 rfl Tryz.sizeOf2) (fun a S => ?_)
      refine lx_q (.int .i64 x196.2.1) S (want_b rfl rfl hc217) (by decide) (q_load1 rfl Tryz.isAgg2 (fun w1 hC => (At.of_add (m := 1) (j := 0) (boxAt (i := 0) hC rfl (j := 1) rfl)))) (fun a S => ?_)
      refine lx_q (.bool (decide ((0 : Int) < x196.2.1))) S (want_b rfl rfl hc217) (by decide) (q_gtr rfl rfl) (fun a S => ?_)
      refine lq (.bool (decide ((0 : Int) < x196.2.1))) S (q_pickT' rfl hc217 rfl) fun a S => ?_
      refine lx_nil ?_
      obtain rfl := Option.some.inj hm
      exact ⟨S.sub ⟨rfl, rfl, rfl, rfl, rfl, rfl, trivial⟩, H⟩
     ·have hm := ite_f (eq_false_of_ne_true hc217) e216
      have hc217 : (x196.1 == a1) = false := eq_false_of_ne_true hc217
      refine lx_skip S rfl rfl (isB_ne hc217) (by decide) (fun a S => ?_)
      refine lx_skip S rfl rfl (isB_ne hc217) (by decide) (fun a S => ?_)
      refine lx_skip S rfl rfl (isB_ne hc217) (by decide) (fun a S => ?_)
      refine lq (.bool false) S (q_pickF' rfl hc217 rfl) fun a S => ?_
      refine lx_nil ?_
      obtain rfl := Option.some.inj hm
      exact ⟨S.sub ⟨rfl, rfl, rfl, rfl, rfl, rfl, trivial⟩, H⟩
    ·rintro a w ⟨S, H⟩
     refine lq (.bool t215) S (q_move rfl) fun a S => ?_
     obtain ⟨t218, e219, hm⟩ := bind_some hm
     refine lx_cut 12 (fun a w => Slots a 59 [(0, p0), (1, (.int .i64 a1)), (5, v114), (6, (.int .i64 x117)), (7, (bp b209)), (46, (.bool t218))] ∧ Heap w0 [bA b209 [(.int .i64 x196.1), (.int .i64 x196.2.1), (.int .i64 x196.2.2)] 68, oA (rList rStr) v114 xs115] w) ?_ ?_
     ·by_cases hc220 : t215 = true
      ·have hm := ite_t hc220 e219
       refine lx_q v114 S (want_b rfl rfl hc220) (by decide) (q_move rfl) (fun a S => ?_)
       refine lx_q p0 S (want_b rfl rfl hc220) (by decide) (q_move rfl) (fun a S => ?_)
       refine lx_q p0 S (want_b rfl rfl hc220) (by decide) (q_nilCheck rfl ((hat33 0 _ rfl).isP)) (fun a S => ?_)
       refine lx_q (pAdd p0 2) S (want_b rfl rfl hc220) (by decide) (q_fieldAddr' 2 22 rfl ((hat33 0 _ rfl).isP) Tryz.underlying31 rfl Tryz.sizeOf22) (fun a S => ?_)
       refine lx_q v34 S (want_b rfl rfl hc220) (by decide) (q_load1 rfl Tryz.isAgg22 (fun w1 hC => (At.of_add (m := 2) (j := 0) ((hat33 2 _ rfl).ext hC.ext)))) (fun a S => ?_)
       refine lx_q (pAdd (bp b209) 1) S (want_b rfl rfl hc220) (by decide) (q_fieldAddr' 1 2 rfl (isP_bp _) Tryz.underlying68 rfl Tryz.sizeOf2) (fun a S => ?_)
       refine lx_q (.int .i64 x196.2.1) S (want_b rfl rfl hc220) (by decide) (q_load1 rfl Tryz.isAgg2 (fun w1 hC => (At.of_add (m := 1) (j := 0) (boxAt (i := 0) hC rfl (j := 1) rfl)))) (fun a S => ?_)
       obtain ⟨x221, e222, hm⟩ := bind_some hm
       obtain ⟨c223, h224, hat225⟩ := (h35).elem (idx_some e222).2
       obtain rfl := h224
       have hlt := lt_of_idx (idx_some e222).2
       refine lx_q (ePtr v34 (x196.2.1.toNat * 1)) S (want_b rfl rfl hc220) (by decide) (q_indexAddr rfl (h35).isSl rfl (idx_some e222).1 hlt Tryz.underlying22 Tryz.sizeOf9) (fun a S => ?_)
       refine lx_q (sv x221) S (want_b rfl rfl hc220) (by decide) (q_load1 rfl Tryz.isAgg9 (fun w1 hC => ((hat225 0 _ rfl).ext hC.ext))) (fun a S => ?_)
       obtain ⟨x228, e229, hm⟩ := bind_some hm
       refine lx_call (xs := [.tmp 35, .tmp 43]) S (want_b rfl rfl hc220) (by decide) rfl rfl Tryz.call35 ((spec_l11Find_ok (H.rdAt 1 rfl)  e229).mono ?_)
       rintro e w226 ⟨rfl, Hc227⟩
       have H := H.call0 Hc227
       refine ⟨_, rfl, H.sel [0] (by decide), fun a S => ?_⟩
       refine lx_q (.bool (decide (x228 < (0 : Int)))) S (want_b rfl rfl hc220) (by decide) (q_lss rfl rfl) (fun a S => ?_)
       refine lq (.bool (decide (x228 < (0 : Int)))) S (q_pickT' rfl hc220 rfl) fun a S => ?_
       refine lx_nil ?_
       obtain rfl := Option.some.inj hm
       exact ⟨S.sub ⟨rfl, rfl, rfl, rfl, rfl, rfl, trivial⟩, H⟩
      ·have hm := ite_f (eq_false_of_ne_true hc220) e219
       have hc220 : t215 = false := eq_false_of_ne_true hc220
       refine lx_skip S rfl rfl (isB_ne hc220) (by decide) (fun a S => ?_)
       refine lx_skip S rfl rfl (isB_ne hc220) (by decide) (fun a S => ?_)
       refine lx_skip S rfl rfl (isB_ne hc220) (by decide) (fun a S => ?_)
       refine lx_skip S rfl rfl (isB_ne hc220) (by decide) (fun a S => ?_)
       refine lx_skip S rfl rfl (isB_ne hc220) (by decide) (fun a S => ?_)
       refine lx_skip S rfl rfl (isB_ne hc220) (by decide) (fun a S => ?_)
       refine lx_skip S rfl rfl (isB_ne hc220) (by decide) (fun a S => ?_)
       refine lx_skip S rfl rfl (isB_ne hc220) (by decide) (fun a S => ?_)
       refine lx_skip S rfl rfl (isB_ne hc220) (by decide) (fun a S => ?_)
       refine lx_skip S rfl rfl (isB_ne hc220) (by decide) (fun a S => ?_)
       refine lx_skip S rfl rfl (isB_ne hc220) (by decide) (fun a S => ?_)
       refine lq (.bool false) S (q_pickF' rfl hc220 rfl) fun a S => ?_
       refine lx_nil ?_
       obtain rfl := Option.some.inj hm
       exact ⟨S.sub ⟨rfl, rfl, rfl, rfl, rfl, rfl, trivial⟩, H⟩
     ·rintro a w ⟨S, H⟩
      refine lx_nil (thenN ?_)
      refine cond_b S rfl (fun hc231 => ?_) (fun hc231 => ?_)
      ·have hm := ite_t hc231 hm
       refine region_drawG (fun w1 => Heap w0 [bA b209 [(.int .i64 x196.1), (.int .i64 x196.2.1), (.int .i64 x196.2.2)] 68] w1) (fun i => [9, 10].contains i) mixed (by kernel_rfl) (fun w233 he232 => ?_)
       have H := H.later he232
       refine ⟨H.sel [0] (by decide), ?_⟩
       refine lq v114 S (q_move rfl) fun a S => ?_
       refine lq p0 S (q_move rfl) fun a S => ?_
       refine lq p0 S (q_nilCheck rfl ((hat33 0 _ rfl).isP)) fun a S => ?_
       refine lq (pAdd p0 2) S (q_fieldAddr' 2 22 rfl ((hat33 0 _ rfl).isP) Tryz.underlying31 rfl Tryz.sizeOf22) fun a S => ?_
       refine lq v34 S (q_load1 rfl Tryz.isAgg22 (fun w1 hC => (At.of_add (m := 2) (j := 0) ((hat33 2 _ rfl).ext hC.ext)))) fun a S => ?_
       refine lq (pAdd (bp b209) 1) S (q_fieldAddr' 1 2 rfl (isP_bp _) Tryz.underlying68 rfl Tryz.sizeOf2) fun a S => ?_
       refine lq (.int .i64 x196.2.1) S (q_load1 rfl Tryz.isAgg2 (fun w1 hC => (At.of_add (m := 1) (j := 0) (boxAt (i := 0) hC rfl (j := 1) rfl)))) fun a S => ?_
       obtain ⟨x234, e235, hm⟩ := bind_some hm
       obtain ⟨c236, h237, hat238⟩ := (h35).elem (idx_some e235).2
       obtain rfl := h237
       have hlt := lt_of_idx (idx_some e235).2
       refine lq (ePtr v34 (x196.2.1.toNat * 1)) S (q_indexAddr rfl (h35).isSl rfl (idx_some e235).1 hlt Tryz.underlying22 Tryz.sizeOf9) fun a S => ?_
       refine lq (sv x234) S (q_load1 rfl Tryz.isAgg9 (fun w1 hC => ((hat238 0 _ rfl).ext hC.ext))) fun a S => ?_
       refine lx_buildSlice (r := rStr) (xs := [x234]) (ps := [(0, [(sv x234)])]) (cs := [(sv x234)]) (parts := [(0, .tmp 55)]) S trivial (by decide) rfl (H.put0 (A := eA) rfl) rfl Tryz.underlying22 Tryz.sizeOf9 Tryz.zeroValue9 (by decide) ⟨rfl, rfl, Nat.le_of_ble_eq_true rfl, trivial⟩ (by intro zs hz; exact fill_dense hz ⟨rfl, trivial⟩ rfl rfl) rfl (by decide) (fun w F hA => by cases (show F = [] from hA); exact ⟨_, _, [(sv x234)], _, rfl, rfl, ⟨rfl, rfl⟩, ⟨rfl, rfl⟩⟩) (fun v239 w240 H => ⟨H.sel [1] (by decide), fun a S => ?_⟩)
       obtain ⟨x242, e243, hm⟩ := bind_some hm
       obtain ⟨hle, hap⟩ := app_some e243
       replace hap := hap.symm
       subst hap
       have H : Heap w0 [oA (rList rStr) v239 [x234], bA b209 [(.int .i64 x196.1), (.int .i64 x196.2.1), (.int .i64 x196.2.2)] 68, oA (rList rStr) v114 xs115] w240 := H.front 0 rfl
       have H : Heap w0 [oA (rList rStr) v114 xs115, oA (rList rStr) v239 [x234], bA b209 [(.int .i64 x196.1), (.int .i64 x196.2.1), (.int .i64 x196.2.2)] 68] w240 := H.front 2 rfl
       refine lx_appendOwn (r := rStr) S trivial (by decide) rfl H rfl rfl Tryz.underlying22 Tryz.ti9 rfl rfl rfl (by decide) (by decide) hle (fun v244 w245 H => ⟨H.sel [1] (by decide), fun a S => ?_⟩)
       refine lq v244 S (q_assign rfl) fun a S => ?_
       refine lx_nil ?_
       refine inBlock_norm ?_
       have H : Heap w0 [oA (rList rStr) v244 (xs115 ++ [x234])] w245 := H.sel [0] (by decide)
       exact ⟨(xs115 ++ [x234]), v244, S.sub ⟨rfl, rfl, rfl, rfl, trivial⟩, H, hm⟩
      ·have hm := ite_f hc231 hm
       refine wp_skip ?_
       refine inBlock_norm ?_
       have H : Heap w0 [oA (rList rStr) v114 xs115] w := H.sel [1] (by decide)
       exact ⟨xs115, v114, S.sub ⟨rfl, rfl, rfl, rfl, trivial⟩, H, hm⟩
  ·have hm := ite_f hc190 hm
   refine wp_exit ?_
   refine then_exit ?_
   refine then_exit ?_
   refine inBlock_exit ?_
   obtain rfl := it_brk hm hc189
   exact ⟨xs115, v114, S.sub ⟨rfl, trivial⟩, H, rfl⟩

/-- spec.l18Less -/
def spec_l18Less_m (fuel : Nat) (a0 : (List Str)) (a1 : (List Str)) : Option ((List Str)) :=
  (iter (fun (s : (List Str) × (Int)) => (match s with | (xs69, x71) => (if (decide (x71 < (a0.length : Int))) = true then join (κ := List Str → Option (((List Str) × (Int)) ⊕ (((List Str)) ⊕ ((List Str))))) (fun (xs119 : List Str) => some (.inl (xs119, (W (x71 + (1 : Int)))))) (fun K121 => (idx a0 x71).bind fun x123 => (spec_l11Find_m fuel a1 x123).bind fun x130 => (if (decide (x130 < (0 : Int))) = true then (idx a0 x71).bind fun x134 => (app xs69 [x134]).bind fun x142 => (K121 x142) else (K121 xs69))) else some (.inr (.inl (xs69)))) : Option (((List Str) × (Int)) ⊕ (((List Str)) ⊕ ((List Str)))))) fuel (([] : List Str), (1 : Int))).bind fun res109 => ctl (β := (List Str)) (ρ := (List Str)) (τ := (List Str)) res109 (fun (xs107) => some (xs107)) (fun q => some (q))
set_option maxRecDepth 20000 in
theorem spec_l18Less_ok {w0 : World} {fuel : Nat} {p0 p1 : Value} {a0 : (List Str)} {a1 : (List Str)} {r : (List Str)} (h0 : Rd (rList rStr) w0 p0 a0) (h1 : Rd (rList rStr) w0 p1 a1) (hm : spec_l18Less_m fuel a0 a1 = some r) :
  Calls Tryz.prog 24 #[p0, p1] w0 fun e w => ∃ (v0 : Value), e = .returned (v0) ∧ Heap w0 [oA (rList rStr) v0 r] w := by
 unfold spec_l18Less_m at hm
 have H := Heap.start w0
 refine enter (args := [p0, p1]) Tryz.func24 rfl 29 rfl (Nat.le_of_ble_eq_true rfl) (fun a S => ?_)
 refine wp_seq (region_plain ?_)
 refine lq (.slice none 0 0) S (q_assign rfl) fun a S => ?_
 refine lx_nil (thenN ?_)
 refine wp_seq (region_plain ?_)
 refine lx_buildSlice0 (r := rStr) S trivial (by decide) rfl H Tryz.underlying22 Tryz.sizeOf9 (fun v31 w32 H => ⟨trivial, fun a S => ?_⟩)
 refine lq v31 S (q_assign rfl) fun a S => ?_
 refine lx_nil (thenN ?_)
 refine wp_seq (wp_seq (region_plain ?_))
 refine lq (.int .i64 (1 : Int)) S (q_assign rfl) fun a S => ?_
 refine lx_nil (thenN ?_)
 obtain ⟨res109, hit110, hk113⟩ := bind_some hm
 obtain ⟨f111, hf112, hit110⟩ := iter_name hit110
 refine block_loop (fun a w => ∃ (xs107 : List Str) (v106 : Value), Slots a 29 [(5, v106)] ∧ Heap w0 [oA (rList rStr) v106 xs107] w ∧ res109 = .inl (xs107)) ?_ ?_
 ·rintro a w ⟨xs107, v106, S, H, rfl⟩
  have hm := ctl_inl hk113
  refine thenN ?_
  refine wp_seq (region_plain ?_)
  refine lq v106 S (q_move rfl) fun a S => ?_
  refine lq v106 S (q_assign rfl) fun a S => ?_
  refine lx_nil (thenN ?_)
  refine wp_ret ?_
  obtain rfl := Option.some.inj hm
  exact leave1 S rfl rfl ⟨v106, rfl, H⟩
 ·skip
  refine loop_ghost (fun n a w => ∃ (xs69 : List Str) (x71 : Int) (v68 : Value), Slots a 29 [(0, p0), (1, p1), (5, v68), (6, (.int .i64 x71))] ∧ Heap w0 [oA (rList rStr) v68 xs69] w ∧ iter f111 n (xs69, x71) = some res109) _ ⟨([] : List Str), (1 : Int), v31, S.sub ⟨rfl, rfl, rfl, rfl, trivial⟩, H, hit110⟩ ?_
  rintro n a w ⟨xs69, x71, v68, S, H, hit110⟩
  obtain ⟨m114, o115, rfl, hm, hc116⟩ := iter_step hit110
  rw [hf112] at hm
  refine wp_seq (wp_seq (region_plain ?_))
  refine lq (.int .i64 x71) S (q_move rfl) fun a S => ?_
  refine lq p0 S (q_move rfl) fun a S => ?_
  refine lq (.int .i64 (a0.length : Int)) S (q_lenSl rfl (h0).isSl rfl Tryz.underlying22) fun a S => ?_
  refine lq (.bool (decide (x71 < (a0.length : Int)))) S (q_lss rfl rfl) fun a S => ?_
  refine lx_nil (thenN ?_)
  refine cond_b S rfl (fun hc117 => ?_) (fun hc117 => ?_)
  ·have hm := ite_t hc117 hm
   refine wp_skip (thenN ?_)
   obtain ⟨K121, hK122, hm⟩ := join_elim hm
   refine seq_cut (fun a w => ∃ (xs119 : List Str) (v118 : Value), Slots a 29 [(0, p0), (1, p1), (5, v118), (6, (.int .i64 x71))] ∧ Heap w0 [oA (rList rStr) v118 xs119] w ∧ K121 xs119 = some o115) ?_ ?_
   ·rintro a w ⟨xs119, v118, S, H, hm⟩
    subst hK122
    refine region_plain ?_
    refine lq (.int .i64 x71) S (q_move rfl) fun a S => ?_
    refine lq (.int .i64 (W (x71 + (1 : Int)))) S (q_add rfl rfl) fun a S => ?_
    refine lq (.int .i64 (W (x71 + (1 : Int)))) S (q_assign rfl) fun a S => ?_
    refine lx_nil ?_
    exact ⟨m114, Nat.lt_succ_self _, xs119, (W (x71 + (1 : Int))), v118, S.sub ⟨rfl, rfl, rfl, rfl, trivial⟩, H, it_cont hm hc116⟩
   ·skip
    refine wp_block ?_
    refine wp_seq (region_plain ?_)
    refine lq p1 S (q_move rfl) fun a S => ?_
    refine lq p0 S (q_move rfl) fun a S => ?_
    refine lq (.int .i64 x71) S (q_move rfl) fun a S => ?_
    obtain ⟨x123, e124, hm⟩ := bind_some hm
    obtain ⟨c125, h126, hat127⟩ := (h0).elem (idx_some e124).2
    obtain rfl := h126
    have hlt := lt_of_idx (idx_some e124).2
    refine lq (ePtr p0 (x71.toNat * 1)) S (q_indexAddr rfl (h0).isSl rfl (idx_some e124).1 hlt Tryz.underlying22 Tryz.sizeOf9) fun a S => ?_
    refine lx_e (sv x123) S trivial (by decide) rfl trivial (q_load1 rfl Tryz.isAgg9 (by rintro _ rfl; exact ((hat127 0 _ rfl).ext H.ext))) (fun a S => ?_)
    obtain ⟨x130, e131, hm⟩ := bind_some hm
    refine lx_call (xs := [.tmp 14, .tmp 18]) S trivial (by decide) rfl rfl Tryz.call35 ((spec_l11Find_ok (H.arg h1)  e131).mono ?_)
    rintro e w128 ⟨rfl, Hc129⟩
    have H := H.call0 Hc129
    refine ⟨_, rfl, trivial, fun a S => ?_⟩
    refine lq (.bool (decide (x130 < (0 : Int)))) S (q_lss rfl rfl) fun a S => ?_
    refine lx_nil (thenN ?_)
    refine cond_b S rfl (fun hc133 => ?_) (fun hc133 => ?_)
    ·have hm := ite_t hc133 hm
     refine region_plain ?_
     refine lq v68 S (q_move rfl) fun a S => ?_
     refine lq p0 S (q_move rfl) fun a S => ?_
     refine lq (.int .i64 x71) S (q_move rfl) fun a S => ?_
     obtain ⟨x134, e135, hm⟩ := bind_some hm
     obtain ⟨c136, h137, hat138⟩ := (h0).elem (idx_some e135).2
     obtain rfl := h137
     have hlt := lt_of_idx (idx_some e135).2
     refine lq (ePtr p0 (x71.toNat * 1)) S (q_indexAddr rfl (h0).isSl rfl (idx_some e135).1 hlt Tryz.underlying22 Tryz.sizeOf9) fun a S => ?_
     refine lx_e (sv x134) S trivial (by decide) rfl trivial (q_load1 rfl Tryz.isAgg9 (by rintro _ rfl; exact ((hat138 0 _ rfl).ext H.ext))) (fun a S => ?_)
     refine lx_buildSlice (r := rStr) (xs := [x134]) (ps := [(0, [(sv x134)])]) (cs := [(sv x134)]) (parts := [(0, .tmp 25)]) S trivial (by decide) rfl (H.put0 (A := eA) rfl) rfl Tryz.underlying22 Tryz.sizeOf9 Tryz.zeroValue9 (by decide) ⟨rfl, rfl, Nat.le_of_ble_eq_true rfl, trivial⟩ (by intro zs hz; exact fill_dense hz ⟨rfl, trivial⟩ rfl rfl) rfl (by decide) (fun w F hA => by cases (show F = [] from hA); exact ⟨_, _, [(sv x134)], _, rfl, rfl, ⟨rfl, rfl⟩, ⟨rfl, rfl⟩⟩) (fun v139 w140 H => ⟨trivial, fun a S => ?_⟩)
     obtain ⟨x142, e143, hm⟩ := bind_some hm
     obtain ⟨hle, hap⟩ := app_some e143
     replace hap := hap.symm
     subst hap
     have H : Heap w0 [oA (rList rStr) v139 [x134], oA (rList rStr) v68 xs69] w140 := H.front 0 rfl
     have H : Heap w0 [oA (rList rStr) v68 xs69, oA (rList rStr) v139 [x134]] w140 := H.front 1 rfl
     refine lx_appendOwn (r := rStr) S trivial (by decide) rfl H rfl rfl Tryz.underlying22 Tryz.ti9 rfl rfl rfl (by decide) (by decide) hle (fun v144 w145 H => ⟨trivial, fun a S => ?_⟩)
     refine lq v144 S (q_assign rfl) fun a S => ?_
     refine lx_nil ?_
     refine inBlock_norm ?_
     exact ⟨(xs69 ++ [x134]), v144, S.sub ⟨rfl, rfl, rfl, rfl, trivial⟩, H, hm⟩
    ·have hm := ite_f hc133 hm
     refine wp_skip ?_
     refine inBlock_norm ?_
     exact ⟨xs69, v68, S.sub ⟨rfl, rfl, rfl, rfl, trivial⟩, H, hm⟩
  ·have hm := ite_f hc117 hm
   refine wp_exit ?_
   refine then_exit ?_
   refine then_exit ?_
   refine inBlock_exit ?_
   obtain rfl := it_brk hm hc116
   exact ⟨xs69, v68, S.sub ⟨rfl, trivial⟩, H, rfl⟩

/-- spec.RefusalOf -/
def spec_RefusalOf_m (fuel : Nat) (a0 : Timpl_Lts) (a1 : Int) : Option (((List Str) × Int)) :=
  (spec_l11Is_m fuel (a0.1, a0.2.1, a0.2.2.1, a0.2.2.2)).bind fun x54 => (if (!x54) = true then some (([], (1 : Int))) else (spec_l11State_m fuel (a0.1, a0.2.1, a0.2.2.1, a0.2.2.2) a1).bind fun x61 => (if (!x61) = true then some (([], (2 : Int))) else (spec_l18Stable_m fuel (a0.1, a0.2.1, a0.2.2.1, a0.2.2.2) a1).bind fun x68 => (if (!x68) = true then some (([], (6 : Int))) else (spec_l18Offer_m fuel (a0.1, a0.2.1, a0.2.2.1, a0.2.2.2) a1).bind fun x77 => (spec_l18Less_m fuel a0.2.2.1 x77).bind fun x84 => some ((x84, (0 : Int))))))
set_option maxRecDepth 20000 in
theorem spec_RefusalOf_ok {w0 : World} {fuel : Nat} {p0 : Value} {a0 : Timpl_Lts} {a1 : Int} {r : ((List Str) × Int)} (h0 : Rd Rimpl_Lts w0 p0 a0) (hm : spec_RefusalOf_m fuel a0 a1 = some r) :
  Calls Tryz.prog 6 #[p0, .int .i64 a1] w0 fun e w => ∃ (v0 : Value), e = .returned (.tuple #[v0, .int .i64 r.2]) ∧ Heap w0 [oA (rList rStr) v0 r.1] w := by
 unfold spec_RefusalOf_m at hm
 have H := Heap.start w0
 obtain ⟨c31, rfl, h32⟩ := h0
 obtain ⟨c37, c38, rfl, h39, h40⟩ := h32
 obtain rfl := h39
 obtain ⟨c41, c42, rfl, h43, h44⟩ := h40
 obtain rfl := h43
 obtain ⟨c45, c46, rfl, h47, h48⟩ := h44
 obtain ⟨v33, rfl, h34⟩ := rd_list h47
 obtain ⟨v35, rfl, h36⟩ := rd_list h48
 refine enter (args := [(.agg #[(.int .i64 a0.1), (.int .i64 a0.2.1), v33, v35]), .int .i64 a1]) Tryz.func6 rfl 19 rfl (Nat.le_of_ble_eq_true rfl) (fun a S => ?_)
 refine wp_seq (region_plain ?_)
 refine lx_box S trivial (by decide) rfl H rfl rfl (fun b49 w50 H => ⟨trivial, fun a S => ?_⟩)
 refine lq (.slice none 0 0) S (q_assign rfl) fun a S => ?_
 refine lq (.int .i64 (0 : Int)) S (q_assign rfl) fun a S => ?_
 refine lx_nil (thenN ?_)
 refine wp_seq (wp_seq (region_plain ?_))
 obtain ⟨x54, e55, hm⟩ := bind_some hm
 refine lx_call (xs := [.tmp 2]) S trivial (by decide) rfl rfl Tryz.call21 ((spec_l11Is_ok (rdPtr_box H 0 rfl ⟨[(.int .i64 a0.1)], [(.int .i64 a0.2.1), v33, v35], rfl, rfl, ⟨[(.int .i64 a0.2.1)], [v33, v35], rfl, rfl, ⟨[v33], [v35], rfl, ((H.arg h34)).list_rd, ((H.arg h36)).list_rd⟩⟩⟩) e55).mono ?_)
 rintro e w52 ⟨rfl, Hc53⟩
 have H := H.call0 Hc53
 refine ⟨_, rfl, trivial, fun a S => ?_⟩
 refine lq (.bool (!x54)) S (q_not rfl) fun a S => ?_
 refine lx_nil (thenN ?_)
 refine cond_b S rfl (fun hc57 => ?_) (fun hc57 => ?_)
 ·have hm := ite_t hc57 hm
  refine wp_seq (region_plain ?_)
  refine lq (.slice none 0 0) S (q_assign rfl) fun a S => ?_
  refine lq (.int .i64 (1 : Int)) S (q_assign rfl) fun a S => ?_
  refine lx_nil (thenN ?_)
  refine wp_ret (then_ret ?_)
  obtain rfl := Option.some.inj hm
  have H : Heap w0 [oA (rList rStr) (.slice none 0 0) ([] : List Str), bA b49 [(.int .i64 a0.1), (.int .i64 a0.2.1), v33, v35] 31] w52 := H.nilList rStr
  have H : Heap w0 [oA (rList rStr) (.slice none 0 0) ([] : List Str)] w52 := H.sel [0] (by decide)
  exact leave2 S rfl rfl rfl ⟨(.slice none 0 0), rfl, H⟩
 ·have hm := ite_f hc57 hm
  refine wp_skip (thenN ?_)
  refine wp_seq (wp_seq (region_plain ?_))
  refine lq (.int .i64 a1) S (q_move rfl) fun a S => ?_
  obtain ⟨x61, e62, hm⟩ := bind_some hm
  refine lx_call (xs := [.tmp 2, .tmp 8]) S trivial (by decide) rfl rfl Tryz.call22 ((spec_l11State_ok (rdPtr_box H 0 rfl ⟨[(.int .i64 a0.1)], [(.int .i64 a0.2.1), v33, v35], rfl, rfl, ⟨[(.int .i64 a0.2.1)], [v33, v35], rfl, rfl, ⟨[v33], [v35], rfl, ((H.arg h34)).list_rd, ((H.arg h36)).list_rd⟩⟩⟩)  e62).mono ?_)
  rintro e w59 ⟨rfl, Hc60⟩
  have H := H.call0 Hc60
  refine ⟨_, rfl, trivial, fun a S => ?_⟩
  refine lq (.bool (!x61)) S (q_not rfl) fun a S => ?_
  refine lx_nil (thenN ?_)
  refine cond_b S rfl (fun hc64 => ?_) (fun hc64 => ?_)
  ·have hm := ite_t hc64 hm
   refine wp_seq (region_plain ?_)
   refine lq (.slice none 0 0) S (q_assign rfl) fun a S => ?_
   refine lq (.int .i64 (2 : Int)) S (q_assign rfl) fun a S => ?_
   refine lx_nil (thenN ?_)
   refine wp_ret (then_ret ?_)
   obtain rfl := Option.some.inj hm
   have H : Heap w0 [oA (rList rStr) (.slice none 0 0) ([] : List Str), bA b49 [(.int .i64 a0.1), (.int .i64 a0.2.1), v33, v35] 31] w59 := H.nilList rStr
   have H : Heap w0 [oA (rList rStr) (.slice none 0 0) ([] : List Str)] w59 := H.sel [0] (by decide)
   exact leave2 S rfl rfl rfl ⟨(.slice none 0 0), rfl, H⟩
  ·have hm := ite_f hc64 hm
   refine wp_skip (thenN ?_)
   refine wp_seq (wp_seq (region_plain ?_))
   refine lq (.int .i64 a1) S (q_move rfl) fun a S => ?_
   obtain ⟨x68, e69, hm⟩ := bind_some hm
   refine lx_call (xs := [.tmp 2, .tmp 11]) S trivial (by decide) rfl rfl Tryz.call23 ((spec_l18Stable_ok (rdPtr_box H 0 rfl ⟨[(.int .i64 a0.1)], [(.int .i64 a0.2.1), v33, v35], rfl, rfl, ⟨[(.int .i64 a0.2.1)], [v33, v35], rfl, rfl, ⟨[v33], [v35], rfl, ((H.arg h34)).list_rd, ((H.arg h36)).list_rd⟩⟩⟩)  e69).mono ?_)
   rintro e w66 ⟨rfl, Hc67⟩
   have H := H.call0 Hc67
   refine ⟨_, rfl, trivial, fun a S => ?_⟩
   refine lq (.bool (!x68)) S (q_not rfl) fun a S => ?_
   refine lx_nil (thenN ?_)
   refine cond_b S rfl (fun hc71 => ?_) (fun hc71 => ?_)
   ·have hm := ite_t hc71 hm
    refine wp_seq (region_plain ?_)
    refine lq (.slice none 0 0) S (q_assign rfl) fun a S => ?_
    refine lq (.int .i64 (6 : Int)) S (q_assign rfl) fun a S => ?_
    refine lx_nil (thenN ?_)
    refine wp_ret (then_ret ?_)
    obtain rfl := Option.some.inj hm
    have H : Heap w0 [oA (rList rStr) (.slice none 0 0) ([] : List Str), bA b49 [(.int .i64 a0.1), (.int .i64 a0.2.1), v33, v35] 31] w66 := H.nilList rStr
    have H : Heap w0 [oA (rList rStr) (.slice none 0 0) ([] : List Str)] w66 := H.sel [0] (by decide)
    exact leave2 S rfl rfl rfl ⟨(.slice none 0 0), rfl, H⟩
   ·have hm := ite_f hc71 hm
    refine wp_skip (thenN ?_)
    refine wp_seq ?_
    refine region_drawG (fun w1 => Heap w0 [bA b49 [(.int .i64 a0.1), (.int .i64 a0.2.1), v33, v35] 31] w1) (fun i => [3, 4].contains i) mixed (by kernel_rfl) (fun w74 he73 => ?_)
    have H := H.later he73
    refine ⟨H.sel [0] (by decide), ?_⟩
    refine lq (pAdd (bp b49) 2) S (q_fieldAddr' 2 22 rfl (isP_bp _) Tryz.underlying31 rfl Tryz.sizeOf22) fun a S => ?_
    refine lq v33 S (q_load1 rfl Tryz.isAgg22 (fun w1 hC => (At.of_add (m := 2) (j := 0) (boxAt (i := 0) hC rfl (j := 2) rfl)))) fun a S => ?_
    refine lq (.int .i64 a1) S (q_move rfl) fun a S => ?_
    obtain ⟨x77, e78, hm⟩ := bind_some hm
    refine lx_call (xs := [.tmp 2, .tmp 16]) S trivial (by decide) rfl rfl Tryz.call25 ((spec_l18Offer_ok (rdPtr_box H 0 rfl ⟨[(.int .i64 a0.1)], [(.int .i64 a0.2.1), v33, v35], rfl, rfl, ⟨[(.int .i64 a0.2.1)], [v33, v35], rfl, rfl, ⟨[v33], [v35], rfl, ((H.arg h34)).list_rd, ((H.arg h36)).list_rd⟩⟩⟩)  e78).mono ?_)
    rintro e w75 ⟨v79, rfl, Hc76⟩
    have H := H.call1 Hc76
    refine ⟨_, rfl, H.sel [1] (by decide), fun a S => ?_⟩
    obtain ⟨x84, e85, hm⟩ := bind_some hm
    refine lx_call (xs := [.tmp 15, .tmp 17]) S trivial (by decide) rfl rfl Tryz.call24 ((spec_l18Less_ok (H.arg h34) (H.rdAt 0 rfl) e85).mono ?_)
    rintro e w82 ⟨v86, rfl, Hc83⟩
    have H := H.call1 Hc83
    refine ⟨_, rfl, H.sel [2] (by decide), fun a S => ?_⟩
    refine lq v86 S (q_assign rfl) fun a S => ?_
    refine lq (.int .i64 (0 : Int)) S (q_assign rfl) fun a S => ?_
    refine lx_nil (thenN ?_)
    refine wp_ret ?_
    obtain rfl := Option.some.inj hm
    have H : Heap w0 [oA (rList rStr) v86 x84] w82 := H.sel [0] (by decide)
    exact leave2 S rfl rfl rfl ⟨v86, rfl, H⟩

/-- (impl.Lts).out -/
def impl_Lts_out_m (fuel : Nat) (a0 : Timpl_Lts) (a1 : Int) : Option ((List Timpl_Edge)) :=
  (iter (fun (s : (List Timpl_Edge) × (Int)) => (match s with | (xs91, x93) => (if (decide (x93 < (a0.2.2.2.length : Int))) = true then join (κ := List Timpl_Edge → Option (((List Timpl_Edge) × (Int)) ⊕ (((List Timpl_Edge)) ⊕ ((List Timpl_Edge))))) (fun (xs144 : List Timpl_Edge) => some (.inl (xs144, (W (x93 + (1 : Int)))))) (fun K146 => (idx a0.2.2.2 x93).bind fun x148 => (if (x148.1 == a1) = true then (app xs91 [(x148.1, x148.2.1, x148.2.2)]).bind fun x169 => (K146 x169) else (K146 xs91))) else some (.inr (.inl (xs91)))) : Option (((List Timpl_Edge) × (Int)) ⊕ (((List Timpl_Edge)) ⊕ ((List Timpl_Edge)))))) fuel ([], (0 : Int))).bind fun res133 => ctl (β := (List Timpl_Edge)) (ρ := (List Timpl_Edge)) (τ := (List Timpl_Edge)) res133 (fun (xs131) => some (xs131)) (fun q => some (q))
set_option maxRecDepth 20000 in
theorem impl_Lts_out_ok {w0 : World} {fuel : Nat} {p0 : Value} {a0 : Timpl_Lts} {a1 : Int} {r : (List Timpl_Edge)} (h0 : Rd Rimpl_Lts w0 p0 a0) (hm : impl_Lts_out_m fuel a0 a1 = some r) :
  Calls Tryz.prog 50 #[p0, .int .i64 a1] w0 fun e w => ∃ (v0 : Value), e = .returned (v0) ∧ Heap w0 [oA (rList Rimpl_Edge) v0 r] w := by
 unfold impl_Lts_out_m at hm
 have H := Heap.start w0
 obtain ⟨c31, rfl, h32⟩ := h0
 obtain ⟨c37, c38, rfl, h39, h40⟩ := h32
 obtain rfl := h39
 obtain ⟨c41, c42, rfl, h43, h44⟩ := h40
 obtain rfl := h43
 obtain ⟨c45, c46, rfl, h47, h48⟩ := h44
 obtain ⟨v33, rfl, h34⟩ := rd_list h47
 obtain ⟨v35, rfl, h36⟩ := rd_list h48
 refine enter (args := [(.agg #[(.int .i64 a0.1), (.int .i64 a0.2.1), v33, v35]), .int .i64 a1]) Tryz.func50 rfl 25 rfl (Nat.le_of_ble_eq_true rfl) (fun a S => ?_)
 refine wp_seq (region_plain ?_)
 refine lx_box S trivial (by decide) rfl H rfl rfl (fun b49 w50 H => ⟨trivial, fun a S => ?_⟩)
 refine lq (.slice none 0 0) S (q_assign rfl) fun a S => ?_
 refine lx_nil (thenN ?_)
 refine wp_seq (region_plain ?_)
 refine lq (.slice none 0 0) S (q_assign rfl) fun a S => ?_
 refine lx_nil (thenN ?_)
 refine wp_seq (wp_seq (region_plain ?_))
 refine lq (pAdd (bp b49) 3) S (q_fieldAddr' 3 29 rfl (isP_bp _) Tryz.underlying31 rfl Tryz.sizeOf29) fun a S => ?_
 refine lx_e v35 S trivial (by decide) rfl trivial (q_load1 rfl Tryz.isAgg29 (by rintro _ rfl; exact (At.of_add (m := 3) (j := 0) (boxAt (i := 0) H rfl (j := 3) rfl)))) (fun a S => ?_)
 refine lq (.int .i64 (a0.2.2.2.length : Int)) S (q_lenSl rfl (h36).isSl rfl Tryz.underlying29) fun a S => ?_
 refine lq (.int .i64 (0 : Int)) S (q_move rfl) fun a S => ?_
 refine lx_nil (thenN ?_)
 obtain ⟨res133, hit134, hk137⟩ := bind_some hm
 obtain ⟨f135, hf136, hit134⟩ := iter_name hit134
 refine block_loop (fun a w => ∃ (xs131 : List Timpl_Edge) (v130 : Value), Slots a 25 [(5, v130)] ∧ Heap w0 [oA (rList Rimpl_Edge) v130 xs131] w ∧ res133 = .inl (xs131)) ?_ ?_
 ·rintro a w ⟨xs131, v130, S, H, rfl⟩
  have hm := ctl_inl hk137
  refine thenN ?_
  refine wp_seq (region_plain ?_)
  refine lq v130 S (q_move rfl) fun a S => ?_
  refine lq v130 S (q_assign rfl) fun a S => ?_
  refine lx_nil (thenN ?_)
  refine wp_ret ?_
  obtain rfl := Option.some.inj hm
  exact leave1 S rfl rfl ⟨v130, rfl, H⟩
 ·skip
  have H : Heap w0 [oA (rList Rimpl_Edge) (.slice none 0 0) ([] : List Timpl_Edge), bA b49 [(.int .i64 a0.1), (.int .i64 a0.2.1), v33, v35] 31] w50 := H.nilList Rimpl_Edge
  have H : Heap w0 [oA (rList Rimpl_Edge) (.slice none 0 0) ([] : List Timpl_Edge)] w50 := H.sel [0] (by decide)
  refine loop_ghost (fun n a w => ∃ (xs91 : List Timpl_Edge) (x93 : Int) (v90 : Value), Slots a 25 [(1, (.int .i64 a1)), (5, v90), (9, v35), (10, (.int .i64 (a0.2.2.2.length : Int))), (11, (.int .i64 x93))] ∧ Heap w0 [oA (rList Rimpl_Edge) v90 xs91] w ∧ iter f135 n (xs91, x93) = some res133) _ ⟨[], (0 : Int), (.slice none 0 0), S.sub ⟨rfl, rfl, rfl, rfl, rfl, trivial⟩, H, hit134⟩ ?_
  rintro n a w ⟨xs91, x93, v90, S, H, hit134⟩
  obtain ⟨m139, o140, rfl, hm, hc141⟩ := iter_step hit134
  rw [hf136] at hm
  refine wp_seq (region_plain ?_)
  refine lq (.bool (decide (x93 < (a0.2.2.2.length : Int)))) S (q_lss rfl rfl) fun a S => ?_
  refine lx_nil (thenN ?_)
  refine wp_seq ?_
  refine cond_b S rfl (fun hc142 => ?_) (fun hc142 => ?_)
  ·have hm := ite_t hc142 hm
   refine wp_skip (thenN ?_)
   obtain ⟨K146, hK147, hm⟩ := join_elim hm
   refine seq_cut (fun a w => ∃ (xs144 : List Timpl_Edge) (v143 : Value), Slots a 25 [(1, (.int .i64 a1)), (5, v143), (9, v35), (10, (.int .i64 (a0.2.2.2.length : Int))), (11, (.int .i64 x93))] ∧ Heap w0 [oA (rList Rimpl_Edge) v143 xs144] w ∧ K146 xs144 = some o140) ?_ ?_
   ·rintro a w ⟨xs144, v143, S, H, hm⟩
    subst hK147
    refine region_plain ?_
    refine lq (.int .i64 (W (x93 + (1 : Int)))) S (q_add rfl rfl) fun a S => ?_
    refine lq (.int .i64 (W (x93 + (1 : Int)))) S (q_move rfl) fun a S => ?_
    refine lx_nil ?_
    exact ⟨m139, Nat.lt_succ_self _, xs144, (W (x93 + (1 : Int))), v143, S.sub ⟨rfl, rfl, rfl, rfl, rfl, trivial⟩, H, it_cont hm hc141⟩
   ·skip
    refine wp_block ?_
    refine wp_seq (region_plain ?_)
    obtain ⟨x148, e149, hm⟩ := bind_some hm
    obtain ⟨c150, h151, hat152⟩ := (h36).elem (idx_some e149).2
    obtain ⟨c153, c154, rfl, h155, h156⟩ := h151
    obtain rfl := h155
    obtain ⟨c157, c158, rfl, h159, h160⟩ := h156
    obtain rfl := h159
    obtain rfl := h160
    have hlt := lt_of_idx (idx_some e149).2
    refine lq (ePtr v35 (x93.toNat * 3)) S (q_indexAddr rfl (h36).isSl rfl (idx_some e149).1 hlt Tryz.underlying29 Tryz.sizeOf68) fun a S => ?_
    refine lx_e (.agg #[(.int .i64 x148.1), (.int .i64 x148.2.1), (.int .i64 x148.2.2)]) S trivial (by decide) rfl trivial (q_loadA (cs := [(.int .i64 x148.1), (.int .i64 x148.2.1), (.int .i64 x148.2.2)]) rfl ((hat152 0 _ rfl).isP) Tryz.isAgg68 Tryz.sizeOf68 (by rintro _ rfl; exact (fun j u hu => (hat152 j u hu).ext H.ext))) (fun a S => ?_)
    refine lx_alloc S trivial (by decide) rfl H Tryz.zeroValue68 rfl (fun b161 w162 H => ⟨trivial, fun a S => ?_⟩)
    refine lx_storeBox (o := 0) (i := 0) (us := [(.int .i64 x148.1), (.int .i64 x148.2.1), (.int .i64 x148.2.2)]) (cs' := [(.int .i64 x148.1), (.int .i64 x148.2.1), (.int .i64 x148.2.2)]) S trivial rfl H rfl rfl rfl rfl Tryz.sizeOf68 (Nat.le_of_ble_eq_true rfl) (List.forall_mem_cons.2 ⟨rfl, (List.forall_mem_cons.2 ⟨rfl, (List.forall_mem_cons.2 ⟨rfl, (fun _ h => nomatch h)⟩)⟩)⟩) rfl (fun w164 H => ⟨trivial, fun a S => ?_⟩)
    change Heap w0 [bA b161 [(.int .i64 x148.1), (.int .i64 x148.2.1), (.int .i64 x148.2.2)] 68, oA (rList Rimpl_Edge) v90 xs91] w164 at H
    refine lx_nil (thenN ?_)
    refine wp_seq (region_plain ?_)
    refine lq (pAdd (bp b161) 0) S (q_fieldAddr' 0 2 rfl (isP_bp _) Tryz.underlying68 rfl Tryz.sizeOf2) fun a S => ?_
    refine lx_e (.int .i64 x148.1) S trivial (by decide) rfl trivial (q_load1 rfl Tryz.isAgg2 (by rintro _ rfl; exact (At.of_add (m := 0) (j := 0) (boxAt (i := 0) H rfl (j := 0) rfl)))) (fun a S => ?_)
    refine lq (.int .i64 a1) S (q_move rfl) fun a S => ?_
    refine lq (.bool (x148.1 == a1)) S (q_eql rfl rfl) fun a S => ?_
    refine lx_nil (thenN ?_)
    refine cond_b S rfl (fun hc165 => ?_) (fun hc165 => ?_)
    ·have hm := ite_t hc165 hm
     refine region_plain ?_
     refine lq v90 S (q_move rfl) fun a S => ?_
     refine lx_e (.agg #[(.int .i64 x148.1), (.int .i64 x148.2.1), (.int .i64 x148.2.2)]) S trivial (by decide) rfl trivial (q_loadA (cs := [(.int .i64 x148.1), (.int .i64 x148.2.1), (.int .i64 x148.2.2)]) rfl (isP_bp _) Tryz.isAgg68 Tryz.sizeOf68 (by rintro _ rfl; exact (fun j u hu => boxAt (i := 0) H rfl hu))) (fun a S => ?_)
     refine lx_buildSlice (r := Rimpl_Edge) (xs := [(x148.1, x148.2.1, x148.2.2)]) (ps := [(0, [(.int .i64 x148.1), (.int .i64 x148.2.1), (.int .i64 x148.2.2)])]) (cs := [(.int .i64 x148.1), (.int .i64 x148.2.1), (.int .i64 x148.2.2)]) (parts := [(0, .tmp 20)]) S trivial (by decide) rfl (H.put0 (A := eA) rfl) rfl Tryz.underlying29 Tryz.sizeOf68 Tryz.zeroValue68 (by decide) ⟨rfl, rfl, Nat.le_of_ble_eq_true rfl, trivial⟩ (by intro zs hz; exact fill_dense hz ⟨rfl, trivial⟩ rfl rfl) rfl (by decide) (fun w F hA => by cases (show F = [] from hA); exact ⟨_, _, [(.int .i64 x148.1), (.int .i64 x148.2.1), (.int .i64 x148.2.2)], _, rfl, rfl, ⟨_, _, [(.int .i64 x148.1)], [(.int .i64 x148.2.1), (.int .i64 x148.2.2)], rfl, rfl, ⟨rfl, rfl⟩, ⟨_, _, [(.int .i64 x148.2.1)], [(.int .i64 x148.2.2)], rfl, rfl, ⟨rfl, rfl⟩, ⟨rfl, rfl⟩⟩⟩, ⟨rfl, rfl⟩⟩) (fun v166 w167 H => ⟨trivial, fun a S => ?_⟩)
     obtain ⟨x169, e170, hm⟩ := bind_some hm
     obtain ⟨hle, hap⟩ := app_some e170
     replace hap := hap.symm
     subst hap
     have H : Heap w0 [oA (rList Rimpl_Edge) v166 [(x148.1, x148.2.1, x148.2.2)], bA b161 [(.int .i64 x148.1), (.int .i64 x148.2.1), (.int .i64 x148.2.2)] 68, oA (rList Rimpl_Edge) v90 xs91] w167 := H.front 0 rfl
     have H : Heap w0 [oA (rList Rimpl_Edge) v90 xs91, oA (rList Rimpl_Edge) v166 [(x148.1, x148.2.1, x148.2.2)], bA b161 [(.int .i64 x148.1), (.int .i64 x148.2.1), (.int .i64 x148.2.2)] 68] w167 := H.front 2 rfl
     refine lx_appendOwn (r := Rimpl_Edge) S trivial (by decide) rfl H rfl rfl Tryz.underlying29 Tryz.ti68 rfl rfl rfl (by decide) (by decide) hle (fun v171 w172 H => ⟨trivial, fun a S => ?_⟩)
     refine lq v171 S (q_assign rfl) fun a S => ?_
     refine lx_nil ?_
     refine inBlock_norm ?_
     have H : Heap w0 [oA (rList Rimpl_Edge) v171 (xs91 ++ [(x148.1, x148.2.1, x148.2.2)])] w172 := H.sel [0] (by decide)
     exact ⟨(xs91 ++ [(x148.1, x148.2.1, x148.2.2)]), v171, S.sub ⟨rfl, rfl, rfl, rfl, rfl, trivial⟩, H, hm⟩
    ·have hm := ite_f hc165 hm
     refine wp_skip ?_
     refine inBlock_norm ?_
     have H : Heap w0 [oA (rList Rimpl_Edge) v90 xs91] w164 := H.sel [1] (by decide)
     exact ⟨xs91, v90, S.sub ⟨rfl, rfl, rfl, rfl, rfl, trivial⟩, H, hm⟩
  ·have hm := ite_f hc142 hm
   refine wp_exit ?_
   refine then_exit ?_
   refine then_exit ?_
   refine inBlock_exit ?_
   obtain rfl := it_brk hm hc141
   exact ⟨xs91, v90, S.sub ⟨rfl, trivial⟩, H, rfl⟩

/-- impl.compareLabels -/
def impl_compareLabels_m (fuel : Nat) (a0 : Str) (a1 : Str) : Option (Int) :=
  (if (a0 == a1) = true then some ((0 : Int)) else (if (a0 == ([116, 97, 117] : Str)) = true then some ((-1 : Int)) else (if (a1 == ([116, 97, 117] : Str)) = true then some ((1 : Int)) else (strings_Compare_m fuel a0 a1).bind fun x36 => some (x36))))
set_option maxRecDepth 20000 in
theorem impl_compareLabels_ok {w0 : World} {fuel : Nat} {a0 : Str} {a1 : Str} {r : Int} (hm : impl_compareLabels_m fuel a0 a1 = some r) :
  Calls Tryz.prog 52 #[sv a0, sv a1] w0 fun e w => e = .returned (.int .i64 r) ∧ Heap w0 [] w := by
 unfold impl_compareLabels_m at hm
 have H := Heap.start w0
 refine enter (args := [sv a0, sv a1]) Tryz.func52 rfl 18 rfl (Nat.le_of_ble_eq_true rfl) (fun a S => ?_)
 refine wp_seq (region_plain ?_)
 refine lq (.int .i64 (0 : Int)) S (q_assign rfl) fun a S => ?_
 refine lx_nil (thenN ?_)
 refine wp_seq ?_
 refine wp_block ?_
 refine wp_seq (region_plain ?_)
 refine lq (sv a0) S (q_move rfl) fun a S => ?_
 refine lq (sv a1) S (q_move rfl) fun a S => ?_
 refine lq (.bool (a0 == a1)) S (q_seql rfl rfl) fun a S => ?_
 refine lq (.bool (a0 == a1)) S (q_assign rfl) fun a S => ?_
 refine lx_nil (thenN ?_)
 refine cond_b S rfl (fun hc31 => ?_) (fun hc31 => ?_)
 ·have hm := ite_t hc31 hm
  refine wp_seq (region_plain ?_)
  refine lq (.int .i64 (0 : Int)) S (q_assign rfl) fun a S => ?_
  refine lx_nil (thenN ?_)
  refine wp_ret (inBlock_ret ?_)
  refine then_ret ?_
  obtain rfl := Option.some.inj hm
  exact leave1 S rfl rfl ⟨rfl, H⟩
 ·have hm := ite_f hc31 hm
  refine wp_seq (region_plain ?_)
  refine lq (sv a0) S (q_move rfl) fun a S => ?_
  refine lq (.bool (a0 == ([116, 97, 117] : Str))) S (q_seql rfl rfl) fun a S => ?_
  refine lq (.bool (a0 == ([116, 97, 117] : Str))) S (q_assign rfl) fun a S => ?_
  refine lx_nil (thenN ?_)
  refine cond_b S rfl (fun hc32 => ?_) (fun hc32 => ?_)
  ·have hm := ite_t hc32 hm
   refine wp_seq (region_plain ?_)
   refine lq (.int .i64 (-1 : Int)) S (q_assign rfl) fun a S => ?_
   refine lx_nil (thenN ?_)
   refine wp_ret (inBlock_ret ?_)
   refine then_ret ?_
   obtain rfl := Option.some.inj hm
   exact leave1 S rfl rfl ⟨rfl, H⟩
  ·have hm := ite_f hc32 hm
   refine wp_seq (region_plain ?_)
   refine lq (sv a1) S (q_move rfl) fun a S => ?_
   refine lq (.bool (a1 == ([116, 97, 117] : Str))) S (q_seql rfl rfl) fun a S => ?_
   refine lq (.bool (a1 == ([116, 97, 117] : Str))) S (q_assign rfl) fun a S => ?_
   refine lx_nil (thenN ?_)
   refine cond_b S rfl (fun hc33 => ?_) (fun hc33 => ?_)
   ·have hm := ite_t hc33 hm
    refine wp_seq (region_plain ?_)
    refine lq (.int .i64 (1 : Int)) S (q_assign rfl) fun a S => ?_
    refine lx_nil (thenN ?_)
    refine wp_ret (inBlock_ret ?_)
    refine then_ret ?_
    obtain rfl := Option.some.inj hm
    exact leave1 S rfl rfl ⟨rfl, H⟩
   ·have hm := ite_f hc33 hm
    refine wp_skip ?_
    refine inBlock_norm ?_
    refine thenN ?_
    refine wp_seq (region_plain ?_)
    refine lq (sv a0) S (q_move rfl) fun a S => ?_
    refine lq (sv a1) S (q_move rfl) fun a S => ?_
    obtain ⟨x36, e37, hm⟩ := bind_some hm
    refine lx_call (xs := [.tmp 15, .tmp 16]) S trivial (by decide) rfl rfl Tryz.call67 ((strings_Compare_ok   e37).mono ?_)
    rintro e w34 ⟨rfl, Hc35⟩
    have H := H.call0 Hc35
    refine ⟨_, rfl, trivial, fun a S => ?_⟩
    refine lq (.int .i64 x36) S (q_assign rfl) fun a S => ?_
    refine lx_nil (thenN ?_)
    refine wp_ret ?_
    obtain rfl := Option.some.inj hm
    exact leave1 S rfl rfl ⟨rfl, H⟩

set_option maxRecDepth 20000 in
theorem impl_compareLabels_gr {w0 : World} {fuel : Nat} {a0 : Str} {a1 : Str} {r : Int} (hm : impl_compareLabels_m fuel a0 a1 = some r) :
  Calls Tryz.prog 52 #[sv a0, sv a1] w0 fun e w => e = .returned (.int .i64 r) ∧ w = w0 := by
 unfold impl_compareLabels_m at hm
 refine enter (args := [sv a0, sv a1]) Tryz.func52 rfl 18 rfl (Nat.le_of_ble_eq_true rfl) (fun a S => ?_)
 refine wp_seq (region_plain ?_)
 refine lq (.int .i64 (0 : Int)) S (q_assign rfl) fun a S => ?_
 refine lx_nil (thenN ?_)
 refine wp_seq ?_
 refine wp_block ?_
 refine wp_seq (region_plain ?_)
 refine lq (sv a0) S (q_move rfl) fun a S => ?_
 refine lq (sv a1) S (q_move rfl) fun a S => ?_
 refine lq (.bool (a0 == a1)) S (q_seql rfl rfl) fun a S => ?_
 refine lq (.bool (a0 == a1)) S (q_assign rfl) fun a S => ?_
 refine lx_nil (thenN ?_)
 refine cond_b S rfl (fun hc31 => ?_) (fun hc31 => ?_)
 ·have hm := ite_t hc31 hm
  refine wp_seq (region_plain ?_)
  refine lq (.int .i64 (0 : Int)) S (q_assign rfl) fun a S => ?_
  refine lx_nil (thenN ?_)
  refine wp_ret (inBlock_ret ?_)
  refine then_ret ?_
  obtain rfl := Option.some.inj hm
  exact leave1 S rfl rfl ⟨rfl, rfl⟩
 ·have hm := ite_f hc31 hm
  refine wp_seq (region_plain ?_)
  refine lq (sv a0) S (q_move rfl) fun a S => ?_
  refine lq (.bool (a0 == ([116, 97, 117] : Str))) S (q_seql rfl rfl) fun a S => ?_
  refine lq (.bool (a0 == ([116, 97, 117] : Str))) S (q_assign rfl) fun a S => ?_
  refine lx_nil (thenN ?_)
  refine cond_b S rfl (fun hc32 => ?_) (fun hc32 => ?_)
  ·have hm := ite_t hc32 hm
   refine wp_seq (region_plain ?_)
   refine lq (.int .i64 (-1 : Int)) S (q_assign rfl) fun a S => ?_
   refine lx_nil (thenN ?_)
   refine wp_ret (inBlock_ret ?_)
   refine then_ret ?_
   obtain rfl := Option.some.inj hm
   exact leave1 S rfl rfl ⟨rfl, rfl⟩
  ·have hm := ite_f hc32 hm
   refine wp_seq (region_plain ?_)
   refine lq (sv a1) S (q_move rfl) fun a S => ?_
   refine lq (.bool (a1 == ([116, 97, 117] : Str))) S (q_seql rfl rfl) fun a S => ?_
   refine lq (.bool (a1 == ([116, 97, 117] : Str))) S (q_assign rfl) fun a S => ?_
   refine lx_nil (thenN ?_)
   refine cond_b S rfl (fun hc33 => ?_) (fun hc33 => ?_)
   ·have hm := ite_t hc33 hm
    refine wp_seq (region_plain ?_)
    refine lq (.int .i64 (1 : Int)) S (q_assign rfl) fun a S => ?_
    refine lx_nil (thenN ?_)
    refine wp_ret (inBlock_ret ?_)
    refine then_ret ?_
    obtain rfl := Option.some.inj hm
    exact leave1 S rfl rfl ⟨rfl, rfl⟩
   ·have hm := ite_f hc33 hm
    refine wp_skip ?_
    refine inBlock_norm ?_
    refine thenN ?_
    refine wp_seq (region_plain ?_)
    refine lq (sv a0) S (q_move rfl) fun a S => ?_
    refine lq (sv a1) S (q_move rfl) fun a S => ?_
    obtain ⟨x36, e37, hm⟩ := bind_some hm
    refine lx_call (xs := [.tmp 15, .tmp 16]) S trivial (by decide) rfl rfl Tryz.call67 ((strings_Compare_gr e37).mono ?_)
    rintro e w34 ⟨rfl, rfl⟩
    refine ⟨_, rfl, trivial, fun a S => ?_⟩
    refine lq (.int .i64 x36) S (q_assign rfl) fun a S => ?_
    refine lx_nil (thenN ?_)
    refine wp_ret ?_
    obtain rfl := Option.some.inj hm
    exact leave1 S rfl rfl ⟨rfl, rfl⟩

/-- (impl.Lts).readyLabels -/
def impl_Lts_readyLabels_m (fuel : Nat) (a0 : Timpl_Lts) (a1 : Int) : Option ((List Str)) :=
  (impl_Lts_out_m fuel (a0.1, a0.2.1, a0.2.2.1, a0.2.2.2) a1).bind fun x54 => (iter (fun (s : (List Str) × (Int)) => (match s with | (xs96, x98) => (if (decide (x98 < (x54.length : Int))) = true then (idx x54 x98).bind fun x157 => (idx a0.2.2.1 x157.2.1).bind fun x174 => (app xs96 [x174]).bind fun x182 => some (.inl (x182, (W (x98 + (1 : Int))))) else some (.inr (.inl (xs96)))) : Option (((List Str) × (Int)) ⊕ (((List Str)) ⊕ ((List Str)))))) fuel ([], (0 : Int))).bind fun res137 => ctl (β := (List Str)) (ρ := (List Str)) (τ := (List Str)) res137 (fun (xs135) => (slices_SortFunc__string_string_m fuel xs135 (fun (z0 : Str) (z1 : Str) => impl_compareLabels_m fuel z0 z1)).bind fun x144 => (slices_Compact__string_string_m fuel x144).bind fun x148 => some (x148)) (fun q => some (q))
set_option maxRecDepth 20000 in
theorem impl_Lts_readyLabels_ok {w0 : World} {fuel : Nat} {p0 : Value} {a0 : Timpl_Lts} {a1 : Int} {r : (List Str)} (h0 : Rd Rimpl_Lts w0 p0 a0) (hm : impl_Lts_readyLabels_m fuel a0 a1 = some r) :
  Calls Tryz.prog 31 #[p0, .int .i64 a1] w0 fun e w => ∃ (v0 : Value), e = .returned (v0) ∧ Heap w0 [oA (rList rStr) v0 r] w := by
 unfold impl_Lts_readyLabels_m at hm
 have H := Heap.start w0
 obtain ⟨c31, rfl, h32⟩ := h0
 obtain ⟨c37, c38, rfl, h39, h40⟩ := h32
 obtain rfl := h39
 obtain ⟨c41, c42, rfl, h43, h44⟩ := h40
 obtain rfl := h43
 obtain ⟨c45, c46, rfl, h47, h48⟩ := h44
 obtain ⟨v33, rfl, h34⟩ := rd_list h47
 obtain ⟨v35, rfl, h36⟩ := rd_list h48
 refine enter (args := [(.agg #[(.int .i64 a0.1), (.int .i64 a0.2.1), v33, v35]), .int .i64 a1]) Tryz.func31 rfl 30 rfl (Nat.le_of_ble_eq_true rfl) (fun a S => ?_)
 refine wp_seq (region_plain ?_)
 refine lx_box S trivial (by decide) rfl H rfl rfl (fun b49 w50 H => ⟨trivial, fun a S => ?_⟩)
 refine lq (.slice none 0 0) S (q_assign rfl) fun a S => ?_
 refine lx_nil (thenN ?_)
 refine wp_seq (region_plain ?_)
 refine lq (.slice none 0 0) S (q_assign rfl) fun a S => ?_
 refine lx_nil (thenN ?_)
 refine wp_seq (wp_seq (region_plain ?_))
 refine lx_e (.agg #[(.int .i64 a0.1), (.int .i64 a0.2.1), v33, v35]) S trivial (by decide) rfl trivial (q_loadA (cs := [(.int .i64 a0.1), (.int .i64 a0.2.1), v33, v35]) rfl (isP_bp _) Tryz.isAgg31 Tryz.sizeOf31 (by rintro _ rfl; exact (fun j u hu => boxAt (i := 0) H rfl hu))) (fun a S => ?_)
 refine lq (.int .i64 a1) S (q_move rfl) fun a S => ?_
 obtain ⟨x54, e55, hm⟩ := bind_some hm
 refine lx_call (xs := [.tmp 8, .tmp 9]) S trivial (by decide) rfl rfl Tryz.call50 ((impl_Lts_out_ok ⟨[(.int .i64 a0.1), (.int .i64 a0.2.1), v33, v35], rfl, ⟨[(.int .i64 a0.1)], [(.int .i64 a0.2.1), v33, v35], rfl, rfl, ⟨[(.int .i64 a0.2.1)], [v33, v35], rfl, rfl, ⟨[v33], [v35], rfl, ((H.arg h34)).list_rd, ((H.arg h36)).list_rd⟩⟩⟩⟩  e55).mono ?_)
 rintro e w52 ⟨v56, rfl, Hc53⟩
 have H := H.call1 Hc53
 refine ⟨_, rfl, trivial, fun a S => ?_⟩
 refine lq (.int .i64 (x54.length : Int)) S (q_lenSl rfl (H.isSl 0 rfl) rfl Tryz.underlying29) fun a S => ?_
 refine lq (.int .i64 (0 : Int)) S (q_move rfl) fun a S => ?_
 refine lx_nil (thenN ?_)
 obtain ⟨res137, hit138, hk141⟩ := bind_some hm
 obtain ⟨f139, hf140, hit138⟩ := iter_name hit138
 refine block_loop (fun a w => ∃ (xs135 : List Str) (v134 : Value), Slots a 30 [(5, v134)] ∧ Heap w0 [oA (rList rStr) v134 xs135] w ∧ res137 = .inl (xs135)) ?_ ?_
 ·rintro a w ⟨xs135, v134, S, H, rfl⟩
  have hm := ctl_inl hk141
  refine thenN ?_
  refine wp_seq (region_plain ?_)
  refine lq v134 S (q_move rfl) fun a S => ?_
  obtain ⟨x144, e145, hm⟩ := bind_some hm
  refine lx_call (xs := [.tmp 26, .func 52]) S trivial (by decide) rfl rfl Tryz.call51 ((slices_SortFunc__string_string_ok (f1 := 52) (fs1 := ([] : List Value)) (cp1 := ([] : List Value)) (a1 := (fun (z0 : Str) (z1 : Str) => impl_compareLabels_m fuel z0 z1)) H Tryz.call52 (fun _ hm => gr_ext (impl_compareLabels_gr hm)) e145).mono ?_)
  rintro e w142 ⟨rfl, H⟩
  refine ⟨_, rfl, trivial, fun a S => ?_⟩
  refine lx_nil (thenN ?_)
  refine wp_seq (region_plain ?_)
  refine lq v134 S (q_move rfl) fun a S => ?_
  obtain ⟨x148, e149, hm⟩ := bind_some hm
  refine lx_call (xs := [.tmp 28]) S trivial (by decide) rfl rfl Tryz.call53 ((slices_Compact__string_string_ok H  e149).mono ?_)
  rintro e w146 ⟨v150, rfl, H⟩
  refine ⟨_, rfl, trivial, fun a S => ?_⟩
  refine lq v150 S (q_assign rfl) fun a S => ?_
  refine lx_nil (thenN ?_)
  refine wp_ret ?_
  obtain rfl := Option.some.inj hm
  exact leave1 S rfl rfl ⟨v150, rfl, H⟩
 ·skip
  have H : Heap w0 [oA (rList rStr) (.slice none 0 0) ([] : List Str), oA (rList Rimpl_Edge) v56 x54, bA b49 [(.int .i64 a0.1), (.int .i64 a0.2.1), v33, v35] 31] w52 := H.nilList rStr
  have H : Heap w0 [oA (rList Rimpl_Edge) v56 x54, oA (rList rStr) (.slice none 0 0) ([] : List Str), bA b49 [(.int .i64 a0.1), (.int .i64 a0.2.1), v33, v35] 31] w52 := H.front 1 rfl
  have H : Heap w0 [oA (rList rStr) (.slice none 0 0) ([] : List Str), oA (rList Rimpl_Edge) v56 x54, bA b49 [(.int .i64 a0.1), (.int .i64 a0.2.1), v33, v35] 31] w52 := H.front 1 rfl
  have H : Heap w0 [bA b49 [(.int .i64 a0.1), (.int .i64 a0.2.1), v33, v35] 31, oA (rList rStr) (.slice none 0 0) ([] : List Str), oA (rList Rimpl_Edge) v56 x54] w52 := H.front 2 rfl
  refine loop_ghost (fun n a w => ∃ (xs96 : List Str) (x98 : Int) (v95 : Value), Slots a 30 [(2, (bp b49)), (5, v95), (10, v56), (11, (.int .i64 (x54.length : Int))), (12, (.int .i64 x98))] ∧ Heap w0 [bA b49 [(.int .i64 a0.1), (.int .i64 a0.2.1), v33, v35] 31, oA (rList rStr) v95 xs96, oA (rList Rimpl_Edge) v56 x54] w ∧ iter f139 n (xs96, x98) = some res137) _ ⟨[], (0 : Int), (.slice none 0 0), S.sub ⟨rfl, rfl, rfl, rfl, rfl, trivial⟩, H, hit138⟩ ?_
  rintro n a w ⟨xs96, x98, v95, S, H, hit138⟩
  obtain ⟨m153, o154, rfl, hm, hc155⟩ := iter_step hit138
  rw [hf140] at hm
  refine wp_seq (region_plain ?_)
  refine lq (.bool (decide (x98 < (x54.length : Int)))) S (q_lss rfl rfl) fun a S => ?_
  refine lx_nil (thenN ?_)
  refine wp_seq ?_
  refine cond_b S rfl (fun hc156 => ?_) (fun hc156 => ?_)
  ·have hm := ite_t hc156 hm
   refine wp_skip (thenN ?_)
   refine wp_seq ?_
   refine wp_block ?_
   refine wp_seq (region_plain ?_)
   obtain ⟨x157, e158, hm⟩ := bind_some hm
   have hlt := lt_of_idx (idx_some e158).2
   refine lq (ePtr v56 (x98.toNat * 3)) S (q_indexAddr rfl (H.isSl 2 rfl) rfl (idx_some e158).1 hlt Tryz.underlying29 Tryz.sizeOf68) fun a S => ?_
   obtain ⟨c159, h160, hat161⟩ := (H.rdAt 2 rfl).elem (idx_some e158).2
   obtain ⟨c162, c163, rfl, h164, h165⟩ := h160
   obtain rfl := h164
   obtain ⟨c166, c167, rfl, h168, h169⟩ := h165
   obtain rfl := h168
   obtain rfl := h169
   refine lx_e (.agg #[(.int .i64 x157.1), (.int .i64 x157.2.1), (.int .i64 x157.2.2)]) S trivial (by decide) rfl trivial (q_loadA (cs := [(.int .i64 x157.1), (.int .i64 x157.2.1), (.int .i64 x157.2.2)]) rfl (((H.isSl 2 rfl)).ptr (lt_of_idx (idx_some e158).2) _) Tryz.isAgg68 Tryz.sizeOf68 (by rintro _ rfl; exact (fun j u hu => hat161 j u hu))) (fun a S => ?_)
   refine lx_alloc S trivial (by decide) rfl H Tryz.zeroValue68 rfl (fun b170 w171 H => ⟨trivial, fun a S => ?_⟩)
   refine lx_storeBox (o := 0) (i := 0) (us := [(.int .i64 x157.1), (.int .i64 x157.2.1), (.int .i64 x157.2.2)]) (cs' := [(.int .i64 x157.1), (.int .i64 x157.2.1), (.int .i64 x157.2.2)]) S trivial rfl H rfl rfl rfl rfl Tryz.sizeOf68 (Nat.le_of_ble_eq_true rfl) (List.forall_mem_cons.2 ⟨rfl, (List.forall_mem_cons.2 ⟨rfl, (List.forall_mem_cons.2 ⟨rfl, (fun _ h => nomatch h)⟩)⟩)⟩) rfl (fun w173 H => ⟨trivial, fun a S => ?_⟩)
   change Heap w0 [bA b170 [(.int .i64 x157.1), (.int .i64 x157.2.1), (.int .i64 x157.2.2)] 68, bA b49 [(.int .i64 a0.1), (.int .i64 a0.2.1), v33, v35] 31, oA (rList rStr) v95 xs96, oA (rList Rimpl_Edge) v56 x54] w173 at H
   refine lx_nil (thenN ?_)
   refine region_plain ?_
   refine lq v95 S (q_move rfl) fun a S => ?_
   refine lq (pAdd (bp b49) 2) S (q_fieldAddr' 2 22 rfl (isP_bp _) Tryz.underlying31 rfl Tryz.sizeOf22) fun a S => ?_
   refine lx_e v33 S trivial (by decide) rfl trivial (q_load1 rfl Tryz.isAgg22 (by rintro _ rfl; exact (At.of_add (m := 2) (j := 0) (boxAt (i := 1) H rfl (j := 2) rfl)))) (fun a S => ?_)
   refine lq (pAdd (bp b170) 1) S (q_fieldAddr' 1 2 rfl (isP_bp _) Tryz.underlying68 rfl Tryz.sizeOf2) fun a S => ?_
   refine lx_e (.int .i64 x157.2.1) S trivial (by decide) rfl trivial (q_load1 rfl Tryz.isAgg2 (by rintro _ rfl; exact (At.of_add (m := 1) (j := 0) (boxAt (i := 0) H rfl (j := 1) rfl)))) (fun a S => ?_)
   obtain ⟨x174, e175, hm⟩ := bind_some hm
   obtain ⟨c176, h177, hat178⟩ := (h34).elem (idx_some e175).2
   obtain rfl := h177
   have hlt := lt_of_idx (idx_some e175).2
   refine lq (ePtr v33 (x157.2.1.toNat * 1)) S (q_indexAddr rfl (h34).isSl rfl (idx_some e175).1 hlt Tryz.underlying22 Tryz.sizeOf9) fun a S => ?_
   refine lx_e (sv x174) S trivial (by decide) rfl trivial (q_load1 rfl Tryz.isAgg9 (by rintro _ rfl; exact ((hat178 0 _ rfl).ext H.ext))) (fun a S => ?_)
   refine lx_buildSlice (r := rStr) (xs := [x174]) (ps := [(0, [(sv x174)])]) (cs := [(sv x174)]) (parts := [(0, .tmp 22)]) S trivial (by decide) rfl (H.put0 (A := eA) rfl) rfl Tryz.underlying22 Tryz.sizeOf9 Tryz.zeroValue9 (by decide) ⟨rfl, rfl, Nat.le_of_ble_eq_true rfl, trivial⟩ (by intro zs hz; exact fill_dense hz ⟨rfl, trivial⟩ rfl rfl) rfl (by decide) (fun w F hA => by cases (show F = [] from hA); exact ⟨_, _, [(sv x174)], _, rfl, rfl, ⟨rfl, rfl⟩, ⟨rfl, rfl⟩⟩) (fun v179 w180 H => ⟨trivial, fun a S => ?_⟩)
   obtain ⟨x182, e183, hm⟩ := bind_some hm
   obtain ⟨hle, hap⟩ := app_some e183
   replace hap := hap.symm
   subst hap
   have H : Heap w0 [oA (rList rStr) v179 [x174], bA b170 [(.int .i64 x157.1), (.int .i64 x157.2.1), (.int .i64 x157.2.2)] 68, bA b49 [(.int .i64 a0.1), (.int .i64 a0.2.1), v33, v35] 31, oA (rList rStr) v95 xs96, oA (rList Rimpl_Edge) v56 x54] w180 := H.front 0 rfl
   have H : Heap w0 [oA (rList rStr) v95 xs96, oA (rList rStr) v179 [x174], bA b170 [(.int .i64 x157.1), (.int .i64 x157.2.1), (.int .i64 x157.2.2)] 68, bA b49 [(.int .i64 a0.1), (.int .i64 a0.2.1), v33, v35] 31, oA (rList Rimpl_Edge) v56 x54] w180 := H.front 3 rfl
   refine lx_appendOwn (r := rStr) S trivial (by decide) rfl H rfl rfl Tryz.underlying22 Tryz.ti9 rfl rfl rfl (by decide) (by decide) hle (fun v184 w185 H => ⟨trivial, fun a S => ?_⟩)
   refine lq v184 S (q_assign rfl) fun a S => ?_
   refine lx_nil ?_
   refine inBlock_norm ?_
   refine thenN ?_
   refine region_plain ?_
   refine lq (.int .i64 (W (x98 + (1 : Int)))) S (q_add rfl rfl) fun a S => ?_
   refine lq (.int .i64 (W (x98 + (1 : Int)))) S (q_move rfl) fun a S => ?_
   refine lx_nil ?_
   have H : Heap w0 [oA (rList Rimpl_Edge) v56 x54, oA (rList rStr) v184 (xs96 ++ [x174]), bA b170 [(.int .i64 x157.1), (.int .i64 x157.2.1), (.int .i64 x157.2.2)] 68, bA b49 [(.int .i64 a0.1), (.int .i64 a0.2.1), v33, v35] 31] w185 := H.front 3 rfl
   have H : Heap w0 [oA (rList rStr) v184 (xs96 ++ [x174]), oA (rList Rimpl_Edge) v56 x54, bA b170 [(.int .i64 x157.1), (.int .i64 x157.2.1), (.int .i64 x157.2.2)] 68, bA b49 [(.int .i64 a0.1), (.int .i64 a0.2.1), v33, v35] 31] w185 := H.front 1 rfl
   have H : Heap w0 [bA b49 [(.int .i64 a0.1), (.int .i64 a0.2.1), v33, v35] 31, oA (rList rStr) v184 (xs96 ++ [x174]), oA (rList Rimpl_Edge) v56 x54, bA b170 [(.int .i64 x157.1), (.int .i64 x157.2.1), (.int .i64 x157.2.2)] 68] w185 := H.front 3 rfl
   have H : Heap w0 [bA b49 [(.int .i64 a0.1), (.int .i64 a0.2.1), v33, v35] 31, oA (rList rStr) v184 (xs96 ++ [x174]), oA (rList Rimpl_Edge) v56 x54] w185 := H.sel [0, 1, 2] (by decide)
   exact ⟨m153, Nat.lt_succ_self _, (xs96 ++ [x174]), (W (x98 + (1 : Int))), v184, S.sub ⟨rfl, rfl, rfl, rfl, rfl, trivial⟩, H, it_cont hm hc155⟩
  ·have hm := ite_f hc156 hm
   refine wp_exit ?_
   refine then_exit ?_
   refine then_exit ?_
   refine inBlock_exit ?_
   obtain rfl := it_brk hm hc155
   have H : Heap w0 [oA (rList rStr) v95 xs96] w := H.sel [1] (by decide)
   exact ⟨xs96, v95, S.sub ⟨rfl, trivial⟩, H, rfl⟩

/-- (impl.Lts).isStable -/
def impl_Lts_isStable_m (fuel : Nat) (a0 : Timpl_Lts) (a1 : Int) : Option (Bool) :=
  (impl_Lts_readyLabels_m fuel (a0.1, a0.2.1, a0.2.2.1, a0.2.2.2) a1).bind fun x54 => (slices_Contains__string_string_m fuel x54 ([116, 97, 117] : Str)).bind fun x61 => some ((!x61))
set_option maxRecDepth 20000 in
theorem impl_Lts_isStable_ok {w0 : World} {fuel : Nat} {p0 : Value} {a0 : Timpl_Lts} {a1 : Int} {r : Bool} (h0 : Rd Rimpl_Lts w0 p0 a0) (hm : impl_Lts_isStable_m fuel a0 a1 = some r) :
  Calls Tryz.prog 29 #[p0, .int .i64 a1] w0 fun e w => e = .returned (.bool r) ∧ Heap w0 [] w := by
 unfold impl_Lts_isStable_m at hm
 have H := Heap.start w0
 obtain ⟨c31, rfl, h32⟩ := h0
 obtain ⟨c37, c38, rfl, h39, h40⟩ := h32
 obtain rfl := h39
 obtain ⟨c41, c42, rfl, h43, h44⟩ := h40
 obtain rfl := h43
 obtain ⟨c45, c46, rfl, h47, h48⟩ := h44
 obtain ⟨v33, rfl, h34⟩ := rd_list h47
 obtain ⟨v35, rfl, h36⟩ := rd_list h48
 refine enter (args := [(.agg #[(.int .i64 a0.1), (.int .i64 a0.2.1), v33, v35]), .int .i64 a1]) Tryz.func29 rfl 10 rfl (Nat.le_of_ble_eq_true rfl) (fun a S => ?_)
 refine wp_seq (region_plain ?_)
 refine lx_box S trivial (by decide) rfl H rfl rfl (fun b49 w50 H => ⟨trivial, fun a S => ?_⟩)
 refine lq (.bool false) S (q_assign rfl) fun a S => ?_
 refine lx_nil (thenN ?_)
 refine wp_seq (region_plain ?_)
 refine lx_e (.agg #[(.int .i64 a0.1), (.int .i64 a0.2.1), v33, v35]) S trivial (by decide) rfl trivial (q_loadA (cs := [(.int .i64 a0.1), (.int .i64 a0.2.1), v33, v35]) rfl (isP_bp _) Tryz.isAgg31 Tryz.sizeOf31 (by rintro _ rfl; exact (fun j u hu => boxAt (i := 0) H rfl hu))) (fun a S => ?_)
 refine lq (.int .i64 a1) S (q_move rfl) fun a S => ?_
 obtain ⟨x54, e55, hm⟩ := bind_some hm
 refine lx_call (xs := [.tmp 5, .tmp 6]) S trivial (by decide) rfl rfl Tryz.call31 ((impl_Lts_readyLabels_ok ⟨[(.int .i64 a0.1), (.int .i64 a0.2.1), v33, v35], rfl, ⟨[(.int .i64 a0.1)], [(.int .i64 a0.2.1), v33, v35], rfl, rfl, ⟨[(.int .i64 a0.2.1)], [v33, v35], rfl, rfl, ⟨[v33], [v35], rfl, ((H.arg h34)).list_rd, ((H.arg h36)).list_rd⟩⟩⟩⟩  e55).mono ?_)
 rintro e w52 ⟨v56, rfl, Hc53⟩
 have H := H.call1 Hc53
 refine ⟨_, rfl, trivial, fun a S => ?_⟩
 obtain ⟨x61, e62, hm⟩ := bind_some hm
 refine lx_call (xs := [.tmp 7, .const (sv [116, 97, 117])]) S trivial (by decide) rfl rfl Tryz.call39 ((slices_Contains__string_string_ok (H.rdAt 0 rfl)  e62).mono ?_)
 rintro e w59 ⟨rfl, Hc60⟩
 have H := H.call0 Hc60
 refine ⟨_, rfl, trivial, fun a S => ?_⟩
 refine lq (.bool (!x61)) S (q_not rfl) fun a S => ?_
 refine lq (.bool (!x61)) S (q_assign rfl) fun a S => ?_
 refine lx_nil (thenN ?_)
 refine wp_ret ?_
 obtain rfl := Option.some.inj hm
 have H : Heap w0 [] w59 := H.sel [] (by decide)
 exact leave1 S rfl rfl ⟨rfl, H⟩

/-- slices.Clone[[]string,string] -/
def slices_Clone__string_string_m (_ : Nat) (a0 : (List Str)) : Option ((List Str)) :=
  (app ([] : List Str) a0).bind fun x38 => some (x38)
set_option maxRecDepth 20000 in
theorem slices_Clone__string_string_ok {w0 : World} {fuel : Nat} {p0 : Value} {a0 : (List Str)} {r : (List Str)} (h0 : Rd (rList rStr) w0 p0 a0) (hm : slices_Clone__string_string_m fuel a0 = some r) :
  Calls Tryz.prog 48 #[p0] w0 fun e w => ∃ (v0 : Value), e = .returned (v0) ∧ Heap w0 [oA (rList rStr) v0 r] w := by
 unfold slices_Clone__string_string_m at hm
 have H := Heap.start w0
 refine enter (args := [p0]) Tryz.func48 rfl 8 rfl (Nat.le_of_ble_eq_true rfl) (fun a S => ?_)
 refine wp_seq (region_plain ?_)
 refine lq (.slice none 0 0) S (q_assign rfl) fun a S => ?_
 refine lx_nil (thenN ?_)
 refine wp_seq (wp_seq (region_plain ?_))
 refine lq p0 S (q_move rfl) fun a S => ?_
 obtain ⟨bn31, hqn, hb32⟩ := ((H.arg h0)).isNil (P := Tryz.prog) Tryz.underlying22
 refine lq (.bool bn31) S (hqn rfl rfl) fun a S => ?_
 refine lx_nil (thenN ?_)
 refine cond_b S rfl (fun hc33 => ?_) (fun hc33 => ?_)
 ·obtain rfl := hb32 hc33
  replace hm : some [] = some r := by simpa [app] using hm
  refine wp_seq (region_plain ?_)
  refine lq (.slice none 0 0) S (q_assign rfl) fun a S => ?_
  refine lx_nil (thenN ?_)
  refine wp_ret (then_ret ?_)
  obtain rfl := Option.some.inj hm
  have H : Heap w0 [oA (rList rStr) (.slice none 0 0) ([] : List Str)] w0 := H.nilList rStr
  exact leave1 S rfl rfl ⟨(.slice none 0 0), rfl, H⟩
 ·skip
  refine wp_skip (thenN ?_)
  refine wp_seq (region_plain ?_)
  refine lx_buildSlice0 (r := rStr) S trivial (by decide) rfl H Tryz.underlying22 Tryz.sizeOf9 (fun v35 w36 H => ⟨trivial, fun a S => ?_⟩)
  refine lq p0 S (q_move rfl) fun a S => ?_
  obtain ⟨x38, e39, hm⟩ := bind_some hm
  obtain ⟨hle, hap⟩ := app_some e39
  replace hap := hap.symm
  subst hap
  refine lx_appendRd (r := rStr) S trivial (by decide) rfl H flat_str (H.arg h0) rfl rfl Tryz.underlying22 Tryz.ti9 rfl rfl rfl (by decide) (by decide) hle (fun v40 w41 H => ⟨trivial, fun a S => ?_⟩)
  refine lq v40 S (q_assign rfl) fun a S => ?_
  refine lx_nil (thenN ?_)
  refine wp_ret ?_
  obtain rfl := Option.some.inj hm
  exact leave1 S rfl rfl ⟨v40, rfl, H⟩

/-- impl.lacking$1 -/
def impl_lacking_1_m (fuel : Nat) (a0 : Str) (a1 : (List Str)) : Option (Bool) :=
  (slices_Contains__string_string_m fuel a1 a0).bind fun x38 => some (x38)
set_option maxRecDepth 20000 in
theorem impl_lacking_1_ok {w0 : World} {fuel : Nat} {p1 : Value} {a0 : Str} {a1 : (List Str)} {r : Bool} (h1 : Rd (rPtr (rList rStr)) w0 p1 a1) (hm : impl_lacking_1_m fuel a0 a1 = some r) :
  Calls Tryz.prog 49 #[sv a0, p1] w0 fun e w => e = .returned (.bool r) ∧ Heap w0 [] w := by
 unfold impl_lacking_1_m at hm
 have H := Heap.start w0
 obtain ⟨c31, h32, hat33⟩ := h1.ptr
 obtain ⟨v34, rfl, h35⟩ := rd_list h32
 refine enter (args := [sv a0, p1]) Tryz.func49 rfl 7 rfl (Nat.le_of_ble_eq_true rfl) (fun a S => ?_)
 refine wp_seq (region_plain ?_)
 refine lq (.bool false) S (q_assign rfl) fun a S => ?_
 refine lx_nil (thenN ?_)
 refine wp_seq (region_plain ?_)
 refine lx_e v34 S trivial (by decide) rfl trivial (q_load1 rfl Tryz.isAgg22 (by rintro _ rfl; exact ((hat33 0 _ rfl).ext H.ext))) (fun a S => ?_)
 refine lq (sv a0) S (q_move rfl) fun a S => ?_
 obtain ⟨x38, e39, hm⟩ := bind_some hm
 refine lx_call (xs := [.tmp 4, .tmp 5]) S trivial (by decide) rfl rfl Tryz.call39 ((slices_Contains__string_string_ok (H.arg h35)  e39).mono ?_)
 rintro e w36 ⟨rfl, Hc37⟩
 have H := H.call0 Hc37
 refine ⟨_, rfl, trivial, fun a S => ?_⟩
 refine lq (.bool x38) S (q_assign rfl) fun a S => ?_
 refine lx_nil (thenN ?_)
 refine wp_ret ?_
 obtain rfl := Option.some.inj hm
 exact leave1 S rfl rfl ⟨rfl, H⟩

/-- slices.IndexFunc[[]string,string] -/
def slices_IndexFunc__string_string_m (fuel : Nat) (a0 : (List Str)) (a1 : (Str → Option Bool)) : Option (Int) :=
  (iter (fun (s : (Int)) => (match s with | (x46) => (if (decide (x46 < (a0.length : Int))) = true then (idx a0 x46).bind fun x71 => (a1 x71).bind fun x80 => (if x80 = true then some (.inr (.inr x46)) else some (.inl ((W (x46 + (1 : Int)))))) else some (.inr (.inl ()))) : Option (((Int)) ⊕ ((Unit) ⊕ (Int))))) fuel ((0 : Int))).bind fun res62 => ctl (β := Unit) (ρ := Int) (τ := Int) res62 (fun _ => some ((-1 : Int))) (fun q => some (q))
set_option maxRecDepth 20000 in
theorem slices_IndexFunc__string_string_ok {w0 : World} {fuel : Nat} {p0 : Value} {a0 : (List Str)} {a1 : (Str → Option Bool)} {f1 : Nat} {fs1 cp1 : List Value} {r : Int} (h0 : Rd (rList rStr) w0 p0 a0) (hcf1 : ∀ args w, (callFunc f1 args).run Tryz.prog w = .ok (.enter f1 args) w) (hf1 : ∀ {w : World} {x0_ : Str} {y : Bool}, Ext w0 w → a1 x0_ = some y → Calls Tryz.prog f1 (fs1 ++ ([sv x0_] : List Value) ++ cp1).toArray w fun e w' => e = .returned (.bool y) ∧ Heap w [] w') (hm : slices_IndexFunc__string_string_m fuel a0 a1 = some r) :
  Calls Tryz.prog 64 #[p0, .func (.func f1) fs1.toArray cp1.toArray] w0 fun e w => e = .returned (.int .i64 r) ∧ Heap w0 [] w := by
 unfold slices_IndexFunc__string_string_m at hm
 have H := Heap.start w0
 refine enter (args := [p0, .func (.func f1) fs1.toArray cp1.toArray]) Tryz.func64 rfl 19 rfl (Nat.le_of_ble_eq_true rfl) (fun a S => ?_)
 refine wp_seq (region_plain ?_)
 refine lq (.int .i64 (0 : Int)) S (q_assign rfl) fun a S => ?_
 refine lx_nil (thenN ?_)
 refine wp_seq (wp_seq (region_plain ?_))
 refine lq p0 S (q_move rfl) fun a S => ?_
 refine lq (.int .i64 (a0.length : Int)) S (q_lenSl rfl (h0).isSl rfl Tryz.underlying22) fun a S => ?_
 refine lq (.int .i64 (0 : Int)) S (q_move rfl) fun a S => ?_
 refine lx_nil (thenN ?_)
 obtain ⟨res62, hit63, hk66⟩ := bind_some hm
 obtain ⟨f64, hf65, hit63⟩ := iter_name hit63
 refine block_loop (fun a w => Slots a 19 [] ∧ Heap w0 [] w ∧ res62 = .inl ()) ?_ ?_
 ·rintro a w ⟨S, H, rfl⟩
  have hm := ctl_inl hk66
  refine thenN ?_
  refine wp_seq (region_plain ?_)
  refine lq (.int .i64 (-1 : Int)) S (q_assign rfl) fun a S => ?_
  refine lx_nil (thenN ?_)
  refine wp_ret ?_
  obtain rfl := Option.some.inj hm
  exact leave1 S rfl rfl ⟨rfl, H⟩
 ·skip
  refine loop_ghost (fun n a w => ∃ (x46 : Int), Slots a 19 [(0, p0), (1, (.func (.func f1) fs1.toArray cp1.toArray)), (7, (.int .i64 (a0.length : Int))), (8, (.int .i64 x46))] ∧ Heap w0 [] w ∧ iter f64 n (x46) = some res62) _ ⟨(0 : Int), S.sub ⟨rfl, rfl, rfl, rfl, trivial⟩, H, hit63⟩ ?_
  rintro n a w ⟨x46, S, H, hit63⟩
  obtain ⟨m67, o68, rfl, hm, hc69⟩ := iter_step hit63
  rw [hf65] at hm
  refine wp_seq (region_plain ?_)
  refine lq (.bool (decide (x46 < (a0.length : Int)))) S (q_lss rfl rfl) fun a S => ?_
  refine lx_nil (thenN ?_)
  refine wp_seq ?_
  refine cond_b S rfl (fun hc70 => ?_) (fun hc70 => ?_)
  ·have hm := ite_t hc70 hm
   refine wp_skip (thenN ?_)
   refine wp_seq ?_
   refine wp_block ?_
   refine wp_seq (region_plain ?_)
   refine lq (.int .i64 x46) S (q_move rfl) fun a S => ?_
   refine lq (.int .i64 x46) S (q_assign rfl) fun a S => ?_
   refine lx_nil (thenN ?_)
   refine wp_seq (region_plain ?_)
   refine lq (.func (.func f1) fs1.toArray cp1.toArray) S (q_move rfl) fun a S => ?_
   refine lq p0 S (q_move rfl) fun a S => ?_
   refine lq (.int .i64 x46) S (q_move rfl) fun a S => ?_
   obtain ⟨x71, e72, hm⟩ := bind_some hm
   obtain ⟨c73, h74, hat75⟩ := (h0).elem (idx_some e72).2
   obtain rfl := h74
   have hlt := lt_of_idx (idx_some e72).2
   refine lq (ePtr p0 (x46.toNat * 1)) S (q_indexAddr rfl (h0).isSl rfl (idx_some e72).1 hlt Tryz.underlying22 Tryz.sizeOf9) fun a S => ?_
   refine lx_e (sv x71) S trivial (by decide) rfl trivial (q_load1 rfl Tryz.isAgg9 (by rintro _ rfl; exact ((hat75 0 _ rfl).ext H.ext))) (fun a S => ?_)
   obtain ⟨x80, e81, hm⟩ := bind_some hm
   refine lx_callV (f := f1) (first := fs1) (cap := cp1) (xs := [.tmp 15]) S trivial (by decide) rfl rfl rfl hcf1 ((hf1 H.ext  e81).mono ?_)
   rintro e w78 ⟨rfl, Hc79⟩
   have H := H.call0 Hc79
   refine ⟨_, rfl, trivial, fun a S => ?_⟩
   refine lx_nil (thenN ?_)
   refine cond_b S rfl (fun hc83 => ?_) (fun hc83 => ?_)
   ·have hm := ite_t hc83 hm
    refine wp_seq (region_plain ?_)
    refine lq (.int .i64 x46) S (q_move rfl) fun a S => ?_
    refine lq (.int .i64 x46) S (q_assign rfl) fun a S => ?_
    refine lx_nil (thenN ?_)
    refine wp_ret (inBlock_ret ?_)
    refine then_ret ?_
    refine then_ret ?_
    refine inBlock_ret ?_
    refine then_ret ?_
    refine then_ret ?_
    obtain rfl := it_brk hm hc69
    have hm := ctl_inr hk66
    obtain rfl := Option.some.inj hm
    exact leave1 S rfl rfl ⟨rfl, H⟩
   ·have hm := ite_f hc83 hm
    refine wp_skip ?_
    refine inBlock_norm ?_
    refine thenN ?_
    refine region_plain ?_
    refine lq (.int .i64 (W (x46 + (1 : Int)))) S (q_add rfl rfl) fun a S => ?_
    refine lq (.int .i64 (W (x46 + (1 : Int)))) S (q_move rfl) fun a S => ?_
    refine lx_nil ?_
    exact ⟨m67, Nat.lt_succ_self _, (W (x46 + (1 : Int))), S.sub ⟨rfl, rfl, rfl, rfl, trivial⟩, H, it_cont hm hc69⟩
  ·have hm := ite_f hc70 hm
   refine wp_exit ?_
   refine then_exit ?_
   refine then_exit ?_
   refine inBlock_exit ?_
   obtain rfl := it_brk hm hc69
   exact ⟨S.sub trivial, H, rfl⟩

/-- slices.DeleteFunc[[]string,string] -/
def slices_DeleteFunc__string_string_m (fuel : Nat) (a0 : (List Str)) (a1 : (Str → Option Bool)) : Option ((List Str)) :=
  (slices_IndexFunc__string_string_m fuel a0 a1).bind fun x33 => (if (x33 == (-1 : Int)) = true then some (a0) else (iter (fun (s : (List Str) × (Int) × (Int)) => (match s with | (xs61, x62, x63) => (if (decide (x63 < (xs61.length : Int))) = true then join (κ := List Str → Int → Option (((List Str) × (Int) × (Int)) ⊕ (((List Str) × Int) ⊕ ((List Str))))) (fun (xs104 : List Str) (x105 : Int) => some (.inl (xs104, x105, (W (x63 + (1 : Int)))))) (fun K106 => (idx xs61 x63).bind fun x108 => (a1 x108).bind fun x117 => (if (!x117) = true then (idx xs61 x62).bind fun _ => (K106 (xs61.set x62.toNat x108) (W (x62 + (1 : Int)))) else (K106 xs61 x62))) else some (.inr (.inl (xs61, x62)))) : Option (((List Str) × (Int) × (Int)) ⊕ (((List Str) × Int) ⊕ ((List Str)))))) fuel (a0, x33, (W (x33 + (1 : Int))))).bind fun res90 => ctl (β := (List Str) × Int) (ρ := (List Str)) (τ := (List Str)) res90 (fun (xs88, x89) => (sub xs88 x89 (xs88.length : Int)).bind fun _ => (sub (clr xs88 (x89).toNat ((xs88.length : Int)).toNat ([] : Str)) (0 : Int) x89).bind fun xs98 => some (xs98)) (fun q => some (q)))
set_option maxRecDepth 20000 in
theorem slices_DeleteFunc__string_string_ok {w0 : World} {fuel : Nat} {p0 : Value} {a0 : (List Str)} {a1 : (Str → Option Bool)} {f1 : Nat} {fs1 cp1 : List Value} {w00 : World} {L : List Asrt} {r : (List Str)} (H : Heap w00 (oA (rList rStr) p0 a0 :: L) w0) (hcf1 : ∀ args w, (callFunc f1 args).run Tryz.prog w = .ok (.enter f1 args) w) (hf1 : ∀ {w : World} {x0_ : Str} {y : Bool}, Heap w00 L w → a1 x0_ = some y → Calls Tryz.prog f1 (fs1 ++ ([sv x0_] : List Value) ++ cp1).toArray w fun e w' => e = .returned (.bool y) ∧ Heap w [] w') (hm : slices_DeleteFunc__string_string_m fuel a0 a1 = some r) :
  Calls Tryz.prog 47 #[p0, .func (.func f1) fs1.toArray cp1.toArray] w0 fun e w => ∃ (v0 : Value), e = .returned (v0) ∧ Heap w00 (oA (rList rStr) v0 r :: L) w := by
 unfold slices_DeleteFunc__string_string_m at hm
 refine enter (args := [p0, .func (.func f1) fs1.toArray cp1.toArray]) Tryz.func47 rfl 42 rfl (Nat.le_of_ble_eq_true rfl) (fun a S => ?_)
 refine wp_seq (region_plain ?_)
 refine lq (.slice none 0 0) S (q_assign rfl) fun a S => ?_
 refine lx_nil (thenN ?_)
 refine wp_seq (region_plain ?_)
 refine lq p0 S (q_move rfl) fun a S => ?_
 refine lq (.func (.func f1) fs1.toArray cp1.toArray) S (q_move rfl) fun a S => ?_
 obtain ⟨x33, e34, hm⟩ := bind_some hm
 refine lx_call (xs := [.tmp 8, .tmp 9]) S trivial (by decide) rfl rfl Tryz.call64 ((slices_IndexFunc__string_string_ok (f1 := f1) (fs1 := fs1) (cp1 := cp1) (a1 := a1) (H.rdAt 0 rfl) hcf1 (fun he  hm => hf1 (Heap.later (H.tail) he)  hm) e34).mono ?_)
 rintro e w31 ⟨rfl, Hc32⟩
 have H := H.call0 Hc32
 refine ⟨_, rfl, trivial, fun a S => ?_⟩
 refine lq (.int .i64 x33) S (q_assign rfl) fun a S => ?_
 refine lx_nil (thenN ?_)
 refine wp_seq (wp_seq (region_plain ?_))
 refine lq (.int .i64 x33) S (q_move rfl) fun a S => ?_
 refine lq (.bool (x33 == (-1 : Int))) S (q_eql rfl rfl) fun a S => ?_
 refine lx_nil (thenN ?_)
 refine cond_b S rfl (fun hc36 => ?_) (fun hc36 => ?_)
 ·have hm := ite_t hc36 hm
  refine wp_seq (region_plain ?_)
  refine lq p0 S (q_move rfl) fun a S => ?_
  refine lq p0 S (q_assign rfl) fun a S => ?_
  refine lx_nil (thenN ?_)
  refine wp_ret (then_ret ?_)
  obtain rfl := Option.some.inj hm
  exact leave1 S rfl rfl ⟨p0, rfl, H⟩
 ·have hm := ite_f hc36 hm
  refine wp_skip (thenN ?_)
  refine wp_seq (wp_seq (region_plain ?_))
  refine lq (.int .i64 x33) S (q_move rfl) fun a S => ?_
  refine lq (.int .i64 (W (x33 + (1 : Int)))) S (q_add rfl rfl) fun a S => ?_
  refine lq (.int .i64 (W (x33 + (1 : Int)))) S (q_assign rfl) fun a S => ?_
  refine lx_nil (thenN ?_)
  obtain ⟨res90, hit91, hk94⟩ := bind_some hm
  obtain ⟨f92, hf93, hit91⟩ := iter_name hit91
  refine block_loop (fun a w => ∃ (xs88 : List Str) (x89 : Int), Slots a 42 [(0, p0), (5, (.int .i64 x89))] ∧ Heap w00 (oA (rList rStr) p0 xs88 :: L) w ∧ res90 = .inl (xs88, x89)) ?_ ?_
  ·rintro a w ⟨xs88, x89, S, H, rfl⟩
   have hm := ctl_inl hk94
   refine thenN ?_
   refine wp_seq (region_plain ?_)
   refine lq p0 S (q_move rfl) fun a S => ?_
   refine lq (.int .i64 x89) S (q_move rfl) fun a S => ?_
   obtain ⟨xs95, e96, hm⟩ := bind_some hm
   have hsb := (sub_some e96).1
   refine lq (subV p0 (x89).toNat ((xs88.length : Int)).toNat 1) S (q_slice (lo := (some (.tmp 37))) (hi := none) (l := x89) (h := (xs88.length : Int)) (size := 1) rfl (H.isSl 0 rfl) Tryz.underlying22 Tryz.sizeOf9 rfl rfl hsb.1 hsb.2.1 hsb.2.2) fun a S => ?_
   have hS := e96
   refine lx_clear (r := rStr) (lo := x89) (hi := (xs88.length : Int)) (z0 := ([] : Str)) S trivial rfl H rfl hS Tryz.underlying22 Tryz.zeroValue9 rfl rfl (fun w => ⟨rfl, rfl⟩) (fun w97 H => ⟨trivial, fun a S => ?_⟩)
   refine lx_nil (thenN ?_)
   refine wp_seq (region_plain ?_)
   refine lq p0 S (q_move rfl) fun a S => ?_
   refine lq (.int .i64 x89) S (q_move rfl) fun a S => ?_
   obtain ⟨xs98, e99, hm⟩ := bind_some hm
   have hsb := (sub_some e99).1
   refine lq (subV p0 ((0 : Int)).toNat (x89).toNat 1) S (q_slice (lo := none) (hi := (some (.tmp 40))) (l := (0 : Int)) (h := x89) (size := 1) rfl (H.isSl 0 rfl) Tryz.underlying22 Tryz.sizeOf9 rfl rfl hsb.1 hsb.2.1 hsb.2.2) fun a S => ?_
   have H : Heap w00 (oA (rList rStr) (subV p0 ((0 : Int)).toNat (x89).toNat 1) xs98 :: L) w97 := H.cut e99
   refine lq (subV p0 ((0 : Int)).toNat (x89).toNat 1) S (q_assign rfl) fun a S => ?_
   refine lx_nil (thenN ?_)
   refine wp_ret ?_
   obtain rfl := Option.some.inj hm
   exact leave1 S rfl rfl ⟨(subV p0 ((0 : Int)).toNat (x89).toNat 1), rfl, H⟩
  ·skip
   refine loop_ghost (fun n a w => ∃ (xs61 : List Str) (x62 : Int) (x63 : Int), Slots a 42 [(0, p0), (1, (.func (.func f1) fs1.toArray cp1.toArray)), (5, (.int .i64 x62)), (6, (.int .i64 x63))] ∧ Heap w00 (oA (rList rStr) p0 xs61 :: L) w ∧ iter f92 n (xs61, x62, x63) = some res90) _ ⟨a0, x33, (W (x33 + (1 : Int))), S.sub ⟨rfl, rfl, rfl, rfl, trivial⟩, H, hit91⟩ ?_
   rintro n a w ⟨xs61, x62, x63, S, H, hit91⟩
   obtain ⟨m100, o101, rfl, hm, hc102⟩ := iter_step hit91
   rw [hf93] at hm
   refine wp_seq (wp_seq (region_plain ?_))
   refine lq (.int .i64 x63) S (q_move rfl) fun a S => ?_
   refine lq p0 S (q_move rfl) fun a S => ?_
   refine lq (.int .i64 (xs61.length : Int)) S (q_lenSl rfl (H.isSl 0 rfl) rfl Tryz.underlying22) fun a S => ?_
   refine lq (.bool (decide (x63 < (xs61.length : Int)))) S (q_lss rfl rfl) fun a S => ?_
   refine lx_nil (thenN ?_)
   refine cond_b S rfl (fun hc103 => ?_) (fun hc103 => ?_)
   ·have hm := ite_t hc103 hm
    refine wp_skip (thenN ?_)
    obtain ⟨K106, hK107, hm⟩ := join_elim hm
    refine seq_cut (fun a w => ∃ (xs104 : List Str) (x105 : Int), Slots a 42 [(0, p0), (1, (.func (.func f1) fs1.toArray cp1.toArray)), (5, (.int .i64 x105)), (6, (.int .i64 x63))] ∧ Heap w00 (oA (rList rStr) p0 xs104 :: L) w ∧ K106 xs104 x105 = some o101) ?_ ?_
    ·rintro a w ⟨xs104, x105, S, H, hm⟩
     subst hK107
     refine region_plain ?_
     refine lq (.int .i64 x63) S (q_move rfl) fun a S => ?_
     refine lq (.int .i64 (W (x63 + (1 : Int)))) S (q_add rfl rfl) fun a S => ?_
     refine lq (.int .i64 (W (x63 + (1 : Int)))) S (q_assign rfl) fun a S => ?_
     refine lx_nil ?_
     exact ⟨m100, Nat.lt_succ_self _, xs104, x105, (W (x63 + (1 : Int))), S.sub ⟨rfl, rfl, rfl, rfl, trivial⟩, H, it_cont hm hc102⟩
    ·skip
     refine wp_block ?_
     refine wp_seq (region_plain ?_)
     refine lq p0 S (q_move rfl) fun a S => ?_
     refine lq (.int .i64 x63) S (q_move rfl) fun a S => ?_
     obtain ⟨x108, e109, hm⟩ := bind_some hm
     have hlt := lt_of_idx (idx_some e109).2
     refine lq (ePtr p0 (x63.toNat * 1)) S (q_indexAddr rfl (H.isSl 0 rfl) rfl (idx_some e109).1 hlt Tryz.underlying22 Tryz.sizeOf9) fun a S => ?_
     obtain ⟨c110, h111, hat112⟩ := (H.rdAt 0 rfl).elem (idx_some e109).2
     obtain rfl := h111
     refine lx_e (sv x108) S trivial (by decide) rfl trivial (q_load1 rfl Tryz.isAgg9 (by rintro _ rfl; exact (hat112 0 _ rfl))) (fun a S => ?_)
     refine lq (sv x108) S (q_assign rfl) fun a S => ?_
     refine lx_nil (thenN ?_)
     refine wp_seq (region_plain ?_)
     refine lq (.func (.func f1) fs1.toArray cp1.toArray) S (q_move rfl) fun a S => ?_
     refine lq (sv x108) S (q_move rfl) fun a S => ?_
     obtain ⟨x117, e118, hm⟩ := bind_some hm
     refine lx_callV (f := f1) (first := fs1) (cap := cp1) (xs := [.tmp 27]) S trivial (by decide) rfl rfl rfl hcf1 ((hf1 H.tail  e118).mono ?_)
     rintro e w115 ⟨rfl, Hc116⟩
     have H := H.call0 Hc116
     refine ⟨_, rfl, trivial, fun a S => ?_⟩
     refine lq (.bool (!x117)) S (q_not rfl) fun a S => ?_
     refine lx_nil (thenN ?_)
     refine cond_b S rfl (fun hc120 => ?_) (fun hc120 => ?_)
     ·have hm := ite_t hc120 hm
      refine wp_seq (region_plain ?_)
      refine lq p0 S (q_move rfl) fun a S => ?_
      refine lq (.int .i64 x62) S (q_move rfl) fun a S => ?_
      refine lq (sv x108) S (q_move rfl) fun a S => ?_
      obtain ⟨x121, e122, hm⟩ := bind_some hm
      have hlt := lt_of_idx (idx_some e122).2
      refine lq (ePtr p0 (x62.toNat * 1)) S (q_indexAddr rfl (H.isSl 0 rfl) rfl (idx_some e122).1 hlt Tryz.underlying22 Tryz.sizeOf9) fun a S => ?_
      refine lx_storeElem (r := rStr) (us := [(sv x108)]) (off := 0) (e' := x108) S trivial rfl H.putE (ev_zero rfl) rfl (idx_some e122).2 rfl Tryz.sizeOf9 (Nat.le_of_ble_eq_true rfl) (List.forall_mem_cons.2 ⟨rfl, (fun _ h => nomatch h)⟩) (Upd.full rfl (fun w G hG => by cases (show G = [] from hG); exact ⟨rfl, rfl⟩)) (fun w123 H => ⟨trivial, fun a S => ?_⟩)
      refine lx_nil (thenN ?_)
      refine region_plain ?_
      refine lq (.int .i64 x62) S (q_move rfl) fun a S => ?_
      refine lq (.int .i64 (W (x62 + (1 : Int)))) S (q_add rfl rfl) fun a S => ?_
      refine lq (.int .i64 (W (x62 + (1 : Int)))) S (q_assign rfl) fun a S => ?_
      refine lx_nil ?_
      refine inBlock_norm ?_
      exact ⟨(xs61.set x62.toNat x108), (W (x62 + (1 : Int))), S.sub ⟨rfl, rfl, rfl, rfl, trivial⟩, H, hm⟩
     ·have hm := ite_f hc120 hm
      refine wp_skip ?_
      refine inBlock_norm ?_
      exact ⟨xs61, x62, S.sub ⟨rfl, rfl, rfl, rfl, trivial⟩, H, hm⟩
   ·have hm := ite_f hc103 hm
    refine wp_exit ?_
    refine then_exit ?_
    refine then_exit ?_
    refine inBlock_exit ?_
    obtain rfl := it_brk hm hc102
    exact ⟨xs61, x62, S.sub ⟨rfl, rfl, trivial⟩, H, rfl⟩

/-- impl.lacking -/
def impl_lacking_m (fuel : Nat) (a0 : (List Str)) (a1 : (List Str)) : Option ((List Str)) :=
  (slices_Clone__string_string_m fuel a0).bind fun x36 => (slices_DeleteFunc__string_string_m fuel x36 (fun (z0 : Str) => impl_lacking_1_m fuel z0 a1)).bind fun x43 => some (x43)
set_option maxRecDepth 20000 in
theorem impl_lacking_ok {w0 : World} {fuel : Nat} {p0 p1 : Value} {a0 : (List Str)} {a1 : (List Str)} {r : (List Str)} (h0 : Rd (rList rStr) w0 p0 a0) (h1 : Rd (rList rStr) w0 p1 a1) (hm : impl_lacking_m fuel a0 a1 = some r) :
  Calls Tryz.prog 30 #[p0, p1] w0 fun e w => ∃ (v0 : Value), e = .returned (v0) ∧ Heap w0 [oA (rList rStr) v0 r] w := by
 unfold impl_lacking_m at hm
 have H := Heap.start w0
 refine enter (args := [p0, p1]) Tryz.func30 rfl 9 rfl (Nat.le_of_ble_eq_true rfl) (fun a S => ?_)
 refine wp_seq (region_plain ?_)
 refine lx_box S trivial (by decide) rfl H rfl (cells_sl (h1).isSl) (fun b31 w32 H => ⟨trivial, fun a S => ?_⟩)
 refine lq (.slice none 0 0) S (q_assign rfl) fun a S => ?_
 refine lx_nil (thenN ?_)
 refine wp_seq (region_plain ?_)
 refine lq p0 S (q_move rfl) fun a S => ?_
 obtain ⟨x36, e37, hm⟩ := bind_some hm
 refine lx_call (xs := [.tmp 5]) S trivial (by decide) rfl rfl Tryz.call48 ((slices_Clone__string_string_ok (H.arg h0) e37).mono ?_)
 rintro e w34 ⟨v38, rfl, Hc35⟩
 have H := H.call1 Hc35
 refine ⟨_, rfl, trivial, fun a S => ?_⟩
 refine lq (.func (.func 49) #[] #[(bp b31)]) S (q_makeFunc (xs := []) (ys := [.tmp 3]) rfl rfl) fun a S => ?_
 obtain ⟨x43, e44, hm⟩ := bind_some hm
 refine lx_call (xs := [.tmp 6, .tmp 7]) S trivial (by decide) rfl rfl Tryz.call47 ((slices_DeleteFunc__string_string_ok (f1 := 49) (fs1 := ([] : List Value)) (cp1 := ([(bp b31)] : List Value)) (a1 := (fun (z0 : Str) => impl_lacking_1_m fuel z0 a1)) H Tryz.call49 (fun H  hm => impl_lacking_1_ok  (rdPtr_box H 0 rfl ((H.arg h1)).list_rd) hm) e44).mono ?_)
 rintro e w41 ⟨v45, rfl, H⟩
 refine ⟨_, rfl, trivial, fun a S => ?_⟩
 refine lq v45 S (q_assign rfl) fun a S => ?_
 refine lx_nil (thenN ?_)
 refine wp_ret ?_
 obtain rfl := Option.some.inj hm
 have H : Heap w0 [oA (rList rStr) v45 x43] w41 := H.sel [0] (by decide)
 exact leave1 S rfl rfl ⟨v45, rfl, H⟩

/-- impl.RefusalOf -/
def impl_RefusalOf_m (fuel : Nat) (a0 : Timpl_Lts) (a1 : Int) : Option (((List Str) × Int)) :=
  (impl_ltsCode_m fuel (a0.1, a0.2.1, a0.2.2.1, a0.2.2.2) a1).bind fun x54 => (if (x54 != (0 : Int)) = true then some (([], x54)) else (impl_Lts_isStable_m fuel (a0.1, a0.2.1, a0.2.2.1, a0.2.2.2) a1).bind fun x61 => (if (!x61) = true then some (([], (6 : Int))) else (sub a0.2.2.1 (1 : Int) (a0.2.2.1.length : Int)).bind fun xs68 => (impl_Lts_readyLabels_m fuel (a0.1, a0.2.1, a0.2.2.1, a0.2.2.2) a1).bind fun x72 => (impl_lacking_m fuel xs68 x72).bind fun x79 => some ((x79, (0 : Int)))))
set_option maxRecDepth 20000 in
theorem impl_RefusalOf_ok {w0 : World} {fuel : Nat} {p0 : Value} {a0 : Timpl_Lts} {a1 : Int} {r : ((List Str) × Int)} (hG : Glob Tryz.prog w0) (h0 : Rd Rimpl_Lts w0 p0 a0) (hm : impl_RefusalOf_m fuel a0 a1 = some r) :
  Calls Tryz.prog 8 #[p0, .int .i64 a1] w0 fun e w => ∃ (v0 : Value), e = .returned (.tuple #[v0, .int .i64 r.2]) ∧ Heap w0 [oA (rList rStr) v0 r.1] w := by
 unfold impl_RefusalOf_m at hm
 have H := Heap.start w0
 obtain ⟨c31, rfl, h32⟩ := h0
 obtain ⟨c37, c38, rfl, h39, h40⟩ := h32
 obtain rfl := h39
 obtain ⟨c41, c42, rfl, h43, h44⟩ := h40
 obtain rfl := h43
 obtain ⟨c45, c46, rfl, h47, h48⟩ := h44
 obtain ⟨v33, rfl, h34⟩ := rd_list h47
 obtain ⟨v35, rfl, h36⟩ := rd_list h48
 refine enter (args := [(.agg #[(.int .i64 a0.1), (.int .i64 a0.2.1), v33, v35]), .int .i64 a1]) Tryz.func8 rfl 24 rfl (Nat.le_of_ble_eq_true rfl) (fun a S => ?_)
 refine wp_seq (region_plain ?_)
 refine lx_box S trivial (by decide) rfl H rfl rfl (fun b49 w50 H => ⟨trivial, fun a S => ?_⟩)
 refine lq (.slice none 0 0) S (q_assign rfl) fun a S => ?_
 refine lq (.int .i64 (0 : Int)) S (q_assign rfl) fun a S => ?_
 refine lx_nil (thenN ?_)
 refine wp_seq (wp_seq (region_plain ?_))
 refine lx_e (.agg #[(.int .i64 a0.1), (.int .i64 a0.2.1), v33, v35]) S trivial (by decide) rfl trivial (q_loadA (cs := [(.int .i64 a0.1), (.int .i64 a0.2.1), v33, v35]) rfl (isP_bp _) Tryz.isAgg31 Tryz.sizeOf31 (by rintro _ rfl; exact (fun j u hu => boxAt (i := 0) H rfl hu))) (fun a S => ?_)
 refine lq (.int .i64 a1) S (q_move rfl) fun a S => ?_
 obtain ⟨x54, e55, hm⟩ := bind_some hm
 refine lx_call (xs := [.tmp 7, .tmp 8]) S trivial (by decide) rfl rfl Tryz.call28 ((impl_ltsCode_ok (hG.ext H.ext) ⟨[(.int .i64 a0.1), (.int .i64 a0.2.1), v33, v35], rfl, ⟨[(.int .i64 a0.1)], [(.int .i64 a0.2.1), v33, v35], rfl, rfl, ⟨[(.int .i64 a0.2.1)], [v33, v35], rfl, rfl, ⟨[v33], [v35], rfl, ((H.arg h34)).list_rd, ((H.arg h36)).list_rd⟩⟩⟩⟩  e55).mono ?_)
 rintro e w52 ⟨rfl, Hc53⟩
 have H := H.call0 Hc53
 refine ⟨_, rfl, trivial, fun a S => ?_⟩
 refine lq (.int .i64 x54) S (q_assign rfl) fun a S => ?_
 refine lx_nil (thenN ?_)
 refine wp_seq (region_plain ?_)
 refine lq (.int .i64 x54) S (q_move rfl) fun a S => ?_
 refine lq (.bool (x54 != (0 : Int))) S (q_neq rfl rfl) fun a S => ?_
 refine lx_nil (thenN ?_)
 refine cond_b S rfl (fun hc57 => ?_) (fun hc57 => ?_)
 ·have hm := ite_t hc57 hm
  refine wp_seq (region_plain ?_)
  refine lq (.int .i64 x54) S (q_move rfl) fun a S => ?_
  refine lq (.slice none 0 0) S (q_assign rfl) fun a S => ?_
  refine lq (.int .i64 x54) S (q_assign rfl) fun a S => ?_
  refine lx_nil (thenN ?_)
  refine wp_ret (then_ret ?_)
  obtain rfl := Option.some.inj hm
  have H : Heap w0 [oA (rList rStr) (.slice none 0 0) ([] : List Str), bA b49 [(.int .i64 a0.1), (.int .i64 a0.2.1), v33, v35] 31] w52 := H.nilList rStr
  have H : Heap w0 [oA (rList rStr) (.slice none 0 0) ([] : List Str)] w52 := H.sel [0] (by decide)
  exact leave2 S rfl rfl rfl ⟨(.slice none 0 0), rfl, H⟩
 ·have hm := ite_f hc57 hm
  refine wp_skip (thenN ?_)
  refine wp_seq (wp_seq (region_plain ?_))
  refine lx_e (.agg #[(.int .i64 a0.1), (.int .i64 a0.2.1), v33, v35]) S trivial (by decide) rfl trivial (q_loadA (cs := [(.int .i64 a0.1), (.int .i64 a0.2.1), v33, v35]) rfl (isP_bp _) Tryz.isAgg31 Tryz.sizeOf31 (by rintro _ rfl; exact (fun j u hu => boxAt (i := 0) H rfl hu))) (fun a S => ?_)
  refine lq (.int .i64 a1) S (q_move rfl) fun a S => ?_
  obtain ⟨x61, e62, hm⟩ := bind_some hm
  refine lx_call (xs := [.tmp 13, .tmp 14]) S trivial (by decide) rfl rfl Tryz.call29 ((impl_Lts_isStable_ok ⟨[(.int .i64 a0.1), (.int .i64 a0.2.1), v33, v35], rfl, ⟨[(.int .i64 a0.1)], [(.int .i64 a0.2.1), v33, v35], rfl, rfl, ⟨[(.int .i64 a0.2.1)], [v33, v35], rfl, rfl, ⟨[v33], [v35], rfl, ((H.arg h34)).list_rd, ((H.arg h36)).list_rd⟩⟩⟩⟩  e62).mono ?_)
  rintro e w59 ⟨rfl, Hc60⟩
  have H := H.call0 Hc60
  refine ⟨_, rfl, trivial, fun a S => ?_⟩
  refine lq (.bool (!x61)) S (q_not rfl) fun a S => ?_
  refine lx_nil (thenN ?_)
  refine cond_b S rfl (fun hc64 => ?_) (fun hc64 => ?_)
  ·have hm := ite_t hc64 hm
   refine wp_seq (region_plain ?_)
   refine lq (.slice none 0 0) S (q_assign rfl) fun a S => ?_
   refine lq (.int .i64 (6 : Int)) S (q_assign rfl) fun a S => ?_
   refine lx_nil (thenN ?_)
   refine wp_ret (then_ret ?_)
   obtain rfl := Option.some.inj hm
   have H : Heap w0 [oA (rList rStr) (.slice none 0 0) ([] : List Str), bA b49 [(.int .i64 a0.1), (.int .i64 a0.2.1), v33, v35] 31] w59 := H.nilList rStr
   have H : Heap w0 [oA (rList rStr) (.slice none 0 0) ([] : List Str)] w59 := H.sel [0] (by decide)
   exact leave2 S rfl rfl rfl ⟨(.slice none 0 0), rfl, H⟩
  ·have hm := ite_f hc64 hm
   refine wp_skip (thenN ?_)
   refine wp_seq ?_
   refine region_drawG (fun w1 => Heap w0 [bA b49 [(.int .i64 a0.1), (.int .i64 a0.2.1), v33, v35] 31] w1) (fun i => [5, 6].contains i) mixed (by kernel_rfl) (fun w67 he66 => ?_)
   have H := H.later he66
   refine ⟨H.sel [0] (by decide), ?_⟩
   refine lq (pAdd (bp b49) 2) S (q_fieldAddr' 2 22 rfl (isP_bp _) Tryz.underlying31 rfl Tryz.sizeOf22) fun a S => ?_
   refine lq v33 S (q_load1 rfl Tryz.isAgg22 (fun w1 hC => (At.of_add (m := 2) (j := 0) (boxAt (i := 0) hC rfl (j := 2) rfl)))) fun a S => ?_
   obtain ⟨xs68, e69, hm⟩ := bind_some hm
   have hsb := (sub_some e69).1
   refine lq (subV v33 ((1 : Int)).toNat ((a0.2.2.1.length : Int)).toNat 1) S (q_slice (lo := (some (.const (.int .i64 (1))))) (hi := none) (l := (1 : Int)) (h := (a0.2.2.1.length : Int)) (size := 1) rfl (h34).isSl Tryz.underlying22 Tryz.sizeOf9 rfl rfl hsb.1 hsb.2.1 hsb.2.2) fun a S => ?_
   refine lq (.agg #[(.int .i64 a0.1), (.int .i64 a0.2.1), v33, v35]) S (q_loadA (cs := [(.int .i64 a0.1), (.int .i64 a0.2.1), v33, v35]) rfl (isP_bp _) Tryz.isAgg31 Tryz.sizeOf31 (fun w1 hC => (fun j u hu => boxAt (i := 0) hC rfl hu))) fun a S => ?_
   refine lq (.int .i64 a1) S (q_move rfl) fun a S => ?_
   obtain ⟨x72, e73, hm⟩ := bind_some hm
   refine lx_call (xs := [.tmp 20, .tmp 21]) S trivial (by decide) rfl rfl Tryz.call31 ((impl_Lts_readyLabels_ok ⟨[(.int .i64 a0.1), (.int .i64 a0.2.1), v33, v35], rfl, ⟨[(.int .i64 a0.1)], [(.int .i64 a0.2.1), v33, v35], rfl, rfl, ⟨[(.int .i64 a0.2.1)], [v33, v35], rfl, rfl, ⟨[v33], [v35], rfl, ((H.arg h34)).list_rd, ((H.arg h36)).list_rd⟩⟩⟩⟩  e73).mono ?_)
   rintro e w70 ⟨v74, rfl, Hc71⟩
   have H := H.call1 Hc71
   refine ⟨_, rfl, H.sel [1] (by decide), fun a S => ?_⟩
   obtain ⟨x79, e80, hm⟩ := bind_some hm
   refine lx_call (xs := [.tmp 19, .tmp 22]) S trivial (by decide) rfl rfl Tryz.call30 ((impl_lacking_ok (H.arg (h34.sub e69)) (H.rdAt 0 rfl) e80).mono ?_)
   rintro e w77 ⟨v81, rfl, Hc78⟩
   have H := H.call1 Hc78
   refine ⟨_, rfl, H.sel [2] (by decide), fun a S => ?_⟩
   refine lq v81 S (q_assign rfl) fun a S => ?_
   refine lq (.int .i64 (0 : Int)) S (q_assign rfl) fun a S => ?_
   refine lx_nil (thenN ?_)
   refine wp_ret ?_
   obtain rfl := Option.some.inj hm
   have H : Heap w0 [oA (rList rStr) v81 x79] w77 := H.sel [0] (by decide)
   exact leave2 S rfl rfl rfl ⟨v81, rfl, H⟩

/-- laws.heldStringS -/
def laws_heldStringS_m (fuel : Nat) (a0 : (List Str)) (a1 : Int) : Option (Int) :=
  (iter (fun (s : (Int) × (Int)) => (match s with | (x47, x48) => (if (decide (x48 < (a0.length : Int))) = true then (idx a0 x48).bind fun x77 => (laws_markText_m fuel x47).bind fun x84 => (if (x77 != x84) = true then some (.inr (.inr (-1 : Int))) else some (.inl ((W (x47 + (1 : Int))), (W (x48 + (1 : Int)))))) else some (.inr (.inl (x47)))) : Option (((Int) × (Int)) ⊕ ((Int) ⊕ (Int))))) fuel (a1, (0 : Int))).bind fun res66 => ctl (β := Int) (ρ := Int) (τ := Int) res66 (fun (x65) => some (x65)) (fun q => some (q))
set_option maxRecDepth 20000 in
theorem laws_heldStringS_ok {w0 : World} {fuel : Nat} {p0 : Value} {a0 : (List Str)} {a1 : Int} {r : Int} (h0 : Rd (rList rStr) w0 p0 a0) (hm : laws_heldStringS_m fuel a0 a1 = some r) :
  Calls Tryz.prog 13 #[p0, .int .i64 a1] w0 fun e w => e = .returned (.int .i64 r) ∧ Heap w0 [] w := by
 unfold laws_heldStringS_m at hm
 have H := Heap.start w0
 refine enter (args := [p0, .int .i64 a1]) Tryz.func13 rfl 22 rfl (Nat.le_of_ble_eq_true rfl) (fun a S => ?_)
 refine wp_seq (region_plain ?_)
 refine lq (.int .i64 (0 : Int)) S (q_assign rfl) fun a S => ?_
 refine lx_nil (thenN ?_)
 refine wp_seq (wp_seq (region_plain ?_))
 refine lq (.int .i64 (0 : Int)) S (q_assign rfl) fun a S => ?_
 refine lx_nil (thenN ?_)
 obtain ⟨res66, hit67, hk70⟩ := bind_some hm
 obtain ⟨f68, hf69, hit67⟩ := iter_name hit67
 refine block_loop (fun a w => ∃ (x65 : Int), Slots a 22 [(1, (.int .i64 x65))] ∧ Heap w0 [] w ∧ res66 = .inl (x65)) ?_ ?_
 ·rintro a w ⟨x65, S, H, rfl⟩
  have hm := ctl_inl hk70
  refine thenN ?_
  refine wp_seq (region_plain ?_)
  refine lq (.int .i64 x65) S (q_move rfl) fun a S => ?_
  refine lq (.int .i64 x65) S (q_assign rfl) fun a S => ?_
  refine lx_nil (thenN ?_)
  refine wp_ret ?_
  obtain rfl := Option.some.inj hm
  exact leave1 S rfl rfl ⟨rfl, H⟩
 ·skip
  refine loop_ghost (fun n a w => ∃ (x47 : Int) (x48 : Int), Slots a 22 [(0, p0), (1, (.int .i64 x47)), (5, (.int .i64 x48))] ∧ Heap w0 [] w ∧ iter f68 n (x47, x48) = some res66) _ ⟨a1, (0 : Int), S.sub ⟨rfl, rfl, rfl, trivial⟩, H, hit67⟩ ?_
  rintro n a w ⟨x47, x48, S, H, hit67⟩
  obtain ⟨m71, o72, rfl, hm, hc73⟩ := iter_step hit67
  rw [hf69] at hm
  refine wp_seq (wp_seq (region_plain ?_))
  refine lq (.int .i64 x48) S (q_move rfl) fun a S => ?_
  refine lq p0 S (q_move rfl) fun a S => ?_
  refine lq (.int .i64 (a0.length : Int)) S (q_lenSl rfl (h0).isSl rfl Tryz.underlying22) fun a S => ?_
  refine lq (.bool (decide (x48 < (a0.length : Int)))) S (q_lss rfl rfl) fun a S => ?_
  refine lx_nil (thenN ?_)
  refine cond_b S rfl (fun hc74 => ?_) (fun hc74 => ?_)
  ·have hm := ite_t hc74 hm
   refine wp_skip (thenN ?_)
   refine wp_seq ?_
   refine wp_block ?_
   refine wp_seq ?_
   refine wp_seq ?_
   refine region_drawG (fun w1 => Heap w0 [] w1) (fun i => [5].contains i) mixed (by kernel_rfl) (fun w76 he75 => ?_)
   have H := H.later he75
   refine ⟨H.sel [] (by decide), ?_⟩
   refine lq p0 S (q_move rfl) fun a S => ?_
   refine lq (.int .i64 x48) S (q_move rfl) fun a S => ?_
   obtain ⟨x77, e78, hm⟩ := bind_some hm
   obtain ⟨c79, h80, hat81⟩ := (h0).elem (idx_some e78).2
   obtain rfl := h80
   have hlt := lt_of_idx (idx_some e78).2
   refine lq (ePtr p0 (x48.toNat * 1)) S (q_indexAddr rfl (h0).isSl rfl (idx_some e78).1 hlt Tryz.underlying22 Tryz.sizeOf9) fun a S => ?_
   refine lq (sv x77) S (q_load1 rfl Tryz.isAgg9 (fun w1 hC => ((hat81 0 _ rfl).ext hC.ext))) fun a S => ?_
   refine lq (.int .i64 x47) S (q_move rfl) fun a S => ?_
   obtain ⟨x84, e85, hm⟩ := bind_some hm
   refine lx_call (xs := [.tmp 16]) S trivial (by decide) rfl rfl Tryz.call34 ((laws_markText_ok  e85).mono ?_)
   rintro e w82 ⟨rfl, Hc83⟩
   have H := H.call0 Hc83
   refine ⟨_, rfl, H.sel [] (by decide), fun a S => ?_⟩
   refine lq (.bool (x77 != x84)) S (q_sneq rfl rfl) fun a S => ?_
   refine lx_nil (thenN ?_)
   refine cond_b S rfl (fun hc87 => ?_) (fun hc87 => ?_)
   ·have hm := ite_t hc87 hm
    refine wp_seq (region_plain ?_)
    refine lq (.int .i64 (-1 : Int)) S (q_assign rfl) fun a S => ?_
    refine lx_nil (thenN ?_)
    refine wp_ret (then_ret ?_)
    refine inBlock_ret ?_
    refine then_ret ?_
    refine then_ret ?_
    refine inBlock_ret ?_
    refine then_ret ?_
    refine then_ret ?_
    obtain rfl := it_brk hm hc73
    have hm := ctl_inr hk70
    obtain rfl := Option.some.inj hm
    exact leave1 S rfl rfl ⟨rfl, H⟩
   ·have hm := ite_f hc87 hm
    refine wp_skip (thenN ?_)
    refine region_plain ?_
    refine lq (.int .i64 x47) S (q_move rfl) fun a S => ?_
    refine lq (.int .i64 (W (x47 + (1 : Int)))) S (q_add rfl rfl) fun a S => ?_
    refine lq (.int .i64 (W (x47 + (1 : Int)))) S (q_assign rfl) fun a S => ?_
    refine lx_nil ?_
    refine inBlock_norm ?_
    refine thenN ?_
    refine region_plain ?_
    refine lq (.int .i64 x48) S (q_move rfl) fun a S => ?_
    refine lq (.int .i64 (W (x48 + (1 : Int)))) S (q_add rfl rfl) fun a S => ?_
    refine lq (.int .i64 (W (x48 + (1 : Int)))) S (q_assign rfl) fun a S => ?_
    refine lx_nil ?_
    exact ⟨m71, Nat.lt_succ_self _, (W (x47 + (1 : Int))), (W (x48 + (1 : Int))), S.sub ⟨rfl, rfl, rfl, trivial⟩, H, it_cont hm hc73⟩
  ·have hm := ite_f hc74 hm
   refine wp_exit ?_
   refine then_exit ?_
   refine then_exit ?_
   refine inBlock_exit ?_
   obtain rfl := it_brk hm hc73
   exact ⟨x47, S.sub ⟨rfl, trivial⟩, H, rfl⟩

/-- laws.FnExactRefusalOf -/
def laws_FnExactRefusalOf_m (fuel : Nat) (a0 : Tlaws_Lts) (a1 : Int) : Option (Bool) :=
  (laws_szLts_m fuel (a0.1, a0.2.1, a0.2.2.1, a0.2.2.2) (1048576 : Int)).bind fun x54 => (if (decide (x54 < (0 : Int))) = true then some (true) else (laws_toLts_m fuel (a0.1, a0.2.1, a0.2.2.1, a0.2.2.2)).bind fun x60 => (spec_RefusalOf_m fuel (x60.1, x60.2.1, x60.2.2.1, x60.2.2.2) a1).bind fun x69 => (laws_toLts_m fuel (a0.1, a0.2.1, a0.2.2.1, a0.2.2.2)).bind fun x76 => (impl_RefusalOf_m fuel (x76.1, x76.2.1, x76.2.2.1, x76.2.2.2) a1).bind fun x89 => (laws_eqStringS_m fuel x89.1 x69.1).bind fun x96 => (if (!x96) = true then some true else some (x89.2 != x69.2)).bind fun t99 => (if t99 = true then some (false) else (laws_toLts_m fuel (a0.1, a0.2.1, a0.2.2.1, a0.2.2.2)).bind fun x107 => (laws_eqLts_m fuel (x76.1, x76.2.1, x76.2.2.1, x76.2.2.2) (x107.1, x107.2.1, x107.2.2.1, x107.2.2.2)).bind fun x116 => (if (!x116) = true then some (false) else (laws_markLts_m fuel (x76.1, x76.2.1, x76.2.2.1, x76.2.2.2) (1 : Int)).bind fun x122 => (if (decide (x122.1 < (0 : Int))) = true then some true else (laws_eqStringS_m fuel x89.1 x69.1).bind fun x129 => some (!x129)).bind fun t124 => (if t124 = true then some true else some (x89.2 != x69.2)).bind fun t132 => (if t132 = true then some (false) else (laws_markStringS_m fuel x89.1 (1 : Int)).bind fun x138 => (laws_heldStringS_m fuel x138.2 (1 : Int)).bind fun x142 => (if (decide (x142 < (0 : Int))) = true then some (false) else (if (x142 != x138.1) = true then some (false) else (laws_toLts_m fuel (a0.1, a0.2.1, a0.2.2.1, a0.2.2.2)).bind fun x149 => (impl_RefusalOf_m fuel (x149.1, x149.2.1, x149.2.2.1, x149.2.2.2) a1).bind fun x158 => (laws_eqStringS_m fuel x158.1 x69.1).bind fun x165 => (if (!x165) = true then some true else some (x158.2 != x69.2)).bind fun t168 => (if t168 = true then some (false) else (laws_heldStringS_m fuel x138.2 (1 : Int)).bind fun x174 => (if (decide (x174 < (0 : Int))) = true then some (false) else (if (x174 != x138.1) = true then some (false) else some (true))))))))))
set_option maxRecDepth 20000 in
theorem laws_FnExactRefusalOf_ok {w0 : World} {fuel : Nat} {p0 : Value} {a0 : Tlaws_Lts} {a1 : Int} {r : Bool} (hG : Glob Tryz.prog w0) (h0 : Rd Rlaws_Lts w0 p0 a0) (hm : laws_FnExactRefusalOf_m fuel a0 a1 = some r) :
  Calls Tryz.prog 3 #[p0, .int .i64 a1] w0 fun e w => e = .returned (.bool r) ∧ Heap w0 [] w := by
 unfold laws_FnExactRefusalOf_m at hm
 have H := Heap.start w0
 obtain ⟨c31, rfl, h32⟩ := h0
 obtain ⟨c37, c38, rfl, h39, h40⟩ := h32
 obtain rfl := h39
 obtain ⟨c41, c42, rfl, h43, h44⟩ := h40
 obtain rfl := h43
 obtain ⟨c45, c46, rfl, h47, h48⟩ := h44
 obtain ⟨v33, rfl, h34⟩ := rd_list h47
 obtain ⟨v35, rfl, h36⟩ := rd_list h48
 refine enter (args := [(.agg #[(.int .i64 a0.1), (.int .i64 a0.2.1), v33, v35]), .int .i64 a1]) Tryz.func3 rfl 101 rfl (Nat.le_of_ble_eq_true rfl) (fun a S => ?_)
 refine wp_seq (region_plain ?_)
 refine lx_box S trivial (by decide) rfl H rfl rfl (fun b49 w50 H => ⟨trivial, fun a S => ?_⟩)
 refine lq (.bool false) S (q_assign rfl) fun a S => ?_
 refine lx_nil (thenN ?_)
 refine wp_seq (region_plain ?_)
 refine lq (.int .i64 (1048576 : Int)) S (q_assign rfl) fun a S => ?_
 refine lx_nil (thenN ?_)
 refine wp_seq (region_plain ?_)
 refine lx_e (.agg #[(.int .i64 a0.1), (.int .i64 a0.2.1), v33, v35]) S trivial (by decide) rfl trivial (q_loadA (cs := [(.int .i64 a0.1), (.int .i64 a0.2.1), v33, v35]) rfl (isP_bp _) Tryz.isAgg25 Tryz.sizeOf25 (by rintro _ rfl; exact (fun j u hu => boxAt (i := 0) H rfl hu))) (fun a S => ?_)
 refine lq (.int .i64 (1048576 : Int)) S (q_move rfl) fun a S => ?_
 obtain ⟨x54, e55, hm⟩ := bind_some hm
 refine lx_call (xs := [.tmp 16, .tmp 17]) S trivial (by decide) rfl rfl Tryz.call5 ((laws_szLts_ok ⟨[(.int .i64 a0.1), (.int .i64 a0.2.1), v33, v35], rfl, ⟨[(.int .i64 a0.1)], [(.int .i64 a0.2.1), v33, v35], rfl, rfl, ⟨[(.int .i64 a0.2.1)], [v33, v35], rfl, rfl, ⟨[v33], [v35], rfl, ((H.arg h34)).list_rd, ((H.arg h36)).list_rd⟩⟩⟩⟩  e55).mono ?_)
 rintro e w52 ⟨rfl, Hc53⟩
 have H := H.call0 Hc53
 refine ⟨_, rfl, trivial, fun a S => ?_⟩
 refine lq (.int .i64 x54) S (q_assign rfl) fun a S => ?_
 refine lx_nil (thenN ?_)
 refine wp_seq (wp_seq (region_plain ?_))
 refine lq (.int .i64 x54) S (q_move rfl) fun a S => ?_
 refine lq (.bool (decide (x54 < (0 : Int)))) S (q_lss rfl rfl) fun a S => ?_
 refine lx_nil (thenN ?_)
 refine cond_b S rfl (fun hc57 => ?_) (fun hc57 => ?_)
 ·have hm := ite_t hc57 hm
  refine wp_seq (region_plain ?_)
  refine lq (.bool true) S (q_assign rfl) fun a S => ?_
  refine lx_nil (thenN ?_)
  refine wp_ret (then_ret ?_)
  obtain rfl := Option.some.inj hm
  have H : Heap w0 [] w52 := H.sel [] (by decide)
  exact leave1 S rfl rfl ⟨rfl, H⟩
 ·have hm := ite_f hc57 hm
  refine wp_skip (thenN ?_)
  refine wp_seq (region_plain ?_)
  refine lx_e (.agg #[(.int .i64 a0.1), (.int .i64 a0.2.1), v33, v35]) S trivial (by decide) rfl trivial (q_loadA (cs := [(.int .i64 a0.1), (.int .i64 a0.2.1), v33, v35]) rfl (isP_bp _) Tryz.isAgg25 Tryz.sizeOf25 (by rintro _ rfl; exact (fun j u hu => boxAt (i := 0) H rfl hu))) (fun a S => ?_)
  obtain ⟨x60, e61, hm⟩ := bind_some hm
  refine lx_call (xs := [.tmp 22]) S trivial (by decide) rfl rfl Tryz.call7 ((laws_toLts_ok ⟨[(.int .i64 a0.1), (.int .i64 a0.2.1), v33, v35], rfl, ⟨[(.int .i64 a0.1)], [(.int .i64 a0.2.1), v33, v35], rfl, rfl, ⟨[(.int .i64 a0.2.1)], [v33, v35], rfl, rfl, ⟨[v33], [v35], rfl, ((H.arg h34)).list_rd, ((H.arg h36)).list_rd⟩⟩⟩⟩ e61).mono ?_)
  rintro e w58 ⟨v62, v63, rfl, Hc59⟩
  have H := H.call2 Hc59
  refine ⟨_, rfl, trivial, fun a S => ?_⟩
  refine lq (.int .i64 a1) S (q_move rfl) fun a S => ?_
  obtain ⟨x69, e70, hm⟩ := bind_some hm
  refine lx_call (xs := [.tmp 23, .tmp 24]) S trivial (by decide) rfl rfl Tryz.call6 ((spec_RefusalOf_ok ⟨[(.int .i64 x60.1), (.int .i64 x60.2.1), v62, v63], rfl, ⟨[(.int .i64 x60.1)], [(.int .i64 x60.2.1), v62, v63], rfl, rfl, ⟨[(.int .i64 x60.2.1)], [v62, v63], rfl, rfl, ⟨[v62], [v63], rfl, ((H.rdAt 0 rfl)).list_rd, ((H.rdAt 1 rfl)).list_rd⟩⟩⟩⟩  e70).mono ?_)
  rintro e w67 ⟨v71, rfl, Hc68⟩
  have H := H.call1 Hc68
  refine ⟨_, rfl, trivial, fun a S => ?_⟩
  refine lq (.tuple #[v71, (.int .i64 x69.2)]) S (q_move rfl) fun a S => ?_
  refine lq v71 S (q_extract rfl rfl) fun a S => ?_
  refine lq (.int .i64 x69.2) S (q_extract rfl rfl) fun a S => ?_
  refine lq v71 S (q_assign rfl) fun a S => ?_
  refine lq (.int .i64 x69.2) S (q_assign rfl) fun a S => ?_
  refine lx_nil (thenN ?_)
  refine wp_seq (region_plain ?_)
  refine lx_e (.agg #[(.int .i64 a0.1), (.int .i64 a0.2.1), v33, v35]) S trivial (by decide) rfl trivial (q_loadA (cs := [(.int .i64 a0.1), (.int .i64 a0.2.1), v33, v35]) rfl (isP_bp _) Tryz.isAgg25 Tryz.sizeOf25 (by rintro _ rfl; exact (fun j u hu => boxAt (i := 3) H rfl hu))) (fun a S => ?_)
  obtain ⟨x76, e77, hm⟩ := bind_some hm
  refine lx_call (xs := [.tmp 28]) S trivial (by decide) rfl rfl Tryz.call7 ((laws_toLts_ok ⟨[(.int .i64 a0.1), (.int .i64 a0.2.1), v33, v35], rfl, ⟨[(.int .i64 a0.1)], [(.int .i64 a0.2.1), v33, v35], rfl, rfl, ⟨[(.int .i64 a0.2.1)], [v33, v35], rfl, rfl, ⟨[v33], [v35], rfl, ((H.arg h34)).list_rd, ((H.arg h36)).list_rd⟩⟩⟩⟩ e77).mono ?_)
  rintro e w74 ⟨v78, v79, rfl, Hc75⟩
  have H := H.call2 Hc75
  refine ⟨_, rfl, trivial, fun a S => ?_⟩
  refine lx_alloc S trivial (by decide) rfl H Tryz.zeroValue31 rfl (fun b83 w84 H => ⟨trivial, fun a S => ?_⟩)
  refine lx_storeBox (o := 0) (i := 0) (us := [(.int .i64 x76.1), (.int .i64 x76.2.1), v78, v79]) (cs' := [(.int .i64 x76.1), (.int .i64 x76.2.1), v78, v79]) S trivial rfl H rfl rfl rfl rfl Tryz.sizeOf31 (Nat.le_of_ble_eq_true rfl) (List.forall_mem_cons.2 ⟨rfl, (List.forall_mem_cons.2 ⟨rfl, (List.forall_mem_cons.2 ⟨one_sl (H.isSl 1 rfl), (List.forall_mem_cons.2 ⟨one_sl (H.isSl 2 rfl), (fun _ h => nomatch h)⟩)⟩)⟩)⟩) rfl (fun w86 H => ⟨trivial, fun a S => ?_⟩)
  change Heap w0 [bA b83 [(.int .i64 x76.1), (.int .i64 x76.2.1), v78, v79] 31, oA (rList rStr) v78 x76.2.2.1, oA (rList Rimpl_Edge) v79 x76.2.2.2, oA (rList rStr) v71 x69.1, oA (rList rStr) v62 x60.2.2.1, oA (rList Rimpl_Edge) v63 x60.2.2.2, bA b49 [(.int .i64 a0.1), (.int .i64 a0.2.1), v33, v35] 25] w86 at H
  refine lx_nil (thenN ?_)
  refine wp_seq (region_plain ?_)
  refine lx_e (.agg #[(.int .i64 x76.1), (.int .i64 x76.2.1), v78, v79]) S trivial (by decide) rfl trivial (q_loadA (cs := [(.int .i64 x76.1), (.int .i64 x76.2.1), v78, v79]) rfl (isP_bp _) Tryz.isAgg31 Tryz.sizeOf31 (by rintro _ rfl; exact (fun j u hu => boxAt (i := 0) H rfl hu))) (fun a S => ?_)
  refine lq (.int .i64 a1) S (q_move rfl) fun a S => ?_
  obtain ⟨x89, e90, hm⟩ := bind_some hm
  refine lx_call (xs := [.tmp 31, .tmp 32]) S trivial (by decide) rfl rfl Tryz.call8 ((impl_RefusalOf_ok (hG.ext H.ext) ⟨[(.int .i64 x76.1), (.int .i64 x76.2.1), v78, v79], rfl, ⟨[(.int .i64 x76.1)], [(.int .i64 x76.2.1), v78, v79], rfl, rfl, ⟨[(.int .i64 x76.2.1)], [v78, v79], rfl, rfl, ⟨[v78], [v79], rfl, ((H.rdAt 1 rfl)).list_rd, ((H.rdAt 2 rfl)).list_rd⟩⟩⟩⟩  e90).mono ?_)
  rintro e w87 ⟨v91, rfl, Hc88⟩
  have H := H.call1 Hc88
  refine ⟨_, rfl, trivial, fun a S => ?_⟩
  refine lq (.tuple #[v91, (.int .i64 x89.2)]) S (q_move rfl) fun a S => ?_
  refine lq v91 S (q_extract rfl rfl) fun a S => ?_
  refine lq (.int .i64 x89.2) S (q_extract rfl rfl) fun a S => ?_
  refine lq v91 S (q_assign rfl) fun a S => ?_
  refine lq (.int .i64 x89.2) S (q_assign rfl) fun a S => ?_
  refine lx_nil (thenN ?_)
  refine wp_seq (wp_seq (region_plain ?_))
  refine lq v91 S (q_move rfl) fun a S => ?_
  refine lq v71 S (q_move rfl) fun a S => ?_
  obtain ⟨x96, e97, hm⟩ := bind_some hm
  refine lx_call (xs := [.tmp 36, .tmp 37]) S trivial (by decide) rfl rfl Tryz.call9 ((laws_eqStringS_ok (H.rdAt 0 rfl) (H.rdAt 4 rfl) e97).mono ?_)
  rintro e w94 ⟨rfl, Hc95⟩
  have H := H.call0 Hc95
  refine ⟨_, rfl, trivial, fun a S => ?_⟩
  refine lq (.bool (!x96)) S (q_not rfl) fun a S => ?_
  refine lq (.bool (!x96)) S (q_move rfl) fun a S => ?_
  obtain ⟨t99, e100, hm⟩ := bind_some hm
  refine lx_cut 4 (fun a w => Slots a 101 [(1, (.int .i64 a1)), (2, (bp b49)), (6, v71), (7, (.int .i64 x69.2)), (8, (bp b83)), (9, v91), (10, (.int .i64 x89.2)), (44, (.bool t99))] ∧ Heap w0 [oA (rList rStr) v91 x89.1, bA b83 [(.int .i64 x76.1), (.int .i64 x76.2.1), v78, v79] 31, oA (rList rStr) v78 x76.2.2.1, oA (rList Rimpl_Edge) v79 x76.2.2.2, oA (rList rStr) v71 x69.1, bA b49 [(.int .i64 a0.1), (.int .i64 a0.2.1), v33, v35] 25] w) ?_ ?_
  ·by_cases hc101 : (!x96) = true
   ·have hm := ite_t hc101 e100
    refine lx_skip S rfl rfl (isB_ne hc101) (by decide) (fun a S => ?_)
    refine lx_skip S rfl rfl (isB_ne hc101) (by decide) (fun a S => ?_)
    refine lx_skip S rfl rfl (isB_ne hc101) (by decide) (fun a S => ?_)
    refine lq (.bool true) S (q_pickT' rfl hc101 rfl) fun a S => ?_
    refine lx_nil ?_
    obtain rfl := Option.some.inj hm
    have H := H.sel [0, 1, 2, 3, 4, 7] (by decide)
    exact ⟨S.sub ⟨rfl, rfl, rfl, rfl, rfl, rfl, rfl, rfl, trivial⟩, H⟩
   ·have hm := ite_f (eq_false_of_ne_true hc101) e100
    have hc101 : (!x96) = false := eq_false_of_ne_true hc101
    refine lx_q (.int .i64 x89.2) S (want_b rfl rfl hc101) (by decide) (q_move rfl) (fun a S => ?_)
    refine lx_q (.int .i64 x69.2) S (want_b rfl rfl hc101) (by decide) (q_move rfl) (fun a S => ?_)
    refine lx_q (.bool (x89.2 != x69.2)) S (want_b rfl rfl hc101) (by decide) (q_neq rfl rfl) (fun a S => ?_)
    refine lq (.bool (x89.2 != x69.2)) S (q_pickF' rfl hc101 rfl) fun a S => ?_
    refine lx_nil ?_
    obtain rfl := Option.some.inj hm
    have H := H.sel [0, 1, 2, 3, 4, 7] (by decide)
    exact ⟨S.sub ⟨rfl, rfl, rfl, rfl, rfl, rfl, rfl, rfl, trivial⟩, H⟩
  ·rintro a w ⟨S, H⟩
   refine lx_nil (thenN ?_)
   refine cond_b S rfl (fun hc102 => ?_) (fun hc102 => ?_)
   ·have hm := ite_t hc102 hm
    refine wp_seq (region_plain ?_)
    refine lq (.bool false) S (q_assign rfl) fun a S => ?_
    refine lx_nil (thenN ?_)
    refine wp_ret (then_ret ?_)
    obtain rfl := Option.some.inj hm
    have H : Heap w0 [] w := H.sel [] (by decide)
    exact leave1 S rfl rfl ⟨rfl, H⟩
   ·have hm := ite_f hc102 hm
    refine wp_skip (thenN ?_)
    refine wp_seq ?_
    refine wp_seq ?_
    refine region_drawG (fun w1 => Heap w0 [bA b83 [(.int .i64 x76.1), (.int .i64 x76.2.1), v78, v79] 31, bA b49 [(.int .i64 a0.1), (.int .i64 a0.2.1), v33, v35] 25] w1) (fun i => [2, 3].contains i) mixed (by kernel_rfl) (fun w104 he103 => ?_)
    have H := H.later he103
    refine ⟨H.sel [1, 5] (by decide), ?_⟩
    refine lq (.agg #[(.int .i64 x76.1), (.int .i64 x76.2.1), v78, v79]) S (q_loadA (cs := [(.int .i64 x76.1), (.int .i64 x76.2.1), v78, v79]) rfl (isP_bp _) Tryz.isAgg31 Tryz.sizeOf31 (fun w1 hC => (fun j u hu => boxAt (i := 0) hC rfl hu))) fun a S => ?_
    refine lq (.agg #[(.int .i64 a0.1), (.int .i64 a0.2.1), v33, v35]) S (q_loadA (cs := [(.int .i64 a0.1), (.int .i64 a0.2.1), v33, v35]) rfl (isP_bp _) Tryz.isAgg25 Tryz.sizeOf25 (fun w1 hC => (fun j u hu => boxAt (i := 1) hC rfl hu))) fun a S => ?_
    obtain ⟨x107, e108, hm⟩ := bind_some hm
    refine lx_call (xs := [.tmp 46]) S trivial (by decide) rfl rfl Tryz.call7 ((laws_toLts_ok ⟨[(.int .i64 a0.1), (.int .i64 a0.2.1), v33, v35], rfl, ⟨[(.int .i64 a0.1)], [(.int .i64 a0.2.1), v33, v35], rfl, rfl, ⟨[(.int .i64 a0.2.1)], [v33, v35], rfl, rfl, ⟨[v33], [v35], rfl, ((H.arg h34)).list_rd, ((H.arg h36)).list_rd⟩⟩⟩⟩ e108).mono ?_)
    rintro e w105 ⟨v109, v110, rfl, Hc106⟩
    have H := H.call2 Hc106
    refine ⟨_, rfl, H.sel [3, 7] (by decide), fun a S => ?_⟩
    obtain ⟨x116, e117, hm⟩ := bind_some hm
    refine lx_call (xs := [.tmp 45, .tmp 47]) S trivial (by decide) rfl rfl Tryz.call10 ((laws_eqLts_ok ⟨[(.int .i64 x76.1), (.int .i64 x76.2.1), v78, v79], rfl, ⟨[(.int .i64 x76.1)], [(.int .i64 x76.2.1), v78, v79], rfl, rfl, ⟨[(.int .i64 x76.2.1)], [v78, v79], rfl, rfl, ⟨[v78], [v79], rfl, ((H.rdAt 4 rfl)).list_rd, ((H.rdAt 5 rfl)).list_rd⟩⟩⟩⟩ ⟨[(.int .i64 x107.1), (.int .i64 x107.2.1), v109, v110], rfl, ⟨[(.int .i64 x107.1)], [(.int .i64 x107.2.1), v109, v110], rfl, rfl, ⟨[(.int .i64 x107.2.1)], [v109, v110], rfl, rfl, ⟨[v109], [v110], rfl, ((H.rdAt 0 rfl)).list_rd, ((H.rdAt 1 rfl)).list_rd⟩⟩⟩⟩ e117).mono ?_)
    rintro e w114 ⟨rfl, Hc115⟩
    have H := H.call0 Hc115
    refine ⟨_, rfl, H.sel [3, 7] (by decide), fun a S => ?_⟩
    refine lq (.bool (!x116)) S (q_not rfl) fun a S => ?_
    refine lx_nil (thenN ?_)
    refine cond_b S rfl (fun hc119 => ?_) (fun hc119 => ?_)
    ·have hm := ite_t hc119 hm
     refine wp_seq (region_plain ?_)
     refine lq (.bool false) S (q_assign rfl) fun a S => ?_
     refine lx_nil (thenN ?_)
     refine wp_ret (then_ret ?_)
     obtain rfl := Option.some.inj hm
     have H : Heap w0 [] w114 := H.sel [] (by decide)
     exact leave1 S rfl rfl ⟨rfl, H⟩
    ·have hm := ite_f hc119 hm
     refine wp_skip (thenN ?_)
     refine wp_seq (region_plain ?_)
     refine lq (.int .i64 (1 : Int)) S (q_assign rfl) fun a S => ?_
     refine lx_nil (thenN ?_)
     refine wp_seq (region_plain ?_)
     refine lx_e (.agg #[(.int .i64 x76.1), (.int .i64 x76.2.1), v78, v79]) S trivial (by decide) rfl trivial (q_loadA (cs := [(.int .i64 x76.1), (.int .i64 x76.2.1), v78, v79]) rfl (isP_bp _) Tryz.isAgg31 Tryz.sizeOf31 (by rintro _ rfl; exact (fun j u hu => boxAt (i := 3) H rfl hu))) (fun a S => ?_)
     refine lq (.int .i64 (1 : Int)) S (q_move rfl) fun a S => ?_
     obtain ⟨x122, e123, hm⟩ := bind_some hm
     have H : Heap w0 [oA (rList Rimpl_Edge) v79 x76.2.2.2, oA (rList rStr) v109 x107.2.2.1, oA (rList Rimpl_Edge) v110 x107.2.2.2, oA (rList rStr) v91 x89.1, bA b83 [(.int .i64 x76.1), (.int .i64 x76.2.1), v78, v79] 31, oA (rList rStr) v78 x76.2.2.1, oA (rList rStr) v71 x69.1, bA b49 [(.int .i64 a0.1), (.int .i64 a0.2.1), v33, v35] 25] w114 := H.front 5 rfl
     have H : Heap w0 [oA (rList rStr) v78 x76.2.2.1, oA (rList Rimpl_Edge) v79 x76.2.2.2, oA (rList rStr) v109 x107.2.2.1, oA (rList Rimpl_Edge) v110 x107.2.2.2, oA (rList rStr) v91 x89.1, bA b83 [(.int .i64 x76.1), (.int .i64 x76.2.1), v78, v79] 31, oA (rList rStr) v71 x69.1, bA b49 [(.int .i64 a0.1), (.int .i64 a0.2.1), v33, v35] 25] w114 := H.front 5 rfl
     refine lx_call (xs := [.tmp 50, .tmp 51]) S trivial (by decide) rfl rfl Tryz.call11 ((laws_markLts_ok H  e123).mono ?_)
     rintro e w120 ⟨rfl, H⟩
     refine ⟨_, rfl, trivial, fun a S => ?_⟩
     refine lq (.int .i64 x122.1) S (q_assign rfl) fun a S => ?_
     refine lx_nil (thenN ?_)
     refine wp_seq (wp_seq (region_plain ?_))
     refine lq (.int .i64 x122.1) S (q_move rfl) fun a S => ?_
     refine lq (.bool (decide (x122.1 < (0 : Int)))) S (q_lss rfl rfl) fun a S => ?_
     refine lq (.bool (decide (x122.1 < (0 : Int)))) S (q_move rfl) fun a S => ?_
     obtain ⟨t124, e125, hm⟩ := bind_some hm
     refine lx_cut 5 (fun a w => Slots a 101 [(1, (.int .i64 a1)), (2, (bp b49)), (6, v71), (7, (.int .i64 x69.2)), (9, v91), (10, (.int .i64 x89.2)), (60, (.bool t124))] ∧ Heap w0 [oA (rList rStr) v91 x89.1, oA (rList rStr) v71 x69.1, bA b49 [(.int .i64 a0.1), (.int .i64 a0.2.1), v33, v35] 25] w) ?_ ?_
     ·by_cases hc126 : (decide (x122.1 < (0 : Int))) = true
      ·have hm := ite_t hc126 e125
       refine lx_skip S rfl rfl (isB_ne hc126) (by decide) (fun a S => ?_)
       refine lx_skip S rfl rfl (isB_ne hc126) (by decide) (fun a S => ?_)
       refine lx_skip S rfl rfl (isB_ne hc126) (by decide) (fun a S => ?_)
       refine lx_skip S rfl rfl (isB_ne hc126) (by decide) (fun a S => ?_)
       refine lq (.bool true) S (q_pickT' rfl hc126 rfl) fun a S => ?_
       refine lx_nil ?_
       obtain rfl := Option.some.inj hm
       have H := H.sel [4, 6, 7] (by decide)
       exact ⟨S.sub ⟨rfl, rfl, rfl, rfl, rfl, rfl, rfl, trivial⟩, H⟩
      ·have hm := ite_f (eq_false_of_ne_true hc126) e125
       have hc126 : (decide (x122.1 < (0 : Int))) = false := eq_false_of_ne_true hc126
       refine lx_q v91 S (want_b rfl rfl hc126) (by decide) (q_move rfl) (fun a S => ?_)
       refine lx_q v71 S (want_b rfl rfl hc126) (by decide) (q_move rfl) (fun a S => ?_)
       obtain ⟨x129, e130, hm⟩ := bind_some hm
       refine lx_call (xs := [.tmp 56, .tmp 57]) S (want_b rfl rfl hc126) (by decide) rfl rfl Tryz.call9 ((laws_eqStringS_ok (H.rdAt 4 rfl) (H.rdAt 6 rfl) e130).mono ?_)
       rintro e w127 ⟨rfl, Hc128⟩
       have H := H.call0 Hc128
       refine ⟨_, rfl, trivial, fun a S => ?_⟩
       refine lx_q (.bool (!x129)) S (want_b rfl rfl hc126) (by decide) (q_not rfl) (fun a S => ?_)
       refine lq (.bool (!x129)) S (q_pickF' rfl hc126 rfl) fun a S => ?_
       refine lx_nil ?_
       obtain rfl := Option.some.inj hm
       have H := H.sel [4, 6, 7] (by decide)
       exact ⟨S.sub ⟨rfl, rfl, rfl, rfl, rfl, rfl, rfl, trivial⟩, H⟩
     ·rintro a w ⟨S, H⟩
      refine lq (.bool t124) S (q_move rfl) fun a S => ?_
      obtain ⟨t132, e133, hm⟩ := bind_some hm
      refine lx_cut 4 (fun a w => Slots a 101 [(1, (.int .i64 a1)), (2, (bp b49)), (6, v71), (7, (.int .i64 x69.2)), (9, v91), (65, (.bool t132))] ∧ Heap w0 [oA (rList rStr) v91 x89.1, oA (rList rStr) v71 x69.1, bA b49 [(.int .i64 a0.1), (.int .i64 a0.2.1), v33, v35] 25] w) ?_ ?_
      ·by_cases hc134 : t124 = true
       ·have hm := ite_t hc134 e133
        refine lx_skip S rfl rfl (isB_ne hc134) (by decide) (fun a S => ?_)
        refine lx_skip S rfl rfl (isB_ne hc134) (by decide) (fun a S => ?_)
        refine lx_skip S rfl rfl (isB_ne hc134) (by decide) (fun a S => ?_)
        refine lq (.bool true) S (q_pickT' rfl hc134 rfl) fun a S => ?_
        refine lx_nil ?_
        obtain rfl := Option.some.inj hm
        exact ⟨S.sub ⟨rfl, rfl, rfl, rfl, rfl, rfl, trivial⟩, H⟩
       ·have hm := ite_f (eq_false_of_ne_true hc134) e133
        have hc134 : t124 = false := eq_false_of_ne_true hc134
        refine lx_q (.int .i64 x89.2) S (want_b rfl rfl hc134) (by decide) (q_move rfl) (fun a S => ?_)
        refine lx_q (.int .i64 x69.2) S (want_b rfl rfl hc134) (by decide) (q_move rfl) (fun a S => ?_)
        refine lx_q (.bool (x89.2 != x69.2)) S (want_b rfl rfl hc134) (by decide) (q_neq rfl rfl) (fun a S => ?_)
        refine lq (.bool (x89.2 != x69.2)) S (q_pickF' rfl hc134 rfl) fun a S => ?_
        refine lx_nil ?_
        obtain rfl := Option.some.inj hm
        exact ⟨S.sub ⟨rfl, rfl, rfl, rfl, rfl, rfl, trivial⟩, H⟩
      ·rintro a w ⟨S, H⟩
       refine lx_nil (thenN ?_)
       refine cond_b S rfl (fun hc135 => ?_) (fun hc135 => ?_)
       ·have hm := ite_t hc135 hm
        refine wp_seq (region_plain ?_)
        refine lq (.bool false) S (q_assign rfl) fun a S => ?_
        refine lx_nil (thenN ?_)
        refine wp_ret (then_ret ?_)
        obtain rfl := Option.some.inj hm
        have H : Heap w0 [] w := H.sel [] (by decide)
        exact leave1 S rfl rfl ⟨rfl, H⟩
       ·have hm := ite_f hc135 hm
        refine wp_skip (thenN ?_)
        refine wp_seq (region_plain ?_)
        refine lq (.int .i64 (1 : Int)) S (q_assign rfl) fun a S => ?_
        refine lx_nil (thenN ?_)
        refine wp_seq (region_plain ?_)
        refine lq v91 S (q_move rfl) fun a S => ?_
        refine lq (.int .i64 (1 : Int)) S (q_move rfl) fun a S => ?_
        obtain ⟨x138, e139, hm⟩ := bind_some hm
        refine lx_call (xs := [.tmp 66, .tmp 67]) S trivial (by decide) rfl rfl Tryz.call12 ((laws_markStringS_ok H  e139).mono ?_)
        rintro e w136 ⟨rfl, H⟩
        refine ⟨_, rfl, trivial, fun a S => ?_⟩
        refine lq (.int .i64 x138.1) S (q_assign rfl) fun a S => ?_
        refine lx_nil (thenN ?_)
        refine wp_seq (region_plain ?_)
        refine lq (.int .i64 (1 : Int)) S (q_assign rfl) fun a S => ?_
        refine lx_nil (thenN ?_)
        refine wp_seq (region_plain ?_)
        refine lq v91 S (q_move rfl) fun a S => ?_
        refine lq (.int .i64 (1 : Int)) S (q_move rfl) fun a S => ?_
        obtain ⟨x142, e143, hm⟩ := bind_some hm
        refine lx_call (xs := [.tmp 69, .tmp 70]) S trivial (by decide) rfl rfl Tryz.call13 ((laws_heldStringS_ok (H.rdAt 0 rfl)  e143).mono ?_)
        rintro e w140 ⟨rfl, Hc141⟩
        have H := H.call0 Hc141
        refine ⟨_, rfl, trivial, fun a S => ?_⟩
        refine lq (.int .i64 x142) S (q_assign rfl) fun a S => ?_
        refine lx_nil (thenN ?_)
        refine wp_seq (wp_seq (region_plain ?_))
        refine lq (.int .i64 x142) S (q_move rfl) fun a S => ?_
        refine lq (.bool (decide (x142 < (0 : Int)))) S (q_lss rfl rfl) fun a S => ?_
        refine lx_nil (thenN ?_)
        refine cond_b S rfl (fun hc145 => ?_) (fun hc145 => ?_)
        ·have hm := ite_t hc145 hm
         refine wp_seq (region_plain ?_)
         refine lq (.bool false) S (q_assign rfl) fun a S => ?_
         refine lx_nil (thenN ?_)
         refine wp_ret (then_ret ?_)
         obtain rfl := Option.some.inj hm
         have H : Heap w0 [] w140 := H.sel [] (by decide)
         exact leave1 S rfl rfl ⟨rfl, H⟩
        ·have hm := ite_f hc145 hm
         refine wp_skip (thenN ?_)
         refine wp_seq (wp_seq (region_plain ?_))
         refine lq (.int .i64 x142) S (q_move rfl) fun a S => ?_
         refine lq (.int .i64 x138.1) S (q_move rfl) fun a S => ?_
         refine lq (.bool (x142 != x138.1)) S (q_neq rfl rfl) fun a S => ?_
         refine lx_nil (thenN ?_)
         refine cond_b S rfl (fun hc146 => ?_) (fun hc146 => ?_)
         ·have hm := ite_t hc146 hm
          refine wp_seq (region_plain ?_)
          refine lq (.bool false) S (q_assign rfl) fun a S => ?_
          refine lx_nil (thenN ?_)
          refine wp_ret (then_ret ?_)
          obtain rfl := Option.some.inj hm
          have H : Heap w0 [] w140 := H.sel [] (by decide)
          exact leave1 S rfl rfl ⟨rfl, H⟩
         ·have hm := ite_f hc146 hm
          refine wp_skip (thenN ?_)
          refine wp_seq (region_plain ?_)
          refine lx_e (.agg #[(.int .i64 a0.1), (.int .i64 a0.2.1), v33, v35]) S trivial (by decide) rfl trivial (q_loadA (cs := [(.int .i64 a0.1), (.int .i64 a0.2.1), v33, v35]) rfl (isP_bp _) Tryz.isAgg25 Tryz.sizeOf25 (by rintro _ rfl; exact (fun j u hu => boxAt (i := 2) H rfl hu))) (fun a S => ?_)
          obtain ⟨x149, e150, hm⟩ := bind_some hm
          refine lx_call (xs := [.tmp 78]) S trivial (by decide) rfl rfl Tryz.call7 ((laws_toLts_ok ⟨[(.int .i64 a0.1), (.int .i64 a0.2.1), v33, v35], rfl, ⟨[(.int .i64 a0.1)], [(.int .i64 a0.2.1), v33, v35], rfl, rfl, ⟨[(.int .i64 a0.2.1)], [v33, v35], rfl, rfl, ⟨[v33], [v35], rfl, ((H.arg h34)).list_rd, ((H.arg h36)).list_rd⟩⟩⟩⟩ e150).mono ?_)
          rintro e w147 ⟨v151, v152, rfl, Hc148⟩
          have H := H.call2 Hc148
          refine ⟨_, rfl, trivial, fun a S => ?_⟩
          refine lq (.int .i64 a1) S (q_move rfl) fun a S => ?_
          obtain ⟨x158, e159, hm⟩ := bind_some hm
          refine lx_call (xs := [.tmp 79, .tmp 80]) S trivial (by decide) rfl rfl Tryz.call8 ((impl_RefusalOf_ok (hG.ext H.ext) ⟨[(.int .i64 x149.1), (.int .i64 x149.2.1), v151, v152], rfl, ⟨[(.int .i64 x149.1)], [(.int .i64 x149.2.1), v151, v152], rfl, rfl, ⟨[(.int .i64 x149.2.1)], [v151, v152], rfl, rfl, ⟨[v151], [v152], rfl, ((H.rdAt 0 rfl)).list_rd, ((H.rdAt 1 rfl)).list_rd⟩⟩⟩⟩  e159).mono ?_)
          rintro e w156 ⟨v160, rfl, Hc157⟩
          have H := H.call1 Hc157
          refine ⟨_, rfl, trivial, fun a S => ?_⟩
          refine lq (.tuple #[v160, (.int .i64 x158.2)]) S (q_move rfl) fun a S => ?_
          refine lq v160 S (q_extract rfl rfl) fun a S => ?_
          refine lq (.int .i64 x158.2) S (q_extract rfl rfl) fun a S => ?_
          refine lq v160 S (q_assign rfl) fun a S => ?_
          refine lq (.int .i64 x158.2) S (q_assign rfl) fun a S => ?_
          refine lx_nil (thenN ?_)
          refine wp_seq (wp_seq (region_plain ?_))
          refine lq v160 S (q_move rfl) fun a S => ?_
          refine lq v71 S (q_move rfl) fun a S => ?_
          obtain ⟨x165, e166, hm⟩ := bind_some hm
          refine lx_call (xs := [.tmp 84, .tmp 85]) S trivial (by decide) rfl rfl Tryz.call9 ((laws_eqStringS_ok (H.rdAt 0 rfl) (H.rdAt 4 rfl) e166).mono ?_)
          rintro e w163 ⟨rfl, Hc164⟩
          have H := H.call0 Hc164
          refine ⟨_, rfl, trivial, fun a S => ?_⟩
          refine lq (.bool (!x165)) S (q_not rfl) fun a S => ?_
          refine lq (.bool (!x165)) S (q_move rfl) fun a S => ?_
          obtain ⟨t168, e169, hm⟩ := bind_some hm
          refine lx_cut 4 (fun a w => Slots a 101 [(9, v91), (12, (.int .i64 x138.1)), (92, (.bool t168))] ∧ Heap w0 [oA (rList rStr) v91 x138.2] w) ?_ ?_
          ·by_cases hc170 : (!x165) = true
           ·have hm := ite_t hc170 e169
            refine lx_skip S rfl rfl (isB_ne hc170) (by decide) (fun a S => ?_)
            refine lx_skip S rfl rfl (isB_ne hc170) (by decide) (fun a S => ?_)
            refine lx_skip S rfl rfl (isB_ne hc170) (by decide) (fun a S => ?_)
            refine lq (.bool true) S (q_pickT' rfl hc170 rfl) fun a S => ?_
            refine lx_nil ?_
            obtain rfl := Option.some.inj hm
            have H := H.sel [3] (by decide)
            exact ⟨S.sub ⟨rfl, rfl, rfl, trivial⟩, H⟩
           ·have hm := ite_f (eq_false_of_ne_true hc170) e169
            have hc170 : (!x165) = false := eq_false_of_ne_true hc170
            refine lx_q (.int .i64 x158.2) S (want_b rfl rfl hc170) (by decide) (q_move rfl) (fun a S => ?_)
            refine lx_q (.int .i64 x69.2) S (want_b rfl rfl hc170) (by decide) (q_move rfl) (fun a S => ?_)
            refine lx_q (.bool (x158.2 != x69.2)) S (want_b rfl rfl hc170) (by decide) (q_neq rfl rfl) (fun a S => ?_)
            refine lq (.bool (x158.2 != x69.2)) S (q_pickF' rfl hc170 rfl) fun a S => ?_
            refine lx_nil ?_
            obtain rfl := Option.some.inj hm
            have H := H.sel [3] (by decide)
            exact ⟨S.sub ⟨rfl, rfl, rfl, trivial⟩, H⟩
          ·rintro a w ⟨S, H⟩
           refine lx_nil (thenN ?_)
           refine cond_b S rfl (fun hc171 => ?_) (fun hc171 => ?_)
           ·have hm := ite_t hc171 hm
            refine wp_seq (region_plain ?_)
            refine lq (.bool false) S (q_assign rfl) fun a S => ?_
            refine lx_nil (thenN ?_)
            refine wp_ret (then_ret ?_)
            obtain rfl := Option.some.inj hm
            have H : Heap w0 [] w := H.sel [] (by decide)
            exact leave1 S rfl rfl ⟨rfl, H⟩
           ·have hm := ite_f hc171 hm
            refine wp_skip (thenN ?_)
            refine wp_seq (region_plain ?_)
            refine lq (.int .i64 (1 : Int)) S (q_assign rfl) fun a S => ?_
            refine lx_nil (thenN ?_)
            refine wp_seq (region_plain ?_)
            refine lq v91 S (q_move rfl) fun a S => ?_
            refine lq (.int .i64 (1 : Int)) S (q_move rfl) fun a S => ?_
            obtain ⟨x174, e175, hm⟩ := bind_some hm
            refine lx_call (xs := [.tmp 93, .tmp 94]) S trivial (by decide) rfl rfl Tryz.call13 ((laws_heldStringS_ok (H.rdAt 0 rfl)  e175).mono ?_)
            rintro e w172 ⟨rfl, Hc173⟩
            have H := H.call0 Hc173
            refine ⟨_, rfl, trivial, fun a S => ?_⟩
            refine lq (.int .i64 x174) S (q_assign rfl) fun a S => ?_
            refine lx_nil (thenN ?_)
            refine wp_seq (wp_seq (region_plain ?_))
            refine lq (.int .i64 x174) S (q_move rfl) fun a S => ?_
            refine lq (.bool (decide (x174 < (0 : Int)))) S (q_lss rfl rfl) fun a S => ?_
            refine lx_nil (thenN ?_)
            refine cond_b S rfl (fun hc177 => ?_) (fun hc177 => ?_)
            ·have hm := ite_t hc177 hm
             refine wp_seq (region_plain ?_)
             refine lq (.bool false) S (q_assign rfl) fun a S => ?_
             refine lx_nil (thenN ?_)
             refine wp_ret (then_ret ?_)
             obtain rfl := Option.some.inj hm
             have H : Heap w0 [] w172 := H.sel [] (by decide)
             exact leave1 S rfl rfl ⟨rfl, H⟩
            ·have hm := ite_f hc177 hm
             refine wp_skip (thenN ?_)
             refine wp_seq (wp_seq (region_plain ?_))
             refine lq (.int .i64 x174) S (q_move rfl) fun a S => ?_
             refine lq (.int .i64 x138.1) S (q_move rfl) fun a S => ?_
             refine lq (.bool (x174 != x138.1)) S (q_neq rfl rfl) fun a S => ?_
             refine lx_nil (thenN ?_)
             refine cond_b S rfl (fun hc178 => ?_) (fun hc178 => ?_)
             ·have hm := ite_t hc178 hm
              refine wp_seq (region_plain ?_)
              refine lq (.bool false) S (q_assign rfl) fun a S => ?_
              refine lx_nil (thenN ?_)
              refine wp_ret (then_ret ?_)
              obtain rfl := Option.some.inj hm
              have H : Heap w0 [] w172 := H.sel [] (by decide)
              exact leave1 S rfl rfl ⟨rfl, H⟩
             ·have hm := ite_f hc178 hm
              refine wp_skip (thenN ?_)
              refine wp_seq (region_plain ?_)
              refine lq (.bool true) S (q_assign rfl) fun a S => ?_
              refine lx_nil (thenN ?_)
              refine wp_ret ?_
              obtain rfl := Option.some.inj hm
              have H : Heap w0 [] w172 := H.sel [] (by decide)
              exact leave1 S rfl rfl ⟨rfl, H⟩
end Go.Proofs.YtmiebbfdkfofhaaGreatDoor
