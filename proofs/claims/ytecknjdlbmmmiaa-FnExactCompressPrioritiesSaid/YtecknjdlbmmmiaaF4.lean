/- The models of some functions and their walks (printed by a program of this repo). -/
import Derived.Test.YtecknjdlbmmmiaaF0
import Derived.Test.YtecknjdlbmmmiaaF1
import Derived.Test.YtecknjdlbmmmiaaF2
import Derived.Test.YtecknjdlbmmmiaaGxT
import Derived.Test.YtecknjdlbmmmiaaGxY
namespace Go.Proofs.Ytecknjdlbmmmiaa
open Go.RowKit Go.Gx

/-- slices.Clone[[]int64,int64] -/
def slices_Clone__int64_int64_m (_ : Nat) (a0 : (List Int)) : Option ((List Int)) :=
  (app ([] : List Int) a0).bind fun x38 => some (x38)
set_option maxRecDepth 20000 in
theorem slices_Clone__int64_int64_ok {w0 : World} {fuel : Nat} {p0 : Value} {a0 : (List Int)} {r : (List Int)} (h0 : Rd (rList (rInt .i64)) w0 p0 a0) (hm : slices_Clone__int64_int64_m fuel a0 = some r) :
  Calls Try.prog 96 #[p0] w0 fun e w => ∃ (v0 : Value), e = .returned (v0) ∧ Heap w0 [oA (rList (rInt .i64)) v0 r] w := by
 unfold slices_Clone__int64_int64_m at hm
 have H := Heap.start w0
 refine enter (args := [p0]) Try.func96 rfl 8 rfl (Nat.le_of_ble_eq_true rfl) (fun a S => ?_)
 refine wp_seq (region_plain ?_)
 refine lq (.slice none 0 0) S (q_assign rfl) fun a S => ?_
 refine lx_nil (thenN ?_)
 refine wp_seq (wp_seq (region_plain ?_))
 refine lq p0 S (q_move rfl) fun a S => ?_
 obtain ⟨bn31, hqn, hb32⟩ := ((H.arg h0)).isNil (P := Try.prog) Try.underlying23
 refine lq (.bool bn31) S (hqn rfl rfl) fun a S => ?_
 refine lx_nil (thenN ?_)
 refine cond_b S rfl (fun hc33 => ?_) (fun hc33 => ?_)
 ·obtain rfl := hb32 hc33
  replace hm : some [] = some r := by simpa [app] using hm
  refine wp_seq (region_plain ?_)
  refine lq (.slice none 0 0) S (q_assign rfl) fun a S => ?_
  refine lx_nil (thenN ?_)
  refine wp_ret (then_ret ?_)
  obtain rfl := Option.some.inj hm
  have H : Heap w0 [oA (rList (rInt .i64)) (.slice none 0 0) ([] : List Int)] w0 := H.nilList (rInt .i64)
  exact leave1 S rfl rfl ⟨(.slice none 0 0), rfl, H⟩
 ·skip
  refine wp_skip (thenN ?_)
  refine wp_seq (region_plain ?_)
  refine lx_buildSlice0 (r := (rInt .i64)) S trivial (by decide) rfl H Try.underlying23 Try.sizeOf2 (fun v35 w36 H => ⟨trivial, fun a S => ?_⟩)
  refine lq p0 S (q_move rfl) fun a S => ?_
  obtain ⟨x38, e39, hm⟩ := bind_some hm
  obtain ⟨hle, hap⟩ := app_some e39
  replace hap := hap.symm
  subst hap
  refine lx_appendRd (r := (rInt .i64)) S trivial (by decide) rfl H (flat_int _) (H.arg h0) rfl rfl Try.underlying23 Try.ti2 rfl rfl rfl (Nat.le_of_ble_eq_true rfl) (by decide) hle (fun v40 w41 H => ⟨trivial, fun a S => ?_⟩)
  refine lq v40 S (q_assign rfl) fun a S => ?_
  refine lx_nil (thenN ?_)
  refine wp_ret ?_
  obtain rfl := Option.some.inj hm
  exact leave1 S rfl rfl ⟨v40, rfl, H⟩

/-- slices.Index[[]int64,int64] -/
def slices_Index__int64_int64_m (fuel : Nat) (a0 : (List Int)) (a1 : Int) : Option (Int) :=
  (iter (fun (s : (Int)) => (match s with | (x39) => (if (decide (x39 < (a0.length : Int))) = true then (idx a0 x39).bind fun x57 => (if (a1 == x57) = true then some (.inr (.inr x39)) else some (.inl ((W (x39 + (1 : Int)))))) else some (.inr (.inl ()))) : Option (((Int)) ⊕ ((Unit) ⊕ (Int))))) fuel ((0 : Int))).bind fun res48 => ctl (β := Unit) (ρ := Int) (τ := Int) res48 (fun _ => some ((-1 : Int))) (fun q => some (q))
set_option maxRecDepth 20000 in
theorem slices_Index__int64_int64_ok {w0 : World} {fuel : Nat} {p0 : Value} {a0 : (List Int)} {a1 : Int} {r : Int} (h0 : Rd (rList (rInt .i64)) w0 p0 a0) (hm : slices_Index__int64_int64_m fuel a0 a1 = some r) :
  Calls Try.prog 116 #[p0, .int .i64 a1] w0 fun e w => e = .returned (.int .i64 r) ∧ Heap w0 [] w := by
 unfold slices_Index__int64_int64_m at hm
 have H := Heap.start w0
 refine enter (args := [p0, .int .i64 a1]) Try.func116 rfl 19 rfl (Nat.le_of_ble_eq_true rfl) (fun a S => ?_)
 refine wp_seq (region_plain ?_)
 refine lq (.int .i64 (0 : Int)) S (q_assign rfl) fun a S => ?_
 refine lx_nil (thenN ?_)
 refine wp_seq (wp_seq (region_plain ?_))
 refine lq p0 S (q_move rfl) fun a S => ?_
 refine lq (.int .i64 (a0.length : Int)) S (q_lenSl rfl (h0).isSl rfl Try.underlying23) fun a S => ?_
 refine lq (.int .i64 (0 : Int)) S (q_move rfl) fun a S => ?_
 refine lx_nil (thenN ?_)
 obtain ⟨res48, hit49, hk52⟩ := bind_some hm
 obtain ⟨f50, hf51, hit49⟩ := iter_name hit49
 refine block_loop (fun a w => Slots a 19 [] ∧ Heap w0 [] w ∧ res48 = .inl ()) ?_ ?_
 ·rintro a w ⟨S, H, rfl⟩
  have hm := ctl_inl hk52
  refine thenN ?_
  refine wp_seq (region_plain ?_)
  refine lq (.int .i64 (-1 : Int)) S (q_assign rfl) fun a S => ?_
  refine lx_nil (thenN ?_)
  refine wp_ret ?_
  obtain rfl := Option.some.inj hm
  exact leave1 S rfl rfl ⟨rfl, H⟩
 ·skip
  refine loop_ghost (fun n a w => ∃ (x39 : Int), Slots a 19 [(0, p0), (1, (.int .i64 a1)), (7, (.int .i64 (a0.length : Int))), (8, (.int .i64 x39))] ∧ Heap w0 [] w ∧ iter f50 n (x39) = some res48) _ ⟨(0 : Int), S.sub ⟨rfl, rfl, rfl, rfl, trivial⟩, H, hit49⟩ ?_
  rintro n a w ⟨x39, S, H, hit49⟩
  obtain ⟨m53, o54, rfl, hm, hc55⟩ := iter_step hit49
  rw [hf51] at hm
  refine wp_seq (region_plain ?_)
  refine lq (.bool (decide (x39 < (a0.length : Int)))) S (q_lss rfl rfl) fun a S => ?_
  refine lx_nil (thenN ?_)
  refine wp_seq ?_
  refine cond_b S rfl (fun hc56 => ?_) (fun hc56 => ?_)
  ·have hm := ite_t hc56 hm
   refine wp_skip (thenN ?_)
   refine wp_seq ?_
   refine wp_block ?_
   refine wp_seq (region_plain ?_)
   refine lq (.int .i64 x39) S (q_move rfl) fun a S => ?_
   refine lq (.int .i64 x39) S (q_assign rfl) fun a S => ?_
   refine lx_nil (thenN ?_)
   refine wp_seq (region_plain ?_)
   refine lq (.int .i64 a1) S (q_move rfl) fun a S => ?_
   refine lq p0 S (q_move rfl) fun a S => ?_
   refine lq (.int .i64 x39) S (q_move rfl) fun a S => ?_
   obtain ⟨x57, e58, hm⟩ := bind_some hm
   obtain ⟨c59, h60, hat61⟩ := (h0).elem (idx_some e58).2
   obtain rfl := h60
   have hlt := lt_of_idx (idx_some e58).2
   refine lq (ePtr p0 (x39.toNat * 1)) S (q_indexAddr rfl (h0).isSl rfl (idx_some e58).1 hlt Try.underlying23 Try.sizeOf2) fun a S => ?_
   refine lx_e (.int .i64 x57) S trivial (by decide) rfl trivial (q_load1 rfl Try.isAgg2 (by rintro _ rfl; exact ((hat61 0 _ rfl).ext H.ext))) (fun a S => ?_)
   refine lq (.bool (a1 == x57)) S (q_eql rfl rfl) fun a S => ?_
   refine lx_nil (thenN ?_)
   refine cond_b S rfl (fun hc62 => ?_) (fun hc62 => ?_)
   ·have hm := ite_t hc62 hm
    refine wp_seq (region_plain ?_)
    refine lq (.int .i64 x39) S (q_move rfl) fun a S => ?_
    refine lq (.int .i64 x39) S (q_assign rfl) fun a S => ?_
    refine lx_nil (thenN ?_)
    refine wp_ret (inBlock_ret ?_)
    refine then_ret ?_
    refine then_ret ?_
    refine inBlock_ret ?_
    refine then_ret ?_
    refine then_ret ?_
    obtain rfl := it_brk hm hc55
    have hm := ctl_inr hk52
    obtain rfl := Option.some.inj hm
    exact leave1 S rfl rfl ⟨rfl, H⟩
   ·have hm := ite_f hc62 hm
    refine wp_skip ?_
    refine inBlock_norm ?_
    refine thenN ?_
    refine region_plain ?_
    refine lq (.int .i64 (W (x39 + (1 : Int)))) S (q_add rfl rfl) fun a S => ?_
    refine lq (.int .i64 (W (x39 + (1 : Int)))) S (q_move rfl) fun a S => ?_
    refine lx_nil ?_
    exact ⟨m53, Nat.lt_succ_self _, (W (x39 + (1 : Int))), S.sub ⟨rfl, rfl, rfl, rfl, trivial⟩, H, it_cont hm hc55⟩
  ·have hm := ite_f hc56 hm
   refine wp_exit ?_
   refine then_exit ?_
   refine then_exit ?_
   refine inBlock_exit ?_
   obtain rfl := it_brk hm hc55
   exact ⟨S.sub trivial, H, rfl⟩

/-- spec.l22Count -/
def spec_l22Count_m (fuel : Nat) (a0 : (List Timpl_Equation)) : Option (Int) :=
  (iter (fun (s : (Int) × (Int)) => (match s with | (x70, x71) => (if (decide (x71 < (a0.length : Int))) = true then join (κ := Int → Option (((Int) × (Int)) ⊕ ((Int) ⊕ (Int)))) (fun (x121 : Int) => some (.inl (x121, (W (x71 + (1 : Int)))))) (fun K122 => (idx a0 x71).bind fun x126 => (idx a0 (W (x71 - (1 : Int)))).bind fun x141 => (if (x126.1 != x141.1) = true then (K122 (W (x70 + (1 : Int)))) else (K122 x70))) else some (.inr (.inl (x70)))) : Option (((Int) × (Int)) ⊕ ((Int) ⊕ (Int))))) fuel ((1 : Int), (1 : Int))).bind fun res112 => ctl (β := Int) (ρ := Int) (τ := Int) res112 (fun (x111) => some (x111)) (fun q => some (q))
set_option maxRecDepth 20000 in
theorem spec_l22Count_ok {w0 : World} {fuel : Nat} {p0 : Value} {a0 : (List Timpl_Equation)} {r : Int} (h0 : Rd (rList Rimpl_Equation) w0 p0 a0) (hm : spec_l22Count_m fuel a0 = some r) :
  Calls Try.prog 103 #[p0] w0 fun e w => e = .returned (.int .i64 r) ∧ Heap w0 [] w := by
 unfold spec_l22Count_m at hm
 have H := Heap.start w0
 refine enter (args := [p0]) Try.func103 rfl 26 rfl (Nat.le_of_ble_eq_true rfl) (fun a S => ?_)
 refine wp_seq (region_plain ?_)
 refine lq (.int .i64 (0 : Int)) S (q_assign rfl) fun a S => ?_
 refine lx_nil (thenN ?_)
 refine wp_seq (region_plain ?_)
 refine lq (.int .i64 (1 : Int)) S (q_assign rfl) fun a S => ?_
 refine lx_nil (thenN ?_)
 refine wp_seq (wp_seq (region_plain ?_))
 refine lq (.int .i64 (1 : Int)) S (q_assign rfl) fun a S => ?_
 refine lx_nil (thenN ?_)
 obtain ⟨res112, hit113, hk116⟩ := bind_some hm
 obtain ⟨f114, hf115, hit113⟩ := iter_name hit113
 refine block_loop (fun a w => ∃ (x111 : Int), Slots a 26 [(3, (.int .i64 x111))] ∧ Heap w0 [] w ∧ res112 = .inl (x111)) ?_ ?_
 ·rintro a w ⟨x111, S, H, rfl⟩
  have hm := ctl_inl hk116
  refine thenN ?_
  refine wp_seq (region_plain ?_)
  refine lq (.int .i64 x111) S (q_move rfl) fun a S => ?_
  refine lq (.int .i64 x111) S (q_assign rfl) fun a S => ?_
  refine lx_nil (thenN ?_)
  refine wp_ret ?_
  obtain rfl := Option.some.inj hm
  exact leave1 S rfl rfl ⟨rfl, H⟩
 ·skip
  refine loop_ghost (fun n a w => ∃ (x70 : Int) (x71 : Int), Slots a 26 [(0, p0), (3, (.int .i64 x70)), (4, (.int .i64 x71))] ∧ Heap w0 [] w ∧ iter f114 n (x70, x71) = some res112) _ ⟨(1 : Int), (1 : Int), S.sub ⟨rfl, rfl, rfl, trivial⟩, H, hit113⟩ ?_
  rintro n a w ⟨x70, x71, S, H, hit113⟩
  obtain ⟨m117, o118, rfl, hm, hc119⟩ := iter_step hit113
  rw [hf115] at hm
  refine wp_seq (wp_seq (region_plain ?_))
  refine lq (.int .i64 x71) S (q_move rfl) fun a S => ?_
  refine lq p0 S (q_move rfl) fun a S => ?_
  refine lq (.int .i64 (a0.length : Int)) S (q_lenSl rfl (h0).isSl rfl Try.underlying36) fun a S => ?_
  refine lq (.bool (decide (x71 < (a0.length : Int)))) S (q_lss rfl rfl) fun a S => ?_
  refine lx_nil (thenN ?_)
  refine cond_b S rfl (fun hc120 => ?_) (fun hc120 => ?_)
  ·have hm := ite_t hc120 hm
   refine wp_skip (thenN ?_)
   obtain ⟨K122, hK123, hm⟩ := join_elim hm
   refine seq_cut (fun a w => ∃ (x121 : Int), Slots a 26 [(0, p0), (3, (.int .i64 x121)), (4, (.int .i64 x71))] ∧ Heap w0 [] w ∧ K122 x121 = some o118) ?_ ?_
   ·rintro a w ⟨x121, S, H, hm⟩
    subst hK123
    refine region_plain ?_
    refine lq (.int .i64 x71) S (q_move rfl) fun a S => ?_
    refine lq (.int .i64 (W (x71 + (1 : Int)))) S (q_add rfl rfl) fun a S => ?_
    refine lq (.int .i64 (W (x71 + (1 : Int)))) S (q_assign rfl) fun a S => ?_
    refine lx_nil ?_
    exact ⟨m117, Nat.lt_succ_self _, x121, (W (x71 + (1 : Int))), S.sub ⟨rfl, rfl, rfl, trivial⟩, H, it_cont hm hc119⟩
   ·skip
    refine wp_block ?_
    refine wp_seq ?_
    refine region_drawG (fun w1 => Heap w0 [] w1) (fun i => [].contains i) mixed (by kernel_rfl) (fun w125 he124 => ?_)
    have H := H.later he124
    refine ⟨H.sel [] (by decide), ?_⟩
    refine lq p0 S (q_move rfl) fun a S => ?_
    refine lq (.int .i64 x71) S (q_move rfl) fun a S => ?_
    obtain ⟨x126, e127, hm⟩ := bind_some hm
    obtain ⟨c128, h129, hat130⟩ := (h0).elem (idx_some e127).2
    obtain ⟨c133, c134, rfl, h135, h136⟩ := h129
    obtain rfl := h135
    obtain ⟨c137, c138, rfl, h139, h140⟩ := h136
    obtain rfl := h139
    obtain ⟨v131, rfl, h132⟩ := rd_list h140
    have hlt := lt_of_idx (idx_some e127).2
    refine lq (ePtr p0 (x71.toNat * 3)) S (q_indexAddr rfl (h0).isSl rfl (idx_some e127).1 hlt Try.underlying36 Try.sizeOf85) fun a S => ?_
    refine lq (pAdd (ePtr p0 (x71.toNat * 3)) 0) S (q_fieldAddr' 0 4 rfl ((hat130 0 _ rfl).isP) Try.underlying85 rfl Try.sizeOf4) fun a S => ?_
    refine lq (.bool x126.1) S (q_load1 rfl Try.isAgg4 (fun w1 hC => (At.of_add (m := 0) (j := 0) ((hat130 0 _ rfl).ext hC.ext)))) fun a S => ?_
    refine lq p0 S (q_move rfl) fun a S => ?_
    refine lq (.int .i64 x71) S (q_move rfl) fun a S => ?_
    refine lq (.int .i64 (W (x71 - (1 : Int)))) S (q_sub rfl rfl) fun a S => ?_
    obtain ⟨x141, e142, hm⟩ := bind_some hm
    obtain ⟨c143, h144, hat145⟩ := (h0).elem (idx_some e142).2
    obtain ⟨c148, c149, rfl, h150, h151⟩ := h144
    obtain rfl := h150
    obtain ⟨c152, c153, rfl, h154, h155⟩ := h151
    obtain rfl := h154
    obtain ⟨v146, rfl, h147⟩ := rd_list h155
    have hlt := lt_of_idx (idx_some e142).2
    refine lq (ePtr p0 ((W (x71 - (1 : Int))).toNat * 3)) S (q_indexAddr rfl (h0).isSl rfl (idx_some e142).1 hlt Try.underlying36 Try.sizeOf85) fun a S => ?_
    refine lq (pAdd (ePtr p0 ((W (x71 - (1 : Int))).toNat * 3)) 0) S (q_fieldAddr' 0 4 rfl ((hat145 0 _ rfl).isP) Try.underlying85 rfl Try.sizeOf4) fun a S => ?_
    refine lq (.bool x141.1) S (q_load1 rfl Try.isAgg4 (fun w1 hC => (At.of_add (m := 0) (j := 0) ((hat145 0 _ rfl).ext hC.ext)))) fun a S => ?_
    refine lq (.bool (x126.1 != x141.1)) S (q_bneq rfl rfl Try.underlying4) fun a S => ?_
    refine lx_nil (thenN ?_)
    refine cond_b S rfl (fun hc156 => ?_) (fun hc156 => ?_)
    ·have hm := ite_t hc156 hm
     refine region_plain ?_
     refine lq (.int .i64 x70) S (q_move rfl) fun a S => ?_
     refine lq (.int .i64 (W (x70 + (1 : Int)))) S (q_add rfl rfl) fun a S => ?_
     refine lq (.int .i64 (W (x70 + (1 : Int)))) S (q_assign rfl) fun a S => ?_
     refine lx_nil ?_
     refine inBlock_norm ?_
     exact ⟨(W (x70 + (1 : Int))), S.sub ⟨rfl, rfl, rfl, trivial⟩, H, hm⟩
    ·have hm := ite_f hc156 hm
     refine wp_skip ?_
     refine inBlock_norm ?_
     exact ⟨x70, S.sub ⟨rfl, rfl, rfl, trivial⟩, H, hm⟩
  ·have hm := ite_f hc120 hm
   refine wp_exit ?_
   refine then_exit ?_
   refine then_exit ?_
   refine inBlock_exit ?_
   obtain rfl := it_brk hm hc119
   exact ⟨x70, S.sub ⟨rfl, trivial⟩, H, rfl⟩

/-- impl.equationBlocks -/
def impl_equationBlocks_m (fuel : Nat) (a0 : (List Timpl_Equation)) : Option ((List Int)) :=
  (iter (fun (s : (List Int) × (Int) × (Int)) => (match s with | (xs90, x92, x93) => (if (decide (x93 < (a0.length : Int))) = true then (idx a0 x93).bind fun x164 => join (κ := Int → Option (((List Int) × (Int) × (Int)) ⊕ (((List Int)) ⊕ ((List Int))))) (fun (x183 : Int) => (app xs90 [x183]).bind fun x189 => some (.inl (x189, x183, (W (x93 + (1 : Int)))))) (fun K184 => (if (decide ((0 : Int) < x93)) = true then (idx a0 (W (x93 - (1 : Int)))).bind fun x199 => some (x164.1 != x199.1) else some false).bind fun t196 => (if t196 = true then (K184 (W (x92 + (1 : Int)))) else (K184 x92))) else some (.inr (.inl (xs90)))) : Option (((List Int) × (Int) × (Int)) ⊕ (((List Int)) ⊕ ((List Int)))))) fuel ([], (0 : Int), (0 : Int))).bind fun res154 => ctl (β := (List Int)) (ρ := (List Int)) (τ := (List Int)) res154 (fun (xs152) => some (xs152)) (fun q => some (q))
set_option maxRecDepth 20000 in
theorem impl_equationBlocks_ok {w0 : World} {fuel : Nat} {p0 : Value} {a0 : (List Timpl_Equation)} {r : (List Int)} (h0 : Rd (rList Rimpl_Equation) w0 p0 a0) (hm : impl_equationBlocks_m fuel a0 = some r) :
  Calls Try.prog 122 #[p0] w0 fun e w => ∃ (v0 : Value), e = .returned (v0) ∧ Heap w0 [oA (rList (rInt .i64)) v0 r] w := by
 unfold impl_equationBlocks_m at hm
 have H := Heap.start w0
 refine enter (args := [p0]) Try.func122 rfl 35 rfl (Nat.le_of_ble_eq_true rfl) (fun a S => ?_)
 refine wp_seq (region_plain ?_)
 refine lq (.slice none 0 0) S (q_assign rfl) fun a S => ?_
 refine lx_nil (thenN ?_)
 refine wp_seq (region_plain ?_)
 refine lq (.slice none 0 0) S (q_assign rfl) fun a S => ?_
 refine lx_nil (thenN ?_)
 refine wp_seq (region_plain ?_)
 refine lq (.int .i64 (0 : Int)) S (q_assign rfl) fun a S => ?_
 refine lx_nil (thenN ?_)
 refine wp_seq (wp_seq (region_plain ?_))
 refine lq p0 S (q_move rfl) fun a S => ?_
 refine lq (.int .i64 (a0.length : Int)) S (q_lenSl rfl (h0).isSl rfl Try.underlying36) fun a S => ?_
 refine lq (.int .i64 (0 : Int)) S (q_move rfl) fun a S => ?_
 refine lx_nil (thenN ?_)
 obtain ⟨res154, hit155, hk158⟩ := bind_some hm
 obtain ⟨f156, hf157, hit155⟩ := iter_name hit155
 refine block_loop (fun a w => ∃ (xs152 : List Int) (v151 : Value), Slots a 35 [(3, v151)] ∧ Heap w0 [oA (rList (rInt .i64)) v151 xs152] w ∧ res154 = .inl (xs152)) ?_ ?_
 ·rintro a w ⟨xs152, v151, S, H, rfl⟩
  have hm := ctl_inl hk158
  refine thenN ?_
  refine wp_seq (region_plain ?_)
  refine lq v151 S (q_move rfl) fun a S => ?_
  refine lq v151 S (q_assign rfl) fun a S => ?_
  refine lx_nil (thenN ?_)
  refine wp_ret ?_
  obtain rfl := Option.some.inj hm
  exact leave1 S rfl rfl ⟨v151, rfl, H⟩
 ·skip
  have H : Heap w0 [oA (rList (rInt .i64)) (.slice none 0 0) ([] : List Int)] w0 := H.nilList (rInt .i64)
  refine loop_ghost (fun n a w => ∃ (xs90 : List Int) (x92 : Int) (x93 : Int) (v89 : Value), Slots a 35 [(0, p0), (3, v89), (4, (.int .i64 x92)), (7, p0), (8, (.int .i64 (a0.length : Int))), (9, (.int .i64 x93))] ∧ Heap w0 [oA (rList (rInt .i64)) v89 xs90] w ∧ iter f156 n (xs90, x92, x93) = some res154) _ ⟨[], (0 : Int), (0 : Int), (.slice none 0 0), S.sub ⟨rfl, rfl, rfl, rfl, rfl, rfl, trivial⟩, H, hit155⟩ ?_
  rintro n a w ⟨xs90, x92, x93, v89, S, H, hit155⟩
  obtain ⟨m160, o161, rfl, hm, hc162⟩ := iter_step hit155
  rw [hf157] at hm
  refine wp_seq (region_plain ?_)
  refine lq (.bool (decide (x93 < (a0.length : Int)))) S (q_lss rfl rfl) fun a S => ?_
  refine lx_nil (thenN ?_)
  refine wp_seq ?_
  refine cond_b S rfl (fun hc163 => ?_) (fun hc163 => ?_)
  ·have hm := ite_t hc163 hm
   refine wp_skip (thenN ?_)
   refine wp_seq ?_
   refine wp_block ?_
   refine wp_seq (region_plain ?_)
   refine lq (.int .i64 x93) S (q_move rfl) fun a S => ?_
   obtain ⟨x164, e165, hm⟩ := bind_some hm
   obtain ⟨c166, h167, hat168⟩ := (h0).elem (idx_some e165).2
   obtain ⟨c171, c172, rfl, h173, h174⟩ := h167
   obtain rfl := h173
   obtain ⟨c175, c176, rfl, h177, h178⟩ := h174
   obtain rfl := h177
   obtain ⟨v169, rfl, h170⟩ := rd_list h178
   have hlt := lt_of_idx (idx_some e165).2
   refine lq (ePtr p0 (x93.toNat * 3)) S (q_indexAddr rfl (h0).isSl rfl (idx_some e165).1 hlt Try.underlying36 Try.sizeOf85) fun a S => ?_
   refine lx_e (.agg #[(.bool x164.1), (.bool x164.2.1), v169]) S trivial (by decide) rfl trivial (q_loadA (cs := [(.bool x164.1), (.bool x164.2.1), v169]) rfl ((hat168 0 _ rfl).isP) Try.isAgg85 Try.sizeOf85 (by rintro _ rfl; exact (fun j u hu => (hat168 j u hu).ext H.ext))) (fun a S => ?_)
   refine lx_alloc S trivial (by decide) rfl H Try.zeroValue85 rfl (fun b179 w180 H => ⟨trivial, fun a S => ?_⟩)
   refine lq (.int .i64 x93) S (q_assign rfl) fun a S => ?_
   refine lx_storeBox (o := 0) (i := 0) (us := [(.bool x164.1), (.bool x164.2.1), v169]) (cs' := [(.bool x164.1), (.bool x164.2.1), v169]) S trivial rfl H rfl rfl rfl rfl Try.sizeOf85 (Nat.le_of_ble_eq_true rfl) (List.forall_mem_cons.2 ⟨rfl, (List.forall_mem_cons.2 ⟨rfl, (List.forall_mem_cons.2 ⟨one_sl (h170).isSl, (fun _ h => nomatch h)⟩)⟩)⟩) rfl (fun w182 H => ⟨trivial, fun a S => ?_⟩)
   change Heap w0 [bA b179 [(.bool x164.1), (.bool x164.2.1), v169] 85, oA (rList (rInt .i64)) v89 xs90] w182 at H
   refine lx_nil (thenN ?_)
   obtain ⟨K184, hK185, hm⟩ := join_elim hm
   refine seq_cut (fun a w => ∃ (x183 : Int), Slots a 35 [(0, p0), (3, v89), (4, (.int .i64 x183)), (7, p0), (8, (.int .i64 (a0.length : Int))), (9, (.int .i64 x93))] ∧ Heap w0 [oA (rList (rInt .i64)) v89 xs90] w ∧ K184 x183 = some o161) ?_ ?_
   ·rintro a w ⟨x183, S, H, hm⟩
    subst hK185
    refine region_plain ?_
    refine lq v89 S (q_move rfl) fun a S => ?_
    refine lq (.int .i64 x183) S (q_move rfl) fun a S => ?_
    refine lx_buildSlice (r := (rInt .i64)) (xs := [x183]) (ps := [(0, [(.int .i64 x183)])]) (cs := [(.int .i64 x183)]) (parts := [(0, .tmp 30)]) S trivial (by decide) rfl (H.put0 (A := eA) rfl) rfl Try.underlying23 Try.sizeOf2 Try.zeroValue2 (by decide) ⟨rfl, rfl, Nat.le_of_ble_eq_true rfl, trivial⟩ (by intro zs hz; exact fill_dense hz ⟨rfl, trivial⟩ rfl rfl) rfl (by decide) (fun w F hA => by cases (show F = [] from hA); exact ⟨_, _, [(.int .i64 x183)], _, rfl, rfl, ⟨rfl, rfl⟩, ⟨rfl, rfl⟩⟩) (fun v186 w187 H => ⟨trivial, fun a S => ?_⟩)
    obtain ⟨x189, e190, hm⟩ := bind_some hm
    obtain ⟨hle, hap⟩ := app_some e190
    replace hap := hap.symm
    subst hap
    have H : Heap w0 [oA (rList (rInt .i64)) v186 [x183], oA (rList (rInt .i64)) v89 xs90] w187 := H.front 0 rfl
    have H : Heap w0 [oA (rList (rInt .i64)) v89 xs90, oA (rList (rInt .i64)) v186 [x183]] w187 := H.front 1 rfl
    refine lx_appendOwn (r := (rInt .i64)) S trivial (by decide) rfl H rfl rfl Try.underlying23 Try.ti2 rfl rfl rfl (Nat.le_of_ble_eq_true rfl) (by decide) hle (fun v191 w192 H => ⟨trivial, fun a S => ?_⟩)
    refine lq v191 S (q_assign rfl) fun a S => ?_
    refine lx_nil ?_
    refine inBlock_norm ?_
    refine thenN ?_
    refine region_plain ?_
    refine lq (.int .i64 (W (x93 + (1 : Int)))) S (q_add rfl rfl) fun a S => ?_
    refine lq (.int .i64 (W (x93 + (1 : Int)))) S (q_move rfl) fun a S => ?_
    refine lx_nil ?_
    exact ⟨m160, Nat.lt_succ_self _, (xs90 ++ [x183]), x183, (W (x93 + (1 : Int))), v191, S.sub ⟨rfl, rfl, rfl, rfl, rfl, rfl, trivial⟩, H, it_cont hm hc162⟩
   ·skip
    refine wp_seq ?_
    refine region_drawG (fun w1 => Heap w0 [bA b179 [(.bool x164.1), (.bool x164.2.1), v169] 85] w1) (fun i => [].contains i) mixed (by kernel_rfl) (fun w195 he194 => ?_)
    have H := H.later he194
    refine ⟨H.sel [0] (by decide), ?_⟩
    refine lq (.int .i64 x93) S (q_move rfl) fun a S => ?_
    refine lq (.bool (decide ((0 : Int) < x93))) S (q_gtr rfl rfl) fun a S => ?_
    refine lq (.bool (decide ((0 : Int) < x93))) S (q_move rfl) fun a S => ?_
    obtain ⟨t196, e197, hm⟩ := bind_some hm
    refine lx_cut 10 (fun a w => Slots a 35 [(0, p0), (3, v89), (4, (.int .i64 x92)), (7, p0), (8, (.int .i64 (a0.length : Int))), (9, (.int .i64 x93)), (26, (.bool t196))] ∧ Heap w0 [oA (rList (rInt .i64)) v89 xs90] w) ?_ ?_
    ·by_cases hc198 : (decide ((0 : Int) < x93)) = true
     ·have hm := ite_t hc198 e197
      refine lx_q (pAdd (bp b179) 0) S (want_b rfl rfl hc198) (by decide) (q_fieldAddr' 0 4 rfl (isP_bp _) Try.underlying85 rfl Try.sizeOf4) (fun a S => ?_)
      refine lx_q (.bool x164.1) S (want_b rfl rfl hc198) (by decide) (q_load1 rfl Try.isAgg4 (fun w1 hC => (At.of_add (m := 0) (j := 0) (boxAt (i := 0) hC rfl (j := 0) rfl)))) (fun a S => ?_)
      refine lx_q p0 S (want_b rfl rfl hc198) (by decide) (q_move rfl) (fun a S => ?_)
      refine lx_q (.int .i64 x93) S (want_b rfl rfl hc198) (by decide) (q_move rfl) (fun a S => ?_)
      refine lx_q (.int .i64 (W (x93 - (1 : Int)))) S (want_b rfl rfl hc198) (by decide) (q_sub rfl rfl) (fun a S => ?_)
      obtain ⟨x199, e200, hm⟩ := bind_some hm
      obtain ⟨c201, h202, hat203⟩ := (h0).elem (idx_some e200).2
      obtain ⟨c206, c207, rfl, h208, h209⟩ := h202
      obtain rfl := h208
      obtain ⟨c210, c211, rfl, h212, h213⟩ := h209
      obtain rfl := h212
      obtain ⟨v204, rfl, h205⟩ := rd_list h213
      have hlt := lt_of_idx (idx_some e200).2
      refine lx_q (ePtr p0 ((W (x93 - (1 : Int))).toNat * 3)) S (want_b rfl rfl hc198) (by decide) (q_indexAddr rfl (h0).isSl rfl (idx_some e200).1 hlt Try.underlying36 Try.sizeOf85) (fun a S => ?_)
      refine lx_q (pAdd (ePtr p0 ((W (x93 - (1 : Int))).toNat * 3)) 0) S (want_b rfl rfl hc198) (by decide) (q_fieldAddr' 0 4 rfl ((hat203 0 _ rfl).isP) Try.underlying85 rfl Try.sizeOf4) (fun a S => ?_)
      refine lx_q (.bool x199.1) S (want_b rfl rfl hc198) (by decide) (q_load1 rfl Try.isAgg4 (fun w1 hC => (At.of_add (m := 0) (j := 0) ((hat203 0 _ rfl).ext hC.ext)))) (fun a S => ?_)
      refine lx_q (.bool (x164.1 != x199.1)) S (want_b rfl rfl hc198) (by decide) (q_bneq rfl rfl Try.underlying4) (fun a S => ?_)
      refine lq (.bool (x164.1 != x199.1)) S (q_pickT' rfl hc198 rfl) fun a S => ?_
      refine lx_nil ?_
      obtain rfl := Option.some.inj hm
      have H := H.sel [1] (by decide)
      exact ⟨S.sub ⟨rfl, rfl, rfl, rfl, rfl, rfl, rfl, trivial⟩, H⟩
     ·have hm := ite_f (eq_false_of_ne_true hc198) e197
      have hc198 : (decide ((0 : Int) < x93)) = false := eq_false_of_ne_true hc198
      refine lx_skip S rfl rfl (isB_ne hc198) (by decide) (fun a S => ?_)
      refine lx_skip S rfl rfl (isB_ne hc198) (by decide) (fun a S => ?_)
      refine lx_skip S rfl rfl (isB_ne hc198) (by decide) (fun a S => ?_)
      refine lx_skip S rfl rfl (isB_ne hc198) (by decide) (fun a S => ?_)
      refine lx_skip S rfl rfl (isB_ne hc198) (by decide) (fun a S => ?_)
      refine lx_skip S rfl rfl (isB_ne hc198) (by decide) (fun a S => ?_)
      refine lx_skip S rfl rfl (isB_ne hc198) (by decide) (fun a S => ?_)
      refine lx_skip S rfl rfl (isB_ne hc198) (by decide) (fun a S => ?_)
      refine lx_skip S rfl rfl (isB_ne hc198) (by decide) (fun a S => ?_)
      refine lq (.bool false) S (q_pickF' rfl hc198 rfl) fun a S => ?_
      refine lx_nil ?_
      obtain rfl := Option.some.inj hm
      have H := H.sel [1] (by decide)
      exact ⟨S.sub ⟨rfl, rfl, rfl, rfl, rfl, rfl, rfl, trivial⟩, H⟩
    ·rintro a w ⟨S, H⟩
     refine lx_nil (thenN ?_)
     refine cond_b S rfl (fun hc214 => ?_) (fun hc214 => ?_)
     ·have hm := ite_t hc214 hm
      refine region_plain ?_
      refine lq (.int .i64 x92) S (q_move rfl) fun a S => ?_
      refine lq (.int .i64 (W (x92 + (1 : Int)))) S (q_add rfl rfl) fun a S => ?_
      refine lq (.int .i64 (W (x92 + (1 : Int)))) S (q_assign rfl) fun a S => ?_
      refine lx_nil ?_
      exact ⟨(W (x92 + (1 : Int))), S.sub ⟨rfl, rfl, rfl, rfl, rfl, rfl, trivial⟩, H, hm⟩
     ·have hm := ite_f hc214 hm
      refine wp_skip ?_
      exact ⟨x92, S.sub ⟨rfl, rfl, rfl, rfl, rfl, rfl, trivial⟩, H, hm⟩
  ·have hm := ite_f hc163 hm
   refine wp_exit ?_
   refine then_exit ?_
   refine then_exit ?_
   refine inBlock_exit ?_
   obtain rfl := it_brk hm hc162
   exact ⟨xs90, v89, S.sub ⟨rfl, trivial⟩, H, rfl⟩

/-- impl.last[int64] -/
def impl_last_int64_m (_ : Nat) (a0 : (List Int)) : Option (Int) :=
  (idx a0 (W ((a0.length : Int) - (1 : Int)))).bind fun x31 => some (x31)
set_option maxRecDepth 20000 in
theorem impl_last_int64_ok {w0 : World} {fuel : Nat} {p0 : Value} {a0 : (List Int)} {r : Int} (h0 : Rd (rList (rInt .i64)) w0 p0 a0) (hm : impl_last_int64_m fuel a0 = some r) :
  Calls Try.prog 139 #[p0] w0 fun e w => e = .returned (.int .i64 r) ∧ Heap w0 [] w := by
 unfold impl_last_int64_m at hm
 have H := Heap.start w0
 refine enter (args := [p0]) Try.func139 rfl 9 rfl (Nat.le_of_ble_eq_true rfl) (fun a S => ?_)
 refine wp_seq (region_plain ?_)
 refine lq (.int .i64 (0 : Int)) S (q_assign rfl) fun a S => ?_
 refine lx_nil (thenN ?_)
 refine wp_seq (region_plain ?_)
 refine lq p0 S (q_move rfl) fun a S => ?_
 refine lq p0 S (q_move rfl) fun a S => ?_
 refine lq (.int .i64 (a0.length : Int)) S (q_lenSl rfl (h0).isSl rfl Try.underlying23) fun a S => ?_
 refine lq (.int .i64 (W ((a0.length : Int) - (1 : Int)))) S (q_sub rfl rfl) fun a S => ?_
 obtain ⟨x31, e32, hm⟩ := bind_some hm
 obtain ⟨c33, h34, hat35⟩ := (h0).elem (idx_some e32).2
 obtain rfl := h34
 have hlt := lt_of_idx (idx_some e32).2
 refine lq (ePtr p0 ((W ((a0.length : Int) - (1 : Int))).toNat * 1)) S (q_indexAddr rfl (h0).isSl rfl (idx_some e32).1 hlt Try.underlying23 Try.sizeOf2) fun a S => ?_
 refine lx_e (.int .i64 x31) S trivial (by decide) rfl trivial (q_load1 rfl Try.isAgg2 (by rintro _ rfl; exact ((hat35 0 _ rfl).ext H.ext))) (fun a S => ?_)
 refine lq (.int .i64 x31) S (q_assign rfl) fun a S => ?_
 refine lx_nil (thenN ?_)
 refine wp_ret ?_
 obtain rfl := Option.some.inj hm
 exact leave1 S rfl rfl ⟨rfl, H⟩

/-- impl.blocksFit -/
def impl_blocksFit_m (fuel : Nat) (a0 : (List Timpl_Equation)) : Option (Bool) :=
  (impl_equationBlocks_m fuel a0).bind fun x33 => (impl_last_int64_m fuel x33).bind fun x40 => some ((decide (x40 < (9 : Int))))
set_option maxRecDepth 20000 in
theorem impl_blocksFit_ok {w0 : World} {fuel : Nat} {p0 : Value} {a0 : (List Timpl_Equation)} {r : Bool} (h0 : Rd (rList Rimpl_Equation) w0 p0 a0) (hm : impl_blocksFit_m fuel a0 = some r) :
  Calls Try.prog 109 #[p0] w0 fun e w => e = .returned (.bool r) ∧ Heap w0 [] w := by
 unfold impl_blocksFit_m at hm
 have H := Heap.start w0
 refine enter (args := [p0]) Try.func109 rfl 7 rfl (Nat.le_of_ble_eq_true rfl) (fun a S => ?_)
 refine wp_seq (region_plain ?_)
 refine lq (.bool false) S (q_assign rfl) fun a S => ?_
 refine lx_nil (thenN ?_)
 refine wp_seq (region_plain ?_)
 refine lq p0 S (q_move rfl) fun a S => ?_
 obtain ⟨x33, e34, hm⟩ := bind_some hm
 refine lx_call (xs := [.tmp 3]) S trivial (by decide) rfl rfl Try.call122 ((impl_equationBlocks_ok (H.arg h0) e34).mono ?_)
 rintro e w31 ⟨v35, rfl, Hc32⟩
 have H := H.call1 Hc32
 refine ⟨_, rfl, trivial, fun a S => ?_⟩
 obtain ⟨x40, e41, hm⟩ := bind_some hm
 refine lx_call (xs := [.tmp 4]) S trivial (by decide) rfl rfl Try.call139 ((impl_last_int64_ok (H.rdAt 0 rfl) e41).mono ?_)
 rintro e w38 ⟨rfl, Hc39⟩
 have H := H.call0 Hc39
 refine ⟨_, rfl, trivial, fun a S => ?_⟩
 refine lq (.bool (decide (x40 < (9 : Int)))) S (q_lss rfl rfl) fun a S => ?_
 refine lq (.bool (decide (x40 < (9 : Int)))) S (q_assign rfl) fun a S => ?_
 refine lx_nil (thenN ?_)
 refine wp_ret ?_
 obtain rfl := Option.some.inj hm
 have H : Heap w0 [] w38 := H.sel [] (by decide)
 exact leave1 S rfl rfl ⟨rfl, H⟩

/-- laws.eqEquation -/
def laws_eqEquation_m (fuel : Nat) (a0 : Timpl_Equation) (a1 : Timpl_Equation) : Option (Bool) :=
  (if (a0.1 != a1.1) = true then some (false) else (if (a0.2.1 != a1.2.1) = true then some (false) else (laws_eqInt64S_m fuel a0.2.2 a1.2.2).bind fun x65 => (if (!x65) = true then some (false) else some (true))))
set_option maxRecDepth 20000 in
theorem laws_eqEquation_ok {w0 : World} {fuel : Nat} {p0 p1 : Value} {a0 : Timpl_Equation} {a1 : Timpl_Equation} {r : Bool} (h0 : Rd Rimpl_Equation w0 p0 a0) (h1 : Rd Rimpl_Equation w0 p1 a1) (hm : laws_eqEquation_m fuel a0 a1 = some r) :
  Calls Try.prog 73 #[p0, p1] w0 fun e w => e = .returned (.bool r) ∧ Heap w0 [] w := by
 unfold laws_eqEquation_m at hm
 have H := Heap.start w0
 obtain ⟨c31, rfl, h32⟩ := h0
 obtain ⟨c35, c36, rfl, h37, h38⟩ := h32
 obtain rfl := h37
 obtain ⟨c39, c40, rfl, h41, h42⟩ := h38
 obtain rfl := h41
 obtain ⟨v33, rfl, h34⟩ := rd_list h42
 obtain ⟨c43, rfl, h44⟩ := h1
 obtain ⟨c47, c48, rfl, h49, h50⟩ := h44
 obtain rfl := h49
 obtain ⟨c51, c52, rfl, h53, h54⟩ := h50
 obtain rfl := h53
 obtain ⟨v45, rfl, h46⟩ := rd_list h54
 refine enter (args := [(.agg #[(.bool a0.1), (.bool a0.2.1), v33]), (.agg #[(.bool a1.1), (.bool a1.2.1), v45])]) Try.func73 rfl 21 rfl (Nat.le_of_ble_eq_true rfl) (fun a S => ?_)
 refine wp_seq (region_plain ?_)
 refine lx_box S trivial (by decide) rfl H rfl rfl (fun b55 w56 H => ⟨trivial, fun a S => ?_⟩)
 refine lx_box S trivial (by decide) rfl H rfl rfl (fun b58 w59 H => ⟨trivial, fun a S => ?_⟩)
 refine lq (.bool false) S (q_assign rfl) fun a S => ?_
 refine lx_nil (thenN ?_)
 refine wp_seq (wp_seq (region_plain ?_))
 refine lq (pAdd (bp b55) 0) S (q_fieldAddr' 0 4 rfl (isP_bp _) Try.underlying85 rfl Try.sizeOf4) fun a S => ?_
 refine lx_e (.bool a0.1) S trivial (by decide) rfl trivial (q_load1 rfl Try.isAgg4 (by rintro _ rfl; exact (At.of_add (m := 0) (j := 0) (boxAt (i := 1) H rfl (j := 0) rfl)))) (fun a S => ?_)
 refine lq (pAdd (bp b58) 0) S (q_fieldAddr' 0 4 rfl (isP_bp _) Try.underlying85 rfl Try.sizeOf4) fun a S => ?_
 refine lx_e (.bool a1.1) S trivial (by decide) rfl trivial (q_load1 rfl Try.isAgg4 (by rintro _ rfl; exact (At.of_add (m := 0) (j := 0) (boxAt (i := 0) H rfl (j := 0) rfl)))) (fun a S => ?_)
 refine lq (.bool (a0.1 != a1.1)) S (q_bneq rfl rfl Try.underlying4) fun a S => ?_
 refine lx_nil (thenN ?_)
 refine cond_b S rfl (fun hc61 => ?_) (fun hc61 => ?_)
 ·have hm := ite_t hc61 hm
  refine wp_seq (region_plain ?_)
  refine lq (.bool false) S (q_assign rfl) fun a S => ?_
  refine lx_nil (thenN ?_)
  refine wp_ret (then_ret ?_)
  obtain rfl := Option.some.inj hm
  have H : Heap w0 [] w59 := H.sel [] (by decide)
  exact leave1 S rfl rfl ⟨rfl, H⟩
 ·have hm := ite_f hc61 hm
  refine wp_skip (thenN ?_)
  refine wp_seq (wp_seq (region_plain ?_))
  refine lq (pAdd (bp b55) 1) S (q_fieldAddr' 1 4 rfl (isP_bp _) Try.underlying85 rfl Try.sizeOf4) fun a S => ?_
  refine lx_e (.bool a0.2.1) S trivial (by decide) rfl trivial (q_load1 rfl Try.isAgg4 (by rintro _ rfl; exact (At.of_add (m := 1) (j := 0) (boxAt (i := 1) H rfl (j := 1) rfl)))) (fun a S => ?_)
  refine lq (pAdd (bp b58) 1) S (q_fieldAddr' 1 4 rfl (isP_bp _) Try.underlying85 rfl Try.sizeOf4) fun a S => ?_
  refine lx_e (.bool a1.2.1) S trivial (by decide) rfl trivial (q_load1 rfl Try.isAgg4 (by rintro _ rfl; exact (At.of_add (m := 1) (j := 0) (boxAt (i := 0) H rfl (j := 1) rfl)))) (fun a S => ?_)
  refine lq (.bool (a0.2.1 != a1.2.1)) S (q_bneq rfl rfl Try.underlying4) fun a S => ?_
  refine lx_nil (thenN ?_)
  refine cond_b S rfl (fun hc62 => ?_) (fun hc62 => ?_)
  ·have hm := ite_t hc62 hm
   refine wp_seq (region_plain ?_)
   refine lq (.bool false) S (q_assign rfl) fun a S => ?_
   refine lx_nil (thenN ?_)
   refine wp_ret (then_ret ?_)
   obtain rfl := Option.some.inj hm
   have H : Heap w0 [] w59 := H.sel [] (by decide)
   exact leave1 S rfl rfl ⟨rfl, H⟩
  ·have hm := ite_f hc62 hm
   refine wp_skip (thenN ?_)
   refine wp_seq (wp_seq (region_plain ?_))
   refine lq (pAdd (bp b55) 2) S (q_fieldAddr' 2 23 rfl (isP_bp _) Try.underlying85 rfl Try.sizeOf23) fun a S => ?_
   refine lx_e v33 S trivial (by decide) rfl trivial (q_load1 rfl Try.isAgg23 (by rintro _ rfl; exact (At.of_add (m := 2) (j := 0) (boxAt (i := 1) H rfl (j := 2) rfl)))) (fun a S => ?_)
   refine lq (pAdd (bp b58) 2) S (q_fieldAddr' 2 23 rfl (isP_bp _) Try.underlying85 rfl Try.sizeOf23) fun a S => ?_
   refine lx_e v45 S trivial (by decide) rfl trivial (q_load1 rfl Try.isAgg23 (by rintro _ rfl; exact (At.of_add (m := 2) (j := 0) (boxAt (i := 0) H rfl (j := 2) rfl)))) (fun a S => ?_)
   obtain ⟨x65, e66, hm⟩ := bind_some hm
   refine lx_call (xs := [.tmp 16, .tmp 18]) S trivial (by decide) rfl rfl Try.call19 ((laws_eqInt64S_ok (H.arg h34) (H.arg h46) e66).mono ?_)
   rintro e w63 ⟨rfl, Hc64⟩
   have H := H.call0 Hc64
   refine ⟨_, rfl, trivial, fun a S => ?_⟩
   refine lq (.bool (!x65)) S (q_not rfl) fun a S => ?_
   refine lx_nil (thenN ?_)
   refine cond_b S rfl (fun hc68 => ?_) (fun hc68 => ?_)
   ·have hm := ite_t hc68 hm
    refine wp_seq (region_plain ?_)
    refine lq (.bool false) S (q_assign rfl) fun a S => ?_
    refine lx_nil (thenN ?_)
    refine wp_ret (then_ret ?_)
    obtain rfl := Option.some.inj hm
    have H : Heap w0 [] w63 := H.sel [] (by decide)
    exact leave1 S rfl rfl ⟨rfl, H⟩
   ·have hm := ite_f hc68 hm
    refine wp_skip (thenN ?_)
    refine wp_seq (region_plain ?_)
    refine lq (.bool true) S (q_assign rfl) fun a S => ?_
    refine lx_nil (thenN ?_)
    refine wp_ret ?_
    obtain rfl := Option.some.inj hm
    have H : Heap w0 [] w63 := H.sel [] (by decide)
    exact leave1 S rfl rfl ⟨rfl, H⟩

/-- laws.eqEquationS -/
def laws_eqEquationS_m (fuel : Nat) (a0 : (List Timpl_Equation)) (a1 : (List Timpl_Equation)) : Option (Bool) :=
  (if ((a0.length : Int) != (a1.length : Int)) = true then some (false) else (iter (fun (s : (Int)) => (match s with | (x72) => (if (decide (x72 < (a0.length : Int))) = true then (idx a0 x72).bind fun x124 => (idx a1 x72).bind fun x139 => (laws_eqEquation_m fuel (x124.1, x124.2.1, x124.2.2) (x139.1, x139.2.1, x139.2.2)).bind fun x156 => (if (!x156) = true then some (.inr (.inr false)) else some (.inl ((W (x72 + (1 : Int)))))) else some (.inr (.inl ()))) : Option (((Int)) ⊕ ((Unit) ⊕ (Bool))))) fuel ((0 : Int))).bind fun res113 => ctl (β := Unit) (ρ := Bool) (τ := Bool) res113 (fun _ => some (true)) (fun q => some (q)))
set_option maxRecDepth 20000 in
theorem laws_eqEquationS_ok {w0 : World} {fuel : Nat} {p0 p1 : Value} {a0 : (List Timpl_Equation)} {a1 : (List Timpl_Equation)} {r : Bool} (h0 : Rd (rList Rimpl_Equation) w0 p0 a0) (h1 : Rd (rList Rimpl_Equation) w0 p1 a1) (hm : laws_eqEquationS_m fuel a0 a1 = some r) :
  Calls Try.prog 24 #[p0, p1] w0 fun e w => e = .returned (.bool r) ∧ Heap w0 [] w := by
 unfold laws_eqEquationS_m at hm
 have H := Heap.start w0
 refine enter (args := [p0, p1]) Try.func24 rfl 27 rfl (Nat.le_of_ble_eq_true rfl) (fun a S => ?_)
 refine wp_seq (region_plain ?_)
 refine lq (.bool false) S (q_assign rfl) fun a S => ?_
 refine lx_nil (thenN ?_)
 refine wp_seq (wp_seq (region_plain ?_))
 refine lq p0 S (q_move rfl) fun a S => ?_
 refine lq (.int .i64 (a0.length : Int)) S (q_lenSl rfl (h0).isSl rfl Try.underlying36) fun a S => ?_
 refine lq p1 S (q_move rfl) fun a S => ?_
 refine lq (.int .i64 (a1.length : Int)) S (q_lenSl rfl (h1).isSl rfl Try.underlying36) fun a S => ?_
 refine lq (.bool ((a0.length : Int) != (a1.length : Int))) S (q_neq rfl rfl) fun a S => ?_
 refine lx_nil (thenN ?_)
 refine cond_b S rfl (fun hc31 => ?_) (fun hc31 => ?_)
 ·have hm := ite_t hc31 hm
  refine wp_seq (region_plain ?_)
  refine lq (.bool false) S (q_assign rfl) fun a S => ?_
  refine lx_nil (thenN ?_)
  refine wp_ret (then_ret ?_)
  obtain rfl := Option.some.inj hm
  exact leave1 S rfl rfl ⟨rfl, H⟩
 ·have hm := ite_f hc31 hm
  refine wp_skip (thenN ?_)
  refine wp_seq (wp_seq (region_plain ?_))
  refine lq (.int .i64 (0 : Int)) S (q_assign rfl) fun a S => ?_
  refine lx_nil (thenN ?_)
  obtain ⟨res113, hit114, hk117⟩ := bind_some hm
  obtain ⟨f115, hf116, hit114⟩ := iter_name hit114
  refine block_loop (fun a w => Slots a 27 [] ∧ Heap w0 [] w ∧ res113 = .inl ()) ?_ ?_
  ·rintro a w ⟨S, H, rfl⟩
   have hm := ctl_inl hk117
   refine thenN ?_
   refine wp_seq (region_plain ?_)
   refine lq (.bool true) S (q_assign rfl) fun a S => ?_
   refine lx_nil (thenN ?_)
   refine wp_ret ?_
   obtain rfl := Option.some.inj hm
   exact leave1 S rfl rfl ⟨rfl, H⟩
  ·skip
   refine loop_ghost (fun n a w => ∃ (x72 : Int), Slots a 27 [(0, p0), (1, p1), (5, (.int .i64 x72))] ∧ Heap w0 [] w ∧ iter f115 n (x72) = some res113) _ ⟨(0 : Int), S.sub ⟨rfl, rfl, rfl, trivial⟩, H, hit114⟩ ?_
   rintro n a w ⟨x72, S, H, hit114⟩
   obtain ⟨m118, o119, rfl, hm, hc120⟩ := iter_step hit114
   rw [hf116] at hm
   refine wp_seq (wp_seq (region_plain ?_))
   refine lq (.int .i64 x72) S (q_move rfl) fun a S => ?_
   refine lq p0 S (q_move rfl) fun a S => ?_
   refine lq (.int .i64 (a0.length : Int)) S (q_lenSl rfl (h0).isSl rfl Try.underlying36) fun a S => ?_
   refine lq (.bool (decide (x72 < (a0.length : Int)))) S (q_lss rfl rfl) fun a S => ?_
   refine lx_nil (thenN ?_)
   refine cond_b S rfl (fun hc121 => ?_) (fun hc121 => ?_)
   ·have hm := ite_t hc121 hm
    refine wp_skip (thenN ?_)
    refine wp_seq ?_
    refine wp_block ?_
    refine wp_seq ?_
    refine region_drawG (fun w1 => Heap w0 [] w1) (fun i => [8].contains i) mixed (by kernel_rfl) (fun w123 he122 => ?_)
    have H := H.later he122
    refine ⟨H.sel [] (by decide), ?_⟩
    refine lq p0 S (q_move rfl) fun a S => ?_
    refine lq (.int .i64 x72) S (q_move rfl) fun a S => ?_
    obtain ⟨x124, e125, hm⟩ := bind_some hm
    obtain ⟨c126, h127, hat128⟩ := (h0).elem (idx_some e125).2
    obtain ⟨c131, c132, rfl, h133, h134⟩ := h127
    obtain rfl := h133
    obtain ⟨c135, c136, rfl, h137, h138⟩ := h134
    obtain rfl := h137
    obtain ⟨v129, rfl, h130⟩ := rd_list h138
    have hlt := lt_of_idx (idx_some e125).2
    refine lq (ePtr p0 (x72.toNat * 3)) S (q_indexAddr rfl (h0).isSl rfl (idx_some e125).1 hlt Try.underlying36 Try.sizeOf85) fun a S => ?_
    refine lq (.agg #[(.bool x124.1), (.bool x124.2.1), v129]) S (q_loadA (cs := [(.bool x124.1), (.bool x124.2.1), v129]) rfl ((hat128 0 _ rfl).isP) Try.isAgg85 Try.sizeOf85 (fun w1 hC => (fun j u hu => (hat128 j u hu).ext hC.ext))) fun a S => ?_
    refine lq p1 S (q_move rfl) fun a S => ?_
    refine lq (.int .i64 x72) S (q_move rfl) fun a S => ?_
    obtain ⟨x139, e140, hm⟩ := bind_some hm
    obtain ⟨c141, h142, hat143⟩ := (h1).elem (idx_some e140).2
    obtain ⟨c146, c147, rfl, h148, h149⟩ := h142
    obtain rfl := h148
    obtain ⟨c150, c151, rfl, h152, h153⟩ := h149
    obtain rfl := h152
    obtain ⟨v144, rfl, h145⟩ := rd_list h153
    have hlt := lt_of_idx (idx_some e140).2
    refine lq (ePtr p1 (x72.toNat * 3)) S (q_indexAddr rfl (h1).isSl rfl (idx_some e140).1 hlt Try.underlying36 Try.sizeOf85) fun a S => ?_
    refine lq (.agg #[(.bool x139.1), (.bool x139.2.1), v144]) S (q_loadA (cs := [(.bool x139.1), (.bool x139.2.1), v144]) rfl ((hat143 0 _ rfl).isP) Try.isAgg85 Try.sizeOf85 (fun w1 hC => (fun j u hu => (hat143 j u hu).ext hC.ext))) fun a S => ?_
    obtain ⟨x156, e157, hm⟩ := bind_some hm
    refine lx_call (xs := [.tmp 20, .tmp 24]) S trivial (by decide) rfl rfl Try.call73 ((laws_eqEquation_ok ⟨[(.bool x124.1), (.bool x124.2.1), v129], rfl, ⟨[(.bool x124.1)], [(.bool x124.2.1), v129], rfl, rfl, ⟨[(.bool x124.2.1)], [v129], rfl, rfl, ((H.arg h130)).list_rd⟩⟩⟩ ⟨[(.bool x139.1), (.bool x139.2.1), v144], rfl, ⟨[(.bool x139.1)], [(.bool x139.2.1), v144], rfl, rfl, ⟨[(.bool x139.2.1)], [v144], rfl, rfl, ((H.arg h145)).list_rd⟩⟩⟩ e157).mono ?_)
    rintro e w154 ⟨rfl, Hc155⟩
    have H := H.call0 Hc155
    refine ⟨_, rfl, H.sel [] (by decide), fun a S => ?_⟩
    refine lq (.bool (!x156)) S (q_not rfl) fun a S => ?_
    refine lx_nil (thenN ?_)
    refine cond_b S rfl (fun hc159 => ?_) (fun hc159 => ?_)
    ·have hm := ite_t hc159 hm
     refine wp_seq (region_plain ?_)
     refine lq (.bool false) S (q_assign rfl) fun a S => ?_
     refine lx_nil (thenN ?_)
     refine wp_ret (inBlock_ret ?_)
     refine then_ret ?_
     refine then_ret ?_
     refine inBlock_ret ?_
     refine then_ret ?_
     refine then_ret ?_
     obtain rfl := it_brk hm hc120
     have hm := ctl_inr hk117
     obtain rfl := Option.some.inj hm
     exact leave1 S rfl rfl ⟨rfl, H⟩
    ·have hm := ite_f hc159 hm
     refine wp_skip ?_
     refine inBlock_norm ?_
     refine thenN ?_
     refine region_plain ?_
     refine lq (.int .i64 x72) S (q_move rfl) fun a S => ?_
     refine lq (.int .i64 (W (x72 + (1 : Int)))) S (q_add rfl rfl) fun a S => ?_
     refine lq (.int .i64 (W (x72 + (1 : Int)))) S (q_assign rfl) fun a S => ?_
     refine lx_nil ?_
     exact ⟨m118, Nat.lt_succ_self _, (W (x72 + (1 : Int))), S.sub ⟨rfl, rfl, rfl, trivial⟩, H, it_cont hm hc120⟩
   ·have hm := ite_f hc121 hm
    refine wp_exit ?_
    refine then_exit ?_
    refine then_exit ?_
    refine inBlock_exit ?_
    obtain rfl := it_brk hm hc120
    exact ⟨S.sub trivial, H, rfl⟩

/-- laws.markEquationS -/
def laws_markEquationS_m (fuel : Nat) (a0 : (List Timpl_Equation)) (a1 : Int) : Option (Int × (List Timpl_Equation)) :=
  (iter (fun (s : (List Timpl_Equation) × (Int) × (Int)) => (match s with | (xs62, x63, x64) => (if (decide (x64 < (xs62.length : Int))) = true then (idx xs62 x64).bind fun x107 => (idx (xs62.set x64.toNat (((x63.tmod (3 : Int)) == (0 : Int)), x107.2.1, x107.2.2)) x64).bind fun x110 => (idx ((xs62.set x64.toNat (((x63.tmod (3 : Int)) == (0 : Int)), x107.2.1, x107.2.2)).set x64.toNat (x110.1, (((W (x63 + (1 : Int))).tmod (3 : Int)) == (0 : Int)), x110.2.2)) x64).bind fun x113 => (laws_markInt64S_m fuel x113.2.2 (W ((W (x63 + (1 : Int))) + (1 : Int)))).bind fun x130 => some (.inl ((((xs62.set x64.toNat (((x63.tmod (3 : Int)) == (0 : Int)), x107.2.1, x107.2.2)).set x64.toNat (x110.1, (((W (x63 + (1 : Int))).tmod (3 : Int)) == (0 : Int)), x110.2.2)).set x64.toNat (x113.1, x113.2.1, x130.2)), x130.1, (W (x64 + (1 : Int))))) else some (.inr (.inl (x63, xs62)))) : Option (((List Timpl_Equation) × (Int) × (Int)) ⊕ ((Int × (List Timpl_Equation)) ⊕ (Int × (List Timpl_Equation)))))) fuel (a0, a1, (0 : Int))).bind fun res98 => ctl (β := Int × (List Timpl_Equation)) (ρ := Int × (List Timpl_Equation)) (τ := Int × (List Timpl_Equation)) res98 (fun (x96, xs97) => some ((x96, xs97))) (fun q => some (q))
set_option maxRecDepth 20000 in
theorem laws_markEquationS_ok {w0 : World} {fuel : Nat} {p0 : Value} {a0 : (List Timpl_Equation)} {a1 : Int} {w00 : World} {L : List Asrt} {r : Int × (List Timpl_Equation)} (H : Heap w00 (oA (rList Rimpl_Equation) p0 a0 :: L) w0) (hm : laws_markEquationS_m fuel a0 a1 = some r) :
  Calls Try.prog 25 #[p0, .int .i64 a1] w0 fun e w => e = .returned (.int .i64 r.1) ∧ Heap w00 (oA (rList Rimpl_Equation) p0 r.2 :: L) w := by
 unfold laws_markEquationS_m at hm
 refine enter (args := [p0, .int .i64 a1]) Try.func25 rfl 38 rfl (Nat.le_of_ble_eq_true rfl) (fun a S => ?_)
 refine wp_seq (region_plain ?_)
 refine lq (.int .i64 (0 : Int)) S (q_assign rfl) fun a S => ?_
 refine lx_nil (thenN ?_)
 refine wp_seq (wp_seq (region_plain ?_))
 refine lq (.int .i64 (0 : Int)) S (q_assign rfl) fun a S => ?_
 refine lx_nil (thenN ?_)
 obtain ⟨res98, hit99, hk102⟩ := bind_some hm
 obtain ⟨f100, hf101, hit99⟩ := iter_name hit99
 refine block_loop (fun a w => ∃ (x96 : Int) (xs97 : List Timpl_Equation), Slots a 38 [(1, (.int .i64 x96))] ∧ Heap w00 (oA (rList Rimpl_Equation) p0 xs97 :: L) w ∧ res98 = .inl (x96, xs97)) ?_ ?_
 ·rintro a w ⟨x96, xs97, S, H, rfl⟩
  have hm := ctl_inl hk102
  refine thenN ?_
  refine wp_seq (region_plain ?_)
  refine lq (.int .i64 x96) S (q_move rfl) fun a S => ?_
  refine lq (.int .i64 x96) S (q_assign rfl) fun a S => ?_
  refine lx_nil (thenN ?_)
  refine wp_ret ?_
  obtain rfl := Option.some.inj hm
  exact leave1 S rfl rfl ⟨rfl, H⟩
 ·skip
  refine loop_ghost (fun n a w => ∃ (xs62 : List Timpl_Equation) (x63 : Int) (x64 : Int), Slots a 38 [(0, p0), (1, (.int .i64 x63)), (5, (.int .i64 x64))] ∧ Heap w00 (oA (rList Rimpl_Equation) p0 xs62 :: L) w ∧ iter f100 n (xs62, x63, x64) = some res98) _ ⟨a0, a1, (0 : Int), S.sub ⟨rfl, rfl, rfl, trivial⟩, H, hit99⟩ ?_
  rintro n a w ⟨xs62, x63, x64, S, H, hit99⟩
  obtain ⟨m103, o104, rfl, hm, hc105⟩ := iter_step hit99
  rw [hf101] at hm
  refine wp_seq (wp_seq (region_plain ?_))
  refine lq (.int .i64 x64) S (q_move rfl) fun a S => ?_
  refine lq p0 S (q_move rfl) fun a S => ?_
  refine lq (.int .i64 (xs62.length : Int)) S (q_lenSl rfl (H.isSl 0 rfl) rfl Try.underlying36) fun a S => ?_
  refine lq (.bool (decide (x64 < (xs62.length : Int)))) S (q_lss rfl rfl) fun a S => ?_
  refine lx_nil (thenN ?_)
  refine cond_b S rfl (fun hc106 => ?_) (fun hc106 => ?_)
  ·have hm := ite_t hc106 hm
   refine wp_skip (thenN ?_)
   refine wp_seq ?_
   refine wp_block ?_
   refine wp_seq (region_plain ?_)
   refine lq p0 S (q_move rfl) fun a S => ?_
   refine lq (.int .i64 x64) S (q_move rfl) fun a S => ?_
   refine lq (.int .i64 x63) S (q_move rfl) fun a S => ?_
   refine lq (.int .i64 (x63.tmod (3 : Int))) S (q_rem rfl rfl (show (3 : Int) ≠ 0 from by decide)) fun a S => ?_
   refine lq (.bool ((x63.tmod (3 : Int)) == (0 : Int))) S (q_eql rfl rfl) fun a S => ?_
   obtain ⟨x107, e108, hm⟩ := bind_some hm
   have hlt := lt_of_idx (idx_some e108).2
   refine lq (ePtr p0 (x64.toNat * 3)) S (q_indexAddr rfl (H.isSl 0 rfl) rfl (idx_some e108).1 hlt Try.underlying36 Try.sizeOf85) fun a S => ?_
   refine lq (pAdd (ePtr p0 (x64.toNat * 3)) 0) S (q_fieldAddr' 0 4 rfl (((H.isSl 0 rfl)).ptr (lt_of_idx (idx_some e108).2) _) Try.underlying85 rfl Try.sizeOf4) fun a S => ?_
   refine lx_storeElem (r := Rimpl_Equation) (us := [(.bool ((x63.tmod (3 : Int)) == (0 : Int)))]) (off := 0) (e' := (((x63.tmod (3 : Int)) == (0 : Int)), x107.2.1, x107.2.2)) S trivial rfl H.putE rfl rfl (idx_some e108).2 rfl Try.sizeOf4 (Nat.le_of_ble_eq_true rfl) (List.forall_mem_cons.2 ⟨rfl, (fun _ h => nomatch h)⟩) (Upd.fst (off := 0) (Nat.le_of_ble_eq_true rfl) (Upd.full rfl (fun w G hG => by cases (show G = [] from hG); exact ⟨rfl, rfl⟩))) (fun w109 H => ⟨trivial, fun a S => ?_⟩)
   refine lx_nil (thenN ?_)
   refine wp_seq (region_plain ?_)
   refine lq (.int .i64 x63) S (q_move rfl) fun a S => ?_
   refine lq (.int .i64 (W (x63 + (1 : Int)))) S (q_add rfl rfl) fun a S => ?_
   refine lq (.int .i64 (W (x63 + (1 : Int)))) S (q_assign rfl) fun a S => ?_
   refine lx_nil (thenN ?_)
   refine wp_seq (region_plain ?_)
   refine lq p0 S (q_move rfl) fun a S => ?_
   refine lq (.int .i64 x64) S (q_move rfl) fun a S => ?_
   refine lq (.int .i64 (W (x63 + (1 : Int)))) S (q_move rfl) fun a S => ?_
   refine lq (.int .i64 ((W (x63 + (1 : Int))).tmod (3 : Int))) S (q_rem rfl rfl (show (3 : Int) ≠ 0 from by decide)) fun a S => ?_
   refine lq (.bool (((W (x63 + (1 : Int))).tmod (3 : Int)) == (0 : Int))) S (q_eql rfl rfl) fun a S => ?_
   obtain ⟨x110, e111, hm⟩ := bind_some hm
   have hlt := lt_of_idx (idx_some e111).2
   refine lq (ePtr p0 (x64.toNat * 3)) S (q_indexAddr rfl (H.isSl 0 rfl) rfl (idx_some e111).1 hlt Try.underlying36 Try.sizeOf85) fun a S => ?_
   refine lq (pAdd (ePtr p0 (x64.toNat * 3)) 1) S (q_fieldAddr' 1 4 rfl (((H.isSl 0 rfl)).ptr (lt_of_idx (idx_some e111).2) _) Try.underlying85 rfl Try.sizeOf4) fun a S => ?_
   refine lx_storeElem (r := Rimpl_Equation) (us := [(.bool (((W (x63 + (1 : Int))).tmod (3 : Int)) == (0 : Int)))]) (off := 1) (e' := (x110.1, (((W (x63 + (1 : Int))).tmod (3 : Int)) == (0 : Int)), x110.2.2)) S trivial rfl H.putE rfl rfl (idx_some e111).2 rfl Try.sizeOf4 (Nat.le_of_ble_eq_true rfl) (List.forall_mem_cons.2 ⟨rfl, (fun _ h => nomatch h)⟩) (Upd.snd (off := 0) (Upd.fst (off := 0) (Nat.le_of_ble_eq_true rfl) (Upd.full rfl (fun w G hG => by cases (show G = [] from hG); exact ⟨rfl, rfl⟩)))) (fun w112 H => ⟨trivial, fun a S => ?_⟩)
   refine lx_nil (thenN ?_)
   refine wp_seq (region_plain ?_)
   refine lq (.int .i64 (W (x63 + (1 : Int)))) S (q_move rfl) fun a S => ?_
   refine lq (.int .i64 (W ((W (x63 + (1 : Int))) + (1 : Int)))) S (q_add rfl rfl) fun a S => ?_
   refine lq (.int .i64 (W ((W (x63 + (1 : Int))) + (1 : Int)))) S (q_assign rfl) fun a S => ?_
   refine lx_nil (thenN ?_)
   refine region_plain ?_
   refine lq p0 S (q_move rfl) fun a S => ?_
   refine lq (.int .i64 x64) S (q_move rfl) fun a S => ?_
   obtain ⟨x113, e114, hm⟩ := bind_some hm
   have hlt := lt_of_idx (idx_some e114).2
   refine lq (ePtr p0 (x64.toNat * 3)) S (q_indexAddr rfl (H.isSl 0 rfl) rfl (idx_some e114).1 hlt Try.underlying36 Try.sizeOf85) fun a S => ?_
   refine lq (pAdd (ePtr p0 (x64.toNat * 3)) 2) S (q_fieldAddr' 2 23 rfl (((H.isSl 0 rfl)).ptr (lt_of_idx (idx_some e114).2) _) Try.underlying85 rfl Try.sizeOf23) fun a S => ?_
   obtain ⟨c115, h116, hat117⟩ := (H.rdAt 0 rfl).elem (idx_some e114).2
   obtain ⟨c120, c121, rfl, h122, h123⟩ := h116
   obtain rfl := h122
   obtain ⟨c124, c125, rfl, h126, h127⟩ := h123
   obtain rfl := h126
   obtain ⟨v118, rfl, h119⟩ := rd_list h127
   refine lx_e v118 S trivial (by decide) rfl trivial (q_load1 rfl Try.isAgg23 (by rintro _ rfl; exact (At.of_add (m := 2) (j := 0) (hat117 2 _ rfl)))) (fun a S => ?_)
   refine lq (.int .i64 (W ((W (x63 + (1 : Int))) + (1 : Int)))) S (q_move rfl) fun a S => ?_
   obtain ⟨x130, e131, hm⟩ := bind_some hm
   obtain ⟨u132, hat133, H⟩ := H.lend (idx_some e114).2 (Lend.snd (off := 1) (Lend.snd (off := 0) (Lend.here)))
   obtain rfl : v118 = u132 := At.eq (hat117 2 _ rfl) hat133
   refine lx_call (xs := [.tmp 34, .tmp 35]) S trivial (by decide) rfl rfl Try.call30 ((laws_markInt64S_ok H  e131).mono ?_)
   rintro e w128 ⟨rfl, H⟩
   have H : Heap w00 (oA (rList Rimpl_Equation) p0 (((xs62.set x64.toNat (((x63.tmod (3 : Int)) == (0 : Int)), x107.2.1, x107.2.2)).set x64.toNat (x110.1, (((W (x63 + (1 : Int))).tmod (3 : Int)) == (0 : Int)), x110.2.2)).set x64.toNat (x113.1, x113.2.1, x130.2)) :: L) w128 := H.back
   refine ⟨_, rfl, trivial, fun a S => ?_⟩
   refine lq (.int .i64 x130.1) S (q_assign rfl) fun a S => ?_
   refine lx_nil ?_
   refine inBlock_norm ?_
   refine thenN ?_
   refine region_plain ?_
   refine lq (.int .i64 x64) S (q_move rfl) fun a S => ?_
   refine lq (.int .i64 (W (x64 + (1 : Int)))) S (q_add rfl rfl) fun a S => ?_
   refine lq (.int .i64 (W (x64 + (1 : Int)))) S (q_assign rfl) fun a S => ?_
   refine lx_nil ?_
   exact ⟨m103, Nat.lt_succ_self _, (((xs62.set x64.toNat (((x63.tmod (3 : Int)) == (0 : Int)), x107.2.1, x107.2.2)).set x64.toNat (x110.1, (((W (x63 + (1 : Int))).tmod (3 : Int)) == (0 : Int)), x110.2.2)).set x64.toNat (x113.1, x113.2.1, x130.2)), x130.1, (W (x64 + (1 : Int))), S.sub ⟨rfl, rfl, rfl, trivial⟩, H, it_cont hm hc105⟩
  ·have hm := ite_f hc106 hm
   refine wp_exit ?_
   refine then_exit ?_
   refine then_exit ?_
   refine inBlock_exit ?_
   obtain rfl := it_brk hm hc105
   exact ⟨x63, xs62, S.sub ⟨rfl, trivial⟩, H, rfl⟩
end Go.Proofs.Ytecknjdlbmmmiaa
