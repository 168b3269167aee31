/- The model of a statement and its walk (printed by a program of this repo). -/
import Derived.Test.YtifnhbnkgeinmaaGreatDoorF0
import Derived.Test.YtifnhbnkgeinmaaGreatDoorF1
import Derived.Test.YtifnhbnkgeinmaaGreatDoorF2
import Derived.Test.YtifnhbnkgeinmaaGreatDoorF3
import Derived.Test.YtifnhbnkgeinmaaGreatDoorF4
import Derived.Test.YtifnhbnkgeinmaaGreatDoorF5
import Derived.Test.YtifnhbnkgeinmaaGreatDoorGxT
import Derived.Test.YtifnhbnkgeinmaaGreatDoorGxY
namespace Go.Proofs.YtifnhbnkgeinmaaGreatDoor
open Go.RowKit Go.Gx

/-- spec.l10Texts -/
def spec_l10Texts_m (fuel : Nat) (a0 : (List Str)) : Option (Bool) :=
  (iter (fun (s : (Int)) => (match s with | (x44) => (if (decide (x44 < (a0.length : Int))) = true then (idx a0 x44).bind fun x67 => (spec_l01Label_m fuel x67).bind fun x74 => (if (!x74) = true then some (.inr (.inr false)) else some (.inl ((W (x44 + (1 : Int)))))) else some (.inr (.inl ()))) : Option (((Int)) ⊕ ((Unit) ⊕ (Bool))))) fuel ((0 : Int))).bind fun res58 => ctl (β := Unit) (ρ := Bool) (τ := Bool) res58 (fun _ => some (true)) (fun q => some (q))
set_option maxRecDepth 20000 in
theorem spec_l10Texts_ok {w0 : World} {fuel : Nat} {p0 : Value} {a0 : (List Str)} {r : Bool} (h0 : Rd (rList rStr) w0 p0 a0) (hm : spec_l10Texts_m fuel a0 = some r) :
  Calls Tryz.prog 35 #[p0] w0 fun e w => e = .returned (.bool r) ∧ Heap w0 [] w := by
 unfold spec_l10Texts_m at hm
 have H := Heap.start w0
 refine enter (args := [p0]) Tryz.func35 rfl 16 rfl (Nat.le_of_ble_eq_true rfl) (fun a S => ?_)
 refine wp_seq (region_plain ?_)
 refine lq (.bool false) S (q_assign rfl) fun a S => ?_
 refine lx_nil (thenN ?_)
 refine wp_seq (wp_seq (region_plain ?_))
 refine lq (.int .i64 (0 : Int)) S (q_assign rfl) fun a S => ?_
 refine lx_nil (thenN ?_)
 obtain ⟨res58, hit59, hk62⟩ := bind_some hm
 obtain ⟨f60, hf61, hit59⟩ := iter_name hit59
 refine block_loop (fun a w => Slots a 16 [] ∧ Heap w0 [] w ∧ res58 = .inl ()) ?_ ?_
 ·rintro a w ⟨S, H, rfl⟩
  have hm := ctl_inl hk62
  refine thenN ?_
  refine wp_seq (region_plain ?_)
  refine lq (.bool true) S (q_assign rfl) fun a S => ?_
  refine lx_nil (thenN ?_)
  refine wp_ret ?_
  obtain rfl := Option.some.inj hm
  exact leave1 S rfl rfl ⟨rfl, H⟩
 ·skip
  refine loop_ghost (fun n a w => ∃ (x44 : Int), Slots a 16 [(0, p0), (3, (.int .i64 x44))] ∧ Heap w0 [] w ∧ iter f60 n (x44) = some res58) _ ⟨(0 : Int), S.sub ⟨rfl, rfl, trivial⟩, H, hit59⟩ ?_
  rintro n a w ⟨x44, S, H, hit59⟩
  obtain ⟨m63, o64, rfl, hm, hc65⟩ := iter_step hit59
  rw [hf61] at hm
  refine wp_seq (wp_seq (region_plain ?_))
  refine lq (.int .i64 x44) S (q_move rfl) fun a S => ?_
  refine lq p0 S (q_move rfl) fun a S => ?_
  refine lq (.int .i64 (a0.length : Int)) S (q_lenSl rfl (h0).isSl rfl Tryz.underlying22) fun a S => ?_
  refine lq (.bool (decide (x44 < (a0.length : Int)))) S (q_lss rfl rfl) fun a S => ?_
  refine lx_nil (thenN ?_)
  refine cond_b S rfl (fun hc66 => ?_) (fun hc66 => ?_)
  ·have hm := ite_t hc66 hm
   refine wp_skip (thenN ?_)
   refine wp_seq ?_
   refine wp_block ?_
   refine wp_seq (region_plain ?_)
   refine lq p0 S (q_move rfl) fun a S => ?_
   refine lq (.int .i64 x44) S (q_move rfl) fun a S => ?_
   obtain ⟨x67, e68, hm⟩ := bind_some hm
   obtain ⟨c69, h70, hat71⟩ := (h0).elem (idx_some e68).2
   obtain rfl := h70
   have hlt := lt_of_idx (idx_some e68).2
   refine lq (ePtr p0 (x44.toNat * 1)) S (q_indexAddr rfl (h0).isSl rfl (idx_some e68).1 hlt Tryz.underlying22 Tryz.sizeOf9) fun a S => ?_
   refine lx_e (sv x67) S trivial (by decide) rfl trivial (q_load1 rfl Tryz.isAgg9 (by rintro _ rfl; exact ((hat71 0 _ rfl).ext H.ext))) (fun a S => ?_)
   obtain ⟨x74, e75, hm⟩ := bind_some hm
   refine lx_call (xs := [.tmp 13]) S trivial (by decide) rfl rfl Tryz.call47 ((spec_l01Label_ok  e75).mono ?_)
   rintro e w72 ⟨rfl, Hc73⟩
   have H := H.call0 Hc73
   refine ⟨_, rfl, trivial, fun a S => ?_⟩
   refine lq (.bool (!x74)) S (q_not rfl) fun a S => ?_
   refine lx_nil (thenN ?_)
   refine cond_b S rfl (fun hc77 => ?_) (fun hc77 => ?_)
   ·have hm := ite_t hc77 hm
    refine wp_seq (region_plain ?_)
    refine lq (.bool false) S (q_assign rfl) fun a S => ?_
    refine lx_nil (thenN ?_)
    refine wp_ret (inBlock_ret ?_)
    refine then_ret ?_
    refine then_ret ?_
    refine inBlock_ret ?_
    refine then_ret ?_
    refine then_ret ?_
    obtain rfl := it_brk hm hc65
    have hm := ctl_inr hk62
    obtain rfl := Option.some.inj hm
    exact leave1 S rfl rfl ⟨rfl, H⟩
   ·have hm := ite_f hc77 hm
    refine wp_skip ?_
    refine inBlock_norm ?_
    refine thenN ?_
    refine region_plain ?_
    refine lq (.int .i64 x44) S (q_move rfl) fun a S => ?_
    refine lq (.int .i64 (W (x44 + (1 : Int)))) S (q_add rfl rfl) fun a S => ?_
    refine lq (.int .i64 (W (x44 + (1 : Int)))) S (q_assign rfl) fun a S => ?_
    refine lx_nil ?_
    exact ⟨m63, Nat.lt_succ_self _, (W (x44 + (1 : Int))), S.sub ⟨rfl, rfl, trivial⟩, H, it_cont hm hc65⟩
  ·have hm := ite_f hc66 hm
   refine wp_exit ?_
   refine then_exit ?_
   refine then_exit ?_
   refine inBlock_exit ?_
   obtain rfl := it_brk hm hc65
   exact ⟨S.sub trivial, H, rfl⟩

/-- spec.l00Put -/
def spec_l00Put_m (fuel : Nat) (a0 : (List Int)) (a1 : Int) : Option ((List Int)) :=
  (iter (fun (s : (List Int) × (Bool) × (Int)) => (match s with | (xs83, x85, x86) => (if (decide (x86 < (a0.length : Int))) = true then join (κ := List Int → Bool → Option (((List Int) × (Bool) × (Int)) ⊕ (((List Int) × Bool) ⊕ ((List Int))))) (fun (xs163 : List Int) (x165 : Bool) => (idx a0 x86).bind fun x168 => (app xs163 [x168]).bind fun x176 => some (.inl (x176, x165, (W (x86 + (1 : Int)))))) (fun K166 => (if (!x85) = true then (idx a0 x86).bind fun x184 => some (decide (a1 ≤ x184)) else some false).bind fun t181 => (if t181 = true then (idx a0 x86).bind fun x190 => (if (decide (a1 < x190)) = true then (app xs83 [a1]).bind fun x199 => (K166 x199 true) else (K166 xs83 true)) else (K166 xs83 x85))) else some (.inr (.inl (xs83, x85)))) : Option (((List Int) × (Bool) × (Int)) ⊕ (((List Int) × Bool) ⊕ ((List Int)))))) fuel (([] : List Int), false, (0 : Int))).bind fun res139 => ctl (β := (List Int) × Bool) (ρ := (List Int)) (τ := (List Int)) res139 (fun (xs136, x138) => join (κ := List Int → Option (List Int)) (fun (xs145 : List Int) => some (xs145)) (fun K147 => (if (!x138) = true then (app xs136 [a1]).bind fun x153 => (K147 x153) else (K147 xs136)))) (fun q => some (q))
set_option maxRecDepth 20000 in
theorem spec_l00Put_ok {w0 : World} {fuel : Nat} {p0 : Value} {a0 : (List Int)} {a1 : Int} {r : (List Int)} (h0 : Rd (rList (rInt .i64)) w0 p0 a0) (hm : spec_l00Put_m fuel a0 a1 = some r) :
  Calls Tryz.prog 37 #[p0, .int .i64 a1] w0 fun e w => ∃ (v0 : Value), e = .returned (v0) ∧ Heap w0 [oA (rList (rInt .i64)) v0 r] w := by
 unfold spec_l00Put_m at hm
 have H := Heap.start w0
 refine enter (args := [p0, .int .i64 a1]) Tryz.func37 rfl 49 rfl (Nat.le_of_ble_eq_true rfl) (fun a S => ?_)
 refine wp_seq (region_plain ?_)
 refine lq (.slice none 0 0) S (q_assign rfl) fun a S => ?_
 refine lx_nil (thenN ?_)
 refine wp_seq (region_plain ?_)
 refine lx_buildSlice0 (r := (rInt .i64)) S trivial (by decide) rfl H Tryz.underlying28 Tryz.sizeOf2 (fun v31 w32 H => ⟨trivial, fun a S => ?_⟩)
 refine lq v31 S (q_assign rfl) fun a S => ?_
 refine lx_nil (thenN ?_)
 refine wp_seq (region_plain ?_)
 refine lq (.bool false) S (q_assign rfl) fun a S => ?_
 refine lx_nil (thenN ?_)
 refine wp_seq (wp_seq (region_plain ?_))
 refine lq (.int .i64 (0 : Int)) S (q_assign rfl) fun a S => ?_
 refine lx_nil (thenN ?_)
 obtain ⟨res139, hit140, hk143⟩ := bind_some hm
 obtain ⟨f141, hf142, hit140⟩ := iter_name hit140
 refine block_loop (fun a w => ∃ (xs136 : List Int) (x138 : Bool) (v135 : Value), Slots a 49 [(1, (.int .i64 a1)), (5, v135), (6, (.bool x138))] ∧ Heap w0 [oA (rList (rInt .i64)) v135 xs136] w ∧ res139 = .inl (xs136, x138)) ?_ ?_
 ·rintro a w ⟨xs136, x138, v135, S, H, rfl⟩
  have hm := ctl_inl hk143
  refine thenN ?_
  obtain ⟨K147, hK148, hm⟩ := join_elim hm
  refine seq_cut (fun a w => ∃ (xs145 : List Int) (v144 : Value), Slots a 49 [(5, v144)] ∧ Heap w0 [oA (rList (rInt .i64)) v144 xs145] w ∧ K147 xs145 = some r) ?_ ?_
  ·rintro a w ⟨xs145, v144, S, H, hm⟩
   subst hK148
   refine wp_seq (region_plain ?_)
   refine lq v144 S (q_move rfl) fun a S => ?_
   refine lq v144 S (q_assign rfl) fun a S => ?_
   refine lx_nil (thenN ?_)
   refine wp_ret ?_
   obtain rfl := Option.some.inj hm
   exact leave1 S rfl rfl ⟨v144, rfl, H⟩
  ·skip
   refine wp_seq (region_plain ?_)
   refine lq (.bool x138) S (q_move rfl) fun a S => ?_
   refine lq (.bool (!x138)) S (q_not rfl) fun a S => ?_
   refine lx_nil (thenN ?_)
   refine cond_b S rfl (fun hc149 => ?_) (fun hc149 => ?_)
   ·have hm := ite_t hc149 hm
    refine region_plain ?_
    refine lq v135 S (q_move rfl) fun a S => ?_
    refine lq (.int .i64 a1) S (q_move rfl) fun a S => ?_
    refine lx_buildSlice (r := (rInt .i64)) (xs := [a1]) (ps := [(0, [(.int .i64 a1)])]) (cs := [(.int .i64 a1)]) (parts := [(0, .tmp 45)]) S trivial (by decide) rfl (H.put0 (A := eA) rfl) rfl Tryz.underlying28 Tryz.sizeOf2 Tryz.zeroValue2 (by decide) ⟨rfl, rfl, Nat.le_of_ble_eq_true rfl, trivial⟩ (by intro zs hz; exact fill_dense hz ⟨rfl, trivial⟩ rfl rfl) rfl (by decide) (fun w F hA => by cases (show F = [] from hA); exact ⟨_, _, [(.int .i64 a1)], _, rfl, rfl, ⟨rfl, rfl⟩, ⟨rfl, rfl⟩⟩) (fun v150 w151 H => ⟨trivial, fun a S => ?_⟩)
    obtain ⟨x153, e154, hm⟩ := bind_some hm
    obtain ⟨hle, hap⟩ := app_some e154
    replace hap := hap.symm
    subst hap
    have H : Heap w0 [oA (rList (rInt .i64)) v150 [a1], oA (rList (rInt .i64)) v135 xs136] w151 := H.front 0 rfl
    have H : Heap w0 [oA (rList (rInt .i64)) v135 xs136, oA (rList (rInt .i64)) v150 [a1]] w151 := H.front 1 rfl
    refine lx_appendOwn (r := (rInt .i64)) S trivial (by decide) rfl H rfl rfl Tryz.underlying28 Tryz.ti2 rfl rfl rfl (by decide) (by decide) hle (fun v155 w156 H => ⟨trivial, fun a S => ?_⟩)
    refine lq v155 S (q_assign rfl) fun a S => ?_
    refine lx_nil ?_
    exact ⟨(xs136 ++ [a1]), v155, S.sub ⟨rfl, trivial⟩, H, hm⟩
   ·have hm := ite_f hc149 hm
    refine wp_skip ?_
    exact ⟨xs136, v135, S.sub ⟨rfl, trivial⟩, H, hm⟩
 ·skip
  refine loop_ghost (fun n a w => ∃ (xs83 : List Int) (x85 : Bool) (x86 : Int) (v82 : Value), Slots a 49 [(0, p0), (1, (.int .i64 a1)), (5, v82), (6, (.bool x85)), (7, (.int .i64 x86))] ∧ Heap w0 [oA (rList (rInt .i64)) v82 xs83] w ∧ iter f141 n (xs83, x85, x86) = some res139) _ ⟨([] : List Int), false, (0 : Int), v31, S.sub ⟨rfl, rfl, rfl, rfl, rfl, trivial⟩, H, hit140⟩ ?_
  rintro n a w ⟨xs83, x85, x86, v82, S, H, hit140⟩
  obtain ⟨m158, o159, rfl, hm, hc160⟩ := iter_step hit140
  rw [hf142] at hm
  refine wp_seq (wp_seq (region_plain ?_))
  refine lq (.int .i64 x86) S (q_move rfl) fun a S => ?_
  refine lq p0 S (q_move rfl) fun a S => ?_
  refine lq (.int .i64 (a0.length : Int)) S (q_lenSl rfl (h0).isSl rfl Tryz.underlying28) fun a S => ?_
  refine lq (.bool (decide (x86 < (a0.length : Int)))) S (q_lss rfl rfl) fun a S => ?_
  refine lx_nil (thenN ?_)
  refine cond_b S rfl (fun hc161 => ?_) (fun hc161 => ?_)
  ·have hm := ite_t hc161 hm
   refine wp_skip (thenN ?_)
   refine wp_seq ?_
   refine wp_block ?_
   obtain ⟨K166, hK167, hm⟩ := join_elim hm
   refine seq_cut (fun a w => ∃ (xs163 : List Int) (x165 : Bool) (v162 : Value), Slots a 49 [(0, p0), (1, (.int .i64 a1)), (5, v162), (6, (.bool x165)), (7, (.int .i64 x86))] ∧ Heap w0 [oA (rList (rInt .i64)) v162 xs163] w ∧ K166 xs163 x165 = some o159) ?_ ?_
   ·rintro a w ⟨xs163, x165, v162, S, H, hm⟩
    subst hK167
    refine region_plain ?_
    refine lq v162 S (q_move rfl) fun a S => ?_
    refine lq p0 S (q_move rfl) fun a S => ?_
    refine lq (.int .i64 x86) S (q_move rfl) fun a S => ?_
    obtain ⟨x168, e169, hm⟩ := bind_some hm
    obtain ⟨c170, h171, hat172⟩ := (h0).elem (idx_some e169).2
    obtain rfl := h171
    have hlt := lt_of_idx (idx_some e169).2
    refine lq (ePtr p0 (x86.toNat * 1)) S (q_indexAddr rfl (h0).isSl rfl (idx_some e169).1 hlt Tryz.underlying28 Tryz.sizeOf2) fun a S => ?_
    refine lx_e (.int .i64 x168) S trivial (by decide) rfl trivial (q_load1 rfl Tryz.isAgg2 (by rintro _ rfl; exact ((hat172 0 _ rfl).ext H.ext))) (fun a S => ?_)
    refine lx_buildSlice (r := (rInt .i64)) (xs := [x168]) (ps := [(0, [(.int .i64 x168)])]) (cs := [(.int .i64 x168)]) (parts := [(0, .tmp 39)]) S trivial (by decide) rfl (H.put0 (A := eA) rfl) rfl Tryz.underlying28 Tryz.sizeOf2 Tryz.zeroValue2 (by decide) ⟨rfl, rfl, Nat.le_of_ble_eq_true rfl, trivial⟩ (by intro zs hz; exact fill_dense hz ⟨rfl, trivial⟩ rfl rfl) rfl (by decide) (fun w F hA => by cases (show F = [] from hA); exact ⟨_, _, [(.int .i64 x168)], _, rfl, rfl, ⟨rfl, rfl⟩, ⟨rfl, rfl⟩⟩) (fun v173 w174 H => ⟨trivial, fun a S => ?_⟩)
    obtain ⟨x176, e177, hm⟩ := bind_some hm
    obtain ⟨hle, hap⟩ := app_some e177
    replace hap := hap.symm
    subst hap
    have H : Heap w0 [oA (rList (rInt .i64)) v173 [x168], oA (rList (rInt .i64)) v162 xs163] w174 := H.front 0 rfl
    have H : Heap w0 [oA (rList (rInt .i64)) v162 xs163, oA (rList (rInt .i64)) v173 [x168]] w174 := H.front 1 rfl
    refine lx_appendOwn (r := (rInt .i64)) S trivial (by decide) rfl H rfl rfl Tryz.underlying28 Tryz.ti2 rfl rfl rfl (by decide) (by decide) hle (fun v178 w179 H => ⟨trivial, fun a S => ?_⟩)
    refine lq v178 S (q_assign rfl) fun a S => ?_
    refine lx_nil ?_
    refine inBlock_norm ?_
    refine thenN ?_
    refine region_plain ?_
    refine lq (.int .i64 x86) S (q_move rfl) fun a S => ?_
    refine lq (.int .i64 (W (x86 + (1 : Int)))) S (q_add rfl rfl) fun a S => ?_
    refine lq (.int .i64 (W (x86 + (1 : Int)))) S (q_assign rfl) fun a S => ?_
    refine lx_nil ?_
    exact ⟨m158, Nat.lt_succ_self _, (xs163 ++ [x168]), x165, (W (x86 + (1 : Int))), v178, S.sub ⟨rfl, rfl, rfl, rfl, rfl, trivial⟩, H, it_cont hm hc160⟩
   ·skip
    refine wp_seq (region_plain ?_)
    refine lq (.bool x85) S (q_move rfl) fun a S => ?_
    refine lq (.bool (!x85)) S (q_not rfl) fun a S => ?_
    refine lq (.bool (!x85)) S (q_move rfl) fun a S => ?_
    obtain ⟨t181, e182, hm⟩ := bind_some hm
    refine lx_cut 7 (fun a w => Slots a 49 [(0, p0), (1, (.int .i64 a1)), (5, v82), (6, (.bool x85)), (7, (.int .i64 x86)), (24, (.bool t181))] ∧ Heap w0 [oA (rList (rInt .i64)) v82 xs83] w) ?_ ?_
    ·by_cases hc183 : (!x85) = true
     ·have hm := ite_t hc183 e182
      refine lx_q p0 S (want_b rfl rfl hc183) (by decide) (q_move rfl) (fun a S => ?_)
      refine lx_q (.int .i64 x86) S (want_b rfl rfl hc183) (by decide) (q_move rfl) (fun a S => ?_)
      obtain ⟨x184, e185, hm⟩ := bind_some hm
      obtain ⟨c186, h187, hat188⟩ := (h0).elem (idx_some e185).2
      obtain rfl := h187
      have hlt := lt_of_idx (idx_some e185).2
      refine lx_q (ePtr p0 (x86.toNat * 1)) S (want_b rfl rfl hc183) (by decide) (q_indexAddr rfl (h0).isSl rfl (idx_some e185).1 hlt Tryz.underlying28 Tryz.sizeOf2) (fun a S => ?_)
      refine lx_e (.int .i64 x184) S (want_b rfl rfl hc183) (by decide) rfl trivial (q_load1 rfl Tryz.isAgg2 (by rintro _ rfl; exact ((hat188 0 _ rfl).ext H.ext))) (fun a S => ?_)
      refine lx_q (.int .i64 a1) S (want_b rfl rfl hc183) (by decide) (q_move rfl) (fun a S => ?_)
      refine lx_q (.bool (decide (a1 ≤ x184))) S (want_b rfl rfl hc183) (by decide) (q_geq rfl rfl) (fun a S => ?_)
      refine lq (.bool (decide (a1 ≤ x184))) S (q_pickT' rfl hc183 rfl) fun a S => ?_
      refine lx_nil ?_
      obtain rfl := Option.some.inj hm
      exact ⟨S.sub ⟨rfl, rfl, rfl, rfl, rfl, rfl, trivial⟩, H⟩
     ·have hm := ite_f (eq_false_of_ne_true hc183) e182
      have hc183 : (!x85) = false := eq_false_of_ne_true hc183
      refine lx_skip S rfl rfl (isB_ne hc183) (by decide) (fun a S => ?_)
      refine lx_skip S rfl rfl (isB_ne hc183) (by decide) (fun a S => ?_)
      refine lx_skip S rfl rfl (isB_ne hc183) (by decide) (fun a S => ?_)
      refine lx_skip S rfl rfl (isB_ne hc183) (by decide) (fun a S => ?_)
      refine lx_skip S rfl rfl (isB_ne hc183) (by decide) (fun a S => ?_)
      refine lx_skip S rfl rfl (isB_ne hc183) (by decide) (fun a S => ?_)
      refine lq (.bool false) S (q_pickF' rfl hc183 rfl) fun a S => ?_
      refine lx_nil ?_
      obtain rfl := Option.some.inj hm
      exact ⟨S.sub ⟨rfl, rfl, rfl, rfl, rfl, rfl, trivial⟩, H⟩
    ·rintro a w ⟨S, H⟩
     refine lx_nil (thenN ?_)
     refine cond_b S rfl (fun hc189 => ?_) (fun hc189 => ?_)
     ·have hm := ite_t hc189 hm
      refine wp_seq (region_plain ?_)
      refine lq (.bool true) S (q_assign rfl) fun a S => ?_
      refine lx_nil (thenN ?_)
      refine wp_seq (region_plain ?_)
      refine lq p0 S (q_move rfl) fun a S => ?_
      refine lq (.int .i64 x86) S (q_move rfl) fun a S => ?_
      obtain ⟨x190, e191, hm⟩ := bind_some hm
      obtain ⟨c192, h193, hat194⟩ := (h0).elem (idx_some e191).2
      obtain rfl := h193
      have hlt := lt_of_idx (idx_some e191).2
      refine lq (ePtr p0 (x86.toNat * 1)) S (q_indexAddr rfl (h0).isSl rfl (idx_some e191).1 hlt Tryz.underlying28 Tryz.sizeOf2) fun a S => ?_
      refine lx_e (.int .i64 x190) S trivial (by decide) rfl trivial (q_load1 rfl Tryz.isAgg2 (by rintro _ rfl; exact ((hat194 0 _ rfl).ext H.ext))) (fun a S => ?_)
      refine lq (.int .i64 a1) S (q_move rfl) fun a S => ?_
      refine lq (.bool (decide (a1 < x190))) S (q_gtr rfl rfl) fun a S => ?_
      refine lx_nil (thenN ?_)
      refine cond_b S rfl (fun hc195 => ?_) (fun hc195 => ?_)
      ·have hm := ite_t hc195 hm
       refine region_plain ?_
       refine lq v82 S (q_move rfl) fun a S => ?_
       refine lq (.int .i64 a1) S (q_move rfl) fun a S => ?_
       refine lx_buildSlice (r := (rInt .i64)) (xs := [a1]) (ps := [(0, [(.int .i64 a1)])]) (cs := [(.int .i64 a1)]) (parts := [(0, .tmp 32)]) S trivial (by decide) rfl (H.put0 (A := eA) rfl) rfl Tryz.underlying28 Tryz.sizeOf2 Tryz.zeroValue2 (by decide) ⟨rfl, rfl, Nat.le_of_ble_eq_true rfl, trivial⟩ (by intro zs hz; exact fill_dense hz ⟨rfl, trivial⟩ rfl rfl) rfl (by decide) (fun w F hA => by cases (show F = [] from hA); exact ⟨_, _, [(.int .i64 a1)], _, rfl, rfl, ⟨rfl, rfl⟩, ⟨rfl, rfl⟩⟩) (fun v196 w197 H => ⟨trivial, fun a S => ?_⟩)
       obtain ⟨x199, e200, hm⟩ := bind_some hm
       obtain ⟨hle, hap⟩ := app_some e200
       replace hap := hap.symm
       subst hap
       have H : Heap w0 [oA (rList (rInt .i64)) v196 [a1], oA (rList (rInt .i64)) v82 xs83] w197 := H.front 0 rfl
       have H : Heap w0 [oA (rList (rInt .i64)) v82 xs83, oA (rList (rInt .i64)) v196 [a1]] w197 := H.front 1 rfl
       refine lx_appendOwn (r := (rInt .i64)) S trivial (by decide) rfl H rfl rfl Tryz.underlying28 Tryz.ti2 rfl rfl rfl (by decide) (by decide) hle (fun v201 w202 H => ⟨trivial, fun a S => ?_⟩)
       refine lq v201 S (q_assign rfl) fun a S => ?_
       refine lx_nil ?_
       exact ⟨(xs83 ++ [a1]), true, v201, S.sub ⟨rfl, rfl, rfl, rfl, rfl, trivial⟩, H, hm⟩
      ·have hm := ite_f hc195 hm
       refine wp_skip ?_
       exact ⟨xs83, true, v82, S.sub ⟨rfl, rfl, rfl, rfl, rfl, trivial⟩, H, hm⟩
     ·have hm := ite_f hc189 hm
      refine wp_skip ?_
      exact ⟨xs83, x85, v82, S.sub ⟨rfl, rfl, rfl, rfl, rfl, trivial⟩, H, hm⟩
  ·have hm := ite_f hc161 hm
   refine wp_exit ?_
   refine then_exit ?_
   refine then_exit ?_
   refine inBlock_exit ?_
   obtain rfl := it_brk hm hc160
   exact ⟨xs83, x85, v82, S.sub ⟨rfl, rfl, rfl, trivial⟩, H, rfl⟩

/-- spec.ReplayLabels -/
def spec_ReplayLabels_m (fuel : Nat) (a0 : Timpl_Lts) (a1 : (List Str)) : Option (((List Int) × Int)) :=
  (spec_l11Is_m fuel (a0.1, a0.2.1, a0.2.2.1, a0.2.2.2)).bind fun x54 => (if (!x54) = true then some (([], (1 : Int))) else (spec_l10Texts_m fuel a1).bind fun x61 => (if (!x61) = true then some (([], (2 : Int))) else (iter (fun (s : (List Int) × (Int)) => (match s with | (xs257, x259) => (if (decide (x259 < (a1.length : Int))) = true then some (decide ((0 : Int) < (xs257.length : Int))) else some false).bind fun t460 => (if t460 = true then (iter (fun (s : (List Int) × (Int)) => (match s with | (xs523, x525) => (if (decide (x525 < (a0.2.2.2.length : Int))) = true then join (κ := List Int → Option (((List Int) × (Int)) ⊕ (((List Int)) ⊕ (((List Int) × Int))))) (fun (xs594 : List Int) => some (.inl (xs594, (W (x525 + (1 : Int)))))) (fun K596 => (idx a0.2.2.2 x525).bind fun x598 => (idx a0.2.2.1 x598.2.1).bind fun x617 => (idx a1 x259).bind fun x622 => (if (x617 == x622) = true then (spec_l00Has_m fuel xs257 x598.1).bind fun x632 => some x632 else some false).bind fun t627 => (if t627 = true then (spec_l00Put_m fuel xs523 x598.2.2).bind fun x638 => (K596 x638) else (K596 xs523))) else some (.inr (.inl (xs523)))) : Option (((List Int) × (Int)) ⊕ (((List Int)) ⊕ (((List Int) × Int)))))) fuel (([] : List Int), (0 : Int))).bind fun res584 => ctl (β := (List Int)) (ρ := ((List Int) × Int)) (τ := (((List Int) × (Int)) ⊕ (((List Int)) ⊕ (((List Int) × Int))))) res584 (fun (xs582) => some (.inl (xs582, (W (x259 + (1 : Int)))))) (fun q => some (.inr (.inr q))) else some (.inr (.inl (xs257)))) : Option (((List Int) × (Int)) ⊕ (((List Int)) ⊕ (((List Int) × Int)))))) fuel ([a0.2.1], (0 : Int))).bind fun res450 => ctl (β := (List Int)) (ρ := ((List Int) × Int)) (τ := ((List Int) × Int)) res450 (fun (xs448) => (if ((xs448.length : Int) == (0 : Int)) = true then some (([], (3 : Int))) else some ((xs448, (0 : Int))))) (fun q => some (q))))
set_option maxRecDepth 20000 in
theorem spec_ReplayLabels_ok {w0 : World} {fuel : Nat} {p0 p1 : Value} {a0 : Timpl_Lts} {a1 : (List Str)} {r : ((List Int) × Int)} (h0 : Rd Rimpl_Lts w0 p0 a0) (h1 : Rd (rList rStr) w0 p1 a1) (hm : spec_ReplayLabels_m fuel a0 a1 = some r) :
  Calls Tryz.prog 19 #[p0, p1] w0 fun e w => ∃ (v0 : Value), e = .returned (.tuple #[v0, .int .i64 r.2]) ∧ Heap w0 [oA (rList (rInt .i64)) v0 r.1] w := by
 unfold spec_ReplayLabels_m at hm
 have H := Heap.start w0
 obtain ⟨c31, rfl, h32⟩ := h0
 obtain ⟨c37, c38, rfl, h39, h40⟩ := h32
 obtain rfl := h39
 obtain ⟨c41, c42, rfl, h43, h44⟩ := h40
 obtain rfl := h43
 obtain ⟨c45, c46, rfl, h47, h48⟩ := h44
 obtain ⟨v33, rfl, h34⟩ := rd_list h47
 obtain ⟨v35, rfl, h36⟩ := rd_list h48
 refine enter (args := [(.agg #[(.int .i64 a0.1), (.int .i64 a0.2.1), v33, v35]), p1]) Tryz.func19 rfl 69 rfl (Nat.le_of_ble_eq_true rfl) (fun a S => ?_)
 refine wp_seq (region_plain ?_)
 refine lx_box S trivial (by decide) rfl H rfl rfl (fun b49 w50 H => ⟨trivial, fun a S => ?_⟩)
 refine lq (.slice none 0 0) S (q_assign rfl) fun a S => ?_
 refine lq (.int .i64 (0 : Int)) S (q_assign rfl) fun a S => ?_
 refine lx_nil (thenN ?_)
 refine wp_seq (wp_seq (region_plain ?_))
 obtain ⟨x54, e55, hm⟩ := bind_some hm
 refine lx_call (xs := [.tmp 2]) S trivial (by decide) rfl rfl Tryz.call25 ((spec_l11Is_ok (rdPtr_box H 0 rfl ⟨[(.int .i64 a0.1)], [(.int .i64 a0.2.1), v33, v35], rfl, rfl, ⟨[(.int .i64 a0.2.1)], [v33, v35], rfl, rfl, ⟨[v33], [v35], rfl, ((H.arg h34)).list_rd, ((H.arg h36)).list_rd⟩⟩⟩) e55).mono ?_)
 rintro e w52 ⟨rfl, Hc53⟩
 have H := H.call0 Hc53
 refine ⟨_, rfl, trivial, fun a S => ?_⟩
 refine lq (.bool (!x54)) S (q_not rfl) fun a S => ?_
 refine lx_nil (thenN ?_)
 refine cond_b S rfl (fun hc57 => ?_) (fun hc57 => ?_)
 ·have hm := ite_t hc57 hm
  refine wp_seq (region_plain ?_)
  refine lq (.slice none 0 0) S (q_assign rfl) fun a S => ?_
  refine lq (.int .i64 (1 : Int)) S (q_assign rfl) fun a S => ?_
  refine lx_nil (thenN ?_)
  refine wp_ret (then_ret ?_)
  obtain rfl := Option.some.inj hm
  have H : Heap w0 [oA (rList (rInt .i64)) (.slice none 0 0) ([] : List Int), bA b49 [(.int .i64 a0.1), (.int .i64 a0.2.1), v33, v35] 33] w52 := H.nilList (rInt .i64)
  have H : Heap w0 [oA (rList (rInt .i64)) (.slice none 0 0) ([] : List Int)] w52 := H.sel [0] (by decide)
  exact leave2 S rfl rfl rfl ⟨(.slice none 0 0), rfl, H⟩
 ·have hm := ite_f hc57 hm
  refine wp_skip (thenN ?_)
  refine wp_seq (wp_seq (region_plain ?_))
  refine lq p1 S (q_move rfl) fun a S => ?_
  obtain ⟨x61, e62, hm⟩ := bind_some hm
  refine lx_call (xs := [.tmp 13]) S trivial (by decide) rfl rfl Tryz.call35 ((spec_l10Texts_ok (H.arg h1) e62).mono ?_)
  rintro e w59 ⟨rfl, Hc60⟩
  have H := H.call0 Hc60
  refine ⟨_, rfl, trivial, fun a S => ?_⟩
  refine lq (.bool (!x61)) S (q_not rfl) fun a S => ?_
  refine lx_nil (thenN ?_)
  refine cond_b S rfl (fun hc64 => ?_) (fun hc64 => ?_)
  ·have hm := ite_t hc64 hm
   refine wp_seq (region_plain ?_)
   refine lq (.slice none 0 0) S (q_assign rfl) fun a S => ?_
   refine lq (.int .i64 (2 : Int)) S (q_assign rfl) fun a S => ?_
   refine lx_nil (thenN ?_)
   refine wp_ret (then_ret ?_)
   obtain rfl := Option.some.inj hm
   have H : Heap w0 [oA (rList (rInt .i64)) (.slice none 0 0) ([] : List Int), bA b49 [(.int .i64 a0.1), (.int .i64 a0.2.1), v33, v35] 33] w59 := H.nilList (rInt .i64)
   have H : Heap w0 [oA (rList (rInt .i64)) (.slice none 0 0) ([] : List Int)] w59 := H.sel [0] (by decide)
   exact leave2 S rfl rfl rfl ⟨(.slice none 0 0), rfl, H⟩
  ·have hm := ite_f hc64 hm
   refine wp_skip (thenN ?_)
   refine wp_seq (region_plain ?_)
   refine lq (pAdd (bp b49) 1) S (q_fieldAddr' 1 2 rfl (isP_bp _) Tryz.underlying33 rfl Tryz.sizeOf2) fun a S => ?_
   refine lx_e (.int .i64 a0.2.1) S trivial (by decide) rfl trivial (q_load1 rfl Tryz.isAgg2 (by rintro _ rfl; exact (At.of_add (m := 1) (j := 0) (boxAt (i := 0) H rfl (j := 1) rfl)))) (fun a S => ?_)
   refine lx_buildSlice (r := (rInt .i64)) (xs := [a0.2.1]) (ps := [(0, [(.int .i64 a0.2.1)])]) (cs := [(.int .i64 a0.2.1)]) (parts := [(0, .tmp 17)]) S trivial (by decide) rfl (H.put0 (A := eA) rfl) rfl Tryz.underlying28 Tryz.sizeOf2 Tryz.zeroValue2 (by decide) ⟨rfl, rfl, Nat.le_of_ble_eq_true rfl, trivial⟩ (by intro zs hz; exact fill_dense hz ⟨rfl, trivial⟩ rfl rfl) rfl (by decide) (fun w F hA => by cases (show F = [] from hA); exact ⟨_, _, [(.int .i64 a0.2.1)], _, rfl, rfl, ⟨rfl, rfl⟩, ⟨rfl, rfl⟩⟩) (fun v66 w67 H => ⟨trivial, fun a S => ?_⟩)
   refine lq v66 S (q_assign rfl) fun a S => ?_
   refine lx_nil (thenN ?_)
   refine wp_seq (wp_seq (region_plain ?_))
   refine lq (.int .i64 (0 : Int)) S (q_assign rfl) fun a S => ?_
   refine lx_nil (thenN ?_)
   obtain ⟨res450, hit451, hk454⟩ := bind_some hm
   obtain ⟨f452, hf453, hit451⟩ := iter_name hit451
   refine block_loop (fun a w => ∃ (xs448 : List Int) (v447 : Value), Slots a 69 [(6, v447)] ∧ Heap w0 [oA (rList (rInt .i64)) v447 xs448] w ∧ res450 = .inl (xs448)) ?_ ?_
   ·rintro a w ⟨xs448, v447, S, H, rfl⟩
    have hm := ctl_inl hk454
    refine thenN ?_
    refine wp_seq (wp_seq (region_plain ?_))
    refine lq v447 S (q_move rfl) fun a S => ?_
    refine lq (.int .i64 (xs448.length : Int)) S (q_lenSl rfl (H.isSl 0 rfl) rfl Tryz.underlying28) fun a S => ?_
    refine lq (.bool ((xs448.length : Int) == (0 : Int))) S (q_eql rfl rfl) fun a S => ?_
    refine lx_nil (thenN ?_)
    refine cond_b S rfl (fun hc455 => ?_) (fun hc455 => ?_)
    ·have hm := ite_t hc455 hm
     refine wp_seq (region_plain ?_)
     refine lq (.slice none 0 0) S (q_assign rfl) fun a S => ?_
     refine lq (.int .i64 (3 : Int)) S (q_assign rfl) fun a S => ?_
     refine lx_nil (thenN ?_)
     refine wp_ret (then_ret ?_)
     obtain rfl := Option.some.inj hm
     have H : Heap w0 [oA (rList (rInt .i64)) (.slice none 0 0) ([] : List Int), oA (rList (rInt .i64)) v447 xs448] w := H.nilList (rInt .i64)
     have H : Heap w0 [oA (rList (rInt .i64)) (.slice none 0 0) ([] : List Int)] w := H.sel [0] (by decide)
     exact leave2 S rfl rfl rfl ⟨(.slice none 0 0), rfl, H⟩
    ·have hm := ite_f hc455 hm
     refine wp_skip (thenN ?_)
     refine wp_seq (region_plain ?_)
     refine lq v447 S (q_move rfl) fun a S => ?_
     refine lq v447 S (q_assign rfl) fun a S => ?_
     refine lq (.int .i64 (0 : Int)) S (q_assign rfl) fun a S => ?_
     refine lx_nil (thenN ?_)
     refine wp_ret ?_
     obtain rfl := Option.some.inj hm
     exact leave2 S rfl rfl rfl ⟨v447, rfl, H⟩
   ·skip
    have H : Heap w0 [bA b49 [(.int .i64 a0.1), (.int .i64 a0.2.1), v33, v35] 33, oA (rList (rInt .i64)) v66 [a0.2.1]] w67 := H.front 1 rfl
    refine loop_ghost (fun n a w => ∃ (xs257 : List Int) (x259 : Int) (v256 : Value), Slots a 69 [(1, p1), (2, (bp b49)), (6, v256), (7, (.int .i64 x259))] ∧ Heap w0 [bA b49 [(.int .i64 a0.1), (.int .i64 a0.2.1), v33, v35] 33, oA (rList (rInt .i64)) v256 xs257] w ∧ iter f452 n (xs257, x259) = some res450) _ ⟨[a0.2.1], (0 : Int), v66, S.sub ⟨rfl, rfl, rfl, rfl, trivial⟩, H, hit451⟩ ?_
    rintro n a w ⟨xs257, x259, v256, S, H, hit451⟩
    obtain ⟨m457, o458, rfl, hm, hc459⟩ := iter_step hit451
    rw [hf453] at hm
    refine wp_seq (wp_seq (region_plain ?_))
    refine lq (.int .i64 x259) S (q_move rfl) fun a S => ?_
    refine lq p1 S (q_move rfl) fun a S => ?_
    refine lq (.int .i64 (a1.length : Int)) S (q_lenSl rfl (h1).isSl rfl Tryz.underlying22) fun a S => ?_
    refine lq (.bool (decide (x259 < (a1.length : Int)))) S (q_lss rfl rfl) fun a S => ?_
    refine lq (.bool (decide (x259 < (a1.length : Int)))) S (q_move rfl) fun a S => ?_
    obtain ⟨t460, e461, hm⟩ := bind_some hm
    refine lx_cut 4 (fun a w => Slots a 69 [(1, p1), (2, (bp b49)), (6, v256), (7, (.int .i64 x259)), (27, (.bool t460))] ∧ Heap w0 [bA b49 [(.int .i64 a0.1), (.int .i64 a0.2.1), v33, v35] 33, oA (rList (rInt .i64)) v256 xs257] w) ?_ ?_
    ·by_cases hc462 : (decide (x259 < (a1.length : Int))) = true
     ·have hm := ite_t hc462 e461
      refine lx_q v256 S (want_b rfl rfl hc462) (by decide) (q_move rfl) (fun a S => ?_)
      refine lx_q (.int .i64 (xs257.length : Int)) S (want_b rfl rfl hc462) (by decide) (q_lenSl rfl (H.isSl 1 rfl) rfl Tryz.underlying28) (fun a S => ?_)
      refine lx_q (.bool (decide ((0 : Int) < (xs257.length : Int)))) S (want_b rfl rfl hc462) (by decide) (q_gtr rfl rfl) (fun a S => ?_)
      refine lq (.bool (decide ((0 : Int) < (xs257.length : Int)))) S (q_pickT' rfl hc462 rfl) fun a S => ?_
      refine lx_nil ?_
      obtain rfl := Option.some.inj hm
      exact ⟨S.sub ⟨rfl, rfl, rfl, rfl, rfl, trivial⟩, H⟩
     ·have hm := ite_f (eq_false_of_ne_true hc462) e461
      have hc462 : (decide (x259 < (a1.length : Int))) = false := eq_false_of_ne_true hc462
      refine lx_skip S rfl rfl (isB_ne hc462) (by decide) (fun a S => ?_)
      refine lx_skip S rfl rfl (isB_ne hc462) (by decide) (fun a S => ?_)
      refine lx_skip S rfl rfl (isB_ne hc462) (by decide) (fun a S => ?_)
      refine lq (.bool false) S (q_pickF' rfl hc462 rfl) fun a S => ?_
      refine lx_nil ?_
      obtain rfl := Option.some.inj hm
      exact ⟨S.sub ⟨rfl, rfl, rfl, rfl, rfl, trivial⟩, H⟩
    ·rintro a w ⟨S, H⟩
     refine lx_nil (thenN ?_)
     refine cond_b S rfl (fun hc463 => ?_) (fun hc463 => ?_)
     ·have hm := ite_t hc463 hm
      refine wp_skip (thenN ?_)
      refine wp_seq ?_
      refine wp_block ?_
      refine wp_seq (region_plain ?_)
      refine lx_buildSlice0 (r := (rInt .i64)) S trivial (by decide) rfl H Tryz.underlying28 Tryz.sizeOf2 (fun v464 w465 H => ⟨trivial, fun a S => ?_⟩)
      refine lq v464 S (q_assign rfl) fun a S => ?_
      refine lx_nil (thenN ?_)
      refine wp_seq (wp_seq (region_plain ?_))
      refine lq (.int .i64 (0 : Int)) S (q_assign rfl) fun a S => ?_
      refine lx_nil (thenN ?_)
      obtain ⟨res584, hit585, hk588⟩ := bind_some hm
      obtain ⟨f586, hf587, hit585⟩ := iter_name hit585
      refine block_loop (fun a w => ∃ (xs582 : List Int) (v581 : Value), Slots a 69 [(1, p1), (2, (bp b49)), (7, (.int .i64 x259)), (8, v581)] ∧ Heap w0 [bA b49 [(.int .i64 a0.1), (.int .i64 a0.2.1), v33, v35] 33, oA (rList (rInt .i64)) v581 xs582] w ∧ res584 = .inl (xs582)) ?_ ?_
      ·rintro a w ⟨xs582, v581, S, H, rfl⟩
       have hm := ctl_inl hk588
       refine thenN ?_
       refine region_plain ?_
       refine lq v581 S (q_move rfl) fun a S => ?_
       refine lq v581 S (q_assign rfl) fun a S => ?_
       refine lx_nil ?_
       refine inBlock_norm ?_
       refine thenN ?_
       refine region_plain ?_
       refine lq (.int .i64 x259) S (q_move rfl) fun a S => ?_
       refine lq (.int .i64 (W (x259 + (1 : Int)))) S (q_add rfl rfl) fun a S => ?_
       refine lq (.int .i64 (W (x259 + (1 : Int)))) S (q_assign rfl) fun a S => ?_
       refine lx_nil ?_
       exact ⟨m457, Nat.lt_succ_self _, xs582, (W (x259 + (1 : Int))), v581, S.sub ⟨rfl, rfl, rfl, rfl, trivial⟩, H, it_cont hm hc459⟩
      ·skip
       have H : Heap w0 [oA (rList (rInt .i64)) v256 xs257, oA (rList (rInt .i64)) v464 ([] : List Int), bA b49 [(.int .i64 a0.1), (.int .i64 a0.2.1), v33, v35] 33] w465 := H.front 2 rfl
       have H : Heap w0 [bA b49 [(.int .i64 a0.1), (.int .i64 a0.2.1), v33, v35] 33, oA (rList (rInt .i64)) v256 xs257, oA (rList (rInt .i64)) v464 ([] : List Int)] w465 := H.front 2 rfl
       refine loop_ghost (fun n a w => ∃ (xs523 : List Int) (x525 : Int) (v522 : Value), Slots a 69 [(1, p1), (2, (bp b49)), (6, v256), (7, (.int .i64 x259)), (8, v522), (9, (.int .i64 x525))] ∧ Heap w0 [bA b49 [(.int .i64 a0.1), (.int .i64 a0.2.1), v33, v35] 33, oA (rList (rInt .i64)) v256 xs257, oA (rList (rInt .i64)) v522 xs523] w ∧ iter f586 n (xs523, x525) = some res584) _ ⟨([] : List Int), (0 : Int), v464, S.sub ⟨rfl, rfl, rfl, rfl, rfl, rfl, trivial⟩, H, hit585⟩ ?_
       rintro n a w ⟨xs523, x525, v522, S, H, hit585⟩
       obtain ⟨m589, o590, rfl, hm, hc591⟩ := iter_step hit585
       rw [hf587] at hm
       refine wp_seq (wp_seq (region_plain ?_))
       refine lq (.int .i64 x525) S (q_move rfl) fun a S => ?_
       refine lq (pAdd (bp b49) 3) S (q_fieldAddr' 3 31 rfl (isP_bp _) Tryz.underlying33 rfl Tryz.sizeOf31) fun a S => ?_
       refine lx_e v35 S trivial (by decide) rfl trivial (q_load1 rfl Tryz.isAgg31 (by rintro _ rfl; exact (At.of_add (m := 3) (j := 0) (boxAt (i := 0) H rfl (j := 3) rfl)))) (fun a S => ?_)
       refine lq (.int .i64 (a0.2.2.2.length : Int)) S (q_lenSl rfl (h36).isSl rfl Tryz.underlying31) fun a S => ?_
       refine lq (.bool (decide (x525 < (a0.2.2.2.length : Int)))) S (q_lss rfl rfl) fun a S => ?_
       refine lx_nil (thenN ?_)
       refine cond_b S rfl (fun hc592 => ?_) (fun hc592 => ?_)
       ·have hm := ite_t hc592 hm
        refine wp_skip (thenN ?_)
        obtain ⟨K596, hK597, hm⟩ := join_elim hm
        refine seq_cut (fun a w => ∃ (xs594 : List Int) (v593 : Value), Slots a 69 [(1, p1), (2, (bp b49)), (6, v256), (7, (.int .i64 x259)), (8, v593), (9, (.int .i64 x525))] ∧ Heap w0 [bA b49 [(.int .i64 a0.1), (.int .i64 a0.2.1), v33, v35] 33, oA (rList (rInt .i64)) v256 xs257, oA (rList (rInt .i64)) v593 xs594] w ∧ K596 xs594 = some o590) ?_ ?_
        ·rintro a w ⟨xs594, v593, S, H, hm⟩
         subst hK597
         refine region_plain ?_
         refine lq (.int .i64 x525) S (q_move rfl) fun a S => ?_
         refine lq (.int .i64 (W (x525 + (1 : Int)))) S (q_add rfl rfl) fun a S => ?_
         refine lq (.int .i64 (W (x525 + (1 : Int)))) S (q_assign rfl) fun a S => ?_
         refine lx_nil ?_
         exact ⟨m589, Nat.lt_succ_self _, xs594, (W (x525 + (1 : Int))), v593, S.sub ⟨rfl, rfl, rfl, rfl, rfl, rfl, trivial⟩, H, it_cont hm hc591⟩
        ·skip
         refine wp_block ?_
         refine wp_seq (region_plain ?_)
         refine lq (pAdd (bp b49) 3) S (q_fieldAddr' 3 31 rfl (isP_bp _) Tryz.underlying33 rfl Tryz.sizeOf31) fun a S => ?_
         refine lx_e v35 S trivial (by decide) rfl trivial (q_load1 rfl Tryz.isAgg31 (by rintro _ rfl; exact (At.of_add (m := 3) (j := 0) (boxAt (i := 0) H rfl (j := 3) rfl)))) (fun a S => ?_)
         refine lq (.int .i64 x525) S (q_move rfl) fun a S => ?_
         obtain ⟨x598, e599, hm⟩ := bind_some hm
         obtain ⟨c600, h601, hat602⟩ := (h36).elem (idx_some e599).2
         obtain ⟨c603, c604, rfl, h605, h606⟩ := h601
         obtain rfl := h605
         obtain ⟨c607, c608, rfl, h609, h610⟩ := h606
         obtain rfl := h609
         obtain rfl := h610
         have hlt := lt_of_idx (idx_some e599).2
         refine lq (ePtr v35 (x525.toNat * 3)) S (q_indexAddr rfl (h36).isSl rfl (idx_some e599).1 hlt Tryz.underlying31 Tryz.sizeOf57) fun a S => ?_
         refine lx_e (.agg #[(.int .i64 x598.1), (.int .i64 x598.2.1), (.int .i64 x598.2.2)]) S trivial (by decide) rfl trivial (q_loadA (cs := [(.int .i64 x598.1), (.int .i64 x598.2.1), (.int .i64 x598.2.2)]) rfl ((hat602 0 _ rfl).isP) Tryz.isAgg57 Tryz.sizeOf57 (by rintro _ rfl; exact (fun j u hu => (hat602 j u hu).ext H.ext))) (fun a S => ?_)
         refine lx_alloc S trivial (by decide) rfl H Tryz.zeroValue57 rfl (fun b611 w612 H => ⟨trivial, fun a S => ?_⟩)
         refine lx_storeBox (o := 0) (i := 0) (us := [(.int .i64 x598.1), (.int .i64 x598.2.1), (.int .i64 x598.2.2)]) (cs' := [(.int .i64 x598.1), (.int .i64 x598.2.1), (.int .i64 x598.2.2)]) S trivial rfl H rfl rfl rfl rfl Tryz.sizeOf57 (Nat.le_of_ble_eq_true rfl) (List.forall_mem_cons.2 ⟨rfl, (List.forall_mem_cons.2 ⟨rfl, (List.forall_mem_cons.2 ⟨rfl, (fun _ h => nomatch h)⟩)⟩)⟩) rfl (fun w614 H => ⟨trivial, fun a S => ?_⟩)
         change Heap w0 [bA b611 [(.int .i64 x598.1), (.int .i64 x598.2.1), (.int .i64 x598.2.2)] 57, bA b49 [(.int .i64 a0.1), (.int .i64 a0.2.1), v33, v35] 33, oA (rList (rInt .i64)) v256 xs257, oA (rList (rInt .i64)) v522 xs523] w614 at H
         refine lx_nil (thenN ?_)
         refine wp_seq ?_
         refine region_drawG (fun w1 => Heap w0 [bA b611 [(.int .i64 x598.1), (.int .i64 x598.2.1), (.int .i64 x598.2.2)] 57, bA b49 [(.int .i64 a0.1), (.int .i64 a0.2.1), v33, v35] 33] w1) (fun i => [15].contains i) mixed (by kernel_rfl) (fun w616 he615 => ?_)
         have H := H.later he615
         refine ⟨H.sel [0, 1] (by decide), ?_⟩
         refine lq (pAdd (bp b49) 2) S (q_fieldAddr' 2 22 rfl (isP_bp _) Tryz.underlying33 rfl Tryz.sizeOf22) fun a S => ?_
         refine lq v33 S (q_load1 rfl Tryz.isAgg22 (fun w1 hC => (At.of_add (m := 2) (j := 0) (boxAt (i := 1) hC rfl (j := 2) rfl)))) fun a S => ?_
         refine lq (pAdd (bp b611) 1) S (q_fieldAddr' 1 2 rfl (isP_bp _) Tryz.underlying57 rfl Tryz.sizeOf2) fun a S => ?_
         refine lq (.int .i64 x598.2.1) S (q_load1 rfl Tryz.isAgg2 (fun w1 hC => (At.of_add (m := 1) (j := 0) (boxAt (i := 0) hC rfl (j := 1) rfl)))) fun a S => ?_
         obtain ⟨x617, e618, hm⟩ := bind_some hm
         obtain ⟨c619, h620, hat621⟩ := (h34).elem (idx_some e618).2
         obtain rfl := h620
         have hlt := lt_of_idx (idx_some e618).2
         refine lq (ePtr v33 (x598.2.1.toNat * 1)) S (q_indexAddr rfl (h34).isSl rfl (idx_some e618).1 hlt Tryz.underlying22 Tryz.sizeOf9) fun a S => ?_
         refine lq (sv x617) S (q_load1 rfl Tryz.isAgg9 (fun w1 hC => ((hat621 0 _ rfl).ext hC.ext))) fun a S => ?_
         refine lq p1 S (q_move rfl) fun a S => ?_
         refine lq (.int .i64 x259) S (q_move rfl) fun a S => ?_
         obtain ⟨x622, e623, hm⟩ := bind_some hm
         obtain ⟨c624, h625, hat626⟩ := (h1).elem (idx_some e623).2
         obtain rfl := h625
         have hlt := lt_of_idx (idx_some e623).2
         refine lq (ePtr p1 (x259.toNat * 1)) S (q_indexAddr rfl (h1).isSl rfl (idx_some e623).1 hlt Tryz.underlying22 Tryz.sizeOf9) fun a S => ?_
         refine lq (sv x622) S (q_load1 rfl Tryz.isAgg9 (fun w1 hC => ((hat626 0 _ rfl).ext hC.ext))) fun a S => ?_
         refine lq (.bool (x617 == x622)) S (q_seql rfl rfl) fun a S => ?_
         refine lq (.bool (x617 == x622)) S (q_move rfl) fun a S => ?_
         obtain ⟨t627, e628, hm⟩ := bind_some hm
         refine lx_cut 5 (fun a w => Slots a 69 [(1, p1), (2, (bp b49)), (6, v256), (7, (.int .i64 x259)), (8, v522), (9, (.int .i64 x525)), (10, (bp b611)), (59, (.bool t627))] ∧ Heap w0 [bA b611 [(.int .i64 x598.1), (.int .i64 x598.2.1), (.int .i64 x598.2.2)] 57, bA b49 [(.int .i64 a0.1), (.int .i64 a0.2.1), v33, v35] 33, oA (rList (rInt .i64)) v256 xs257, oA (rList (rInt .i64)) v522 xs523] w) ?_ ?_
         ·by_cases hc629 : (x617 == x622) = true
          ·have hm := ite_t hc629 e628
           refine lx_q v256 S (want_b rfl rfl hc629) (by decide) (q_move rfl) (fun a S => ?_)
           refine lx_q (pAdd (bp b611) 0) S (want_b rfl rfl hc629) (by decide) (q_fieldAddr' 0 2 rfl (isP_bp _) Tryz.underlying57 rfl Tryz.sizeOf2) (fun a S => ?_)
           refine lx_q (.int .i64 x598.1) S (want_b rfl rfl hc629) (by decide) (q_load1 rfl Tryz.isAgg2 (fun w1 hC => (At.of_add (m := 0) (j := 0) (boxAt (i := 0) hC rfl (j := 0) rfl)))) (fun a S => ?_)
           obtain ⟨x632, e633, hm⟩ := bind_some hm
           refine lx_call (xs := [.tmp 55, .tmp 57]) S (want_b rfl rfl hc629) (by decide) rfl rfl Tryz.call36 ((spec_l00Has_ok (H.rdAt 2 rfl)  e633).mono ?_)
           rintro e w630 ⟨rfl, Hc631⟩
           have H := H.call0 Hc631
           refine ⟨_, rfl, H.sel [0, 1] (by decide), fun a S => ?_⟩
           refine lq (.bool x632) S (q_pickT' rfl hc629 rfl) fun a S => ?_
           refine lx_nil ?_
           obtain rfl := Option.some.inj hm
           exact ⟨S.sub ⟨rfl, rfl, rfl, rfl, rfl, rfl, rfl, rfl, trivial⟩, H⟩
          ·have hm := ite_f (eq_false_of_ne_true hc629) e628
           have hc629 : (x617 == x622) = false := eq_false_of_ne_true hc629
           refine lx_skip S rfl rfl (isB_ne hc629) (by decide) (fun a S => ?_)
           refine lx_skip S rfl rfl (isB_ne hc629) (by decide) (fun a S => ?_)
           refine lx_skip S rfl rfl (isB_ne hc629) (by decide) (fun a S => ?_)
           refine lx_skip S rfl rfl (isB_ne hc629) (by decide) (fun a S => ?_)
           refine lq (.bool false) S (q_pickF' rfl hc629 rfl) fun a S => ?_
           refine lx_nil ?_
           obtain rfl := Option.some.inj hm
           exact ⟨S.sub ⟨rfl, rfl, rfl, rfl, rfl, rfl, rfl, rfl, trivial⟩, H⟩
         ·rintro a w ⟨S, H⟩
          refine lx_nil (thenN ?_)
          refine cond_b S rfl (fun hc635 => ?_) (fun hc635 => ?_)
          ·have hm := ite_t hc635 hm
           refine region_plain ?_
           refine lq v522 S (q_move rfl) fun a S => ?_
           refine lq (pAdd (bp b611) 2) S (q_fieldAddr' 2 2 rfl (isP_bp _) Tryz.underlying57 rfl Tryz.sizeOf2) fun a S => ?_
           refine lx_e (.int .i64 x598.2.2) S trivial (by decide) rfl trivial (q_load1 rfl Tryz.isAgg2 (by rintro _ rfl; exact (At.of_add (m := 2) (j := 0) (boxAt (i := 0) H rfl (j := 2) rfl)))) (fun a S => ?_)
           obtain ⟨x638, e639, hm⟩ := bind_some hm
           refine lx_call (xs := [.tmp 60, .tmp 62]) S trivial (by decide) rfl rfl Tryz.call37 ((spec_l00Put_ok (H.rdAt 3 rfl)  e639).mono ?_)
           rintro e w636 ⟨v640, rfl, Hc637⟩
           have H := H.call1 Hc637
           refine ⟨_, rfl, trivial, fun a S => ?_⟩
           refine lq v640 S (q_assign rfl) fun a S => ?_
           refine lx_nil ?_
           refine inBlock_norm ?_
           have H : Heap w0 [oA (rList (rInt .i64)) v256 xs257, oA (rList (rInt .i64)) v640 x638, bA b611 [(.int .i64 x598.1), (.int .i64 x598.2.1), (.int .i64 x598.2.2)] 57, bA b49 [(.int .i64 a0.1), (.int .i64 a0.2.1), v33, v35] 33, oA (rList (rInt .i64)) v522 xs523] w636 := H.front 3 rfl
           have H : Heap w0 [bA b49 [(.int .i64 a0.1), (.int .i64 a0.2.1), v33, v35] 33, oA (rList (rInt .i64)) v256 xs257, oA (rList (rInt .i64)) v640 x638, bA b611 [(.int .i64 x598.1), (.int .i64 x598.2.1), (.int .i64 x598.2.2)] 57, oA (rList (rInt .i64)) v522 xs523] w636 := H.front 3 rfl
           have H : Heap w0 [bA b49 [(.int .i64 a0.1), (.int .i64 a0.2.1), v33, v35] 33, oA (rList (rInt .i64)) v256 xs257, oA (rList (rInt .i64)) v640 x638] w636 := H.sel [0, 1, 2] (by decide)
           exact ⟨x638, v640, S.sub ⟨rfl, rfl, rfl, rfl, rfl, rfl, trivial⟩, H, hm⟩
          ·have hm := ite_f hc635 hm
           refine wp_skip ?_
           refine inBlock_norm ?_
           have H : Heap w0 [bA b49 [(.int .i64 a0.1), (.int .i64 a0.2.1), v33, v35] 33, oA (rList (rInt .i64)) v256 xs257, oA (rList (rInt .i64)) v522 xs523] w := H.sel [1, 2, 3] (by decide)
           exact ⟨xs523, v522, S.sub ⟨rfl, rfl, rfl, rfl, rfl, rfl, trivial⟩, H, hm⟩
       ·have hm := ite_f hc592 hm
        refine wp_exit ?_
        refine then_exit ?_
        refine then_exit ?_
        refine inBlock_exit ?_
        obtain rfl := it_brk hm hc591
        have H : Heap w0 [bA b49 [(.int .i64 a0.1), (.int .i64 a0.2.1), v33, v35] 33, oA (rList (rInt .i64)) v522 xs523] w := H.sel [0, 2] (by decide)
        exact ⟨xs523, v522, S.sub ⟨rfl, rfl, rfl, rfl, trivial⟩, H, rfl⟩
     ·have hm := ite_f hc463 hm
      refine wp_exit ?_
      refine then_exit ?_
      refine then_exit ?_
      refine inBlock_exit ?_
      obtain rfl := it_brk hm hc459
      have H : Heap w0 [oA (rList (rInt .i64)) v256 xs257] w := H.sel [1] (by decide)
      exact ⟨xs257, v256, S.sub ⟨rfl, trivial⟩, H, rfl⟩

/-- impl.ReplayLabels -/
def impl_ReplayLabels_m (fuel : Nat) (a0 : Timpl_Lts) (a1 : (List Str)) : Option (((List Int) × Int)) :=
  (impl_ValidLts_m fuel (a0.1, a0.2.1, a0.2.2.1, a0.2.2.2)).bind fun x54 => (if (!x54) = true then some (([], (1 : Int))) else (impl_areLabels_m fuel a1).bind fun x61 => (if (!x61) = true then some (([], (2 : Int))) else (iter (fun (s : (List Int) × (Int)) => (match s with | (xs87, x89) => (if (decide (x89 < (a1.length : Int))) = true then (idx a1 x89).bind fun x121 => (impl_Lts_follow_m fuel (a0.1, a0.2.1, a0.2.2.1, a0.2.2.2) xs87 x121).bind fun x128 => some (.inl (x128, (W (x89 + (1 : Int))))) else some (.inr (.inl (xs87)))) : Option (((List Int) × (Int)) ⊕ (((List Int)) ⊕ (((List Int) × Int)))))) fuel ([a0.2.1], (0 : Int))).bind fun res110 => ctl (β := (List Int)) (ρ := ((List Int) × Int)) (τ := ((List Int) × Int)) res110 (fun (xs108) => (if ((xs108.length : Int) == (0 : Int)) = true then some (([], (3 : Int))) else some ((xs108, (0 : Int))))) (fun q => some (q))))
set_option maxRecDepth 20000 in
theorem impl_ReplayLabels_ok {w0 : World} {fuel : Nat} {p0 p1 : Value} {a0 : Timpl_Lts} {a1 : (List Str)} {r : ((List Int) × Int)} (hG : Glob Tryz.prog w0) (h0 : Rd Rimpl_Lts w0 p0 a0) (h1 : Rd (rList rStr) w0 p1 a1) (hm : impl_ReplayLabels_m fuel a0 a1 = some r) :
  Calls Tryz.prog 20 #[p0, p1] w0 fun e w => ∃ (v0 : Value), e = .returned (.tuple #[v0, .int .i64 r.2]) ∧ Heap w0 [oA (rList (rInt .i64)) v0 r.1] w := by
 unfold impl_ReplayLabels_m at hm
 have H := Heap.start w0
 obtain ⟨c31, rfl, h32⟩ := h0
 obtain ⟨c37, c38, rfl, h39, h40⟩ := h32
 obtain rfl := h39
 obtain ⟨c41, c42, rfl, h43, h44⟩ := h40
 obtain rfl := h43
 obtain ⟨c45, c46, rfl, h47, h48⟩ := h44
 obtain ⟨v33, rfl, h34⟩ := rd_list h47
 obtain ⟨v35, rfl, h36⟩ := rd_list h48
 refine enter (args := [(.agg #[(.int .i64 a0.1), (.int .i64 a0.2.1), v33, v35]), p1]) Tryz.func20 rfl 35 rfl (Nat.le_of_ble_eq_true rfl) (fun a S => ?_)
 refine wp_seq (region_plain ?_)
 refine lx_box S trivial (by decide) rfl H rfl rfl (fun b49 w50 H => ⟨trivial, fun a S => ?_⟩)
 refine lq (.slice none 0 0) S (q_assign rfl) fun a S => ?_
 refine lq (.int .i64 (0 : Int)) S (q_assign rfl) fun a S => ?_
 refine lx_nil (thenN ?_)
 refine wp_seq ?_
 refine wp_block ?_
 refine wp_seq (region_plain ?_)
 refine lx_e (.agg #[(.int .i64 a0.1), (.int .i64 a0.2.1), v33, v35]) S trivial (by decide) rfl trivial (q_loadA (cs := [(.int .i64 a0.1), (.int .i64 a0.2.1), v33, v35]) rfl (isP_bp _) Tryz.isAgg33 Tryz.sizeOf33 (by rintro _ rfl; exact (fun j u hu => boxAt (i := 0) H rfl hu))) (fun a S => ?_)
 obtain ⟨x54, e55, hm⟩ := bind_some hm
 refine lx_call (xs := [.tmp 10]) S trivial (by decide) rfl rfl Tryz.call29 ((impl_ValidLts_ok (hG.ext H.ext) ⟨[(.int .i64 a0.1), (.int .i64 a0.2.1), v33, v35], rfl, ⟨[(.int .i64 a0.1)], [(.int .i64 a0.2.1), v33, v35], rfl, rfl, ⟨[(.int .i64 a0.2.1)], [v33, v35], rfl, rfl, ⟨[v33], [v35], rfl, ((H.arg h34)).list_rd, ((H.arg h36)).list_rd⟩⟩⟩⟩ e55).mono ?_)
 rintro e w52 ⟨rfl, Hc53⟩
 have H := H.call0 Hc53
 refine ⟨_, rfl, trivial, fun a S => ?_⟩
 refine lq (.bool (!x54)) S (q_not rfl) fun a S => ?_
 refine lq (.bool (!x54)) S (q_assign rfl) fun a S => ?_
 refine lx_nil (thenN ?_)
 refine cond_b S rfl (fun hc57 => ?_) (fun hc57 => ?_)
 ·have hm := ite_t hc57 hm
  refine wp_seq (region_plain ?_)
  refine lq (.slice none 0 0) S (q_assign rfl) fun a S => ?_
  refine lq (.int .i64 (1 : Int)) S (q_assign rfl) fun a S => ?_
  refine lx_nil (thenN ?_)
  refine wp_ret (inBlock_ret ?_)
  refine then_ret ?_
  obtain rfl := Option.some.inj hm
  have H : Heap w0 [oA (rList (rInt .i64)) (.slice none 0 0) ([] : List Int), bA b49 [(.int .i64 a0.1), (.int .i64 a0.2.1), v33, v35] 33] w52 := H.nilList (rInt .i64)
  have H : Heap w0 [oA (rList (rInt .i64)) (.slice none 0 0) ([] : List Int)] w52 := H.sel [0] (by decide)
  exact leave2 S rfl rfl rfl ⟨(.slice none 0 0), rfl, H⟩
 ·have hm := ite_f hc57 hm
  refine wp_seq (region_plain ?_)
  refine lq p1 S (q_move rfl) fun a S => ?_
  obtain ⟨x61, e62, hm⟩ := bind_some hm
  refine lx_call (xs := [.tmp 14]) S trivial (by decide) rfl rfl Tryz.call38 ((impl_areLabels_ok (hG.ext H.ext) (H.arg h1) e62).mono ?_)
  rintro e w59 ⟨rfl, Hc60⟩
  have H := H.call0 Hc60
  refine ⟨_, rfl, trivial, fun a S => ?_⟩
  refine lq (.bool (!x61)) S (q_not rfl) fun a S => ?_
  refine lq (.bool (!x61)) S (q_assign rfl) fun a S => ?_
  refine lx_nil (thenN ?_)
  refine cond_b S rfl (fun hc64 => ?_) (fun hc64 => ?_)
  ·have hm := ite_t hc64 hm
   refine wp_seq (region_plain ?_)
   refine lq (.slice none 0 0) S (q_assign rfl) fun a S => ?_
   refine lq (.int .i64 (2 : Int)) S (q_assign rfl) fun a S => ?_
   refine lx_nil (thenN ?_)
   refine wp_ret (inBlock_ret ?_)
   refine then_ret ?_
   obtain rfl := Option.some.inj hm
   have H : Heap w0 [oA (rList (rInt .i64)) (.slice none 0 0) ([] : List Int), bA b49 [(.int .i64 a0.1), (.int .i64 a0.2.1), v33, v35] 33] w59 := H.nilList (rInt .i64)
   have H : Heap w0 [oA (rList (rInt .i64)) (.slice none 0 0) ([] : List Int)] w59 := H.sel [0] (by decide)
   exact leave2 S rfl rfl rfl ⟨(.slice none 0 0), rfl, H⟩
  ·have hm := ite_f hc64 hm
   refine wp_skip ?_
   refine inBlock_norm ?_
   refine thenN ?_
   refine wp_seq (region_plain ?_)
   refine lq (pAdd (bp b49) 1) S (q_fieldAddr' 1 2 rfl (isP_bp _) Tryz.underlying33 rfl Tryz.sizeOf2) fun a S => ?_
   refine lx_e (.int .i64 a0.2.1) S trivial (by decide) rfl trivial (q_load1 rfl Tryz.isAgg2 (by rintro _ rfl; exact (At.of_add (m := 1) (j := 0) (boxAt (i := 0) H rfl (j := 1) rfl)))) (fun a S => ?_)
   refine lx_buildSlice (r := (rInt .i64)) (xs := [a0.2.1]) (ps := [(0, [(.int .i64 a0.2.1)])]) (cs := [(.int .i64 a0.2.1)]) (parts := [(0, .tmp 18)]) S trivial (by decide) rfl (H.put0 (A := eA) rfl) rfl Tryz.underlying28 Tryz.sizeOf2 Tryz.zeroValue2 (by decide) ⟨rfl, rfl, Nat.le_of_ble_eq_true rfl, trivial⟩ (by intro zs hz; exact fill_dense hz ⟨rfl, trivial⟩ rfl rfl) rfl (by decide) (fun w F hA => by cases (show F = [] from hA); exact ⟨_, _, [(.int .i64 a0.2.1)], _, rfl, rfl, ⟨rfl, rfl⟩, ⟨rfl, rfl⟩⟩) (fun v66 w67 H => ⟨trivial, fun a S => ?_⟩)
   refine lq v66 S (q_assign rfl) fun a S => ?_
   refine lx_nil (thenN ?_)
   refine wp_seq (wp_seq (region_plain ?_))
   refine lq p1 S (q_move rfl) fun a S => ?_
   refine lq (.int .i64 (a1.length : Int)) S (q_lenSl rfl (h1).isSl rfl Tryz.underlying22) fun a S => ?_
   refine lq (.int .i64 (0 : Int)) S (q_move rfl) fun a S => ?_
   refine lx_nil (thenN ?_)
   obtain ⟨res110, hit111, hk114⟩ := bind_some hm
   obtain ⟨f112, hf113, hit111⟩ := iter_name hit111
   refine block_loop (fun a w => ∃ (xs108 : List Int) (v107 : Value), Slots a 35 [(6, v107)] ∧ Heap w0 [oA (rList (rInt .i64)) v107 xs108] w ∧ res110 = .inl (xs108)) ?_ ?_
   ·rintro a w ⟨xs108, v107, S, H, rfl⟩
    have hm := ctl_inl hk114
    refine thenN ?_
    refine wp_seq (wp_seq (region_plain ?_))
    refine lq v107 S (q_move rfl) fun a S => ?_
    refine lq (.int .i64 (xs108.length : Int)) S (q_lenSl rfl (H.isSl 0 rfl) rfl Tryz.underlying28) fun a S => ?_
    refine lq (.bool ((xs108.length : Int) == (0 : Int))) S (q_eql rfl rfl) fun a S => ?_
    refine lx_nil (thenN ?_)
    refine cond_b S rfl (fun hc115 => ?_) (fun hc115 => ?_)
    ·have hm := ite_t hc115 hm
     refine wp_seq (region_plain ?_)
     refine lq (.slice none 0 0) S (q_assign rfl) fun a S => ?_
     refine lq (.int .i64 (3 : Int)) S (q_assign rfl) fun a S => ?_
     refine lx_nil (thenN ?_)
     refine wp_ret (then_ret ?_)
     obtain rfl := Option.some.inj hm
     have H : Heap w0 [oA (rList (rInt .i64)) (.slice none 0 0) ([] : List Int), oA (rList (rInt .i64)) v107 xs108] w := H.nilList (rInt .i64)
     have H : Heap w0 [oA (rList (rInt .i64)) (.slice none 0 0) ([] : List Int)] w := H.sel [0] (by decide)
     exact leave2 S rfl rfl rfl ⟨(.slice none 0 0), rfl, H⟩
    ·have hm := ite_f hc115 hm
     refine wp_skip (thenN ?_)
     refine wp_seq (region_plain ?_)
     refine lq v107 S (q_move rfl) fun a S => ?_
     refine lq v107 S (q_assign rfl) fun a S => ?_
     refine lq (.int .i64 (0 : Int)) S (q_assign rfl) fun a S => ?_
     refine lx_nil (thenN ?_)
     refine wp_ret ?_
     obtain rfl := Option.some.inj hm
     exact leave2 S rfl rfl rfl ⟨v107, rfl, H⟩
   ·skip
    have H : Heap w0 [bA b49 [(.int .i64 a0.1), (.int .i64 a0.2.1), v33, v35] 33, oA (rList (rInt .i64)) v66 [a0.2.1]] w67 := H.front 1 rfl
    refine loop_ghost (fun n a w => ∃ (xs87 : List Int) (x89 : Int) (v86 : Value), Slots a 35 [(2, (bp b49)), (6, v86), (20, p1), (21, (.int .i64 (a1.length : Int))), (22, (.int .i64 x89))] ∧ Heap w0 [bA b49 [(.int .i64 a0.1), (.int .i64 a0.2.1), v33, v35] 33, oA (rList (rInt .i64)) v86 xs87] w ∧ iter f112 n (xs87, x89) = some res110) _ ⟨[a0.2.1], (0 : Int), v66, S.sub ⟨rfl, rfl, rfl, rfl, rfl, trivial⟩, H, hit111⟩ ?_
    rintro n a w ⟨xs87, x89, v86, S, H, hit111⟩
    obtain ⟨m117, o118, rfl, hm, hc119⟩ := iter_step hit111
    rw [hf113] at hm
    refine wp_seq (region_plain ?_)
    refine lq (.bool (decide (x89 < (a1.length : Int)))) S (q_lss rfl rfl) fun a S => ?_
    refine lx_nil (thenN ?_)
    refine wp_seq ?_
    refine cond_b S rfl (fun hc120 => ?_) (fun hc120 => ?_)
    ·have hm := ite_t hc120 hm
     refine wp_skip (thenN ?_)
     refine wp_seq ?_
     refine wp_block ?_
     refine wp_seq (region_plain ?_)
     obtain ⟨x121, e122, hm⟩ := bind_some hm
     obtain ⟨c123, h124, hat125⟩ := (h1).elem (idx_some e122).2
     obtain rfl := h124
     have hlt := lt_of_idx (idx_some e122).2
     refine lq (ePtr p1 (x89.toNat * 1)) S (q_indexAddr rfl (h1).isSl rfl (idx_some e122).1 hlt Tryz.underlying22 Tryz.sizeOf9) fun a S => ?_
     refine lx_e (sv x121) S trivial (by decide) rfl trivial (q_load1 rfl Tryz.isAgg9 (by rintro _ rfl; exact ((hat125 0 _ rfl).ext H.ext))) (fun a S => ?_)
     refine lq (sv x121) S (q_assign rfl) fun a S => ?_
     refine lx_nil (thenN ?_)
     refine region_plain ?_
     refine lx_e (.agg #[(.int .i64 a0.1), (.int .i64 a0.2.1), v33, v35]) S trivial (by decide) rfl trivial (q_loadA (cs := [(.int .i64 a0.1), (.int .i64 a0.2.1), v33, v35]) rfl (isP_bp _) Tryz.isAgg33 Tryz.sizeOf33 (by rintro _ rfl; exact (fun j u hu => boxAt (i := 0) H rfl hu))) (fun a S => ?_)
     refine lq v86 S (q_move rfl) fun a S => ?_
     refine lq (sv x121) S (q_move rfl) fun a S => ?_
     obtain ⟨x128, e129, hm⟩ := bind_some hm
     refine lx_call (xs := [.tmp 26, .tmp 27, .tmp 28]) S trivial (by decide) rfl rfl Tryz.call39 ((impl_Lts_follow_ok ⟨[(.int .i64 a0.1), (.int .i64 a0.2.1), v33, v35], rfl, ⟨[(.int .i64 a0.1)], [(.int .i64 a0.2.1), v33, v35], rfl, rfl, ⟨[(.int .i64 a0.2.1)], [v33, v35], rfl, rfl, ⟨[v33], [v35], rfl, ((H.arg h34)).list_rd, ((H.arg h36)).list_rd⟩⟩⟩⟩ (H.rdAt 1 rfl)  e129).mono ?_)
     rintro e w126 ⟨v130, rfl, Hc127⟩
     have H := H.call1 Hc127
     refine ⟨_, rfl, trivial, fun a S => ?_⟩
     refine lq v130 S (q_assign rfl) fun a S => ?_
     refine lx_nil ?_
     refine inBlock_norm ?_
     refine thenN ?_
     refine region_plain ?_
     refine lq (.int .i64 (W (x89 + (1 : Int)))) S (q_add rfl rfl) fun a S => ?_
     refine lq (.int .i64 (W (x89 + (1 : Int)))) S (q_move rfl) fun a S => ?_
     refine lx_nil ?_
     have H : Heap w0 [bA b49 [(.int .i64 a0.1), (.int .i64 a0.2.1), v33, v35] 33, oA (rList (rInt .i64)) v130 x128, oA (rList (rInt .i64)) v86 xs87] w126 := H.front 1 rfl
     have H : Heap w0 [bA b49 [(.int .i64 a0.1), (.int .i64 a0.2.1), v33, v35] 33, oA (rList (rInt .i64)) v130 x128] w126 := H.sel [0, 1] (by decide)
     exact ⟨m117, Nat.lt_succ_self _, x128, (W (x89 + (1 : Int))), v130, S.sub ⟨rfl, rfl, rfl, rfl, rfl, trivial⟩, H, it_cont hm hc119⟩
    ·have hm := ite_f hc120 hm
     refine wp_exit ?_
     refine then_exit ?_
     refine then_exit ?_
     refine inBlock_exit ?_
     obtain rfl := it_brk hm hc119
     have H : Heap w0 [oA (rList (rInt .i64)) v86 xs87] w := H.sel [1] (by decide)
     exact ⟨xs87, v86, S.sub ⟨rfl, trivial⟩, H, rfl⟩

/-- laws.FnExactReplayLabels -/
def laws_FnExactReplayLabels_m (fuel : Nat) (a0 : Tlaws_Lts) (a1 : (List Str)) : Option (Bool) :=
  (laws_szLts_m fuel (a0.1, a0.2.1, a0.2.2.1, a0.2.2.2) (1048576 : Int)).bind fun x54 => (if (decide (x54 < (0 : Int))) = true then some (true) else (laws_szStringS_m fuel a1 x54).bind fun x60 => (if (decide (x60 < (0 : Int))) = true then some (true) else (laws_toLts_m fuel (a0.1, a0.2.1, a0.2.2.1, a0.2.2.2)).bind fun x66 => (laws_toStringS_m fuel a1).bind fun x75 => (spec_ReplayLabels_m fuel (x66.1, x66.2.1, x66.2.2.1, x66.2.2.2) x75).bind fun x82 => (laws_toLts_m fuel (a0.1, a0.2.1, a0.2.2.1, a0.2.2.2)).bind fun x89 => (laws_toStringS_m fuel a1).bind fun x102 => (impl_ReplayLabels_m fuel (x89.1, x89.2.1, x89.2.2.1, x89.2.2.2) x102).bind fun x109 => (laws_eqInt64S_m fuel x109.1 x82.1).bind fun x116 => (if (!x116) = true then some true else some (x109.2 != x82.2)).bind fun t119 => (if t119 = true then some (false) else (laws_toLts_m fuel (a0.1, a0.2.1, a0.2.2.1, a0.2.2.2)).bind fun x127 => (laws_eqLts_m fuel (x89.1, x89.2.1, x89.2.2.1, x89.2.2.2) (x127.1, x127.2.1, x127.2.2.1, x127.2.2.2)).bind fun x136 => (if (!x136) = true then some (false) else (laws_toStringS_m fuel a1).bind fun x142 => (laws_eqStringS_m fuel x102 x142).bind fun x149 => (if (!x149) = true then some (false) else (laws_markLts_m fuel (x89.1, x89.2.1, x89.2.2.1, x89.2.2.2) (1 : Int)).bind fun x155 => (laws_markStringS_m fuel x102 x155.1).bind fun x159 => (if (decide (x159.1 < (0 : Int))) = true then some true else (laws_eqInt64S_m fuel x109.1 x82.1).bind fun x166 => some (!x166)).bind fun t161 => (if t161 = true then some true else some (x109.2 != x82.2)).bind fun t169 => (if t169 = true then some (false) else (laws_markInt64S_m fuel x109.1 (1 : Int)).bind fun x175 => (laws_heldInt64S_m fuel x175.2 (1 : Int)).bind fun x179 => (if (decide (x179 < (0 : Int))) = true then some (false) else (if (x179 != x175.1) = true then some (false) else (laws_toLts_m fuel (a0.1, a0.2.1, a0.2.2.1, a0.2.2.2)).bind fun x186 => (laws_toStringS_m fuel a1).bind fun x195 => (impl_ReplayLabels_m fuel (x186.1, x186.2.1, x186.2.2.1, x186.2.2.2) x195).bind fun x202 => (laws_eqInt64S_m fuel x202.1 x82.1).bind fun x209 => (if (!x209) = true then some true else some (x202.2 != x82.2)).bind fun t212 => (if t212 = true then some (false) else (laws_heldInt64S_m fuel x175.2 (1 : Int)).bind fun x218 => (if (decide (x218 < (0 : Int))) = true then some (false) else (if (x218 != x175.1) = true then some (false) else some (true))))))))))))
set_option maxRecDepth 20000 in
theorem laws_FnExactReplayLabels_ok {w0 : World} {fuel : Nat} {p0 p1 : Value} {a0 : Tlaws_Lts} {a1 : (List Str)} {r : Bool} (hG : Glob Tryz.prog w0) (h0 : Rd Rlaws_Lts w0 p0 a0) (h1 : Rd (rList rStr) w0 p1 a1) (hm : laws_FnExactReplayLabels_m fuel a0 a1 = some r) :
  Calls Tryz.prog 4 #[p0, p1] w0 fun e w => e = .returned (.bool r) ∧ Heap w0 [] w := by
 unfold laws_FnExactReplayLabels_m at hm
 have H := Heap.start w0
 obtain ⟨c31, rfl, h32⟩ := h0
 obtain ⟨c37, c38, rfl, h39, h40⟩ := h32
 obtain rfl := h39
 obtain ⟨c41, c42, rfl, h43, h44⟩ := h40
 obtain rfl := h43
 obtain ⟨c45, c46, rfl, h47, h48⟩ := h44
 obtain ⟨v33, rfl, h34⟩ := rd_list h47
 obtain ⟨v35, rfl, h36⟩ := rd_list h48
 refine enter (args := [(.agg #[(.int .i64 a0.1), (.int .i64 a0.2.1), v33, v35]), p1]) Tryz.func4 rfl 119 rfl (Nat.le_of_ble_eq_true rfl) (fun a S => ?_)
 refine wp_seq (region_plain ?_)
 refine lx_box S trivial (by decide) rfl H rfl rfl (fun b49 w50 H => ⟨trivial, fun a S => ?_⟩)
 refine lq (.bool false) S (q_assign rfl) fun a S => ?_
 refine lx_nil (thenN ?_)
 refine wp_seq (region_plain ?_)
 refine lq (.int .i64 (1048576 : Int)) S (q_assign rfl) fun a S => ?_
 refine lx_nil (thenN ?_)
 refine wp_seq (region_plain ?_)
 refine lx_e (.agg #[(.int .i64 a0.1), (.int .i64 a0.2.1), v33, v35]) S trivial (by decide) rfl trivial (q_loadA (cs := [(.int .i64 a0.1), (.int .i64 a0.2.1), v33, v35]) rfl (isP_bp _) Tryz.isAgg25 Tryz.sizeOf25 (by rintro _ rfl; exact (fun j u hu => boxAt (i := 0) H rfl hu))) (fun a S => ?_)
 refine lq (.int .i64 (1048576 : Int)) S (q_move rfl) fun a S => ?_
 obtain ⟨x54, e55, hm⟩ := bind_some hm
 refine lx_call (xs := [.tmp 17, .tmp 18]) S trivial (by decide) rfl rfl Tryz.call6 ((laws_szLts_ok ⟨[(.int .i64 a0.1), (.int .i64 a0.2.1), v33, v35], rfl, ⟨[(.int .i64 a0.1)], [(.int .i64 a0.2.1), v33, v35], rfl, rfl, ⟨[(.int .i64 a0.2.1)], [v33, v35], rfl, rfl, ⟨[v33], [v35], rfl, ((H.arg h34)).list_rd, ((H.arg h36)).list_rd⟩⟩⟩⟩  e55).mono ?_)
 rintro e w52 ⟨rfl, Hc53⟩
 have H := H.call0 Hc53
 refine ⟨_, rfl, trivial, fun a S => ?_⟩
 refine lq (.int .i64 x54) S (q_assign rfl) fun a S => ?_
 refine lx_nil (thenN ?_)
 refine wp_seq (wp_seq (region_plain ?_))
 refine lq (.int .i64 x54) S (q_move rfl) fun a S => ?_
 refine lq (.bool (decide (x54 < (0 : Int)))) S (q_lss rfl rfl) fun a S => ?_
 refine lx_nil (thenN ?_)
 refine cond_b S rfl (fun hc57 => ?_) (fun hc57 => ?_)
 ·have hm := ite_t hc57 hm
  refine wp_seq (region_plain ?_)
  refine lq (.bool true) S (q_assign rfl) fun a S => ?_
  refine lx_nil (thenN ?_)
  refine wp_ret (then_ret ?_)
  obtain rfl := Option.some.inj hm
  have H : Heap w0 [] w52 := H.sel [] (by decide)
  exact leave1 S rfl rfl ⟨rfl, H⟩
 ·have hm := ite_f hc57 hm
  refine wp_skip (thenN ?_)
  refine wp_seq (region_plain ?_)
  refine lq p1 S (q_move rfl) fun a S => ?_
  refine lq (.int .i64 x54) S (q_move rfl) fun a S => ?_
  obtain ⟨x60, e61, hm⟩ := bind_some hm
  refine lx_call (xs := [.tmp 22, .tmp 23]) S trivial (by decide) rfl rfl Tryz.call7 ((laws_szStringS_ok (H.arg h1)  e61).mono ?_)
  rintro e w58 ⟨rfl, Hc59⟩
  have H := H.call0 Hc59
  refine ⟨_, rfl, trivial, fun a S => ?_⟩
  refine lq (.int .i64 x60) S (q_assign rfl) fun a S => ?_
  refine lx_nil (thenN ?_)
  refine wp_seq (wp_seq (region_plain ?_))
  refine lq (.int .i64 x60) S (q_move rfl) fun a S => ?_
  refine lq (.bool (decide (x60 < (0 : Int)))) S (q_lss rfl rfl) fun a S => ?_
  refine lx_nil (thenN ?_)
  refine cond_b S rfl (fun hc63 => ?_) (fun hc63 => ?_)
  ·have hm := ite_t hc63 hm
   refine wp_seq (region_plain ?_)
   refine lq (.bool true) S (q_assign rfl) fun a S => ?_
   refine lx_nil (thenN ?_)
   refine wp_ret (then_ret ?_)
   obtain rfl := Option.some.inj hm
   have H : Heap w0 [] w58 := H.sel [] (by decide)
   exact leave1 S rfl rfl ⟨rfl, H⟩
  ·have hm := ite_f hc63 hm
   refine wp_skip (thenN ?_)
   refine wp_seq (region_plain ?_)
   refine lx_e (.agg #[(.int .i64 a0.1), (.int .i64 a0.2.1), v33, v35]) S trivial (by decide) rfl trivial (q_loadA (cs := [(.int .i64 a0.1), (.int .i64 a0.2.1), v33, v35]) rfl (isP_bp _) Tryz.isAgg25 Tryz.sizeOf25 (by rintro _ rfl; exact (fun j u hu => boxAt (i := 0) H rfl hu))) (fun a S => ?_)
   obtain ⟨x66, e67, hm⟩ := bind_some hm
   refine lx_call (xs := [.tmp 28]) S trivial (by decide) rfl rfl Tryz.call9 ((laws_toLts_ok ⟨[(.int .i64 a0.1), (.int .i64 a0.2.1), v33, v35], rfl, ⟨[(.int .i64 a0.1)], [(.int .i64 a0.2.1), v33, v35], rfl, rfl, ⟨[(.int .i64 a0.2.1)], [v33, v35], rfl, rfl, ⟨[v33], [v35], rfl, ((H.arg h34)).list_rd, ((H.arg h36)).list_rd⟩⟩⟩⟩ e67).mono ?_)
   rintro e w64 ⟨v68, v69, rfl, Hc65⟩
   have H := H.call2 Hc65
   refine ⟨_, rfl, trivial, fun a S => ?_⟩
   refine lq p1 S (q_move rfl) fun a S => ?_
   obtain ⟨x75, e76, hm⟩ := bind_some hm
   refine lx_call (xs := [.tmp 30]) S trivial (by decide) rfl rfl Tryz.call10 ((laws_toStringS_ok (H.arg h1) e76).mono ?_)
   rintro e w73 ⟨v77, rfl, Hc74⟩
   have H := H.call1 Hc74
   refine ⟨_, rfl, trivial, fun a S => ?_⟩
   obtain ⟨x82, e83, hm⟩ := bind_some hm
   refine lx_call (xs := [.tmp 29, .tmp 31]) S trivial (by decide) rfl rfl Tryz.call19 ((spec_ReplayLabels_ok ⟨[(.int .i64 x66.1), (.int .i64 x66.2.1), v68, v69], rfl, ⟨[(.int .i64 x66.1)], [(.int .i64 x66.2.1), v68, v69], rfl, rfl, ⟨[(.int .i64 x66.2.1)], [v68, v69], rfl, rfl, ⟨[v68], [v69], rfl, ((H.rdAt 1 rfl)).list_rd, ((H.rdAt 2 rfl)).list_rd⟩⟩⟩⟩ (H.rdAt 0 rfl) e83).mono ?_)
   rintro e w80 ⟨v84, rfl, Hc81⟩
   have H := H.call1 Hc81
   refine ⟨_, rfl, trivial, fun a S => ?_⟩
   refine lq (.tuple #[v84, (.int .i64 x82.2)]) S (q_move rfl) fun a S => ?_
   refine lq v84 S (q_extract rfl rfl) fun a S => ?_
   refine lq (.int .i64 x82.2) S (q_extract rfl rfl) fun a S => ?_
   refine lq v84 S (q_assign rfl) fun a S => ?_
   refine lq (.int .i64 x82.2) S (q_assign rfl) fun a S => ?_
   refine lx_nil (thenN ?_)
   refine wp_seq (region_plain ?_)
   refine lx_e (.agg #[(.int .i64 a0.1), (.int .i64 a0.2.1), v33, v35]) S trivial (by decide) rfl trivial (q_loadA (cs := [(.int .i64 a0.1), (.int .i64 a0.2.1), v33, v35]) rfl (isP_bp _) Tryz.isAgg25 Tryz.sizeOf25 (by rintro _ rfl; exact (fun j u hu => boxAt (i := 4) H rfl hu))) (fun a S => ?_)
   obtain ⟨x89, e90, hm⟩ := bind_some hm
   refine lx_call (xs := [.tmp 35]) S trivial (by decide) rfl rfl Tryz.call9 ((laws_toLts_ok ⟨[(.int .i64 a0.1), (.int .i64 a0.2.1), v33, v35], rfl, ⟨[(.int .i64 a0.1)], [(.int .i64 a0.2.1), v33, v35], rfl, rfl, ⟨[(.int .i64 a0.2.1)], [v33, v35], rfl, rfl, ⟨[v33], [v35], rfl, ((H.arg h34)).list_rd, ((H.arg h36)).list_rd⟩⟩⟩⟩ e90).mono ?_)
   rintro e w87 ⟨v91, v92, rfl, Hc88⟩
   have H := H.call2 Hc88
   refine ⟨_, rfl, trivial, fun a S => ?_⟩
   refine lx_alloc S trivial (by decide) rfl H Tryz.zeroValue33 rfl (fun b96 w97 H => ⟨trivial, fun a S => ?_⟩)
   refine lx_storeBox (o := 0) (i := 0) (us := [(.int .i64 x89.1), (.int .i64 x89.2.1), v91, v92]) (cs' := [(.int .i64 x89.1), (.int .i64 x89.2.1), v91, v92]) S trivial rfl H rfl rfl rfl rfl Tryz.sizeOf33 (Nat.le_of_ble_eq_true rfl) (List.forall_mem_cons.2 ⟨rfl, (List.forall_mem_cons.2 ⟨rfl, (List.forall_mem_cons.2 ⟨one_sl (H.isSl 1 rfl), (List.forall_mem_cons.2 ⟨one_sl (H.isSl 2 rfl), (fun _ h => nomatch h)⟩)⟩)⟩)⟩) rfl (fun w99 H => ⟨trivial, fun a S => ?_⟩)
   change Heap w0 [bA b96 [(.int .i64 x89.1), (.int .i64 x89.2.1), v91, v92] 33, oA (rList rStr) v91 x89.2.2.1, oA (rList Rimpl_Edge) v92 x89.2.2.2, oA (rList (rInt .i64)) v84 x82.1, oA (rList rStr) v77 x75, oA (rList rStr) v68 x66.2.2.1, oA (rList Rimpl_Edge) v69 x66.2.2.2, bA b49 [(.int .i64 a0.1), (.int .i64 a0.2.1), v33, v35] 25] w99 at H
   refine lx_nil (thenN ?_)
   refine wp_seq (region_plain ?_)
   refine lq p1 S (q_move rfl) fun a S => ?_
   obtain ⟨x102, e103, hm⟩ := bind_some hm
   refine lx_call (xs := [.tmp 37]) S trivial (by decide) rfl rfl Tryz.call10 ((laws_toStringS_ok (H.arg h1) e103).mono ?_)
   rintro e w100 ⟨v104, rfl, Hc101⟩
   have H := H.call1 Hc101
   refine ⟨_, rfl, trivial, fun a S => ?_⟩
   refine lq v104 S (q_assign rfl) fun a S => ?_
   refine lx_nil (thenN ?_)
   refine wp_seq (region_plain ?_)
   refine lx_e (.agg #[(.int .i64 x89.1), (.int .i64 x89.2.1), v91, v92]) S trivial (by decide) rfl trivial (q_loadA (cs := [(.int .i64 x89.1), (.int .i64 x89.2.1), v91, v92]) rfl (isP_bp _) Tryz.isAgg33 Tryz.sizeOf33 (by rintro _ rfl; exact (fun j u hu => boxAt (i := 1) H rfl hu))) (fun a S => ?_)
   refine lq v104 S (q_move rfl) fun a S => ?_
   obtain ⟨x109, e110, hm⟩ := bind_some hm
   refine lx_call (xs := [.tmp 40, .tmp 41]) S trivial (by decide) rfl rfl Tryz.call20 ((impl_ReplayLabels_ok (hG.ext H.ext) ⟨[(.int .i64 x89.1), (.int .i64 x89.2.1), v91, v92], rfl, ⟨[(.int .i64 x89.1)], [(.int .i64 x89.2.1), v91, v92], rfl, rfl, ⟨[(.int .i64 x89.2.1)], [v91, v92], rfl, rfl, ⟨[v91], [v92], rfl, ((H.rdAt 2 rfl)).list_rd, ((H.rdAt 3 rfl)).list_rd⟩⟩⟩⟩ (H.rdAt 0 rfl) e110).mono ?_)
   rintro e w107 ⟨v111, rfl, Hc108⟩
   have H := H.call1 Hc108
   refine ⟨_, rfl, trivial, fun a S => ?_⟩
   refine lq (.tuple #[v111, (.int .i64 x109.2)]) S (q_move rfl) fun a S => ?_
   refine lq v111 S (q_extract rfl rfl) fun a S => ?_
   refine lq (.int .i64 x109.2) S (q_extract rfl rfl) fun a S => ?_
   refine lq v111 S (q_assign rfl) fun a S => ?_
   refine lq (.int .i64 x109.2) S (q_assign rfl) fun a S => ?_
   refine lx_nil (thenN ?_)
   refine wp_seq (wp_seq (region_plain ?_))
   refine lq v111 S (q_move rfl) fun a S => ?_
   refine lq v84 S (q_move rfl) fun a S => ?_
   obtain ⟨x116, e117, hm⟩ := bind_some hm
   refine lx_call (xs := [.tmp 45, .tmp 46]) S trivial (by decide) rfl rfl Tryz.call12 ((laws_eqInt64S_ok (H.rdAt 0 rfl) (H.rdAt 5 rfl) e117).mono ?_)
   rintro e w114 ⟨rfl, Hc115⟩
   have H := H.call0 Hc115
   refine ⟨_, rfl, trivial, fun a S => ?_⟩
   refine lq (.bool (!x116)) S (q_not rfl) fun a S => ?_
   refine lq (.bool (!x116)) S (q_move rfl) fun a S => ?_
   obtain ⟨t119, e120, hm⟩ := bind_some hm
   refine lx_cut 4 (fun a w => Slots a 119 [(1, p1), (2, (bp b49)), (6, v84), (7, (.int .i64 x82.2)), (8, (bp b96)), (9, v104), (10, v111), (11, (.int .i64 x109.2)), (53, (.bool t119))] ∧ Heap w0 [oA (rList (rInt .i64)) v111 x109.1, oA (rList rStr) v104 x102, bA b96 [(.int .i64 x89.1), (.int .i64 x89.2.1), v91, v92] 33, oA (rList rStr) v91 x89.2.2.1, oA (rList Rimpl_Edge) v92 x89.2.2.2, oA (rList (rInt .i64)) v84 x82.1, bA b49 [(.int .i64 a0.1), (.int .i64 a0.2.1), v33, v35] 25] w) ?_ ?_
   ·by_cases hc121 : (!x116) = true
    ·have hm := ite_t hc121 e120
     refine lx_skip S rfl rfl (isB_ne hc121) (by decide) (fun a S => ?_)
     refine lx_skip S rfl rfl (isB_ne hc121) (by decide) (fun a S => ?_)
     refine lx_skip S rfl rfl (isB_ne hc121) (by decide) (fun a S => ?_)
     refine lq (.bool true) S (q_pickT' rfl hc121 rfl) fun a S => ?_
     refine lx_nil ?_
     obtain rfl := Option.some.inj hm
     have H := H.sel [0, 1, 2, 3, 4, 5, 9] (by decide)
     exact ⟨S.sub ⟨rfl, rfl, rfl, rfl, rfl, rfl, rfl, rfl, rfl, trivial⟩, H⟩
    ·have hm := ite_f (eq_false_of_ne_true hc121) e120
     have hc121 : (!x116) = false := eq_false_of_ne_true hc121
     refine lx_q (.int .i64 x109.2) S (want_b rfl rfl hc121) (by decide) (q_move rfl) (fun a S => ?_)
     refine lx_q (.int .i64 x82.2) S (want_b rfl rfl hc121) (by decide) (q_move rfl) (fun a S => ?_)
     refine lx_q (.bool (x109.2 != x82.2)) S (want_b rfl rfl hc121) (by decide) (q_neq rfl rfl) (fun a S => ?_)
     refine lq (.bool (x109.2 != x82.2)) S (q_pickF' rfl hc121 rfl) fun a S => ?_
     refine lx_nil ?_
     obtain rfl := Option.some.inj hm
     have H := H.sel [0, 1, 2, 3, 4, 5, 9] (by decide)
     exact ⟨S.sub ⟨rfl, rfl, rfl, rfl, rfl, rfl, rfl, rfl, rfl, trivial⟩, H⟩
   ·rintro a w ⟨S, H⟩
    refine lx_nil (thenN ?_)
    refine cond_b S rfl (fun hc122 => ?_) (fun hc122 => ?_)
    ·have hm := ite_t hc122 hm
     refine wp_seq (region_plain ?_)
     refine lq (.bool false) S (q_assign rfl) fun a S => ?_
     refine lx_nil (thenN ?_)
     refine wp_ret (then_ret ?_)
     obtain rfl := Option.some.inj hm
     have H : Heap w0 [] w := H.sel [] (by decide)
     exact leave1 S rfl rfl ⟨rfl, H⟩
    ·have hm := ite_f hc122 hm
     refine wp_skip (thenN ?_)
     refine wp_seq ?_
     refine wp_seq ?_
     refine region_drawG (fun w1 => Heap w0 [bA b96 [(.int .i64 x89.1), (.int .i64 x89.2.1), v91, v92] 33, bA b49 [(.int .i64 a0.1), (.int .i64 a0.2.1), v33, v35] 25] w1) (fun i => [2, 3].contains i) mixed (by kernel_rfl) (fun w124 he123 => ?_)
     have H := H.later he123
     refine ⟨H.sel [2, 6] (by decide), ?_⟩
     refine lq (.agg #[(.int .i64 x89.1), (.int .i64 x89.2.1), v91, v92]) S (q_loadA (cs := [(.int .i64 x89.1), (.int .i64 x89.2.1), v91, v92]) rfl (isP_bp _) Tryz.isAgg33 Tryz.sizeOf33 (fun w1 hC => (fun j u hu => boxAt (i := 0) hC rfl hu))) fun a S => ?_
     refine lq (.agg #[(.int .i64 a0.1), (.int .i64 a0.2.1), v33, v35]) S (q_loadA (cs := [(.int .i64 a0.1), (.int .i64 a0.2.1), v33, v35]) rfl (isP_bp _) Tryz.isAgg25 Tryz.sizeOf25 (fun w1 hC => (fun j u hu => boxAt (i := 1) hC rfl hu))) fun a S => ?_
     obtain ⟨x127, e128, hm⟩ := bind_some hm
     refine lx_call (xs := [.tmp 55]) S trivial (by decide) rfl rfl Tryz.call9 ((laws_toLts_ok ⟨[(.int .i64 a0.1), (.int .i64 a0.2.1), v33, v35], rfl, ⟨[(.int .i64 a0.1)], [(.int .i64 a0.2.1), v33, v35], rfl, rfl, ⟨[(.int .i64 a0.2.1)], [v33, v35], rfl, rfl, ⟨[v33], [v35], rfl, ((H.arg h34)).list_rd, ((H.arg h36)).list_rd⟩⟩⟩⟩ e128).mono ?_)
     rintro e w125 ⟨v129, v130, rfl, Hc126⟩
     have H := H.call2 Hc126
     refine ⟨_, rfl, H.sel [4, 8] (by decide), fun a S => ?_⟩
     obtain ⟨x136, e137, hm⟩ := bind_some hm
     refine lx_call (xs := [.tmp 54, .tmp 56]) S trivial (by decide) rfl rfl Tryz.call13 ((laws_eqLts_ok ⟨[(.int .i64 x89.1), (.int .i64 x89.2.1), v91, v92], rfl, ⟨[(.int .i64 x89.1)], [(.int .i64 x89.2.1), v91, v92], rfl, rfl, ⟨[(.int .i64 x89.2.1)], [v91, v92], rfl, rfl, ⟨[v91], [v92], rfl, ((H.rdAt 5 rfl)).list_rd, ((H.rdAt 6 rfl)).list_rd⟩⟩⟩⟩ ⟨[(.int .i64 x127.1), (.int .i64 x127.2.1), v129, v130], rfl, ⟨[(.int .i64 x127.1)], [(.int .i64 x127.2.1), v129, v130], rfl, rfl, ⟨[(.int .i64 x127.2.1)], [v129, v130], rfl, rfl, ⟨[v129], [v130], rfl, ((H.rdAt 0 rfl)).list_rd, ((H.rdAt 1 rfl)).list_rd⟩⟩⟩⟩ e137).mono ?_)
     rintro e w134 ⟨rfl, Hc135⟩
     have H := H.call0 Hc135
     refine ⟨_, rfl, H.sel [4, 8] (by decide), fun a S => ?_⟩
     refine lq (.bool (!x136)) S (q_not rfl) fun a S => ?_
     refine lx_nil (thenN ?_)
     refine cond_b S rfl (fun hc139 => ?_) (fun hc139 => ?_)
     ·have hm := ite_t hc139 hm
      refine wp_seq (region_plain ?_)
      refine lq (.bool false) S (q_assign rfl) fun a S => ?_
      refine lx_nil (thenN ?_)
      refine wp_ret (then_ret ?_)
      obtain rfl := Option.some.inj hm
      have H : Heap w0 [] w134 := H.sel [] (by decide)
      exact leave1 S rfl rfl ⟨rfl, H⟩
     ·have hm := ite_f hc139 hm
      refine wp_skip (thenN ?_)
      refine wp_seq (wp_seq (region_plain ?_))
      refine lq v104 S (q_move rfl) fun a S => ?_
      refine lq p1 S (q_move rfl) fun a S => ?_
      obtain ⟨x142, e143, hm⟩ := bind_some hm
      refine lx_call (xs := [.tmp 60]) S trivial (by decide) rfl rfl Tryz.call10 ((laws_toStringS_ok (H.arg h1) e143).mono ?_)
      rintro e w140 ⟨v144, rfl, Hc141⟩
      have H := H.call1 Hc141
      refine ⟨_, rfl, trivial, fun a S => ?_⟩
      obtain ⟨x149, e150, hm⟩ := bind_some hm
      refine lx_call (xs := [.tmp 59, .tmp 61]) S trivial (by decide) rfl rfl Tryz.call14 ((laws_eqStringS_ok (H.rdAt 4 rfl) (H.rdAt 0 rfl) e150).mono ?_)
      rintro e w147 ⟨rfl, Hc148⟩
      have H := H.call0 Hc148
      refine ⟨_, rfl, trivial, fun a S => ?_⟩
      refine lq (.bool (!x149)) S (q_not rfl) fun a S => ?_
      refine lx_nil (thenN ?_)
      refine cond_b S rfl (fun hc152 => ?_) (fun hc152 => ?_)
      ·have hm := ite_t hc152 hm
       refine wp_seq (region_plain ?_)
       refine lq (.bool false) S (q_assign rfl) fun a S => ?_
       refine lx_nil (thenN ?_)
       refine wp_ret (then_ret ?_)
       obtain rfl := Option.some.inj hm
       have H : Heap w0 [] w147 := H.sel [] (by decide)
       exact leave1 S rfl rfl ⟨rfl, H⟩
      ·have hm := ite_f hc152 hm
       refine wp_skip (thenN ?_)
       refine wp_seq (region_plain ?_)
       refine lq (.int .i64 (1 : Int)) S (q_assign rfl) fun a S => ?_
       refine lx_nil (thenN ?_)
       refine wp_seq (region_plain ?_)
       refine lx_e (.agg #[(.int .i64 x89.1), (.int .i64 x89.2.1), v91, v92]) S trivial (by decide) rfl trivial (q_loadA (cs := [(.int .i64 x89.1), (.int .i64 x89.2.1), v91, v92]) rfl (isP_bp _) Tryz.isAgg33 Tryz.sizeOf33 (by rintro _ rfl; exact (fun j u hu => boxAt (i := 5) H rfl hu))) (fun a S => ?_)
       refine lq (.int .i64 (1 : Int)) S (q_move rfl) fun a S => ?_
       obtain ⟨x155, e156, hm⟩ := bind_some hm
       have H : Heap w0 [oA (rList Rimpl_Edge) v92 x89.2.2.2, oA (rList rStr) v144 x142, oA (rList rStr) v129 x127.2.2.1, oA (rList Rimpl_Edge) v130 x127.2.2.2, oA (rList (rInt .i64)) v111 x109.1, oA (rList rStr) v104 x102, bA b96 [(.int .i64 x89.1), (.int .i64 x89.2.1), v91, v92] 33, oA (rList rStr) v91 x89.2.2.1, oA (rList (rInt .i64)) v84 x82.1, bA b49 [(.int .i64 a0.1), (.int .i64 a0.2.1), v33, v35] 25] w147 := H.front 7 rfl
       have H : Heap w0 [oA (rList rStr) v91 x89.2.2.1, oA (rList Rimpl_Edge) v92 x89.2.2.2, oA (rList rStr) v144 x142, oA (rList rStr) v129 x127.2.2.1, oA (rList Rimpl_Edge) v130 x127.2.2.2, oA (rList (rInt .i64)) v111 x109.1, oA (rList rStr) v104 x102, bA b96 [(.int .i64 x89.1), (.int .i64 x89.2.1), v91, v92] 33, oA (rList (rInt .i64)) v84 x82.1, bA b49 [(.int .i64 a0.1), (.int .i64 a0.2.1), v33, v35] 25] w147 := H.front 7 rfl
       refine lx_call (xs := [.tmp 64, .tmp 65]) S trivial (by decide) rfl rfl Tryz.call15 ((laws_markLts_ok H  e156).mono ?_)
       rintro e w153 ⟨rfl, H⟩
       refine ⟨_, rfl, trivial, fun a S => ?_⟩
       refine lq (.int .i64 x155.1) S (q_assign rfl) fun a S => ?_
       refine lx_nil (thenN ?_)
       refine wp_seq (region_plain ?_)
       refine lq v104 S (q_move rfl) fun a S => ?_
       refine lq (.int .i64 x155.1) S (q_move rfl) fun a S => ?_
       obtain ⟨x159, e160, hm⟩ := bind_some hm
       have H : Heap w0 [oA (rList rStr) v104 x102, oA (rList rStr) v91 x155.2.1, oA (rList Rimpl_Edge) v92 x155.2.2, oA (rList rStr) v144 x142, oA (rList rStr) v129 x127.2.2.1, oA (rList Rimpl_Edge) v130 x127.2.2.2, oA (rList (rInt .i64)) v111 x109.1, bA b96 [(.int .i64 x89.1), (.int .i64 x89.2.1), v91, v92] 33, oA (rList (rInt .i64)) v84 x82.1, bA b49 [(.int .i64 a0.1), (.int .i64 a0.2.1), v33, v35] 25] w153 := H.front 6 rfl
       refine lx_call (xs := [.tmp 67, .tmp 68]) S trivial (by decide) rfl rfl Tryz.call16 ((laws_markStringS_ok H  e160).mono ?_)
       rintro e w157 ⟨rfl, H⟩
       refine ⟨_, rfl, trivial, fun a S => ?_⟩
       refine lq (.int .i64 x159.1) S (q_assign rfl) fun a S => ?_
       refine lx_nil (thenN ?_)
       refine wp_seq (wp_seq (region_plain ?_))
       refine lq (.int .i64 x159.1) S (q_move rfl) fun a S => ?_
       refine lq (.bool (decide (x159.1 < (0 : Int)))) S (q_lss rfl rfl) fun a S => ?_
       refine lq (.bool (decide (x159.1 < (0 : Int)))) S (q_move rfl) fun a S => ?_
       obtain ⟨t161, e162, hm⟩ := bind_some hm
       refine lx_cut 5 (fun a w => Slots a 119 [(1, p1), (2, (bp b49)), (6, v84), (7, (.int .i64 x82.2)), (10, v111), (11, (.int .i64 x109.2)), (77, (.bool t161))] ∧ Heap w0 [oA (rList (rInt .i64)) v111 x109.1, oA (rList (rInt .i64)) v84 x82.1, bA b49 [(.int .i64 a0.1), (.int .i64 a0.2.1), v33, v35] 25] w) ?_ ?_
       ·by_cases hc163 : (decide (x159.1 < (0 : Int))) = true
        ·have hm := ite_t hc163 e162
         refine lx_skip S rfl rfl (isB_ne hc163) (by decide) (fun a S => ?_)
         refine lx_skip S rfl rfl (isB_ne hc163) (by decide) (fun a S => ?_)
         refine lx_skip S rfl rfl (isB_ne hc163) (by decide) (fun a S => ?_)
         refine lx_skip S rfl rfl (isB_ne hc163) (by decide) (fun a S => ?_)
         refine lq (.bool true) S (q_pickT' rfl hc163 rfl) fun a S => ?_
         refine lx_nil ?_
         obtain rfl := Option.some.inj hm
         have H := H.sel [6, 8, 9] (by decide)
         exact ⟨S.sub ⟨rfl, rfl, rfl, rfl, rfl, rfl, rfl, trivial⟩, H⟩
        ·have hm := ite_f (eq_false_of_ne_true hc163) e162
         have hc163 : (decide (x159.1 < (0 : Int))) = false := eq_false_of_ne_true hc163
         refine lx_q v111 S (want_b rfl rfl hc163) (by decide) (q_move rfl) (fun a S => ?_)
         refine lx_q v84 S (want_b rfl rfl hc163) (by decide) (q_move rfl) (fun a S => ?_)
         obtain ⟨x166, e167, hm⟩ := bind_some hm
         refine lx_call (xs := [.tmp 73, .tmp 74]) S (want_b rfl rfl hc163) (by decide) rfl rfl Tryz.call12 ((laws_eqInt64S_ok (H.rdAt 6 rfl) (H.rdAt 8 rfl) e167).mono ?_)
         rintro e w164 ⟨rfl, Hc165⟩
         have H := H.call0 Hc165
         refine ⟨_, rfl, trivial, fun a S => ?_⟩
         refine lx_q (.bool (!x166)) S (want_b rfl rfl hc163) (by decide) (q_not rfl) (fun a S => ?_)
         refine lq (.bool (!x166)) S (q_pickF' rfl hc163 rfl) fun a S => ?_
         refine lx_nil ?_
         obtain rfl := Option.some.inj hm
         have H := H.sel [6, 8, 9] (by decide)
         exact ⟨S.sub ⟨rfl, rfl, rfl, rfl, rfl, rfl, rfl, trivial⟩, H⟩
       ·rintro a w ⟨S, H⟩
        refine lq (.bool t161) S (q_move rfl) fun a S => ?_
        obtain ⟨t169, e170, hm⟩ := bind_some hm
        refine lx_cut 4 (fun a w => Slots a 119 [(1, p1), (2, (bp b49)), (6, v84), (7, (.int .i64 x82.2)), (10, v111), (82, (.bool t169))] ∧ Heap w0 [oA (rList (rInt .i64)) v111 x109.1, oA (rList (rInt .i64)) v84 x82.1, bA b49 [(.int .i64 a0.1), (.int .i64 a0.2.1), v33, v35] 25] w) ?_ ?_
        ·by_cases hc171 : t161 = true
         ·have hm := ite_t hc171 e170
          refine lx_skip S rfl rfl (isB_ne hc171) (by decide) (fun a S => ?_)
          refine lx_skip S rfl rfl (isB_ne hc171) (by decide) (fun a S => ?_)
          refine lx_skip S rfl rfl (isB_ne hc171) (by decide) (fun a S => ?_)
          refine lq (.bool true) S (q_pickT' rfl hc171 rfl) fun a S => ?_
          refine lx_nil ?_
          obtain rfl := Option.some.inj hm
          exact ⟨S.sub ⟨rfl, rfl, rfl, rfl, rfl, rfl, trivial⟩, H⟩
         ·have hm := ite_f (eq_false_of_ne_true hc171) e170
          have hc171 : t161 = false := eq_false_of_ne_true hc171
          refine lx_q (.int .i64 x109.2) S (want_b rfl rfl hc171) (by decide) (q_move rfl) (fun a S => ?_)
          refine lx_q (.int .i64 x82.2) S (want_b rfl rfl hc171) (by decide) (q_move rfl) (fun a S => ?_)
          refine lx_q (.bool (x109.2 != x82.2)) S (want_b rfl rfl hc171) (by decide) (q_neq rfl rfl) (fun a S => ?_)
          refine lq (.bool (x109.2 != x82.2)) S (q_pickF' rfl hc171 rfl) fun a S => ?_
          refine lx_nil ?_
          obtain rfl := Option.some.inj hm
          exact ⟨S.sub ⟨rfl, rfl, rfl, rfl, rfl, rfl, trivial⟩, H⟩
        ·rintro a w ⟨S, H⟩
         refine lx_nil (thenN ?_)
         refine cond_b S rfl (fun hc172 => ?_) (fun hc172 => ?_)
         ·have hm := ite_t hc172 hm
          refine wp_seq (region_plain ?_)
          refine lq (.bool false) S (q_assign rfl) fun a S => ?_
          refine lx_nil (thenN ?_)
          refine wp_ret (then_ret ?_)
          obtain rfl := Option.some.inj hm
          have H : Heap w0 [] w := H.sel [] (by decide)
          exact leave1 S rfl rfl ⟨rfl, H⟩
         ·have hm := ite_f hc172 hm
          refine wp_skip (thenN ?_)
          refine wp_seq (region_plain ?_)
          refine lq (.int .i64 (1 : Int)) S (q_assign rfl) fun a S => ?_
          refine lx_nil (thenN ?_)
          refine wp_seq (region_plain ?_)
          refine lq v111 S (q_move rfl) fun a S => ?_
          refine lq (.int .i64 (1 : Int)) S (q_move rfl) fun a S => ?_
          obtain ⟨x175, e176, hm⟩ := bind_some hm
          refine lx_call (xs := [.tmp 83, .tmp 84]) S trivial (by decide) rfl rfl Tryz.call17 ((laws_markInt64S_ok H  e176).mono ?_)
          rintro e w173 ⟨rfl, H⟩
          refine ⟨_, rfl, trivial, fun a S => ?_⟩
          refine lq (.int .i64 x175.1) S (q_assign rfl) fun a S => ?_
          refine lx_nil (thenN ?_)
          refine wp_seq (region_plain ?_)
          refine lq (.int .i64 (1 : Int)) S (q_assign rfl) fun a S => ?_
          refine lx_nil (thenN ?_)
          refine wp_seq (region_plain ?_)
          refine lq v111 S (q_move rfl) fun a S => ?_
          refine lq (.int .i64 (1 : Int)) S (q_move rfl) fun a S => ?_
          obtain ⟨x179, e180, hm⟩ := bind_some hm
          refine lx_call (xs := [.tmp 86, .tmp 87]) S trivial (by decide) rfl rfl Tryz.call18 ((laws_heldInt64S_ok (H.rdAt 0 rfl)  e180).mono ?_)
          rintro e w177 ⟨rfl, Hc178⟩
          have H := H.call0 Hc178
          refine ⟨_, rfl, trivial, fun a S => ?_⟩
          refine lq (.int .i64 x179) S (q_assign rfl) fun a S => ?_
          refine lx_nil (thenN ?_)
          refine wp_seq (wp_seq (region_plain ?_))
          refine lq (.int .i64 x179) S (q_move rfl) fun a S => ?_
          refine lq (.bool (decide (x179 < (0 : Int)))) S (q_lss rfl rfl) fun a S => ?_
          refine lx_nil (thenN ?_)
          refine cond_b S rfl (fun hc182 => ?_) (fun hc182 => ?_)
          ·have hm := ite_t hc182 hm
           refine wp_seq (region_plain ?_)
           refine lq (.bool false) S (q_assign rfl) fun a S => ?_
           refine lx_nil (thenN ?_)
           refine wp_ret (then_ret ?_)
           obtain rfl := Option.some.inj hm
           have H : Heap w0 [] w177 := H.sel [] (by decide)
           exact leave1 S rfl rfl ⟨rfl, H⟩
          ·have hm := ite_f hc182 hm
           refine wp_skip (thenN ?_)
           refine wp_seq (wp_seq (region_plain ?_))
           refine lq (.int .i64 x179) S (q_move rfl) fun a S => ?_
           refine lq (.int .i64 x175.1) S (q_move rfl) fun a S => ?_
           refine lq (.bool (x179 != x175.1)) S (q_neq rfl rfl) fun a S => ?_
           refine lx_nil (thenN ?_)
           refine cond_b S rfl (fun hc183 => ?_) (fun hc183 => ?_)
           ·have hm := ite_t hc183 hm
            refine wp_seq (region_plain ?_)
            refine lq (.bool false) S (q_assign rfl) fun a S => ?_
            refine lx_nil (thenN ?_)
            refine wp_ret (then_ret ?_)
            obtain rfl := Option.some.inj hm
            have H : Heap w0 [] w177 := H.sel [] (by decide)
            exact leave1 S rfl rfl ⟨rfl, H⟩
           ·have hm := ite_f hc183 hm
            refine wp_skip (thenN ?_)
            refine wp_seq (region_plain ?_)
            refine lx_e (.agg #[(.int .i64 a0.1), (.int .i64 a0.2.1), v33, v35]) S trivial (by decide) rfl trivial (q_loadA (cs := [(.int .i64 a0.1), (.int .i64 a0.2.1), v33, v35]) rfl (isP_bp _) Tryz.isAgg25 Tryz.sizeOf25 (by rintro _ rfl; exact (fun j u hu => boxAt (i := 2) H rfl hu))) (fun a S => ?_)
            obtain ⟨x186, e187, hm⟩ := bind_some hm
            refine lx_call (xs := [.tmp 95]) S trivial (by decide) rfl rfl Tryz.call9 ((laws_toLts_ok ⟨[(.int .i64 a0.1), (.int .i64 a0.2.1), v33, v35], rfl, ⟨[(.int .i64 a0.1)], [(.int .i64 a0.2.1), v33, v35], rfl, rfl, ⟨[(.int .i64 a0.2.1)], [v33, v35], rfl, rfl, ⟨[v33], [v35], rfl, ((H.arg h34)).list_rd, ((H.arg h36)).list_rd⟩⟩⟩⟩ e187).mono ?_)
            rintro e w184 ⟨v188, v189, rfl, Hc185⟩
            have H := H.call2 Hc185
            refine ⟨_, rfl, trivial, fun a S => ?_⟩
            refine lq p1 S (q_move rfl) fun a S => ?_
            obtain ⟨x195, e196, hm⟩ := bind_some hm
            refine lx_call (xs := [.tmp 97]) S trivial (by decide) rfl rfl Tryz.call10 ((laws_toStringS_ok (H.arg h1) e196).mono ?_)
            rintro e w193 ⟨v197, rfl, Hc194⟩
            have H := H.call1 Hc194
            refine ⟨_, rfl, trivial, fun a S => ?_⟩
            obtain ⟨x202, e203, hm⟩ := bind_some hm
            refine lx_call (xs := [.tmp 96, .tmp 98]) S trivial (by decide) rfl rfl Tryz.call20 ((impl_ReplayLabels_ok (hG.ext H.ext) ⟨[(.int .i64 x186.1), (.int .i64 x186.2.1), v188, v189], rfl, ⟨[(.int .i64 x186.1)], [(.int .i64 x186.2.1), v188, v189], rfl, rfl, ⟨[(.int .i64 x186.2.1)], [v188, v189], rfl, rfl, ⟨[v188], [v189], rfl, ((H.rdAt 1 rfl)).list_rd, ((H.rdAt 2 rfl)).list_rd⟩⟩⟩⟩ (H.rdAt 0 rfl) e203).mono ?_)
            rintro e w200 ⟨v204, rfl, Hc201⟩
            have H := H.call1 Hc201
            refine ⟨_, rfl, trivial, fun a S => ?_⟩
            refine lq (.tuple #[v204, (.int .i64 x202.2)]) S (q_move rfl) fun a S => ?_
            refine lq v204 S (q_extract rfl rfl) fun a S => ?_
            refine lq (.int .i64 x202.2) S (q_extract rfl rfl) fun a S => ?_
            refine lq v204 S (q_assign rfl) fun a S => ?_
            refine lq (.int .i64 x202.2) S (q_assign rfl) fun a S => ?_
            refine lx_nil (thenN ?_)
            refine wp_seq (wp_seq (region_plain ?_))
            refine lq v204 S (q_move rfl) fun a S => ?_
            refine lq v84 S (q_move rfl) fun a S => ?_
            obtain ⟨x209, e210, hm⟩ := bind_some hm
            refine lx_call (xs := [.tmp 102, .tmp 103]) S trivial (by decide) rfl rfl Tryz.call12 ((laws_eqInt64S_ok (H.rdAt 0 rfl) (H.rdAt 5 rfl) e210).mono ?_)
            rintro e w207 ⟨rfl, Hc208⟩
            have H := H.call0 Hc208
            refine ⟨_, rfl, trivial, fun a S => ?_⟩
            refine lq (.bool (!x209)) S (q_not rfl) fun a S => ?_
            refine lq (.bool (!x209)) S (q_move rfl) fun a S => ?_
            obtain ⟨t212, e213, hm⟩ := bind_some hm
            refine lx_cut 4 (fun a w => Slots a 119 [(10, v111), (13, (.int .i64 x175.1)), (110, (.bool t212))] ∧ Heap w0 [oA (rList (rInt .i64)) v111 x175.2] w) ?_ ?_
            ·by_cases hc214 : (!x209) = true
             ·have hm := ite_t hc214 e213
              refine lx_skip S rfl rfl (isB_ne hc214) (by decide) (fun a S => ?_)
              refine lx_skip S rfl rfl (isB_ne hc214) (by decide) (fun a S => ?_)
              refine lx_skip S rfl rfl (isB_ne hc214) (by decide) (fun a S => ?_)
              refine lq (.bool true) S (q_pickT' rfl hc214 rfl) fun a S => ?_
              refine lx_nil ?_
              obtain rfl := Option.some.inj hm
              have H := H.sel [4] (by decide)
              exact ⟨S.sub ⟨rfl, rfl, rfl, trivial⟩, H⟩
             ·have hm := ite_f (eq_false_of_ne_true hc214) e213
              have hc214 : (!x209) = false := eq_false_of_ne_true hc214
              refine lx_q (.int .i64 x202.2) S (want_b rfl rfl hc214) (by decide) (q_move rfl) (fun a S => ?_)
              refine lx_q (.int .i64 x82.2) S (want_b rfl rfl hc214) (by decide) (q_move rfl) (fun a S => ?_)
              refine lx_q (.bool (x202.2 != x82.2)) S (want_b rfl rfl hc214) (by decide) (q_neq rfl rfl) (fun a S => ?_)
              refine lq (.bool (x202.2 != x82.2)) S (q_pickF' rfl hc214 rfl) fun a S => ?_
              refine lx_nil ?_
              obtain rfl := Option.some.inj hm
              have H := H.sel [4] (by decide)
              exact ⟨S.sub ⟨rfl, rfl, rfl, trivial⟩, H⟩
            ·rintro a w ⟨S, H⟩
             refine lx_nil (thenN ?_)
             refine cond_b S rfl (fun hc215 => ?_) (fun hc215 => ?_)
             ·have hm := ite_t hc215 hm
              refine wp_seq (region_plain ?_)
              refine lq (.bool false) S (q_assign rfl) fun a S => ?_
              refine lx_nil (thenN ?_)
              refine wp_ret (then_ret ?_)
              obtain rfl := Option.some.inj hm
              have H : Heap w0 [] w := H.sel [] (by decide)
              exact leave1 S rfl rfl ⟨rfl, H⟩
             ·have hm := ite_f hc215 hm
              refine wp_skip (thenN ?_)
              refine wp_seq (region_plain ?_)
              refine lq (.int .i64 (1 : Int)) S (q_assign rfl) fun a S => ?_
              refine lx_nil (thenN ?_)
              refine wp_seq (region_plain ?_)
              refine lq v111 S (q_move rfl) fun a S => ?_
              refine lq (.int .i64 (1 : Int)) S (q_move rfl) fun a S => ?_
              obtain ⟨x218, e219, hm⟩ := bind_some hm
              refine lx_call (xs := [.tmp 111, .tmp 112]) S trivial (by decide) rfl rfl Tryz.call18 ((laws_heldInt64S_ok (H.rdAt 0 rfl)  e219).mono ?_)
              rintro e w216 ⟨rfl, Hc217⟩
              have H := H.call0 Hc217
              refine ⟨_, rfl, trivial, fun a S => ?_⟩
              refine lq (.int .i64 x218) S (q_assign rfl) fun a S => ?_
              refine lx_nil (thenN ?_)
              refine wp_seq (wp_seq (region_plain ?_))
              refine lq (.int .i64 x218) S (q_move rfl) fun a S => ?_
              refine lq (.bool (decide (x218 < (0 : Int)))) S (q_lss rfl rfl) fun a S => ?_
              refine lx_nil (thenN ?_)
              refine cond_b S rfl (fun hc221 => ?_) (fun hc221 => ?_)
              ·have hm := ite_t hc221 hm
               refine wp_seq (region_plain ?_)
               refine lq (.bool false) S (q_assign rfl) fun a S => ?_
               refine lx_nil (thenN ?_)
               refine wp_ret (then_ret ?_)
               obtain rfl := Option.some.inj hm
               have H : Heap w0 [] w216 := H.sel [] (by decide)
               exact leave1 S rfl rfl ⟨rfl, H⟩
              ·have hm := ite_f hc221 hm
               refine wp_skip (thenN ?_)
               refine wp_seq (wp_seq (region_plain ?_))
               refine lq (.int .i64 x218) S (q_move rfl) fun a S => ?_
               refine lq (.int .i64 x175.1) S (q_move rfl) fun a S => ?_
               refine lq (.bool (x218 != x175.1)) S (q_neq rfl rfl) fun a S => ?_
               refine lx_nil (thenN ?_)
               refine cond_b S rfl (fun hc222 => ?_) (fun hc222 => ?_)
               ·have hm := ite_t hc222 hm
                refine wp_seq (region_plain ?_)
                refine lq (.bool false) S (q_assign rfl) fun a S => ?_
                refine lx_nil (thenN ?_)
                refine wp_ret (then_ret ?_)
                obtain rfl := Option.some.inj hm
                have H : Heap w0 [] w216 := H.sel [] (by decide)
                exact leave1 S rfl rfl ⟨rfl, H⟩
               ·have hm := ite_f hc222 hm
                refine wp_skip (thenN ?_)
                refine wp_seq (region_plain ?_)
                refine lq (.bool true) S (q_assign rfl) fun a S => ?_
                refine lx_nil (thenN ?_)
                refine wp_ret ?_
                obtain rfl := Option.some.inj hm
                have H : Heap w0 [] w216 := H.sel [] (by decide)
                exact leave1 S rfl rfl ⟨rfl, H⟩
end Go.Proofs.YtifnhbnkgeinmaaGreatDoor
