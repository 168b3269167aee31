/- The models of some functions and their walks (printed by a program of this repo). -/
import Derived.Test.YtcddkipbedfhkaaF0
import Derived.Test.YtcddkipbedfhkaaF1
import Derived.Test.YtcddkipbedfhkaaF3
import Derived.Test.YtcddkipbedfhkaaFS
import Derived.Test.YtcddkipbedfhkaaGxT
import Derived.Test.YtcddkipbedfhkaaGxY
namespace Go.Proofs.Ytcddkipbedfhkaa
open Go.RowKit Go.Gx

/-- spec.l11Place -/
def spec_l11Place_m (fuel : Nat) (a0 : (List Int)) (a1 : Int) : Option (Int) :=
  (iter (fun (s : (Int)) => (match s with | (x39) => (if (decide (x39 < (a0.length : Int))) = true then (idx a0 x39).bind fun x57 => (if (x57 == a1) = true then some (.inr (.inr x39)) else some (.inl ((W (x39 + (1 : Int)))))) else some (.inr (.inl ()))) : Option (((Int)) ⊕ ((Unit) ⊕ (Int))))) fuel ((0 : Int))).bind fun res48 => ctl (β := Unit) (ρ := Int) (τ := Int) res48 (fun _ => some ((-1 : Int))) (fun q => some (q))
set_option maxRecDepth 20000 in
theorem spec_l11Place_ok [dr : Dr] {w0 : World} {fuel : Nat} {p0 : Value} {a0 : (List Int)} {a1 : Int} {r : Int} (h0 : Rd (rList (rInt .i64)) w0 p0 a0) (hm : spec_l11Place_m fuel a0 a1 = some r) :
  Calls Try.prog 50 #[p0, .int .i64 a1] w0 fun e w => e = .returned (.int .i64 r) ∧ Heap w0 [] w := by
 unfold spec_l11Place_m at hm
 have H := Heap.start w0
 refine enter (args := [p0, .int .i64 a1]) Try.func50 rfl 19 rfl (Nat.le_of_ble_eq_true rfl) (fun a S => ?_)
 refine wp_seq (region_plain ?_)
 refine lq (.int .i64 (0 : Int)) S (q_assign rfl) fun a S => ?_
 refine lx_nil (thenN ?_)
 refine wp_seq (wp_seq (region_plain ?_))
 refine lq (.int .i64 (0 : Int)) S (q_assign rfl) fun a S => ?_
 refine lx_nil (thenN ?_)
 obtain ⟨res48, hit49, hk52⟩ := bind_some hm
 obtain ⟨f50, hf51, hit49⟩ := iter_name hit49
 refine block_loop (fun a w => Slots a 19 [] ∧ Heap w0 [] w ∧ res48 = .inl ()) ?_ ?_
 ·rintro a w ⟨S, H, rfl⟩
  have hm := ctl_inl hk52
  refine thenN ?_
  refine wp_seq (region_plain ?_)
  refine lq (.int .i64 (-1 : Int)) S (q_assign rfl) fun a S => ?_
  refine lx_nil (thenN ?_)
  refine wp_ret ?_
  obtain rfl := Option.some.inj hm
  exact leave1 S rfl rfl ⟨rfl, H⟩
 ·skip
  refine loop_ghost (fun n a w => ∃ (x39 : Int), Slots a 19 [(0, p0), (1, (.int .i64 a1)), (5, (.int .i64 x39))] ∧ Heap w0 [] w ∧ iter f50 n (x39) = some res48) _ ⟨(0 : Int), S.sub ⟨rfl, rfl, rfl, trivial⟩, H, hit49⟩ ?_
  rintro n a w ⟨x39, S, H, hit49⟩
  obtain ⟨m53, o54, rfl, hm, hc55⟩ := iter_step hit49
  rw [hf51] at hm
  refine wp_seq (wp_seq (region_plain ?_))
  refine lq (.int .i64 x39) S (q_move rfl) fun a S => ?_
  refine lq p0 S (q_move rfl) fun a S => ?_
  refine lq (.int .i64 (a0.length : Int)) S (q_lenSl rfl (h0).isSl rfl Try.underlying38) fun a S => ?_
  refine lq (.bool (decide (x39 < (a0.length : Int)))) S (q_lss rfl rfl) fun a S => ?_
  refine lx_nil (thenN ?_)
  refine cond_b S rfl (fun hc56 => ?_) (fun hc56 => ?_)
  ·have hm := ite_t hc56 hm
   refine wp_skip (thenN ?_)
   refine wp_seq ?_
   refine wp_block ?_
   refine wp_seq (region_plain ?_)
   refine lq p0 S (q_move rfl) fun a S => ?_
   refine lq (.int .i64 x39) S (q_move rfl) fun a S => ?_
   obtain ⟨x57, e58, hm⟩ := bind_some hm
   obtain ⟨c59, h60, hat61⟩ := (h0).elem (idx_some e58).2
   obtain rfl := h60
   have hlt := lt_of_idx (idx_some e58).2
   refine lq (ePtr p0 (x39.toNat * 1)) S (q_indexAddr rfl (h0).isSl rfl (idx_some e58).1 hlt Try.underlying38 Try.sizeOf2) fun a S => ?_
   refine lx_e (.int .i64 x57) S trivial (by decide) rfl trivial (q_load1 rfl Try.isAgg2 (by rintro _ rfl; exact ((hat61 0 _ rfl).ext H.ext))) (fun a S => ?_)
   refine lq (.int .i64 a1) S (q_move rfl) fun a S => ?_
   refine lq (.bool (x57 == a1)) S (q_eql rfl rfl) fun a S => ?_
   refine lx_nil (thenN ?_)
   refine cond_b S rfl (fun hc62 => ?_) (fun hc62 => ?_)
   ·have hm := ite_t hc62 hm
    refine wp_seq (region_plain ?_)
    refine lq (.int .i64 x39) S (q_move rfl) fun a S => ?_
    refine lq (.int .i64 x39) S (q_assign rfl) fun a S => ?_
    refine lx_nil (thenN ?_)
    refine wp_ret (inBlock_ret ?_)
    refine then_ret ?_
    refine then_ret ?_
    refine inBlock_ret ?_
    refine then_ret ?_
    refine then_ret ?_
    obtain rfl := it_brk hm hc55
    have hm := ctl_inr hk52
    obtain rfl := Option.some.inj hm
    exact leave1 S rfl rfl ⟨rfl, H⟩
   ·have hm := ite_f hc62 hm
    refine wp_skip ?_
    refine inBlock_norm ?_
    refine thenN ?_
    refine region_plain ?_
    refine lq (.int .i64 x39) S (q_move rfl) fun a S => ?_
    refine lq (.int .i64 (W (x39 + (1 : Int)))) S (q_add rfl rfl) fun a S => ?_
    refine lq (.int .i64 (W (x39 + (1 : Int)))) S (q_assign rfl) fun a S => ?_
    refine lx_nil ?_
    exact ⟨m53, Nat.lt_succ_self _, (W (x39 + (1 : Int))), S.sub ⟨rfl, rfl, rfl, trivial⟩, H, it_cont hm hc55⟩
  ·have hm := ite_f hc56 hm
   refine wp_exit ?_
   refine then_exit ?_
   refine then_exit ?_
   refine inBlock_exit ?_
   obtain rfl := it_brk hm hc55
   exact ⟨S.sub trivial, H, rfl⟩

/-- spec.l00Put -/
def spec_l00Put_m (fuel : Nat) (a0 : (List Int)) (a1 : Int) : Option ((List Int)) :=
  (iter (fun (s : (List Int) × (Bool) × (Int)) => (match s with | (xs83, x85, x86) => (if (decide (x86 < (a0.length : Int))) = true then join (κ := List Int → Bool → Option (((List Int) × (Bool) × (Int)) ⊕ (((List Int) × Bool) ⊕ ((List Int))))) (fun (xs163 : List Int) (x165 : Bool) => (idx a0 x86).bind fun x168 => (app xs163 [x168]).bind fun x176 => some (.inl (x176, x165, (W (x86 + (1 : Int)))))) (fun K166 => (if (!x85) = true then (idx a0 x86).bind fun x184 => some (decide (a1 ≤ x184)) else some false).bind fun t181 => (if t181 = true then (idx a0 x86).bind fun x190 => (if (decide (a1 < x190)) = true then (app xs83 [a1]).bind fun x199 => (K166 x199 true) else (K166 xs83 true)) else (K166 xs83 x85))) else some (.inr (.inl (xs83, x85)))) : Option (((List Int) × (Bool) × (Int)) ⊕ (((List Int) × Bool) ⊕ ((List Int)))))) fuel (([] : List Int), false, (0 : Int))).bind fun res139 => ctl (β := (List Int) × Bool) (ρ := (List Int)) (τ := (List Int)) res139 (fun (xs136, x138) => join (κ := List Int → Option (List Int)) (fun (xs145 : List Int) => some (xs145)) (fun K147 => (if (!x138) = true then (app xs136 [a1]).bind fun x153 => (K147 x153) else (K147 xs136)))) (fun q => some (q))
set_option maxRecDepth 20000 in
theorem spec_l00Put_ok [dr : Dr] {w0 : World} {fuel : Nat} {p0 : Value} {a0 : (List Int)} {a1 : Int} {r : (List Int)} (h0 : Rd (rList (rInt .i64)) w0 p0 a0) (hm : spec_l00Put_m fuel a0 a1 = some r) :
  Calls Try.prog 49 #[p0, .int .i64 a1] w0 fun e w => ∃ (v0 : Value), e = .returned (v0) ∧ Heap w0 [oA (rList (rInt .i64)) v0 r] w := by
 unfold spec_l00Put_m at hm
 have H := Heap.start w0
 refine enter (args := [p0, .int .i64 a1]) Try.func49 rfl 49 rfl (Nat.le_of_ble_eq_true rfl) (fun a S => ?_)
 refine wp_seq (region_plain ?_)
 refine lq (.slice none 0 0) S (q_assign rfl) fun a S => ?_
 refine lx_nil (thenN ?_)
 refine wp_seq (region_plain ?_)
 refine lx_buildSlice0 (r := (rInt .i64)) S trivial (by decide) rfl H Try.underlying38 Try.sizeOf2 (fun v31 w32 H => ⟨trivial, fun a S => ?_⟩)
 refine lq v31 S (q_assign rfl) fun a S => ?_
 refine lx_nil (thenN ?_)
 refine wp_seq (region_plain ?_)
 refine lq (.bool false) S (q_assign rfl) fun a S => ?_
 refine lx_nil (thenN ?_)
 refine wp_seq (wp_seq (region_plain ?_))
 refine lq (.int .i64 (0 : Int)) S (q_assign rfl) fun a S => ?_
 refine lx_nil (thenN ?_)
 obtain ⟨res139, hit140, hk143⟩ := bind_some hm
 obtain ⟨f141, hf142, hit140⟩ := iter_name hit140
 refine block_loop (fun a w => ∃ (xs136 : List Int) (x138 : Bool) (v135 : Value), Slots a 49 [(1, (.int .i64 a1)), (5, v135), (6, (.bool x138))] ∧ Heap w0 [oA (rList (rInt .i64)) v135 xs136] w ∧ res139 = .inl (xs136, x138)) ?_ ?_
 ·rintro a w ⟨xs136, x138, v135, S, H, rfl⟩
  have hm := ctl_inl hk143
  refine thenN ?_
  obtain ⟨K147, hK148, hm⟩ := join_elim hm
  refine seq_cut (fun a w => ∃ (xs145 : List Int) (v144 : Value), Slots a 49 [(5, v144)] ∧ Heap w0 [oA (rList (rInt .i64)) v144 xs145] w ∧ K147 xs145 = some r) ?_ ?_
  ·rintro a w ⟨xs145, v144, S, H, hm⟩
   subst hK148
   refine wp_seq (region_plain ?_)
   refine lq v144 S (q_move rfl) fun a S => ?_
   refine lq v144 S (q_assign rfl) fun a S => ?_
   refine lx_nil (thenN ?_)
   refine wp_ret ?_
   obtain rfl := Option.some.inj hm
   exact leave1 S rfl rfl ⟨v144, rfl, H⟩
  ·skip
   refine wp_seq (region_plain ?_)
   refine lq (.bool x138) S (q_move rfl) fun a S => ?_
   refine lq (.bool (!x138)) S (q_not rfl) fun a S => ?_
   refine lx_nil (thenN ?_)
   refine cond_b S rfl (fun hc149 => ?_) (fun hc149 => ?_)
   ·have hm := ite_t hc149 hm
    refine region_plain ?_
    refine lq v135 S (q_move rfl) fun a S => ?_
    refine lq (.int .i64 a1) S (q_move rfl) fun a S => ?_
    refine lx_buildSlice (r := (rInt .i64)) (xs := [a1]) (ps := [(0, [(.int .i64 a1)])]) (cs := [(.int .i64 a1)]) (parts := [(0, .tmp 45)]) S trivial (by decide) rfl (H.put0 (A := eA) rfl) rfl Try.underlying38 Try.sizeOf2 Try.zeroValue2 (by decide) ⟨rfl, rfl, Nat.le_of_ble_eq_true rfl, trivial⟩ (by intro zs hz; exact fill_dense hz ⟨rfl, trivial⟩ rfl rfl) rfl (by decide) (fun w F hA => by cases (show F = [] from hA); exact ⟨_, _, [(.int .i64 a1)], _, rfl, rfl, ⟨rfl, rfl⟩, ⟨rfl, rfl⟩⟩) (fun v150 w151 H => ⟨trivial, fun a S => ?_⟩)
    obtain ⟨x153, e154, hm⟩ := bind_some hm
    obtain ⟨hle, hap⟩ := app_some e154
    replace hap := hap.symm
    subst hap
    have H : Heap w0 [oA (rList (rInt .i64)) v150 [a1], oA (rList (rInt .i64)) v135 xs136] w151 := H.front 0 rfl
    have H : Heap w0 [oA (rList (rInt .i64)) v135 xs136, oA (rList (rInt .i64)) v150 [a1]] w151 := H.front 1 rfl
    refine lx_appendOwn (r := (rInt .i64)) S trivial (by decide) rfl H rfl rfl Try.underlying38 Try.ti2 rfl rfl rfl (Nat.le_of_ble_eq_true rfl) (by decide) hle (fun v155 w156 H => ⟨trivial, fun a S => ?_⟩)
    refine lq v155 S (q_assign rfl) fun a S => ?_
    refine lx_nil ?_
    exact ⟨(xs136 ++ [a1]), v155, S.sub ⟨rfl, trivial⟩, H, hm⟩
   ·have hm := ite_f hc149 hm
    refine wp_skip ?_
    exact ⟨xs136, v135, S.sub ⟨rfl, trivial⟩, H, hm⟩
 ·skip
  refine loop_ghost (fun n a w => ∃ (xs83 : List Int) (x85 : Bool) (x86 : Int) (v82 : Value), Slots a 49 [(0, p0), (1, (.int .i64 a1)), (5, v82), (6, (.bool x85)), (7, (.int .i64 x86))] ∧ Heap w0 [oA (rList (rInt .i64)) v82 xs83] w ∧ iter f141 n (xs83, x85, x86) = some res139) _ ⟨([] : List Int), false, (0 : Int), v31, S.sub ⟨rfl, rfl, rfl, rfl, rfl, trivial⟩, H, hit140⟩ ?_
  rintro n a w ⟨xs83, x85, x86, v82, S, H, hit140⟩
  obtain ⟨m158, o159, rfl, hm, hc160⟩ := iter_step hit140
  rw [hf142] at hm
  refine wp_seq (wp_seq (region_plain ?_))
  refine lq (.int .i64 x86) S (q_move rfl) fun a S => ?_
  refine lq p0 S (q_move rfl) fun a S => ?_
  refine lq (.int .i64 (a0.length : Int)) S (q_lenSl rfl (h0).isSl rfl Try.underlying38) fun a S => ?_
  refine lq (.bool (decide (x86 < (a0.length : Int)))) S (q_lss rfl rfl) fun a S => ?_
  refine lx_nil (thenN ?_)
  refine cond_b S rfl (fun hc161 => ?_) (fun hc161 => ?_)
  ·have hm := ite_t hc161 hm
   refine wp_skip (thenN ?_)
   refine wp_seq ?_
   refine wp_block ?_
   obtain ⟨K166, hK167, hm⟩ := join_elim hm
   refine seq_cut (fun a w => ∃ (xs163 : List Int) (x165 : Bool) (v162 : Value), Slots a 49 [(0, p0), (1, (.int .i64 a1)), (5, v162), (6, (.bool x165)), (7, (.int .i64 x86))] ∧ Heap w0 [oA (rList (rInt .i64)) v162 xs163] w ∧ K166 xs163 x165 = some o159) ?_ ?_
   ·rintro a w ⟨xs163, x165, v162, S, H, hm⟩
    subst hK167
    refine region_plain ?_
    refine lq v162 S (q_move rfl) fun a S => ?_
    refine lq p0 S (q_move rfl) fun a S => ?_
    refine lq (.int .i64 x86) S (q_move rfl) fun a S => ?_
    obtain ⟨x168, e169, hm⟩ := bind_some hm
    obtain ⟨c170, h171, hat172⟩ := (h0).elem (idx_some e169).2
    obtain rfl := h171
    have hlt := lt_of_idx (idx_some e169).2
    refine lq (ePtr p0 (x86.toNat * 1)) S (q_indexAddr rfl (h0).isSl rfl (idx_some e169).1 hlt Try.underlying38 Try.sizeOf2) fun a S => ?_
    refine lx_e (.int .i64 x168) S trivial (by decide) rfl trivial (q_load1 rfl Try.isAgg2 (by rintro _ rfl; exact ((hat172 0 _ rfl).ext H.ext))) (fun a S => ?_)
    refine lx_buildSlice (r := (rInt .i64)) (xs := [x168]) (ps := [(0, [(.int .i64 x168)])]) (cs := [(.int .i64 x168)]) (parts := [(0, .tmp 39)]) S trivial (by decide) rfl (H.put0 (A := eA) rfl) rfl Try.underlying38 Try.sizeOf2 Try.zeroValue2 (by decide) ⟨rfl, rfl, Nat.le_of_ble_eq_true rfl, trivial⟩ (by intro zs hz; exact fill_dense hz ⟨rfl, trivial⟩ rfl rfl) rfl (by decide) (fun w F hA => by cases (show F = [] from hA); exact ⟨_, _, [(.int .i64 x168)], _, rfl, rfl, ⟨rfl, rfl⟩, ⟨rfl, rfl⟩⟩) (fun v173 w174 H => ⟨trivial, fun a S => ?_⟩)
    obtain ⟨x176, e177, hm⟩ := bind_some hm
    obtain ⟨hle, hap⟩ := app_some e177
    replace hap := hap.symm
    subst hap
    have H : Heap w0 [oA (rList (rInt .i64)) v173 [x168], oA (rList (rInt .i64)) v162 xs163] w174 := H.front 0 rfl
    have H : Heap w0 [oA (rList (rInt .i64)) v162 xs163, oA (rList (rInt .i64)) v173 [x168]] w174 := H.front 1 rfl
    refine lx_appendOwn (r := (rInt .i64)) S trivial (by decide) rfl H rfl rfl Try.underlying38 Try.ti2 rfl rfl rfl (Nat.le_of_ble_eq_true rfl) (by decide) hle (fun v178 w179 H => ⟨trivial, fun a S => ?_⟩)
    refine lq v178 S (q_assign rfl) fun a S => ?_
    refine lx_nil ?_
    refine inBlock_norm ?_
    refine thenN ?_
    refine region_plain ?_
    refine lq (.int .i64 x86) S (q_move rfl) fun a S => ?_
    refine lq (.int .i64 (W (x86 + (1 : Int)))) S (q_add rfl rfl) fun a S => ?_
    refine lq (.int .i64 (W (x86 + (1 : Int)))) S (q_assign rfl) fun a S => ?_
    refine lx_nil ?_
    exact ⟨m158, Nat.lt_succ_self _, (xs163 ++ [x168]), x165, (W (x86 + (1 : Int))), v178, S.sub ⟨rfl, rfl, rfl, rfl, rfl, trivial⟩, H, it_cont hm hc160⟩
   ·skip
    refine wp_seq (region_plain ?_)
    refine lq (.bool x85) S (q_move rfl) fun a S => ?_
    refine lq (.bool (!x85)) S (q_not rfl) fun a S => ?_
    refine lq (.bool (!x85)) S (q_move rfl) fun a S => ?_
    obtain ⟨t181, e182, hm⟩ := bind_some hm
    refine lx_cut 7 (fun a w => Slots a 49 [(0, p0), (1, (.int .i64 a1)), (5, v82), (6, (.bool x85)), (7, (.int .i64 x86)), (24, (.bool t181))] ∧ Heap w0 [oA (rList (rInt .i64)) v82 xs83] w) ?_ ?_
    ·by_cases hc183 : (!x85) = true
     ·have hm := ite_t hc183 e182
      refine lx_q p0 S (want_b rfl rfl hc183) (by decide) (q_move rfl) (fun a S => ?_)
      refine lx_q (.int .i64 x86) S (want_b rfl rfl hc183) (by decide) (q_move rfl) (fun a S => ?_)
      obtain ⟨x184, e185, hm⟩ := bind_some hm
      obtain ⟨c186, h187, hat188⟩ := (h0).elem (idx_some e185).2
      obtain rfl := h187
      have hlt := lt_of_idx (idx_some e185).2
      refine lx_q (ePtr p0 (x86.toNat * 1)) S (want_b rfl rfl hc183) (by decide) (q_indexAddr rfl (h0).isSl rfl (idx_some e185).1 hlt Try.underlying38 Try.sizeOf2) (fun a S => ?_)
      refine lx_e (.int .i64 x184) S (want_b rfl rfl hc183) (by decide) rfl trivial (q_load1 rfl Try.isAgg2 (by rintro _ rfl; exact ((hat188 0 _ rfl).ext H.ext))) (fun a S => ?_)
      refine lx_q (.int .i64 a1) S (want_b rfl rfl hc183) (by decide) (q_move rfl) (fun a S => ?_)
      refine lx_q (.bool (decide (a1 ≤ x184))) S (want_b rfl rfl hc183) (by decide) (q_geq rfl rfl) (fun a S => ?_)
      refine lq (.bool (decide (a1 ≤ x184))) S (q_pickT' rfl hc183 rfl) fun a S => ?_
      refine lx_nil ?_
      obtain rfl := Option.some.inj hm
      exact ⟨S.sub ⟨rfl, rfl, rfl, rfl, rfl, rfl, trivial⟩, H⟩
     ·have hm := ite_f (eq_false_of_ne_true hc183) e182
      have hc183 : (!x85) = false := eq_false_of_ne_true hc183
      refine lx_skip S rfl rfl (isB_ne hc183) (by decide) (fun a S => ?_)
      refine lx_skip S rfl rfl (isB_ne hc183) (by decide) (fun a S => ?_)
      refine lx_skip S rfl rfl (isB_ne hc183) (by decide) (fun a S => ?_)
      refine lx_skip S rfl rfl (isB_ne hc183) (by decide) (fun a S => ?_)
      refine lx_skip S rfl rfl (isB_ne hc183) (by decide) (fun a S => ?_)
      refine lx_skip S rfl rfl (isB_ne hc183) (by decide) (fun a S => ?_)
      refine lq (.bool false) S (q_pickF' rfl hc183 rfl) fun a S => ?_
      refine lx_nil ?_
      obtain rfl := Option.some.inj hm
      exact ⟨S.sub ⟨rfl, rfl, rfl, rfl, rfl, rfl, trivial⟩, H⟩
    ·rintro a w ⟨S, H⟩
     refine lx_nil (thenN ?_)
     refine cond_b S rfl (fun hc189 => ?_) (fun hc189 => ?_)
     ·have hm := ite_t hc189 hm
      refine wp_seq (region_plain ?_)
      refine lq (.bool true) S (q_assign rfl) fun a S => ?_
      refine lx_nil (thenN ?_)
      refine wp_seq (region_plain ?_)
      refine lq p0 S (q_move rfl) fun a S => ?_
      refine lq (.int .i64 x86) S (q_move rfl) fun a S => ?_
      obtain ⟨x190, e191, hm⟩ := bind_some hm
      obtain ⟨c192, h193, hat194⟩ := (h0).elem (idx_some e191).2
      obtain rfl := h193
      have hlt := lt_of_idx (idx_some e191).2
      refine lq (ePtr p0 (x86.toNat * 1)) S (q_indexAddr rfl (h0).isSl rfl (idx_some e191).1 hlt Try.underlying38 Try.sizeOf2) fun a S => ?_
      refine lx_e (.int .i64 x190) S trivial (by decide) rfl trivial (q_load1 rfl Try.isAgg2 (by rintro _ rfl; exact ((hat194 0 _ rfl).ext H.ext))) (fun a S => ?_)
      refine lq (.int .i64 a1) S (q_move rfl) fun a S => ?_
      refine lq (.bool (decide (a1 < x190))) S (q_gtr rfl rfl) fun a S => ?_
      refine lx_nil (thenN ?_)
      refine cond_b S rfl (fun hc195 => ?_) (fun hc195 => ?_)
      ·have hm := ite_t hc195 hm
       refine region_plain ?_
       refine lq v82 S (q_move rfl) fun a S => ?_
       refine lq (.int .i64 a1) S (q_move rfl) fun a S => ?_
       refine lx_buildSlice (r := (rInt .i64)) (xs := [a1]) (ps := [(0, [(.int .i64 a1)])]) (cs := [(.int .i64 a1)]) (parts := [(0, .tmp 32)]) S trivial (by decide) rfl (H.put0 (A := eA) rfl) rfl Try.underlying38 Try.sizeOf2 Try.zeroValue2 (by decide) ⟨rfl, rfl, Nat.le_of_ble_eq_true rfl, trivial⟩ (by intro zs hz; exact fill_dense hz ⟨rfl, trivial⟩ rfl rfl) rfl (by decide) (fun w F hA => by cases (show F = [] from hA); exact ⟨_, _, [(.int .i64 a1)], _, rfl, rfl, ⟨rfl, rfl⟩, ⟨rfl, rfl⟩⟩) (fun v196 w197 H => ⟨trivial, fun a S => ?_⟩)
       obtain ⟨x199, e200, hm⟩ := bind_some hm
       obtain ⟨hle, hap⟩ := app_some e200
       replace hap := hap.symm
       subst hap
       have H : Heap w0 [oA (rList (rInt .i64)) v196 [a1], oA (rList (rInt .i64)) v82 xs83] w197 := H.front 0 rfl
       have H : Heap w0 [oA (rList (rInt .i64)) v82 xs83, oA (rList (rInt .i64)) v196 [a1]] w197 := H.front 1 rfl
       refine lx_appendOwn (r := (rInt .i64)) S trivial (by decide) rfl H rfl rfl Try.underlying38 Try.ti2 rfl rfl rfl (Nat.le_of_ble_eq_true rfl) (by decide) hle (fun v201 w202 H => ⟨trivial, fun a S => ?_⟩)
       refine lq v201 S (q_assign rfl) fun a S => ?_
       refine lx_nil ?_
       exact ⟨(xs83 ++ [a1]), true, v201, S.sub ⟨rfl, rfl, rfl, rfl, rfl, trivial⟩, H, hm⟩
      ·have hm := ite_f hc195 hm
       refine wp_skip ?_
       exact ⟨xs83, true, v82, S.sub ⟨rfl, rfl, rfl, rfl, rfl, trivial⟩, H, hm⟩
     ·have hm := ite_f hc189 hm
      refine wp_skip ?_
      exact ⟨xs83, x85, v82, S.sub ⟨rfl, rfl, rfl, rfl, rfl, trivial⟩, H, hm⟩
  ·have hm := ite_f hc161 hm
   refine wp_exit ?_
   refine then_exit ?_
   refine then_exit ?_
   refine inBlock_exit ?_
   obtain rfl := it_brk hm hc160
   exact ⟨xs83, x85, v82, S.sub ⟨rfl, rfl, rfl, trivial⟩, H, rfl⟩

/-- spec.l22Count -/
def spec_l22Count_m (fuel : Nat) (a0 : (List Timpl_Equation)) : Option (Int) :=
  (iter (fun (s : (Int) × (Int)) => (match s with | (x70, x71) => (if (decide (x71 < (a0.length : Int))) = true then join (κ := Int → Option (((Int) × (Int)) ⊕ ((Int) ⊕ (Int)))) (fun (x121 : Int) => some (.inl (x121, (W (x71 + (1 : Int)))))) (fun K122 => (idx a0 x71).bind fun x126 => (idx a0 (W (x71 - (1 : Int)))).bind fun x141 => (if (x126.1 != x141.1) = true then (K122 (W (x70 + (1 : Int)))) else (K122 x70))) else some (.inr (.inl (x70)))) : Option (((Int) × (Int)) ⊕ ((Int) ⊕ (Int))))) fuel ((1 : Int), (1 : Int))).bind fun res112 => ctl (β := Int) (ρ := Int) (τ := Int) res112 (fun (x111) => some (x111)) (fun q => some (q))
set_option maxRecDepth 20000 in
theorem spec_l22Count_ok [dr : Dr] {w0 : World} {fuel : Nat} {p0 : Value} {a0 : (List Timpl_Equation)} {r : Int} (h0 : Rd (rList Rimpl_Equation) w0 p0 a0) (hm : spec_l22Count_m fuel a0 = some r) :
  Calls Try.prog 51 #[p0] w0 fun e w => e = .returned (.int .i64 r) ∧ Heap w0 [] w := by
 unfold spec_l22Count_m at hm
 have H := Heap.start w0
 refine enter (args := [p0]) Try.func51 rfl 26 rfl (Nat.le_of_ble_eq_true rfl) (fun a S => ?_)
 refine wp_seq (region_plain ?_)
 refine lq (.int .i64 (0 : Int)) S (q_assign rfl) fun a S => ?_
 refine lx_nil (thenN ?_)
 refine wp_seq (region_plain ?_)
 refine lq (.int .i64 (1 : Int)) S (q_assign rfl) fun a S => ?_
 refine lx_nil (thenN ?_)
 refine wp_seq (wp_seq (region_plain ?_))
 refine lq (.int .i64 (1 : Int)) S (q_assign rfl) fun a S => ?_
 refine lx_nil (thenN ?_)
 obtain ⟨res112, hit113, hk116⟩ := bind_some hm
 obtain ⟨f114, hf115, hit113⟩ := iter_name hit113
 refine block_loop (fun a w => ∃ (x111 : Int), Slots a 26 [(3, (.int .i64 x111))] ∧ Heap w0 [] w ∧ res112 = .inl (x111)) ?_ ?_
 ·rintro a w ⟨x111, S, H, rfl⟩
  have hm := ctl_inl hk116
  refine thenN ?_
  refine wp_seq (region_plain ?_)
  refine lq (.int .i64 x111) S (q_move rfl) fun a S => ?_
  refine lq (.int .i64 x111) S (q_assign rfl) fun a S => ?_
  refine lx_nil (thenN ?_)
  refine wp_ret ?_
  obtain rfl := Option.some.inj hm
  exact leave1 S rfl rfl ⟨rfl, H⟩
 ·skip
  refine loop_ghost (fun n a w => ∃ (x70 : Int) (x71 : Int), Slots a 26 [(0, p0), (3, (.int .i64 x70)), (4, (.int .i64 x71))] ∧ Heap w0 [] w ∧ iter f114 n (x70, x71) = some res112) _ ⟨(1 : Int), (1 : Int), S.sub ⟨rfl, rfl, rfl, trivial⟩, H, hit113⟩ ?_
  rintro n a w ⟨x70, x71, S, H, hit113⟩
  obtain ⟨m117, o118, rfl, hm, hc119⟩ := iter_step hit113
  rw [hf115] at hm
  refine wp_seq (wp_seq (region_plain ?_))
  refine lq (.int .i64 x71) S (q_move rfl) fun a S => ?_
  refine lq p0 S (q_move rfl) fun a S => ?_
  refine lq (.int .i64 (a0.length : Int)) S (q_lenSl rfl (h0).isSl rfl Try.underlying37) fun a S => ?_
  refine lq (.bool (decide (x71 < (a0.length : Int)))) S (q_lss rfl rfl) fun a S => ?_
  refine lx_nil (thenN ?_)
  refine cond_b S rfl (fun hc120 => ?_) (fun hc120 => ?_)
  ·have hm := ite_t hc120 hm
   refine wp_skip (thenN ?_)
   obtain ⟨K122, hK123, hm⟩ := join_elim hm
   refine seq_cut (fun a w => ∃ (x121 : Int), Slots a 26 [(0, p0), (3, (.int .i64 x121)), (4, (.int .i64 x71))] ∧ Heap w0 [] w ∧ K122 x121 = some o118) ?_ ?_
   ·rintro a w ⟨x121, S, H, hm⟩
    subst hK123
    refine region_plain ?_
    refine lq (.int .i64 x71) S (q_move rfl) fun a S => ?_
    refine lq (.int .i64 (W (x71 + (1 : Int)))) S (q_add rfl rfl) fun a S => ?_
    refine lq (.int .i64 (W (x71 + (1 : Int)))) S (q_assign rfl) fun a S => ?_
    refine lx_nil ?_
    exact ⟨m117, Nat.lt_succ_self _, x121, (W (x71 + (1 : Int))), S.sub ⟨rfl, rfl, rfl, trivial⟩, H, it_cont hm hc119⟩
   ·skip
    refine wp_block ?_
    refine wp_seq ?_
    refine region_drawG (fun w1 => Heap w0 [] w1) (fun i => [].contains i) mixed (by kernel_rfl) (fun w125 he124 => ?_)
    have H := H.later he124
    refine ⟨H.sel [] (by decide), ?_⟩
    refine lq p0 S (q_move rfl) fun a S => ?_
    refine lq (.int .i64 x71) S (q_move rfl) fun a S => ?_
    obtain ⟨x126, e127, hm⟩ := bind_some hm
    obtain ⟨c128, h129, hat130⟩ := (h0).elem (idx_some e127).2
    obtain ⟨c133, c134, rfl, h135, h136⟩ := h129
    obtain rfl := h135
    obtain ⟨c137, c138, rfl, h139, h140⟩ := h136
    obtain rfl := h139
    obtain ⟨v131, rfl, h132⟩ := rd_list h140
    have hlt := lt_of_idx (idx_some e127).2
    refine lq (ePtr p0 (x71.toNat * 3)) S (q_indexAddr rfl (h0).isSl rfl (idx_some e127).1 hlt Try.underlying37 Try.sizeOf70) fun a S => ?_
    refine lq (pAdd (ePtr p0 (x71.toNat * 3)) 0) S (q_fieldAddr' 0 4 rfl ((hat130 0 _ rfl).isP) Try.underlying70 rfl Try.sizeOf4) fun a S => ?_
    refine lq (.bool x126.1) S (q_load1 rfl Try.isAgg4 (fun w1 hC => (At.of_add (m := 0) (j := 0) ((hat130 0 _ rfl).ext hC.ext)))) fun a S => ?_
    refine lq p0 S (q_move rfl) fun a S => ?_
    refine lq (.int .i64 x71) S (q_move rfl) fun a S => ?_
    refine lq (.int .i64 (W (x71 - (1 : Int)))) S (q_sub rfl rfl) fun a S => ?_
    obtain ⟨x141, e142, hm⟩ := bind_some hm
    obtain ⟨c143, h144, hat145⟩ := (h0).elem (idx_some e142).2
    obtain ⟨c148, c149, rfl, h150, h151⟩ := h144
    obtain rfl := h150
    obtain ⟨c152, c153, rfl, h154, h155⟩ := h151
    obtain rfl := h154
    obtain ⟨v146, rfl, h147⟩ := rd_list h155
    have hlt := lt_of_idx (idx_some e142).2
    refine lq (ePtr p0 ((W (x71 - (1 : Int))).toNat * 3)) S (q_indexAddr rfl (h0).isSl rfl (idx_some e142).1 hlt Try.underlying37 Try.sizeOf70) fun a S => ?_
    refine lq (pAdd (ePtr p0 ((W (x71 - (1 : Int))).toNat * 3)) 0) S (q_fieldAddr' 0 4 rfl ((hat145 0 _ rfl).isP) Try.underlying70 rfl Try.sizeOf4) fun a S => ?_
    refine lq (.bool x141.1) S (q_load1 rfl Try.isAgg4 (fun w1 hC => (At.of_add (m := 0) (j := 0) ((hat145 0 _ rfl).ext hC.ext)))) fun a S => ?_
    refine lq (.bool (x126.1 != x141.1)) S (q_bneq rfl rfl Try.underlying4) fun a S => ?_
    refine lx_nil (thenN ?_)
    refine cond_b S rfl (fun hc156 => ?_) (fun hc156 => ?_)
    ·have hm := ite_t hc156 hm
     refine region_plain ?_
     refine lq (.int .i64 x70) S (q_move rfl) fun a S => ?_
     refine lq (.int .i64 (W (x70 + (1 : Int)))) S (q_add rfl rfl) fun a S => ?_
     refine lq (.int .i64 (W (x70 + (1 : Int)))) S (q_assign rfl) fun a S => ?_
     refine lx_nil ?_
     refine inBlock_norm ?_
     exact ⟨(W (x70 + (1 : Int))), S.sub ⟨rfl, rfl, rfl, trivial⟩, H, hm⟩
    ·have hm := ite_f hc156 hm
     refine wp_skip ?_
     refine inBlock_norm ?_
     exact ⟨x70, S.sub ⟨rfl, rfl, rfl, trivial⟩, H, hm⟩
  ·have hm := ite_f hc120 hm
   refine wp_exit ?_
   refine then_exit ?_
   refine then_exit ?_
   refine inBlock_exit ?_
   obtain rfl := it_brk hm hc119
   exact ⟨x70, S.sub ⟨rfl, trivial⟩, H, rfl⟩

/-- spec.EquationsOfGame -/
def spec_EquationsOfGame_m (fuel : Nat) (a0 : (List Timpl_Vertex)) : Option (((List Timpl_Equation) × (List Int) × Int)) :=
  (spec_l23Is_m fuel a0).bind fun x33 => (if (!x33) = true then some (([], [], (1 : Int))) else (iter (fun (s : (List Int) × (Int)) => (match s with | (xs161, x163) => (if (decide (x163 ≤ (9 : Int))) = true then (iter (fun (s : (List Int) × (Int)) => (match s with | (xs702, x704) => (if (decide (x704 < (a0.length : Int))) = true then join (κ := List Int → Option (((List Int) × (Int)) ⊕ (((List Int)) ⊕ (((List Timpl_Equation) × (List Int) × Int))))) (fun (xs752 : List Int) => some (.inl (xs752, (W (x704 + (1 : Int)))))) (fun K754 => (idx a0 x704).bind fun x756 => (if (x756.2.1 == x163) = true then (app xs702 [x704]).bind fun x775 => (K754 x775) else (K754 xs702))) else some (.inr (.inl (xs702)))) : Option (((List Int) × (Int)) ⊕ (((List Int)) ⊕ (((List Timpl_Equation) × (List Int) × Int)))))) fuel (xs161, (0 : Int))).bind fun res742 => ctl (β := (List Int)) (ρ := ((List Timpl_Equation) × (List Int) × Int)) (τ := (((List Int) × (Int)) ⊕ (((List Int)) ⊕ (((List Timpl_Equation) × (List Int) × Int))))) res742 (fun (xs740) => some (.inl (xs740, (W (x163 + (1 : Int)))))) (fun q => some (.inr (.inr q))) else some (.inr (.inl (xs161)))) : Option (((List Int) × (Int)) ⊕ (((List Int)) ⊕ (((List Timpl_Equation) × (List Int) × Int)))))) fuel (([] : List Int), (0 : Int))).bind fun res285 => ctl (β := (List Int)) (ρ := ((List Timpl_Equation) × (List Int) × Int)) (τ := ((List Timpl_Equation) × (List Int) × Int)) res285 (fun (xs283) => (iter (fun (s : (List Timpl_Equation) × (Int)) => (match s with | (xs411, x413) => (if (decide (x413 < (xs283.length : Int))) = true then (idx xs283 x413).bind fun x551 => (idx a0 x551).bind fun x556 => (iter (fun (s : (List Int) × (Int)) => (match s with | (xs601, x603) => (if (decide (x603 < (x556.2.2.length : Int))) = true then (idx x556.2.2 x603).bind fun x646 => (spec_l11Place_m fuel xs283 x646).bind fun x653 => (spec_l00Put_m fuel xs601 x653).bind fun x658 => some (.inl (x658, (W (x603 + (1 : Int))))) else some (.inr (.inl (xs601)))) : Option (((List Int) × (Int)) ⊕ (((List Int)) ⊕ (((List Timpl_Equation) × (List Int) × Int)))))) fuel (([] : List Int), (0 : Int))).bind fun res629 => ctl (β := (List Int)) (ρ := ((List Timpl_Equation) × (List Int) × Int)) (τ := (((List Timpl_Equation) × (Int)) ⊕ (((List Timpl_Equation)) ⊕ (((List Timpl_Equation) × (List Int) × Int))))) res629 (fun (xs627) => (app xs411 [(((x556.2.1.tmod (2 : Int)) == (0 : Int)), (x556.1 == (1 : Int)), xs627)]).bind fun x637 => some (.inl (x637, (W (x413 + (1 : Int)))))) (fun q => some (.inr (.inr q))) else some (.inr (.inl (xs411)))) : Option (((List Timpl_Equation) × (Int)) ⊕ (((List Timpl_Equation)) ⊕ (((List Timpl_Equation) × (List Int) × Int)))))) fuel (([] : List Timpl_Equation), (0 : Int))).bind fun res534 => ctl (β := (List Timpl_Equation)) (ρ := ((List Timpl_Equation) × (List Int) × Int)) (τ := ((List Timpl_Equation) × (List Int) × Int)) res534 (fun (xs532) => (spec_l22Count_m fuel xs532).bind fun x541 => (if (decide ((9 : Int) < x541)) = true then some (([], [], (5 : Int))) else some ((xs532, xs283, (0 : Int))))) (fun q => some (q))) (fun q => some (q)))
set_option maxRecDepth 20000 in
theorem spec_EquationsOfGame_ok [dr : Dr] {w0 : World} {fuel : Nat} {p0 : Value} {a0 : (List Timpl_Vertex)} {r : ((List Timpl_Equation) × (List Int) × Int)} (h0 : Rd (rList Rimpl_Vertex) w0 p0 a0) (hm : spec_EquationsOfGame_m fuel a0 = some r) :
  Calls Try.prog 19 #[p0] w0 fun e w => ∃ (v0 : Value) (v1 : Value), e = .returned (.tuple #[v0, v1, .int .i64 r.2.2]) ∧ Heap w0 [oA (rList Rimpl_Equation) v0 r.1, oA (rList (rInt .i64)) v1 r.2.1] w := by
 unfold spec_EquationsOfGame_m at hm
 have H := Heap.start w0
 refine enter (args := [p0]) Try.func19 rfl 86 rfl (Nat.le_of_ble_eq_true rfl) (fun a S => ?_)
 refine wp_seq (region_plain ?_)
 refine lq (.slice none 0 0) S (q_assign rfl) fun a S => ?_
 refine lq (.slice none 0 0) S (q_assign rfl) fun a S => ?_
 refine lq (.int .i64 (0 : Int)) S (q_assign rfl) fun a S => ?_
 refine lx_nil (thenN ?_)
 refine wp_seq (wp_seq (region_plain ?_))
 refine lq p0 S (q_move rfl) fun a S => ?_
 obtain ⟨x33, e34, hm⟩ := bind_some hm
 refine lx_call (xs := [.tmp 13]) S trivial (by decide) rfl rfl Try.call29 ((spec_l23Is_ok (H.arg h0) e34).mono ?_)
 rintro e w31 ⟨rfl, Hc32⟩
 have H := H.call0 Hc32
 refine ⟨_, rfl, trivial, fun a S => ?_⟩
 refine lq (.bool (!x33)) S (q_not rfl) fun a S => ?_
 refine lx_nil (thenN ?_)
 refine cond_b S rfl (fun hc36 => ?_) (fun hc36 => ?_)
 ·have hm := ite_t hc36 hm
  refine wp_seq (region_plain ?_)
  refine lq (.slice none 0 0) S (q_assign rfl) fun a S => ?_
  refine lq (.slice none 0 0) S (q_assign rfl) fun a S => ?_
  refine lq (.int .i64 (1 : Int)) S (q_assign rfl) fun a S => ?_
  refine lx_nil (thenN ?_)
  refine wp_ret (then_ret ?_)
  obtain rfl := Option.some.inj hm
  have H : Heap w0 [oA (rList Rimpl_Equation) (.slice none 0 0) ([] : List Timpl_Equation)] w31 := H.nilList Rimpl_Equation
  have H : Heap w0 [oA (rList (rInt .i64)) (.slice none 0 0) ([] : List Int), oA (rList Rimpl_Equation) (.slice none 0 0) ([] : List Timpl_Equation)] w31 := H.nilList (rInt .i64)
  have H : Heap w0 [oA (rList Rimpl_Equation) (.slice none 0 0) ([] : List Timpl_Equation), oA (rList (rInt .i64)) (.slice none 0 0) ([] : List Int)] w31 := H.front 1 rfl
  exact leave3 S rfl rfl rfl rfl ⟨(.slice none 0 0), (.slice none 0 0), rfl, H⟩
 ·have hm := ite_f hc36 hm
  refine wp_skip (thenN ?_)
  refine wp_seq (region_plain ?_)
  refine lx_buildSlice0 (r := (rInt .i64)) S trivial (by decide) rfl H Try.underlying38 Try.sizeOf2 (fun v39 w40 H => ⟨trivial, fun a S => ?_⟩)
  refine lq v39 S (q_assign rfl) fun a S => ?_
  refine lx_nil (thenN ?_)
  refine wp_seq (wp_seq (region_plain ?_))
  refine lq (.int .i64 (0 : Int)) S (q_assign rfl) fun a S => ?_
  refine lx_nil (thenN ?_)
  obtain ⟨res285, hit286, hk289⟩ := bind_some hm
  obtain ⟨f287, hf288, hit286⟩ := iter_name hit286
  refine block_loop (fun a w => ∃ (xs283 : List Int) (v282 : Value), Slots a 86 [(0, p0), (5, v282)] ∧ Heap w0 [oA (rList (rInt .i64)) v282 xs283] w ∧ res285 = .inl (xs283)) ?_ ?_
  ·rintro a w ⟨xs283, v282, S, H, rfl⟩
   have hm := ctl_inl hk289
   refine thenN ?_
   refine wp_seq (region_plain ?_)
   refine lx_buildSlice0 (r := Rimpl_Equation) S trivial (by decide) rfl H Try.underlying37 Try.sizeOf70 (fun v290 w291 H => ⟨trivial, fun a S => ?_⟩)
   refine lq v290 S (q_assign rfl) fun a S => ?_
   refine lx_nil (thenN ?_)
   refine wp_seq (wp_seq (region_plain ?_))
   refine lq (.int .i64 (0 : Int)) S (q_assign rfl) fun a S => ?_
   refine lx_nil (thenN ?_)
   obtain ⟨res534, hit535, hk538⟩ := bind_some hm
   obtain ⟨f536, hf537, hit535⟩ := iter_name hit535
   refine block_loop (fun a w => ∃ (xs532 : List Timpl_Equation) (v531 : Value), Slots a 86 [(5, v282), (8, v531)] ∧ Heap w0 [oA (rList (rInt .i64)) v282 xs283, oA (rList Rimpl_Equation) v531 xs532] w ∧ res534 = .inl (xs532)) ?_ ?_
   ·rintro a w ⟨xs532, v531, S, H, rfl⟩
    have hm := ctl_inl hk538
    refine thenN ?_
    refine wp_seq (wp_seq (region_plain ?_))
    refine lq v531 S (q_move rfl) fun a S => ?_
    obtain ⟨x541, e542, hm⟩ := bind_some hm
    refine lx_call (xs := [.tmp 81]) S trivial (by decide) rfl rfl Try.call51 ((spec_l22Count_ok (H.rdAt 1 rfl) e542).mono ?_)
    rintro e w539 ⟨rfl, Hc540⟩
    have H := H.call0 Hc540
    refine ⟨_, rfl, trivial, fun a S => ?_⟩
    refine lq (.bool (decide ((9 : Int) < x541))) S (q_gtr rfl rfl) fun a S => ?_
    refine lx_nil (thenN ?_)
    refine cond_b S rfl (fun hc544 => ?_) (fun hc544 => ?_)
    ·have hm := ite_t hc544 hm
     refine wp_seq (region_plain ?_)
     refine lq (.slice none 0 0) S (q_assign rfl) fun a S => ?_
     refine lq (.slice none 0 0) S (q_assign rfl) fun a S => ?_
     refine lq (.int .i64 (5 : Int)) S (q_assign rfl) fun a S => ?_
     refine lx_nil (thenN ?_)
     refine wp_ret (then_ret ?_)
     obtain rfl := Option.some.inj hm
     have H : Heap w0 [oA (rList Rimpl_Equation) (.slice none 0 0) ([] : List Timpl_Equation), oA (rList (rInt .i64)) v282 xs283, oA (rList Rimpl_Equation) v531 xs532] w539 := H.nilList Rimpl_Equation
     have H : Heap w0 [oA (rList (rInt .i64)) (.slice none 0 0) ([] : List Int), oA (rList Rimpl_Equation) (.slice none 0 0) ([] : List Timpl_Equation), oA (rList (rInt .i64)) v282 xs283, oA (rList Rimpl_Equation) v531 xs532] w539 := H.nilList (rInt .i64)
     have H : Heap w0 [oA (rList Rimpl_Equation) (.slice none 0 0) ([] : List Timpl_Equation), oA (rList (rInt .i64)) (.slice none 0 0) ([] : List Int), oA (rList (rInt .i64)) v282 xs283, oA (rList Rimpl_Equation) v531 xs532] w539 := H.front 1 rfl
     have H : Heap w0 [oA (rList Rimpl_Equation) (.slice none 0 0) ([] : List Timpl_Equation), oA (rList (rInt .i64)) (.slice none 0 0) ([] : List Int)] w539 := H.sel [0, 1] (by decide)
     exact leave3 S rfl rfl rfl rfl ⟨(.slice none 0 0), (.slice none 0 0), rfl, H⟩
    ·have hm := ite_f hc544 hm
     refine wp_skip (thenN ?_)
     refine wp_seq (region_plain ?_)
     refine lq v531 S (q_move rfl) fun a S => ?_
     refine lq v282 S (q_move rfl) fun a S => ?_
     refine lq v531 S (q_assign rfl) fun a S => ?_
     refine lq v282 S (q_assign rfl) fun a S => ?_
     refine lq (.int .i64 (0 : Int)) S (q_assign rfl) fun a S => ?_
     refine lx_nil (thenN ?_)
     refine wp_ret ?_
     obtain rfl := Option.some.inj hm
     have H : Heap w0 [oA (rList Rimpl_Equation) v531 xs532, oA (rList (rInt .i64)) v282 xs283] w539 := H.front 1 rfl
     exact leave3 S rfl rfl rfl rfl ⟨v531, v282, rfl, H⟩
   ·skip
    have H : Heap w0 [oA (rList (rInt .i64)) v282 xs283, oA (rList Rimpl_Equation) v290 ([] : List Timpl_Equation)] w291 := H.front 1 rfl
    refine loop_ghost (fun n a w => ∃ (xs411 : List Timpl_Equation) (x413 : Int) (v410 : Value), Slots a 86 [(0, p0), (5, v282), (8, v410), (9, (.int .i64 x413))] ∧ Heap w0 [oA (rList (rInt .i64)) v282 xs283, oA (rList Rimpl_Equation) v410 xs411] w ∧ iter f536 n (xs411, x413) = some res534) _ ⟨([] : List Timpl_Equation), (0 : Int), v290, S.sub ⟨rfl, rfl, rfl, rfl, trivial⟩, H, hit535⟩ ?_
    rintro n a w ⟨xs411, x413, v410, S, H, hit535⟩
    obtain ⟨m547, o548, rfl, hm, hc549⟩ := iter_step hit535
    rw [hf537] at hm
    refine wp_seq (wp_seq (region_plain ?_))
    refine lq (.int .i64 x413) S (q_move rfl) fun a S => ?_
    refine lq v282 S (q_move rfl) fun a S => ?_
    refine lq (.int .i64 (xs283.length : Int)) S (q_lenSl rfl (H.isSl 0 rfl) rfl Try.underlying38) fun a S => ?_
    refine lq (.bool (decide (x413 < (xs283.length : Int)))) S (q_lss rfl rfl) fun a S => ?_
    refine lx_nil (thenN ?_)
    refine cond_b S rfl (fun hc550 => ?_) (fun hc550 => ?_)
    ·have hm := ite_t hc550 hm
     refine wp_skip (thenN ?_)
     refine wp_seq ?_
     refine wp_block ?_
     refine wp_seq (region_plain ?_)
     refine lq p0 S (q_move rfl) fun a S => ?_
     refine lq v282 S (q_move rfl) fun a S => ?_
     refine lq (.int .i64 x413) S (q_move rfl) fun a S => ?_
     obtain ⟨x551, e552, hm⟩ := bind_some hm
     have hlt := lt_of_idx (idx_some e552).2
     refine lq (ePtr v282 (x413.toNat * 1)) S (q_indexAddr rfl (H.isSl 0 rfl) rfl (idx_some e552).1 hlt Try.underlying38 Try.sizeOf2) fun a S => ?_
     obtain ⟨c553, h554, hat555⟩ := (H.rdAt 0 rfl).elem (idx_some e552).2
     obtain rfl := h554
     refine lx_e (.int .i64 x551) S trivial (by decide) rfl trivial (q_load1 rfl Try.isAgg2 (by rintro _ rfl; exact (hat555 0 _ rfl))) (fun a S => ?_)
     obtain ⟨x556, e557, hm⟩ := bind_some hm
     obtain ⟨c558, h559, hat560⟩ := (h0).elem (idx_some e557).2
     obtain ⟨c563, c564, rfl, h565, h566⟩ := h559
     obtain rfl := h565
     obtain ⟨c567, c568, rfl, h569, h570⟩ := h566
     obtain rfl := h569
     obtain ⟨v561, rfl, h562⟩ := rd_list h570
     have hlt := lt_of_idx (idx_some e557).2
     refine lq (ePtr p0 (x551.toNat * 3)) S (q_indexAddr rfl (h0).isSl rfl (idx_some e557).1 hlt Try.underlying27 Try.sizeOf53) fun a S => ?_
     refine lx_e (.agg #[(.int .i64 x556.1), (.int .i64 x556.2.1), v561]) S trivial (by decide) rfl trivial (q_loadA (cs := [(.int .i64 x556.1), (.int .i64 x556.2.1), v561]) rfl ((hat560 0 _ rfl).isP) Try.isAgg53 Try.sizeOf53 (by rintro _ rfl; exact (fun j u hu => (hat560 j u hu).ext H.ext))) (fun a S => ?_)
     refine lx_alloc S trivial (by decide) rfl H Try.zeroValue53 rfl (fun b571 w572 H => ⟨trivial, fun a S => ?_⟩)
     refine lx_storeBox (o := 0) (i := 0) (us := [(.int .i64 x556.1), (.int .i64 x556.2.1), v561]) (cs' := [(.int .i64 x556.1), (.int .i64 x556.2.1), v561]) S trivial rfl H rfl rfl rfl rfl Try.sizeOf53 (Nat.le_of_ble_eq_true rfl) (List.forall_mem_cons.2 ⟨rfl, (List.forall_mem_cons.2 ⟨rfl, (List.forall_mem_cons.2 ⟨one_sl (h562).isSl, (List.forall_mem_nil _)⟩)⟩)⟩) rfl (fun w574 H => ⟨trivial, fun a S => ?_⟩)
     change Heap w0 [bA b571 [(.int .i64 x556.1), (.int .i64 x556.2.1), v561] 53, oA (rList (rInt .i64)) v282 xs283, oA (rList Rimpl_Equation) v410 xs411] w574 at H
     refine lx_nil (thenN ?_)
     refine wp_seq (region_plain ?_)
     refine lx_buildSlice0 (r := (rInt .i64)) S trivial (by decide) rfl H Try.underlying38 Try.sizeOf2 (fun v575 w576 H => ⟨trivial, fun a S => ?_⟩)
     refine lq v575 S (q_assign rfl) fun a S => ?_
     refine lx_nil (thenN ?_)
     refine wp_seq (wp_seq (region_plain ?_))
     refine lq (.int .i64 (0 : Int)) S (q_assign rfl) fun a S => ?_
     refine lx_nil (thenN ?_)
     obtain ⟨res629, hit630, hk633⟩ := bind_some hm
     obtain ⟨f631, hf632, hit630⟩ := iter_name hit630
     refine block_loop (fun a w => ∃ (xs627 : List Int) (v626 : Value), Slots a 86 [(0, p0), (5, v282), (8, v410), (9, (.int .i64 x413)), (10, (bp b571)), (11, v626)] ∧ Heap w0 [oA (rList (rInt .i64)) v282 xs283, oA (rList Rimpl_Equation) v410 xs411, bA b571 [(.int .i64 x556.1), (.int .i64 x556.2.1), v561] 53, oA (rList (rInt .i64)) v626 xs627] w ∧ res629 = .inl (xs627)) ?_ ?_
     ·rintro a w ⟨xs627, v626, S, H, rfl⟩
      have hm := ctl_inl hk633
      refine thenN ?_
      refine region_plain ?_
      refine lq v410 S (q_move rfl) fun a S => ?_
      refine lq (pAdd (bp b571) 1) S (q_fieldAddr' 1 2 rfl (isP_bp _) Try.underlying53 rfl Try.sizeOf2) fun a S => ?_
      refine lx_e (.int .i64 x556.2.1) S trivial (by decide) rfl trivial (q_load1 rfl Try.isAgg2 (by rintro _ rfl; exact (At.of_add (m := 1) (j := 0) (boxAt (i := 2) H rfl (j := 1) rfl)))) (fun a S => ?_)
      refine lq (.int .i64 (x556.2.1.tmod (2 : Int))) S (q_rem rfl rfl (show (2 : Int) ≠ 0 from by decide)) fun a S => ?_
      refine lq (.bool ((x556.2.1.tmod (2 : Int)) == (0 : Int))) S (q_eql rfl rfl) fun a S => ?_
      refine lq (pAdd (bp b571) 0) S (q_fieldAddr' 0 2 rfl (isP_bp _) Try.underlying53 rfl Try.sizeOf2) fun a S => ?_
      refine lx_e (.int .i64 x556.1) S trivial (by decide) rfl trivial (q_load1 rfl Try.isAgg2 (by rintro _ rfl; exact (At.of_add (m := 0) (j := 0) (boxAt (i := 2) H rfl (j := 0) rfl)))) (fun a S => ?_)
      refine lq (.bool (x556.1 == (1 : Int))) S (q_eql rfl rfl) fun a S => ?_
      refine lq v626 S (q_move rfl) fun a S => ?_
      refine lq (.agg #[(.bool ((x556.2.1.tmod (2 : Int)) == (0 : Int))), (.bool (x556.1 == (1 : Int))), v626]) S (q_build (zs := [(.bool false), (.bool false), (.slice none 0 0)]) (szs := [1, 1, 1]) (ps := [(0, [(.bool ((x556.2.1.tmod (2 : Int)) == (0 : Int)))]), (1, [(.bool (x556.1 == (1 : Int)))]), (2, [v626])]) (parts := [(0, .tmp 73), (1, .tmp 76), (2, .tmp 77)]) rfl Try.underlying70 Try.zeroValue70 (fun w => by simp [Try.sizeOf38, Try.sizeOf4]) ⟨rfl, rfl, Nat.le_of_ble_eq_true rfl, ⟨rfl, rfl, Nat.le_of_ble_eq_true rfl, ⟨rfl, (cells_sl (H.isSl 3 rfl)), Nat.le_of_ble_eq_true rfl, trivial⟩⟩⟩ rfl) fun a S => ?_
      have H : Heap w0 [oA (rList (rInt .i64)) v626 xs627, oA (rList (rInt .i64)) v282 xs283, oA (rList Rimpl_Equation) v410 xs411, bA b571 [(.int .i64 x556.1), (.int .i64 x556.2.1), v561] 53] w := H.front 3 rfl
      refine lx_buildSlice (r := Rimpl_Equation) (xs := [(((x556.2.1.tmod (2 : Int)) == (0 : Int)), (x556.1 == (1 : Int)), xs627)]) (ps := [(0, [(.bool ((x556.2.1.tmod (2 : Int)) == (0 : Int))), (.bool (x556.1 == (1 : Int))), v626])]) (cs := [(.bool ((x556.2.1.tmod (2 : Int)) == (0 : Int))), (.bool (x556.1 == (1 : Int))), v626]) (parts := [(0, .tmp 78)]) S trivial (by decide) rfl H rfl Try.underlying37 Try.sizeOf70 Try.zeroValue70 (by decide) ⟨rfl, rfl, Nat.le_of_ble_eq_true rfl, trivial⟩ (by intro zs hz; exact fill_dense hz ⟨rfl, trivial⟩ rfl rfl) rfl (by decide) (fun w F hA => ownL_one_mk (ownF ⟨_, _, [(.bool ((x556.2.1.tmod (2 : Int)) == (0 : Int)))], [(.bool (x556.1 == (1 : Int))), v626], rfl, rfl, ⟨rfl, rfl⟩, ⟨_, _, [(.bool (x556.1 == (1 : Int)))], [v626], rfl, rfl, ⟨rfl, rfl⟩, (oA_list.1 hA)⟩⟩)) (fun v634 w635 H => ⟨trivial, fun a S => ?_⟩)
      obtain ⟨x637, e638, hm⟩ := bind_some hm
      obtain ⟨hle, hap⟩ := app_some e638
      replace hap := hap.symm
      subst hap
      have H : Heap w0 [oA (rList Rimpl_Equation) v634 [(((x556.2.1.tmod (2 : Int)) == (0 : Int)), (x556.1 == (1 : Int)), xs627)], oA (rList (rInt .i64)) v282 xs283, oA (rList Rimpl_Equation) v410 xs411, bA b571 [(.int .i64 x556.1), (.int .i64 x556.2.1), v561] 53] w635 := H.front 0 rfl
      have H : Heap w0 [oA (rList Rimpl_Equation) v410 xs411, oA (rList Rimpl_Equation) v634 [(((x556.2.1.tmod (2 : Int)) == (0 : Int)), (x556.1 == (1 : Int)), xs627)], oA (rList (rInt .i64)) v282 xs283, bA b571 [(.int .i64 x556.1), (.int .i64 x556.2.1), v561] 53] w635 := H.front 2 rfl
      refine lx_appendOwn (r := Rimpl_Equation) S trivial (by decide) rfl H rfl rfl Try.underlying37 Try.ti70 rfl rfl rfl (Nat.le_of_ble_eq_true rfl) (by decide) hle (fun v639 w640 H => ⟨trivial, fun a S => ?_⟩)
      refine lq v639 S (q_assign rfl) fun a S => ?_
      refine lx_nil ?_
      refine inBlock_norm ?_
      refine thenN ?_
      refine region_plain ?_
      refine lq (.int .i64 x413) S (q_move rfl) fun a S => ?_
      refine lq (.int .i64 (W (x413 + (1 : Int)))) S (q_add rfl rfl) fun a S => ?_
      refine lq (.int .i64 (W (x413 + (1 : Int)))) S (q_assign rfl) fun a S => ?_
      refine lx_nil ?_
      have H : Heap w0 [oA (rList (rInt .i64)) v282 xs283, oA (rList Rimpl_Equation) v639 (xs411 ++ [(((x556.2.1.tmod (2 : Int)) == (0 : Int)), (x556.1 == (1 : Int)), xs627)]), bA b571 [(.int .i64 x556.1), (.int .i64 x556.2.1), v561] 53] w640 := H.front 1 rfl
      have H : Heap w0 [oA (rList (rInt .i64)) v282 xs283, oA (rList Rimpl_Equation) v639 (xs411 ++ [(((x556.2.1.tmod (2 : Int)) == (0 : Int)), (x556.1 == (1 : Int)), xs627)])] w640 := H.sel [0, 1] (by decide)
      exact ⟨m547, Nat.lt_succ_self _, (xs411 ++ [(((x556.2.1.tmod (2 : Int)) == (0 : Int)), (x556.1 == (1 : Int)), xs627)]), (W (x413 + (1 : Int))), v639, S.sub ⟨rfl, rfl, rfl, rfl, trivial⟩, H, it_cont hm hc549⟩
     ·skip
      have H : Heap w0 [bA b571 [(.int .i64 x556.1), (.int .i64 x556.2.1), v561] 53, oA (rList (rInt .i64)) v575 ([] : List Int), oA (rList (rInt .i64)) v282 xs283, oA (rList Rimpl_Equation) v410 xs411] w576 := H.front 1 rfl
      have H : Heap w0 [oA (rList Rimpl_Equation) v410 xs411, bA b571 [(.int .i64 x556.1), (.int .i64 x556.2.1), v561] 53, oA (rList (rInt .i64)) v575 ([] : List Int), oA (rList (rInt .i64)) v282 xs283] w576 := H.front 3 rfl
      have H : Heap w0 [oA (rList (rInt .i64)) v282 xs283, oA (rList Rimpl_Equation) v410 xs411, bA b571 [(.int .i64 x556.1), (.int .i64 x556.2.1), v561] 53, oA (rList (rInt .i64)) v575 ([] : List Int)] w576 := H.front 3 rfl
      refine loop_ghost (fun n a w => ∃ (xs601 : List Int) (x603 : Int) (v600 : Value), Slots a 86 [(0, p0), (5, v282), (8, v410), (9, (.int .i64 x413)), (10, (bp b571)), (11, v600), (12, (.int .i64 x603))] ∧ Heap w0 [oA (rList (rInt .i64)) v282 xs283, oA (rList Rimpl_Equation) v410 xs411, bA b571 [(.int .i64 x556.1), (.int .i64 x556.2.1), v561] 53, oA (rList (rInt .i64)) v600 xs601] w ∧ iter f631 n (xs601, x603) = some res629) _ ⟨([] : List Int), (0 : Int), v575, S.sub ⟨rfl, rfl, rfl, rfl, rfl, rfl, rfl, trivial⟩, H, hit630⟩ ?_
      rintro n a w ⟨xs601, x603, v600, S, H, hit630⟩
      obtain ⟨m642, o643, rfl, hm, hc644⟩ := iter_step hit630
      rw [hf632] at hm
      refine wp_seq (wp_seq (region_plain ?_))
      refine lq (.int .i64 x603) S (q_move rfl) fun a S => ?_
      refine lq (pAdd (bp b571) 2) S (q_fieldAddr' 2 38 rfl (isP_bp _) Try.underlying53 rfl Try.sizeOf38) fun a S => ?_
      refine lx_e v561 S trivial (by decide) rfl trivial (q_load1 rfl Try.isAgg38 (by rintro _ rfl; exact (At.of_add (m := 2) (j := 0) (boxAt (i := 2) H rfl (j := 2) rfl)))) (fun a S => ?_)
      refine lq (.int .i64 (x556.2.2.length : Int)) S (q_lenSl rfl (h562).isSl rfl Try.underlying38) fun a S => ?_
      refine lq (.bool (decide (x603 < (x556.2.2.length : Int)))) S (q_lss rfl rfl) fun a S => ?_
      refine lx_nil (thenN ?_)
      refine cond_b S rfl (fun hc645 => ?_) (fun hc645 => ?_)
      ·have hm := ite_t hc645 hm
       refine wp_skip (thenN ?_)
       refine wp_seq ?_
       refine wp_block ?_
       refine region_plain ?_
       refine lq v600 S (q_move rfl) fun a S => ?_
       refine lq v282 S (q_move rfl) fun a S => ?_
       refine lq (pAdd (bp b571) 2) S (q_fieldAddr' 2 38 rfl (isP_bp _) Try.underlying53 rfl Try.sizeOf38) fun a S => ?_
       refine lx_e v561 S trivial (by decide) rfl trivial (q_load1 rfl Try.isAgg38 (by rintro _ rfl; exact (At.of_add (m := 2) (j := 0) (boxAt (i := 2) H rfl (j := 2) rfl)))) (fun a S => ?_)
       refine lq (.int .i64 x603) S (q_move rfl) fun a S => ?_
       obtain ⟨x646, e647, hm⟩ := bind_some hm
       obtain ⟨c648, h649, hat650⟩ := (h562).elem (idx_some e647).2
       obtain rfl := h649
       have hlt := lt_of_idx (idx_some e647).2
       refine lq (ePtr v561 (x603.toNat * 1)) S (q_indexAddr rfl (h562).isSl rfl (idx_some e647).1 hlt Try.underlying38 Try.sizeOf2) fun a S => ?_
       refine lx_e (.int .i64 x646) S trivial (by decide) rfl trivial (q_load1 rfl Try.isAgg2 (by rintro _ rfl; exact ((hat650 0 _ rfl).ext H.ext))) (fun a S => ?_)
       obtain ⟨x653, e654, hm⟩ := bind_some hm
       refine lx_call (xs := [.tmp 61, .tmp 66]) S trivial (by decide) rfl rfl Try.call50 ((spec_l11Place_ok (H.rdAt 0 rfl)  e654).mono ?_)
       rintro e w651 ⟨rfl, Hc652⟩
       have H := H.call0 Hc652
       refine ⟨_, rfl, trivial, fun a S => ?_⟩
       obtain ⟨x658, e659, hm⟩ := bind_some hm
       refine lx_call (xs := [.tmp 60, .tmp 67]) S trivial (by decide) rfl rfl Try.call49 ((spec_l00Put_ok (H.rdAt 3 rfl)  e659).mono ?_)
       rintro e w656 ⟨v660, rfl, Hc657⟩
       have H := H.call1 Hc657
       refine ⟨_, rfl, trivial, fun a S => ?_⟩
       refine lq v660 S (q_assign rfl) fun a S => ?_
       refine lx_nil ?_
       refine inBlock_norm ?_
       refine thenN ?_
       refine region_plain ?_
       refine lq (.int .i64 x603) S (q_move rfl) fun a S => ?_
       refine lq (.int .i64 (W (x603 + (1 : Int)))) S (q_add rfl rfl) fun a S => ?_
       refine lq (.int .i64 (W (x603 + (1 : Int)))) S (q_assign rfl) fun a S => ?_
       refine lx_nil ?_
       have H : Heap w0 [bA b571 [(.int .i64 x556.1), (.int .i64 x556.2.1), v561] 53, oA (rList (rInt .i64)) v660 x658, oA (rList (rInt .i64)) v282 xs283, oA (rList Rimpl_Equation) v410 xs411, oA (rList (rInt .i64)) v600 xs601] w656 := H.front 3 rfl
       have H : Heap w0 [oA (rList Rimpl_Equation) v410 xs411, bA b571 [(.int .i64 x556.1), (.int .i64 x556.2.1), v561] 53, oA (rList (rInt .i64)) v660 x658, oA (rList (rInt .i64)) v282 xs283, oA (rList (rInt .i64)) v600 xs601] w656 := H.front 3 rfl
       have H : Heap w0 [oA (rList (rInt .i64)) v282 xs283, oA (rList Rimpl_Equation) v410 xs411, bA b571 [(.int .i64 x556.1), (.int .i64 x556.2.1), v561] 53, oA (rList (rInt .i64)) v660 x658, oA (rList (rInt .i64)) v600 xs601] w656 := H.front 3 rfl
       have H : Heap w0 [oA (rList (rInt .i64)) v282 xs283, oA (rList Rimpl_Equation) v410 xs411, bA b571 [(.int .i64 x556.1), (.int .i64 x556.2.1), v561] 53, oA (rList (rInt .i64)) v660 x658] w656 := H.sel [0, 1, 2, 3] (by decide)
       exact ⟨m642, Nat.lt_succ_self _, x658, (W (x603 + (1 : Int))), v660, S.sub ⟨rfl, rfl, rfl, rfl, rfl, rfl, rfl, trivial⟩, H, it_cont hm hc644⟩
      ·have hm := ite_f hc645 hm
       refine wp_exit ?_
       refine then_exit ?_
       refine then_exit ?_
       refine inBlock_exit ?_
       obtain rfl := it_brk hm hc644
       exact ⟨xs601, v600, S.sub ⟨rfl, rfl, rfl, rfl, rfl, rfl, trivial⟩, H, rfl⟩
    ·have hm := ite_f hc550 hm
     refine wp_exit ?_
     refine then_exit ?_
     refine then_exit ?_
     refine inBlock_exit ?_
     obtain rfl := it_brk hm hc549
     exact ⟨xs411, v410, S.sub ⟨rfl, rfl, trivial⟩, H, rfl⟩
  ·skip
   refine loop_ghost (fun n a w => ∃ (xs161 : List Int) (x163 : Int) (v160 : Value), Slots a 86 [(0, p0), (5, v160), (6, (.int .i64 x163))] ∧ Heap w0 [oA (rList (rInt .i64)) v160 xs161] w ∧ iter f287 n (xs161, x163) = some res285) _ ⟨([] : List Int), (0 : Int), v39, S.sub ⟨rfl, rfl, rfl, trivial⟩, H, hit286⟩ ?_
   rintro n a w ⟨xs161, x163, v160, S, H, hit286⟩
   obtain ⟨m663, o664, rfl, hm, hc665⟩ := iter_step hit286
   rw [hf288] at hm
   refine wp_seq (wp_seq (region_plain ?_))
   refine lq (.int .i64 x163) S (q_move rfl) fun a S => ?_
   refine lq (.bool (decide (x163 ≤ (9 : Int)))) S (q_leq rfl rfl) fun a S => ?_
   refine lx_nil (thenN ?_)
   refine cond_b S rfl (fun hc666 => ?_) (fun hc666 => ?_)
   ·have hm := ite_t hc666 hm
    refine wp_skip (thenN ?_)
    refine wp_seq ?_
    refine wp_block ?_
    refine wp_seq (region_plain ?_)
    refine lq (.int .i64 (0 : Int)) S (q_assign rfl) fun a S => ?_
    refine lx_nil (thenN ?_)
    obtain ⟨res742, hit743, hk746⟩ := bind_some hm
    obtain ⟨f744, hf745, hit743⟩ := iter_name hit743
    refine block_loop (fun a w => ∃ (xs740 : List Int) (v739 : Value), Slots a 86 [(0, p0), (5, v739), (6, (.int .i64 x163))] ∧ Heap w0 [oA (rList (rInt .i64)) v739 xs740] w ∧ res742 = .inl (xs740)) ?_ ?_
    ·rintro a w ⟨xs740, v739, S, H, rfl⟩
     have hm := ctl_inl hk746
     refine inBlock_norm ?_
     refine thenN ?_
     refine region_plain ?_
     refine lq (.int .i64 x163) S (q_move rfl) fun a S => ?_
     refine lq (.int .i64 (W (x163 + (1 : Int)))) S (q_add rfl rfl) fun a S => ?_
     refine lq (.int .i64 (W (x163 + (1 : Int)))) S (q_assign rfl) fun a S => ?_
     refine lx_nil ?_
     exact ⟨m663, Nat.lt_succ_self _, xs740, (W (x163 + (1 : Int))), v739, S.sub ⟨rfl, rfl, rfl, trivial⟩, H, it_cont hm hc665⟩
    ·skip
     refine loop_ghost (fun n a w => ∃ (xs702 : List Int) (x704 : Int) (v701 : Value), Slots a 86 [(0, p0), (5, v701), (6, (.int .i64 x163)), (7, (.int .i64 x704))] ∧ Heap w0 [oA (rList (rInt .i64)) v701 xs702] w ∧ iter f744 n (xs702, x704) = some res742) _ ⟨xs161, (0 : Int), v160, S.sub ⟨rfl, rfl, rfl, rfl, trivial⟩, H, hit743⟩ ?_
     rintro n a w ⟨xs702, x704, v701, S, H, hit743⟩
     obtain ⟨m747, o748, rfl, hm, hc749⟩ := iter_step hit743
     rw [hf745] at hm
     refine wp_seq (wp_seq (region_plain ?_))
     refine lq (.int .i64 x704) S (q_move rfl) fun a S => ?_
     refine lq p0 S (q_move rfl) fun a S => ?_
     refine lq (.int .i64 (a0.length : Int)) S (q_lenSl rfl (h0).isSl rfl Try.underlying27) fun a S => ?_
     refine lq (.bool (decide (x704 < (a0.length : Int)))) S (q_lss rfl rfl) fun a S => ?_
     refine lx_nil (thenN ?_)
     refine cond_b S rfl (fun hc750 => ?_) (fun hc750 => ?_)
     ·have hm := ite_t hc750 hm
      refine wp_skip (thenN ?_)
      obtain ⟨K754, hK755, hm⟩ := join_elim hm
      refine seq_cut (fun a w => ∃ (xs752 : List Int) (v751 : Value), Slots a 86 [(0, p0), (5, v751), (6, (.int .i64 x163)), (7, (.int .i64 x704))] ∧ Heap w0 [oA (rList (rInt .i64)) v751 xs752] w ∧ K754 xs752 = some o748) ?_ ?_
      ·rintro a w ⟨xs752, v751, S, H, hm⟩
       subst hK755
       refine region_plain ?_
       refine lq (.int .i64 x704) S (q_move rfl) fun a S => ?_
       refine lq (.int .i64 (W (x704 + (1 : Int)))) S (q_add rfl rfl) fun a S => ?_
       refine lq (.int .i64 (W (x704 + (1 : Int)))) S (q_assign rfl) fun a S => ?_
       refine lx_nil ?_
       exact ⟨m747, Nat.lt_succ_self _, xs752, (W (x704 + (1 : Int))), v751, S.sub ⟨rfl, rfl, rfl, rfl, trivial⟩, H, it_cont hm hc749⟩
      ·skip
       refine wp_block ?_
       refine wp_seq (region_plain ?_)
       refine lq p0 S (q_move rfl) fun a S => ?_
       refine lq (.int .i64 x704) S (q_move rfl) fun a S => ?_
       obtain ⟨x756, e757, hm⟩ := bind_some hm
       obtain ⟨c758, h759, hat760⟩ := (h0).elem (idx_some e757).2
       obtain ⟨c763, c764, rfl, h765, h766⟩ := h759
       obtain rfl := h765
       obtain ⟨c767, c768, rfl, h769, h770⟩ := h766
       obtain rfl := h769
       obtain ⟨v761, rfl, h762⟩ := rd_list h770
       have hlt := lt_of_idx (idx_some e757).2
       refine lq (ePtr p0 (x704.toNat * 3)) S (q_indexAddr rfl (h0).isSl rfl (idx_some e757).1 hlt Try.underlying27 Try.sizeOf53) fun a S => ?_
       refine lq (pAdd (ePtr p0 (x704.toNat * 3)) 1) S (q_fieldAddr' 1 2 rfl ((hat760 0 _ rfl).isP) Try.underlying53 rfl Try.sizeOf2) fun a S => ?_
       refine lx_e (.int .i64 x756.2.1) S trivial (by decide) rfl trivial (q_load1 rfl Try.isAgg2 (by rintro _ rfl; exact (At.of_add (m := 1) (j := 0) ((hat760 1 _ rfl).ext H.ext)))) (fun a S => ?_)
       refine lq (.int .i64 x163) S (q_move rfl) fun a S => ?_
       refine lq (.bool (x756.2.1 == x163)) S (q_eql rfl rfl) fun a S => ?_
       refine lx_nil (thenN ?_)
       refine cond_b S rfl (fun hc771 => ?_) (fun hc771 => ?_)
       ·have hm := ite_t hc771 hm
        refine region_plain ?_
        refine lq v701 S (q_move rfl) fun a S => ?_
        refine lq (.int .i64 x704) S (q_move rfl) fun a S => ?_
        refine lx_buildSlice (r := (rInt .i64)) (xs := [x704]) (ps := [(0, [(.int .i64 x704)])]) (cs := [(.int .i64 x704)]) (parts := [(0, .tmp 35)]) S trivial (by decide) rfl (H.put0 (A := eA) rfl) rfl Try.underlying38 Try.sizeOf2 Try.zeroValue2 (by decide) ⟨rfl, rfl, Nat.le_of_ble_eq_true rfl, trivial⟩ (by intro zs hz; exact fill_dense hz ⟨rfl, trivial⟩ rfl rfl) rfl (by decide) (fun w F hA => by cases (show F = [] from hA); exact ⟨_, _, [(.int .i64 x704)], _, rfl, rfl, ⟨rfl, rfl⟩, ⟨rfl, rfl⟩⟩) (fun v772 w773 H => ⟨trivial, fun a S => ?_⟩)
        obtain ⟨x775, e776, hm⟩ := bind_some hm
        obtain ⟨hle, hap⟩ := app_some e776
        replace hap := hap.symm
        subst hap
        have H : Heap w0 [oA (rList (rInt .i64)) v772 [x704], oA (rList (rInt .i64)) v701 xs702] w773 := H.front 0 rfl
        have H : Heap w0 [oA (rList (rInt .i64)) v701 xs702, oA (rList (rInt .i64)) v772 [x704]] w773 := H.front 1 rfl
        refine lx_appendOwn (r := (rInt .i64)) S trivial (by decide) rfl H rfl rfl Try.underlying38 Try.ti2 rfl rfl rfl (Nat.le_of_ble_eq_true rfl) (by decide) hle (fun v777 w778 H => ⟨trivial, fun a S => ?_⟩)
        refine lq v777 S (q_assign rfl) fun a S => ?_
        refine lx_nil ?_
        refine inBlock_norm ?_
        exact ⟨(xs702 ++ [x704]), v777, S.sub ⟨rfl, rfl, rfl, rfl, trivial⟩, H, hm⟩
       ·have hm := ite_f hc771 hm
        refine wp_skip ?_
        refine inBlock_norm ?_
        exact ⟨xs702, v701, S.sub ⟨rfl, rfl, rfl, rfl, trivial⟩, H, hm⟩
     ·have hm := ite_f hc750 hm
      refine wp_exit ?_
      refine then_exit ?_
      refine then_exit ?_
      refine inBlock_exit ?_
      obtain rfl := it_brk hm hc749
      exact ⟨xs702, v701, S.sub ⟨rfl, rfl, rfl, trivial⟩, H, rfl⟩
   ·have hm := ite_f hc666 hm
    refine wp_exit ?_
    refine then_exit ?_
    refine then_exit ?_
    refine inBlock_exit ?_
    obtain rfl := it_brk hm hc665
    exact ⟨xs161, v160, S.sub ⟨rfl, rfl, trivial⟩, H, rfl⟩

/-- impl.upTo -/
def impl_upTo_m (fuel : Nat) (a0 : Int) : Option ((List Int)) :=
  (iter (fun (s : (List Int) × (Int)) => (match s with | (xs46, x48) => (if (decide (x48 < a0)) = true then (app xs46 [x48]).bind fun x78 => some (.inl (x78, (W (x48 + (1 : Int))))) else some (.inr (.inl (xs46)))) : Option (((List Int) × (Int)) ⊕ (((List Int)) ⊕ ((List Int)))))) fuel ([], (0 : Int))).bind fun res65 => ctl (β := (List Int)) (ρ := (List Int)) (τ := (List Int)) res65 (fun (xs63) => some (xs63)) (fun q => some (q))
set_option maxRecDepth 20000 in
theorem impl_upTo_ok [dr : Dr] {w0 : World} {fuel : Nat} {a0 : Int} {r : (List Int)} (hm : impl_upTo_m fuel a0 = some r) :
  Calls Try.prog 52 #[.int .i64 a0] w0 fun e w => ∃ (v0 : Value), e = .returned (v0) ∧ Heap w0 [oA (rList (rInt .i64)) v0 r] w := by
 unfold impl_upTo_m at hm
 have H := Heap.start w0
 refine enter (args := [.int .i64 a0]) Try.func52 rfl 15 rfl (Nat.le_of_ble_eq_true rfl) (fun a S => ?_)
 refine wp_seq (region_plain ?_)
 refine lq (.slice none 0 0) S (q_assign rfl) fun a S => ?_
 refine lx_nil (thenN ?_)
 refine wp_seq (region_plain ?_)
 refine lq (.slice none 0 0) S (q_assign rfl) fun a S => ?_
 refine lx_nil (thenN ?_)
 refine wp_seq (wp_seq (region_plain ?_))
 refine lq (.int .i64 a0) S (q_move rfl) fun a S => ?_
 refine lq (.int .i64 (0 : Int)) S (q_move rfl) fun a S => ?_
 refine lx_nil (thenN ?_)
 obtain ⟨res65, hit66, hk69⟩ := bind_some hm
 obtain ⟨f67, hf68, hit66⟩ := iter_name hit66
 refine block_loop (fun a w => ∃ (xs63 : List Int) (v62 : Value), Slots a 15 [(3, v62)] ∧ Heap w0 [oA (rList (rInt .i64)) v62 xs63] w ∧ res65 = .inl (xs63)) ?_ ?_
 ·rintro a w ⟨xs63, v62, S, H, rfl⟩
  have hm := ctl_inl hk69
  refine thenN ?_
  refine wp_seq (region_plain ?_)
  refine lq v62 S (q_move rfl) fun a S => ?_
  refine lq v62 S (q_assign rfl) fun a S => ?_
  refine lx_nil (thenN ?_)
  refine wp_ret ?_
  obtain rfl := Option.some.inj hm
  exact leave1 S rfl rfl ⟨v62, rfl, H⟩
 ·skip
  have H : Heap w0 [oA (rList (rInt .i64)) (.slice none 0 0) ([] : List Int)] w0 := H.nilList (rInt .i64)
  refine loop_ghost (fun n a w => ∃ (xs46 : List Int) (x48 : Int) (v45 : Value), Slots a 15 [(3, v45), (5, (.int .i64 a0)), (6, (.int .i64 x48))] ∧ Heap w0 [oA (rList (rInt .i64)) v45 xs46] w ∧ iter f67 n (xs46, x48) = some res65) _ ⟨[], (0 : Int), (.slice none 0 0), S.sub ⟨rfl, rfl, rfl, trivial⟩, H, hit66⟩ ?_
  rintro n a w ⟨xs46, x48, v45, S, H, hit66⟩
  obtain ⟨m71, o72, rfl, hm, hc73⟩ := iter_step hit66
  rw [hf68] at hm
  refine wp_seq (region_plain ?_)
  refine lq (.bool (decide (x48 < a0))) S (q_lss rfl rfl) fun a S => ?_
  refine lx_nil (thenN ?_)
  refine wp_seq ?_
  refine cond_b S rfl (fun hc74 => ?_) (fun hc74 => ?_)
  ·have hm := ite_t hc74 hm
   refine wp_skip (thenN ?_)
   refine wp_seq ?_
   refine wp_block ?_
   refine wp_seq (region_plain ?_)
   refine lq (.int .i64 x48) S (q_move rfl) fun a S => ?_
   refine lq (.int .i64 x48) S (q_assign rfl) fun a S => ?_
   refine lx_nil (thenN ?_)
   refine region_plain ?_
   refine lq v45 S (q_move rfl) fun a S => ?_
   refine lq (.int .i64 x48) S (q_move rfl) fun a S => ?_
   refine lx_buildSlice (r := (rInt .i64)) (xs := [x48]) (ps := [(0, [(.int .i64 x48)])]) (cs := [(.int .i64 x48)]) (parts := [(0, .tmp 10)]) S trivial (by decide) rfl (H.put0 (A := eA) rfl) rfl Try.underlying38 Try.sizeOf2 Try.zeroValue2 (by decide) ⟨rfl, rfl, Nat.le_of_ble_eq_true rfl, trivial⟩ (by intro zs hz; exact fill_dense hz ⟨rfl, trivial⟩ rfl rfl) rfl (by decide) (fun w F hA => by cases (show F = [] from hA); exact ⟨_, _, [(.int .i64 x48)], _, rfl, rfl, ⟨rfl, rfl⟩, ⟨rfl, rfl⟩⟩) (fun v75 w76 H => ⟨trivial, fun a S => ?_⟩)
   obtain ⟨x78, e79, hm⟩ := bind_some hm
   obtain ⟨hle, hap⟩ := app_some e79
   replace hap := hap.symm
   subst hap
   have H : Heap w0 [oA (rList (rInt .i64)) v75 [x48], oA (rList (rInt .i64)) v45 xs46] w76 := H.front 0 rfl
   have H : Heap w0 [oA (rList (rInt .i64)) v45 xs46, oA (rList (rInt .i64)) v75 [x48]] w76 := H.front 1 rfl
   refine lx_appendOwn (r := (rInt .i64)) S trivial (by decide) rfl H rfl rfl Try.underlying38 Try.ti2 rfl rfl rfl (Nat.le_of_ble_eq_true rfl) (by decide) hle (fun v80 w81 H => ⟨trivial, fun a S => ?_⟩)
   refine lq v80 S (q_assign rfl) fun a S => ?_
   refine lx_nil ?_
   refine inBlock_norm ?_
   refine thenN ?_
   refine region_plain ?_
   refine lq (.int .i64 (W (x48 + (1 : Int)))) S (q_add rfl rfl) fun a S => ?_
   refine lq (.int .i64 (W (x48 + (1 : Int)))) S (q_move rfl) fun a S => ?_
   refine lx_nil ?_
   exact ⟨m71, Nat.lt_succ_self _, (xs46 ++ [x48]), (W (x48 + (1 : Int))), v80, S.sub ⟨rfl, rfl, rfl, trivial⟩, H, it_cont hm hc73⟩
  ·have hm := ite_f hc74 hm
   refine wp_exit ?_
   refine then_exit ?_
   refine then_exit ?_
   refine inBlock_exit ?_
   obtain rfl := it_brk hm hc73
   exact ⟨xs46, v45, S.sub ⟨rfl, trivial⟩, H, rfl⟩

/-- cmp.Or[int] -/
def cmp_Or_int_m (fuel : Nat) (a0 : (List Int)) : Option (Int) :=
  (iter (fun (s : (Int)) => (match s with | (x39) => (if (decide (x39 < (a0.length : Int))) = true then (idx a0 x39).bind fun x57 => (if (x57 != (0 : Int)) = true then some (.inr (.inr x57)) else some (.inl ((W (x39 + (1 : Int)))))) else some (.inr (.inl ()))) : Option (((Int)) ⊕ ((Unit) ⊕ (Int))))) fuel ((0 : Int))).bind fun res48 => ctl (β := Unit) (ρ := Int) (τ := Int) res48 (fun _ => some ((0 : Int))) (fun q => some (q))
set_option maxRecDepth 20000 in
theorem cmp_Or_int_ok [dr : Dr] {w0 : World} {fuel : Nat} {p0 : Value} {a0 : (List Int)} {r : Int} (h0 : Rd (rList (rInt .i64)) w0 p0 a0) (hm : cmp_Or_int_m fuel a0 = some r) :
  Calls Try.prog 55 #[p0] w0 fun e w => e = .returned (.int .i64 r) ∧ Heap w0 [] w := by
 unfold cmp_Or_int_m at hm
 have H := Heap.start w0
 refine enter (args := [p0]) Try.func55 rfl 18 rfl (Nat.le_of_ble_eq_true rfl) (fun a S => ?_)
 refine wp_seq (region_plain ?_)
 refine lq (.int .i64 (0 : Int)) S (q_assign rfl) fun a S => ?_
 refine lx_nil (thenN ?_)
 refine wp_seq (region_plain ?_)
 refine lq (.int .i64 (0 : Int)) S (q_assign rfl) fun a S => ?_
 refine lx_nil (thenN ?_)
 refine wp_seq (wp_seq (region_plain ?_))
 refine lq p0 S (q_move rfl) fun a S => ?_
 refine lq (.int .i64 (a0.length : Int)) S (q_lenSl rfl (h0).isSl rfl Try.underlying96) fun a S => ?_
 refine lq (.int .i64 (0 : Int)) S (q_move rfl) fun a S => ?_
 refine lx_nil (thenN ?_)
 obtain ⟨res48, hit49, hk52⟩ := bind_some hm
 obtain ⟨f50, hf51, hit49⟩ := iter_name hit49
 refine block_loop (fun a w => Slots a 18 [(3, (.int .i64 (0 : Int)))] ∧ Heap w0 [] w ∧ res48 = .inl ()) ?_ ?_
 ·rintro a w ⟨S, H, rfl⟩
  have hm := ctl_inl hk52
  refine thenN ?_
  refine wp_seq (region_plain ?_)
  refine lq (.int .i64 (0 : Int)) S (q_move rfl) fun a S => ?_
  refine lq (.int .i64 (0 : Int)) S (q_assign rfl) fun a S => ?_
  refine lx_nil (thenN ?_)
  refine wp_ret ?_
  obtain rfl := Option.some.inj hm
  exact leave1 S rfl rfl ⟨rfl, H⟩
 ·skip
  refine loop_ghost (fun n a w => ∃ (x39 : Int), Slots a 18 [(3, (.int .i64 (0 : Int))), (6, p0), (7, (.int .i64 (a0.length : Int))), (8, (.int .i64 x39))] ∧ Heap w0 [] w ∧ iter f50 n (x39) = some res48) _ ⟨(0 : Int), S.sub ⟨rfl, rfl, rfl, rfl, trivial⟩, H, hit49⟩ ?_
  rintro n a w ⟨x39, S, H, hit49⟩
  obtain ⟨m53, o54, rfl, hm, hc55⟩ := iter_step hit49
  rw [hf51] at hm
  refine wp_seq (region_plain ?_)
  refine lq (.bool (decide (x39 < (a0.length : Int)))) S (q_lss rfl rfl) fun a S => ?_
  refine lx_nil (thenN ?_)
  refine wp_seq ?_
  refine cond_b S rfl (fun hc56 => ?_) (fun hc56 => ?_)
  ·have hm := ite_t hc56 hm
   refine wp_skip (thenN ?_)
   refine wp_seq ?_
   refine wp_block ?_
   refine wp_seq (region_plain ?_)
   obtain ⟨x57, e58, hm⟩ := bind_some hm
   obtain ⟨c59, h60, hat61⟩ := (h0).elem (idx_some e58).2
   obtain rfl := h60
   have hlt := lt_of_idx (idx_some e58).2
   refine lq (ePtr p0 (x39.toNat * 1)) S (q_indexAddr rfl (h0).isSl rfl (idx_some e58).1 hlt Try.underlying96 Try.sizeOf3) fun a S => ?_
   refine lx_e (.int .i64 x57) S trivial (by decide) rfl trivial (q_load1 rfl Try.isAgg3 (by rintro _ rfl; exact ((hat61 0 _ rfl).ext H.ext))) (fun a S => ?_)
   refine lq (.int .i64 x57) S (q_assign rfl) fun a S => ?_
   refine lx_nil (thenN ?_)
   refine wp_seq (region_plain ?_)
   refine lq (.int .i64 x57) S (q_move rfl) fun a S => ?_
   refine lq (.int .i64 (0 : Int)) S (q_move rfl) fun a S => ?_
   refine lq (.bool (x57 != (0 : Int))) S (q_neq rfl rfl) fun a S => ?_
   refine lx_nil (thenN ?_)
   refine cond_b S rfl (fun hc62 => ?_) (fun hc62 => ?_)
   ·have hm := ite_t hc62 hm
    refine wp_seq (region_plain ?_)
    refine lq (.int .i64 x57) S (q_move rfl) fun a S => ?_
    refine lq (.int .i64 x57) S (q_assign rfl) fun a S => ?_
    refine lx_nil (thenN ?_)
    refine wp_ret (inBlock_ret ?_)
    refine then_ret ?_
    refine then_ret ?_
    refine inBlock_ret ?_
    refine then_ret ?_
    refine then_ret ?_
    obtain rfl := it_brk hm hc55
    have hm := ctl_inr hk52
    obtain rfl := Option.some.inj hm
    exact leave1 S rfl rfl ⟨rfl, H⟩
   ·have hm := ite_f hc62 hm
    refine wp_skip ?_
    refine inBlock_norm ?_
    refine thenN ?_
    refine region_plain ?_
    refine lq (.int .i64 (W (x39 + (1 : Int)))) S (q_add rfl rfl) fun a S => ?_
    refine lq (.int .i64 (W (x39 + (1 : Int)))) S (q_move rfl) fun a S => ?_
    refine lx_nil ?_
    exact ⟨m53, Nat.lt_succ_self _, (W (x39 + (1 : Int))), S.sub ⟨rfl, rfl, rfl, rfl, trivial⟩, H, it_cont hm hc55⟩
  ·have hm := ite_f hc56 hm
   refine wp_exit ?_
   refine then_exit ?_
   refine then_exit ?_
   refine inBlock_exit ?_
   obtain rfl := it_brk hm hc55
   exact ⟨S.sub ⟨rfl, trivial⟩, H, rfl⟩

/-- impl.EquationsOfGame$1 -/
def impl_EquationsOfGame_1_m (fuel : Nat) (a0 : Int) (a1 : Int) (a2 : (List Timpl_Vertex)) : Option (Int) :=
  (idx a2 a0).bind fun x38 => (idx a2 a1).bind fun x53 => (cmp_Compare_int64_m fuel x38.2.1 x53.2.1).bind fun x70 => (cmp_Compare_int64_m fuel a0 a1).bind fun x75 => (cmp_Or_int_m fuel [x70, x75]).bind fun x83 => some (x83)
set_option maxRecDepth 20000 in
theorem impl_EquationsOfGame_1_ok [dr : Dr] {w0 : World} {fuel : Nat} {p2 : Value} {a0 : Int} {a1 : Int} {a2 : (List Timpl_Vertex)} {r : Int} (h2 : Rd (rPtr (rList Rimpl_Vertex)) w0 p2 a2) (hm : impl_EquationsOfGame_1_m fuel a0 a1 a2 = some r) :
  Calls Try.prog 54 #[.int .i64 a0, .int .i64 a1, p2] w0 fun e w => e = .returned (.int .i64 r) ∧ Heap w0 [] w := by
 unfold impl_EquationsOfGame_1_m at hm
 have H := Heap.start w0
 obtain ⟨c31, h32, hat33⟩ := h2.ptr
 obtain ⟨v34, rfl, h35⟩ := rd_list h32
 refine enter (args := [.int .i64 a0, .int .i64 a1, p2]) Try.func54 rfl 22 rfl (Nat.le_of_ble_eq_true rfl) (fun a S => ?_)
 refine wp_seq (region_plain ?_)
 refine lq (.int .i64 (0 : Int)) S (q_assign rfl) fun a S => ?_
 refine lx_nil (thenN ?_)
 refine wp_seq ?_
 refine region_drawG (fun w1 => Heap w0 [] w1) (fun i => [10, 13, 14, 15].contains i) mixed (by kernel_rfl) (fun w37 he36 => ?_)
 have H := H.later he36
 refine ⟨H.sel [] (by decide), ?_⟩
 refine lq v34 S (q_load1 rfl Try.isAgg27 (fun w1 hC => ((hat33 0 _ rfl).ext hC.ext))) fun a S => ?_
 refine lq (.int .i64 a0) S (q_move rfl) fun a S => ?_
 obtain ⟨x38, e39, hm⟩ := bind_some hm
 obtain ⟨c40, h41, hat42⟩ := (h35).elem (idx_some e39).2
 obtain ⟨c45, c46, rfl, h47, h48⟩ := h41
 obtain rfl := h47
 obtain ⟨c49, c50, rfl, h51, h52⟩ := h48
 obtain rfl := h51
 obtain ⟨v43, rfl, h44⟩ := rd_list h52
 have hlt := lt_of_idx (idx_some e39).2
 refine lq (ePtr v34 (a0.toNat * 3)) S (q_indexAddr rfl (h35).isSl rfl (idx_some e39).1 hlt Try.underlying27 Try.sizeOf53) fun a S => ?_
 refine lq (pAdd (ePtr v34 (a0.toNat * 3)) 1) S (q_fieldAddr' 1 2 rfl ((hat42 0 _ rfl).isP) Try.underlying53 rfl Try.sizeOf2) fun a S => ?_
 refine lq (.int .i64 x38.2.1) S (q_load1 rfl Try.isAgg2 (fun w1 hC => (At.of_add (m := 1) (j := 0) ((hat42 1 _ rfl).ext hC.ext)))) fun a S => ?_
 refine lq v34 S (q_load1 rfl Try.isAgg27 (fun w1 hC => ((hat33 0 _ rfl).ext hC.ext))) fun a S => ?_
 refine lq (.int .i64 a1) S (q_move rfl) fun a S => ?_
 obtain ⟨x53, e54, hm⟩ := bind_some hm
 obtain ⟨c55, h56, hat57⟩ := (h35).elem (idx_some e54).2
 obtain ⟨c60, c61, rfl, h62, h63⟩ := h56
 obtain rfl := h62
 obtain ⟨c64, c65, rfl, h66, h67⟩ := h63
 obtain rfl := h66
 obtain ⟨v58, rfl, h59⟩ := rd_list h67
 have hlt := lt_of_idx (idx_some e54).2
 refine lq (ePtr v34 (a1.toNat * 3)) S (q_indexAddr rfl (h35).isSl rfl (idx_some e54).1 hlt Try.underlying27 Try.sizeOf53) fun a S => ?_
 refine lq (pAdd (ePtr v34 (a1.toNat * 3)) 1) S (q_fieldAddr' 1 2 rfl ((hat57 0 _ rfl).isP) Try.underlying53 rfl Try.sizeOf2) fun a S => ?_
 refine lq (.int .i64 x53.2.1) S (q_load1 rfl Try.isAgg2 (fun w1 hC => (At.of_add (m := 1) (j := 0) ((hat57 1 _ rfl).ext hC.ext)))) fun a S => ?_
 obtain ⟨x70, e71, hm⟩ := bind_some hm
 refine lx_call (xs := [.tmp 10, .tmp 15]) S trivial (by decide) rfl rfl Try.call56 ((cmp_Compare_int64_ok   e71).mono ?_)
 rintro e w68 ⟨rfl, Hc69⟩
 have H := H.call0 Hc69
 refine ⟨_, rfl, H.sel [] (by decide), fun a S => ?_⟩
 refine lq (.int .i64 a0) S (q_move rfl) fun a S => ?_
 refine lq (.int .i64 a1) S (q_move rfl) fun a S => ?_
 obtain ⟨x75, e76, hm⟩ := bind_some hm
 refine lx_call (xs := [.tmp 17, .tmp 18]) S trivial (by decide) rfl rfl Try.call56 ((cmp_Compare_int64_ok   e76).mono ?_)
 rintro e w73 ⟨rfl, Hc74⟩
 have H := H.call0 Hc74
 refine ⟨_, rfl, H.sel [] (by decide), fun a S => ?_⟩
 refine lx_buildSlice (r := (rInt .i64)) (xs := [x70, x75]) (ps := [(0, [(.int .i64 x70)]), (1, [(.int .i64 x75)])]) (cs := [(.int .i64 x70), (.int .i64 x75)]) (parts := [(0, .tmp 16), (1, .tmp 19)]) S trivial (by decide) rfl (H.put0 (A := eA) rfl) rfl Try.underlying96 Try.sizeOf3 Try.zeroValue3 (by decide) ⟨rfl, rfl, Nat.le_of_ble_eq_true rfl, ⟨rfl, rfl, Nat.le_of_ble_eq_true rfl, trivial⟩⟩ (by intro zs hz; exact fill_dense hz ⟨rfl, ⟨rfl, trivial⟩⟩ rfl rfl) rfl (by decide) (fun w F hA => by cases (show F = [] from hA); exact ⟨_, _, [(.int .i64 x70)], _, rfl, rfl, ⟨rfl, rfl⟩, ⟨_, _, [(.int .i64 x75)], _, rfl, rfl, ⟨rfl, rfl⟩, ⟨rfl, rfl⟩⟩⟩) (fun v78 w79 H => ⟨H.sel [] (by decide), fun a S => ?_⟩)
 obtain ⟨x83, e84, hm⟩ := bind_some hm
 refine lx_call (xs := [.tmp 20]) S trivial (by decide) rfl rfl Try.call55 ((cmp_Or_int_ok (H.rdAt 0 rfl) e84).mono ?_)
 rintro e w81 ⟨rfl, Hc82⟩
 have H := H.call0 Hc82
 refine ⟨_, rfl, H.sel [] (by decide), fun a S => ?_⟩
 refine lq (.int .i64 x83) S (q_assign rfl) fun a S => ?_
 refine lx_nil (thenN ?_)
 refine wp_ret ?_
 obtain rfl := Option.some.inj hm
 have H : Heap w0 [] w81 := H.sel [] (by decide)
 exact leave1 S rfl rfl ⟨rfl, H⟩

/-- slices.Index[[]int64,int64] -/
def slices_Index__int64_int64_m (fuel : Nat) (a0 : (List Int)) (a1 : Int) : Option (Int) :=
  (iter (fun (s : (Int)) => (match s with | (x39) => (if (decide (x39 < (a0.length : Int))) = true then (idx a0 x39).bind fun x57 => (if (a1 == x57) = true then some (.inr (.inr x39)) else some (.inl ((W (x39 + (1 : Int)))))) else some (.inr (.inl ()))) : Option (((Int)) ⊕ ((Unit) ⊕ (Int))))) fuel ((0 : Int))).bind fun res48 => ctl (β := Unit) (ρ := Int) (τ := Int) res48 (fun _ => some ((-1 : Int))) (fun q => some (q))
set_option maxRecDepth 20000 in
theorem slices_Index__int64_int64_ok [dr : Dr] {w0 : World} {fuel : Nat} {p0 : Value} {a0 : (List Int)} {a1 : Int} {r : Int} (h0 : Rd (rList (rInt .i64)) w0 p0 a0) (hm : slices_Index__int64_int64_m fuel a0 a1 = some r) :
  Calls Try.prog 78 #[p0, .int .i64 a1] w0 fun e w => e = .returned (.int .i64 r) ∧ Heap w0 [] w := by
 unfold slices_Index__int64_int64_m at hm
 have H := Heap.start w0
 refine enter (args := [p0, .int .i64 a1]) Try.func78 rfl 19 rfl (Nat.le_of_ble_eq_true rfl) (fun a S => ?_)
 refine wp_seq (region_plain ?_)
 refine lq (.int .i64 (0 : Int)) S (q_assign rfl) fun a S => ?_
 refine lx_nil (thenN ?_)
 refine wp_seq (wp_seq (region_plain ?_))
 refine lq p0 S (q_move rfl) fun a S => ?_
 refine lq (.int .i64 (a0.length : Int)) S (q_lenSl rfl (h0).isSl rfl Try.underlying38) fun a S => ?_
 refine lq (.int .i64 (0 : Int)) S (q_move rfl) fun a S => ?_
 refine lx_nil (thenN ?_)
 obtain ⟨res48, hit49, hk52⟩ := bind_some hm
 obtain ⟨f50, hf51, hit49⟩ := iter_name hit49
 refine block_loop (fun a w => Slots a 19 [] ∧ Heap w0 [] w ∧ res48 = .inl ()) ?_ ?_
 ·rintro a w ⟨S, H, rfl⟩
  have hm := ctl_inl hk52
  refine thenN ?_
  refine wp_seq (region_plain ?_)
  refine lq (.int .i64 (-1 : Int)) S (q_assign rfl) fun a S => ?_
  refine lx_nil (thenN ?_)
  refine wp_ret ?_
  obtain rfl := Option.some.inj hm
  exact leave1 S rfl rfl ⟨rfl, H⟩
 ·skip
  refine loop_ghost (fun n a w => ∃ (x39 : Int), Slots a 19 [(0, p0), (1, (.int .i64 a1)), (7, (.int .i64 (a0.length : Int))), (8, (.int .i64 x39))] ∧ Heap w0 [] w ∧ iter f50 n (x39) = some res48) _ ⟨(0 : Int), S.sub ⟨rfl, rfl, rfl, rfl, trivial⟩, H, hit49⟩ ?_
  rintro n a w ⟨x39, S, H, hit49⟩
  obtain ⟨m53, o54, rfl, hm, hc55⟩ := iter_step hit49
  rw [hf51] at hm
  refine wp_seq (region_plain ?_)
  refine lq (.bool (decide (x39 < (a0.length : Int)))) S (q_lss rfl rfl) fun a S => ?_
  refine lx_nil (thenN ?_)
  refine wp_seq ?_
  refine cond_b S rfl (fun hc56 => ?_) (fun hc56 => ?_)
  ·have hm := ite_t hc56 hm
   refine wp_skip (thenN ?_)
   refine wp_seq ?_
   refine wp_block ?_
   refine wp_seq (region_plain ?_)
   refine lq (.int .i64 x39) S (q_move rfl) fun a S => ?_
   refine lq (.int .i64 x39) S (q_assign rfl) fun a S => ?_
   refine lx_nil (thenN ?_)
   refine wp_seq (region_plain ?_)
   refine lq (.int .i64 a1) S (q_move rfl) fun a S => ?_
   refine lq p0 S (q_move rfl) fun a S => ?_
   refine lq (.int .i64 x39) S (q_move rfl) fun a S => ?_
   obtain ⟨x57, e58, hm⟩ := bind_some hm
   obtain ⟨c59, h60, hat61⟩ := (h0).elem (idx_some e58).2
   obtain rfl := h60
   have hlt := lt_of_idx (idx_some e58).2
   refine lq (ePtr p0 (x39.toNat * 1)) S (q_indexAddr rfl (h0).isSl rfl (idx_some e58).1 hlt Try.underlying38 Try.sizeOf2) fun a S => ?_
   refine lx_e (.int .i64 x57) S trivial (by decide) rfl trivial (q_load1 rfl Try.isAgg2 (by rintro _ rfl; exact ((hat61 0 _ rfl).ext H.ext))) (fun a S => ?_)
   refine lq (.bool (a1 == x57)) S (q_eql rfl rfl) fun a S => ?_
   refine lx_nil (thenN ?_)
   refine cond_b S rfl (fun hc62 => ?_) (fun hc62 => ?_)
   ·have hm := ite_t hc62 hm
    refine wp_seq (region_plain ?_)
    refine lq (.int .i64 x39) S (q_move rfl) fun a S => ?_
    refine lq (.int .i64 x39) S (q_assign rfl) fun a S => ?_
    refine lx_nil (thenN ?_)
    refine wp_ret (inBlock_ret ?_)
    refine then_ret ?_
    refine then_ret ?_
    refine inBlock_ret ?_
    refine then_ret ?_
    refine then_ret ?_
    obtain rfl := it_brk hm hc55
    have hm := ctl_inr hk52
    obtain rfl := Option.some.inj hm
    exact leave1 S rfl rfl ⟨rfl, H⟩
   ·have hm := ite_f hc62 hm
    refine wp_skip ?_
    refine inBlock_norm ?_
    refine thenN ?_
    refine region_plain ?_
    refine lq (.int .i64 (W (x39 + (1 : Int)))) S (q_add rfl rfl) fun a S => ?_
    refine lq (.int .i64 (W (x39 + (1 : Int)))) S (q_move rfl) fun a S => ?_
    refine lx_nil ?_
    exact ⟨m53, Nat.lt_succ_self _, (W (x39 + (1 : Int))), S.sub ⟨rfl, rfl, rfl, rfl, trivial⟩, H, it_cont hm hc55⟩
  ·have hm := ite_f hc56 hm
   refine wp_exit ?_
   refine then_exit ?_
   refine then_exit ?_
   refine inBlock_exit ?_
   obtain rfl := it_brk hm hc55
   exact ⟨S.sub trivial, H, rfl⟩

/-- impl.sortedSet -/
def impl_sortedSet_m (fuel : Nat) (a0 : (List Int)) : Option ((List Int)) :=
  (slices_Clone__int64_int64_m fuel a0).bind fun x33 => (slices_Sort__int64_int64_m fuel x33).bind fun x40 => (slices_Compact__int64_int64_m fuel x40).bind fun x44 => some (x44)
set_option maxRecDepth 20000 in
theorem impl_sortedSet_ok [dr : Dr] {w0 : World} {fuel : Nat} {p0 : Value} {a0 : (List Int)} {r : (List Int)} (h0 : Rd (rList (rInt .i64)) w0 p0 a0) (hm : impl_sortedSet_m fuel a0 = some r) :
  Calls Try.prog 79 #[p0] w0 fun e w => ∃ (v0 : Value), e = .returned (v0) ∧ Heap w0 [oA (rList (rInt .i64)) v0 r] w := by
 unfold impl_sortedSet_m at hm
 have H := Heap.start w0
 refine enter (args := [p0]) Try.func79 rfl 10 rfl (Nat.le_of_ble_eq_true rfl) (fun a S => ?_)
 refine wp_seq (region_plain ?_)
 refine lq (.slice none 0 0) S (q_assign rfl) fun a S => ?_
 refine lx_nil (thenN ?_)
 refine wp_seq (region_plain ?_)
 refine lq p0 S (q_move rfl) fun a S => ?_
 obtain ⟨x33, e34, hm⟩ := bind_some hm
 refine lx_call (xs := [.tmp 4]) S trivial (by decide) rfl rfl Try.call88 ((slices_Clone__int64_int64_ok (H.arg h0) e34).mono ?_)
 rintro e w31 ⟨v35, rfl, Hc32⟩
 have H := H.call1 Hc32
 refine ⟨_, rfl, trivial, fun a S => ?_⟩
 refine lq v35 S (q_assign rfl) fun a S => ?_
 refine lx_nil (thenN ?_)
 refine wp_seq (region_plain ?_)
 refine lq v35 S (q_move rfl) fun a S => ?_
 obtain ⟨x40, e41, hm⟩ := bind_some hm
 refine lx_call (xs := [.tmp 6]) S trivial (by decide) rfl rfl Try.call99 ((slices_Sort__int64_int64_ok H  e41).mono ?_)
 rintro e w38 ⟨rfl, H⟩
 refine ⟨_, rfl, trivial, fun a S => ?_⟩
 refine lx_nil (thenN ?_)
 refine wp_seq (region_plain ?_)
 refine lq v35 S (q_move rfl) fun a S => ?_
 obtain ⟨x44, e45, hm⟩ := bind_some hm
 refine lx_call (xs := [.tmp 8]) S trivial (by decide) rfl rfl Try.call100 ((slices_Compact__int64_int64_ok H  e45).mono ?_)
 rintro e w42 ⟨v46, rfl, H⟩
 refine ⟨_, rfl, trivial, fun a S => ?_⟩
 refine lq v46 S (q_assign rfl) fun a S => ?_
 refine lx_nil (thenN ?_)
 refine wp_ret ?_
 obtain rfl := Option.some.inj hm
 exact leave1 S rfl rfl ⟨v46, rfl, H⟩

/-- impl.placesIn -/
def impl_placesIn_m (fuel : Nat) (a0 : (List Int)) (a1 : (List Int)) : Option ((List Int)) :=
  (iter (fun (s : (List Int) × (Int)) => (match s with | (xs56, x58) => (if (decide (x58 < (a1.length : Int))) = true then (idx a1 x58).bind fun x102 => (slices_Index__int64_int64_m fuel a0 x102).bind fun x109 => (app xs56 [x109]).bind fun x115 => some (.inl (x115, (W (x58 + (1 : Int))))) else some (.inr (.inl (xs56)))) : Option (((List Int) × (Int)) ⊕ (((List Int)) ⊕ ((List Int)))))) fuel ([], (0 : Int))).bind fun res85 => ctl (β := (List Int)) (ρ := (List Int)) (τ := (List Int)) res85 (fun (xs83) => (impl_sortedSet_m fuel xs83).bind fun x92 => some (x92)) (fun q => some (q))
set_option maxRecDepth 20000 in
theorem impl_placesIn_ok [dr : Dr] {w0 : World} {fuel : Nat} {p0 p1 : Value} {a0 : (List Int)} {a1 : (List Int)} {r : (List Int)} (h0 : Rd (rList (rInt .i64)) w0 p0 a0) (h1 : Rd (rList (rInt .i64)) w0 p1 a1) (hm : impl_placesIn_m fuel a0 a1 = some r) :
  Calls Try.prog 57 #[p0, p1] w0 fun e w => ∃ (v0 : Value), e = .returned (v0) ∧ Heap w0 [oA (rList (rInt .i64)) v0 r] w := by
 unfold impl_placesIn_m at hm
 have H := Heap.start w0
 refine enter (args := [p0, p1]) Try.func57 rfl 23 rfl (Nat.le_of_ble_eq_true rfl) (fun a S => ?_)
 refine wp_seq (region_plain ?_)
 refine lq (.slice none 0 0) S (q_assign rfl) fun a S => ?_
 refine lx_nil (thenN ?_)
 refine wp_seq (region_plain ?_)
 refine lq (.slice none 0 0) S (q_assign rfl) fun a S => ?_
 refine lx_nil (thenN ?_)
 refine wp_seq (wp_seq (region_plain ?_))
 refine lq p1 S (q_move rfl) fun a S => ?_
 refine lq (.int .i64 (a1.length : Int)) S (q_lenSl rfl (h1).isSl rfl Try.underlying38) fun a S => ?_
 refine lq (.int .i64 (0 : Int)) S (q_move rfl) fun a S => ?_
 refine lx_nil (thenN ?_)
 obtain ⟨res85, hit86, hk89⟩ := bind_some hm
 obtain ⟨f87, hf88, hit86⟩ := iter_name hit86
 refine block_loop (fun a w => ∃ (xs83 : List Int) (v82 : Value), Slots a 23 [(5, v82)] ∧ Heap w0 [oA (rList (rInt .i64)) v82 xs83] w ∧ res85 = .inl (xs83)) ?_ ?_
 ·rintro a w ⟨xs83, v82, S, H, rfl⟩
  have hm := ctl_inl hk89
  refine thenN ?_
  refine wp_seq (region_plain ?_)
  refine lq v82 S (q_move rfl) fun a S => ?_
  obtain ⟨x92, e93, hm⟩ := bind_some hm
  refine lx_call (xs := [.tmp 21]) S trivial (by decide) rfl rfl Try.call79 ((impl_sortedSet_ok (H.rdAt 0 rfl) e93).mono ?_)
  rintro e w90 ⟨v94, rfl, Hc91⟩
  have H := H.call1 Hc91
  refine ⟨_, rfl, trivial, fun a S => ?_⟩
  refine lq v94 S (q_assign rfl) fun a S => ?_
  refine lx_nil (thenN ?_)
  refine wp_ret ?_
  obtain rfl := Option.some.inj hm
  have H : Heap w0 [oA (rList (rInt .i64)) v94 x92] w90 := H.sel [0] (by decide)
  exact leave1 S rfl rfl ⟨v94, rfl, H⟩
 ·skip
  have H : Heap w0 [oA (rList (rInt .i64)) (.slice none 0 0) ([] : List Int)] w0 := H.nilList (rInt .i64)
  refine loop_ghost (fun n a w => ∃ (xs56 : List Int) (x58 : Int) (v55 : Value), Slots a 23 [(0, p0), (5, v55), (8, p1), (9, (.int .i64 (a1.length : Int))), (10, (.int .i64 x58))] ∧ Heap w0 [oA (rList (rInt .i64)) v55 xs56] w ∧ iter f87 n (xs56, x58) = some res85) _ ⟨[], (0 : Int), (.slice none 0 0), S.sub ⟨rfl, rfl, rfl, rfl, rfl, trivial⟩, H, hit86⟩ ?_
  rintro n a w ⟨xs56, x58, v55, S, H, hit86⟩
  obtain ⟨m98, o99, rfl, hm, hc100⟩ := iter_step hit86
  rw [hf88] at hm
  refine wp_seq (region_plain ?_)
  refine lq (.bool (decide (x58 < (a1.length : Int)))) S (q_lss rfl rfl) fun a S => ?_
  refine lx_nil (thenN ?_)
  refine wp_seq ?_
  refine cond_b S rfl (fun hc101 => ?_) (fun hc101 => ?_)
  ·have hm := ite_t hc101 hm
   refine wp_skip (thenN ?_)
   refine wp_seq ?_
   refine wp_block ?_
   refine wp_seq (region_plain ?_)
   obtain ⟨x102, e103, hm⟩ := bind_some hm
   obtain ⟨c104, h105, hat106⟩ := (h1).elem (idx_some e103).2
   obtain rfl := h105
   have hlt := lt_of_idx (idx_some e103).2
   refine lq (ePtr p1 (x58.toNat * 1)) S (q_indexAddr rfl (h1).isSl rfl (idx_some e103).1 hlt Try.underlying38 Try.sizeOf2) fun a S => ?_
   refine lx_e (.int .i64 x102) S trivial (by decide) rfl trivial (q_load1 rfl Try.isAgg2 (by rintro _ rfl; exact ((hat106 0 _ rfl).ext H.ext))) (fun a S => ?_)
   refine lq (.int .i64 x102) S (q_assign rfl) fun a S => ?_
   refine lx_nil (thenN ?_)
   refine region_plain ?_
   refine lq v55 S (q_move rfl) fun a S => ?_
   refine lq p0 S (q_move rfl) fun a S => ?_
   refine lq (.int .i64 x102) S (q_move rfl) fun a S => ?_
   obtain ⟨x109, e110, hm⟩ := bind_some hm
   refine lx_call (xs := [.tmp 15, .tmp 16]) S trivial (by decide) rfl rfl Try.call78 ((slices_Index__int64_int64_ok (H.arg h0)  e110).mono ?_)
   rintro e w107 ⟨rfl, Hc108⟩
   have H := H.call0 Hc108
   refine ⟨_, rfl, trivial, fun a S => ?_⟩
   refine lx_buildSlice (r := (rInt .i64)) (xs := [x109]) (ps := [(0, [(.int .i64 x109)])]) (cs := [(.int .i64 x109)]) (parts := [(0, .tmp 17)]) S trivial (by decide) rfl (H.put0 (A := eA) rfl) rfl Try.underlying38 Try.sizeOf2 Try.zeroValue2 (by decide) ⟨rfl, rfl, Nat.le_of_ble_eq_true rfl, trivial⟩ (by intro zs hz; exact fill_dense hz ⟨rfl, trivial⟩ rfl rfl) rfl (by decide) (fun w F hA => by cases (show F = [] from hA); exact ⟨_, _, [(.int .i64 x109)], _, rfl, rfl, ⟨rfl, rfl⟩, ⟨rfl, rfl⟩⟩) (fun v112 w113 H => ⟨trivial, fun a S => ?_⟩)
   obtain ⟨x115, e116, hm⟩ := bind_some hm
   obtain ⟨hle, hap⟩ := app_some e116
   replace hap := hap.symm
   subst hap
   have H : Heap w0 [oA (rList (rInt .i64)) v112 [x109], oA (rList (rInt .i64)) v55 xs56] w113 := H.front 0 rfl
   have H : Heap w0 [oA (rList (rInt .i64)) v55 xs56, oA (rList (rInt .i64)) v112 [x109]] w113 := H.front 1 rfl
   refine lx_appendOwn (r := (rInt .i64)) S trivial (by decide) rfl H rfl rfl Try.underlying38 Try.ti2 rfl rfl rfl (Nat.le_of_ble_eq_true rfl) (by decide) hle (fun v117 w118 H => ⟨trivial, fun a S => ?_⟩)
   refine lq v117 S (q_assign rfl) fun a S => ?_
   refine lx_nil ?_
   refine inBlock_norm ?_
   refine thenN ?_
   refine region_plain ?_
   refine lq (.int .i64 (W (x58 + (1 : Int)))) S (q_add rfl rfl) fun a S => ?_
   refine lq (.int .i64 (W (x58 + (1 : Int)))) S (q_move rfl) fun a S => ?_
   refine lx_nil ?_
   exact ⟨m98, Nat.lt_succ_self _, (xs56 ++ [x109]), (W (x58 + (1 : Int))), v117, S.sub ⟨rfl, rfl, rfl, rfl, rfl, trivial⟩, H, it_cont hm hc100⟩
  ·have hm := ite_f hc101 hm
   refine wp_exit ?_
   refine then_exit ?_
   refine then_exit ?_
   refine inBlock_exit ?_
   obtain rfl := it_brk hm hc100
   exact ⟨xs56, v55, S.sub ⟨rfl, trivial⟩, H, rfl⟩

/-- impl.equationBlocks -/
def impl_equationBlocks_m (fuel : Nat) (a0 : (List Timpl_Equation)) : Option ((List Int)) :=
  (iter (fun (s : (List Int) × (Int) × (Int)) => (match s with | (xs90, x92, x93) => (if (decide (x93 < (a0.length : Int))) = true then (idx a0 x93).bind fun x164 => join (κ := Int → Option (((List Int) × (Int) × (Int)) ⊕ (((List Int)) ⊕ ((List Int))))) (fun (x183 : Int) => (app xs90 [x183]).bind fun x189 => some (.inl (x189, x183, (W (x93 + (1 : Int)))))) (fun K184 => (if (decide ((0 : Int) < x93)) = true then (idx a0 (W (x93 - (1 : Int)))).bind fun x199 => some (x164.1 != x199.1) else some false).bind fun t196 => (if t196 = true then (K184 (W (x92 + (1 : Int)))) else (K184 x92))) else some (.inr (.inl (xs90)))) : Option (((List Int) × (Int) × (Int)) ⊕ (((List Int)) ⊕ ((List Int)))))) fuel ([], (0 : Int), (0 : Int))).bind fun res154 => ctl (β := (List Int)) (ρ := (List Int)) (τ := (List Int)) res154 (fun (xs152) => some (xs152)) (fun q => some (q))
set_option maxRecDepth 20000 in
theorem impl_equationBlocks_ok [dr : Dr] {w0 : World} {fuel : Nat} {p0 : Value} {a0 : (List Timpl_Equation)} {r : (List Int)} (h0 : Rd (rList Rimpl_Equation) w0 p0 a0) (hm : impl_equationBlocks_m fuel a0 = some r) :
  Calls Try.prog 81 #[p0] w0 fun e w => ∃ (v0 : Value), e = .returned (v0) ∧ Heap w0 [oA (rList (rInt .i64)) v0 r] w := by
 unfold impl_equationBlocks_m at hm
 have H := Heap.start w0
 refine enter (args := [p0]) Try.func81 rfl 35 rfl (Nat.le_of_ble_eq_true rfl) (fun a S => ?_)
 refine wp_seq (region_plain ?_)
 refine lq (.slice none 0 0) S (q_assign rfl) fun a S => ?_
 refine lx_nil (thenN ?_)
 refine wp_seq (region_plain ?_)
 refine lq (.slice none 0 0) S (q_assign rfl) fun a S => ?_
 refine lx_nil (thenN ?_)
 refine wp_seq (region_plain ?_)
 refine lq (.int .i64 (0 : Int)) S (q_assign rfl) fun a S => ?_
 refine lx_nil (thenN ?_)
 refine wp_seq (wp_seq (region_plain ?_))
 refine lq p0 S (q_move rfl) fun a S => ?_
 refine lq (.int .i64 (a0.length : Int)) S (q_lenSl rfl (h0).isSl rfl Try.underlying37) fun a S => ?_
 refine lq (.int .i64 (0 : Int)) S (q_move rfl) fun a S => ?_
 refine lx_nil (thenN ?_)
 obtain ⟨res154, hit155, hk158⟩ := bind_some hm
 obtain ⟨f156, hf157, hit155⟩ := iter_name hit155
 refine block_loop (fun a w => ∃ (xs152 : List Int) (v151 : Value), Slots a 35 [(3, v151)] ∧ Heap w0 [oA (rList (rInt .i64)) v151 xs152] w ∧ res154 = .inl (xs152)) ?_ ?_
 ·rintro a w ⟨xs152, v151, S, H, rfl⟩
  have hm := ctl_inl hk158
  refine thenN ?_
  refine wp_seq (region_plain ?_)
  refine lq v151 S (q_move rfl) fun a S => ?_
  refine lq v151 S (q_assign rfl) fun a S => ?_
  refine lx_nil (thenN ?_)
  refine wp_ret ?_
  obtain rfl := Option.some.inj hm
  exact leave1 S rfl rfl ⟨v151, rfl, H⟩
 ·skip
  have H : Heap w0 [oA (rList (rInt .i64)) (.slice none 0 0) ([] : List Int)] w0 := H.nilList (rInt .i64)
  refine loop_ghost (fun n a w => ∃ (xs90 : List Int) (x92 : Int) (x93 : Int) (v89 : Value), Slots a 35 [(0, p0), (3, v89), (4, (.int .i64 x92)), (7, p0), (8, (.int .i64 (a0.length : Int))), (9, (.int .i64 x93))] ∧ Heap w0 [oA (rList (rInt .i64)) v89 xs90] w ∧ iter f156 n (xs90, x92, x93) = some res154) _ ⟨[], (0 : Int), (0 : Int), (.slice none 0 0), S.sub ⟨rfl, rfl, rfl, rfl, rfl, rfl, trivial⟩, H, hit155⟩ ?_
  rintro n a w ⟨xs90, x92, x93, v89, S, H, hit155⟩
  obtain ⟨m160, o161, rfl, hm, hc162⟩ := iter_step hit155
  rw [hf157] at hm
  refine wp_seq (region_plain ?_)
  refine lq (.bool (decide (x93 < (a0.length : Int)))) S (q_lss rfl rfl) fun a S => ?_
  refine lx_nil (thenN ?_)
  refine wp_seq ?_
  refine cond_b S rfl (fun hc163 => ?_) (fun hc163 => ?_)
  ·have hm := ite_t hc163 hm
   refine wp_skip (thenN ?_)
   refine wp_seq ?_
   refine wp_block ?_
   refine wp_seq (region_plain ?_)
   refine lq (.int .i64 x93) S (q_move rfl) fun a S => ?_
   obtain ⟨x164, e165, hm⟩ := bind_some hm
   obtain ⟨c166, h167, hat168⟩ := (h0).elem (idx_some e165).2
   obtain ⟨c171, c172, rfl, h173, h174⟩ := h167
   obtain rfl := h173
   obtain ⟨c175, c176, rfl, h177, h178⟩ := h174
   obtain rfl := h177
   obtain ⟨v169, rfl, h170⟩ := rd_list h178
   have hlt := lt_of_idx (idx_some e165).2
   refine lq (ePtr p0 (x93.toNat * 3)) S (q_indexAddr rfl (h0).isSl rfl (idx_some e165).1 hlt Try.underlying37 Try.sizeOf70) fun a S => ?_
   refine lx_e (.agg #[(.bool x164.1), (.bool x164.2.1), v169]) S trivial (by decide) rfl trivial (q_loadA (cs := [(.bool x164.1), (.bool x164.2.1), v169]) rfl ((hat168 0 _ rfl).isP) Try.isAgg70 Try.sizeOf70 (by rintro _ rfl; exact (fun j u hu => (hat168 j u hu).ext H.ext))) (fun a S => ?_)
   refine lx_alloc S trivial (by decide) rfl H Try.zeroValue70 rfl (fun b179 w180 H => ⟨trivial, fun a S => ?_⟩)
   refine lq (.int .i64 x93) S (q_assign rfl) fun a S => ?_
   refine lx_storeBox (o := 0) (i := 0) (us := [(.bool x164.1), (.bool x164.2.1), v169]) (cs' := [(.bool x164.1), (.bool x164.2.1), v169]) S trivial rfl H rfl rfl rfl rfl Try.sizeOf70 (Nat.le_of_ble_eq_true rfl) (List.forall_mem_cons.2 ⟨rfl, (List.forall_mem_cons.2 ⟨rfl, (List.forall_mem_cons.2 ⟨one_sl (h170).isSl, (List.forall_mem_nil _)⟩)⟩)⟩) rfl (fun w182 H => ⟨trivial, fun a S => ?_⟩)
   change Heap w0 [bA b179 [(.bool x164.1), (.bool x164.2.1), v169] 70, oA (rList (rInt .i64)) v89 xs90] w182 at H
   refine lx_nil (thenN ?_)
   obtain ⟨K184, hK185, hm⟩ := join_elim hm
   refine seq_cut (fun a w => ∃ (x183 : Int), Slots a 35 [(0, p0), (3, v89), (4, (.int .i64 x183)), (7, p0), (8, (.int .i64 (a0.length : Int))), (9, (.int .i64 x93))] ∧ Heap w0 [oA (rList (rInt .i64)) v89 xs90] w ∧ K184 x183 = some o161) ?_ ?_
   ·rintro a w ⟨x183, S, H, hm⟩
    subst hK185
    refine region_plain ?_
    refine lq v89 S (q_move rfl) fun a S => ?_
    refine lq (.int .i64 x183) S (q_move rfl) fun a S => ?_
    refine lx_buildSlice (r := (rInt .i64)) (xs := [x183]) (ps := [(0, [(.int .i64 x183)])]) (cs := [(.int .i64 x183)]) (parts := [(0, .tmp 30)]) S trivial (by decide) rfl (H.put0 (A := eA) rfl) rfl Try.underlying38 Try.sizeOf2 Try.zeroValue2 (by decide) ⟨rfl, rfl, Nat.le_of_ble_eq_true rfl, trivial⟩ (by intro zs hz; exact fill_dense hz ⟨rfl, trivial⟩ rfl rfl) rfl (by decide) (fun w F hA => by cases (show F = [] from hA); exact ⟨_, _, [(.int .i64 x183)], _, rfl, rfl, ⟨rfl, rfl⟩, ⟨rfl, rfl⟩⟩) (fun v186 w187 H => ⟨trivial, fun a S => ?_⟩)
    obtain ⟨x189, e190, hm⟩ := bind_some hm
    obtain ⟨hle, hap⟩ := app_some e190
    replace hap := hap.symm
    subst hap
    have H : Heap w0 [oA (rList (rInt .i64)) v186 [x183], oA (rList (rInt .i64)) v89 xs90] w187 := H.front 0 rfl
    have H : Heap w0 [oA (rList (rInt .i64)) v89 xs90, oA (rList (rInt .i64)) v186 [x183]] w187 := H.front 1 rfl
    refine lx_appendOwn (r := (rInt .i64)) S trivial (by decide) rfl H rfl rfl Try.underlying38 Try.ti2 rfl rfl rfl (Nat.le_of_ble_eq_true rfl) (by decide) hle (fun v191 w192 H => ⟨trivial, fun a S => ?_⟩)
    refine lq v191 S (q_assign rfl) fun a S => ?_
    refine lx_nil ?_
    refine inBlock_norm ?_
    refine thenN ?_
    refine region_plain ?_
    refine lq (.int .i64 (W (x93 + (1 : Int)))) S (q_add rfl rfl) fun a S => ?_
    refine lq (.int .i64 (W (x93 + (1 : Int)))) S (q_move rfl) fun a S => ?_
    refine lx_nil ?_
    exact ⟨m160, Nat.lt_succ_self _, (xs90 ++ [x183]), x183, (W (x93 + (1 : Int))), v191, S.sub ⟨rfl, rfl, rfl, rfl, rfl, rfl, trivial⟩, H, it_cont hm hc162⟩
   ·skip
    refine wp_seq ?_
    refine region_drawG (fun w1 => Heap w0 [bA b179 [(.bool x164.1), (.bool x164.2.1), v169] 70] w1) (fun i => [].contains i) mixed (by kernel_rfl) (fun w195 he194 => ?_)
    have H := H.later he194
    refine ⟨H.sel [0] (by decide), ?_⟩
    refine lq (.int .i64 x93) S (q_move rfl) fun a S => ?_
    refine lq (.bool (decide ((0 : Int) < x93))) S (q_gtr rfl rfl) fun a S => ?_
    refine lq (.bool (decide ((0 : Int) < x93))) S (q_move rfl) fun a S => ?_
    obtain ⟨t196, e197, hm⟩ := bind_some hm
    refine lx_cut 10 (fun a w => Slots a 35 [(0, p0), (3, v89), (4, (.int .i64 x92)), (7, p0), (8, (.int .i64 (a0.length : Int))), (9, (.int .i64 x93)), (26, (.bool t196))] ∧ Heap w0 [oA (rList (rInt .i64)) v89 xs90] w) ?_ ?_
    ·by_cases hc198 : (decide ((0 : Int) < x93)) = true
     ·have hm := ite_t hc198 e197
      refine lx_q (pAdd (bp b179) 0) S (want_b rfl rfl hc198) (by decide) (q_fieldAddr' 0 4 rfl (isP_bp _) Try.underlying70 rfl Try.sizeOf4) (fun a S => ?_)
      refine lx_q (.bool x164.1) S (want_b rfl rfl hc198) (by decide) (q_load1 rfl Try.isAgg4 (fun w1 hC => (At.of_add (m := 0) (j := 0) (boxAt (i := 0) hC rfl (j := 0) rfl)))) (fun a S => ?_)
      refine lx_q p0 S (want_b rfl rfl hc198) (by decide) (q_move rfl) (fun a S => ?_)
      refine lx_q (.int .i64 x93) S (want_b rfl rfl hc198) (by decide) (q_move rfl) (fun a S => ?_)
      refine lx_q (.int .i64 (W (x93 - (1 : Int)))) S (want_b rfl rfl hc198) (by decide) (q_sub rfl rfl) (fun a S => ?_)
      obtain ⟨x199, e200, hm⟩ := bind_some hm
      obtain ⟨c201, h202, hat203⟩ := (h0).elem (idx_some e200).2
      obtain ⟨c206, c207, rfl, h208, h209⟩ := h202
      obtain rfl := h208
      obtain ⟨c210, c211, rfl, h212, h213⟩ := h209
      obtain rfl := h212
      obtain ⟨v204, rfl, h205⟩ := rd_list h213
      have hlt := lt_of_idx (idx_some e200).2
      refine lx_q (ePtr p0 ((W (x93 - (1 : Int))).toNat * 3)) S (want_b rfl rfl hc198) (by decide) (q_indexAddr rfl (h0).isSl rfl (idx_some e200).1 hlt Try.underlying37 Try.sizeOf70) (fun a S => ?_)
      refine lx_q (pAdd (ePtr p0 ((W (x93 - (1 : Int))).toNat * 3)) 0) S (want_b rfl rfl hc198) (by decide) (q_fieldAddr' 0 4 rfl ((hat203 0 _ rfl).isP) Try.underlying70 rfl Try.sizeOf4) (fun a S => ?_)
      refine lx_q (.bool x199.1) S (want_b rfl rfl hc198) (by decide) (q_load1 rfl Try.isAgg4 (fun w1 hC => (At.of_add (m := 0) (j := 0) ((hat203 0 _ rfl).ext hC.ext)))) (fun a S => ?_)
      refine lx_q (.bool (x164.1 != x199.1)) S (want_b rfl rfl hc198) (by decide) (q_bneq rfl rfl Try.underlying4) (fun a S => ?_)
      refine lq (.bool (x164.1 != x199.1)) S (q_pickT' rfl hc198 rfl) fun a S => ?_
      refine lx_nil ?_
      obtain rfl := Option.some.inj hm
      have H := H.sel [1] (by decide)
      exact ⟨S.sub ⟨rfl, rfl, rfl, rfl, rfl, rfl, rfl, trivial⟩, H⟩
     ·have hm := ite_f (eq_false_of_ne_true hc198) e197
      have hc198 : (decide ((0 : Int) < x93)) = false := eq_false_of_ne_true hc198
      refine lx_skip S rfl rfl (isB_ne hc198) (by decide) (fun a S => ?_)
      refine lx_skip S rfl rfl (isB_ne hc198) (by decide) (fun a S => ?_)
      refine lx_skip S rfl rfl (isB_ne hc198) (by decide) (fun a S => ?_)
      refine lx_skip S rfl rfl (isB_ne hc198) (by decide) (fun a S => ?_)
      refine lx_skip S rfl rfl (isB_ne hc198) (by decide) (fun a S => ?_)
      refine lx_skip S rfl rfl (isB_ne hc198) (by decide) (fun a S => ?_)
      refine lx_skip S rfl rfl (isB_ne hc198) (by decide) (fun a S => ?_)
      refine lx_skip S rfl rfl (isB_ne hc198) (by decide) (fun a S => ?_)
      refine lx_skip S rfl rfl (isB_ne hc198) (by decide) (fun a S => ?_)
      refine lq (.bool false) S (q_pickF' rfl hc198 rfl) fun a S => ?_
      refine lx_nil ?_
      obtain rfl := Option.some.inj hm
      have H := H.sel [1] (by decide)
      exact ⟨S.sub ⟨rfl, rfl, rfl, rfl, rfl, rfl, rfl, trivial⟩, H⟩
    ·rintro a w ⟨S, H⟩
     refine lx_nil (thenN ?_)
     refine cond_b S rfl (fun hc214 => ?_) (fun hc214 => ?_)
     ·have hm := ite_t hc214 hm
      refine region_plain ?_
      refine lq (.int .i64 x92) S (q_move rfl) fun a S => ?_
      refine lq (.int .i64 (W (x92 + (1 : Int)))) S (q_add rfl rfl) fun a S => ?_
      refine lq (.int .i64 (W (x92 + (1 : Int)))) S (q_assign rfl) fun a S => ?_
      refine lx_nil ?_
      exact ⟨(W (x92 + (1 : Int))), S.sub ⟨rfl, rfl, rfl, rfl, rfl, rfl, trivial⟩, H, hm⟩
     ·have hm := ite_f hc214 hm
      refine wp_skip ?_
      exact ⟨x92, S.sub ⟨rfl, rfl, rfl, rfl, rfl, rfl, trivial⟩, H, hm⟩
  ·have hm := ite_f hc163 hm
   refine wp_exit ?_
   refine then_exit ?_
   refine then_exit ?_
   refine inBlock_exit ?_
   obtain rfl := it_brk hm hc162
   exact ⟨xs90, v89, S.sub ⟨rfl, trivial⟩, H, rfl⟩

/-- impl.last[int64] -/
def impl_last_int64_m (_ : Nat) (a0 : (List Int)) : Option (Int) :=
  (idx a0 (W ((a0.length : Int) - (1 : Int)))).bind fun x31 => some (x31)
set_option maxRecDepth 20000 in
theorem impl_last_int64_ok [dr : Dr] {w0 : World} {fuel : Nat} {p0 : Value} {a0 : (List Int)} {r : Int} (h0 : Rd (rList (rInt .i64)) w0 p0 a0) (hm : impl_last_int64_m fuel a0 = some r) :
  Calls Try.prog 80 #[p0] w0 fun e w => e = .returned (.int .i64 r) ∧ Heap w0 [] w := by
 unfold impl_last_int64_m at hm
 have H := Heap.start w0
 refine enter (args := [p0]) Try.func80 rfl 9 rfl (Nat.le_of_ble_eq_true rfl) (fun a S => ?_)
 refine wp_seq (region_plain ?_)
 refine lq (.int .i64 (0 : Int)) S (q_assign rfl) fun a S => ?_
 refine lx_nil (thenN ?_)
 refine wp_seq (region_plain ?_)
 refine lq p0 S (q_move rfl) fun a S => ?_
 refine lq p0 S (q_move rfl) fun a S => ?_
 refine lq (.int .i64 (a0.length : Int)) S (q_lenSl rfl (h0).isSl rfl Try.underlying38) fun a S => ?_
 refine lq (.int .i64 (W ((a0.length : Int) - (1 : Int)))) S (q_sub rfl rfl) fun a S => ?_
 obtain ⟨x31, e32, hm⟩ := bind_some hm
 obtain ⟨c33, h34, hat35⟩ := (h0).elem (idx_some e32).2
 obtain rfl := h34
 have hlt := lt_of_idx (idx_some e32).2
 refine lq (ePtr p0 ((W ((a0.length : Int) - (1 : Int))).toNat * 1)) S (q_indexAddr rfl (h0).isSl rfl (idx_some e32).1 hlt Try.underlying38 Try.sizeOf2) fun a S => ?_
 refine lx_e (.int .i64 x31) S trivial (by decide) rfl trivial (q_load1 rfl Try.isAgg2 (by rintro _ rfl; exact ((hat35 0 _ rfl).ext H.ext))) (fun a S => ?_)
 refine lq (.int .i64 x31) S (q_assign rfl) fun a S => ?_
 refine lx_nil (thenN ?_)
 refine wp_ret ?_
 obtain rfl := Option.some.inj hm
 exact leave1 S rfl rfl ⟨rfl, H⟩

/-- impl.blocksFit -/
def impl_blocksFit_m (fuel : Nat) (a0 : (List Timpl_Equation)) : Option (Bool) :=
  (impl_equationBlocks_m fuel a0).bind fun x33 => (impl_last_int64_m fuel x33).bind fun x40 => some ((decide (x40 < (9 : Int))))
set_option maxRecDepth 20000 in
theorem impl_blocksFit_ok [dr : Dr] {w0 : World} {fuel : Nat} {p0 : Value} {a0 : (List Timpl_Equation)} {r : Bool} (h0 : Rd (rList Rimpl_Equation) w0 p0 a0) (hm : impl_blocksFit_m fuel a0 = some r) :
  Calls Try.prog 58 #[p0] w0 fun e w => e = .returned (.bool r) ∧ Heap w0 [] w := by
 unfold impl_blocksFit_m at hm
 have H := Heap.start w0
 refine enter (args := [p0]) Try.func58 rfl 7 rfl (Nat.le_of_ble_eq_true rfl) (fun a S => ?_)
 refine wp_seq (region_plain ?_)
 refine lq (.bool false) S (q_assign rfl) fun a S => ?_
 refine lx_nil (thenN ?_)
 refine wp_seq (region_plain ?_)
 refine lq p0 S (q_move rfl) fun a S => ?_
 obtain ⟨x33, e34, hm⟩ := bind_some hm
 refine lx_call (xs := [.tmp 3]) S trivial (by decide) rfl rfl Try.call81 ((impl_equationBlocks_ok (H.arg h0) e34).mono ?_)
 rintro e w31 ⟨v35, rfl, Hc32⟩
 have H := H.call1 Hc32
 refine ⟨_, rfl, trivial, fun a S => ?_⟩
 obtain ⟨x40, e41, hm⟩ := bind_some hm
 refine lx_call (xs := [.tmp 4]) S trivial (by decide) rfl rfl Try.call80 ((impl_last_int64_ok (H.rdAt 0 rfl) e41).mono ?_)
 rintro e w38 ⟨rfl, Hc39⟩
 have H := H.call0 Hc39
 refine ⟨_, rfl, trivial, fun a S => ?_⟩
 refine lq (.bool (decide (x40 < (9 : Int)))) S (q_lss rfl rfl) fun a S => ?_
 refine lq (.bool (decide (x40 < (9 : Int)))) S (q_assign rfl) fun a S => ?_
 refine lx_nil (thenN ?_)
 refine wp_ret ?_
 obtain rfl := Option.some.inj hm
 have H : Heap w0 [] w38 := H.sel [] (by decide)
 exact leave1 S rfl rfl ⟨rfl, H⟩
end Go.Proofs.Ytcddkipbedfhkaa
