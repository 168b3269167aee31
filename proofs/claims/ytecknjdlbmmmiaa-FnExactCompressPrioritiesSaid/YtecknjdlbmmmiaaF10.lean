/- The models of some functions and their walks (printed by a program of this repo). -/
import Derived.Test.YtecknjdlbmmmiaaF0
import Derived.Test.YtecknjdlbmmmiaaF2
import Derived.Test.YtecknjdlbmmmiaaGxT
import Derived.Test.YtecknjdlbmmmiaaGxY
namespace Go.Proofs.Ytecknjdlbmmmiaa
open Go.RowKit Go.Gx

/-- spec.l00Put -/
def spec_l00Put_m (fuel : Nat) (a0 : (List Int)) (a1 : Int) : Option ((List Int)) :=
  (iter (fun (s : (List Int) × (Bool) × (Int)) => (match s with | (xs83, x85, x86) => (if (decide (x86 < (a0.length : Int))) = true then join (κ := List Int → Bool → Option (((List Int) × (Bool) × (Int)) ⊕ (((List Int) × Bool) ⊕ ((List Int))))) (fun (xs163 : List Int) (x165 : Bool) => (idx a0 x86).bind fun x168 => (app xs163 [x168]).bind fun x176 => some (.inl (x176, x165, (W (x86 + (1 : Int)))))) (fun K166 => (if (!x85) = true then (idx a0 x86).bind fun x184 => some (decide (a1 ≤ x184)) else some false).bind fun t181 => (if t181 = true then (idx a0 x86).bind fun x190 => (if (decide (a1 < x190)) = true then (app xs83 [a1]).bind fun x199 => (K166 x199 true) else (K166 xs83 true)) else (K166 xs83 x85))) else some (.inr (.inl (xs83, x85)))) : Option (((List Int) × (Bool) × (Int)) ⊕ (((List Int) × Bool) ⊕ ((List Int)))))) fuel (([] : List Int), false, (0 : Int))).bind fun res139 => ctl (β := (List Int) × Bool) (ρ := (List Int)) (τ := (List Int)) res139 (fun (xs136, x138) => join (κ := List Int → Option (List Int)) (fun (xs145 : List Int) => some (xs145)) (fun K147 => (if (!x138) = true then (app xs136 [a1]).bind fun x153 => (K147 x153) else (K147 xs136)))) (fun q => some (q))
set_option maxRecDepth 20000 in
theorem spec_l00Put_ok {w0 : World} {fuel : Nat} {p0 : Value} {a0 : (List Int)} {a1 : Int} {r : (List Int)} (h0 : Rd (rList (rInt .i64)) w0 p0 a0) (hm : spec_l00Put_m fuel a0 a1 = some r) :
  Calls Try.prog 99 #[p0, .int .i64 a1] w0 fun e w => ∃ (v0 : Value), e = .returned (v0) ∧ Heap w0 [oA (rList (rInt .i64)) v0 r] w := by
 unfold spec_l00Put_m at hm
 have H := Heap.start w0
 refine enter (args := [p0, .int .i64 a1]) Try.func99 rfl 49 rfl (Nat.le_of_ble_eq_true rfl) (fun a S => ?_)
 refine wp_seq (region_plain ?_)
 refine lq (.slice none 0 0) S (q_assign rfl) fun a S => ?_
 refine lx_nil (thenN ?_)
 refine wp_seq (region_plain ?_)
 refine lx_buildSlice0 (r := (rInt .i64)) S trivial (by decide) rfl H Try.underlying23 Try.sizeOf2 (fun v31 w32 H => ⟨trivial, fun a S => ?_⟩)
 refine lq v31 S (q_assign rfl) fun a S => ?_
 refine lx_nil (thenN ?_)
 refine wp_seq (region_plain ?_)
 refine lq (.bool false) S (q_assign rfl) fun a S => ?_
 refine lx_nil (thenN ?_)
 refine wp_seq (wp_seq (region_plain ?_))
 refine lq (.int .i64 (0 : Int)) S (q_assign rfl) fun a S => ?_
 refine lx_nil (thenN ?_)
 obtain ⟨res139, hit140, hk143⟩ := bind_some hm
 obtain ⟨f141, hf142, hit140⟩ := iter_name hit140
 refine block_loop (fun a w => ∃ (xs136 : List Int) (x138 : Bool) (v135 : Value), Slots a 49 [(1, (.int .i64 a1)), (5, v135), (6, (.bool x138))] ∧ Heap w0 [oA (rList (rInt .i64)) v135 xs136] w ∧ res139 = .inl (xs136, x138)) ?_ ?_
 ·rintro a w ⟨xs136, x138, v135, S, H, rfl⟩
  have hm := ctl_inl hk143
  refine thenN ?_
  obtain ⟨K147, hK148, hm⟩ := join_elim hm
  refine seq_cut (fun a w => ∃ (xs145 : List Int) (v144 : Value), Slots a 49 [(5, v144)] ∧ Heap w0 [oA (rList (rInt .i64)) v144 xs145] w ∧ K147 xs145 = some r) ?_ ?_
  ·rintro a w ⟨xs145, v144, S, H, hm⟩
   subst hK148
   refine wp_seq (region_plain ?_)
   refine lq v144 S (q_move rfl) fun a S => ?_
   refine lq v144 S (q_assign rfl) fun a S => ?_
   refine lx_nil (thenN ?_)
   refine wp_ret ?_
   obtain rfl := Option.some.inj hm
   exact leave1 S rfl rfl ⟨v144, rfl, H⟩
  ·skip
   refine wp_seq (region_plain ?_)
   refine lq (.bool x138) S (q_move rfl) fun a S => ?_
   refine lq (.bool (!x138)) S (q_not rfl) fun a S => ?_
   refine lx_nil (thenN ?_)
   refine cond_b S rfl (fun hc149 => ?_) (fun hc149 => ?_)
   ·have hm := ite_t hc149 hm
    refine region_plain ?_
    refine lq v135 S (q_move rfl) fun a S => ?_
    refine lq (.int .i64 a1) S (q_move rfl) fun a S => ?_
    refine lx_buildSlice (r := (rInt .i64)) (xs := [a1]) (ps := [(0, [(.int .i64 a1)])]) (cs := [(.int .i64 a1)]) (parts := [(0, .tmp 45)]) S trivial (by decide) rfl (H.put0 (A := eA) rfl) rfl Try.underlying23 Try.sizeOf2 Try.zeroValue2 (by decide) ⟨rfl, rfl, Nat.le_of_ble_eq_true rfl, trivial⟩ (by intro zs hz; exact fill_dense hz ⟨rfl, trivial⟩ rfl rfl) rfl (by decide) (fun w F hA => by cases (show F = [] from hA); exact ⟨_, _, [(.int .i64 a1)], _, rfl, rfl, ⟨rfl, rfl⟩, ⟨rfl, rfl⟩⟩) (fun v150 w151 H => ⟨trivial, fun a S => ?_⟩)
    obtain ⟨x153, e154, hm⟩ := bind_some hm
    obtain ⟨hle, hap⟩ := app_some e154
    replace hap := hap.symm
    subst hap
    have H : Heap w0 [oA (rList (rInt .i64)) v150 [a1], oA (rList (rInt .i64)) v135 xs136] w151 := H.front 0 rfl
    have H : Heap w0 [oA (rList (rInt .i64)) v135 xs136, oA (rList (rInt .i64)) v150 [a1]] w151 := H.front 1 rfl
    refine lx_appendOwn (r := (rInt .i64)) S trivial (by decide) rfl H rfl rfl Try.underlying23 Try.ti2 rfl rfl rfl (Nat.le_of_ble_eq_true rfl) (by decide) hle (fun v155 w156 H => ⟨trivial, fun a S => ?_⟩)
    refine lq v155 S (q_assign rfl) fun a S => ?_
    refine lx_nil ?_
    exact ⟨(xs136 ++ [a1]), v155, S.sub ⟨rfl, trivial⟩, H, hm⟩
   ·have hm := ite_f hc149 hm
    refine wp_skip ?_
    exact ⟨xs136, v135, S.sub ⟨rfl, trivial⟩, H, hm⟩
 ·skip
  refine loop_ghost (fun n a w => ∃ (xs83 : List Int) (x85 : Bool) (x86 : Int) (v82 : Value), Slots a 49 [(0, p0), (1, (.int .i64 a1)), (5, v82), (6, (.bool x85)), (7, (.int .i64 x86))] ∧ Heap w0 [oA (rList (rInt .i64)) v82 xs83] w ∧ iter f141 n (xs83, x85, x86) = some res139) _ ⟨([] : List Int), false, (0 : Int), v31, S.sub ⟨rfl, rfl, rfl, rfl, rfl, trivial⟩, H, hit140⟩ ?_
  rintro n a w ⟨xs83, x85, x86, v82, S, H, hit140⟩
  obtain ⟨m158, o159, rfl, hm, hc160⟩ := iter_step hit140
  rw [hf142] at hm
  refine wp_seq (wp_seq (region_plain ?_))
  refine lq (.int .i64 x86) S (q_move rfl) fun a S => ?_
  refine lq p0 S (q_move rfl) fun a S => ?_
  refine lq (.int .i64 (a0.length : Int)) S (q_lenSl rfl (h0).isSl rfl Try.underlying23) fun a S => ?_
  refine lq (.bool (decide (x86 < (a0.length : Int)))) S (q_lss rfl rfl) fun a S => ?_
  refine lx_nil (thenN ?_)
  refine cond_b S rfl (fun hc161 => ?_) (fun hc161 => ?_)
  ·have hm := ite_t hc161 hm
   refine wp_skip (thenN ?_)
   refine wp_seq ?_
   refine wp_block ?_
   obtain ⟨K166, hK167, hm⟩ := join_elim hm
   refine seq_cut (fun a w => ∃ (xs163 : List Int) (x165 : Bool) (v162 : Value), Slots a 49 [(0, p0), (1, (.int .i64 a1)), (5, v162), (6, (.bool x165)), (7, (.int .i64 x86))] ∧ Heap w0 [oA (rList (rInt .i64)) v162 xs163] w ∧ K166 xs163 x165 = some o159) ?_ ?_
   ·rintro a w ⟨xs163, x165, v162, S, H, hm⟩
    subst hK167
    refine region_plain ?_
    refine lq v162 S (q_move rfl) fun a S => ?_
    refine lq p0 S (q_move rfl) fun a S => ?_
    refine lq (.int .i64 x86) S (q_move rfl) fun a S => ?_
    obtain ⟨x168, e169, hm⟩ := bind_some hm
    obtain ⟨c170, h171, hat172⟩ := (h0).elem (idx_some e169).2
    obtain rfl := h171
    have hlt := lt_of_idx (idx_some e169).2
    refine lq (ePtr p0 (x86.toNat * 1)) S (q_indexAddr rfl (h0).isSl rfl (idx_some e169).1 hlt Try.underlying23 Try.sizeOf2) fun a S => ?_
    refine lx_e (.int .i64 x168) S trivial (by decide) rfl trivial (q_load1 rfl Try.isAgg2 (by rintro _ rfl; exact ((hat172 0 _ rfl).ext H.ext))) (fun a S => ?_)
    refine lx_buildSlice (r := (rInt .i64)) (xs := [x168]) (ps := [(0, [(.int .i64 x168)])]) (cs := [(.int .i64 x168)]) (parts := [(0, .tmp 39)]) S trivial (by decide) rfl (H.put0 (A := eA) rfl) rfl Try.underlying23 Try.sizeOf2 Try.zeroValue2 (by decide) ⟨rfl, rfl, Nat.le_of_ble_eq_true rfl, trivial⟩ (by intro zs hz; exact fill_dense hz ⟨rfl, trivial⟩ rfl rfl) rfl (by decide) (fun w F hA => by cases (show F = [] from hA); exact ⟨_, _, [(.int .i64 x168)], _, rfl, rfl, ⟨rfl, rfl⟩, ⟨rfl, rfl⟩⟩) (fun v173 w174 H => ⟨trivial, fun a S => ?_⟩)
    obtain ⟨x176, e177, hm⟩ := bind_some hm
    obtain ⟨hle, hap⟩ := app_some e177
    replace hap := hap.symm
    subst hap
    have H : Heap w0 [oA (rList (rInt .i64)) v173 [x168], oA (rList (rInt .i64)) v162 xs163] w174 := H.front 0 rfl
    have H : Heap w0 [oA (rList (rInt .i64)) v162 xs163, oA (rList (rInt .i64)) v173 [x168]] w174 := H.front 1 rfl
    refine lx_appendOwn (r := (rInt .i64)) S trivial (by decide) rfl H rfl rfl Try.underlying23 Try.ti2 rfl rfl rfl (Nat.le_of_ble_eq_true rfl) (by decide) hle (fun v178 w179 H => ⟨trivial, fun a S => ?_⟩)
    refine lq v178 S (q_assign rfl) fun a S => ?_
    refine lx_nil ?_
    refine inBlock_norm ?_
    refine thenN ?_
    refine region_plain ?_
    refine lq (.int .i64 x86) S (q_move rfl) fun a S => ?_
    refine lq (.int .i64 (W (x86 + (1 : Int)))) S (q_add rfl rfl) fun a S => ?_
    refine lq (.int .i64 (W (x86 + (1 : Int)))) S (q_assign rfl) fun a S => ?_
    refine lx_nil ?_
    exact ⟨m158, Nat.lt_succ_self _, (xs163 ++ [x168]), x165, (W (x86 + (1 : Int))), v178, S.sub ⟨rfl, rfl, rfl, rfl, rfl, trivial⟩, H, it_cont hm hc160⟩
   ·skip
    refine wp_seq (region_plain ?_)
    refine lq (.bool x85) S (q_move rfl) fun a S => ?_
    refine lq (.bool (!x85)) S (q_not rfl) fun a S => ?_
    refine lq (.bool (!x85)) S (q_move rfl) fun a S => ?_
    obtain ⟨t181, e182, hm⟩ := bind_some hm
    refine lx_cut 7 (fun a w => Slots a 49 [(0, p0), (1, (.int .i64 a1)), (5, v82), (6, (.bool x85)), (7, (.int .i64 x86)), (24, (.bool t181))] ∧ Heap w0 [oA (rList (rInt .i64)) v82 xs83] w) ?_ ?_
    ·by_cases hc183 : (!x85) = true
     ·have hm := ite_t hc183 e182
      refine lx_q p0 S (want_b rfl rfl hc183) (by decide) (q_move rfl) (fun a S => ?_)
      refine lx_q (.int .i64 x86) S (want_b rfl rfl hc183) (by decide) (q_move rfl) (fun a S => ?_)
      obtain ⟨x184, e185, hm⟩ := bind_some hm
      obtain ⟨c186, h187, hat188⟩ := (h0).elem (idx_some e185).2
      obtain rfl := h187
      have hlt := lt_of_idx (idx_some e185).2
      refine lx_q (ePtr p0 (x86.toNat * 1)) S (want_b rfl rfl hc183) (by decide) (q_indexAddr rfl (h0).isSl rfl (idx_some e185).1 hlt Try.underlying23 Try.sizeOf2) (fun a S => ?_)
      refine lx_e (.int .i64 x184) S (want_b rfl rfl hc183) (by decide) rfl trivial (q_load1 rfl Try.isAgg2 (by rintro _ rfl; exact ((hat188 0 _ rfl).ext H.ext))) (fun a S => ?_)
      refine lx_q (.int .i64 a1) S (want_b rfl rfl hc183) (by decide) (q_move rfl) (fun a S => ?_)
      refine lx_q (.bool (decide (a1 ≤ x184))) S (want_b rfl rfl hc183) (by decide) (q_geq rfl rfl) (fun a S => ?_)
      refine lq (.bool (decide (a1 ≤ x184))) S (q_pickT' rfl hc183 rfl) fun a S => ?_
      refine lx_nil ?_
      obtain rfl := Option.some.inj hm
      exact ⟨S.sub ⟨rfl, rfl, rfl, rfl, rfl, rfl, trivial⟩, H⟩
     ·have hm := ite_f (eq_false_of_ne_true hc183) e182
      have hc183 : (!x85) = false := eq_false_of_ne_true hc183
      refine lx_skip S rfl rfl (isB_ne hc183) (by decide) (fun a S => ?_)
      refine lx_skip S rfl rfl (isB_ne hc183) (by decide) (fun a S => ?_)
      refine lx_skip S rfl rfl (isB_ne hc183) (by decide) (fun a S => ?_)
      refine lx_skip S rfl rfl (isB_ne hc183) (by decide) (fun a S => ?_)
      refine lx_skip S rfl rfl (isB_ne hc183) (by decide) (fun a S => ?_)
      refine lx_skip S rfl rfl (isB_ne hc183) (by decide) (fun a S => ?_)
      refine lq (.bool false) S (q_pickF' rfl hc183 rfl) fun a S => ?_
      refine lx_nil ?_
      obtain rfl := Option.some.inj hm
      exact ⟨S.sub ⟨rfl, rfl, rfl, rfl, rfl, rfl, trivial⟩, H⟩
    ·rintro a w ⟨S, H⟩
     refine lx_nil (thenN ?_)
     refine cond_b S rfl (fun hc189 => ?_) (fun hc189 => ?_)
     ·have hm := ite_t hc189 hm
      refine wp_seq (region_plain ?_)
      refine lq (.bool true) S (q_assign rfl) fun a S => ?_
      refine lx_nil (thenN ?_)
      refine wp_seq (region_plain ?_)
      refine lq p0 S (q_move rfl) fun a S => ?_
      refine lq (.int .i64 x86) S (q_move rfl) fun a S => ?_
      obtain ⟨x190, e191, hm⟩ := bind_some hm
      obtain ⟨c192, h193, hat194⟩ := (h0).elem (idx_some e191).2
      obtain rfl := h193
      have hlt := lt_of_idx (idx_some e191).2
      refine lq (ePtr p0 (x86.toNat * 1)) S (q_indexAddr rfl (h0).isSl rfl (idx_some e191).1 hlt Try.underlying23 Try.sizeOf2) fun a S => ?_
      refine lx_e (.int .i64 x190) S trivial (by decide) rfl trivial (q_load1 rfl Try.isAgg2 (by rintro _ rfl; exact ((hat194 0 _ rfl).ext H.ext))) (fun a S => ?_)
      refine lq (.int .i64 a1) S (q_move rfl) fun a S => ?_
      refine lq (.bool (decide (a1 < x190))) S (q_gtr rfl rfl) fun a S => ?_
      refine lx_nil (thenN ?_)
      refine cond_b S rfl (fun hc195 => ?_) (fun hc195 => ?_)
      ·have hm := ite_t hc195 hm
       refine region_plain ?_
       refine lq v82 S (q_move rfl) fun a S => ?_
       refine lq (.int .i64 a1) S (q_move rfl) fun a S => ?_
       refine lx_buildSlice (r := (rInt .i64)) (xs := [a1]) (ps := [(0, [(.int .i64 a1)])]) (cs := [(.int .i64 a1)]) (parts := [(0, .tmp 32)]) S trivial (by decide) rfl (H.put0 (A := eA) rfl) rfl Try.underlying23 Try.sizeOf2 Try.zeroValue2 (by decide) ⟨rfl, rfl, Nat.le_of_ble_eq_true rfl, trivial⟩ (by intro zs hz; exact fill_dense hz ⟨rfl, trivial⟩ rfl rfl) rfl (by decide) (fun w F hA => by cases (show F = [] from hA); exact ⟨_, _, [(.int .i64 a1)], _, rfl, rfl, ⟨rfl, rfl⟩, ⟨rfl, rfl⟩⟩) (fun v196 w197 H => ⟨trivial, fun a S => ?_⟩)
       obtain ⟨x199, e200, hm⟩ := bind_some hm
       obtain ⟨hle, hap⟩ := app_some e200
       replace hap := hap.symm
       subst hap
       have H : Heap w0 [oA (rList (rInt .i64)) v196 [a1], oA (rList (rInt .i64)) v82 xs83] w197 := H.front 0 rfl
       have H : Heap w0 [oA (rList (rInt .i64)) v82 xs83, oA (rList (rInt .i64)) v196 [a1]] w197 := H.front 1 rfl
       refine lx_appendOwn (r := (rInt .i64)) S trivial (by decide) rfl H rfl rfl Try.underlying23 Try.ti2 rfl rfl rfl (Nat.le_of_ble_eq_true rfl) (by decide) hle (fun v201 w202 H => ⟨trivial, fun a S => ?_⟩)
       refine lq v201 S (q_assign rfl) fun a S => ?_
       refine lx_nil ?_
       exact ⟨(xs83 ++ [a1]), true, v201, S.sub ⟨rfl, rfl, rfl, rfl, rfl, trivial⟩, H, hm⟩
      ·have hm := ite_f hc195 hm
       refine wp_skip ?_
       exact ⟨xs83, true, v82, S.sub ⟨rfl, rfl, rfl, rfl, rfl, trivial⟩, H, hm⟩
     ·have hm := ite_f hc189 hm
      refine wp_skip ?_
      exact ⟨xs83, x85, v82, S.sub ⟨rfl, rfl, rfl, rfl, rfl, trivial⟩, H, hm⟩
  ·have hm := ite_f hc161 hm
   refine wp_exit ?_
   refine then_exit ?_
   refine then_exit ?_
   refine inBlock_exit ?_
   obtain rfl := it_brk hm hc160
   exact ⟨xs83, x85, v82, S.sub ⟨rfl, rfl, rfl, trivial⟩, H, rfl⟩

/-- laws.heldEquationS -/
def laws_heldEquationS_m (fuel : Nat) (a0 : (List Timpl_Equation)) (a1 : Int) : Option (Int) :=
  (iter (fun (s : (Int) × (Int)) => (match s with | (x87, x88) => (if (decide (x88 < (a0.length : Int))) = true then (idx a0 x88).bind fun x155 => (if (x155.1 != ((x87.tmod (3 : Int)) == (0 : Int))) = true then some (.inr (.inr (-1 : Int))) else (idx a0 x88).bind fun x171 => (if (x171.2.1 != (((W (x87 + (1 : Int))).tmod (3 : Int)) == (0 : Int))) = true then some (.inr (.inr (-1 : Int))) else (idx a0 x88).bind fun x187 => (laws_heldInt64S_m fuel x187.2.2 (W ((W (x87 + (1 : Int))) + (1 : Int)))).bind fun x204 => (if (decide (x204 < (0 : Int))) = true then some (.inr (.inr (-1 : Int))) else some (.inl (x204, (W (x88 + (1 : Int)))))))) else some (.inr (.inl (x87)))) : Option (((Int) × (Int)) ⊕ ((Int) ⊕ (Int))))) fuel (a1, (0 : Int))).bind fun res146 => ctl (β := Int) (ρ := Int) (τ := Int) res146 (fun (x145) => some (x145)) (fun q => some (q))
set_option maxRecDepth 20000 in
theorem laws_heldEquationS_ok {w0 : World} {fuel : Nat} {p0 : Value} {a0 : (List Timpl_Equation)} {a1 : Int} {r : Int} (h0 : Rd (rList Rimpl_Equation) w0 p0 a0) (hm : laws_heldEquationS_m fuel a0 a1 = some r) :
  Calls Try.prog 49 #[p0, .int .i64 a1] w0 fun e w => e = .returned (.int .i64 r) ∧ Heap w0 [] w := by
 unfold laws_heldEquationS_m at hm
 have H := Heap.start w0
 refine enter (args := [p0, .int .i64 a1]) Try.func49 rfl 44 rfl (Nat.le_of_ble_eq_true rfl) (fun a S => ?_)
 refine wp_seq (region_plain ?_)
 refine lq (.int .i64 (0 : Int)) S (q_assign rfl) fun a S => ?_
 refine lx_nil (thenN ?_)
 refine wp_seq (wp_seq (region_plain ?_))
 refine lq (.int .i64 (0 : Int)) S (q_assign rfl) fun a S => ?_
 refine lx_nil (thenN ?_)
 obtain ⟨res146, hit147, hk150⟩ := bind_some hm
 obtain ⟨f148, hf149, hit147⟩ := iter_name hit147
 refine block_loop (fun a w => ∃ (x145 : Int), Slots a 44 [(1, (.int .i64 x145))] ∧ Heap w0 [] w ∧ res146 = .inl (x145)) ?_ ?_
 ·rintro a w ⟨x145, S, H, rfl⟩
  have hm := ctl_inl hk150
  refine thenN ?_
  refine wp_seq (region_plain ?_)
  refine lq (.int .i64 x145) S (q_move rfl) fun a S => ?_
  refine lq (.int .i64 x145) S (q_assign rfl) fun a S => ?_
  refine lx_nil (thenN ?_)
  refine wp_ret ?_
  obtain rfl := Option.some.inj hm
  exact leave1 S rfl rfl ⟨rfl, H⟩
 ·skip
  refine loop_ghost (fun n a w => ∃ (x87 : Int) (x88 : Int), Slots a 44 [(0, p0), (1, (.int .i64 x87)), (5, (.int .i64 x88))] ∧ Heap w0 [] w ∧ iter f148 n (x87, x88) = some res146) _ ⟨a1, (0 : Int), S.sub ⟨rfl, rfl, rfl, trivial⟩, H, hit147⟩ ?_
  rintro n a w ⟨x87, x88, S, H, hit147⟩
  obtain ⟨m151, o152, rfl, hm, hc153⟩ := iter_step hit147
  rw [hf149] at hm
  refine wp_seq (wp_seq (region_plain ?_))
  refine lq (.int .i64 x88) S (q_move rfl) fun a S => ?_
  refine lq p0 S (q_move rfl) fun a S => ?_
  refine lq (.int .i64 (a0.length : Int)) S (q_lenSl rfl (h0).isSl rfl Try.underlying36) fun a S => ?_
  refine lq (.bool (decide (x88 < (a0.length : Int)))) S (q_lss rfl rfl) fun a S => ?_
  refine lx_nil (thenN ?_)
  refine cond_b S rfl (fun hc154 => ?_) (fun hc154 => ?_)
  ·have hm := ite_t hc154 hm
   refine wp_skip (thenN ?_)
   refine wp_seq ?_
   refine wp_block ?_
   refine wp_seq (wp_seq (region_plain ?_))
   refine lq p0 S (q_move rfl) fun a S => ?_
   refine lq (.int .i64 x88) S (q_move rfl) fun a S => ?_
   obtain ⟨x155, e156, hm⟩ := bind_some hm
   obtain ⟨c157, h158, hat159⟩ := (h0).elem (idx_some e156).2
   obtain ⟨c162, c163, rfl, h164, h165⟩ := h158
   obtain rfl := h164
   obtain ⟨c166, c167, rfl, h168, h169⟩ := h165
   obtain rfl := h168
   obtain ⟨v160, rfl, h161⟩ := rd_list h169
   have hlt := lt_of_idx (idx_some e156).2
   refine lq (ePtr p0 (x88.toNat * 3)) S (q_indexAddr rfl (h0).isSl rfl (idx_some e156).1 hlt Try.underlying36 Try.sizeOf85) fun a S => ?_
   refine lq (pAdd (ePtr p0 (x88.toNat * 3)) 0) S (q_fieldAddr' 0 4 rfl ((hat159 0 _ rfl).isP) Try.underlying85 rfl Try.sizeOf4) fun a S => ?_
   refine lx_e (.bool x155.1) S trivial (by decide) rfl trivial (q_load1 rfl Try.isAgg4 (by rintro _ rfl; exact (At.of_add (m := 0) (j := 0) ((hat159 0 _ rfl).ext H.ext)))) (fun a S => ?_)
   refine lq (.int .i64 x87) S (q_move rfl) fun a S => ?_
   refine lq (.int .i64 (x87.tmod (3 : Int))) S (q_rem rfl rfl (show (3 : Int) ≠ 0 from by decide)) fun a S => ?_
   refine lq (.bool ((x87.tmod (3 : Int)) == (0 : Int))) S (q_eql rfl rfl) fun a S => ?_
   refine lq (.bool (x155.1 != ((x87.tmod (3 : Int)) == (0 : Int)))) S (q_bneq rfl rfl Try.underlying4) fun a S => ?_
   refine lx_nil (thenN ?_)
   refine cond_b S rfl (fun hc170 => ?_) (fun hc170 => ?_)
   ·have hm := ite_t hc170 hm
    refine wp_seq (region_plain ?_)
    refine lq (.int .i64 (-1 : Int)) S (q_assign rfl) fun a S => ?_
    refine lx_nil (thenN ?_)
    refine wp_ret (then_ret ?_)
    refine inBlock_ret ?_
    refine then_ret ?_
    refine then_ret ?_
    refine inBlock_ret ?_
    refine then_ret ?_
    refine then_ret ?_
    obtain rfl := it_brk hm hc153
    have hm := ctl_inr hk150
    obtain rfl := Option.some.inj hm
    exact leave1 S rfl rfl ⟨rfl, H⟩
   ·have hm := ite_f hc170 hm
    refine wp_skip (thenN ?_)
    refine wp_seq (region_plain ?_)
    refine lq (.int .i64 x87) S (q_move rfl) fun a S => ?_
    refine lq (.int .i64 (W (x87 + (1 : Int)))) S (q_add rfl rfl) fun a S => ?_
    refine lq (.int .i64 (W (x87 + (1 : Int)))) S (q_assign rfl) fun a S => ?_
    refine lx_nil (thenN ?_)
    refine wp_seq (wp_seq (region_plain ?_))
    refine lq p0 S (q_move rfl) fun a S => ?_
    refine lq (.int .i64 x88) S (q_move rfl) fun a S => ?_
    obtain ⟨x171, e172, hm⟩ := bind_some hm
    obtain ⟨c173, h174, hat175⟩ := (h0).elem (idx_some e172).2
    obtain ⟨c178, c179, rfl, h180, h181⟩ := h174
    obtain rfl := h180
    obtain ⟨c182, c183, rfl, h184, h185⟩ := h181
    obtain rfl := h184
    obtain ⟨v176, rfl, h177⟩ := rd_list h185
    have hlt := lt_of_idx (idx_some e172).2
    refine lq (ePtr p0 (x88.toNat * 3)) S (q_indexAddr rfl (h0).isSl rfl (idx_some e172).1 hlt Try.underlying36 Try.sizeOf85) fun a S => ?_
    refine lq (pAdd (ePtr p0 (x88.toNat * 3)) 1) S (q_fieldAddr' 1 4 rfl ((hat175 0 _ rfl).isP) Try.underlying85 rfl Try.sizeOf4) fun a S => ?_
    refine lx_e (.bool x171.2.1) S trivial (by decide) rfl trivial (q_load1 rfl Try.isAgg4 (by rintro _ rfl; exact (At.of_add (m := 1) (j := 0) ((hat175 1 _ rfl).ext H.ext)))) (fun a S => ?_)
    refine lq (.int .i64 (W (x87 + (1 : Int)))) S (q_move rfl) fun a S => ?_
    refine lq (.int .i64 ((W (x87 + (1 : Int))).tmod (3 : Int))) S (q_rem rfl rfl (show (3 : Int) ≠ 0 from by decide)) fun a S => ?_
    refine lq (.bool (((W (x87 + (1 : Int))).tmod (3 : Int)) == (0 : Int))) S (q_eql rfl rfl) fun a S => ?_
    refine lq (.bool (x171.2.1 != (((W (x87 + (1 : Int))).tmod (3 : Int)) == (0 : Int)))) S (q_bneq rfl rfl Try.underlying4) fun a S => ?_
    refine lx_nil (thenN ?_)
    refine cond_b S rfl (fun hc186 => ?_) (fun hc186 => ?_)
    ·have hm := ite_t hc186 hm
     refine wp_seq (region_plain ?_)
     refine lq (.int .i64 (-1 : Int)) S (q_assign rfl) fun a S => ?_
     refine lx_nil (thenN ?_)
     refine wp_ret (then_ret ?_)
     refine inBlock_ret ?_
     refine then_ret ?_
     refine then_ret ?_
     refine inBlock_ret ?_
     refine then_ret ?_
     refine then_ret ?_
     obtain rfl := it_brk hm hc153
     have hm := ctl_inr hk150
     obtain rfl := Option.some.inj hm
     exact leave1 S rfl rfl ⟨rfl, H⟩
    ·have hm := ite_f hc186 hm
     refine wp_skip (thenN ?_)
     refine wp_seq (region_plain ?_)
     refine lq (.int .i64 (W (x87 + (1 : Int)))) S (q_move rfl) fun a S => ?_
     refine lq (.int .i64 (W ((W (x87 + (1 : Int))) + (1 : Int)))) S (q_add rfl rfl) fun a S => ?_
     refine lq (.int .i64 (W ((W (x87 + (1 : Int))) + (1 : Int)))) S (q_assign rfl) fun a S => ?_
     refine lx_nil (thenN ?_)
     refine wp_seq (region_plain ?_)
     refine lq p0 S (q_move rfl) fun a S => ?_
     refine lq (.int .i64 x88) S (q_move rfl) fun a S => ?_
     obtain ⟨x187, e188, hm⟩ := bind_some hm
     obtain ⟨c189, h190, hat191⟩ := (h0).elem (idx_some e188).2
     obtain ⟨c194, c195, rfl, h196, h197⟩ := h190
     obtain rfl := h196
     obtain ⟨c198, c199, rfl, h200, h201⟩ := h197
     obtain rfl := h200
     obtain ⟨v192, rfl, h193⟩ := rd_list h201
     have hlt := lt_of_idx (idx_some e188).2
     refine lq (ePtr p0 (x88.toNat * 3)) S (q_indexAddr rfl (h0).isSl rfl (idx_some e188).1 hlt Try.underlying36 Try.sizeOf85) fun a S => ?_
     refine lq (pAdd (ePtr p0 (x88.toNat * 3)) 2) S (q_fieldAddr' 2 23 rfl ((hat191 0 _ rfl).isP) Try.underlying85 rfl Try.sizeOf23) fun a S => ?_
     refine lx_e v192 S trivial (by decide) rfl trivial (q_load1 rfl Try.isAgg23 (by rintro _ rfl; exact (At.of_add (m := 2) (j := 0) ((hat191 2 _ rfl).ext H.ext)))) (fun a S => ?_)
     refine lq (.int .i64 (W ((W (x87 + (1 : Int))) + (1 : Int)))) S (q_move rfl) fun a S => ?_
     obtain ⟨x204, e205, hm⟩ := bind_some hm
     refine lx_call (xs := [.tmp 38, .tmp 39]) S trivial (by decide) rfl rfl Try.call31 ((laws_heldInt64S_ok (H.arg h193)  e205).mono ?_)
     rintro e w202 ⟨rfl, Hc203⟩
     have H := H.call0 Hc203
     refine ⟨_, rfl, trivial, fun a S => ?_⟩
     refine lq (.int .i64 x204) S (q_assign rfl) fun a S => ?_
     refine lx_nil (thenN ?_)
     refine wp_seq (region_plain ?_)
     refine lq (.int .i64 x204) S (q_move rfl) fun a S => ?_
     refine lq (.bool (decide (x204 < (0 : Int)))) S (q_lss rfl rfl) fun a S => ?_
     refine lx_nil (thenN ?_)
     refine cond_b S rfl (fun hc207 => ?_) (fun hc207 => ?_)
     ·have hm := ite_t hc207 hm
      refine wp_seq (region_plain ?_)
      refine lq (.int .i64 (-1 : Int)) S (q_assign rfl) fun a S => ?_
      refine lx_nil (thenN ?_)
      refine wp_ret (inBlock_ret ?_)
      refine then_ret ?_
      refine then_ret ?_
      refine inBlock_ret ?_
      refine then_ret ?_
      refine then_ret ?_
      obtain rfl := it_brk hm hc153
      have hm := ctl_inr hk150
      obtain rfl := Option.some.inj hm
      exact leave1 S rfl rfl ⟨rfl, H⟩
     ·have hm := ite_f hc207 hm
      refine wp_skip ?_
      refine inBlock_norm ?_
      refine thenN ?_
      refine region_plain ?_
      refine lq (.int .i64 x88) S (q_move rfl) fun a S => ?_
      refine lq (.int .i64 (W (x88 + (1 : Int)))) S (q_add rfl rfl) fun a S => ?_
      refine lq (.int .i64 (W (x88 + (1 : Int)))) S (q_assign rfl) fun a S => ?_
      refine lx_nil ?_
      exact ⟨m151, Nat.lt_succ_self _, x204, (W (x88 + (1 : Int))), S.sub ⟨rfl, rfl, rfl, trivial⟩, H, it_cont hm hc153⟩
  ·have hm := ite_f hc154 hm
   refine wp_exit ?_
   refine then_exit ?_
   refine then_exit ?_
   refine inBlock_exit ?_
   obtain rfl := it_brk hm hc153
   exact ⟨x87, S.sub ⟨rfl, trivial⟩, H, rfl⟩
end Go.Proofs.Ytecknjdlbmmmiaa
