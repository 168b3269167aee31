/- The models of some functions and their walks (printed by a program of this repo). -/
import Derived.Test.YtciiinpphaaddaaGreatDoorF0
import Derived.Test.YtciiinpphaaddaaGreatDoorF4
import Derived.Test.YtciiinpphaaddaaGreatDoorGxT
import Derived.Test.YtciiinpphaaddaaGreatDoorGxY
namespace Go.Proofs.YtciiinpphaaddaaGreatDoor
open Go.RowKit Go.Gx

/-- spec.l00Put -/
def spec_l00Put_m (fuel : Nat) (a0 : (List Int)) (a1 : Int) : Option ((List Int)) :=
  (iter (fun (s : (List Int) × (Bool) × (Int)) => (match s with | (xs83, x85, x86) => (if (decide (x86 < (a0.length : Int))) = true then join (κ := List Int → Bool → Option (((List Int) × (Bool) × (Int)) ⊕ (((List Int) × Bool) ⊕ ((List Int))))) (fun (xs163 : List Int) (x165 : Bool) => (idx a0 x86).bind fun x168 => (app xs163 [x168]).bind fun x176 => some (.inl (x176, x165, (W (x86 + (1 : Int)))))) (fun K166 => (if (!x85) = true then (idx a0 x86).bind fun x184 => some (decide (a1 ≤ x184)) else some false).bind fun t181 => (if t181 = true then (idx a0 x86).bind fun x190 => (if (decide (a1 < x190)) = true then (app xs83 [a1]).bind fun x199 => (K166 x199 true) else (K166 xs83 true)) else (K166 xs83 x85))) else some (.inr (.inl (xs83, x85)))) : Option (((List Int) × (Bool) × (Int)) ⊕ (((List Int) × Bool) ⊕ ((List Int)))))) fuel (([] : List Int), false, (0 : Int))).bind fun res139 => ctl (β := (List Int) × Bool) (ρ := (List Int)) (τ := (List Int)) res139 (fun (xs136, x138) => join (κ := List Int → Option (List Int)) (fun (xs145 : List Int) => some (xs145)) (fun K147 => (if (!x138) = true then (app xs136 [a1]).bind fun x153 => (K147 x153) else (K147 xs136)))) (fun q => some (q))
set_option maxRecDepth 20000 in
theorem spec_l00Put_ok {w0 : World} {fuel : Nat} {p0 : Value} {a0 : (List Int)} {a1 : Int} {r : (List Int)} (h0 : Rd (rList (rInt .i64)) w0 p0 a0) (hm : spec_l00Put_m fuel a0 a1 = some r) :
  Calls Tryz.prog 138 #[p0, .int .i64 a1] w0 fun e w => ∃ (v0 : Value), e = .returned (v0) ∧ Heap w0 [oA (rList (rInt .i64)) v0 r] w := by
 unfold spec_l00Put_m at hm
 have H := Heap.start w0
 refine enter (args := [p0, .int .i64 a1]) Tryz.func138 rfl 49 rfl (Nat.le_of_ble_eq_true rfl) (fun a S => ?_)
 refine wp_seq (region_plain ?_)
 refine lq (.slice none 0 0) S (q_assign rfl) fun a S => ?_
 refine lx_nil (thenN ?_)
 refine wp_seq (region_plain ?_)
 refine lx_buildSlice0 (r := (rInt .i64)) S trivial (by decide) rfl H Tryz.underlying27 Tryz.sizeOf2 (fun v31 w32 H => ⟨trivial, fun a S => ?_⟩)
 refine lq v31 S (q_assign rfl) fun a S => ?_
 refine lx_nil (thenN ?_)
 refine wp_seq (region_plain ?_)
 refine lq (.bool false) S (q_assign rfl) fun a S => ?_
 refine lx_nil (thenN ?_)
 refine wp_seq (wp_seq (region_plain ?_))
 refine lq (.int .i64 (0 : Int)) S (q_assign rfl) fun a S => ?_
 refine lx_nil (thenN ?_)
 obtain ⟨res139, hit140, hk143⟩ := bind_some hm
 obtain ⟨f141, hf142, hit140⟩ := iter_name hit140
 refine block_loop (fun a w => ∃ (xs136 : List Int) (x138 : Bool) (v135 : Value), Slots a 49 [(1, (.int .i64 a1)), (5, v135), (6, (.bool x138))] ∧ Heap w0 [oA (rList (rInt .i64)) v135 xs136] w ∧ res139 = .inl (xs136, x138)) ?_ ?_
 ·rintro a w ⟨xs136, x138, v135, S, H, rfl⟩
  have hm := ctl_inl hk143
  refine thenN ?_
  obtain ⟨K147, hK148, hm⟩ := join_elim hm
  refine seq_cut (fun a w => ∃ (xs145 : List Int) (v144 : Value), Slots a 49 [(5, v144)] ∧ Heap w0 [oA (rList (rInt .i64)) v144 xs145] w ∧ K147 xs145 = some r) ?_ ?_
  ·rintro a w ⟨xs145, v144, S, H, hm⟩
   subst hK148
   refine wp_seq (region_plain ?_)
   refine lq v144 S (q_move rfl) fun a S => ?_
   refine lq v144 S (q_assign rfl) fun a S => ?_
   refine lx_nil (thenN ?_)
   refine wp_ret ?_
   obtain rfl := Option.some.inj hm
   exact leave1 S rfl rfl ⟨v144, rfl, H⟩
  ·skip
   refine wp_seq (region_plain ?_)
   refine lq (.bool x138) S (q_move rfl) fun a S => ?_
   refine lq (.bool (!x138)) S (q_not rfl) fun a S => ?_
   refine lx_nil (thenN ?_)
   refine cond_b S rfl (fun hc149 => ?_) (fun hc149 => ?_)
   ·have hm := ite_t hc149 hm
    refine region_plain ?_
    refine lq v135 S (q_move rfl) fun a S => ?_
    refine lq (.int .i64 a1) S (q_move rfl) fun a S => ?_
    refine lx_buildSlice (r := (rInt .i64)) (xs := [a1]) (ps := [(0, [(.int .i64 a1)])]) (cs := [(.int .i64 a1)]) (parts := [(0, .tmp 45)]) S trivial (by decide) rfl (H.put0 (A := eA) rfl) rfl Tryz.underlying27 Tryz.sizeOf2 Tryz.zeroValue2 (by decide) ⟨rfl, rfl, Nat.le_of_ble_eq_true rfl, trivial⟩ (by intro zs hz; exact fill_dense hz ⟨rfl, trivial⟩ rfl rfl) rfl (by decide) (fun w F hA => by cases (show F = [] from hA); exact ⟨_, _, [(.int .i64 a1)], _, rfl, rfl, ⟨rfl, rfl⟩, ⟨rfl, rfl⟩⟩) (fun v150 w151 H => ⟨trivial, fun a S => ?_⟩)
    obtain ⟨x153, e154, hm⟩ := bind_some hm
    obtain ⟨hle, hap⟩ := app_some e154
    replace hap := hap.symm
    subst hap
    have H : Heap w0 [oA (rList (rInt .i64)) v150 [a1], oA (rList (rInt .i64)) v135 xs136] w151 := H.front 0 rfl
    have H : Heap w0 [oA (rList (rInt .i64)) v135 xs136, oA (rList (rInt .i64)) v150 [a1]] w151 := H.front 1 rfl
    refine lx_appendOwn (r := (rInt .i64)) S trivial (by decide) rfl H rfl rfl Tryz.underlying27 Tryz.ti2 rfl rfl rfl (Nat.le_of_ble_eq_true rfl) (by decide) hle (fun v155 w156 H => ⟨trivial, fun a S => ?_⟩)
    refine lq v155 S (q_assign rfl) fun a S => ?_
    refine lx_nil ?_
    exact ⟨(xs136 ++ [a1]), v155, S.sub ⟨rfl, trivial⟩, H, hm⟩
   ·have hm := ite_f hc149 hm
    refine wp_skip ?_
    exact ⟨xs136, v135, S.sub ⟨rfl, trivial⟩, H, hm⟩
 ·skip
  refine loop_ghost (fun n a w => ∃ (xs83 : List Int) (x85 : Bool) (x86 : Int) (v82 : Value), Slots a 49 [(0, p0), (1, (.int .i64 a1)), (5, v82), (6, (.bool x85)), (7, (.int .i64 x86))] ∧ Heap w0 [oA (rList (rInt .i64)) v82 xs83] w ∧ iter f141 n (xs83, x85, x86) = some res139) _ ⟨([] : List Int), false, (0 : Int), v31, S.sub ⟨rfl, rfl, rfl, rfl, rfl, trivial⟩, H, hit140⟩ ?_
  rintro n a w ⟨xs83, x85, x86, v82, S, H, hit140⟩
  obtain ⟨m158, o159, rfl, hm, hc160⟩ := iter_step hit140
  rw [hf142] at hm
  refine wp_seq (wp_seq (region_plain ?_))
  refine lq (.int .i64 x86) S (q_move rfl) fun a S => ?_
  refine lq p0 S (q_move rfl) fun a S => ?_
  refine lq (.int .i64 (a0.length : Int)) S (q_lenSl rfl (h0).isSl rfl Tryz.underlying27) fun a S => ?_
  refine lq (.bool (decide (x86 < (a0.length : Int)))) S (q_lss rfl rfl) fun a S => ?_
  refine lx_nil (thenN ?_)
  refine cond_b S rfl (fun hc161 => ?_) (fun hc161 => ?_)
  ·have hm := ite_t hc161 hm
   refine wp_skip (thenN ?_)
   refine wp_seq ?_
   refine wp_block ?_
   obtain ⟨K166, hK167, hm⟩ := join_elim hm
   refine seq_cut (fun a w => ∃ (xs163 : List Int) (x165 : Bool) (v162 : Value), Slots a 49 [(0, p0), (1, (.int .i64 a1)), (5, v162), (6, (.bool x165)), (7, (.int .i64 x86))] ∧ Heap w0 [oA (rList (rInt .i64)) v162 xs163] w ∧ K166 xs163 x165 = some o159) ?_ ?_
   ·rintro a w ⟨xs163, x165, v162, S, H, hm⟩
    subst hK167
    refine region_plain ?_
    refine lq v162 S (q_move rfl) fun a S => ?_
    refine lq p0 S (q_move rfl) fun a S => ?_
    refine lq (.int .i64 x86) S (q_move rfl) fun a S => ?_
    obtain ⟨x168, e169, hm⟩ := bind_some hm
    obtain ⟨c170, h171, hat172⟩ := (h0).elem (idx_some e169).2
    obtain rfl := h171
    have hlt := lt_of_idx (idx_some e169).2
    refine lq (ePtr p0 (x86.toNat * 1)) S (q_indexAddr rfl (h0).isSl rfl (idx_some e169).1 hlt Tryz.underlying27 Tryz.sizeOf2) fun a S => ?_
    refine lx_e (.int .i64 x168) S trivial (by decide) rfl trivial (q_load1 rfl Tryz.isAgg2 (by rintro _ rfl; exact ((hat172 0 _ rfl).ext H.ext))) (fun a S => ?_)
    refine lx_buildSlice (r := (rInt .i64)) (xs := [x168]) (ps := [(0, [(.int .i64 x168)])]) (cs := [(.int .i64 x168)]) (parts := [(0, .tmp 39)]) S trivial (by decide) rfl (H.put0 (A := eA) rfl) rfl Tryz.underlying27 Tryz.sizeOf2 Tryz.zeroValue2 (by decide) ⟨rfl, rfl, Nat.le_of_ble_eq_true rfl, trivial⟩ (by intro zs hz; exact fill_dense hz ⟨rfl, trivial⟩ rfl rfl) rfl (by decide) (fun w F hA => by cases (show F = [] from hA); exact ⟨_, _, [(.int .i64 x168)], _, rfl, rfl, ⟨rfl, rfl⟩, ⟨rfl, rfl⟩⟩) (fun v173 w174 H => ⟨trivial, fun a S => ?_⟩)
    obtain ⟨x176, e177, hm⟩ := bind_some hm
    obtain ⟨hle, hap⟩ := app_some e177
    replace hap := hap.symm
    subst hap
    have H : Heap w0 [oA (rList (rInt .i64)) v173 [x168], oA (rList (rInt .i64)) v162 xs163] w174 := H.front 0 rfl
    have H : Heap w0 [oA (rList (rInt .i64)) v162 xs163, oA (rList (rInt .i64)) v173 [x168]] w174 := H.front 1 rfl
    refine lx_appendOwn (r := (rInt .i64)) S trivial (by decide) rfl H rfl rfl Tryz.underlying27 Tryz.ti2 rfl rfl rfl (Nat.le_of_ble_eq_true rfl) (by decide) hle (fun v178 w179 H => ⟨trivial, fun a S => ?_⟩)
    refine lq v178 S (q_assign rfl) fun a S => ?_
    refine lx_nil ?_
    refine inBlock_norm ?_
    refine thenN ?_
    refine region_plain ?_
    refine lq (.int .i64 x86) S (q_move rfl) fun a S => ?_
    refine lq (.int .i64 (W (x86 + (1 : Int)))) S (q_add rfl rfl) fun a S => ?_
    refine lq (.int .i64 (W (x86 + (1 : Int)))) S (q_assign rfl) fun a S => ?_
    refine lx_nil ?_
    exact ⟨m158, Nat.lt_succ_self _, (xs163 ++ [x168]), x165, (W (x86 + (1 : Int))), v178, S.sub ⟨rfl, rfl, rfl, rfl, rfl, trivial⟩, H, it_cont hm hc160⟩
   ·skip
    refine wp_seq (region_plain ?_)
    refine lq (.bool x85) S (q_move rfl) fun a S => ?_
    refine lq (.bool (!x85)) S (q_not rfl) fun a S => ?_
    refine lq (.bool (!x85)) S (q_move rfl) fun a S => ?_
    obtain ⟨t181, e182, hm⟩ := bind_some hm
    refine lx_cut 7 (fun a w => Slots a 49 [(0, p0), (1, (.int .i64 a1)), (5, v82), (6, (.bool x85)), (7, (.int .i64 x86)), (24, (.bool t181))] ∧ Heap w0 [oA (rList (rInt .i64)) v82 xs83] w) ?_ ?_
    ·by_cases hc183 : (!x85) = true
     ·have hm := ite_t hc183 e182
      refine lx_q p0 S (want_b rfl rfl hc183) (by decide) (q_move rfl) (fun a S => ?_)
      refine lx_q (.int .i64 x86) S (want_b rfl rfl hc183) (by decide) (q_move rfl) (fun a S => ?_)
      obtain ⟨x184, e185, hm⟩ := bind_some hm
      obtain ⟨c186, h187, hat188⟩ := (h0).elem (idx_some e185).2
      obtain rfl := h187
      have hlt := lt_of_idx (idx_some e185).2
      refine lx_q (ePtr p0 (x86.toNat * 1)) S (want_b rfl rfl hc183) (by decide) (q_indexAddr rfl (h0).isSl rfl (idx_some e185).1 hlt Tryz.underlying27 Tryz.sizeOf2) (fun a S => ?_)
      refine lx_e (.int .i64 x184) S (want_b rfl rfl hc183) (by decide) rfl trivial (q_load1 rfl Tryz.isAgg2 (by rintro _ rfl; exact ((hat188 0 _ rfl).ext H.ext))) (fun a S => ?_)
      refine lx_q (.int .i64 a1) S (want_b rfl rfl hc183) (by decide) (q_move rfl) (fun a S => ?_)
      refine lx_q (.bool (decide (a1 ≤ x184))) S (want_b rfl rfl hc183) (by decide) (q_geq rfl rfl) (fun a S => ?_)
      refine lq (.bool (decide (a1 ≤ x184))) S (q_pickT' rfl hc183 rfl) fun a S => ?_
      refine lx_nil ?_
      obtain rfl := Option.some.inj hm
      exact ⟨S.sub ⟨rfl, rfl, rfl, rfl, rfl, rfl, trivial⟩, H⟩
     ·have hm := ite_f (eq_false_of_ne_true hc183) e182
      have hc183 : (!x85) = false := eq_false_of_ne_true hc183
      refine lx_skip S rfl rfl (isB_ne hc183) (by decide) (fun a S => ?_)
      refine lx_skip S rfl rfl (isB_ne hc183) (by decide) (fun a S => ?_)
      refine lx_skip S rfl rfl (isB_ne hc183) (by decide) (fun a S => ?_)
      refine lx_skip S rfl rfl (isB_ne hc183) (by decide) (fun a S => ?_)
      refine lx_skip S rfl rfl (isB_ne hc183) (by decide) (fun a S => ?_)
      refine lx_skip S rfl rfl (isB_ne hc183) (by decide) (fun a S => ?_)
      refine lq (.bool false) S (q_pickF' rfl hc183 rfl) fun a S => ?_
      refine lx_nil ?_
      obtain rfl := Option.some.inj hm
      exact ⟨S.sub ⟨rfl, rfl, rfl, rfl, rfl, rfl, trivial⟩, H⟩
    ·rintro a w ⟨S, H⟩
     refine lx_nil (thenN ?_)
     refine cond_b S rfl (fun hc189 => ?_) (fun hc189 => ?_)
     ·have hm := ite_t hc189 hm
      refine wp_seq (region_plain ?_)
      refine lq (.bool true) S (q_assign rfl) fun a S => ?_
      refine lx_nil (thenN ?_)
      refine wp_seq (region_plain ?_)
      refine lq p0 S (q_move rfl) fun a S => ?_
      refine lq (.int .i64 x86) S (q_move rfl) fun a S => ?_
      obtain ⟨x190, e191, hm⟩ := bind_some hm
      obtain ⟨c192, h193, hat194⟩ := (h0).elem (idx_some e191).2
      obtain rfl := h193
      have hlt := lt_of_idx (idx_some e191).2
      refine lq (ePtr p0 (x86.toNat * 1)) S (q_indexAddr rfl (h0).isSl rfl (idx_some e191).1 hlt Tryz.underlying27 Tryz.sizeOf2) fun a S => ?_
      refine lx_e (.int .i64 x190) S trivial (by decide) rfl trivial (q_load1 rfl Tryz.isAgg2 (by rintro _ rfl; exact ((hat194 0 _ rfl).ext H.ext))) (fun a S => ?_)
      refine lq (.int .i64 a1) S (q_move rfl) fun a S => ?_
      refine lq (.bool (decide (a1 < x190))) S (q_gtr rfl rfl) fun a S => ?_
      refine lx_nil (thenN ?_)
      refine cond_b S rfl (fun hc195 => ?_) (fun hc195 => ?_)
      ·have hm := ite_t hc195 hm
       refine region_plain ?_
       refine lq v82 S (q_move rfl) fun a S => ?_
       refine lq (.int .i64 a1) S (q_move rfl) fun a S => ?_
       refine lx_buildSlice (r := (rInt .i64)) (xs := [a1]) (ps := [(0, [(.int .i64 a1)])]) (cs := [(.int .i64 a1)]) (parts := [(0, .tmp 32)]) S trivial (by decide) rfl (H.put0 (A := eA) rfl) rfl Tryz.underlying27 Tryz.sizeOf2 Tryz.zeroValue2 (by decide) ⟨rfl, rfl, Nat.le_of_ble_eq_true rfl, trivial⟩ (by intro zs hz; exact fill_dense hz ⟨rfl, trivial⟩ rfl rfl) rfl (by decide) (fun w F hA => by cases (show F = [] from hA); exact ⟨_, _, [(.int .i64 a1)], _, rfl, rfl, ⟨rfl, rfl⟩, ⟨rfl, rfl⟩⟩) (fun v196 w197 H => ⟨trivial, fun a S => ?_⟩)
       obtain ⟨x199, e200, hm⟩ := bind_some hm
       obtain ⟨hle, hap⟩ := app_some e200
       replace hap := hap.symm
       subst hap
       have H : Heap w0 [oA (rList (rInt .i64)) v196 [a1], oA (rList (rInt .i64)) v82 xs83] w197 := H.front 0 rfl
       have H : Heap w0 [oA (rList (rInt .i64)) v82 xs83, oA (rList (rInt .i64)) v196 [a1]] w197 := H.front 1 rfl
       refine lx_appendOwn (r := (rInt .i64)) S trivial (by decide) rfl H rfl rfl Tryz.underlying27 Tryz.ti2 rfl rfl rfl (Nat.le_of_ble_eq_true rfl) (by decide) hle (fun v201 w202 H => ⟨trivial, fun a S => ?_⟩)
       refine lq v201 S (q_assign rfl) fun a S => ?_
       refine lx_nil ?_
       exact ⟨(xs83 ++ [a1]), true, v201, S.sub ⟨rfl, rfl, rfl, rfl, rfl, trivial⟩, H, hm⟩
      ·have hm := ite_f hc195 hm
       refine wp_skip ?_
       exact ⟨xs83, true, v82, S.sub ⟨rfl, rfl, rfl, rfl, rfl, trivial⟩, H, hm⟩
     ·have hm := ite_f hc189 hm
      refine wp_skip ?_
      exact ⟨xs83, x85, v82, S.sub ⟨rfl, rfl, rfl, rfl, rfl, trivial⟩, H, hm⟩
  ·have hm := ite_f hc161 hm
   refine wp_exit ?_
   refine then_exit ?_
   refine then_exit ?_
   refine inBlock_exit ?_
   obtain rfl := it_brk hm hc160
   exact ⟨xs83, x85, v82, S.sub ⟨rfl, rfl, rfl, trivial⟩, H, rfl⟩

/-- spec.l13Sign -/
def spec_l13Sign_m (fuel : Nat) (a0 : Timpl_Lts) (a1 : (List Int)) (a2 : Int) : Option ((List Int)) :=
  (iter (fun (s : (List Int) × (Int)) => (match s with | (xs118, x120) => (if (decide (x120 < (a0.2.2.2.length : Int))) = true then join (κ := List Int → Option (((List Int) × (Int)) ⊕ (((List Int)) ⊕ ((List Int))))) (fun (xs198 : List Int) => some (.inl (xs198, (W (x120 + (1 : Int)))))) (fun K200 => (idx a0.2.2.2 x120).bind fun x202 => (if (x202.1 == a2) = true then (idx a0.2.2.2 x120).bind fun x218 => (idx a0.2.2.2 x120).bind fun x231 => (idx a1 x231.2.2).bind fun x244 => (spec_l00Put_m fuel xs118 (W ((W (x218.2.1 * (a1.length : Int))) + x244))).bind fun x251 => (K200 x251) else (K200 xs118))) else some (.inr (.inl (xs118)))) : Option (((List Int) × (Int)) ⊕ (((List Int)) ⊕ ((List Int)))))) fuel (([] : List Int), (0 : Int))).bind fun res188 => ctl (β := (List Int)) (ρ := (List Int)) (τ := (List Int)) res188 (fun (xs186) => some (xs186)) (fun q => some (q))
set_option maxRecDepth 20000 in
theorem spec_l13Sign_ok {w0 : World} {fuel : Nat} {p0 p1 : Value} {a0 : Timpl_Lts} {a1 : (List Int)} {a2 : Int} {r : (List Int)} (h0 : Rd (rPtr Rimpl_Lts) w0 p0 a0) (h1 : Rd (rList (rInt .i64)) w0 p1 a1) (hm : spec_l13Sign_m fuel a0 a1 a2 = some r) :
  Calls Tryz.prog 112 #[p0, p1, .int .i64 a2] w0 fun e w => ∃ (v0 : Value), e = .returned (v0) ∧ Heap w0 [oA (rList (rInt .i64)) v0 r] w := by
 unfold spec_l13Sign_m at hm
 have H := Heap.start w0
 obtain ⟨c31, h32, hat33⟩ := h0.ptr
 obtain ⟨c38, c39, rfl, h40, h41⟩ := h32
 obtain rfl := h40
 obtain ⟨c42, c43, rfl, h44, h45⟩ := h41
 obtain rfl := h44
 obtain ⟨c46, c47, rfl, h48, h49⟩ := h45
 obtain ⟨v34, rfl, h35⟩ := rd_list h48
 obtain ⟨v36, rfl, h37⟩ := rd_list h49
 refine enter (args := [p0, p1, .int .i64 a2]) Tryz.func112 rfl 55 rfl (Nat.le_of_ble_eq_true rfl) (fun a S => ?_)
 refine wp_seq (region_plain ?_)
 refine lq (.slice none 0 0) S (q_assign rfl) fun a S => ?_
 refine lx_nil (thenN ?_)
 refine wp_seq (region_plain ?_)
 refine lx_buildSlice0 (r := (rInt .i64)) S trivial (by decide) rfl H Tryz.underlying27 Tryz.sizeOf2 (fun v50 w51 H => ⟨trivial, fun a S => ?_⟩)
 refine lq v50 S (q_assign rfl) fun a S => ?_
 refine lx_nil (thenN ?_)
 refine wp_seq (wp_seq (region_plain ?_))
 refine lq (.int .i64 (0 : Int)) S (q_assign rfl) fun a S => ?_
 refine lx_nil (thenN ?_)
 obtain ⟨res188, hit189, hk192⟩ := bind_some hm
 obtain ⟨f190, hf191, hit189⟩ := iter_name hit189
 refine block_loop (fun a w => ∃ (xs186 : List Int) (v185 : Value), Slots a 55 [(7, v185)] ∧ Heap w0 [oA (rList (rInt .i64)) v185 xs186] w ∧ res188 = .inl (xs186)) ?_ ?_
 ·rintro a w ⟨xs186, v185, S, H, rfl⟩
  have hm := ctl_inl hk192
  refine thenN ?_
  refine wp_seq (region_plain ?_)
  refine lq v185 S (q_move rfl) fun a S => ?_
  refine lq v185 S (q_assign rfl) fun a S => ?_
  refine lx_nil (thenN ?_)
  refine wp_ret ?_
  obtain rfl := Option.some.inj hm
  exact leave1 S rfl rfl ⟨v185, rfl, H⟩
 ·skip
  refine loop_ghost (fun n a w => ∃ (xs118 : List Int) (x120 : Int) (v117 : Value), Slots a 55 [(0, p0), (1, p1), (2, (.int .i64 a2)), (7, v117), (8, (.int .i64 x120))] ∧ Heap w0 [oA (rList (rInt .i64)) v117 xs118] w ∧ iter f190 n (xs118, x120) = some res188) _ ⟨([] : List Int), (0 : Int), v50, S.sub ⟨rfl, rfl, rfl, rfl, rfl, trivial⟩, H, hit189⟩ ?_
  rintro n a w ⟨xs118, x120, v117, S, H, hit189⟩
  obtain ⟨m193, o194, rfl, hm, hc195⟩ := iter_step hit189
  rw [hf191] at hm
  refine wp_seq (wp_seq (region_plain ?_))
  refine lq (.int .i64 x120) S (q_move rfl) fun a S => ?_
  refine lq p0 S (q_move rfl) fun a S => ?_
  refine lq p0 S (q_nilCheck rfl ((hat33 0 _ rfl).isP)) fun a S => ?_
  refine lq (pAdd p0 3) S (q_fieldAddr' 3 30 rfl ((hat33 0 _ rfl).isP) Tryz.underlying32 rfl Tryz.sizeOf30) fun a S => ?_
  refine lx_e v36 S trivial (by decide) rfl trivial (q_load1 rfl Tryz.isAgg30 (by rintro _ rfl; exact (At.of_add (m := 3) (j := 0) ((hat33 3 _ rfl).ext H.ext)))) (fun a S => ?_)
  refine lq (.int .i64 (a0.2.2.2.length : Int)) S (q_lenSl rfl (h37).isSl rfl Tryz.underlying30) fun a S => ?_
  refine lq (.bool (decide (x120 < (a0.2.2.2.length : Int)))) S (q_lss rfl rfl) fun a S => ?_
  refine lx_nil (thenN ?_)
  refine cond_b S rfl (fun hc196 => ?_) (fun hc196 => ?_)
  ·have hm := ite_t hc196 hm
   refine wp_skip (thenN ?_)
   obtain ⟨K200, hK201, hm⟩ := join_elim hm
   refine seq_cut (fun a w => ∃ (xs198 : List Int) (v197 : Value), Slots a 55 [(0, p0), (1, p1), (2, (.int .i64 a2)), (7, v197), (8, (.int .i64 x120))] ∧ Heap w0 [oA (rList (rInt .i64)) v197 xs198] w ∧ K200 xs198 = some o194) ?_ ?_
   ·rintro a w ⟨xs198, v197, S, H, hm⟩
    subst hK201
    refine region_plain ?_
    refine lq (.int .i64 x120) S (q_move rfl) fun a S => ?_
    refine lq (.int .i64 (W (x120 + (1 : Int)))) S (q_add rfl rfl) fun a S => ?_
    refine lq (.int .i64 (W (x120 + (1 : Int)))) S (q_assign rfl) fun a S => ?_
    refine lx_nil ?_
    exact ⟨m193, Nat.lt_succ_self _, xs198, (W (x120 + (1 : Int))), v197, S.sub ⟨rfl, rfl, rfl, rfl, rfl, trivial⟩, H, it_cont hm hc195⟩
   ·skip
    refine wp_block ?_
    refine wp_seq (region_plain ?_)
    refine lq p0 S (q_move rfl) fun a S => ?_
    refine lq p0 S (q_nilCheck rfl ((hat33 0 _ rfl).isP)) fun a S => ?_
    refine lq (pAdd p0 3) S (q_fieldAddr' 3 30 rfl ((hat33 0 _ rfl).isP) Tryz.underlying32 rfl Tryz.sizeOf30) fun a S => ?_
    refine lx_e v36 S trivial (by decide) rfl trivial (q_load1 rfl Tryz.isAgg30 (by rintro _ rfl; exact (At.of_add (m := 3) (j := 0) ((hat33 3 _ rfl).ext H.ext)))) (fun a S => ?_)
    refine lq (.int .i64 x120) S (q_move rfl) fun a S => ?_
    obtain ⟨x202, e203, hm⟩ := bind_some hm
    obtain ⟨c204, h205, hat206⟩ := (h37).elem (idx_some e203).2
    obtain ⟨c207, c208, rfl, h209, h210⟩ := h205
    obtain rfl := h209
    obtain ⟨c211, c212, rfl, h213, h214⟩ := h210
    obtain rfl := h213
    obtain rfl := h214
    have hlt := lt_of_idx (idx_some e203).2
    refine lq (ePtr v36 (x120.toNat * 3)) S (q_indexAddr rfl (h37).isSl rfl (idx_some e203).1 hlt Tryz.underlying30 Tryz.sizeOf86) fun a S => ?_
    refine lq (pAdd (ePtr v36 (x120.toNat * 3)) 0) S (q_fieldAddr' 0 2 rfl ((hat206 0 _ rfl).isP) Tryz.underlying86 rfl Tryz.sizeOf2) fun a S => ?_
    refine lx_e (.int .i64 x202.1) S trivial (by decide) rfl trivial (q_load1 rfl Tryz.isAgg2 (by rintro _ rfl; exact (At.of_add (m := 0) (j := 0) ((hat206 0 _ rfl).ext H.ext)))) (fun a S => ?_)
    refine lq (.int .i64 a2) S (q_move rfl) fun a S => ?_
    refine lq (.bool (x202.1 == a2)) S (q_eql rfl rfl) fun a S => ?_
    refine lx_nil (thenN ?_)
    refine cond_b S rfl (fun hc215 => ?_) (fun hc215 => ?_)
    ·have hm := ite_t hc215 hm
     refine region_drawG (fun w1 => Heap w0 [] w1) (fun i => [24].contains i) mixed (by kernel_rfl) (fun w217 he216 => ?_)
     have H := H.later he216
     refine ⟨H.sel [] (by decide), ?_⟩
     refine lq v117 S (q_move rfl) fun a S => ?_
     refine lq p0 S (q_move rfl) fun a S => ?_
     refine lq p0 S (q_nilCheck rfl ((hat33 0 _ rfl).isP)) fun a S => ?_
     refine lq (pAdd p0 3) S (q_fieldAddr' 3 30 rfl ((hat33 0 _ rfl).isP) Tryz.underlying32 rfl Tryz.sizeOf30) fun a S => ?_
     refine lq v36 S (q_load1 rfl Tryz.isAgg30 (fun w1 hC => (At.of_add (m := 3) (j := 0) ((hat33 3 _ rfl).ext hC.ext)))) fun a S => ?_
     refine lq (.int .i64 x120) S (q_move rfl) fun a S => ?_
     obtain ⟨x218, e219, hm⟩ := bind_some hm
     obtain ⟨c220, h221, hat222⟩ := (h37).elem (idx_some e219).2
     obtain ⟨c223, c224, rfl, h225, h226⟩ := h221
     obtain rfl := h225
     obtain ⟨c227, c228, rfl, h229, h230⟩ := h226
     obtain rfl := h229
     obtain rfl := h230
     have hlt := lt_of_idx (idx_some e219).2
     refine lq (ePtr v36 (x120.toNat * 3)) S (q_indexAddr rfl (h37).isSl rfl (idx_some e219).1 hlt Tryz.underlying30 Tryz.sizeOf86) fun a S => ?_
     refine lq (pAdd (ePtr v36 (x120.toNat * 3)) 1) S (q_fieldAddr' 1 2 rfl ((hat222 0 _ rfl).isP) Tryz.underlying86 rfl Tryz.sizeOf2) fun a S => ?_
     refine lq (.int .i64 x218.2.1) S (q_load1 rfl Tryz.isAgg2 (fun w1 hC => (At.of_add (m := 1) (j := 0) ((hat222 1 _ rfl).ext hC.ext)))) fun a S => ?_
     refine lq p1 S (q_move rfl) fun a S => ?_
     refine lq (.int .i64 (a1.length : Int)) S (q_lenSl rfl (h1).isSl rfl Tryz.underlying27) fun a S => ?_
     refine lq (.int .i64 (W (x218.2.1 * (a1.length : Int)))) S (q_mul rfl rfl) fun a S => ?_
     refine lq p1 S (q_move rfl) fun a S => ?_
     refine lq p0 S (q_move rfl) fun a S => ?_
     refine lq p0 S (q_nilCheck rfl ((hat33 0 _ rfl).isP)) fun a S => ?_
     refine lq (pAdd p0 3) S (q_fieldAddr' 3 30 rfl ((hat33 0 _ rfl).isP) Tryz.underlying32 rfl Tryz.sizeOf30) fun a S => ?_
     refine lq v36 S (q_load1 rfl Tryz.isAgg30 (fun w1 hC => (At.of_add (m := 3) (j := 0) ((hat33 3 _ rfl).ext hC.ext)))) fun a S => ?_
     refine lq (.int .i64 x120) S (q_move rfl) fun a S => ?_
     obtain ⟨x231, e232, hm⟩ := bind_some hm
     obtain ⟨c233, h234, hat235⟩ := (h37).elem (idx_some e232).2
     obtain ⟨c236, c237, rfl, h238, h239⟩ := h234
     obtain rfl := h238
     obtain ⟨c240, c241, rfl, h242, h243⟩ := h239
     obtain rfl := h242
     obtain rfl := h243
     have hlt := lt_of_idx (idx_some e232).2
     refine lq (ePtr v36 (x120.toNat * 3)) S (q_indexAddr rfl (h37).isSl rfl (idx_some e232).1 hlt Tryz.underlying30 Tryz.sizeOf86) fun a S => ?_
     refine lq (pAdd (ePtr v36 (x120.toNat * 3)) 2) S (q_fieldAddr' 2 2 rfl ((hat235 0 _ rfl).isP) Tryz.underlying86 rfl Tryz.sizeOf2) fun a S => ?_
     refine lq (.int .i64 x231.2.2) S (q_load1 rfl Tryz.isAgg2 (fun w1 hC => (At.of_add (m := 2) (j := 0) ((hat235 2 _ rfl).ext hC.ext)))) fun a S => ?_
     obtain ⟨x244, e245, hm⟩ := bind_some hm
     obtain ⟨c246, h247, hat248⟩ := (h1).elem (idx_some e245).2
     obtain rfl := h247
     have hlt := lt_of_idx (idx_some e245).2
     refine lq (ePtr p1 (x231.2.2.toNat * 1)) S (q_indexAddr rfl (h1).isSl rfl (idx_some e245).1 hlt Tryz.underlying27 Tryz.sizeOf2) fun a S => ?_
     refine lq (.int .i64 x244) S (q_load1 rfl Tryz.isAgg2 (fun w1 hC => ((hat248 0 _ rfl).ext hC.ext))) fun a S => ?_
     refine lq (.int .i64 (W ((W (x218.2.1 * (a1.length : Int))) + x244))) S (q_add rfl rfl) fun a S => ?_
     obtain ⟨x251, e252, hm⟩ := bind_some hm
     refine lx_call (xs := [.tmp 29, .tmp 52]) S trivial (by decide) rfl rfl Tryz.call138 ((spec_l00Put_ok (H.rdAt 0 rfl)  e252).mono ?_)
     rintro e w249 ⟨v253, rfl, Hc250⟩
     have H := H.call1 Hc250
     refine ⟨_, rfl, H.sel [] (by decide), fun a S => ?_⟩
     refine lq v253 S (q_assign rfl) fun a S => ?_
     refine lx_nil ?_
     refine inBlock_norm ?_
     have H : Heap w0 [oA (rList (rInt .i64)) v253 x251] w249 := H.sel [0] (by decide)
     exact ⟨x251, v253, S.sub ⟨rfl, rfl, rfl, rfl, rfl, trivial⟩, H, hm⟩
    ·have hm := ite_f hc215 hm
     refine wp_skip ?_
     refine inBlock_norm ?_
     exact ⟨xs118, v117, S.sub ⟨rfl, rfl, rfl, rfl, rfl, trivial⟩, H, hm⟩
  ·have hm := ite_f hc196 hm
   refine wp_exit ?_
   refine then_exit ?_
   refine then_exit ?_
   refine inBlock_exit ?_
   obtain rfl := it_brk hm hc195
   exact ⟨xs118, v117, S.sub ⟨rfl, trivial⟩, H, rfl⟩

/-- spec.l13Refine -/
def spec_l13Refine_m (fuel : Nat) (a0 : Timpl_Lts) (a1 : (List Int)) : Option ((List Int)) :=
  (iter (fun (s : (List (List Int)) × (Int)) => (match s with | (xs74, x76) => (if (decide (x76 < a0.1)) = true then (spec_l13Sign_m fuel a0 a1 x76).bind fun x653 => (app xs74 [x653]).bind fun x661 => some (.inl (x661, (W (x76 + (1 : Int))))) else some (.inr (.inl (xs74)))) : Option (((List (List Int)) × (Int)) ⊕ (((List (List Int))) ⊕ ((List Int)))))) fuel (([] : List (List Int)), (0 : Int))).bind fun res100 => ctl (β := (List (List Int))) (ρ := (List Int)) (τ := (List Int)) res100 (fun (xs98) => (iter (fun (s : (List Int) × (Int) × (Int)) => (match s with | (xs287, x289, x290) => (if (decide (x290 < (a1.length : Int))) = true then (iter (fun (s : (Int) × (Int)) => (match s with | (x527, x528) => (if (decide (x528 < x290)) = true then some (decide (x527 < (0 : Int))) else some false).bind fun t600 => (if t600 = true then join (κ := Int → Option (((Int) × (Int)) ⊕ ((Int) ⊕ ((List Int))))) (fun (x604 : Int) => some (.inl (x604, (W (x528 + (1 : Int)))))) (fun K605 => (idx a1 x528).bind fun x609 => (idx a1 x290).bind fun x614 => (if (x609 == x614) = true then (idx xs98 x528).bind fun x622 => (idx xs98 x290).bind fun x629 => (spec_l00Same_m fuel x622 x629).bind fun x638 => some x638 else some false).bind fun t619 => (if t619 = true then (idx xs287 x528).bind fun x642 => (K605 x642) else (K605 x527))) else some (.inr (.inl (x527)))) : Option (((Int) × (Int)) ⊕ ((Int) ⊕ ((List Int)))))) fuel ((-1 : Int), (0 : Int))).bind fun res579 => ctl (β := Int) (ρ := (List Int)) (τ := (((List Int) × (Int) × (Int)) ⊕ (((List Int)) ⊕ ((List Int))))) res579 (fun (x578) => join (κ := Int → Int → Option (((List Int) × (Int) × (Int)) ⊕ (((List Int)) ⊕ ((List Int))))) (fun (x584 : Int) (x585 : Int) => (app xs287 [x585]).bind fun x591 => some (.inl (x591, x584, (W (x290 + (1 : Int)))))) (fun K586 => (if (decide (x578 < (0 : Int))) = true then (K586 (W (x289 + (1 : Int))) x289) else (K586 x289 x578)))) (fun q => some (.inr (.inr q))) else some (.inr (.inl (xs287)))) : Option (((List Int) × (Int) × (Int)) ⊕ (((List Int)) ⊕ ((List Int)))))) fuel (([] : List Int), (0 : Int), (0 : Int))).bind fun res469 => ctl (β := (List Int)) (ρ := (List Int)) (τ := (List Int)) res469 (fun (xs467) => some (xs467)) (fun q => some (q))) (fun q => some (q))
set_option maxRecDepth 20000 in
theorem spec_l13Refine_ok {w0 : World} {fuel : Nat} {p0 p1 : Value} {a0 : Timpl_Lts} {a1 : (List Int)} {r : (List Int)} (h0 : Rd (rPtr Rimpl_Lts) w0 p0 a0) (h1 : Rd (rList (rInt .i64)) w0 p1 a1) (hm : spec_l13Refine_m fuel a0 a1 = some r) :
  Calls Tryz.prog 83 #[p0, p1] w0 fun e w => ∃ (v0 : Value), e = .returned (v0) ∧ Heap w0 [oA (rList (rInt .i64)) v0 r] w := by
 unfold spec_l13Refine_m at hm
 have H := Heap.start w0
 obtain ⟨c31, h32, hat33⟩ := h0.ptr
 obtain ⟨c38, c39, rfl, h40, h41⟩ := h32
 obtain rfl := h40
 obtain ⟨c42, c43, rfl, h44, h45⟩ := h41
 obtain rfl := h44
 obtain ⟨c46, c47, rfl, h48, h49⟩ := h45
 obtain ⟨v34, rfl, h35⟩ := rd_list h48
 obtain ⟨v36, rfl, h37⟩ := rd_list h49
 refine enter (args := [p0, p1]) Tryz.func83 rfl 78 rfl (Nat.le_of_ble_eq_true rfl) (fun a S => ?_)
 refine wp_seq (region_plain ?_)
 refine lq (.slice none 0 0) S (q_assign rfl) fun a S => ?_
 refine lx_nil (thenN ?_)
 refine wp_seq (region_plain ?_)
 refine lx_buildSlice0 (r := (rList (rInt .i64))) S trivial (by decide) rfl H Tryz.underlying63 Tryz.sizeOf27 (fun v50 w51 H => ⟨trivial, fun a S => ?_⟩)
 refine lq v50 S (q_assign rfl) fun a S => ?_
 refine lx_nil (thenN ?_)
 refine wp_seq (wp_seq (region_plain ?_))
 refine lq (.int .i64 (0 : Int)) S (q_assign rfl) fun a S => ?_
 refine lx_nil (thenN ?_)
 obtain ⟨res100, hit101, hk104⟩ := bind_some hm
 obtain ⟨f102, hf103, hit101⟩ := iter_name hit101
 refine block_loop (fun a w => ∃ (xs98 : List (List Int)) (v97 : Value), Slots a 78 [(1, p1), (5, v97)] ∧ Heap w0 [oA (rList (rList (rInt .i64))) v97 xs98] w ∧ res100 = .inl (xs98)) ?_ ?_
 ·rintro a w ⟨xs98, v97, S, H, rfl⟩
  have hm := ctl_inl hk104
  refine thenN ?_
  refine wp_seq ?_
  obtain ⟨w105, rfl⟩ : ∃ x, x = w := ⟨w, rfl⟩
  have H0 := H
  have hb106 : Rd (rList (rList (rInt .i64))) w105 v97 xs98 := H0.rdAt 0 rfl
  have h107 := H0.arg h1
  have H := Heap.start w105
  refine region_plain ?_
  refine lx_buildSlice0 (r := (rInt .i64)) S trivial (by decide) rfl H Tryz.underlying27 Tryz.sizeOf2 (fun v108 w109 H => ⟨trivial, fun a S => ?_⟩)
  refine lq v108 S (q_assign rfl) fun a S => ?_
  refine lx_nil (thenN ?_)
  refine wp_seq (region_plain ?_)
  refine lq (.int .i64 (0 : Int)) S (q_assign rfl) fun a S => ?_
  refine lx_nil (thenN ?_)
  refine wp_seq (wp_seq (region_plain ?_))
  refine lq (.int .i64 (0 : Int)) S (q_assign rfl) fun a S => ?_
  refine lx_nil (thenN ?_)
  obtain ⟨res469, hit470, hk473⟩ := bind_some hm
  obtain ⟨f471, hf472, hit470⟩ := iter_name hit470
  refine block_loop (fun a w => ∃ (xs467 : List Int) (v466 : Value), Slots a 78 [(7, v466)] ∧ Heap w105 [oA (rList (rInt .i64)) v466 xs467] w ∧ res469 = .inl (xs467)) ?_ ?_
  ·rintro a w ⟨xs467, v466, S, H, rfl⟩
   have hm := ctl_inl hk473
   refine thenN ?_
   refine wp_seq (region_plain ?_)
   refine lq v466 S (q_move rfl) fun a S => ?_
   refine lq v466 S (q_assign rfl) fun a S => ?_
   refine lx_nil (thenN ?_)
   refine wp_ret ?_
   obtain rfl := Option.some.inj hm
   have H : Heap w0 [oA (rList (rInt .i64)) v466 xs467, oA (rList (rList (rInt .i64))) v97 xs98] w := H0.call H
   have H : Heap w0 [oA (rList (rInt .i64)) v466 xs467] w := H.sel [0] (by decide)
   exact leave1 S rfl rfl ⟨v466, rfl, H⟩
  ·skip
   refine loop_ghost (fun n a w => ∃ (xs287 : List Int) (x289 : Int) (x290 : Int) (v286 : Value), Slots a 78 [(1, p1), (5, v97), (7, v286), (8, (.int .i64 x289)), (9, (.int .i64 x290))] ∧ Heap w105 [oA (rList (rInt .i64)) v286 xs287] w ∧ iter f471 n (xs287, x289, x290) = some res469) _ ⟨([] : List Int), (0 : Int), (0 : Int), v108, S.sub ⟨rfl, rfl, rfl, rfl, rfl, trivial⟩, H, hit470⟩ ?_
   rintro n a w ⟨xs287, x289, x290, v286, S, H, hit470⟩
   obtain ⟨m474, o475, rfl, hm, hc476⟩ := iter_step hit470
   rw [hf472] at hm
   refine wp_seq (wp_seq (region_plain ?_))
   refine lq (.int .i64 x290) S (q_move rfl) fun a S => ?_
   refine lq p1 S (q_move rfl) fun a S => ?_
   refine lq (.int .i64 (a1.length : Int)) S (q_lenSl rfl (h107).isSl rfl Tryz.underlying27) fun a S => ?_
   refine lq (.bool (decide (x290 < (a1.length : Int)))) S (q_lss rfl rfl) fun a S => ?_
   refine lx_nil (thenN ?_)
   refine cond_b S rfl (fun hc477 => ?_) (fun hc477 => ?_)
   ·have hm := ite_t hc477 hm
    refine wp_skip (thenN ?_)
    refine wp_seq ?_
    refine wp_block ?_
    refine wp_seq (region_plain ?_)
    refine lq (.int .i64 (-1 : Int)) S (q_assign rfl) fun a S => ?_
    refine lx_nil (thenN ?_)
    refine wp_seq (wp_seq (region_plain ?_))
    refine lq (.int .i64 (0 : Int)) S (q_assign rfl) fun a S => ?_
    refine lx_nil (thenN ?_)
    obtain ⟨res579, hit580, hk583⟩ := bind_some hm
    obtain ⟨f581, hf582, hit580⟩ := iter_name hit580
    refine block_loop (fun a w => ∃ (x578 : Int), Slots a 78 [(1, p1), (5, v97), (7, v286), (8, (.int .i64 x289)), (9, (.int .i64 x290)), (10, (.int .i64 x578))] ∧ Heap w105 [oA (rList (rInt .i64)) v286 xs287] w ∧ res579 = .inl (x578)) ?_ ?_
    ·rintro a w ⟨x578, S, H, rfl⟩
     have hm := ctl_inl hk583
     refine thenN ?_
     obtain ⟨K586, hK587, hm⟩ := join_elim hm
     refine seq_cut (fun a w => ∃ (x584 : Int) (x585 : Int), Slots a 78 [(1, p1), (5, v97), (7, v286), (8, (.int .i64 x584)), (9, (.int .i64 x290)), (10, (.int .i64 x585))] ∧ Heap w105 [oA (rList (rInt .i64)) v286 xs287] w ∧ K586 x584 x585 = some o475) ?_ ?_
     ·rintro a w ⟨x584, x585, S, H, hm⟩
      subst hK587
      refine region_plain ?_
      refine lq v286 S (q_move rfl) fun a S => ?_
      refine lq (.int .i64 x585) S (q_move rfl) fun a S => ?_
      refine lx_buildSlice (r := (rInt .i64)) (xs := [x585]) (ps := [(0, [(.int .i64 x585)])]) (cs := [(.int .i64 x585)]) (parts := [(0, .tmp 74)]) S trivial (by decide) rfl (H.put0 (A := eA) rfl) rfl Tryz.underlying27 Tryz.sizeOf2 Tryz.zeroValue2 (by decide) ⟨rfl, rfl, Nat.le_of_ble_eq_true rfl, trivial⟩ (by intro zs hz; exact fill_dense hz ⟨rfl, trivial⟩ rfl rfl) rfl (by decide) (fun w F hA => by cases (show F = [] from hA); exact ⟨_, _, [(.int .i64 x585)], _, rfl, rfl, ⟨rfl, rfl⟩, ⟨rfl, rfl⟩⟩) (fun v588 w589 H => ⟨trivial, fun a S => ?_⟩)
      obtain ⟨x591, e592, hm⟩ := bind_some hm
      obtain ⟨hle, hap⟩ := app_some e592
      replace hap := hap.symm
      subst hap
      have H : Heap w105 [oA (rList (rInt .i64)) v588 [x585], oA (rList (rInt .i64)) v286 xs287] w589 := H.front 0 rfl
      have H : Heap w105 [oA (rList (rInt .i64)) v286 xs287, oA (rList (rInt .i64)) v588 [x585]] w589 := H.front 1 rfl
      refine lx_appendOwn (r := (rInt .i64)) S trivial (by decide) rfl H rfl rfl Tryz.underlying27 Tryz.ti2 rfl rfl rfl (Nat.le_of_ble_eq_true rfl) (by decide) hle (fun v593 w594 H => ⟨trivial, fun a S => ?_⟩)
      refine lq v593 S (q_assign rfl) fun a S => ?_
      refine lx_nil ?_
      refine inBlock_norm ?_
      refine thenN ?_
      refine region_plain ?_
      refine lq (.int .i64 x290) S (q_move rfl) fun a S => ?_
      refine lq (.int .i64 (W (x290 + (1 : Int)))) S (q_add rfl rfl) fun a S => ?_
      refine lq (.int .i64 (W (x290 + (1 : Int)))) S (q_assign rfl) fun a S => ?_
      refine lx_nil ?_
      exact ⟨m474, Nat.lt_succ_self _, (xs287 ++ [x585]), x584, (W (x290 + (1 : Int))), v593, S.sub ⟨rfl, rfl, rfl, rfl, rfl, trivial⟩, H, it_cont hm hc476⟩
     ·skip
      refine wp_seq (region_plain ?_)
      refine lq (.int .i64 x578) S (q_move rfl) fun a S => ?_
      refine lq (.bool (decide (x578 < (0 : Int)))) S (q_lss rfl rfl) fun a S => ?_
      refine lx_nil (thenN ?_)
      refine cond_b S rfl (fun hc596 => ?_) (fun hc596 => ?_)
      ·have hm := ite_t hc596 hm
       refine wp_seq (region_plain ?_)
       refine lq (.int .i64 x289) S (q_move rfl) fun a S => ?_
       refine lq (.int .i64 x289) S (q_assign rfl) fun a S => ?_
       refine lx_nil (thenN ?_)
       refine region_plain ?_
       refine lq (.int .i64 x289) S (q_move rfl) fun a S => ?_
       refine lq (.int .i64 (W (x289 + (1 : Int)))) S (q_add rfl rfl) fun a S => ?_
       refine lq (.int .i64 (W (x289 + (1 : Int)))) S (q_assign rfl) fun a S => ?_
       refine lx_nil ?_
       exact ⟨(W (x289 + (1 : Int))), x289, S.sub ⟨rfl, rfl, rfl, rfl, rfl, rfl, trivial⟩, H, hm⟩
      ·have hm := ite_f hc596 hm
       refine wp_skip ?_
       exact ⟨x289, x578, S.sub ⟨rfl, rfl, rfl, rfl, rfl, rfl, trivial⟩, H, hm⟩
    ·skip
     refine loop_ghost (fun n a w => ∃ (x527 : Int) (x528 : Int), Slots a 78 [(1, p1), (5, v97), (7, v286), (8, (.int .i64 x289)), (9, (.int .i64 x290)), (10, (.int .i64 x527)), (11, (.int .i64 x528))] ∧ Heap w105 [oA (rList (rInt .i64)) v286 xs287] w ∧ iter f581 n (x527, x528) = some res579) _ ⟨(-1 : Int), (0 : Int), S.sub ⟨rfl, rfl, rfl, rfl, rfl, rfl, rfl, trivial⟩, H, hit580⟩ ?_
     rintro n a w ⟨x527, x528, S, H, hit580⟩
     obtain ⟨m597, o598, rfl, hm, hc599⟩ := iter_step hit580
     rw [hf582] at hm
     refine wp_seq (wp_seq (region_plain ?_))
     refine lq (.int .i64 x528) S (q_move rfl) fun a S => ?_
     refine lq (.int .i64 x290) S (q_move rfl) fun a S => ?_
     refine lq (.bool (decide (x528 < x290))) S (q_lss rfl rfl) fun a S => ?_
     refine lq (.bool (decide (x528 < x290))) S (q_move rfl) fun a S => ?_
     obtain ⟨t600, e601, hm⟩ := bind_some hm
     refine lx_cut 3 (fun a w => Slots a 78 [(1, p1), (5, v97), (7, v286), (8, (.int .i64 x289)), (9, (.int .i64 x290)), (10, (.int .i64 x527)), (11, (.int .i64 x528)), (41, (.bool t600))] ∧ Heap w105 [oA (rList (rInt .i64)) v286 xs287] w) ?_ ?_
     ·by_cases hc602 : (decide (x528 < x290)) = true
      ·have hm := ite_t hc602 e601
       refine lx_q (.int .i64 x527) S (want_b rfl rfl hc602) (by decide) (q_move rfl) (fun a S => ?_)
       refine lx_q (.bool (decide (x527 < (0 : Int)))) S (want_b rfl rfl hc602) (by decide) (q_lss rfl rfl) (fun a S => ?_)
       refine lq (.bool (decide (x527 < (0 : Int)))) S (q_pickT' rfl hc602 rfl) fun a S => ?_
       refine lx_nil ?_
       obtain rfl := Option.some.inj hm
       exact ⟨S.sub ⟨rfl, rfl, rfl, rfl, rfl, rfl, rfl, rfl, trivial⟩, H⟩
      ·have hm := ite_f (eq_false_of_ne_true hc602) e601
       have hc602 : (decide (x528 < x290)) = false := eq_false_of_ne_true hc602
       refine lx_skip S rfl rfl (isB_ne hc602) (by decide) (fun a S => ?_)
       refine lx_skip S rfl rfl (isB_ne hc602) (by decide) (fun a S => ?_)
       refine lq (.bool false) S (q_pickF' rfl hc602 rfl) fun a S => ?_
       refine lx_nil ?_
       obtain rfl := Option.some.inj hm
       exact ⟨S.sub ⟨rfl, rfl, rfl, rfl, rfl, rfl, rfl, rfl, trivial⟩, H⟩
     ·rintro a w ⟨S, H⟩
      refine lx_nil (thenN ?_)
      refine cond_b S rfl (fun hc603 => ?_) (fun hc603 => ?_)
      ·have hm := ite_t hc603 hm
       refine wp_skip (thenN ?_)
       obtain ⟨K605, hK606, hm⟩ := join_elim hm
       refine seq_cut (fun a w => ∃ (x604 : Int), Slots a 78 [(1, p1), (5, v97), (7, v286), (8, (.int .i64 x289)), (9, (.int .i64 x290)), (10, (.int .i64 x604)), (11, (.int .i64 x528))] ∧ Heap w105 [oA (rList (rInt .i64)) v286 xs287] w ∧ K605 x604 = some o598) ?_ ?_
       ·rintro a w ⟨x604, S, H, hm⟩
        subst hK606
        refine region_plain ?_
        refine lq (.int .i64 x528) S (q_move rfl) fun a S => ?_
        refine lq (.int .i64 (W (x528 + (1 : Int)))) S (q_add rfl rfl) fun a S => ?_
        refine lq (.int .i64 (W (x528 + (1 : Int)))) S (q_assign rfl) fun a S => ?_
        refine lx_nil ?_
        exact ⟨m597, Nat.lt_succ_self _, x604, (W (x528 + (1 : Int))), S.sub ⟨rfl, rfl, rfl, rfl, rfl, rfl, rfl, trivial⟩, H, it_cont hm hc599⟩
       ·skip
        refine wp_block ?_
        refine wp_seq ?_
        refine region_drawG (fun w1 => Heap w105 [] w1) (fun i => [18].contains i) mixed (by kernel_rfl) (fun w608 he607 => ?_)
        have H := H.later he607
        refine ⟨H.sel [] (by decide), ?_⟩
        refine lq p1 S (q_move rfl) fun a S => ?_
        refine lq (.int .i64 x528) S (q_move rfl) fun a S => ?_
        obtain ⟨x609, e610, hm⟩ := bind_some hm
        obtain ⟨c611, h612, hat613⟩ := (h107).elem (idx_some e610).2
        obtain rfl := h612
        have hlt := lt_of_idx (idx_some e610).2
        refine lq (ePtr p1 (x528.toNat * 1)) S (q_indexAddr rfl (h107).isSl rfl (idx_some e610).1 hlt Tryz.underlying27 Tryz.sizeOf2) fun a S => ?_
        refine lq (.int .i64 x609) S (q_load1 rfl Tryz.isAgg2 (fun w1 hC => ((hat613 0 _ rfl).ext hC.ext))) fun a S => ?_
        refine lq p1 S (q_move rfl) fun a S => ?_
        refine lq (.int .i64 x290) S (q_move rfl) fun a S => ?_
        obtain ⟨x614, e615, hm⟩ := bind_some hm
        obtain ⟨c616, h617, hat618⟩ := (h107).elem (idx_some e615).2
        obtain rfl := h617
        have hlt := lt_of_idx (idx_some e615).2
        refine lq (ePtr p1 (x290.toNat * 1)) S (q_indexAddr rfl (h107).isSl rfl (idx_some e615).1 hlt Tryz.underlying27 Tryz.sizeOf2) fun a S => ?_
        refine lq (.int .i64 x614) S (q_load1 rfl Tryz.isAgg2 (fun w1 hC => ((hat618 0 _ rfl).ext hC.ext))) fun a S => ?_
        refine lq (.bool (x609 == x614)) S (q_eql rfl rfl) fun a S => ?_
        refine lq (.bool (x609 == x614)) S (q_move rfl) fun a S => ?_
        obtain ⟨t619, e620, hm⟩ := bind_some hm
        refine lx_cut 10 (fun a w => Slots a 78 [(1, p1), (5, v97), (7, v286), (8, (.int .i64 x289)), (9, (.int .i64 x290)), (10, (.int .i64 x527)), (11, (.int .i64 x528)), (63, (.bool t619))] ∧ Heap w105 [oA (rList (rInt .i64)) v286 xs287] w) ?_ ?_
        ·by_cases hc621 : (x609 == x614) = true
         ·have hm := ite_t hc621 e620
          refine lx_q v97 S (want_b rfl rfl hc621) (by decide) (q_move rfl) (fun a S => ?_)
          refine lx_q (.int .i64 x528) S (want_b rfl rfl hc621) (by decide) (q_move rfl) (fun a S => ?_)
          obtain ⟨x622, e623, hm⟩ := bind_some hm
          obtain ⟨c624, h625, hat626⟩ := (hb106).elem (idx_some e623).2
          obtain ⟨v627, rfl, h628⟩ := rd_list h625
          have hlt := lt_of_idx (idx_some e623).2
          refine lx_q (ePtr v97 (x528.toNat * 1)) S (want_b rfl rfl hc621) (by decide) (q_indexAddr rfl (hb106).isSl rfl (idx_some e623).1 hlt Tryz.underlying63 Tryz.sizeOf27) (fun a S => ?_)
          refine lx_q v627 S (want_b rfl rfl hc621) (by decide) (q_load1 rfl Tryz.isAgg27 (fun w1 hC => ((hat626 0 _ rfl).ext hC.ext))) (fun a S => ?_)
          refine lx_q v97 S (want_b rfl rfl hc621) (by decide) (q_move rfl) (fun a S => ?_)
          refine lx_q (.int .i64 x290) S (want_b rfl rfl hc621) (by decide) (q_move rfl) (fun a S => ?_)
          obtain ⟨x629, e630, hm⟩ := bind_some hm
          obtain ⟨c631, h632, hat633⟩ := (hb106).elem (idx_some e630).2
          obtain ⟨v634, rfl, h635⟩ := rd_list h632
          have hlt := lt_of_idx (idx_some e630).2
          refine lx_q (ePtr v97 (x290.toNat * 1)) S (want_b rfl rfl hc621) (by decide) (q_indexAddr rfl (hb106).isSl rfl (idx_some e630).1 hlt Tryz.underlying63 Tryz.sizeOf27) (fun a S => ?_)
          refine lx_q v634 S (want_b rfl rfl hc621) (by decide) (q_load1 rfl Tryz.isAgg27 (fun w1 hC => ((hat633 0 _ rfl).ext hC.ext))) (fun a S => ?_)
          obtain ⟨x638, e639, hm⟩ := bind_some hm
          refine lx_call (xs := [.tmp 57, .tmp 61]) S (want_b rfl rfl hc621) (by decide) rfl rfl Tryz.call84 ((spec_l00Same_ok (H.arg h628) (H.arg h635) e639).mono ?_)
          rintro e w636 ⟨rfl, Hc637⟩
          have H := H.call0 Hc637
          refine ⟨_, rfl, H.sel [] (by decide), fun a S => ?_⟩
          refine lq (.bool x638) S (q_pickT' rfl hc621 rfl) fun a S => ?_
          refine lx_nil ?_
          obtain rfl := Option.some.inj hm
          exact ⟨S.sub ⟨rfl, rfl, rfl, rfl, rfl, rfl, rfl, rfl, trivial⟩, H⟩
         ·have hm := ite_f (eq_false_of_ne_true hc621) e620
          have hc621 : (x609 == x614) = false := eq_false_of_ne_true hc621
          refine lx_skip S rfl rfl (isB_ne hc621) (by decide) (fun a S => ?_)
          refine lx_skip S rfl rfl (isB_ne hc621) (by decide) (fun a S => ?_)
          refine lx_skip S rfl rfl (isB_ne hc621) (by decide) (fun a S => ?_)
          refine lx_skip S rfl rfl (isB_ne hc621) (by decide) (fun a S => ?_)
          refine lx_skip S rfl rfl (isB_ne hc621) (by decide) (fun a S => ?_)
          refine lx_skip S rfl rfl (isB_ne hc621) (by decide) (fun a S => ?_)
          refine lx_skip S rfl rfl (isB_ne hc621) (by decide) (fun a S => ?_)
          refine lx_skip S rfl rfl (isB_ne hc621) (by decide) (fun a S => ?_)
          refine lx_skip S rfl rfl (isB_ne hc621) (by decide) (fun a S => ?_)
          refine lq (.bool false) S (q_pickF' rfl hc621 rfl) fun a S => ?_
          refine lx_nil ?_
          obtain rfl := Option.some.inj hm
          exact ⟨S.sub ⟨rfl, rfl, rfl, rfl, rfl, rfl, rfl, rfl, trivial⟩, H⟩
        ·rintro a w ⟨S, H⟩
         refine lx_nil (thenN ?_)
         refine cond_b S rfl (fun hc641 => ?_) (fun hc641 => ?_)
         ·have hm := ite_t hc641 hm
          refine region_plain ?_
          refine lq v286 S (q_move rfl) fun a S => ?_
          refine lq (.int .i64 x528) S (q_move rfl) fun a S => ?_
          obtain ⟨x642, e643, hm⟩ := bind_some hm
          have hlt := lt_of_idx (idx_some e643).2
          refine lq (ePtr v286 (x528.toNat * 1)) S (q_indexAddr rfl (H.isSl 0 rfl) rfl (idx_some e643).1 hlt Tryz.underlying27 Tryz.sizeOf2) fun a S => ?_
          obtain ⟨c644, h645, hat646⟩ := (H.rdAt 0 rfl).elem (idx_some e643).2
          obtain rfl := h645
          refine lx_e (.int .i64 x642) S trivial (by decide) rfl trivial (q_load1 rfl Tryz.isAgg2 (by rintro _ rfl; exact (hat646 0 _ rfl))) (fun a S => ?_)
          refine lq (.int .i64 x642) S (q_assign rfl) fun a S => ?_
          refine lx_nil ?_
          refine inBlock_norm ?_
          exact ⟨x642, S.sub ⟨rfl, rfl, rfl, rfl, rfl, rfl, rfl, trivial⟩, H, hm⟩
         ·have hm := ite_f hc641 hm
          refine wp_skip ?_
          refine inBlock_norm ?_
          exact ⟨x527, S.sub ⟨rfl, rfl, rfl, rfl, rfl, rfl, rfl, trivial⟩, H, hm⟩
      ·have hm := ite_f hc603 hm
       refine wp_exit ?_
       refine then_exit ?_
       refine then_exit ?_
       refine inBlock_exit ?_
       obtain rfl := it_brk hm hc599
       exact ⟨x527, S.sub ⟨rfl, rfl, rfl, rfl, rfl, rfl, trivial⟩, H, rfl⟩
   ·have hm := ite_f hc477 hm
    refine wp_exit ?_
    refine then_exit ?_
    refine then_exit ?_
    refine inBlock_exit ?_
    obtain rfl := it_brk hm hc476
    exact ⟨xs287, v286, S.sub ⟨rfl, trivial⟩, H, rfl⟩
 ·skip
  refine loop_ghost (fun n a w => ∃ (xs74 : List (List Int)) (x76 : Int) (v73 : Value), Slots a 78 [(0, p0), (1, p1), (5, v73), (6, (.int .i64 x76))] ∧ Heap w0 [oA (rList (rList (rInt .i64))) v73 xs74] w ∧ iter f102 n (xs74, x76) = some res100) _ ⟨([] : List (List Int)), (0 : Int), v50, S.sub ⟨rfl, rfl, rfl, rfl, trivial⟩, H, hit101⟩ ?_
  rintro n a w ⟨xs74, x76, v73, S, H, hit101⟩
  obtain ⟨m647, o648, rfl, hm, hc649⟩ := iter_step hit101
  rw [hf103] at hm
  refine wp_seq (wp_seq (region_plain ?_))
  refine lq (.int .i64 x76) S (q_move rfl) fun a S => ?_
  refine lq p0 S (q_move rfl) fun a S => ?_
  refine lq p0 S (q_nilCheck rfl ((hat33 0 _ rfl).isP)) fun a S => ?_
  refine lq (pAdd p0 0) S (q_fieldAddr' 0 2 rfl ((hat33 0 _ rfl).isP) Tryz.underlying32 rfl Tryz.sizeOf2) fun a S => ?_
  refine lx_e (.int .i64 a0.1) S trivial (by decide) rfl trivial (q_load1 rfl Tryz.isAgg2 (by rintro _ rfl; exact (At.of_add (m := 0) (j := 0) ((hat33 0 _ rfl).ext H.ext)))) (fun a S => ?_)
  refine lq (.bool (decide (x76 < a0.1))) S (q_lss rfl rfl) fun a S => ?_
  refine lx_nil (thenN ?_)
  refine cond_b S rfl (fun hc650 => ?_) (fun hc650 => ?_)
  ·have hm := ite_t hc650 hm
   refine wp_skip (thenN ?_)
   refine wp_seq ?_
   refine wp_block ?_
   refine region_plain ?_
   refine lq v73 S (q_move rfl) fun a S => ?_
   refine lq p0 S (q_move rfl) fun a S => ?_
   refine lq p1 S (q_move rfl) fun a S => ?_
   refine lq (.int .i64 x76) S (q_move rfl) fun a S => ?_
   obtain ⟨x653, e654, hm⟩ := bind_some hm
   refine lx_call (xs := [.tmp 22, .tmp 23, .tmp 24]) S trivial (by decide) rfl rfl Tryz.call112 ((spec_l13Sign_ok (H.arg h0) (H.arg h1)  e654).mono ?_)
   rintro e w651 ⟨v655, rfl, Hc652⟩
   have H := H.call1 Hc652
   refine ⟨_, rfl, trivial, fun a S => ?_⟩
   refine lx_buildSlice (r := (rList (rInt .i64))) (xs := [x653]) (ps := [(0, [v655])]) (cs := [v655]) (parts := [(0, .tmp 25)]) S trivial (by decide) rfl H rfl Tryz.underlying63 Tryz.sizeOf27 Tryz.zeroValue27 (by decide) ⟨rfl, (cells_sl (H.isSl 0 rfl)), Nat.le_of_ble_eq_true rfl, trivial⟩ (by intro zs hz; exact fill_dense hz ⟨rfl, trivial⟩ rfl rfl) rfl (by decide) (fun w F hA => ownL_one_mk (ownF (oA_list.1 hA))) (fun v658 w659 H => ⟨trivial, fun a S => ?_⟩)
   obtain ⟨x661, e662, hm⟩ := bind_some hm
   obtain ⟨hle, hap⟩ := app_some e662
   replace hap := hap.symm
   subst hap
   have H : Heap w0 [oA (rList (rList (rInt .i64))) v658 [x653], oA (rList (rList (rInt .i64))) v73 xs74] w659 := H.front 0 rfl
   have H : Heap w0 [oA (rList (rList (rInt .i64))) v73 xs74, oA (rList (rList (rInt .i64))) v658 [x653]] w659 := H.front 1 rfl
   refine lx_appendOwn (r := (rList (rInt .i64))) S trivial (by decide) rfl H rfl rfl Tryz.underlying63 Tryz.ti27 rfl rfl rfl (Nat.le_of_ble_eq_true rfl) (by decide) hle (fun v663 w664 H => ⟨trivial, fun a S => ?_⟩)
   refine lq v663 S (q_assign rfl) fun a S => ?_
   refine lx_nil ?_
   refine inBlock_norm ?_
   refine thenN ?_
   refine region_plain ?_
   refine lq (.int .i64 x76) S (q_move rfl) fun a S => ?_
   refine lq (.int .i64 (W (x76 + (1 : Int)))) S (q_add rfl rfl) fun a S => ?_
   refine lq (.int .i64 (W (x76 + (1 : Int)))) S (q_assign rfl) fun a S => ?_
   refine lx_nil ?_
   exact ⟨m647, Nat.lt_succ_self _, (xs74 ++ [x653]), (W (x76 + (1 : Int))), v663, S.sub ⟨rfl, rfl, rfl, rfl, trivial⟩, H, it_cont hm hc649⟩
  ·have hm := ite_f hc650 hm
   refine wp_exit ?_
   refine then_exit ?_
   refine then_exit ?_
   refine inBlock_exit ?_
   obtain rfl := it_brk hm hc649
   exact ⟨xs74, v73, S.sub ⟨rfl, rfl, trivial⟩, H, rfl⟩
end Go.Proofs.YtciiinpphaaddaaGreatDoor
