/- The models of some functions and their walks (printed by a program of this repo). -/
import Derived.Test.YtecknjdlbmmmiaaF0
import Derived.Test.YtecknjdlbmmmiaaF4
import Derived.Test.YtecknjdlbmmmiaaF5
import Derived.Test.YtecknjdlbmmmiaaF6
import Derived.Test.YtecknjdlbmmmiaaGxT
import Derived.Test.YtecknjdlbmmmiaaGxY
namespace Go.Proofs.Ytecknjdlbmmmiaa
open Go.RowKit Go.Gx

/-- cmp.isNaN[int64] -/
def cmp_isNaN_int64_m (_ : Nat) (a0 : Int) : Option (Bool) :=
  some ((a0 != a0))
set_option maxRecDepth 20000 in
theorem cmp_isNaN_int64_ok {w0 : World} {fuel : Nat} {a0 : Int} {r : Bool} (hm : cmp_isNaN_int64_m fuel a0 = some r) :
  Calls Try.prog 138 #[.int .i64 a0] w0 fun e w => e = .returned (.bool r) ∧ Heap w0 [] w := by
 unfold cmp_isNaN_int64_m at hm
 have H := Heap.start w0
 refine enter (args := [.int .i64 a0]) Try.func138 rfl 6 rfl (Nat.le_of_ble_eq_true rfl) (fun a S => ?_)
 refine wp_seq (region_plain ?_)
 refine lq (.bool false) S (q_assign rfl) fun a S => ?_
 refine lx_nil (thenN ?_)
 refine wp_seq (region_plain ?_)
 refine lq (.int .i64 a0) S (q_move rfl) fun a S => ?_
 refine lq (.int .i64 a0) S (q_move rfl) fun a S => ?_
 refine lq (.bool (a0 != a0)) S (q_neq rfl rfl) fun a S => ?_
 refine lq (.bool (a0 != a0)) S (q_assign rfl) fun a S => ?_
 refine lx_nil (thenN ?_)
 refine wp_ret ?_
 obtain rfl := Option.some.inj hm
 exact leave1 S rfl rfl ⟨rfl, H⟩

/-- cmp.Compare[int64] -/
def cmp_Compare_int64_m (fuel : Nat) (a0 : Int) (a1 : Int) : Option (Int) :=
  (cmp_isNaN_int64_m fuel a0).bind fun x33 => (cmp_isNaN_int64_m fuel a1).bind fun x38 => (if x33 = true then (if x38 = true then some ((0 : Int)) else some ((-1 : Int))) else (if x38 = true then some ((1 : Int)) else (if (decide (a0 < a1)) = true then some ((-1 : Int)) else (if (decide (a1 < a0)) = true then some ((1 : Int)) else some ((0 : Int))))))
set_option maxRecDepth 20000 in
theorem cmp_Compare_int64_ok {w0 : World} {fuel : Nat} {a0 : Int} {a1 : Int} {r : Int} (hm : cmp_Compare_int64_m fuel a0 a1 = some r) :
  Calls Try.prog 108 #[.int .i64 a0, .int .i64 a1] w0 fun e w => e = .returned (.int .i64 r) ∧ Heap w0 [] w := by
 unfold cmp_Compare_int64_m at hm
 have H := Heap.start w0
 refine enter (args := [.int .i64 a0, .int .i64 a1]) Try.func108 rfl 20 rfl (Nat.le_of_ble_eq_true rfl) (fun a S => ?_)
 refine wp_seq (region_plain ?_)
 refine lq (.int .i64 (0 : Int)) S (q_assign rfl) fun a S => ?_
 refine lx_nil (thenN ?_)
 refine wp_seq (region_plain ?_)
 refine lq (.int .i64 a0) S (q_move rfl) fun a S => ?_
 obtain ⟨x33, e34, hm⟩ := bind_some hm
 refine lx_call (xs := [.tmp 7]) S trivial (by decide) rfl rfl Try.call138 ((cmp_isNaN_int64_ok  e34).mono ?_)
 rintro e w31 ⟨rfl, Hc32⟩
 have H := H.call0 Hc32
 refine ⟨_, rfl, trivial, fun a S => ?_⟩
 refine lq (.bool x33) S (q_assign rfl) fun a S => ?_
 refine lx_nil (thenN ?_)
 refine wp_seq (region_plain ?_)
 refine lq (.int .i64 a1) S (q_move rfl) fun a S => ?_
 obtain ⟨x38, e39, hm⟩ := bind_some hm
 refine lx_call (xs := [.tmp 9]) S trivial (by decide) rfl rfl Try.call138 ((cmp_isNaN_int64_ok  e39).mono ?_)
 rintro e w36 ⟨rfl, Hc37⟩
 have H := H.call0 Hc37
 refine ⟨_, rfl, trivial, fun a S => ?_⟩
 refine lq (.bool x38) S (q_assign rfl) fun a S => ?_
 refine lx_nil (thenN ?_)
 refine wp_seq (wp_seq (region_plain ?_))
 refine lq (.bool x33) S (q_move rfl) fun a S => ?_
 refine lx_nil (thenN ?_)
 refine cond_b S rfl (fun hc41 => ?_) (fun hc41 => ?_)
 ·have hm := ite_t hc41 hm
  refine wp_seq (wp_seq (region_plain ?_))
  refine lq (.bool x38) S (q_move rfl) fun a S => ?_
  refine lx_nil (thenN ?_)
  refine cond_b S rfl (fun hc42 => ?_) (fun hc42 => ?_)
  ·have hm := ite_t hc42 hm
   refine wp_seq (region_plain ?_)
   refine lq (.int .i64 (0 : Int)) S (q_assign rfl) fun a S => ?_
   refine lx_nil (thenN ?_)
   refine wp_ret (then_ret ?_)
   refine then_ret ?_
   obtain rfl := Option.some.inj hm
   exact leave1 S rfl rfl ⟨rfl, H⟩
  ·have hm := ite_f hc42 hm
   refine wp_skip (thenN ?_)
   refine wp_seq (region_plain ?_)
   refine lq (.int .i64 (-1 : Int)) S (q_assign rfl) fun a S => ?_
   refine lx_nil (thenN ?_)
   refine wp_ret (then_ret ?_)
   obtain rfl := Option.some.inj hm
   exact leave1 S rfl rfl ⟨rfl, H⟩
 ·have hm := ite_f hc41 hm
  refine wp_skip (thenN ?_)
  refine wp_seq (wp_seq (region_plain ?_))
  refine lq (.bool x38) S (q_move rfl) fun a S => ?_
  refine lx_nil (thenN ?_)
  refine cond_b S rfl (fun hc43 => ?_) (fun hc43 => ?_)
  ·have hm := ite_t hc43 hm
   refine wp_seq (region_plain ?_)
   refine lq (.int .i64 (1 : Int)) S (q_assign rfl) fun a S => ?_
   refine lx_nil (thenN ?_)
   refine wp_ret (then_ret ?_)
   obtain rfl := Option.some.inj hm
   exact leave1 S rfl rfl ⟨rfl, H⟩
  ·have hm := ite_f hc43 hm
   refine wp_skip (thenN ?_)
   refine wp_seq (wp_seq (region_plain ?_))
   refine lq (.int .i64 a0) S (q_move rfl) fun a S => ?_
   refine lq (.int .i64 a1) S (q_move rfl) fun a S => ?_
   refine lq (.bool (decide (a0 < a1))) S (q_lss rfl rfl) fun a S => ?_
   refine lx_nil (thenN ?_)
   refine cond_b S rfl (fun hc44 => ?_) (fun hc44 => ?_)
   ·have hm := ite_t hc44 hm
    refine wp_seq (region_plain ?_)
    refine lq (.int .i64 (-1 : Int)) S (q_assign rfl) fun a S => ?_
    refine lx_nil (thenN ?_)
    refine wp_ret (then_ret ?_)
    obtain rfl := Option.some.inj hm
    exact leave1 S rfl rfl ⟨rfl, H⟩
   ·have hm := ite_f hc44 hm
    refine wp_skip (thenN ?_)
    refine wp_seq (wp_seq (region_plain ?_))
    refine lq (.int .i64 a0) S (q_move rfl) fun a S => ?_
    refine lq (.int .i64 a1) S (q_move rfl) fun a S => ?_
    refine lq (.bool (decide (a1 < a0))) S (q_gtr rfl rfl) fun a S => ?_
    refine lx_nil (thenN ?_)
    refine cond_b S rfl (fun hc45 => ?_) (fun hc45 => ?_)
    ·have hm := ite_t hc45 hm
     refine wp_seq (region_plain ?_)
     refine lq (.int .i64 (1 : Int)) S (q_assign rfl) fun a S => ?_
     refine lx_nil (thenN ?_)
     refine wp_ret (then_ret ?_)
     obtain rfl := Option.some.inj hm
     exact leave1 S rfl rfl ⟨rfl, H⟩
    ·have hm := ite_f hc45 hm
     refine wp_skip (thenN ?_)
     refine wp_seq (region_plain ?_)
     refine lq (.int .i64 (0 : Int)) S (q_assign rfl) fun a S => ?_
     refine lx_nil (thenN ?_)
     refine wp_ret ?_
     obtain rfl := Option.some.inj hm
     exact leave1 S rfl rfl ⟨rfl, H⟩

/-- impl.placesIn -/
def impl_placesIn_m (fuel : Nat) (a0 : (List Int)) (a1 : (List Int)) : Option ((List Int)) :=
  (iter (fun (s : (List Int) × (Int)) => (match s with | (xs56, x58) => (if (decide (x58 < (a1.length : Int))) = true then (idx a1 x58).bind fun x102 => (slices_Index__int64_int64_m fuel a0 x102).bind fun x109 => (app xs56 [x109]).bind fun x115 => some (.inl (x115, (W (x58 + (1 : Int))))) else some (.inr (.inl (xs56)))) : Option (((List Int) × (Int)) ⊕ (((List Int)) ⊕ ((List Int)))))) fuel ([], (0 : Int))).bind fun res85 => ctl (β := (List Int)) (ρ := (List Int)) (τ := (List Int)) res85 (fun (xs83) => (impl_sortedSet_m fuel xs83).bind fun x92 => some (x92)) (fun q => some (q))
set_option maxRecDepth 20000 in
theorem impl_placesIn_ok {w0 : World} {fuel : Nat} {p0 p1 : Value} {a0 : (List Int)} {a1 : (List Int)} {r : (List Int)} (h0 : Rd (rList (rInt .i64)) w0 p0 a0) (h1 : Rd (rList (rInt .i64)) w0 p1 a1) (hm : impl_placesIn_m fuel a0 a1 = some r) :
  Calls Try.prog 98 #[p0, p1] w0 fun e w => ∃ (v0 : Value), e = .returned (v0) ∧ Heap w0 [oA (rList (rInt .i64)) v0 r] w := by
 unfold impl_placesIn_m at hm
 have H := Heap.start w0
 refine enter (args := [p0, p1]) Try.func98 rfl 23 rfl (Nat.le_of_ble_eq_true rfl) (fun a S => ?_)
 refine wp_seq (region_plain ?_)
 refine lq (.slice none 0 0) S (q_assign rfl) fun a S => ?_
 refine lx_nil (thenN ?_)
 refine wp_seq (region_plain ?_)
 refine lq (.slice none 0 0) S (q_assign rfl) fun a S => ?_
 refine lx_nil (thenN ?_)
 refine wp_seq (wp_seq (region_plain ?_))
 refine lq p1 S (q_move rfl) fun a S => ?_
 refine lq (.int .i64 (a1.length : Int)) S (q_lenSl rfl (h1).isSl rfl Try.underlying23) fun a S => ?_
 refine lq (.int .i64 (0 : Int)) S (q_move rfl) fun a S => ?_
 refine lx_nil (thenN ?_)
 obtain ⟨res85, hit86, hk89⟩ := bind_some hm
 obtain ⟨f87, hf88, hit86⟩ := iter_name hit86
 refine block_loop (fun a w => ∃ (xs83 : List Int) (v82 : Value), Slots a 23 [(5, v82)] ∧ Heap w0 [oA (rList (rInt .i64)) v82 xs83] w ∧ res85 = .inl (xs83)) ?_ ?_
 ·rintro a w ⟨xs83, v82, S, H, rfl⟩
  have hm := ctl_inl hk89
  refine thenN ?_
  refine wp_seq (region_plain ?_)
  refine lq v82 S (q_move rfl) fun a S => ?_
  obtain ⟨x92, e93, hm⟩ := bind_some hm
  refine lx_call (xs := [.tmp 21]) S trivial (by decide) rfl rfl Try.call101 ((impl_sortedSet_ok (H.rdAt 0 rfl) e93).mono ?_)
  rintro e w90 ⟨v94, rfl, Hc91⟩
  have H := H.call1 Hc91
  refine ⟨_, rfl, trivial, fun a S => ?_⟩
  refine lq v94 S (q_assign rfl) fun a S => ?_
  refine lx_nil (thenN ?_)
  refine wp_ret ?_
  obtain rfl := Option.some.inj hm
  have H : Heap w0 [oA (rList (rInt .i64)) v94 x92] w90 := H.sel [0] (by decide)
  exact leave1 S rfl rfl ⟨v94, rfl, H⟩
 ·skip
  have H : Heap w0 [oA (rList (rInt .i64)) (.slice none 0 0) ([] : List Int)] w0 := H.nilList (rInt .i64)
  refine loop_ghost (fun n a w => ∃ (xs56 : List Int) (x58 : Int) (v55 : Value), Slots a 23 [(0, p0), (5, v55), (8, p1), (9, (.int .i64 (a1.length : Int))), (10, (.int .i64 x58))] ∧ Heap w0 [oA (rList (rInt .i64)) v55 xs56] w ∧ iter f87 n (xs56, x58) = some res85) _ ⟨[], (0 : Int), (.slice none 0 0), S.sub ⟨rfl, rfl, rfl, rfl, rfl, trivial⟩, H, hit86⟩ ?_
  rintro n a w ⟨xs56, x58, v55, S, H, hit86⟩
  obtain ⟨m98, o99, rfl, hm, hc100⟩ := iter_step hit86
  rw [hf88] at hm
  refine wp_seq (region_plain ?_)
  refine lq (.bool (decide (x58 < (a1.length : Int)))) S (q_lss rfl rfl) fun a S => ?_
  refine lx_nil (thenN ?_)
  refine wp_seq ?_
  refine cond_b S rfl (fun hc101 => ?_) (fun hc101 => ?_)
  ·have hm := ite_t hc101 hm
   refine wp_skip (thenN ?_)
   refine wp_seq ?_
   refine wp_block ?_
   refine wp_seq (region_plain ?_)
   obtain ⟨x102, e103, hm⟩ := bind_some hm
   obtain ⟨c104, h105, hat106⟩ := (h1).elem (idx_some e103).2
   obtain rfl := h105
   have hlt := lt_of_idx (idx_some e103).2
   refine lq (ePtr p1 (x58.toNat * 1)) S (q_indexAddr rfl (h1).isSl rfl (idx_some e103).1 hlt Try.underlying23 Try.sizeOf2) fun a S => ?_
   refine lx_e (.int .i64 x102) S trivial (by decide) rfl trivial (q_load1 rfl Try.isAgg2 (by rintro _ rfl; exact ((hat106 0 _ rfl).ext H.ext))) (fun a S => ?_)
   refine lq (.int .i64 x102) S (q_assign rfl) fun a S => ?_
   refine lx_nil (thenN ?_)
   refine region_plain ?_
   refine lq v55 S (q_move rfl) fun a S => ?_
   refine lq p0 S (q_move rfl) fun a S => ?_
   refine lq (.int .i64 x102) S (q_move rfl) fun a S => ?_
   obtain ⟨x109, e110, hm⟩ := bind_some hm
   refine lx_call (xs := [.tmp 15, .tmp 16]) S trivial (by decide) rfl rfl Try.call116 ((slices_Index__int64_int64_ok (H.arg h0)  e110).mono ?_)
   rintro e w107 ⟨rfl, Hc108⟩
   have H := H.call0 Hc108
   refine ⟨_, rfl, trivial, fun a S => ?_⟩
   refine lx_buildSlice (r := (rInt .i64)) (xs := [x109]) (ps := [(0, [(.int .i64 x109)])]) (cs := [(.int .i64 x109)]) (parts := [(0, .tmp 17)]) S trivial (by decide) rfl (H.put0 (A := eA) rfl) rfl Try.underlying23 Try.sizeOf2 Try.zeroValue2 (by decide) ⟨rfl, rfl, Nat.le_of_ble_eq_true rfl, trivial⟩ (by intro zs hz; exact fill_dense hz ⟨rfl, trivial⟩ rfl rfl) rfl (by decide) (fun w F hA => by cases (show F = [] from hA); exact ⟨_, _, [(.int .i64 x109)], _, rfl, rfl, ⟨rfl, rfl⟩, ⟨rfl, rfl⟩⟩) (fun v112 w113 H => ⟨trivial, fun a S => ?_⟩)
   obtain ⟨x115, e116, hm⟩ := bind_some hm
   obtain ⟨hle, hap⟩ := app_some e116
   replace hap := hap.symm
   subst hap
   have H : Heap w0 [oA (rList (rInt .i64)) v112 [x109], oA (rList (rInt .i64)) v55 xs56] w113 := H.front 0 rfl
   have H : Heap w0 [oA (rList (rInt .i64)) v55 xs56, oA (rList (rInt .i64)) v112 [x109]] w113 := H.front 1 rfl
   refine lx_appendOwn (r := (rInt .i64)) S trivial (by decide) rfl H rfl rfl Try.underlying23 Try.ti2 rfl rfl rfl (Nat.le_of_ble_eq_true rfl) (by decide) hle (fun v117 w118 H => ⟨trivial, fun a S => ?_⟩)
   refine lq v117 S (q_assign rfl) fun a S => ?_
   refine lx_nil ?_
   refine inBlock_norm ?_
   refine thenN ?_
   refine region_plain ?_
   refine lq (.int .i64 (W (x58 + (1 : Int)))) S (q_add rfl rfl) fun a S => ?_
   refine lq (.int .i64 (W (x58 + (1 : Int)))) S (q_move rfl) fun a S => ?_
   refine lx_nil ?_
   exact ⟨m98, Nat.lt_succ_self _, (xs56 ++ [x109]), (W (x58 + (1 : Int))), v117, S.sub ⟨rfl, rfl, rfl, rfl, rfl, trivial⟩, H, it_cont hm hc100⟩
  ·have hm := ite_f hc101 hm
   refine wp_exit ?_
   refine then_exit ?_
   refine then_exit ?_
   refine inBlock_exit ?_
   obtain rfl := it_brk hm hc100
   exact ⟨xs56, v55, S.sub ⟨rfl, trivial⟩, H, rfl⟩

/-- spec.l23Own -/
def spec_l23Own_m (fuel : Nat) (a0 : (List Timpl_Vertex)) : Option ((List Timpl_Vertex)) :=
  (iter (fun (s : (List Timpl_Vertex) × (Int)) => (match s with | (xs102, x104) => (if (decide (x104 < (a0.length : Int))) = true then (idx a0 x104).bind fun x186 => (idx a0 x104).bind fun x201 => (idx a0 x104).bind fun x216 => (spec_l00Own_m fuel x216.2.2).bind fun x233 => (app xs102 [(x186.1, x201.2.1, x233)]).bind fun x241 => some (.inl (x241, (W (x104 + (1 : Int))))) else some (.inr (.inl (xs102)))) : Option (((List Timpl_Vertex) × (Int)) ⊕ (((List Timpl_Vertex)) ⊕ ((List Timpl_Vertex)))))) fuel (([] : List Timpl_Vertex), (0 : Int))).bind fun res175 => ctl (β := (List Timpl_Vertex)) (ρ := (List Timpl_Vertex)) (τ := (List Timpl_Vertex)) res175 (fun (xs173) => some (xs173)) (fun q => some (q))
set_option maxRecDepth 20000 in
theorem spec_l23Own_ok {w0 : World} {fuel : Nat} {p0 : Value} {a0 : (List Timpl_Vertex)} {r : (List Timpl_Vertex)} (h0 : Rd (rList Rimpl_Vertex) w0 p0 a0) (hm : spec_l23Own_m fuel a0 = some r) :
  Calls Try.prog 100 #[p0] w0 fun e w => ∃ (v0 : Value), e = .returned (v0) ∧ Heap w0 [oA (rList Rimpl_Vertex) v0 r] w := by
 unfold spec_l23Own_m at hm
 have H := Heap.start w0
 refine enter (args := [p0]) Try.func100 rfl 33 rfl (Nat.le_of_ble_eq_true rfl) (fun a S => ?_)
 refine wp_seq (region_plain ?_)
 refine lq (.slice none 0 0) S (q_assign rfl) fun a S => ?_
 refine lx_nil (thenN ?_)
 refine wp_seq (region_plain ?_)
 refine lx_buildSlice0 (r := Rimpl_Vertex) S trivial (by decide) rfl H Try.underlying26 Try.sizeOf71 (fun v31 w32 H => ⟨trivial, fun a S => ?_⟩)
 refine lq v31 S (q_assign rfl) fun a S => ?_
 refine lx_nil (thenN ?_)
 refine wp_seq (wp_seq (region_plain ?_))
 refine lq (.int .i64 (0 : Int)) S (q_assign rfl) fun a S => ?_
 refine lx_nil (thenN ?_)
 obtain ⟨res175, hit176, hk179⟩ := bind_some hm
 obtain ⟨f177, hf178, hit176⟩ := iter_name hit176
 refine block_loop (fun a w => ∃ (xs173 : List Timpl_Vertex) (v172 : Value), Slots a 33 [(3, v172)] ∧ Heap w0 [oA (rList Rimpl_Vertex) v172 xs173] w ∧ res175 = .inl (xs173)) ?_ ?_
 ·rintro a w ⟨xs173, v172, S, H, rfl⟩
  have hm := ctl_inl hk179
  refine thenN ?_
  refine wp_seq (region_plain ?_)
  refine lq v172 S (q_move rfl) fun a S => ?_
  refine lq v172 S (q_assign rfl) fun a S => ?_
  refine lx_nil (thenN ?_)
  refine wp_ret ?_
  obtain rfl := Option.some.inj hm
  exact leave1 S rfl rfl ⟨v172, rfl, H⟩
 ·skip
  refine loop_ghost (fun n a w => ∃ (xs102 : List Timpl_Vertex) (x104 : Int) (v101 : Value), Slots a 33 [(0, p0), (3, v101), (4, (.int .i64 x104))] ∧ Heap w0 [oA (rList Rimpl_Vertex) v101 xs102] w ∧ iter f177 n (xs102, x104) = some res175) _ ⟨([] : List Timpl_Vertex), (0 : Int), v31, S.sub ⟨rfl, rfl, rfl, trivial⟩, H, hit176⟩ ?_
  rintro n a w ⟨xs102, x104, v101, S, H, hit176⟩
  obtain ⟨m180, o181, rfl, hm, hc182⟩ := iter_step hit176
  rw [hf178] at hm
  refine wp_seq (wp_seq (region_plain ?_))
  refine lq (.int .i64 x104) S (q_move rfl) fun a S => ?_
  refine lq p0 S (q_move rfl) fun a S => ?_
  refine lq (.int .i64 (a0.length : Int)) S (q_lenSl rfl (h0).isSl rfl Try.underlying26) fun a S => ?_
  refine lq (.bool (decide (x104 < (a0.length : Int)))) S (q_lss rfl rfl) fun a S => ?_
  refine lx_nil (thenN ?_)
  refine cond_b S rfl (fun hc183 => ?_) (fun hc183 => ?_)
  ·have hm := ite_t hc183 hm
   refine wp_skip (thenN ?_)
   refine wp_seq ?_
   refine wp_block ?_
   refine region_drawG (fun w1 => Heap w0 [] w1) (fun i => [16, 18, 19].contains i) mixed (by kernel_rfl) (fun w185 he184 => ?_)
   have H := H.later he184
   refine ⟨H.sel [] (by decide), ?_⟩
   refine lq v101 S (q_move rfl) fun a S => ?_
   refine lq p0 S (q_move rfl) fun a S => ?_
   refine lq (.int .i64 x104) S (q_move rfl) fun a S => ?_
   obtain ⟨x186, e187, hm⟩ := bind_some hm
   obtain ⟨c188, h189, hat190⟩ := (h0).elem (idx_some e187).2
   obtain ⟨c193, c194, rfl, h195, h196⟩ := h189
   obtain rfl := h195
   obtain ⟨c197, c198, rfl, h199, h200⟩ := h196
   obtain rfl := h199
   obtain ⟨v191, rfl, h192⟩ := rd_list h200
   have hlt := lt_of_idx (idx_some e187).2
   refine lq (ePtr p0 (x104.toNat * 3)) S (q_indexAddr rfl (h0).isSl rfl (idx_some e187).1 hlt Try.underlying26 Try.sizeOf71) fun a S => ?_
   refine lq (pAdd (ePtr p0 (x104.toNat * 3)) 0) S (q_fieldAddr' 0 2 rfl ((hat190 0 _ rfl).isP) Try.underlying71 rfl Try.sizeOf2) fun a S => ?_
   refine lq (.int .i64 x186.1) S (q_load1 rfl Try.isAgg2 (fun w1 hC => (At.of_add (m := 0) (j := 0) ((hat190 0 _ rfl).ext hC.ext)))) fun a S => ?_
   refine lq p0 S (q_move rfl) fun a S => ?_
   refine lq (.int .i64 x104) S (q_move rfl) fun a S => ?_
   obtain ⟨x201, e202, hm⟩ := bind_some hm
   obtain ⟨c203, h204, hat205⟩ := (h0).elem (idx_some e202).2
   obtain ⟨c208, c209, rfl, h210, h211⟩ := h204
   obtain rfl := h210
   obtain ⟨c212, c213, rfl, h214, h215⟩ := h211
   obtain rfl := h214
   obtain ⟨v206, rfl, h207⟩ := rd_list h215
   have hlt := lt_of_idx (idx_some e202).2
   refine lq (ePtr p0 (x104.toNat * 3)) S (q_indexAddr rfl (h0).isSl rfl (idx_some e202).1 hlt Try.underlying26 Try.sizeOf71) fun a S => ?_
   refine lq (pAdd (ePtr p0 (x104.toNat * 3)) 1) S (q_fieldAddr' 1 2 rfl ((hat205 0 _ rfl).isP) Try.underlying71 rfl Try.sizeOf2) fun a S => ?_
   refine lq (.int .i64 x201.2.1) S (q_load1 rfl Try.isAgg2 (fun w1 hC => (At.of_add (m := 1) (j := 0) ((hat205 1 _ rfl).ext hC.ext)))) fun a S => ?_
   refine lq p0 S (q_move rfl) fun a S => ?_
   refine lq (.int .i64 x104) S (q_move rfl) fun a S => ?_
   obtain ⟨x216, e217, hm⟩ := bind_some hm
   obtain ⟨c218, h219, hat220⟩ := (h0).elem (idx_some e217).2
   obtain ⟨c223, c224, rfl, h225, h226⟩ := h219
   obtain rfl := h225
   obtain ⟨c227, c228, rfl, h229, h230⟩ := h226
   obtain rfl := h229
   obtain ⟨v221, rfl, h222⟩ := rd_list h230
   have hlt := lt_of_idx (idx_some e217).2
   refine lq (ePtr p0 (x104.toNat * 3)) S (q_indexAddr rfl (h0).isSl rfl (idx_some e217).1 hlt Try.underlying26 Try.sizeOf71) fun a S => ?_
   refine lq (pAdd (ePtr p0 (x104.toNat * 3)) 2) S (q_fieldAddr' 2 23 rfl ((hat220 0 _ rfl).isP) Try.underlying71 rfl Try.sizeOf23) fun a S => ?_
   refine lq v221 S (q_load1 rfl Try.isAgg23 (fun w1 hC => (At.of_add (m := 2) (j := 0) ((hat220 2 _ rfl).ext hC.ext)))) fun a S => ?_
   obtain ⟨x233, e234, hm⟩ := bind_some hm
   refine lx_call (xs := [.tmp 27]) S trivial (by decide) rfl rfl Try.call119 ((spec_l00Own_ok (H.arg h222) e234).mono ?_)
   rintro e w231 ⟨v235, rfl, Hc232⟩
   have H := H.call1 Hc232
   refine ⟨_, rfl, H.sel [] (by decide), fun a S => ?_⟩
   refine lq (.agg #[(.int .i64 x186.1), (.int .i64 x201.2.1), v235]) S (q_build (zs := [(.int .i64 (0 : Int)), (.int .i64 (0 : Int)), (.slice none 0 0)]) (szs := [1, 1, 1]) (ps := [(0, [(.int .i64 x186.1)]), (1, [(.int .i64 x201.2.1)]), (2, [v235])]) (parts := [(0, .tmp 17), (1, .tmp 22), (2, .tmp 28)]) rfl Try.underlying71 Try.zeroValue71 (fun w => by simp [Try.sizeOf2, Try.sizeOf23]) ⟨rfl, rfl, Nat.le_of_ble_eq_true rfl, ⟨rfl, rfl, Nat.le_of_ble_eq_true rfl, ⟨rfl, (cells_sl (H.isSl 0 rfl)), Nat.le_of_ble_eq_true rfl, trivial⟩⟩⟩ rfl) fun a S => ?_
   refine lx_buildSlice (r := Rimpl_Vertex) (xs := [(x186.1, x201.2.1, x233)]) (ps := [(0, [(.int .i64 x186.1), (.int .i64 x201.2.1), v235])]) (cs := [(.int .i64 x186.1), (.int .i64 x201.2.1), v235]) (parts := [(0, .tmp 29)]) S trivial (by decide) rfl H rfl Try.underlying26 Try.sizeOf71 Try.zeroValue71 (by decide) ⟨rfl, rfl, Nat.le_of_ble_eq_true rfl, trivial⟩ (by intro zs hz; exact fill_dense hz ⟨rfl, trivial⟩ rfl rfl) rfl (by decide) (fun w F hA => ownL_one_mk (ownF ⟨_, _, [(.int .i64 x186.1)], [(.int .i64 x201.2.1), v235], rfl, rfl, ⟨rfl, rfl⟩, ⟨_, _, [(.int .i64 x201.2.1)], [v235], rfl, rfl, ⟨rfl, rfl⟩, (oA_list.1 hA)⟩⟩)) (fun v238 w239 H => ⟨H.sel [] (by decide), fun a S => ?_⟩)
   obtain ⟨x241, e242, hm⟩ := bind_some hm
   obtain ⟨hle, hap⟩ := app_some e242
   replace hap := hap.symm
   subst hap
   have H : Heap w0 [oA (rList Rimpl_Vertex) v238 [(x186.1, x201.2.1, x233)], oA (rList Rimpl_Vertex) v101 xs102] w239 := H.front 0 rfl
   have H : Heap w0 [oA (rList Rimpl_Vertex) v101 xs102, oA (rList Rimpl_Vertex) v238 [(x186.1, x201.2.1, x233)]] w239 := H.front 1 rfl
   refine lx_appendOwn (r := Rimpl_Vertex) S trivial (by decide) rfl H rfl rfl Try.underlying26 Try.ti71 rfl rfl rfl (Nat.le_of_ble_eq_true rfl) (by decide) hle (fun v243 w244 H => ⟨H.sel [] (by decide), fun a S => ?_⟩)
   refine lq v243 S (q_assign rfl) fun a S => ?_
   refine lx_nil ?_
   refine inBlock_norm ?_
   refine thenN ?_
   refine region_plain ?_
   refine lq (.int .i64 x104) S (q_move rfl) fun a S => ?_
   refine lq (.int .i64 (W (x104 + (1 : Int)))) S (q_add rfl rfl) fun a S => ?_
   refine lq (.int .i64 (W (x104 + (1 : Int)))) S (q_assign rfl) fun a S => ?_
   refine lx_nil ?_
   exact ⟨m180, Nat.lt_succ_self _, (xs102 ++ [(x186.1, x201.2.1, x233)]), (W (x104 + (1 : Int))), v243, S.sub ⟨rfl, rfl, rfl, trivial⟩, H, it_cont hm hc182⟩
  ·have hm := ite_f hc183 hm
   refine wp_exit ?_
   refine then_exit ?_
   refine then_exit ?_
   refine inBlock_exit ?_
   obtain rfl := it_brk hm hc182
   exact ⟨xs102, v101, S.sub ⟨rfl, trivial⟩, H, rfl⟩
end Go.Proofs.Ytecknjdlbmmmiaa
