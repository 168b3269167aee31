/- The models of some functions and their walks (printed by a program of this repo). -/
import Derived.Test.YtkgkfbmcnchdbaaGreatDoorF0
import Derived.Test.YtkgkfbmcnchdbaaGreatDoorFS
import Derived.Test.YtkgkfbmcnchdbaaGreatDoorGxT
import Derived.Test.YtkgkfbmcnchdbaaGreatDoorGxY
namespace Go.Proofs.YtkgkfbmcnchdbaaGreatDoor
open Go.RowKit Go.Gx

/-- slices.Index[[]int64,int64] -/
def slices_Index__int64_int64_m (fuel : Nat) (a0 : (List Int)) (a1 : Int) : Option (Int) :=
  (iter (fun (s : (Int)) => (match s with | (x39) => (if (decide (x39 < (a0.length : Int))) = true then (idx a0 x39).bind fun x57 => (if (a1 == x57) = true then some (.inr (.inr x39)) else some (.inl ((W (x39 + (1 : Int)))))) else some (.inr (.inl ()))) : Option (((Int)) ⊕ ((Unit) ⊕ (Int))))) fuel ((0 : Int))).bind fun res48 => ctl (β := Unit) (ρ := Int) (τ := Int) res48 (fun _ => some ((-1 : Int))) (fun q => some (q))
set_option maxRecDepth 20000 in
theorem slices_Index__int64_int64_ok {w0 : World} {fuel : Nat} {p0 : Value} {a0 : (List Int)} {a1 : Int} {r : Int} (h0 : Rd (rList (rInt .i64)) w0 p0 a0) (hm : slices_Index__int64_int64_m fuel a0 a1 = some r) :
  Calls Tryz.prog 167 #[p0, .int .i64 a1] w0 fun e w => e = .returned (.int .i64 r) ∧ Heap w0 [] w := by
 unfold slices_Index__int64_int64_m at hm
 have H := Heap.start w0
 refine enter (args := [p0, .int .i64 a1]) Tryz.func167 rfl 19 rfl (Nat.le_of_ble_eq_true rfl) (fun a S => ?_)
 refine wp_seq (region_plain ?_)
 refine lq (.int .i64 (0 : Int)) S (q_assign rfl) fun a S => ?_
 refine lx_nil (thenN ?_)
 refine wp_seq (wp_seq (region_plain ?_))
 refine lq p0 S (q_move rfl) fun a S => ?_
 refine lq (.int .i64 (a0.length : Int)) S (q_lenSl rfl (h0).isSl rfl Tryz.underlying34) fun a S => ?_
 refine lq (.int .i64 (0 : Int)) S (q_move rfl) fun a S => ?_
 refine lx_nil (thenN ?_)
 obtain ⟨res48, hit49, hk52⟩ := bind_some hm
 obtain ⟨f50, hf51, hit49⟩ := iter_name hit49
 refine block_loop (fun a w => Slots a 19 [] ∧ Heap w0 [] w ∧ res48 = .inl ()) ?_ ?_
 ·rintro a w ⟨S, H, rfl⟩
  have hm := ctl_inl hk52
  refine thenN ?_
  refine wp_seq (region_plain ?_)
  refine lq (.int .i64 (-1 : Int)) S (q_assign rfl) fun a S => ?_
  refine lx_nil (thenN ?_)
  refine wp_ret ?_
  obtain rfl := Option.some.inj hm
  exact leave1 S rfl rfl ⟨rfl, H⟩
 ·skip
  refine loop_ghost (fun n a w => ∃ (x39 : Int), Slots a 19 [(0, p0), (1, (.int .i64 a1)), (7, (.int .i64 (a0.length : Int))), (8, (.int .i64 x39))] ∧ Heap w0 [] w ∧ iter f50 n (x39) = some res48) _ ⟨(0 : Int), S.sub ⟨rfl, rfl, rfl, rfl, trivial⟩, H, hit49⟩ ?_
  rintro n a w ⟨x39, S, H, hit49⟩
  obtain ⟨m53, o54, rfl, hm, hc55⟩ := iter_step hit49
  rw [hf51] at hm
  refine wp_seq (region_plain ?_)
  refine lq (.bool (decide (x39 < (a0.length : Int)))) S (q_lss rfl rfl) fun a S => ?_
  refine lx_nil (thenN ?_)
  refine wp_seq ?_
  refine cond_b S rfl (fun hc56 => ?_) (fun hc56 => ?_)
  ·have hm := ite_t hc56 hm
   refine wp_skip (thenN ?_)
   refine wp_seq ?_
   refine wp_block ?_
   refine wp_seq (region_plain ?_)
   refine lq (.int .i64 x39) S (q_move rfl) fun a S => ?_
   refine lq (.int .i64 x39) S (q_assign rfl) fun a S => ?_
   refine lx_nil (thenN ?_)
   refine wp_seq (region_plain ?_)
   refine lq (.int .i64 a1) S (q_move rfl) fun a S => ?_
   refine lq p0 S (q_move rfl) fun a S => ?_
   refine lq (.int .i64 x39) S (q_move rfl) fun a S => ?_
   obtain ⟨x57, e58, hm⟩ := bind_some hm
   obtain ⟨c59, h60, hat61⟩ := (h0).elem (idx_some e58).2
   obtain rfl := h60
   have hlt := lt_of_idx (idx_some e58).2
   refine lq (ePtr p0 (x39.toNat * 1)) S (q_indexAddr rfl (h0).isSl rfl (idx_some e58).1 hlt Tryz.underlying34 Tryz.sizeOf2) fun a S => ?_
   refine lx_e (.int .i64 x57) S trivial (by decide) rfl trivial (q_load1 rfl Tryz.isAgg2 (by rintro _ rfl; exact ((hat61 0 _ rfl).ext H.ext))) (fun a S => ?_)
   refine lq (.bool (a1 == x57)) S (q_eql rfl rfl) fun a S => ?_
   refine lx_nil (thenN ?_)
   refine cond_b S rfl (fun hc62 => ?_) (fun hc62 => ?_)
   ·have hm := ite_t hc62 hm
    refine wp_seq (region_plain ?_)
    refine lq (.int .i64 x39) S (q_move rfl) fun a S => ?_
    refine lq (.int .i64 x39) S (q_assign rfl) fun a S => ?_
    refine lx_nil (thenN ?_)
    refine wp_ret (inBlock_ret ?_)
    refine then_ret ?_
    refine then_ret ?_
    refine inBlock_ret ?_
    refine then_ret ?_
    refine then_ret ?_
    obtain rfl := it_brk hm hc55
    have hm := ctl_inr hk52
    obtain rfl := Option.some.inj hm
    exact leave1 S rfl rfl ⟨rfl, H⟩
   ·have hm := ite_f hc62 hm
    refine wp_skip ?_
    refine inBlock_norm ?_
    refine thenN ?_
    refine region_plain ?_
    refine lq (.int .i64 (W (x39 + (1 : Int)))) S (q_add rfl rfl) fun a S => ?_
    refine lq (.int .i64 (W (x39 + (1 : Int)))) S (q_move rfl) fun a S => ?_
    refine lx_nil ?_
    exact ⟨m53, Nat.lt_succ_self _, (W (x39 + (1 : Int))), S.sub ⟨rfl, rfl, rfl, rfl, trivial⟩, H, it_cont hm hc55⟩
  ·have hm := ite_f hc56 hm
   refine wp_exit ?_
   refine then_exit ?_
   refine then_exit ?_
   refine inBlock_exit ?_
   obtain rfl := it_brk hm hc55
   exact ⟨S.sub trivial, H, rfl⟩

/-- slices.Contains[[]int64,int64] -/
def slices_Contains__int64_int64_m (fuel : Nat) (a0 : (List Int)) (a1 : Int) : Option (Bool) :=
  (slices_Index__int64_int64_m fuel a0 a1).bind fun x33 => some ((decide ((0 : Int) ≤ x33)))
set_option maxRecDepth 20000 in
theorem slices_Contains__int64_int64_ok {w0 : World} {fuel : Nat} {p0 : Value} {a0 : (List Int)} {a1 : Int} {r : Bool} (h0 : Rd (rList (rInt .i64)) w0 p0 a0) (hm : slices_Contains__int64_int64_m fuel a0 a1 = some r) :
  Calls Tryz.prog 145 #[p0, .int .i64 a1] w0 fun e w => e = .returned (.bool r) ∧ Heap w0 [] w := by
 unfold slices_Contains__int64_int64_m at hm
 have H := Heap.start w0
 refine enter (args := [p0, .int .i64 a1]) Tryz.func145 rfl 9 rfl (Nat.le_of_ble_eq_true rfl) (fun a S => ?_)
 refine wp_seq (region_plain ?_)
 refine lq (.bool false) S (q_assign rfl) fun a S => ?_
 refine lx_nil (thenN ?_)
 refine wp_seq (region_plain ?_)
 refine lq p0 S (q_move rfl) fun a S => ?_
 refine lq (.int .i64 a1) S (q_move rfl) fun a S => ?_
 obtain ⟨x33, e34, hm⟩ := bind_some hm
 refine lx_call (xs := [.tmp 5, .tmp 6]) S trivial (by decide) rfl rfl Tryz.call167 ((slices_Index__int64_int64_ok (H.arg h0)  e34).mono ?_)
 rintro e w31 ⟨rfl, Hc32⟩
 have H := H.call0 Hc32
 refine ⟨_, rfl, trivial, fun a S => ?_⟩
 refine lq (.bool (decide ((0 : Int) ≤ x33))) S (q_geq rfl rfl) fun a S => ?_
 refine lq (.bool (decide ((0 : Int) ≤ x33))) S (q_assign rfl) fun a S => ?_
 refine lx_nil (thenN ?_)
 refine wp_ret ?_
 obtain rfl := Option.some.inj hm
 exact leave1 S rfl rfl ⟨rfl, H⟩

/-- (impl.Lts).follow -/
def impl_Lts_follow_m (fuel : Nat) (a0 : Timpl_Lts) (a1 : (List Int)) (a2 : Str) : Option ((List Int)) :=
  (iter (fun (s : (List Int) × (Int)) => (match s with | (xs104, x106) => (if (decide (x106 < (a0.2.2.2.length : Int))) = true then join (κ := List Int → Option (((List Int) × (Int)) ⊕ (((List Int)) ⊕ ((List Int))))) (fun (xs180 : List Int) => some (.inl (xs180, (W (x106 + (1 : Int)))))) (fun K182 => (idx a0.2.2.2 x106).bind fun x184 => (idx a0.2.2.1 x184.2.1).bind fun x201 => (if (x201 == a2) = true then (slices_Contains__int64_int64_m fuel a1 x184.1).bind fun x211 => some x211 else some false).bind fun t206 => (if t206 = true then (app xs104 [x184.2.2]).bind fun x218 => (K182 x218) else (K182 xs104))) else some (.inr (.inl (xs104)))) : Option (((List Int) × (Int)) ⊕ (((List Int)) ⊕ ((List Int)))))) fuel ([], (0 : Int))).bind fun res159 => ctl (β := (List Int)) (ρ := (List Int)) (τ := (List Int)) res159 (fun (xs157) => (slices_Sort__int64_int64_m fuel xs157).bind fun x166 => (slices_Compact__int64_int64_m fuel x166).bind fun x170 => some (x170)) (fun q => some (q))
set_option maxRecDepth 20000 in
theorem impl_Lts_follow_ok {w0 : World} {fuel : Nat} {p0 p1 : Value} {a0 : Timpl_Lts} {a1 : (List Int)} {a2 : Str} {r : (List Int)} (h0 : Rd Rimpl_Lts w0 p0 a0) (h1 : Rd (rList (rInt .i64)) w0 p1 a1) (hm : impl_Lts_follow_m fuel a0 a1 a2 = some r) :
  Calls Tryz.prog 109 #[p0, p1, sv a2] w0 fun e w => ∃ (v0 : Value), e = .returned (v0) ∧ Heap w0 [oA (rList (rInt .i64)) v0 r] w := by
 unfold impl_Lts_follow_m at hm
 have H := Heap.start w0
 obtain ⟨c31, rfl, h32⟩ := h0
 obtain ⟨c37, c38, rfl, h39, h40⟩ := h32
 obtain rfl := h39
 obtain ⟨c41, c42, rfl, h43, h44⟩ := h40
 obtain rfl := h43
 obtain ⟨c45, c46, rfl, h47, h48⟩ := h44
 obtain ⟨v33, rfl, h34⟩ := rd_list h47
 obtain ⟨v35, rfl, h36⟩ := rd_list h48
 refine enter (args := [(.agg #[(.int .i64 a0.1), (.int .i64 a0.2.1), v33, v35]), p1, sv a2]) Tryz.func109 rfl 41 rfl (Nat.le_of_ble_eq_true rfl) (fun a S => ?_)
 refine wp_seq (region_plain ?_)
 refine lx_box S trivial (by decide) rfl H rfl rfl (fun b49 w50 H => ⟨trivial, fun a S => ?_⟩)
 refine lq (.slice none 0 0) S (q_assign rfl) fun a S => ?_
 refine lx_nil (thenN ?_)
 refine wp_seq (region_plain ?_)
 refine lq (.slice none 0 0) S (q_assign rfl) fun a S => ?_
 refine lx_nil (thenN ?_)
 refine wp_seq (wp_seq (region_plain ?_))
 refine lq (pAdd (bp b49) 3) S (q_fieldAddr' 3 28 rfl (isP_bp _) Tryz.underlying30 rfl Tryz.sizeOf28) fun a S => ?_
 refine lx_e v35 S trivial (by decide) rfl trivial (q_load1 rfl Tryz.isAgg28 (by rintro _ rfl; exact (At.of_add (m := 3) (j := 0) (boxAt (i := 0) H rfl (j := 3) rfl)))) (fun a S => ?_)
 refine lq (.int .i64 (a0.2.2.2.length : Int)) S (q_lenSl rfl (h36).isSl rfl Tryz.underlying28) fun a S => ?_
 refine lq (.int .i64 (0 : Int)) S (q_move rfl) fun a S => ?_
 refine lx_nil (thenN ?_)
 obtain ⟨res159, hit160, hk163⟩ := bind_some hm
 obtain ⟨f161, hf162, hit160⟩ := iter_name hit160
 refine block_loop (fun a w => ∃ (xs157 : List Int) (v156 : Value), Slots a 41 [(7, v156)] ∧ Heap w0 [oA (rList (rInt .i64)) v156 xs157] w ∧ res159 = .inl (xs157)) ?_ ?_
 ·rintro a w ⟨xs157, v156, S, H, rfl⟩
  have hm := ctl_inl hk163
  refine thenN ?_
  refine wp_seq (region_plain ?_)
  refine lq v156 S (q_move rfl) fun a S => ?_
  obtain ⟨x166, e167, hm⟩ := bind_some hm
  refine lx_call (xs := [.tmp 37]) S trivial (by decide) rfl rfl Tryz.call146 ((slices_Sort__int64_int64_ok H  e167).mono ?_)
  rintro e w164 ⟨rfl, H⟩
  refine ⟨_, rfl, trivial, fun a S => ?_⟩
  refine lx_nil (thenN ?_)
  refine wp_seq (region_plain ?_)
  refine lq v156 S (q_move rfl) fun a S => ?_
  obtain ⟨x170, e171, hm⟩ := bind_some hm
  refine lx_call (xs := [.tmp 39]) S trivial (by decide) rfl rfl Tryz.call147 ((slices_Compact__int64_int64_ok H  e171).mono ?_)
  rintro e w168 ⟨v172, rfl, H⟩
  refine ⟨_, rfl, trivial, fun a S => ?_⟩
  refine lq v172 S (q_assign rfl) fun a S => ?_
  refine lx_nil (thenN ?_)
  refine wp_ret ?_
  obtain rfl := Option.some.inj hm
  exact leave1 S rfl rfl ⟨v172, rfl, H⟩
 ·skip
  have H : Heap w0 [oA (rList (rInt .i64)) (.slice none 0 0) ([] : List Int), bA b49 [(.int .i64 a0.1), (.int .i64 a0.2.1), v33, v35] 30] w50 := H.nilList (rInt .i64)
  have H : Heap w0 [bA b49 [(.int .i64 a0.1), (.int .i64 a0.2.1), v33, v35] 30, oA (rList (rInt .i64)) (.slice none 0 0) ([] : List Int)] w50 := H.front 1 rfl
  refine loop_ghost (fun n a w => ∃ (xs104 : List Int) (x106 : Int) (v103 : Value), Slots a 41 [(1, p1), (2, (sv a2)), (3, (bp b49)), (7, v103), (11, v35), (12, (.int .i64 (a0.2.2.2.length : Int))), (13, (.int .i64 x106))] ∧ Heap w0 [bA b49 [(.int .i64 a0.1), (.int .i64 a0.2.1), v33, v35] 30, oA (rList (rInt .i64)) v103 xs104] w ∧ iter f161 n (xs104, x106) = some res159) _ ⟨[], (0 : Int), (.slice none 0 0), S.sub ⟨rfl, rfl, rfl, rfl, rfl, rfl, rfl, trivial⟩, H, hit160⟩ ?_
  rintro n a w ⟨xs104, x106, v103, S, H, hit160⟩
  obtain ⟨m175, o176, rfl, hm, hc177⟩ := iter_step hit160
  rw [hf162] at hm
  refine wp_seq (region_plain ?_)
  refine lq (.bool (decide (x106 < (a0.2.2.2.length : Int)))) S (q_lss rfl rfl) fun a S => ?_
  refine lx_nil (thenN ?_)
  refine wp_seq ?_
  refine cond_b S rfl (fun hc178 => ?_) (fun hc178 => ?_)
  ·have hm := ite_t hc178 hm
   refine wp_skip (thenN ?_)
   obtain ⟨K182, hK183, hm⟩ := join_elim hm
   refine seq_cut (fun a w => ∃ (xs180 : List Int) (v179 : Value), Slots a 41 [(1, p1), (2, (sv a2)), (3, (bp b49)), (7, v179), (11, v35), (12, (.int .i64 (a0.2.2.2.length : Int))), (13, (.int .i64 x106))] ∧ Heap w0 [bA b49 [(.int .i64 a0.1), (.int .i64 a0.2.1), v33, v35] 30, oA (rList (rInt .i64)) v179 xs180] w ∧ K182 xs180 = some o176) ?_ ?_
   ·rintro a w ⟨xs180, v179, S, H, hm⟩
    subst hK183
    refine region_plain ?_
    refine lq (.int .i64 (W (x106 + (1 : Int)))) S (q_add rfl rfl) fun a S => ?_
    refine lq (.int .i64 (W (x106 + (1 : Int)))) S (q_move rfl) fun a S => ?_
    refine lx_nil ?_
    exact ⟨m175, Nat.lt_succ_self _, xs180, (W (x106 + (1 : Int))), v179, S.sub ⟨rfl, rfl, rfl, rfl, rfl, rfl, rfl, trivial⟩, H, it_cont hm hc177⟩
   ·skip
    refine wp_block ?_
    refine wp_seq (region_plain ?_)
    obtain ⟨x184, e185, hm⟩ := bind_some hm
    obtain ⟨c186, h187, hat188⟩ := (h36).elem (idx_some e185).2
    obtain ⟨c189, c190, rfl, h191, h192⟩ := h187
    obtain rfl := h191
    obtain ⟨c193, c194, rfl, h195, h196⟩ := h192
    obtain rfl := h195
    obtain rfl := h196
    have hlt := lt_of_idx (idx_some e185).2
    refine lq (ePtr v35 (x106.toNat * 3)) S (q_indexAddr rfl (h36).isSl rfl (idx_some e185).1 hlt Tryz.underlying28 Tryz.sizeOf72) fun a S => ?_
    refine lx_e (.agg #[(.int .i64 x184.1), (.int .i64 x184.2.1), (.int .i64 x184.2.2)]) S trivial (by decide) rfl trivial (q_loadA (cs := [(.int .i64 x184.1), (.int .i64 x184.2.1), (.int .i64 x184.2.2)]) rfl ((hat188 0 _ rfl).isP) Tryz.isAgg72 Tryz.sizeOf72 (by rintro _ rfl; exact (fun j u hu => (hat188 j u hu).ext H.ext))) (fun a S => ?_)
    refine lx_alloc S trivial (by decide) rfl H Tryz.zeroValue72 rfl (fun b197 w198 H => ⟨trivial, fun a S => ?_⟩)
    refine lx_storeBox (o := 0) (i := 0) (us := [(.int .i64 x184.1), (.int .i64 x184.2.1), (.int .i64 x184.2.2)]) (cs' := [(.int .i64 x184.1), (.int .i64 x184.2.1), (.int .i64 x184.2.2)]) S trivial rfl H rfl rfl rfl rfl Tryz.sizeOf72 (Nat.le_of_ble_eq_true rfl) (List.forall_mem_cons.2 ⟨rfl, (List.forall_mem_cons.2 ⟨rfl, (List.forall_mem_cons.2 ⟨rfl, (fun _ h => nomatch h)⟩)⟩)⟩) rfl (fun w200 H => ⟨trivial, fun a S => ?_⟩)
    change Heap w0 [bA b197 [(.int .i64 x184.1), (.int .i64 x184.2.1), (.int .i64 x184.2.2)] 72, bA b49 [(.int .i64 a0.1), (.int .i64 a0.2.1), v33, v35] 30, oA (rList (rInt .i64)) v103 xs104] w200 at H
    refine lx_nil (thenN ?_)
    refine wp_seq (region_plain ?_)
    refine lq (pAdd (bp b49) 2) S (q_fieldAddr' 2 22 rfl (isP_bp _) Tryz.underlying30 rfl Tryz.sizeOf22) fun a S => ?_
    refine lx_e v33 S trivial (by decide) rfl trivial (q_load1 rfl Tryz.isAgg22 (by rintro _ rfl; exact (At.of_add (m := 2) (j := 0) (boxAt (i := 1) H rfl (j := 2) rfl)))) (fun a S => ?_)
    refine lq (pAdd (bp b197) 1) S (q_fieldAddr' 1 2 rfl (isP_bp _) Tryz.underlying72 rfl Tryz.sizeOf2) fun a S => ?_
    refine lx_e (.int .i64 x184.2.1) S trivial (by decide) rfl trivial (q_load1 rfl Tryz.isAgg2 (by rintro _ rfl; exact (At.of_add (m := 1) (j := 0) (boxAt (i := 0) H rfl (j := 1) rfl)))) (fun a S => ?_)
    obtain ⟨x201, e202, hm⟩ := bind_some hm
    obtain ⟨c203, h204, hat205⟩ := (h34).elem (idx_some e202).2
    obtain rfl := h204
    have hlt := lt_of_idx (idx_some e202).2
    refine lq (ePtr v33 (x184.2.1.toNat * 1)) S (q_indexAddr rfl (h34).isSl rfl (idx_some e202).1 hlt Tryz.underlying22 Tryz.sizeOf9) fun a S => ?_
    refine lx_e (sv x201) S trivial (by decide) rfl trivial (q_load1 rfl Tryz.isAgg9 (by rintro _ rfl; exact ((hat205 0 _ rfl).ext H.ext))) (fun a S => ?_)
    refine lq (sv a2) S (q_move rfl) fun a S => ?_
    refine lq (.bool (x201 == a2)) S (q_seql rfl rfl) fun a S => ?_
    refine lq (.bool (x201 == a2)) S (q_move rfl) fun a S => ?_
    obtain ⟨t206, e207, hm⟩ := bind_some hm
    refine lx_cut 5 (fun a w => Slots a 41 [(1, p1), (2, (sv a2)), (3, (bp b49)), (7, v103), (9, (bp b197)), (11, v35), (12, (.int .i64 (a0.2.2.2.length : Int))), (13, (.int .i64 x106)), (30, (.bool t206))] ∧ Heap w0 [bA b197 [(.int .i64 x184.1), (.int .i64 x184.2.1), (.int .i64 x184.2.2)] 72, bA b49 [(.int .i64 a0.1), (.int .i64 a0.2.1), v33, v35] 30, oA (rList (rInt .i64)) v103 xs104] w) ?_ ?_
    ·by_cases hc208 : (x201 == a2) = true
     ·have hm := ite_t hc208 e207
      refine lx_q p1 S (want_b rfl rfl hc208) (by decide) (q_move rfl) (fun a S => ?_)
      refine lx_q (pAdd (bp b197) 0) S (want_b rfl rfl hc208) (by decide) (q_fieldAddr' 0 2 rfl (isP_bp _) Tryz.underlying72 rfl Tryz.sizeOf2) (fun a S => ?_)
      refine lx_e (.int .i64 x184.1) S (want_b rfl rfl hc208) (by decide) rfl trivial (q_load1 rfl Tryz.isAgg2 (by rintro _ rfl; exact (At.of_add (m := 0) (j := 0) (boxAt (i := 0) H rfl (j := 0) rfl)))) (fun a S => ?_)
      obtain ⟨x211, e212, hm⟩ := bind_some hm
      refine lx_call (xs := [.tmp 26, .tmp 28]) S (want_b rfl rfl hc208) (by decide) rfl rfl Tryz.call145 ((slices_Contains__int64_int64_ok (H.arg h1)  e212).mono ?_)
      rintro e w209 ⟨rfl, Hc210⟩
      have H := H.call0 Hc210
      refine ⟨_, rfl, trivial, fun a S => ?_⟩
      refine lq (.bool x211) S (q_pickT' rfl hc208 rfl) fun a S => ?_
      refine lx_nil ?_
      obtain rfl := Option.some.inj hm
      exact ⟨S.sub ⟨rfl, rfl, rfl, rfl, rfl, rfl, rfl, rfl, rfl, trivial⟩, H⟩
     ·have hm := ite_f (eq_false_of_ne_true hc208) e207
      have hc208 : (x201 == a2) = false := eq_false_of_ne_true hc208
      refine lx_skip S rfl rfl (isB_ne hc208) (by decide) (fun a S => ?_)
      refine lx_skip S rfl rfl (isB_ne hc208) (by decide) (fun a S => ?_)
      refine lx_skip S rfl rfl (isB_ne hc208) (by decide) (fun a S => ?_)
      refine lx_skip S rfl rfl (isB_ne hc208) (by decide) (fun a S => ?_)
      refine lq (.bool false) S (q_pickF' rfl hc208 rfl) fun a S => ?_
      refine lx_nil ?_
      obtain rfl := Option.some.inj hm
      exact ⟨S.sub ⟨rfl, rfl, rfl, rfl, rfl, rfl, rfl, rfl, rfl, trivial⟩, H⟩
    ·rintro a w ⟨S, H⟩
     refine lx_nil (thenN ?_)
     refine cond_b S rfl (fun hc214 => ?_) (fun hc214 => ?_)
     ·have hm := ite_t hc214 hm
      refine region_plain ?_
      refine lq v103 S (q_move rfl) fun a S => ?_
      refine lq (pAdd (bp b197) 2) S (q_fieldAddr' 2 2 rfl (isP_bp _) Tryz.underlying72 rfl Tryz.sizeOf2) fun a S => ?_
      refine lx_e (.int .i64 x184.2.2) S trivial (by decide) rfl trivial (q_load1 rfl Tryz.isAgg2 (by rintro _ rfl; exact (At.of_add (m := 2) (j := 0) (boxAt (i := 0) H rfl (j := 2) rfl)))) (fun a S => ?_)
      refine lx_buildSlice (r := (rInt .i64)) (xs := [x184.2.2]) (ps := [(0, [(.int .i64 x184.2.2)])]) (cs := [(.int .i64 x184.2.2)]) (parts := [(0, .tmp 33)]) S trivial (by decide) rfl (H.put0 (A := eA) rfl) rfl Tryz.underlying34 Tryz.sizeOf2 Tryz.zeroValue2 (by decide) ⟨rfl, rfl, Nat.le_of_ble_eq_true rfl, trivial⟩ (by intro zs hz; exact fill_dense hz ⟨rfl, trivial⟩ rfl rfl) rfl (by decide) (fun w F hA => by cases (show F = [] from hA); exact ⟨_, _, [(.int .i64 x184.2.2)], _, rfl, rfl, ⟨rfl, rfl⟩, ⟨rfl, rfl⟩⟩) (fun v215 w216 H => ⟨trivial, fun a S => ?_⟩)
      obtain ⟨x218, e219, hm⟩ := bind_some hm
      obtain ⟨hle, hap⟩ := app_some e219
      replace hap := hap.symm
      subst hap
      have H : Heap w0 [oA (rList (rInt .i64)) v215 [x184.2.2], bA b197 [(.int .i64 x184.1), (.int .i64 x184.2.1), (.int .i64 x184.2.2)] 72, bA b49 [(.int .i64 a0.1), (.int .i64 a0.2.1), v33, v35] 30, oA (rList (rInt .i64)) v103 xs104] w216 := H.front 0 rfl
      have H : Heap w0 [oA (rList (rInt .i64)) v103 xs104, oA (rList (rInt .i64)) v215 [x184.2.2], bA b197 [(.int .i64 x184.1), (.int .i64 x184.2.1), (.int .i64 x184.2.2)] 72, bA b49 [(.int .i64 a0.1), (.int .i64 a0.2.1), v33, v35] 30] w216 := H.front 3 rfl
      refine lx_appendOwn (r := (rInt .i64)) S trivial (by decide) rfl H rfl rfl Tryz.underlying34 Tryz.ti2 rfl rfl rfl (by decide) (by decide) hle (fun v220 w221 H => ⟨trivial, fun a S => ?_⟩)
      refine lq v220 S (q_assign rfl) fun a S => ?_
      refine lx_nil ?_
      refine inBlock_norm ?_
      have H : Heap w0 [bA b49 [(.int .i64 a0.1), (.int .i64 a0.2.1), v33, v35] 30, oA (rList (rInt .i64)) v220 (xs104 ++ [x184.2.2]), bA b197 [(.int .i64 x184.1), (.int .i64 x184.2.1), (.int .i64 x184.2.2)] 72] w221 := H.front 2 rfl
      have H : Heap w0 [bA b49 [(.int .i64 a0.1), (.int .i64 a0.2.1), v33, v35] 30, oA (rList (rInt .i64)) v220 (xs104 ++ [x184.2.2])] w221 := H.sel [0, 1] (by decide)
      exact ⟨(xs104 ++ [x184.2.2]), v220, S.sub ⟨rfl, rfl, rfl, rfl, rfl, rfl, rfl, trivial⟩, H, hm⟩
     ·have hm := ite_f hc214 hm
      refine wp_skip ?_
      refine inBlock_norm ?_
      have H : Heap w0 [bA b49 [(.int .i64 a0.1), (.int .i64 a0.2.1), v33, v35] 30, oA (rList (rInt .i64)) v103 xs104] w := H.sel [1, 2] (by decide)
      exact ⟨xs104, v103, S.sub ⟨rfl, rfl, rfl, rfl, rfl, rfl, rfl, trivial⟩, H, hm⟩
  ·have hm := ite_f hc178 hm
   refine wp_exit ?_
   refine then_exit ?_
   refine then_exit ?_
   refine inBlock_exit ?_
   obtain rfl := it_brk hm hc177
   have H : Heap w0 [oA (rList (rInt .i64)) v103 xs104] w := H.sel [1] (by decide)
   exact ⟨xs104, v103, S.sub ⟨rfl, trivial⟩, H, rfl⟩
end Go.Proofs.YtkgkfbmcnchdbaaGreatDoor
