/- The models of some functions and their walks (printed by a program of this repo). -/
import Derived.Test.YtelpejcnlekaoaaGreatDoorF0
import Derived.Test.YtelpejcnlekaoaaGreatDoorF3
import Derived.Test.YtelpejcnlekaoaaGreatDoorFS
import Derived.Test.YtelpejcnlekaoaaGreatDoorGxT
import Derived.Test.YtelpejcnlekaoaaGreatDoorGxY
namespace Go.Proofs.YtelpejcnlekaoaaGreatDoor
open Go.RowKit Go.Gx

/-- (impl.Lts).follow -/
def impl_Lts_follow_m (fuel : Nat) (a0 : Timpl_Lts) (a1 : (List Int)) (a2 : Str) : Option ((List Int)) :=
  (iter (fun (s : (List Int) × (Int)) => (match s with | (xs104, x106) => (if (decide (x106 < (a0.2.2.2.length : Int))) = true then join (κ := List Int → Option (((List Int) × (Int)) ⊕ (((List Int)) ⊕ ((List Int))))) (fun (xs180 : List Int) => some (.inl (xs180, (W (x106 + (1 : Int)))))) (fun K182 => (idx a0.2.2.2 x106).bind fun x184 => (idx a0.2.2.1 x184.2.1).bind fun x201 => (if (x201 == a2) = true then (slices_Contains__int64_int64_m fuel a1 x184.1).bind fun x211 => some x211 else some false).bind fun t206 => (if t206 = true then (app xs104 [x184.2.2]).bind fun x218 => (K182 x218) else (K182 xs104))) else some (.inr (.inl (xs104)))) : Option (((List Int) × (Int)) ⊕ (((List Int)) ⊕ ((List Int)))))) fuel ([], (0 : Int))).bind fun res159 => ctl (β := (List Int)) (ρ := (List Int)) (τ := (List Int)) res159 (fun (xs157) => (slices_Sort__int64_int64_m fuel xs157).bind fun x166 => (slices_Compact__int64_int64_m fuel x166).bind fun x170 => some (x170)) (fun q => some (q))
set_option maxRecDepth 20000 in
theorem impl_Lts_follow_ok {w0 : World} {fuel : Nat} {p0 p1 : Value} {a0 : Timpl_Lts} {a1 : (List Int)} {a2 : Str} {r : (List Int)} (h0 : Rd Rimpl_Lts w0 p0 a0) (h1 : Rd (rList (rInt .i64)) w0 p1 a1) (hm : impl_Lts_follow_m fuel a0 a1 a2 = some r) :
  Calls Tryz.prog 63 #[p0, p1, sv a2] w0 fun e w => ∃ (v0 : Value), e = .returned (v0) ∧ Heap w0 [oA (rList (rInt .i64)) v0 r] w := by
 unfold impl_Lts_follow_m at hm
 have H := Heap.start w0
 obtain ⟨c31, rfl, h32⟩ := h0
 obtain ⟨c37, c38, rfl, h39, h40⟩ := h32
 obtain rfl := h39
 obtain ⟨c41, c42, rfl, h43, h44⟩ := h40
 obtain rfl := h43
 obtain ⟨c45, c46, rfl, h47, h48⟩ := h44
 obtain ⟨v33, rfl, h34⟩ := rd_list h47
 obtain ⟨v35, rfl, h36⟩ := rd_list h48
 refine enter (args := [(.agg #[(.int .i64 a0.1), (.int .i64 a0.2.1), v33, v35]), p1, sv a2]) Tryz.func63 rfl 41 rfl (Nat.le_of_ble_eq_true rfl) (fun a S => ?_)
 refine wp_seq (region_plain ?_)
 refine lx_box S trivial (by decide) rfl H rfl rfl (fun b49 w50 H => ⟨trivial, fun a S => ?_⟩)
 refine lq (.slice none 0 0) S (q_assign rfl) fun a S => ?_
 refine lx_nil (thenN ?_)
 refine wp_seq (region_plain ?_)
 refine lq (.slice none 0 0) S (q_assign rfl) fun a S => ?_
 refine lx_nil (thenN ?_)
 refine wp_seq (wp_seq (region_plain ?_))
 refine lq (pAdd (bp b49) 3) S (q_fieldAddr' 3 27 rfl (isP_bp _) Tryz.underlying29 rfl Tryz.sizeOf27) fun a S => ?_
 refine lx_e v35 S trivial (by decide) rfl trivial (q_load1 rfl Tryz.isAgg27 (by rintro _ rfl; exact (At.of_add (m := 3) (j := 0) (boxAt (i := 0) H rfl (j := 3) rfl)))) (fun a S => ?_)
 refine lq (.int .i64 (a0.2.2.2.length : Int)) S (q_lenSl rfl (h36).isSl rfl Tryz.underlying27) fun a S => ?_
 refine lq (.int .i64 (0 : Int)) S (q_move rfl) fun a S => ?_
 refine lx_nil (thenN ?_)
 obtain ⟨res159, hit160, hk163⟩ := bind_some hm
 obtain ⟨f161, hf162, hit160⟩ := iter_name hit160
 refine block_loop (fun a w => ∃ (xs157 : List Int) (v156 : Value), Slots a 41 [(7, v156)] ∧ Heap w0 [oA (rList (rInt .i64)) v156 xs157] w ∧ res159 = .inl (xs157)) ?_ ?_
 ·rintro a w ⟨xs157, v156, S, H, rfl⟩
  have hm := ctl_inl hk163
  refine thenN ?_
  refine wp_seq (region_plain ?_)
  refine lq v156 S (q_move rfl) fun a S => ?_
  obtain ⟨x166, e167, hm⟩ := bind_some hm
  refine lx_call (xs := [.tmp 37]) S trivial (by decide) rfl rfl Tryz.call64 ((slices_Sort__int64_int64_ok H  e167).mono ?_)
  rintro e w164 ⟨rfl, H⟩
  refine ⟨_, rfl, trivial, fun a S => ?_⟩
  refine lx_nil (thenN ?_)
  refine wp_seq (region_plain ?_)
  refine lq v156 S (q_move rfl) fun a S => ?_
  obtain ⟨x170, e171, hm⟩ := bind_some hm
  refine lx_call (xs := [.tmp 39]) S trivial (by decide) rfl rfl Tryz.call72 ((slices_Compact__int64_int64_ok H  e171).mono ?_)
  rintro e w168 ⟨v172, rfl, H⟩
  refine ⟨_, rfl, trivial, fun a S => ?_⟩
  refine lq v172 S (q_assign rfl) fun a S => ?_
  refine lx_nil (thenN ?_)
  refine wp_ret ?_
  obtain rfl := Option.some.inj hm
  exact leave1 S rfl rfl ⟨v172, rfl, H⟩
 ·skip
  have H : Heap w0 [oA (rList (rInt .i64)) (.slice none 0 0) ([] : List Int), bA b49 [(.int .i64 a0.1), (.int .i64 a0.2.1), v33, v35] 29] w50 := H.nilList (rInt .i64)
  have H : Heap w0 [bA b49 [(.int .i64 a0.1), (.int .i64 a0.2.1), v33, v35] 29, oA (rList (rInt .i64)) (.slice none 0 0) ([] : List Int)] w50 := H.front 1 rfl
  refine loop_ghost (fun n a w => ∃ (xs104 : List Int) (x106 : Int) (v103 : Value), Slots a 41 [(1, p1), (2, (sv a2)), (3, (bp b49)), (7, v103), (11, v35), (12, (.int .i64 (a0.2.2.2.length : Int))), (13, (.int .i64 x106))] ∧ Heap w0 [bA b49 [(.int .i64 a0.1), (.int .i64 a0.2.1), v33, v35] 29, oA (rList (rInt .i64)) v103 xs104] w ∧ iter f161 n (xs104, x106) = some res159) _ ⟨[], (0 : Int), (.slice none 0 0), S.sub ⟨rfl, rfl, rfl, rfl, rfl, rfl, rfl, trivial⟩, H, hit160⟩ ?_
  rintro n a w ⟨xs104, x106, v103, S, H, hit160⟩
  obtain ⟨m175, o176, rfl, hm, hc177⟩ := iter_step hit160
  rw [hf162] at hm
  refine wp_seq (region_plain ?_)
  refine lq (.bool (decide (x106 < (a0.2.2.2.length : Int)))) S (q_lss rfl rfl) fun a S => ?_
  refine lx_nil (thenN ?_)
  refine wp_seq ?_
  refine cond_b S rfl (fun hc178 => ?_) (fun hc178 => ?_)
  ·have hm := ite_t hc178 hm
   refine wp_skip (thenN ?_)
   obtain ⟨K182, hK183, hm⟩ := join_elim hm
   refine seq_cut (fun a w => ∃ (xs180 : List Int) (v179 : Value), Slots a 41 [(1, p1), (2, (sv a2)), (3, (bp b49)), (7, v179), (11, v35), (12, (.int .i64 (a0.2.2.2.length : Int))), (13, (.int .i64 x106))] ∧ Heap w0 [bA b49 [(.int .i64 a0.1), (.int .i64 a0.2.1), v33, v35] 29, oA (rList (rInt .i64)) v179 xs180] w ∧ K182 xs180 = some o176) ?_ ?_
   ·rintro a w ⟨xs180, v179, S, H, hm⟩
    subst hK183
    refine region_plain ?_
    refine lq (.int .i64 (W (x106 + (1 : Int)))) S (q_add rfl rfl) fun a S => ?_
    refine lq (.int .i64 (W (x106 + (1 : Int)))) S (q_move rfl) fun a S => ?_
    refine lx_nil ?_
    exact ⟨m175, Nat.lt_succ_self _, xs180, (W (x106 + (1 : Int))), v179, S.sub ⟨rfl, rfl, rfl, rfl, rfl, rfl, rfl, trivial⟩, H, it_cont hm hc177⟩
   ·skip
    refine wp_block ?_
    refine wp_seq (region_plain ?_)
    obtain ⟨x184, e185, hm⟩ := bind_some hm
    obtain ⟨c186, h187, hat188⟩ := (h36).elem (idx_some e185).2
    obtain ⟨c189, c190, rfl, h191, h192⟩ := h187
    obtain rfl := h191
    obtain ⟨c193, c194, rfl, h195, h196⟩ := h192
    obtain rfl := h195
    obtain rfl := h196
    have hlt := lt_of_idx (idx_some e185).2
    refine lq (ePtr v35 (x106.toNat * 3)) S (q_indexAddr rfl (h36).isSl rfl (idx_some e185).1 hlt Tryz.underlying27 Tryz.sizeOf62) fun a S => ?_
    refine lx_e (.agg #[(.int .i64 x184.1), (.int .i64 x184.2.1), (.int .i64 x184.2.2)]) S trivial (by decide) rfl trivial (q_loadA (cs := [(.int .i64 x184.1), (.int .i64 x184.2.1), (.int .i64 x184.2.2)]) rfl ((hat188 0 _ rfl).isP) Tryz.isAgg62 Tryz.sizeOf62 (by rintro _ rfl; exact (fun j u hu => (hat188 j u hu).ext H.ext))) (fun a S => ?_)
    refine lx_alloc S trivial (by decide) rfl H Tryz.zeroValue62 rfl (fun b197 w198 H => ⟨trivial, fun a S => ?_⟩)
    refine lx_storeBox (o := 0) (i := 0) (us := [(.int .i64 x184.1), (.int .i64 x184.2.1), (.int .i64 x184.2.2)]) (cs' := [(.int .i64 x184.1), (.int .i64 x184.2.1), (.int .i64 x184.2.2)]) S trivial rfl H rfl rfl rfl rfl Tryz.sizeOf62 (Nat.le_of_ble_eq_true rfl) (List.forall_mem_cons.2 ⟨rfl, (List.forall_mem_cons.2 ⟨rfl, (List.forall_mem_cons.2 ⟨rfl, (fun _ h => nomatch h)⟩)⟩)⟩) rfl (fun w200 H => ⟨trivial, fun a S => ?_⟩)
    change Heap w0 [bA b197 [(.int .i64 x184.1), (.int .i64 x184.2.1), (.int .i64 x184.2.2)] 62, bA b49 [(.int .i64 a0.1), (.int .i64 a0.2.1), v33, v35] 29, oA (rList (rInt .i64)) v103 xs104] w200 at H
    refine lx_nil (thenN ?_)
    refine wp_seq (region_plain ?_)
    refine lq (pAdd (bp b49) 2) S (q_fieldAddr' 2 22 rfl (isP_bp _) Tryz.underlying29 rfl Tryz.sizeOf22) fun a S => ?_
    refine lx_e v33 S trivial (by decide) rfl trivial (q_load1 rfl Tryz.isAgg22 (by rintro _ rfl; exact (At.of_add (m := 2) (j := 0) (boxAt (i := 1) H rfl (j := 2) rfl)))) (fun a S => ?_)
    refine lq (pAdd (bp b197) 1) S (q_fieldAddr' 1 2 rfl (isP_bp _) Tryz.underlying62 rfl Tryz.sizeOf2) fun a S => ?_
    refine lx_e (.int .i64 x184.2.1) S trivial (by decide) rfl trivial (q_load1 rfl Tryz.isAgg2 (by rintro _ rfl; exact (At.of_add (m := 1) (j := 0) (boxAt (i := 0) H rfl (j := 1) rfl)))) (fun a S => ?_)
    obtain ⟨x201, e202, hm⟩ := bind_some hm
    obtain ⟨c203, h204, hat205⟩ := (h34).elem (idx_some e202).2
    obtain rfl := h204
    have hlt := lt_of_idx (idx_some e202).2
    refine lq (ePtr v33 (x184.2.1.toNat * 1)) S (q_indexAddr rfl (h34).isSl rfl (idx_some e202).1 hlt Tryz.underlying22 Tryz.sizeOf9) fun a S => ?_
    refine lx_e (sv x201) S trivial (by decide) rfl trivial (q_load1 rfl Tryz.isAgg9 (by rintro _ rfl; exact ((hat205 0 _ rfl).ext H.ext))) (fun a S => ?_)
    refine lq (sv a2) S (q_move rfl) fun a S => ?_
    refine lq (.bool (x201 == a2)) S (q_seql rfl rfl) fun a S => ?_
    refine lq (.bool (x201 == a2)) S (q_move rfl) fun a S => ?_
    obtain ⟨t206, e207, hm⟩ := bind_some hm
    refine lx_cut 5 (fun a w => Slots a 41 [(1, p1), (2, (sv a2)), (3, (bp b49)), (7, v103), (9, (bp b197)), (11, v35), (12, (.int .i64 (a0.2.2.2.length : Int))), (13, (.int .i64 x106)), (30, (.bool t206))] ∧ Heap w0 [bA b197 [(.int .i64 x184.1), (.int .i64 x184.2.1), (.int .i64 x184.2.2)] 62, bA b49 [(.int .i64 a0.1), (.int .i64 a0.2.1), v33, v35] 29, oA (rList (rInt .i64)) v103 xs104] w) ?_ ?_
    ·by_cases hc208 : (x201 == a2) = true
     ·have hm := ite_t hc208 e207
      refine lx_q p1 S (want_b rfl rfl hc208) (by decide) (q_move rfl) (fun a S => ?_)
      refine lx_q (pAdd (bp b197) 0) S (want_b rfl rfl hc208) (by decide) (q_fieldAddr' 0 2 rfl (isP_bp _) Tryz.underlying62 rfl Tryz.sizeOf2) (fun a S => ?_)
      refine lx_e (.int .i64 x184.1) S (want_b rfl rfl hc208) (by decide) rfl trivial (q_load1 rfl Tryz.isAgg2 (by rintro _ rfl; exact (At.of_add (m := 0) (j := 0) (boxAt (i := 0) H rfl (j := 0) rfl)))) (fun a S => ?_)
      obtain ⟨x211, e212, hm⟩ := bind_some hm
      refine lx_call (xs := [.tmp 26, .tmp 28]) S (want_b rfl rfl hc208) (by decide) rfl rfl Tryz.call35 ((slices_Contains__int64_int64_ok (H.arg h1)  e212).mono ?_)
      rintro e w209 ⟨rfl, Hc210⟩
      have H := H.call0 Hc210
      refine ⟨_, rfl, trivial, fun a S => ?_⟩
      refine lq (.bool x211) S (q_pickT' rfl hc208 rfl) fun a S => ?_
      refine lx_nil ?_
      obtain rfl := Option.some.inj hm
      exact ⟨S.sub ⟨rfl, rfl, rfl, rfl, rfl, rfl, rfl, rfl, rfl, trivial⟩, H⟩
     ·have hm := ite_f (eq_false_of_ne_true hc208) e207
      have hc208 : (x201 == a2) = false := eq_false_of_ne_true hc208
      refine lx_skip S rfl rfl (isB_ne hc208) (by decide) (fun a S => ?_)
      refine lx_skip S rfl rfl (isB_ne hc208) (by decide) (fun a S => ?_)
      refine lx_skip S rfl rfl (isB_ne hc208) (by decide) (fun a S => ?_)
      refine lx_skip S rfl rfl (isB_ne hc208) (by decide) (fun a S => ?_)
      refine lq (.bool false) S (q_pickF' rfl hc208 rfl) fun a S => ?_
      refine lx_nil ?_
      obtain rfl := Option.some.inj hm
      exact ⟨S.sub ⟨rfl, rfl, rfl, rfl, rfl, rfl, rfl, rfl, rfl, trivial⟩, H⟩
    ·rintro a w ⟨S, H⟩
     refine lx_nil (thenN ?_)
     refine cond_b S rfl (fun hc214 => ?_) (fun hc214 => ?_)
     ·have hm := ite_t hc214 hm
      refine region_plain ?_
      refine lq v103 S (q_move rfl) fun a S => ?_
      refine lq (pAdd (bp b197) 2) S (q_fieldAddr' 2 2 rfl (isP_bp _) Tryz.underlying62 rfl Tryz.sizeOf2) fun a S => ?_
      refine lx_e (.int .i64 x184.2.2) S trivial (by decide) rfl trivial (q_load1 rfl Tryz.isAgg2 (by rintro _ rfl; exact (At.of_add (m := 2) (j := 0) (boxAt (i := 0) H rfl (j := 2) rfl)))) (fun a S => ?_)
      refine lx_buildSlice (r := (rInt .i64)) (xs := [x184.2.2]) (ps := [(0, [(.int .i64 x184.2.2)])]) (cs := [(.int .i64 x184.2.2)]) (parts := [(0, .tmp 33)]) S trivial (by decide) rfl (H.put0 (A := eA) rfl) rfl Tryz.underlying36 Tryz.sizeOf2 Tryz.zeroValue2 (by decide) ⟨rfl, rfl, Nat.le_of_ble_eq_true rfl, trivial⟩ (by intro zs hz; exact fill_dense hz ⟨rfl, trivial⟩ rfl rfl) rfl (by decide) (fun w F hA => by cases (show F = [] from hA); exact ⟨_, _, [(.int .i64 x184.2.2)], _, rfl, rfl, ⟨rfl, rfl⟩, ⟨rfl, rfl⟩⟩) (fun v215 w216 H => ⟨trivial, fun a S => ?_⟩)
      obtain ⟨x218, e219, hm⟩ := bind_some hm
      obtain ⟨hle, hap⟩ := app_some e219
      replace hap := hap.symm
      subst hap
      have H : Heap w0 [oA (rList (rInt .i64)) v215 [x184.2.2], bA b197 [(.int .i64 x184.1), (.int .i64 x184.2.1), (.int .i64 x184.2.2)] 62, bA b49 [(.int .i64 a0.1), (.int .i64 a0.2.1), v33, v35] 29, oA (rList (rInt .i64)) v103 xs104] w216 := H.front 0 rfl
      have H : Heap w0 [oA (rList (rInt .i64)) v103 xs104, oA (rList (rInt .i64)) v215 [x184.2.2], bA b197 [(.int .i64 x184.1), (.int .i64 x184.2.1), (.int .i64 x184.2.2)] 62, bA b49 [(.int .i64 a0.1), (.int .i64 a0.2.1), v33, v35] 29] w216 := H.front 3 rfl
      refine lx_appendOwn (r := (rInt .i64)) S trivial (by decide) rfl H rfl rfl Tryz.underlying36 Tryz.ti2 rfl rfl rfl (by decide) (by decide) hle (fun v220 w221 H => ⟨trivial, fun a S => ?_⟩)
      refine lq v220 S (q_assign rfl) fun a S => ?_
      refine lx_nil ?_
      refine inBlock_norm ?_
      have H : Heap w0 [bA b49 [(.int .i64 a0.1), (.int .i64 a0.2.1), v33, v35] 29, oA (rList (rInt .i64)) v220 (xs104 ++ [x184.2.2]), bA b197 [(.int .i64 x184.1), (.int .i64 x184.2.1), (.int .i64 x184.2.2)] 62] w221 := H.front 2 rfl
      have H : Heap w0 [bA b49 [(.int .i64 a0.1), (.int .i64 a0.2.1), v33, v35] 29, oA (rList (rInt .i64)) v220 (xs104 ++ [x184.2.2])] w221 := H.sel [0, 1] (by decide)
      exact ⟨(xs104 ++ [x184.2.2]), v220, S.sub ⟨rfl, rfl, rfl, rfl, rfl, rfl, rfl, trivial⟩, H, hm⟩
     ·have hm := ite_f hc214 hm
      refine wp_skip ?_
      refine inBlock_norm ?_
      have H : Heap w0 [bA b49 [(.int .i64 a0.1), (.int .i64 a0.2.1), v33, v35] 29, oA (rList (rInt .i64)) v103 xs104] w := H.sel [1, 2] (by decide)
      exact ⟨xs104, v103, S.sub ⟨rfl, rfl, rfl, rfl, rfl, rfl, rfl, trivial⟩, H, hm⟩
  ·have hm := ite_f hc178 hm
   refine wp_exit ?_
   refine then_exit ?_
   refine then_exit ?_
   refine inBlock_exit ?_
   obtain rfl := it_brk hm hc177
   have H : Heap w0 [oA (rList (rInt .i64)) v103 xs104] w := H.sel [1] (by decide)
   exact ⟨xs104, v103, S.sub ⟨rfl, trivial⟩, H, rfl⟩

/-- (impl.Lts).internal -/
def impl_Lts_internal_m (fuel : Nat) (a0 : Timpl_Lts) (a1 : (List Int)) : Option ((List Int)) :=
  (slices_Clone__int64_int64_m fuel a1).bind fun x54 => (iter (fun (s : (List Int) × (Int)) => (match s with | (xs177, x179) => (if (decide (x179 < (xs177.length : Int))) = true then (idx xs177 x179).bind fun x315 => (impl_Lts_follow_m fuel (a0.1, a0.2.1, a0.2.2.1, a0.2.2.2) [x315] ([116, 97, 117] : Str)).bind fun x322 => (iter (fun (s : (List Int) × (Int)) => (match s with | (xs357, x359) => (if (decide (x359 < (x322.length : Int))) = true then join (κ := List Int → Option (((List Int) × (Int)) ⊕ (((List Int)) ⊕ ((List Int))))) (fun (xs402 : List Int) => some (.inl (xs402, (W (x359 + (1 : Int)))))) (fun K404 => (idx x322 x359).bind fun x406 => (slices_Contains__int64_int64_m fuel xs357 x406).bind fun x413 => (if (!x413) = true then (app xs357 [x406]).bind fun x420 => (K404 x420) else (K404 xs357))) else some (.inr (.inl (xs357)))) : Option (((List Int) × (Int)) ⊕ (((List Int)) ⊕ ((List Int)))))) fuel (xs177, (0 : Int))).bind fun res392 => ctl (β := (List Int)) (ρ := (List Int)) (τ := (((List Int) × (Int)) ⊕ (((List Int)) ⊕ ((List Int))))) res392 (fun (xs390) => some (.inl (xs390, (W (x179 + (1 : Int)))))) (fun q => some (.inr (.inr q))) else some (.inr (.inl (xs177)))) : Option (((List Int) × (Int)) ⊕ (((List Int)) ⊕ ((List Int)))))) fuel (x54, (0 : Int))).bind fun res300 => ctl (β := (List Int)) (ρ := (List Int)) (τ := (List Int)) res300 (fun (xs298) => (slices_Sort__int64_int64_m fuel xs298).bind fun x307 => some (x307)) (fun q => some (q))
set_option maxRecDepth 20000 in
theorem impl_Lts_internal_ok {w0 : World} {fuel : Nat} {p0 p1 : Value} {a0 : Timpl_Lts} {a1 : (List Int)} {r : (List Int)} (h0 : Rd Rimpl_Lts w0 p0 a0) (h1 : Rd (rList (rInt .i64)) w0 p1 a1) (hm : impl_Lts_internal_m fuel a0 a1 = some r) :
  Calls Tryz.prog 53 #[p0, p1] w0 fun e w => ∃ (v0 : Value), e = .returned (v0) ∧ Heap w0 [oA (rList (rInt .i64)) v0 r] w := by
 unfold impl_Lts_internal_m at hm
 have H := Heap.start w0
 obtain ⟨c31, rfl, h32⟩ := h0
 obtain ⟨c37, c38, rfl, h39, h40⟩ := h32
 obtain rfl := h39
 obtain ⟨c41, c42, rfl, h43, h44⟩ := h40
 obtain rfl := h43
 obtain ⟨c45, c46, rfl, h47, h48⟩ := h44
 obtain ⟨v33, rfl, h34⟩ := rd_list h47
 obtain ⟨v35, rfl, h36⟩ := rd_list h48
 refine enter (args := [(.agg #[(.int .i64 a0.1), (.int .i64 a0.2.1), v33, v35]), p1]) Tryz.func53 rfl 41 rfl (Nat.le_of_ble_eq_true rfl) (fun a S => ?_)
 refine wp_seq (region_plain ?_)
 refine lx_box S trivial (by decide) rfl H rfl rfl (fun b49 w50 H => ⟨trivial, fun a S => ?_⟩)
 refine lq (.slice none 0 0) S (q_assign rfl) fun a S => ?_
 refine lx_nil (thenN ?_)
 refine wp_seq (region_plain ?_)
 refine lq p1 S (q_move rfl) fun a S => ?_
 obtain ⟨x54, e55, hm⟩ := bind_some hm
 refine lx_call (xs := [.tmp 9]) S trivial (by decide) rfl rfl Tryz.call62 ((slices_Clone__int64_int64_ok (H.arg h1) e55).mono ?_)
 rintro e w52 ⟨v56, rfl, Hc53⟩
 have H := H.call1 Hc53
 refine ⟨_, rfl, trivial, fun a S => ?_⟩
 refine lq v56 S (q_assign rfl) fun a S => ?_
 refine lx_nil (thenN ?_)
 refine wp_seq (wp_seq (region_plain ?_))
 refine lq (.int .i64 (0 : Int)) S (q_assign rfl) fun a S => ?_
 refine lx_nil (thenN ?_)
 obtain ⟨res300, hit301, hk304⟩ := bind_some hm
 obtain ⟨f302, hf303, hit301⟩ := iter_name hit301
 refine block_loop (fun a w => ∃ (xs298 : List Int) (v297 : Value), Slots a 41 [(5, v297)] ∧ Heap w0 [oA (rList (rInt .i64)) v297 xs298] w ∧ res300 = .inl (xs298)) ?_ ?_
 ·rintro a w ⟨xs298, v297, S, H, rfl⟩
  have hm := ctl_inl hk304
  refine thenN ?_
  refine wp_seq (region_plain ?_)
  refine lq v297 S (q_move rfl) fun a S => ?_
  obtain ⟨x307, e308, hm⟩ := bind_some hm
  refine lx_call (xs := [.tmp 38]) S trivial (by decide) rfl rfl Tryz.call64 ((slices_Sort__int64_int64_ok H  e308).mono ?_)
  rintro e w305 ⟨rfl, H⟩
  refine ⟨_, rfl, trivial, fun a S => ?_⟩
  refine lx_nil (thenN ?_)
  refine wp_seq (region_plain ?_)
  refine lq v297 S (q_move rfl) fun a S => ?_
  refine lq v297 S (q_assign rfl) fun a S => ?_
  refine lx_nil (thenN ?_)
  refine wp_ret ?_
  obtain rfl := Option.some.inj hm
  exact leave1 S rfl rfl ⟨v297, rfl, H⟩
 ·skip
  have H : Heap w0 [bA b49 [(.int .i64 a0.1), (.int .i64 a0.2.1), v33, v35] 29, oA (rList (rInt .i64)) v56 x54] w52 := H.front 1 rfl
  refine loop_ghost (fun n a w => ∃ (xs177 : List Int) (x179 : Int) (v176 : Value), Slots a 41 [(2, (bp b49)), (5, v176), (6, (.int .i64 x179))] ∧ Heap w0 [bA b49 [(.int .i64 a0.1), (.int .i64 a0.2.1), v33, v35] 29, oA (rList (rInt .i64)) v176 xs177] w ∧ iter f302 n (xs177, x179) = some res300) _ ⟨x54, (0 : Int), v56, S.sub ⟨rfl, rfl, rfl, trivial⟩, H, hit301⟩ ?_
  rintro n a w ⟨xs177, x179, v176, S, H, hit301⟩
  obtain ⟨m309, o310, rfl, hm, hc311⟩ := iter_step hit301
  rw [hf303] at hm
  refine wp_seq (wp_seq (region_plain ?_))
  refine lq (.int .i64 x179) S (q_move rfl) fun a S => ?_
  refine lq v176 S (q_move rfl) fun a S => ?_
  refine lq (.int .i64 (xs177.length : Int)) S (q_lenSl rfl (H.isSl 1 rfl) rfl Tryz.underlying36) fun a S => ?_
  refine lq (.bool (decide (x179 < (xs177.length : Int)))) S (q_lss rfl rfl) fun a S => ?_
  refine lx_nil (thenN ?_)
  refine cond_b S rfl (fun hc312 => ?_) (fun hc312 => ?_)
  ·have hm := ite_t hc312 hm
   refine wp_skip (thenN ?_)
   refine wp_seq ?_
   refine wp_block ?_
   refine wp_seq ?_
   refine region_drawG (fun w1 => Heap w0 [bA b49 [(.int .i64 a0.1), (.int .i64 a0.2.1), v33, v35] 29, oA (rList (rInt .i64)) v176 xs177] w1) (fun i => [5, 6].contains i) mixed (by kernel_rfl) (fun w314 he313 => ?_)
   have H := H.later he313
   refine ⟨H.sel [0, 1] (by decide), ?_⟩
   refine lq (.agg #[(.int .i64 a0.1), (.int .i64 a0.2.1), v33, v35]) S (q_loadA (cs := [(.int .i64 a0.1), (.int .i64 a0.2.1), v33, v35]) rfl (isP_bp _) Tryz.isAgg29 Tryz.sizeOf29 (fun w1 hC => (fun j u hu => boxAt (i := 0) hC rfl hu))) fun a S => ?_
   refine lq v176 S (q_move rfl) fun a S => ?_
   refine lq (.int .i64 x179) S (q_move rfl) fun a S => ?_
   obtain ⟨x315, e316, hm⟩ := bind_some hm
   have hlt := lt_of_idx (idx_some e316).2
   refine lq (ePtr v176 (x179.toNat * 1)) S (q_indexAddr rfl (H.isSl 1 rfl) rfl (idx_some e316).1 hlt Tryz.underlying36 Tryz.sizeOf2) fun a S => ?_
   refine lq (.int .i64 x315) S (q_load1 rfl Tryz.isAgg2 (fun w1 hC => ((hC.rdAt 1 rfl).elemAt (j := 0) (idx_some e316).2 (by intro B w cs h; obtain rfl := h; rfl)))) fun a S => ?_
   refine lx_buildSlice (r := (rInt .i64)) (xs := [x315]) (ps := [(0, [(.int .i64 x315)])]) (cs := [(.int .i64 x315)]) (parts := [(0, .tmp 21)]) S trivial (by decide) rfl (H.put0 (A := eA) rfl) rfl Tryz.underlying36 Tryz.sizeOf2 Tryz.zeroValue2 (by decide) ⟨rfl, rfl, Nat.le_of_ble_eq_true rfl, trivial⟩ (by intro zs hz; exact fill_dense hz ⟨rfl, trivial⟩ rfl rfl) rfl (by decide) (fun w F hA => by cases (show F = [] from hA); exact ⟨_, _, [(.int .i64 x315)], _, rfl, rfl, ⟨rfl, rfl⟩, ⟨rfl, rfl⟩⟩) (fun v317 w318 H => ⟨H.sel [1, 2] (by decide), fun a S => ?_⟩)
   obtain ⟨x322, e323, hm⟩ := bind_some hm
   refine lx_call (xs := [.tmp 17, .tmp 22, .const (sv [116, 97, 117])]) S trivial (by decide) rfl rfl Tryz.call63 ((impl_Lts_follow_ok ⟨[(.int .i64 a0.1), (.int .i64 a0.2.1), v33, v35], rfl, ⟨[(.int .i64 a0.1)], [(.int .i64 a0.2.1), v33, v35], rfl, rfl, ⟨[(.int .i64 a0.2.1)], [v33, v35], rfl, rfl, ⟨[v33], [v35], rfl, ((H.arg h34)).list_rd, ((H.arg h36)).list_rd⟩⟩⟩⟩ (H.rdAt 0 rfl)  e323).mono ?_)
   rintro e w320 ⟨v324, rfl, Hc321⟩
   have H := H.call1 Hc321
   refine ⟨_, rfl, H.sel [2, 3] (by decide), fun a S => ?_⟩
   refine lq (.int .i64 (x322.length : Int)) S (q_lenSl rfl (H.isSl 0 rfl) rfl Tryz.underlying36) fun a S => ?_
   refine lq (.int .i64 (0 : Int)) S (q_move rfl) fun a S => ?_
   refine lx_nil (thenN ?_)
   obtain ⟨res392, hit393, hk396⟩ := bind_some hm
   obtain ⟨f394, hf395, hit393⟩ := iter_name hit393
   refine block_loop (fun a w => ∃ (xs390 : List Int) (v389 : Value), Slots a 41 [(2, (bp b49)), (5, v389), (6, (.int .i64 x179))] ∧ Heap w0 [bA b49 [(.int .i64 a0.1), (.int .i64 a0.2.1), v33, v35] 29, oA (rList (rInt .i64)) v389 xs390] w ∧ res392 = .inl (xs390)) ?_ ?_
   ·rintro a w ⟨xs390, v389, S, H, rfl⟩
    have hm := ctl_inl hk396
    refine inBlock_norm ?_
    refine thenN ?_
    refine region_plain ?_
    refine lq (.int .i64 x179) S (q_move rfl) fun a S => ?_
    refine lq (.int .i64 (W (x179 + (1 : Int)))) S (q_add rfl rfl) fun a S => ?_
    refine lq (.int .i64 (W (x179 + (1 : Int)))) S (q_assign rfl) fun a S => ?_
    refine lx_nil ?_
    exact ⟨m309, Nat.lt_succ_self _, xs390, (W (x179 + (1 : Int))), v389, S.sub ⟨rfl, rfl, rfl, trivial⟩, H, it_cont hm hc311⟩
   ·skip
    have H : Heap w0 [oA (rList (rInt .i64)) v176 xs177, oA (rList (rInt .i64)) v324 x322, oA (rList (rInt .i64)) v317 [x315], bA b49 [(.int .i64 a0.1), (.int .i64 a0.2.1), v33, v35] 29] w320 := H.front 3 rfl
    have H : Heap w0 [bA b49 [(.int .i64 a0.1), (.int .i64 a0.2.1), v33, v35] 29, oA (rList (rInt .i64)) v176 xs177, oA (rList (rInt .i64)) v324 x322, oA (rList (rInt .i64)) v317 [x315]] w320 := H.front 3 rfl
    have H : Heap w0 [bA b49 [(.int .i64 a0.1), (.int .i64 a0.2.1), v33, v35] 29, oA (rList (rInt .i64)) v176 xs177, oA (rList (rInt .i64)) v324 x322] w320 := H.sel [0, 1, 2] (by decide)
    refine loop_ghost (fun n a w => ∃ (xs357 : List Int) (x359 : Int) (v356 : Value), Slots a 41 [(2, (bp b49)), (5, v356), (6, (.int .i64 x179)), (23, v324), (24, (.int .i64 (x322.length : Int))), (25, (.int .i64 x359))] ∧ Heap w0 [bA b49 [(.int .i64 a0.1), (.int .i64 a0.2.1), v33, v35] 29, oA (rList (rInt .i64)) v356 xs357, oA (rList (rInt .i64)) v324 x322] w ∧ iter f394 n (xs357, x359) = some res392) _ ⟨xs177, (0 : Int), v176, S.sub ⟨rfl, rfl, rfl, rfl, rfl, rfl, trivial⟩, H, hit393⟩ ?_
    rintro n a w ⟨xs357, x359, v356, S, H, hit393⟩
    obtain ⟨m397, o398, rfl, hm, hc399⟩ := iter_step hit393
    rw [hf395] at hm
    refine wp_seq (region_plain ?_)
    refine lq (.bool (decide (x359 < (x322.length : Int)))) S (q_lss rfl rfl) fun a S => ?_
    refine lx_nil (thenN ?_)
    refine wp_seq ?_
    refine cond_b S rfl (fun hc400 => ?_) (fun hc400 => ?_)
    ·have hm := ite_t hc400 hm
     refine wp_skip (thenN ?_)
     obtain ⟨K404, hK405, hm⟩ := join_elim hm
     refine seq_cut (fun a w => ∃ (xs402 : List Int) (v401 : Value), Slots a 41 [(2, (bp b49)), (5, v401), (6, (.int .i64 x179)), (23, v324), (24, (.int .i64 (x322.length : Int))), (25, (.int .i64 x359))] ∧ Heap w0 [bA b49 [(.int .i64 a0.1), (.int .i64 a0.2.1), v33, v35] 29, oA (rList (rInt .i64)) v401 xs402, oA (rList (rInt .i64)) v324 x322] w ∧ K404 xs402 = some o398) ?_ ?_
     ·rintro a w ⟨xs402, v401, S, H, hm⟩
      subst hK405
      refine region_plain ?_
      refine lq (.int .i64 (W (x359 + (1 : Int)))) S (q_add rfl rfl) fun a S => ?_
      refine lq (.int .i64 (W (x359 + (1 : Int)))) S (q_move rfl) fun a S => ?_
      refine lx_nil ?_
      exact ⟨m397, Nat.lt_succ_self _, xs402, (W (x359 + (1 : Int))), v401, S.sub ⟨rfl, rfl, rfl, rfl, rfl, rfl, trivial⟩, H, it_cont hm hc399⟩
     ·skip
      refine wp_block ?_
      refine wp_seq (region_plain ?_)
      obtain ⟨x406, e407, hm⟩ := bind_some hm
      have hlt := lt_of_idx (idx_some e407).2
      refine lq (ePtr v324 (x359.toNat * 1)) S (q_indexAddr rfl (H.isSl 2 rfl) rfl (idx_some e407).1 hlt Tryz.underlying36 Tryz.sizeOf2) fun a S => ?_
      obtain ⟨c408, h409, hat410⟩ := (H.rdAt 2 rfl).elem (idx_some e407).2
      obtain rfl := h409
      refine lx_e (.int .i64 x406) S trivial (by decide) rfl trivial (q_load1 rfl Tryz.isAgg2 (by rintro _ rfl; exact (hat410 0 _ rfl))) (fun a S => ?_)
      refine lq (.int .i64 x406) S (q_assign rfl) fun a S => ?_
      refine lx_nil (thenN ?_)
      refine wp_seq (region_plain ?_)
      refine lq v356 S (q_move rfl) fun a S => ?_
      refine lq (.int .i64 x406) S (q_move rfl) fun a S => ?_
      obtain ⟨x413, e414, hm⟩ := bind_some hm
      refine lx_call (xs := [.tmp 29, .tmp 30]) S trivial (by decide) rfl rfl Tryz.call35 ((slices_Contains__int64_int64_ok (H.rdAt 1 rfl)  e414).mono ?_)
      rintro e w411 ⟨rfl, Hc412⟩
      have H := H.call0 Hc412
      refine ⟨_, rfl, trivial, fun a S => ?_⟩
      refine lq (.bool (!x413)) S (q_not rfl) fun a S => ?_
      refine lx_nil (thenN ?_)
      refine cond_b S rfl (fun hc416 => ?_) (fun hc416 => ?_)
      ·have hm := ite_t hc416 hm
       refine region_plain ?_
       refine lq v356 S (q_move rfl) fun a S => ?_
       refine lq (.int .i64 x406) S (q_move rfl) fun a S => ?_
       refine lx_buildSlice (r := (rInt .i64)) (xs := [x406]) (ps := [(0, [(.int .i64 x406)])]) (cs := [(.int .i64 x406)]) (parts := [(0, .tmp 34)]) S trivial (by decide) rfl (H.put0 (A := eA) rfl) rfl Tryz.underlying36 Tryz.sizeOf2 Tryz.zeroValue2 (by decide) ⟨rfl, rfl, Nat.le_of_ble_eq_true rfl, trivial⟩ (by intro zs hz; exact fill_dense hz ⟨rfl, trivial⟩ rfl rfl) rfl (by decide) (fun w F hA => by cases (show F = [] from hA); exact ⟨_, _, [(.int .i64 x406)], _, rfl, rfl, ⟨rfl, rfl⟩, ⟨rfl, rfl⟩⟩) (fun v417 w418 H => ⟨trivial, fun a S => ?_⟩)
       obtain ⟨x420, e421, hm⟩ := bind_some hm
       obtain ⟨hle, hap⟩ := app_some e421
       replace hap := hap.symm
       subst hap
       have H : Heap w0 [oA (rList (rInt .i64)) v417 [x406], bA b49 [(.int .i64 a0.1), (.int .i64 a0.2.1), v33, v35] 29, oA (rList (rInt .i64)) v356 xs357, oA (rList (rInt .i64)) v324 x322] w418 := H.front 0 rfl
       have H : Heap w0 [oA (rList (rInt .i64)) v356 xs357, oA (rList (rInt .i64)) v417 [x406], bA b49 [(.int .i64 a0.1), (.int .i64 a0.2.1), v33, v35] 29, oA (rList (rInt .i64)) v324 x322] w418 := H.front 2 rfl
       refine lx_appendOwn (r := (rInt .i64)) S trivial (by decide) rfl H rfl rfl Tryz.underlying36 Tryz.ti2 rfl rfl rfl (by decide) (by decide) hle (fun v422 w423 H => ⟨trivial, fun a S => ?_⟩)
       refine lq v422 S (q_assign rfl) fun a S => ?_
       refine lx_nil ?_
       refine inBlock_norm ?_
       have H : Heap w0 [oA (rList (rInt .i64)) v324 x322, oA (rList (rInt .i64)) v422 (xs357 ++ [x406]), bA b49 [(.int .i64 a0.1), (.int .i64 a0.2.1), v33, v35] 29] w423 := H.front 2 rfl
       have H : Heap w0 [oA (rList (rInt .i64)) v422 (xs357 ++ [x406]), oA (rList (rInt .i64)) v324 x322, bA b49 [(.int .i64 a0.1), (.int .i64 a0.2.1), v33, v35] 29] w423 := H.front 1 rfl
       have H : Heap w0 [bA b49 [(.int .i64 a0.1), (.int .i64 a0.2.1), v33, v35] 29, oA (rList (rInt .i64)) v422 (xs357 ++ [x406]), oA (rList (rInt .i64)) v324 x322] w423 := H.front 2 rfl
       exact ⟨(xs357 ++ [x406]), v422, S.sub ⟨rfl, rfl, rfl, rfl, rfl, rfl, trivial⟩, H, hm⟩
      ·have hm := ite_f hc416 hm
       refine wp_skip ?_
       refine inBlock_norm ?_
       exact ⟨xs357, v356, S.sub ⟨rfl, rfl, rfl, rfl, rfl, rfl, trivial⟩, H, hm⟩
    ·have hm := ite_f hc400 hm
     refine wp_exit ?_
     refine then_exit ?_
     refine then_exit ?_
     refine inBlock_exit ?_
     obtain rfl := it_brk hm hc399
     have H : Heap w0 [bA b49 [(.int .i64 a0.1), (.int .i64 a0.2.1), v33, v35] 29, oA (rList (rInt .i64)) v356 xs357] w := H.sel [0, 1] (by decide)
     exact ⟨xs357, v356, S.sub ⟨rfl, rfl, rfl, trivial⟩, H, rfl⟩
  ·have hm := ite_f hc312 hm
   refine wp_exit ?_
   refine then_exit ?_
   refine then_exit ?_
   refine inBlock_exit ?_
   obtain rfl := it_brk hm hc311
   have H : Heap w0 [oA (rList (rInt .i64)) v176 xs177] w := H.sel [1] (by decide)
   exact ⟨xs177, v176, S.sub ⟨rfl, trivial⟩, H, rfl⟩

/-- laws.eqStringS -/
def laws_eqStringS_m (fuel : Nat) (a0 : (List Str)) (a1 : (List Str)) : Option (Bool) :=
  (if ((a0.length : Int) != (a1.length : Int)) = true then some (false) else (iter (fun (s : (Int)) => (match s with | (x47) => (if (decide (x47 < (a0.length : Int))) = true then (idx a0 x47).bind fun x74 => (idx a1 x47).bind fun x79 => (if (x74 != x79) = true then some (.inr (.inr false)) else some (.inl ((W (x47 + (1 : Int)))))) else some (.inr (.inl ()))) : Option (((Int)) ⊕ ((Unit) ⊕ (Bool))))) fuel ((0 : Int))).bind fun res63 => ctl (β := Unit) (ρ := Bool) (τ := Bool) res63 (fun _ => some (true)) (fun q => some (q)))
set_option maxRecDepth 20000 in
theorem laws_eqStringS_ok {w0 : World} {fuel : Nat} {p0 p1 : Value} {a0 : (List Str)} {a1 : (List Str)} {r : Bool} (h0 : Rd (rList rStr) w0 p0 a0) (h1 : Rd (rList rStr) w0 p1 a1) (hm : laws_eqStringS_m fuel a0 a1 = some r) :
  Calls Tryz.prog 26 #[p0, p1] w0 fun e w => e = .returned (.bool r) ∧ Heap w0 [] w := by
 unfold laws_eqStringS_m at hm
 have H := Heap.start w0
 refine enter (args := [p0, p1]) Tryz.func26 rfl 26 rfl (Nat.le_of_ble_eq_true rfl) (fun a S => ?_)
 refine wp_seq (region_plain ?_)
 refine lq (.bool false) S (q_assign rfl) fun a S => ?_
 refine lx_nil (thenN ?_)
 refine wp_seq (wp_seq (region_plain ?_))
 refine lq p0 S (q_move rfl) fun a S => ?_
 refine lq (.int .i64 (a0.length : Int)) S (q_lenSl rfl (h0).isSl rfl Tryz.underlying22) fun a S => ?_
 refine lq p1 S (q_move rfl) fun a S => ?_
 refine lq (.int .i64 (a1.length : Int)) S (q_lenSl rfl (h1).isSl rfl Tryz.underlying22) fun a S => ?_
 refine lq (.bool ((a0.length : Int) != (a1.length : Int))) S (q_neq rfl rfl) fun a S => ?_
 refine lx_nil (thenN ?_)
 refine cond_b S rfl (fun hc31 => ?_) (fun hc31 => ?_)
 ·have hm := ite_t hc31 hm
  refine wp_seq (region_plain ?_)
  refine lq (.bool false) S (q_assign rfl) fun a S => ?_
  refine lx_nil (thenN ?_)
  refine wp_ret (then_ret ?_)
  obtain rfl := Option.some.inj hm
  exact leave1 S rfl rfl ⟨rfl, H⟩
 ·have hm := ite_f hc31 hm
  refine wp_skip (thenN ?_)
  refine wp_seq (wp_seq (region_plain ?_))
  refine lq (.int .i64 (0 : Int)) S (q_assign rfl) fun a S => ?_
  refine lx_nil (thenN ?_)
  obtain ⟨res63, hit64, hk67⟩ := bind_some hm
  obtain ⟨f65, hf66, hit64⟩ := iter_name hit64
  refine block_loop (fun a w => Slots a 26 [] ∧ Heap w0 [] w ∧ res63 = .inl ()) ?_ ?_
  ·rintro a w ⟨S, H, rfl⟩
   have hm := ctl_inl hk67
   refine thenN ?_
   refine wp_seq (region_plain ?_)
   refine lq (.bool true) S (q_assign rfl) fun a S => ?_
   refine lx_nil (thenN ?_)
   refine wp_ret ?_
   obtain rfl := Option.some.inj hm
   exact leave1 S rfl rfl ⟨rfl, H⟩
  ·skip
   refine loop_ghost (fun n a w => ∃ (x47 : Int), Slots a 26 [(0, p0), (1, p1), (5, (.int .i64 x47))] ∧ Heap w0 [] w ∧ iter f65 n (x47) = some res63) _ ⟨(0 : Int), S.sub ⟨rfl, rfl, rfl, trivial⟩, H, hit64⟩ ?_
   rintro n a w ⟨x47, S, H, hit64⟩
   obtain ⟨m68, o69, rfl, hm, hc70⟩ := iter_step hit64
   rw [hf66] at hm
   refine wp_seq (wp_seq (region_plain ?_))
   refine lq (.int .i64 x47) S (q_move rfl) fun a S => ?_
   refine lq p0 S (q_move rfl) fun a S => ?_
   refine lq (.int .i64 (a0.length : Int)) S (q_lenSl rfl (h0).isSl rfl Tryz.underlying22) fun a S => ?_
   refine lq (.bool (decide (x47 < (a0.length : Int)))) S (q_lss rfl rfl) fun a S => ?_
   refine lx_nil (thenN ?_)
   refine cond_b S rfl (fun hc71 => ?_) (fun hc71 => ?_)
   ·have hm := ite_t hc71 hm
    refine wp_skip (thenN ?_)
    refine wp_seq ?_
    refine wp_block ?_
    refine wp_seq ?_
    refine region_drawG (fun w1 => Heap w0 [] w1) (fun i => [].contains i) mixed (by kernel_rfl) (fun w73 he72 => ?_)
    have H := H.later he72
    refine ⟨H.sel [] (by decide), ?_⟩
    refine lq p0 S (q_move rfl) fun a S => ?_
    refine lq (.int .i64 x47) S (q_move rfl) fun a S => ?_
    obtain ⟨x74, e75, hm⟩ := bind_some hm
    obtain ⟨c76, h77, hat78⟩ := (h0).elem (idx_some e75).2
    obtain rfl := h77
    have hlt := lt_of_idx (idx_some e75).2
    refine lq (ePtr p0 (x47.toNat * 1)) S (q_indexAddr rfl (h0).isSl rfl (idx_some e75).1 hlt Tryz.underlying22 Tryz.sizeOf9) fun a S => ?_
    refine lq (sv x74) S (q_load1 rfl Tryz.isAgg9 (fun w1 hC => ((hat78 0 _ rfl).ext hC.ext))) fun a S => ?_
    refine lq p1 S (q_move rfl) fun a S => ?_
    refine lq (.int .i64 x47) S (q_move rfl) fun a S => ?_
    obtain ⟨x79, e80, hm⟩ := bind_some hm
    obtain ⟨c81, h82, hat83⟩ := (h1).elem (idx_some e80).2
    obtain rfl := h82
    have hlt := lt_of_idx (idx_some e80).2
    refine lq (ePtr p1 (x47.toNat * 1)) S (q_indexAddr rfl (h1).isSl rfl (idx_some e80).1 hlt Tryz.underlying22 Tryz.sizeOf9) fun a S => ?_
    refine lq (sv x79) S (q_load1 rfl Tryz.isAgg9 (fun w1 hC => ((hat83 0 _ rfl).ext hC.ext))) fun a S => ?_
    refine lq (.bool (x74 != x79)) S (q_sneq rfl rfl) fun a S => ?_
    refine lx_nil (thenN ?_)
    refine cond_b S rfl (fun hc84 => ?_) (fun hc84 => ?_)
    ·have hm := ite_t hc84 hm
     refine wp_seq (region_plain ?_)
     refine lq (.bool false) S (q_assign rfl) fun a S => ?_
     refine lx_nil (thenN ?_)
     refine wp_ret (inBlock_ret ?_)
     refine then_ret ?_
     refine then_ret ?_
     refine inBlock_ret ?_
     refine then_ret ?_
     refine then_ret ?_
     obtain rfl := it_brk hm hc70
     have hm := ctl_inr hk67
     obtain rfl := Option.some.inj hm
     exact leave1 S rfl rfl ⟨rfl, H⟩
    ·have hm := ite_f hc84 hm
     refine wp_skip ?_
     refine inBlock_norm ?_
     refine thenN ?_
     refine region_plain ?_
     refine lq (.int .i64 x47) S (q_move rfl) fun a S => ?_
     refine lq (.int .i64 (W (x47 + (1 : Int)))) S (q_add rfl rfl) fun a S => ?_
     refine lq (.int .i64 (W (x47 + (1 : Int)))) S (q_assign rfl) fun a S => ?_
     refine lx_nil ?_
     exact ⟨m68, Nat.lt_succ_self _, (W (x47 + (1 : Int))), S.sub ⟨rfl, rfl, rfl, trivial⟩, H, it_cont hm hc70⟩
   ·have hm := ite_f hc71 hm
    refine wp_exit ?_
    refine then_exit ?_
    refine then_exit ?_
    refine inBlock_exit ?_
    obtain rfl := it_brk hm hc70
    exact ⟨S.sub trivial, H, rfl⟩

/-- laws.eqEdge -/
def laws_eqEdge_m (_ : Nat) (a0 : Timpl_Edge) (a1 : Timpl_Edge) : Option (Bool) :=
  (if (a0.1 != a1.1) = true then some (false) else (if (a0.2.1 != a1.2.1) = true then some (false) else (if (a0.2.2 != a1.2.2) = true then some (false) else some (true))))
set_option maxRecDepth 20000 in
theorem laws_eqEdge_ok {w0 : World} {fuel : Nat} {p0 p1 : Value} {a0 : Timpl_Edge} {a1 : Timpl_Edge} {r : Bool} (h0 : Rd Rimpl_Edge w0 p0 a0) (h1 : Rd Rimpl_Edge w0 p1 a1) (hm : laws_eqEdge_m fuel a0 a1 = some r) :
  Calls Tryz.prog 50 #[p0, p1] w0 fun e w => e = .returned (.bool r) ∧ Heap w0 [] w := by
 unfold laws_eqEdge_m at hm
 have H := Heap.start w0
 obtain ⟨c31, rfl, h32⟩ := h0
 obtain ⟨c33, c34, rfl, h35, h36⟩ := h32
 obtain rfl := h35
 obtain ⟨c37, c38, rfl, h39, h40⟩ := h36
 obtain rfl := h39
 obtain rfl := h40
 obtain ⟨c41, rfl, h42⟩ := h1
 obtain ⟨c43, c44, rfl, h45, h46⟩ := h42
 obtain rfl := h45
 obtain ⟨c47, c48, rfl, h49, h50⟩ := h46
 obtain rfl := h49
 obtain rfl := h50
 refine enter (args := [(.agg #[(.int .i64 a0.1), (.int .i64 a0.2.1), (.int .i64 a0.2.2)]), (.agg #[(.int .i64 a1.1), (.int .i64 a1.2.1), (.int .i64 a1.2.2)])]) Tryz.func50 rfl 20 rfl (Nat.le_of_ble_eq_true rfl) (fun a S => ?_)
 refine wp_seq (region_plain ?_)
 refine lx_box S trivial (by decide) rfl H rfl rfl (fun b51 w52 H => ⟨trivial, fun a S => ?_⟩)
 refine lx_box S trivial (by decide) rfl H rfl rfl (fun b54 w55 H => ⟨trivial, fun a S => ?_⟩)
 refine lq (.bool false) S (q_assign rfl) fun a S => ?_
 refine lx_nil (thenN ?_)
 refine wp_seq (wp_seq (region_plain ?_))
 refine lq (pAdd (bp b51) 0) S (q_fieldAddr' 0 2 rfl (isP_bp _) Tryz.underlying62 rfl Tryz.sizeOf2) fun a S => ?_
 refine lx_e (.int .i64 a0.1) S trivial (by decide) rfl trivial (q_load1 rfl Tryz.isAgg2 (by rintro _ rfl; exact (At.of_add (m := 0) (j := 0) (boxAt (i := 1) H rfl (j := 0) rfl)))) (fun a S => ?_)
 refine lq (pAdd (bp b54) 0) S (q_fieldAddr' 0 2 rfl (isP_bp _) Tryz.underlying62 rfl Tryz.sizeOf2) fun a S => ?_
 refine lx_e (.int .i64 a1.1) S trivial (by decide) rfl trivial (q_load1 rfl Tryz.isAgg2 (by rintro _ rfl; exact (At.of_add (m := 0) (j := 0) (boxAt (i := 0) H rfl (j := 0) rfl)))) (fun a S => ?_)
 refine lq (.bool (a0.1 != a1.1)) S (q_neq rfl rfl) fun a S => ?_
 refine lx_nil (thenN ?_)
 refine cond_b S rfl (fun hc57 => ?_) (fun hc57 => ?_)
 ·have hm := ite_t hc57 hm
  refine wp_seq (region_plain ?_)
  refine lq (.bool false) S (q_assign rfl) fun a S => ?_
  refine lx_nil (thenN ?_)
  refine wp_ret (then_ret ?_)
  obtain rfl := Option.some.inj hm
  have H : Heap w0 [] w55 := H.sel [] (by decide)
  exact leave1 S rfl rfl ⟨rfl, H⟩
 ·have hm := ite_f hc57 hm
  refine wp_skip (thenN ?_)
  refine wp_seq (wp_seq (region_plain ?_))
  refine lq (pAdd (bp b51) 1) S (q_fieldAddr' 1 2 rfl (isP_bp _) Tryz.underlying62 rfl Tryz.sizeOf2) fun a S => ?_
  refine lx_e (.int .i64 a0.2.1) S trivial (by decide) rfl trivial (q_load1 rfl Tryz.isAgg2 (by rintro _ rfl; exact (At.of_add (m := 1) (j := 0) (boxAt (i := 1) H rfl (j := 1) rfl)))) (fun a S => ?_)
  refine lq (pAdd (bp b54) 1) S (q_fieldAddr' 1 2 rfl (isP_bp _) Tryz.underlying62 rfl Tryz.sizeOf2) fun a S => ?_
  refine lx_e (.int .i64 a1.2.1) S trivial (by decide) rfl trivial (q_load1 rfl Tryz.isAgg2 (by rintro _ rfl; exact (At.of_add (m := 1) (j := 0) (boxAt (i := 0) H rfl (j := 1) rfl)))) (fun a S => ?_)
  refine lq (.bool (a0.2.1 != a1.2.1)) S (q_neq rfl rfl) fun a S => ?_
  refine lx_nil (thenN ?_)
  refine cond_b S rfl (fun hc58 => ?_) (fun hc58 => ?_)
  ·have hm := ite_t hc58 hm
   refine wp_seq (region_plain ?_)
   refine lq (.bool false) S (q_assign rfl) fun a S => ?_
   refine lx_nil (thenN ?_)
   refine wp_ret (then_ret ?_)
   obtain rfl := Option.some.inj hm
   have H : Heap w0 [] w55 := H.sel [] (by decide)
   exact leave1 S rfl rfl ⟨rfl, H⟩
  ·have hm := ite_f hc58 hm
   refine wp_skip (thenN ?_)
   refine wp_seq (wp_seq (region_plain ?_))
   refine lq (pAdd (bp b51) 2) S (q_fieldAddr' 2 2 rfl (isP_bp _) Tryz.underlying62 rfl Tryz.sizeOf2) fun a S => ?_
   refine lx_e (.int .i64 a0.2.2) S trivial (by decide) rfl trivial (q_load1 rfl Tryz.isAgg2 (by rintro _ rfl; exact (At.of_add (m := 2) (j := 0) (boxAt (i := 1) H rfl (j := 2) rfl)))) (fun a S => ?_)
   refine lq (pAdd (bp b54) 2) S (q_fieldAddr' 2 2 rfl (isP_bp _) Tryz.underlying62 rfl Tryz.sizeOf2) fun a S => ?_
   refine lx_e (.int .i64 a1.2.2) S trivial (by decide) rfl trivial (q_load1 rfl Tryz.isAgg2 (by rintro _ rfl; exact (At.of_add (m := 2) (j := 0) (boxAt (i := 0) H rfl (j := 2) rfl)))) (fun a S => ?_)
   refine lq (.bool (a0.2.2 != a1.2.2)) S (q_neq rfl rfl) fun a S => ?_
   refine lx_nil (thenN ?_)
   refine cond_b S rfl (fun hc59 => ?_) (fun hc59 => ?_)
   ·have hm := ite_t hc59 hm
    refine wp_seq (region_plain ?_)
    refine lq (.bool false) S (q_assign rfl) fun a S => ?_
    refine lx_nil (thenN ?_)
    refine wp_ret (then_ret ?_)
    obtain rfl := Option.some.inj hm
    have H : Heap w0 [] w55 := H.sel [] (by decide)
    exact leave1 S rfl rfl ⟨rfl, H⟩
   ·have hm := ite_f hc59 hm
    refine wp_skip (thenN ?_)
    refine wp_seq (region_plain ?_)
    refine lq (.bool true) S (q_assign rfl) fun a S => ?_
    refine lx_nil (thenN ?_)
    refine wp_ret ?_
    obtain rfl := Option.some.inj hm
    have H : Heap w0 [] w55 := H.sel [] (by decide)
    exact leave1 S rfl rfl ⟨rfl, H⟩

/-- laws.eqEdgeS -/
def laws_eqEdgeS_m (fuel : Nat) (a0 : (List Timpl_Edge)) (a1 : (List Timpl_Edge)) : Option (Bool) :=
  (if ((a0.length : Int) != (a1.length : Int)) = true then some (false) else (iter (fun (s : (Int)) => (match s with | (x68) => (if (decide (x68 < (a0.length : Int))) = true then (idx a0 x68).bind fun x116 => (idx a1 x68).bind fun x129 => (laws_eqEdge_m fuel (x116.1, x116.2.1, x116.2.2) (x129.1, x129.2.1, x129.2.2)).bind fun x144 => (if (!x144) = true then some (.inr (.inr false)) else some (.inl ((W (x68 + (1 : Int)))))) else some (.inr (.inl ()))) : Option (((Int)) ⊕ ((Unit) ⊕ (Bool))))) fuel ((0 : Int))).bind fun res105 => ctl (β := Unit) (ρ := Bool) (τ := Bool) res105 (fun _ => some (true)) (fun q => some (q)))
set_option maxRecDepth 20000 in
theorem laws_eqEdgeS_ok {w0 : World} {fuel : Nat} {p0 p1 : Value} {a0 : (List Timpl_Edge)} {a1 : (List Timpl_Edge)} {r : Bool} (h0 : Rd (rList Rimpl_Edge) w0 p0 a0) (h1 : Rd (rList Rimpl_Edge) w0 p1 a1) (hm : laws_eqEdgeS_m fuel a0 a1 = some r) :
  Calls Tryz.prog 27 #[p0, p1] w0 fun e w => e = .returned (.bool r) ∧ Heap w0 [] w := by
 unfold laws_eqEdgeS_m at hm
 have H := Heap.start w0
 refine enter (args := [p0, p1]) Tryz.func27 rfl 27 rfl (Nat.le_of_ble_eq_true rfl) (fun a S => ?_)
 refine wp_seq (region_plain ?_)
 refine lq (.bool false) S (q_assign rfl) fun a S => ?_
 refine lx_nil (thenN ?_)
 refine wp_seq (wp_seq (region_plain ?_))
 refine lq p0 S (q_move rfl) fun a S => ?_
 refine lq (.int .i64 (a0.length : Int)) S (q_lenSl rfl (h0).isSl rfl Tryz.underlying27) fun a S => ?_
 refine lq p1 S (q_move rfl) fun a S => ?_
 refine lq (.int .i64 (a1.length : Int)) S (q_lenSl rfl (h1).isSl rfl Tryz.underlying27) fun a S => ?_
 refine lq (.bool ((a0.length : Int) != (a1.length : Int))) S (q_neq rfl rfl) fun a S => ?_
 refine lx_nil (thenN ?_)
 refine cond_b S rfl (fun hc31 => ?_) (fun hc31 => ?_)
 ·have hm := ite_t hc31 hm
  refine wp_seq (region_plain ?_)
  refine lq (.bool false) S (q_assign rfl) fun a S => ?_
  refine lx_nil (thenN ?_)
  refine wp_ret (then_ret ?_)
  obtain rfl := Option.some.inj hm
  exact leave1 S rfl rfl ⟨rfl, H⟩
 ·have hm := ite_f hc31 hm
  refine wp_skip (thenN ?_)
  refine wp_seq (wp_seq (region_plain ?_))
  refine lq (.int .i64 (0 : Int)) S (q_assign rfl) fun a S => ?_
  refine lx_nil (thenN ?_)
  obtain ⟨res105, hit106, hk109⟩ := bind_some hm
  obtain ⟨f107, hf108, hit106⟩ := iter_name hit106
  refine block_loop (fun a w => Slots a 27 [] ∧ Heap w0 [] w ∧ res105 = .inl ()) ?_ ?_
  ·rintro a w ⟨S, H, rfl⟩
   have hm := ctl_inl hk109
   refine thenN ?_
   refine wp_seq (region_plain ?_)
   refine lq (.bool true) S (q_assign rfl) fun a S => ?_
   refine lx_nil (thenN ?_)
   refine wp_ret ?_
   obtain rfl := Option.some.inj hm
   exact leave1 S rfl rfl ⟨rfl, H⟩
  ·skip
   refine loop_ghost (fun n a w => ∃ (x68 : Int), Slots a 27 [(0, p0), (1, p1), (5, (.int .i64 x68))] ∧ Heap w0 [] w ∧ iter f107 n (x68) = some res105) _ ⟨(0 : Int), S.sub ⟨rfl, rfl, rfl, trivial⟩, H, hit106⟩ ?_
   rintro n a w ⟨x68, S, H, hit106⟩
   obtain ⟨m110, o111, rfl, hm, hc112⟩ := iter_step hit106
   rw [hf108] at hm
   refine wp_seq (wp_seq (region_plain ?_))
   refine lq (.int .i64 x68) S (q_move rfl) fun a S => ?_
   refine lq p0 S (q_move rfl) fun a S => ?_
   refine lq (.int .i64 (a0.length : Int)) S (q_lenSl rfl (h0).isSl rfl Tryz.underlying27) fun a S => ?_
   refine lq (.bool (decide (x68 < (a0.length : Int)))) S (q_lss rfl rfl) fun a S => ?_
   refine lx_nil (thenN ?_)
   refine cond_b S rfl (fun hc113 => ?_) (fun hc113 => ?_)
   ·have hm := ite_t hc113 hm
    refine wp_skip (thenN ?_)
    refine wp_seq ?_
    refine wp_block ?_
    refine wp_seq ?_
    refine region_drawG (fun w1 => Heap w0 [] w1) (fun i => [8].contains i) mixed (by kernel_rfl) (fun w115 he114 => ?_)
    have H := H.later he114
    refine ⟨H.sel [] (by decide), ?_⟩
    refine lq p0 S (q_move rfl) fun a S => ?_
    refine lq (.int .i64 x68) S (q_move rfl) fun a S => ?_
    obtain ⟨x116, e117, hm⟩ := bind_some hm
    obtain ⟨c118, h119, hat120⟩ := (h0).elem (idx_some e117).2
    obtain ⟨c121, c122, rfl, h123, h124⟩ := h119
    obtain rfl := h123
    obtain ⟨c125, c126, rfl, h127, h128⟩ := h124
    obtain rfl := h127
    obtain rfl := h128
    have hlt := lt_of_idx (idx_some e117).2
    refine lq (ePtr p0 (x68.toNat * 3)) S (q_indexAddr rfl (h0).isSl rfl (idx_some e117).1 hlt Tryz.underlying27 Tryz.sizeOf62) fun a S => ?_
    refine lq (.agg #[(.int .i64 x116.1), (.int .i64 x116.2.1), (.int .i64 x116.2.2)]) S (q_loadA (cs := [(.int .i64 x116.1), (.int .i64 x116.2.1), (.int .i64 x116.2.2)]) rfl ((hat120 0 _ rfl).isP) Tryz.isAgg62 Tryz.sizeOf62 (fun w1 hC => (fun j u hu => (hat120 j u hu).ext hC.ext))) fun a S => ?_
    refine lq p1 S (q_move rfl) fun a S => ?_
    refine lq (.int .i64 x68) S (q_move rfl) fun a S => ?_
    obtain ⟨x129, e130, hm⟩ := bind_some hm
    obtain ⟨c131, h132, hat133⟩ := (h1).elem (idx_some e130).2
    obtain ⟨c134, c135, rfl, h136, h137⟩ := h132
    obtain rfl := h136
    obtain ⟨c138, c139, rfl, h140, h141⟩ := h137
    obtain rfl := h140
    obtain rfl := h141
    have hlt := lt_of_idx (idx_some e130).2
    refine lq (ePtr p1 (x68.toNat * 3)) S (q_indexAddr rfl (h1).isSl rfl (idx_some e130).1 hlt Tryz.underlying27 Tryz.sizeOf62) fun a S => ?_
    refine lq (.agg #[(.int .i64 x129.1), (.int .i64 x129.2.1), (.int .i64 x129.2.2)]) S (q_loadA (cs := [(.int .i64 x129.1), (.int .i64 x129.2.1), (.int .i64 x129.2.2)]) rfl ((hat133 0 _ rfl).isP) Tryz.isAgg62 Tryz.sizeOf62 (fun w1 hC => (fun j u hu => (hat133 j u hu).ext hC.ext))) fun a S => ?_
    obtain ⟨x144, e145, hm⟩ := bind_some hm
    refine lx_call (xs := [.tmp 20, .tmp 24]) S trivial (by decide) rfl rfl Tryz.call50 ((laws_eqEdge_ok ⟨[(.int .i64 x116.1), (.int .i64 x116.2.1), (.int .i64 x116.2.2)], rfl, ⟨[(.int .i64 x116.1)], [(.int .i64 x116.2.1), (.int .i64 x116.2.2)], rfl, rfl, ⟨[(.int .i64 x116.2.1)], [(.int .i64 x116.2.2)], rfl, rfl, rfl⟩⟩⟩ ⟨[(.int .i64 x129.1), (.int .i64 x129.2.1), (.int .i64 x129.2.2)], rfl, ⟨[(.int .i64 x129.1)], [(.int .i64 x129.2.1), (.int .i64 x129.2.2)], rfl, rfl, ⟨[(.int .i64 x129.2.1)], [(.int .i64 x129.2.2)], rfl, rfl, rfl⟩⟩⟩ e145).mono ?_)
    rintro e w142 ⟨rfl, Hc143⟩
    have H := H.call0 Hc143
    refine ⟨_, rfl, H.sel [] (by decide), fun a S => ?_⟩
    refine lq (.bool (!x144)) S (q_not rfl) fun a S => ?_
    refine lx_nil (thenN ?_)
    refine cond_b S rfl (fun hc147 => ?_) (fun hc147 => ?_)
    ·have hm := ite_t hc147 hm
     refine wp_seq (region_plain ?_)
     refine lq (.bool false) S (q_assign rfl) fun a S => ?_
     refine lx_nil (thenN ?_)
     refine wp_ret (inBlock_ret ?_)
     refine then_ret ?_
     refine then_ret ?_
     refine inBlock_ret ?_
     refine then_ret ?_
     refine then_ret ?_
     obtain rfl := it_brk hm hc112
     have hm := ctl_inr hk109
     obtain rfl := Option.some.inj hm
     exact leave1 S rfl rfl ⟨rfl, H⟩
    ·have hm := ite_f hc147 hm
     refine wp_skip ?_
     refine inBlock_norm ?_
     refine thenN ?_
     refine region_plain ?_
     refine lq (.int .i64 x68) S (q_move rfl) fun a S => ?_
     refine lq (.int .i64 (W (x68 + (1 : Int)))) S (q_add rfl rfl) fun a S => ?_
     refine lq (.int .i64 (W (x68 + (1 : Int)))) S (q_assign rfl) fun a S => ?_
     refine lx_nil ?_
     exact ⟨m110, Nat.lt_succ_self _, (W (x68 + (1 : Int))), S.sub ⟨rfl, rfl, rfl, trivial⟩, H, it_cont hm hc112⟩
   ·have hm := ite_f hc113 hm
    refine wp_exit ?_
    refine then_exit ?_
    refine then_exit ?_
    refine inBlock_exit ?_
    obtain rfl := it_brk hm hc112
    exact ⟨S.sub trivial, H, rfl⟩

/-- laws.eqLts -/
def laws_eqLts_m (fuel : Nat) (a0 : Timpl_Lts) (a1 : Timpl_Lts) : Option (Bool) :=
  (if (a0.1 != a1.1) = true then some (false) else (if (a0.2.1 != a1.2.1) = true then some (false) else (laws_eqStringS_m fuel a0.2.2.1 a1.2.2.1).bind fun x77 => (if (!x77) = true then some (false) else (laws_eqEdgeS_m fuel a0.2.2.2 a1.2.2.2).bind fun x83 => (if (!x83) = true then some (false) else some (true)))))
set_option maxRecDepth 20000 in
theorem laws_eqLts_ok {w0 : World} {fuel : Nat} {p0 p1 : Value} {a0 : Timpl_Lts} {a1 : Timpl_Lts} {r : Bool} (h0 : Rd Rimpl_Lts w0 p0 a0) (h1 : Rd Rimpl_Lts w0 p1 a1) (hm : laws_eqLts_m fuel a0 a1 = some r) :
  Calls Tryz.prog 9 #[p0, p1] w0 fun e w => e = .returned (.bool r) ∧ Heap w0 [] w := by
 unfold laws_eqLts_m at hm
 have H := Heap.start w0
 obtain ⟨c31, rfl, h32⟩ := h0
 obtain ⟨c37, c38, rfl, h39, h40⟩ := h32
 obtain rfl := h39
 obtain ⟨c41, c42, rfl, h43, h44⟩ := h40
 obtain rfl := h43
 obtain ⟨c45, c46, rfl, h47, h48⟩ := h44
 obtain ⟨v33, rfl, h34⟩ := rd_list h47
 obtain ⟨v35, rfl, h36⟩ := rd_list h48
 obtain ⟨c49, rfl, h50⟩ := h1
 obtain ⟨c55, c56, rfl, h57, h58⟩ := h50
 obtain rfl := h57
 obtain ⟨c59, c60, rfl, h61, h62⟩ := h58
 obtain rfl := h61
 obtain ⟨c63, c64, rfl, h65, h66⟩ := h62
 obtain ⟨v51, rfl, h52⟩ := rd_list h65
 obtain ⟨v53, rfl, h54⟩ := rd_list h66
 refine enter (args := [(.agg #[(.int .i64 a0.1), (.int .i64 a0.2.1), v33, v35]), (.agg #[(.int .i64 a1.1), (.int .i64 a1.2.1), v51, v53])]) Tryz.func9 rfl 27 rfl (Nat.le_of_ble_eq_true rfl) (fun a S => ?_)
 refine wp_seq (region_plain ?_)
 refine lx_box S trivial (by decide) rfl H rfl rfl (fun b67 w68 H => ⟨trivial, fun a S => ?_⟩)
 refine lx_box S trivial (by decide) rfl H rfl rfl (fun b70 w71 H => ⟨trivial, fun a S => ?_⟩)
 refine lq (.bool false) S (q_assign rfl) fun a S => ?_
 refine lx_nil (thenN ?_)
 refine wp_seq (wp_seq (region_plain ?_))
 refine lq (pAdd (bp b67) 0) S (q_fieldAddr' 0 2 rfl (isP_bp _) Tryz.underlying29 rfl Tryz.sizeOf2) fun a S => ?_
 refine lx_e (.int .i64 a0.1) S trivial (by decide) rfl trivial (q_load1 rfl Tryz.isAgg2 (by rintro _ rfl; exact (At.of_add (m := 0) (j := 0) (boxAt (i := 1) H rfl (j := 0) rfl)))) (fun a S => ?_)
 refine lq (pAdd (bp b70) 0) S (q_fieldAddr' 0 2 rfl (isP_bp _) Tryz.underlying29 rfl Tryz.sizeOf2) fun a S => ?_
 refine lx_e (.int .i64 a1.1) S trivial (by decide) rfl trivial (q_load1 rfl Tryz.isAgg2 (by rintro _ rfl; exact (At.of_add (m := 0) (j := 0) (boxAt (i := 0) H rfl (j := 0) rfl)))) (fun a S => ?_)
 refine lq (.bool (a0.1 != a1.1)) S (q_neq rfl rfl) fun a S => ?_
 refine lx_nil (thenN ?_)
 refine cond_b S rfl (fun hc73 => ?_) (fun hc73 => ?_)
 ·have hm := ite_t hc73 hm
  refine wp_seq (region_plain ?_)
  refine lq (.bool false) S (q_assign rfl) fun a S => ?_
  refine lx_nil (thenN ?_)
  refine wp_ret (then_ret ?_)
  obtain rfl := Option.some.inj hm
  have H : Heap w0 [] w71 := H.sel [] (by decide)
  exact leave1 S rfl rfl ⟨rfl, H⟩
 ·have hm := ite_f hc73 hm
  refine wp_skip (thenN ?_)
  refine wp_seq (wp_seq (region_plain ?_))
  refine lq (pAdd (bp b67) 1) S (q_fieldAddr' 1 2 rfl (isP_bp _) Tryz.underlying29 rfl Tryz.sizeOf2) fun a S => ?_
  refine lx_e (.int .i64 a0.2.1) S trivial (by decide) rfl trivial (q_load1 rfl Tryz.isAgg2 (by rintro _ rfl; exact (At.of_add (m := 1) (j := 0) (boxAt (i := 1) H rfl (j := 1) rfl)))) (fun a S => ?_)
  refine lq (pAdd (bp b70) 1) S (q_fieldAddr' 1 2 rfl (isP_bp _) Tryz.underlying29 rfl Tryz.sizeOf2) fun a S => ?_
  refine lx_e (.int .i64 a1.2.1) S trivial (by decide) rfl trivial (q_load1 rfl Tryz.isAgg2 (by rintro _ rfl; exact (At.of_add (m := 1) (j := 0) (boxAt (i := 0) H rfl (j := 1) rfl)))) (fun a S => ?_)
  refine lq (.bool (a0.2.1 != a1.2.1)) S (q_neq rfl rfl) fun a S => ?_
  refine lx_nil (thenN ?_)
  refine cond_b S rfl (fun hc74 => ?_) (fun hc74 => ?_)
  ·have hm := ite_t hc74 hm
   refine wp_seq (region_plain ?_)
   refine lq (.bool false) S (q_assign rfl) fun a S => ?_
   refine lx_nil (thenN ?_)
   refine wp_ret (then_ret ?_)
   obtain rfl := Option.some.inj hm
   have H : Heap w0 [] w71 := H.sel [] (by decide)
   exact leave1 S rfl rfl ⟨rfl, H⟩
  ·have hm := ite_f hc74 hm
   refine wp_skip (thenN ?_)
   refine wp_seq (wp_seq (region_plain ?_))
   refine lq (pAdd (bp b67) 2) S (q_fieldAddr' 2 22 rfl (isP_bp _) Tryz.underlying29 rfl Tryz.sizeOf22) fun a S => ?_
   refine lx_e v33 S trivial (by decide) rfl trivial (q_load1 rfl Tryz.isAgg22 (by rintro _ rfl; exact (At.of_add (m := 2) (j := 0) (boxAt (i := 1) H rfl (j := 2) rfl)))) (fun a S => ?_)
   refine lq (pAdd (bp b70) 2) S (q_fieldAddr' 2 22 rfl (isP_bp _) Tryz.underlying29 rfl Tryz.sizeOf22) fun a S => ?_
   refine lx_e v51 S trivial (by decide) rfl trivial (q_load1 rfl Tryz.isAgg22 (by rintro _ rfl; exact (At.of_add (m := 2) (j := 0) (boxAt (i := 0) H rfl (j := 2) rfl)))) (fun a S => ?_)
   obtain ⟨x77, e78, hm⟩ := bind_some hm
   refine lx_call (xs := [.tmp 16, .tmp 18]) S trivial (by decide) rfl rfl Tryz.call26 ((laws_eqStringS_ok (H.arg h34) (H.arg h52) e78).mono ?_)
   rintro e w75 ⟨rfl, Hc76⟩
   have H := H.call0 Hc76
   refine ⟨_, rfl, trivial, fun a S => ?_⟩
   refine lq (.bool (!x77)) S (q_not rfl) fun a S => ?_
   refine lx_nil (thenN ?_)
   refine cond_b S rfl (fun hc80 => ?_) (fun hc80 => ?_)
   ·have hm := ite_t hc80 hm
    refine wp_seq (region_plain ?_)
    refine lq (.bool false) S (q_assign rfl) fun a S => ?_
    refine lx_nil (thenN ?_)
    refine wp_ret (then_ret ?_)
    obtain rfl := Option.some.inj hm
    have H : Heap w0 [] w75 := H.sel [] (by decide)
    exact leave1 S rfl rfl ⟨rfl, H⟩
   ·have hm := ite_f hc80 hm
    refine wp_skip (thenN ?_)
    refine wp_seq (wp_seq (region_plain ?_))
    refine lq (pAdd (bp b67) 3) S (q_fieldAddr' 3 27 rfl (isP_bp _) Tryz.underlying29 rfl Tryz.sizeOf27) fun a S => ?_
    refine lx_e v35 S trivial (by decide) rfl trivial (q_load1 rfl Tryz.isAgg27 (by rintro _ rfl; exact (At.of_add (m := 3) (j := 0) (boxAt (i := 1) H rfl (j := 3) rfl)))) (fun a S => ?_)
    refine lq (pAdd (bp b70) 3) S (q_fieldAddr' 3 27 rfl (isP_bp _) Tryz.underlying29 rfl Tryz.sizeOf27) fun a S => ?_
    refine lx_e v53 S trivial (by decide) rfl trivial (q_load1 rfl Tryz.isAgg27 (by rintro _ rfl; exact (At.of_add (m := 3) (j := 0) (boxAt (i := 0) H rfl (j := 3) rfl)))) (fun a S => ?_)
    obtain ⟨x83, e84, hm⟩ := bind_some hm
    refine lx_call (xs := [.tmp 22, .tmp 24]) S trivial (by decide) rfl rfl Tryz.call27 ((laws_eqEdgeS_ok (H.arg h36) (H.arg h54) e84).mono ?_)
    rintro e w81 ⟨rfl, Hc82⟩
    have H := H.call0 Hc82
    refine ⟨_, rfl, trivial, fun a S => ?_⟩
    refine lq (.bool (!x83)) S (q_not rfl) fun a S => ?_
    refine lx_nil (thenN ?_)
    refine cond_b S rfl (fun hc86 => ?_) (fun hc86 => ?_)
    ·have hm := ite_t hc86 hm
     refine wp_seq (region_plain ?_)
     refine lq (.bool false) S (q_assign rfl) fun a S => ?_
     refine lx_nil (thenN ?_)
     refine wp_ret (then_ret ?_)
     obtain rfl := Option.some.inj hm
     have H : Heap w0 [] w81 := H.sel [] (by decide)
     exact leave1 S rfl rfl ⟨rfl, H⟩
    ·have hm := ite_f hc86 hm
     refine wp_skip (thenN ?_)
     refine wp_seq (region_plain ?_)
     refine lq (.bool true) S (q_assign rfl) fun a S => ?_
     refine lx_nil (thenN ?_)
     refine wp_ret ?_
     obtain rfl := Option.some.inj hm
     have H : Heap w0 [] w81 := H.sel [] (by decide)
     exact leave1 S rfl rfl ⟨rfl, H⟩

/-- laws.markText -/
def laws_markText_m (fuel : Nat) (a0 : Int) : Option (Str) :=
  (if (decide (a0 ≤ (0 : Int))) = true then some (([109, 48] : Str)) else (iter (fun (s : (Int) × (Str)) => (match s with | (x40, x41) => (if (decide ((0 : Int) < x40)) = true then (cat (bstr [(IntKind.u8.wrap (W ((48 : Int) + (x40.tmod (10 : Int)))))]) x41).bind fun x65 => some (.inl ((W (x40.tdiv (10 : Int))), x65)) else some (.inr (.inl (x41)))) : Option (((Int) × (Str)) ⊕ ((Str) ⊕ (Str))))) fuel (a0, ([] : Str))).bind fun res51 => ctl (β := Str) (ρ := Str) (τ := Str) res51 (fun (x50) => (cat ([109] : Str) x50).bind fun x56 => some (x56)) (fun q => some (q)))
set_option maxRecDepth 20000 in
theorem laws_markText_ok {w0 : World} {fuel : Nat} {a0 : Int} {r : Str} (hm : laws_markText_m fuel a0 = some r) :
  Calls Tryz.prog 51 #[.int .i64 a0] w0 fun e w => e = .returned (sv r) ∧ Heap w0 [] w := by
 unfold laws_markText_m at hm
 have H := Heap.start w0
 refine enter (args := [.int .i64 a0]) Tryz.func51 rfl 20 rfl (Nat.le_of_ble_eq_true rfl) (fun a S => ?_)
 refine wp_seq (region_plain ?_)
 refine lq (sv ([] : Str)) S (q_assign rfl) fun a S => ?_
 refine lx_nil (thenN ?_)
 refine wp_seq (wp_seq (region_plain ?_))
 refine lq (.int .i64 a0) S (q_move rfl) fun a S => ?_
 refine lq (.bool (decide (a0 ≤ (0 : Int)))) S (q_leq rfl rfl) fun a S => ?_
 refine lx_nil (thenN ?_)
 refine cond_b S rfl (fun hc31 => ?_) (fun hc31 => ?_)
 ·have hm := ite_t hc31 hm
  refine wp_seq (region_plain ?_)
  refine lq (sv ([109, 48] : Str)) S (q_assign rfl) fun a S => ?_
  refine lx_nil (thenN ?_)
  refine wp_ret (then_ret ?_)
  obtain rfl := Option.some.inj hm
  exact leave1 S rfl rfl ⟨rfl, H⟩
 ·have hm := ite_f hc31 hm
  refine wp_skip (thenN ?_)
  refine wp_seq (region_plain ?_)
  refine lq (sv ([] : Str)) S (q_assign rfl) fun a S => ?_
  refine lx_nil (thenN ?_)
  refine wp_seq ?_
  obtain ⟨res51, hit52, hk55⟩ := bind_some hm
  obtain ⟨f53, hf54, hit52⟩ := iter_name hit52
  refine block_loop (fun a w => ∃ (x50 : Str), Slots a 20 [(3, (sv x50))] ∧ Heap w0 [] w ∧ res51 = .inl (x50)) ?_ ?_
  ·rintro a w ⟨x50, S, H, rfl⟩
   have hm := ctl_inl hk55
   refine thenN ?_
   refine wp_seq (region_plain ?_)
   refine lq (sv x50) S (q_move rfl) fun a S => ?_
   obtain ⟨x56, e57, hm⟩ := bind_some hm
   obtain ⟨hle, hcat⟩ := cat_some e57
   subst hcat
   refine lq (sv (([109] : Str) ++ x50)) S (q_cat rfl rfl hle) fun a S => ?_
   refine lq (sv (([109] : Str) ++ x50)) S (q_assign rfl) fun a S => ?_
   refine lx_nil (thenN ?_)
   refine wp_ret ?_
   obtain rfl := Option.some.inj hm
   exact leave1 S rfl rfl ⟨rfl, H⟩
  ·skip
   refine loop_ghost (fun n a w => ∃ (x40 : Int) (x41 : Str), Slots a 20 [(0, (.int .i64 x40)), (3, (sv x41))] ∧ Heap w0 [] w ∧ iter f53 n (x40, x41) = some res51) _ ⟨a0, ([] : Str), S.sub ⟨rfl, rfl, trivial⟩, H, hit52⟩ ?_
   rintro n a w ⟨x40, x41, S, H, hit52⟩
   obtain ⟨m58, o59, rfl, hm, hc60⟩ := iter_step hit52
   rw [hf54] at hm
   refine wp_seq (wp_seq (region_plain ?_))
   refine lq (.int .i64 x40) S (q_move rfl) fun a S => ?_
   refine lq (.bool (decide ((0 : Int) < x40))) S (q_gtr rfl rfl) fun a S => ?_
   refine lx_nil (thenN ?_)
   refine cond_b S rfl (fun hc61 => ?_) (fun hc61 => ?_)
   ·have hm := ite_t hc61 hm
    refine wp_skip (thenN ?_)
    refine wp_block ?_
    refine wp_seq (region_plain ?_)
    refine lq (.int .i64 x40) S (q_move rfl) fun a S => ?_
    refine lq (.int .i64 (x40.tmod (10 : Int))) S (q_rem rfl rfl (show (10 : Int) ≠ 0 from by decide)) fun a S => ?_
    refine lq (.int .i64 (W ((48 : Int) + (x40.tmod (10 : Int))))) S (q_add rfl rfl) fun a S => ?_
    refine lq (.int .u8 (IntKind.u8.wrap (W ((48 : Int) + (x40.tmod (10 : Int)))))) S (q_convInt rfl Tryz.underlying3 Tryz.underlying5) fun a S => ?_
    refine lx_buildSlice (r := (rInt .u8)) (xs := [(IntKind.u8.wrap (W ((48 : Int) + (x40.tmod (10 : Int)))))]) (ps := [(0, [(.int .u8 (IntKind.u8.wrap (W ((48 : Int) + (x40.tmod (10 : Int))))))])]) (cs := [(.int .u8 (IntKind.u8.wrap (W ((48 : Int) + (x40.tmod (10 : Int))))))]) (parts := [(0, .tmp 11)]) S trivial (by decide) rfl (H.put0 (A := eA) rfl) rfl Tryz.underlying88 Tryz.sizeOf5 Tryz.zeroValue5 (by decide) ⟨rfl, rfl, Nat.le_of_ble_eq_true rfl, trivial⟩ (by intro zs hz; exact fill_dense hz ⟨rfl, trivial⟩ rfl rfl) rfl (by decide) (fun w F hA => by cases (show F = [] from hA); exact ⟨_, _, [(.int .u8 (IntKind.u8.wrap (W ((48 : Int) + (x40.tmod (10 : Int))))))], _, rfl, rfl, ⟨rfl, rfl⟩, ⟨rfl, rfl⟩⟩) (fun v62 w63 H => ⟨trivial, fun a S => ?_⟩)
    refine lx_e (sv (bstr [(IntKind.u8.wrap (W ((48 : Int) + (x40.tmod (10 : Int)))))])) S trivial (by decide) rfl trivial (q_bstr rfl Tryz.underlying88 Tryz.underlying9 Tryz.underlying5 (by rintro _ rfl; exact (H.rdAt 0 rfl))) (fun a S => ?_)
    refine lq (sv x41) S (q_move rfl) fun a S => ?_
    obtain ⟨x65, e66, hm⟩ := bind_some hm
    obtain ⟨hle, hcat⟩ := cat_some e66
    subst hcat
    refine lq (sv ((bstr [(IntKind.u8.wrap (W ((48 : Int) + (x40.tmod (10 : Int)))))]) ++ x41)) S (q_cat rfl rfl hle) fun a S => ?_
    refine lq (sv ((bstr [(IntKind.u8.wrap (W ((48 : Int) + (x40.tmod (10 : Int)))))]) ++ x41)) S (q_assign rfl) fun a S => ?_
    refine lx_nil (thenN ?_)
    refine region_plain ?_
    refine lq (.int .i64 x40) S (q_move rfl) fun a S => ?_
    refine lq (.int .i64 (W (x40.tdiv (10 : Int)))) S (q_quo rfl rfl (show (10 : Int) ≠ 0 from by decide)) fun a S => ?_
    refine lq (.int .i64 (W (x40.tdiv (10 : Int)))) S (q_assign rfl) fun a S => ?_
    refine lx_nil ?_
    refine inBlock_norm ?_
    have H : Heap w0 [] w63 := H.sel [] (by decide)
    exact ⟨m58, Nat.lt_succ_self _, (W (x40.tdiv (10 : Int))), ((bstr [(IntKind.u8.wrap (W ((48 : Int) + (x40.tmod (10 : Int)))))]) ++ x41), S.sub ⟨rfl, rfl, trivial⟩, H, it_cont hm hc60⟩
   ·have hm := ite_f hc61 hm
    refine wp_exit ?_
    refine then_exit ?_
    refine then_exit ?_
    refine inBlock_exit ?_
    obtain rfl := it_brk hm hc60
    exact ⟨x41, S.sub ⟨rfl, trivial⟩, H, rfl⟩

/-- laws.markStringS -/
def laws_markStringS_m (fuel : Nat) (a0 : (List Str)) (a1 : Int) : Option (Int × (List Str)) :=
  (iter (fun (s : (List Str) × (Int) × (Int)) => (match s with | (xs43, x44, x45) => (if (decide (x45 < (xs43.length : Int))) = true then (laws_markText_m fuel x44).bind fun x71 => (idx xs43 x45).bind fun _ => some (.inl ((xs43.set x45.toNat x71), (W (x44 + (1 : Int))), (W (x45 + (1 : Int))))) else some (.inr (.inl (x44, xs43)))) : Option (((List Str) × (Int) × (Int)) ⊕ ((Int × (List Str)) ⊕ (Int × (List Str)))))) fuel (a0, a1, (0 : Int))).bind fun res60 => ctl (β := Int × (List Str)) (ρ := Int × (List Str)) (τ := Int × (List Str)) res60 (fun (x58, xs59) => some ((x58, xs59))) (fun q => some (q))
set_option maxRecDepth 20000 in
theorem laws_markStringS_ok {w0 : World} {fuel : Nat} {p0 : Value} {a0 : (List Str)} {a1 : Int} {w00 : World} {L : List Asrt} {r : Int × (List Str)} (H : Heap w00 (oA (rList rStr) p0 a0 :: L) w0) (hm : laws_markStringS_m fuel a0 a1 = some r) :
  Calls Tryz.prog 28 #[p0, .int .i64 a1] w0 fun e w => e = .returned (.int .i64 r.1) ∧ Heap w00 (oA (rList rStr) p0 r.2 :: L) w := by
 unfold laws_markStringS_m at hm
 refine enter (args := [p0, .int .i64 a1]) Tryz.func28 rfl 20 rfl (Nat.le_of_ble_eq_true rfl) (fun a S => ?_)
 refine wp_seq (region_plain ?_)
 refine lq (.int .i64 (0 : Int)) S (q_assign rfl) fun a S => ?_
 refine lx_nil (thenN ?_)
 refine wp_seq (wp_seq (region_plain ?_))
 refine lq (.int .i64 (0 : Int)) S (q_assign rfl) fun a S => ?_
 refine lx_nil (thenN ?_)
 obtain ⟨res60, hit61, hk64⟩ := bind_some hm
 obtain ⟨f62, hf63, hit61⟩ := iter_name hit61
 refine block_loop (fun a w => ∃ (x58 : Int) (xs59 : List Str), Slots a 20 [(1, (.int .i64 x58))] ∧ Heap w00 (oA (rList rStr) p0 xs59 :: L) w ∧ res60 = .inl (x58, xs59)) ?_ ?_
 ·rintro a w ⟨x58, xs59, S, H, rfl⟩
  have hm := ctl_inl hk64
  refine thenN ?_
  refine wp_seq (region_plain ?_)
  refine lq (.int .i64 x58) S (q_move rfl) fun a S => ?_
  refine lq (.int .i64 x58) S (q_assign rfl) fun a S => ?_
  refine lx_nil (thenN ?_)
  refine wp_ret ?_
  obtain rfl := Option.some.inj hm
  exact leave1 S rfl rfl ⟨rfl, H⟩
 ·skip
  refine loop_ghost (fun n a w => ∃ (xs43 : List Str) (x44 : Int) (x45 : Int), Slots a 20 [(0, p0), (1, (.int .i64 x44)), (5, (.int .i64 x45))] ∧ Heap w00 (oA (rList rStr) p0 xs43 :: L) w ∧ iter f62 n (xs43, x44, x45) = some res60) _ ⟨a0, a1, (0 : Int), S.sub ⟨rfl, rfl, rfl, trivial⟩, H, hit61⟩ ?_
  rintro n a w ⟨xs43, x44, x45, S, H, hit61⟩
  obtain ⟨m65, o66, rfl, hm, hc67⟩ := iter_step hit61
  rw [hf63] at hm
  refine wp_seq (wp_seq (region_plain ?_))
  refine lq (.int .i64 x45) S (q_move rfl) fun a S => ?_
  refine lq p0 S (q_move rfl) fun a S => ?_
  refine lq (.int .i64 (xs43.length : Int)) S (q_lenSl rfl (H.isSl 0 rfl) rfl Tryz.underlying22) fun a S => ?_
  refine lq (.bool (decide (x45 < (xs43.length : Int)))) S (q_lss rfl rfl) fun a S => ?_
  refine lx_nil (thenN ?_)
  refine cond_b S rfl (fun hc68 => ?_) (fun hc68 => ?_)
  ·have hm := ite_t hc68 hm
   refine wp_skip (thenN ?_)
   refine wp_seq ?_
   refine wp_block ?_
   refine wp_seq (region_plain ?_)
   refine lq p0 S (q_move rfl) fun a S => ?_
   refine lq (.int .i64 x45) S (q_move rfl) fun a S => ?_
   refine lq (.int .i64 x44) S (q_move rfl) fun a S => ?_
   obtain ⟨x71, e72, hm⟩ := bind_some hm
   refine lx_call (xs := [.tmp 14]) S trivial (by decide) rfl rfl Tryz.call51 ((laws_markText_ok  e72).mono ?_)
   rintro e w69 ⟨rfl, Hc70⟩
   have H := H.call0 Hc70
   refine ⟨_, rfl, trivial, fun a S => ?_⟩
   obtain ⟨x74, e75, hm⟩ := bind_some hm
   have hlt := lt_of_idx (idx_some e75).2
   refine lq (ePtr p0 (x45.toNat * 1)) S (q_indexAddr rfl (H.isSl 0 rfl) rfl (idx_some e75).1 hlt Tryz.underlying22 Tryz.sizeOf9) fun a S => ?_
   refine lx_storeElem (r := rStr) (us := [(sv x71)]) (off := 0) (e' := x71) S trivial rfl H.putE (ev_zero rfl) rfl (idx_some e75).2 rfl Tryz.sizeOf9 (Nat.le_of_ble_eq_true rfl) (List.forall_mem_cons.2 ⟨rfl, (fun _ h => nomatch h)⟩) (Upd.full rfl (fun w G hG => by cases (show G = [] from hG); exact ⟨rfl, rfl⟩)) (fun w76 H => ⟨trivial, fun a S => ?_⟩)
   refine lx_nil (thenN ?_)
   refine region_plain ?_
   refine lq (.int .i64 x44) S (q_move rfl) fun a S => ?_
   refine lq (.int .i64 (W (x44 + (1 : Int)))) S (q_add rfl rfl) fun a S => ?_
   refine lq (.int .i64 (W (x44 + (1 : Int)))) S (q_assign rfl) fun a S => ?_
   refine lx_nil ?_
   refine inBlock_norm ?_
   refine thenN ?_
   refine region_plain ?_
   refine lq (.int .i64 x45) S (q_move rfl) fun a S => ?_
   refine lq (.int .i64 (W (x45 + (1 : Int)))) S (q_add rfl rfl) fun a S => ?_
   refine lq (.int .i64 (W (x45 + (1 : Int)))) S (q_assign rfl) fun a S => ?_
   refine lx_nil ?_
   exact ⟨m65, Nat.lt_succ_self _, (xs43.set x45.toNat x71), (W (x44 + (1 : Int))), (W (x45 + (1 : Int))), S.sub ⟨rfl, rfl, rfl, trivial⟩, H, it_cont hm hc67⟩
  ·have hm := ite_f hc68 hm
   refine wp_exit ?_
   refine then_exit ?_
   refine then_exit ?_
   refine inBlock_exit ?_
   obtain rfl := it_brk hm hc67
   exact ⟨x44, xs43, S.sub ⟨rfl, trivial⟩, H, rfl⟩

/-- laws.markEdgeS -/
def laws_markEdgeS_m (fuel : Nat) (a0 : (List Timpl_Edge)) (a1 : Int) : Option (Int × (List Timpl_Edge)) :=
  (iter (fun (s : (List Timpl_Edge) × (Int) × (Int)) => (match s with | (xs44, x45, x46) => (if (decide (x46 < (xs44.length : Int))) = true then (idx xs44 x46).bind fun x71 => (idx (xs44.set x46.toNat (x45, x71.2.1, x71.2.2)) x46).bind fun x74 => (idx ((xs44.set x46.toNat (x45, x71.2.1, x71.2.2)).set x46.toNat (x74.1, (W (x45 + (1 : Int))), x74.2.2)) x46).bind fun x77 => some (.inl ((((xs44.set x46.toNat (x45, x71.2.1, x71.2.2)).set x46.toNat (x74.1, (W (x45 + (1 : Int))), x74.2.2)).set x46.toNat (x77.1, x77.2.1, (W ((W (x45 + (1 : Int))) + (1 : Int))))), (W ((W ((W (x45 + (1 : Int))) + (1 : Int))) + (1 : Int))), (W (x46 + (1 : Int))))) else some (.inr (.inl (x45, xs44)))) : Option (((List Timpl_Edge) × (Int) × (Int)) ⊕ ((Int × (List Timpl_Edge)) ⊕ (Int × (List Timpl_Edge)))))) fuel (a0, a1, (0 : Int))).bind fun res62 => ctl (β := Int × (List Timpl_Edge)) (ρ := Int × (List Timpl_Edge)) (τ := Int × (List Timpl_Edge)) res62 (fun (x60, xs61) => some ((x60, xs61))) (fun q => some (q))
set_option maxRecDepth 20000 in
theorem laws_markEdgeS_ok {w0 : World} {fuel : Nat} {p0 : Value} {a0 : (List Timpl_Edge)} {a1 : Int} {w00 : World} {L : List Asrt} {r : Int × (List Timpl_Edge)} (H : Heap w00 (oA (rList Rimpl_Edge) p0 a0 :: L) w0) (hm : laws_markEdgeS_m fuel a0 a1 = some r) :
  Calls Tryz.prog 29 #[p0, .int .i64 a1] w0 fun e w => e = .returned (.int .i64 r.1) ∧ Heap w00 (oA (rList Rimpl_Edge) p0 r.2 :: L) w := by
 unfold laws_markEdgeS_m at hm
 refine enter (args := [p0, .int .i64 a1]) Tryz.func29 rfl 34 rfl (Nat.le_of_ble_eq_true rfl) (fun a S => ?_)
 refine wp_seq (region_plain ?_)
 refine lq (.int .i64 (0 : Int)) S (q_assign rfl) fun a S => ?_
 refine lx_nil (thenN ?_)
 refine wp_seq (wp_seq (region_plain ?_))
 refine lq (.int .i64 (0 : Int)) S (q_assign rfl) fun a S => ?_
 refine lx_nil (thenN ?_)
 obtain ⟨res62, hit63, hk66⟩ := bind_some hm
 obtain ⟨f64, hf65, hit63⟩ := iter_name hit63
 refine block_loop (fun a w => ∃ (x60 : Int) (xs61 : List Timpl_Edge), Slots a 34 [(1, (.int .i64 x60))] ∧ Heap w00 (oA (rList Rimpl_Edge) p0 xs61 :: L) w ∧ res62 = .inl (x60, xs61)) ?_ ?_
 ·rintro a w ⟨x60, xs61, S, H, rfl⟩
  have hm := ctl_inl hk66
  refine thenN ?_
  refine wp_seq (region_plain ?_)
  refine lq (.int .i64 x60) S (q_move rfl) fun a S => ?_
  refine lq (.int .i64 x60) S (q_assign rfl) fun a S => ?_
  refine lx_nil (thenN ?_)
  refine wp_ret ?_
  obtain rfl := Option.some.inj hm
  exact leave1 S rfl rfl ⟨rfl, H⟩
 ·skip
  refine loop_ghost (fun n a w => ∃ (xs44 : List Timpl_Edge) (x45 : Int) (x46 : Int), Slots a 34 [(0, p0), (1, (.int .i64 x45)), (5, (.int .i64 x46))] ∧ Heap w00 (oA (rList Rimpl_Edge) p0 xs44 :: L) w ∧ iter f64 n (xs44, x45, x46) = some res62) _ ⟨a0, a1, (0 : Int), S.sub ⟨rfl, rfl, rfl, trivial⟩, H, hit63⟩ ?_
  rintro n a w ⟨xs44, x45, x46, S, H, hit63⟩
  obtain ⟨m67, o68, rfl, hm, hc69⟩ := iter_step hit63
  rw [hf65] at hm
  refine wp_seq (wp_seq (region_plain ?_))
  refine lq (.int .i64 x46) S (q_move rfl) fun a S => ?_
  refine lq p0 S (q_move rfl) fun a S => ?_
  refine lq (.int .i64 (xs44.length : Int)) S (q_lenSl rfl (H.isSl 0 rfl) rfl Tryz.underlying27) fun a S => ?_
  refine lq (.bool (decide (x46 < (xs44.length : Int)))) S (q_lss rfl rfl) fun a S => ?_
  refine lx_nil (thenN ?_)
  refine cond_b S rfl (fun hc70 => ?_) (fun hc70 => ?_)
  ·have hm := ite_t hc70 hm
   refine wp_skip (thenN ?_)
   refine wp_seq ?_
   refine wp_block ?_
   refine wp_seq (region_plain ?_)
   refine lq p0 S (q_move rfl) fun a S => ?_
   refine lq (.int .i64 x46) S (q_move rfl) fun a S => ?_
   refine lq (.int .i64 x45) S (q_move rfl) fun a S => ?_
   obtain ⟨x71, e72, hm⟩ := bind_some hm
   have hlt := lt_of_idx (idx_some e72).2
   refine lq (ePtr p0 (x46.toNat * 3)) S (q_indexAddr rfl (H.isSl 0 rfl) rfl (idx_some e72).1 hlt Tryz.underlying27 Tryz.sizeOf62) fun a S => ?_
   refine lq (pAdd (ePtr p0 (x46.toNat * 3)) 0) S (q_fieldAddr' 0 2 rfl (((H.isSl 0 rfl)).ptr (lt_of_idx (idx_some e72).2) _) Tryz.underlying62 rfl Tryz.sizeOf2) fun a S => ?_
   refine lx_storeElem (r := Rimpl_Edge) (us := [(.int .i64 x45)]) (off := 0) (e' := (x45, x71.2.1, x71.2.2)) S trivial rfl H.putE rfl rfl (idx_some e72).2 rfl Tryz.sizeOf2 (Nat.le_of_ble_eq_true rfl) (List.forall_mem_cons.2 ⟨rfl, (fun _ h => nomatch h)⟩) (Upd.fst (off := 0) (Nat.le_of_ble_eq_true rfl) (Upd.full rfl (fun w G hG => by cases (show G = [] from hG); exact ⟨rfl, rfl⟩))) (fun w73 H => ⟨trivial, fun a S => ?_⟩)
   refine lx_nil (thenN ?_)
   refine wp_seq (region_plain ?_)
   refine lq (.int .i64 x45) S (q_move rfl) fun a S => ?_
   refine lq (.int .i64 (W (x45 + (1 : Int)))) S (q_add rfl rfl) fun a S => ?_
   refine lq (.int .i64 (W (x45 + (1 : Int)))) S (q_assign rfl) fun a S => ?_
   refine lx_nil (thenN ?_)
   refine wp_seq (region_plain ?_)
   refine lq p0 S (q_move rfl) fun a S => ?_
   refine lq (.int .i64 x46) S (q_move rfl) fun a S => ?_
   refine lq (.int .i64 (W (x45 + (1 : Int)))) S (q_move rfl) fun a S => ?_
   obtain ⟨x74, e75, hm⟩ := bind_some hm
   have hlt := lt_of_idx (idx_some e75).2
   refine lq (ePtr p0 (x46.toNat * 3)) S (q_indexAddr rfl (H.isSl 0 rfl) rfl (idx_some e75).1 hlt Tryz.underlying27 Tryz.sizeOf62) fun a S => ?_
   refine lq (pAdd (ePtr p0 (x46.toNat * 3)) 1) S (q_fieldAddr' 1 2 rfl (((H.isSl 0 rfl)).ptr (lt_of_idx (idx_some e75).2) _) Tryz.underlying62 rfl Tryz.sizeOf2) fun a S => ?_
   refine lx_storeElem (r := Rimpl_Edge) (us := [(.int .i64 (W (x45 + (1 : Int))))]) (off := 1) (e' := (x74.1, (W (x45 + (1 : Int))), x74.2.2)) S trivial rfl H.putE rfl rfl (idx_some e75).2 rfl Tryz.sizeOf2 (Nat.le_of_ble_eq_true rfl) (List.forall_mem_cons.2 ⟨rfl, (fun _ h => nomatch h)⟩) (Upd.snd (off := 0) (Upd.fst (off := 0) (Nat.le_of_ble_eq_true rfl) (Upd.full rfl (fun w G hG => by cases (show G = [] from hG); exact ⟨rfl, rfl⟩)))) (fun w76 H => ⟨trivial, fun a S => ?_⟩)
   refine lx_nil (thenN ?_)
   refine wp_seq (region_plain ?_)
   refine lq (.int .i64 (W (x45 + (1 : Int)))) S (q_move rfl) fun a S => ?_
   refine lq (.int .i64 (W ((W (x45 + (1 : Int))) + (1 : Int)))) S (q_add rfl rfl) fun a S => ?_
   refine lq (.int .i64 (W ((W (x45 + (1 : Int))) + (1 : Int)))) S (q_assign rfl) fun a S => ?_
   refine lx_nil (thenN ?_)
   refine wp_seq (region_plain ?_)
   refine lq p0 S (q_move rfl) fun a S => ?_
   refine lq (.int .i64 x46) S (q_move rfl) fun a S => ?_
   refine lq (.int .i64 (W ((W (x45 + (1 : Int))) + (1 : Int)))) S (q_move rfl) fun a S => ?_
   obtain ⟨x77, e78, hm⟩ := bind_some hm
   have hlt := lt_of_idx (idx_some e78).2
   refine lq (ePtr p0 (x46.toNat * 3)) S (q_indexAddr rfl (H.isSl 0 rfl) rfl (idx_some e78).1 hlt Tryz.underlying27 Tryz.sizeOf62) fun a S => ?_
   refine lq (pAdd (ePtr p0 (x46.toNat * 3)) 2) S (q_fieldAddr' 2 2 rfl (((H.isSl 0 rfl)).ptr (lt_of_idx (idx_some e78).2) _) Tryz.underlying62 rfl Tryz.sizeOf2) fun a S => ?_
   refine lx_storeElem (r := Rimpl_Edge) (us := [(.int .i64 (W ((W (x45 + (1 : Int))) + (1 : Int))))]) (off := 2) (e' := (x77.1, x77.2.1, (W ((W (x45 + (1 : Int))) + (1 : Int))))) S trivial rfl H.putE rfl rfl (idx_some e78).2 rfl Tryz.sizeOf2 (Nat.le_of_ble_eq_true rfl) (List.forall_mem_cons.2 ⟨rfl, (fun _ h => nomatch h)⟩) (Upd.snd (off := 1) (Upd.snd (off := 0) (Upd.full rfl (fun w G hG => by cases (show G = [] from hG); exact ⟨rfl, rfl⟩)))) (fun w79 H => ⟨trivial, fun a S => ?_⟩)
   refine lx_nil (thenN ?_)
   refine region_plain ?_
   refine lq (.int .i64 (W ((W (x45 + (1 : Int))) + (1 : Int)))) S (q_move rfl) fun a S => ?_
   refine lq (.int .i64 (W ((W ((W (x45 + (1 : Int))) + (1 : Int))) + (1 : Int)))) S (q_add rfl rfl) fun a S => ?_
   refine lq (.int .i64 (W ((W ((W (x45 + (1 : Int))) + (1 : Int))) + (1 : Int)))) S (q_assign rfl) fun a S => ?_
   refine lx_nil ?_
   refine inBlock_norm ?_
   refine thenN ?_
   refine region_plain ?_
   refine lq (.int .i64 x46) S (q_move rfl) fun a S => ?_
   refine lq (.int .i64 (W (x46 + (1 : Int)))) S (q_add rfl rfl) fun a S => ?_
   refine lq (.int .i64 (W (x46 + (1 : Int)))) S (q_assign rfl) fun a S => ?_
   refine lx_nil ?_
   exact ⟨m67, Nat.lt_succ_self _, (((xs44.set x46.toNat (x45, x71.2.1, x71.2.2)).set x46.toNat (x74.1, (W (x45 + (1 : Int))), x74.2.2)).set x46.toNat (x77.1, x77.2.1, (W ((W (x45 + (1 : Int))) + (1 : Int))))), (W ((W ((W (x45 + (1 : Int))) + (1 : Int))) + (1 : Int))), (W (x46 + (1 : Int))), S.sub ⟨rfl, rfl, rfl, trivial⟩, H, it_cont hm hc69⟩
  ·have hm := ite_f hc70 hm
   refine wp_exit ?_
   refine then_exit ?_
   refine then_exit ?_
   refine inBlock_exit ?_
   obtain rfl := it_brk hm hc69
   exact ⟨x45, xs44, S.sub ⟨rfl, trivial⟩, H, rfl⟩

/-- laws.markLts -/
def laws_markLts_m (fuel : Nat) (a0 : Timpl_Lts) (a1 : Int) : Option (Int × (List Str) × (List Timpl_Edge)) :=
  (laws_markStringS_m fuel a0.2.2.1 a1).bind fun x36 => (laws_markEdgeS_m fuel a0.2.2.2 x36.1).bind fun x40 => some ((x40.1, x36.2, x40.2))
set_option maxRecDepth 20000 in
theorem laws_markLts_ok {w0 : World} {fuel : Nat} {p0_0 p0_1 : Value} {a0 : Timpl_Lts} {a1 : Int} {w00 : World} {L : List Asrt} {r : Int × (List Str) × (List Timpl_Edge)} (H : Heap w00 (oA (rList rStr) p0_0 a0.2.2.1 :: oA (rList Rimpl_Edge) p0_1 a0.2.2.2 :: L) w0) (hm : laws_markLts_m fuel a0 a1 = some r) :
  Calls Tryz.prog 10 #[(.agg #[(.int .i64 a0.1), (.int .i64 a0.2.1), p0_0, p0_1]), .int .i64 a1] w0 fun e w => e = .returned (.int .i64 r.1) ∧ Heap w00 (oA (rList rStr) p0_0 r.2.1 :: oA (rList Rimpl_Edge) p0_1 r.2.2 :: L) w := by
 unfold laws_markLts_m at hm
 refine enter (args := [(.agg #[(.int .i64 a0.1), (.int .i64 a0.2.1), p0_0, p0_1]), .int .i64 a1]) Tryz.func10 rfl 14 rfl (Nat.le_of_ble_eq_true rfl) (fun a S => ?_)
 refine wp_seq (region_plain ?_)
 refine lx_box S trivial (by decide) rfl H rfl rfl (fun b31 w32 H => ⟨trivial, fun a S => ?_⟩)
 refine lq (.int .i64 (0 : Int)) S (q_assign rfl) fun a S => ?_
 refine lx_nil (thenN ?_)
 refine wp_seq (region_plain ?_)
 refine lq (pAdd (bp b31) 2) S (q_fieldAddr' 2 22 rfl (isP_bp _) Tryz.underlying29 rfl Tryz.sizeOf22) fun a S => ?_
 refine lx_e p0_0 S trivial (by decide) rfl trivial (q_load1 rfl Tryz.isAgg22 (by rintro _ rfl; exact (At.of_add (m := 2) (j := 0) (boxAt (i := 0) H rfl (j := 2) rfl)))) (fun a S => ?_)
 refine lq (.int .i64 a1) S (q_move rfl) fun a S => ?_
 obtain ⟨x36, e37, hm⟩ := bind_some hm
 have H : Heap w00 (oA (rList rStr) p0_0 a0.2.2.1 :: bA b31 [(.int .i64 a0.1), (.int .i64 a0.2.1), p0_0, p0_1] 29 :: oA (rList Rimpl_Edge) p0_1 a0.2.2.2 :: L) w32 := H.front 1 rfl
 refine lx_call (xs := [.tmp 6, .tmp 7]) S trivial (by decide) rfl rfl Tryz.call28 ((laws_markStringS_ok H  e37).mono ?_)
 rintro e w34 ⟨rfl, H⟩
 refine ⟨_, rfl, trivial, fun a S => ?_⟩
 refine lq (.int .i64 x36.1) S (q_assign rfl) fun a S => ?_
 refine lx_nil (thenN ?_)
 refine wp_seq (region_plain ?_)
 refine lq (pAdd (bp b31) 3) S (q_fieldAddr' 3 27 rfl (isP_bp _) Tryz.underlying29 rfl Tryz.sizeOf27) fun a S => ?_
 refine lx_e p0_1 S trivial (by decide) rfl trivial (q_load1 rfl Tryz.isAgg27 (by rintro _ rfl; exact (At.of_add (m := 3) (j := 0) (boxAt (i := 1) H rfl (j := 3) rfl)))) (fun a S => ?_)
 refine lq (.int .i64 x36.1) S (q_move rfl) fun a S => ?_
 obtain ⟨x40, e41, hm⟩ := bind_some hm
 have H : Heap w00 (oA (rList Rimpl_Edge) p0_1 a0.2.2.2 :: oA (rList rStr) p0_0 x36.2 :: bA b31 [(.int .i64 a0.1), (.int .i64 a0.2.1), p0_0, p0_1] 29 :: L) w34 := H.front 2 rfl
 refine lx_call (xs := [.tmp 10, .tmp 11]) S trivial (by decide) rfl rfl Tryz.call29 ((laws_markEdgeS_ok H  e41).mono ?_)
 rintro e w38 ⟨rfl, H⟩
 refine ⟨_, rfl, trivial, fun a S => ?_⟩
 refine lq (.int .i64 x40.1) S (q_assign rfl) fun a S => ?_
 refine lx_nil (thenN ?_)
 refine wp_seq (region_plain ?_)
 refine lq (.int .i64 x40.1) S (q_move rfl) fun a S => ?_
 refine lq (.int .i64 x40.1) S (q_assign rfl) fun a S => ?_
 refine lx_nil (thenN ?_)
 refine wp_ret ?_
 obtain rfl := Option.some.inj hm
 have H : Heap w00 (oA (rList rStr) p0_0 x36.2 :: oA (rList Rimpl_Edge) p0_1 x40.2 :: bA b31 [(.int .i64 a0.1), (.int .i64 a0.2.1), p0_0, p0_1] 29 :: L) w38 := H.front 1 rfl
 have H : Heap w00 (oA (rList rStr) p0_0 x36.2 :: oA (rList Rimpl_Edge) p0_1 x40.2 :: L) w38 := H.selT 3 [0, 1] (by decide)
 exact leave1 S rfl rfl ⟨rfl, H⟩
end Go.Proofs.YtelpejcnlekaoaaGreatDoor
