/- The models of some functions and their walks (printed by a program of this repo). -/
import Derived.Test.YtkgkfbmcnchdbaaGreatDoorF0
import Derived.Test.YtkgkfbmcnchdbaaGreatDoorF5
import Derived.Test.YtkgkfbmcnchdbaaGreatDoorFS
import Derived.Test.YtkgkfbmcnchdbaaGreatDoorGxT
import Derived.Test.YtkgkfbmcnchdbaaGreatDoorGxY
namespace Go.Proofs.YtkgkfbmcnchdbaaGreatDoor
open Go.RowKit Go.Gx

/-- (impl.Lts).out -/
def impl_Lts_out_m (fuel : Nat) (a0 : Timpl_Lts) (a1 : Int) : Option ((List Timpl_Edge)) :=
  (iter (fun (s : (List Timpl_Edge) × (Int)) => (match s with | (xs91, x93) => (if (decide (x93 < (a0.2.2.2.length : Int))) = true then join (κ := List Timpl_Edge → Option (((List Timpl_Edge) × (Int)) ⊕ (((List Timpl_Edge)) ⊕ ((List Timpl_Edge))))) (fun (xs144 : List Timpl_Edge) => some (.inl (xs144, (W (x93 + (1 : Int)))))) (fun K146 => (idx a0.2.2.2 x93).bind fun x148 => (if (x148.1 == a1) = true then (app xs91 [(x148.1, x148.2.1, x148.2.2)]).bind fun x169 => (K146 x169) else (K146 xs91))) else some (.inr (.inl (xs91)))) : Option (((List Timpl_Edge) × (Int)) ⊕ (((List Timpl_Edge)) ⊕ ((List Timpl_Edge)))))) fuel ([], (0 : Int))).bind fun res133 => ctl (β := (List Timpl_Edge)) (ρ := (List Timpl_Edge)) (τ := (List Timpl_Edge)) res133 (fun (xs131) => some (xs131)) (fun q => some (q))
set_option maxRecDepth 20000 in
theorem impl_Lts_out_ok {w0 : World} {fuel : Nat} {p0 : Value} {a0 : Timpl_Lts} {a1 : Int} {r : (List Timpl_Edge)} (h0 : Rd Rimpl_Lts w0 p0 a0) (hm : impl_Lts_out_m fuel a0 a1 = some r) :
  Calls Tryz.prog 83 #[p0, .int .i64 a1] w0 fun e w => ∃ (v0 : Value), e = .returned (v0) ∧ Heap w0 [oA (rList Rimpl_Edge) v0 r] w := by
 unfold impl_Lts_out_m at hm
 have H := Heap.start w0
 obtain ⟨c31, rfl, h32⟩ := h0
 obtain ⟨c37, c38, rfl, h39, h40⟩ := h32
 obtain rfl := h39
 obtain ⟨c41, c42, rfl, h43, h44⟩ := h40
 obtain rfl := h43
 obtain ⟨c45, c46, rfl, h47, h48⟩ := h44
 obtain ⟨v33, rfl, h34⟩ := rd_list h47
 obtain ⟨v35, rfl, h36⟩ := rd_list h48
 refine enter (args := [(.agg #[(.int .i64 a0.1), (.int .i64 a0.2.1), v33, v35]), .int .i64 a1]) Tryz.func83 rfl 25 rfl (Nat.le_of_ble_eq_true rfl) (fun a S => ?_)
 refine wp_seq (region_plain ?_)
 refine lx_box S trivial (by decide) rfl H rfl rfl (fun b49 w50 H => ⟨trivial, fun a S => ?_⟩)
 refine lq (.slice none 0 0) S (q_assign rfl) fun a S => ?_
 refine lx_nil (thenN ?_)
 refine wp_seq (region_plain ?_)
 refine lq (.slice none 0 0) S (q_assign rfl) fun a S => ?_
 refine lx_nil (thenN ?_)
 refine wp_seq (wp_seq (region_plain ?_))
 refine lq (pAdd (bp b49) 3) S (q_fieldAddr' 3 28 rfl (isP_bp _) Tryz.underlying30 rfl Tryz.sizeOf28) fun a S => ?_
 refine lx_e v35 S trivial (by decide) rfl trivial (q_load1 rfl Tryz.isAgg28 (by rintro _ rfl; exact (At.of_add (m := 3) (j := 0) (boxAt (i := 0) H rfl (j := 3) rfl)))) (fun a S => ?_)
 refine lq (.int .i64 (a0.2.2.2.length : Int)) S (q_lenSl rfl (h36).isSl rfl Tryz.underlying28) fun a S => ?_
 refine lq (.int .i64 (0 : Int)) S (q_move rfl) fun a S => ?_
 refine lx_nil (thenN ?_)
 obtain ⟨res133, hit134, hk137⟩ := bind_some hm
 obtain ⟨f135, hf136, hit134⟩ := iter_name hit134
 refine block_loop (fun a w => ∃ (xs131 : List Timpl_Edge) (v130 : Value), Slots a 25 [(5, v130)] ∧ Heap w0 [oA (rList Rimpl_Edge) v130 xs131] w ∧ res133 = .inl (xs131)) ?_ ?_
 ·rintro a w ⟨xs131, v130, S, H, rfl⟩
  have hm := ctl_inl hk137
  refine thenN ?_
  refine wp_seq (region_plain ?_)
  refine lq v130 S (q_move rfl) fun a S => ?_
  refine lq v130 S (q_assign rfl) fun a S => ?_
  refine lx_nil (thenN ?_)
  refine wp_ret ?_
  obtain rfl := Option.some.inj hm
  exact leave1 S rfl rfl ⟨v130, rfl, H⟩
 ·skip
  have H : Heap w0 [oA (rList Rimpl_Edge) (.slice none 0 0) ([] : List Timpl_Edge), bA b49 [(.int .i64 a0.1), (.int .i64 a0.2.1), v33, v35] 30] w50 := H.nilList Rimpl_Edge
  have H : Heap w0 [oA (rList Rimpl_Edge) (.slice none 0 0) ([] : List Timpl_Edge)] w50 := H.sel [0] (by decide)
  refine loop_ghost (fun n a w => ∃ (xs91 : List Timpl_Edge) (x93 : Int) (v90 : Value), Slots a 25 [(1, (.int .i64 a1)), (5, v90), (9, v35), (10, (.int .i64 (a0.2.2.2.length : Int))), (11, (.int .i64 x93))] ∧ Heap w0 [oA (rList Rimpl_Edge) v90 xs91] w ∧ iter f135 n (xs91, x93) = some res133) _ ⟨[], (0 : Int), (.slice none 0 0), S.sub ⟨rfl, rfl, rfl, rfl, rfl, trivial⟩, H, hit134⟩ ?_
  rintro n a w ⟨xs91, x93, v90, S, H, hit134⟩
  obtain ⟨m139, o140, rfl, hm, hc141⟩ := iter_step hit134
  rw [hf136] at hm
  refine wp_seq (region_plain ?_)
  refine lq (.bool (decide (x93 < (a0.2.2.2.length : Int)))) S (q_lss rfl rfl) fun a S => ?_
  refine lx_nil (thenN ?_)
  refine wp_seq ?_
  refine cond_b S rfl (fun hc142 => ?_) (fun hc142 => ?_)
  ·have hm := ite_t hc142 hm
   refine wp_skip (thenN ?_)
   obtain ⟨K146, hK147, hm⟩ := join_elim hm
   refine seq_cut (fun a w => ∃ (xs144 : List Timpl_Edge) (v143 : Value), Slots a 25 [(1, (.int .i64 a1)), (5, v143), (9, v35), (10, (.int .i64 (a0.2.2.2.length : Int))), (11, (.int .i64 x93))] ∧ Heap w0 [oA (rList Rimpl_Edge) v143 xs144] w ∧ K146 xs144 = some o140) ?_ ?_
   ·rintro a w ⟨xs144, v143, S, H, hm⟩
    subst hK147
    refine region_plain ?_
    refine lq (.int .i64 (W (x93 + (1 : Int)))) S (q_add rfl rfl) fun a S => ?_
    refine lq (.int .i64 (W (x93 + (1 : Int)))) S (q_move rfl) fun a S => ?_
    refine lx_nil ?_
    exact ⟨m139, Nat.lt_succ_self _, xs144, (W (x93 + (1 : Int))), v143, S.sub ⟨rfl, rfl, rfl, rfl, rfl, trivial⟩, H, it_cont hm hc141⟩
   ·skip
    refine wp_block ?_
    refine wp_seq (region_plain ?_)
    obtain ⟨x148, e149, hm⟩ := bind_some hm
    obtain ⟨c150, h151, hat152⟩ := (h36).elem (idx_some e149).2
    obtain ⟨c153, c154, rfl, h155, h156⟩ := h151
    obtain rfl := h155
    obtain ⟨c157, c158, rfl, h159, h160⟩ := h156
    obtain rfl := h159
    obtain rfl := h160
    have hlt := lt_of_idx (idx_some e149).2
    refine lq (ePtr v35 (x93.toNat * 3)) S (q_indexAddr rfl (h36).isSl rfl (idx_some e149).1 hlt Tryz.underlying28 Tryz.sizeOf72) fun a S => ?_
    refine lx_e (.agg #[(.int .i64 x148.1), (.int .i64 x148.2.1), (.int .i64 x148.2.2)]) S trivial (by decide) rfl trivial (q_loadA (cs := [(.int .i64 x148.1), (.int .i64 x148.2.1), (.int .i64 x148.2.2)]) rfl ((hat152 0 _ rfl).isP) Tryz.isAgg72 Tryz.sizeOf72 (by rintro _ rfl; exact (fun j u hu => (hat152 j u hu).ext H.ext))) (fun a S => ?_)
    refine lx_alloc S trivial (by decide) rfl H Tryz.zeroValue72 rfl (fun b161 w162 H => ⟨trivial, fun a S => ?_⟩)
    refine lx_storeBox (o := 0) (i := 0) (us := [(.int .i64 x148.1), (.int .i64 x148.2.1), (.int .i64 x148.2.2)]) (cs' := [(.int .i64 x148.1), (.int .i64 x148.2.1), (.int .i64 x148.2.2)]) S trivial rfl H rfl rfl rfl rfl Tryz.sizeOf72 (Nat.le_of_ble_eq_true rfl) (List.forall_mem_cons.2 ⟨rfl, (List.forall_mem_cons.2 ⟨rfl, (List.forall_mem_cons.2 ⟨rfl, (fun _ h => nomatch h)⟩)⟩)⟩) rfl (fun w164 H => ⟨trivial, fun a S => ?_⟩)
    change Heap w0 [bA b161 [(.int .i64 x148.1), (.int .i64 x148.2.1), (.int .i64 x148.2.2)] 72, oA (rList Rimpl_Edge) v90 xs91] w164 at H
    refine lx_nil (thenN ?_)
    refine wp_seq (region_plain ?_)
    refine lq (pAdd (bp b161) 0) S (q_fieldAddr' 0 2 rfl (isP_bp _) Tryz.underlying72 rfl Tryz.sizeOf2) fun a S => ?_
    refine lx_e (.int .i64 x148.1) S trivial (by decide) rfl trivial (q_load1 rfl Tryz.isAgg2 (by rintro _ rfl; exact (At.of_add (m := 0) (j := 0) (boxAt (i := 0) H rfl (j := 0) rfl)))) (fun a S => ?_)
    refine lq (.int .i64 a1) S (q_move rfl) fun a S => ?_
    refine lq (.bool (x148.1 == a1)) S (q_eql rfl rfl) fun a S => ?_
    refine lx_nil (thenN ?_)
    refine cond_b S rfl (fun hc165 => ?_) (fun hc165 => ?_)
    ·have hm := ite_t hc165 hm
     refine region_plain ?_
     refine lq v90 S (q_move rfl) fun a S => ?_
     refine lx_e (.agg #[(.int .i64 x148.1), (.int .i64 x148.2.1), (.int .i64 x148.2.2)]) S trivial (by decide) rfl trivial (q_loadA (cs := [(.int .i64 x148.1), (.int .i64 x148.2.1), (.int .i64 x148.2.2)]) rfl (isP_bp _) Tryz.isAgg72 Tryz.sizeOf72 (by rintro _ rfl; exact (fun j u hu => boxAt (i := 0) H rfl hu))) (fun a S => ?_)
     refine lx_buildSlice (r := Rimpl_Edge) (xs := [(x148.1, x148.2.1, x148.2.2)]) (ps := [(0, [(.int .i64 x148.1), (.int .i64 x148.2.1), (.int .i64 x148.2.2)])]) (cs := [(.int .i64 x148.1), (.int .i64 x148.2.1), (.int .i64 x148.2.2)]) (parts := [(0, .tmp 20)]) S trivial (by decide) rfl (H.put0 (A := eA) rfl) rfl Tryz.underlying28 Tryz.sizeOf72 Tryz.zeroValue72 (by decide) ⟨rfl, rfl, Nat.le_of_ble_eq_true rfl, trivial⟩ (by intro zs hz; exact fill_dense hz ⟨rfl, trivial⟩ rfl rfl) rfl (by decide) (fun w F hA => by cases (show F = [] from hA); exact ⟨_, _, [(.int .i64 x148.1), (.int .i64 x148.2.1), (.int .i64 x148.2.2)], _, rfl, rfl, ⟨_, _, [(.int .i64 x148.1)], [(.int .i64 x148.2.1), (.int .i64 x148.2.2)], rfl, rfl, ⟨rfl, rfl⟩, ⟨_, _, [(.int .i64 x148.2.1)], [(.int .i64 x148.2.2)], rfl, rfl, ⟨rfl, rfl⟩, ⟨rfl, rfl⟩⟩⟩, ⟨rfl, rfl⟩⟩) (fun v166 w167 H => ⟨trivial, fun a S => ?_⟩)
     obtain ⟨x169, e170, hm⟩ := bind_some hm
     obtain ⟨hle, hap⟩ := app_some e170
     replace hap := hap.symm
     subst hap
     have H : Heap w0 [oA (rList Rimpl_Edge) v166 [(x148.1, x148.2.1, x148.2.2)], bA b161 [(.int .i64 x148.1), (.int .i64 x148.2.1), (.int .i64 x148.2.2)] 72, oA (rList Rimpl_Edge) v90 xs91] w167 := H.front 0 rfl
     have H : Heap w0 [oA (rList Rimpl_Edge) v90 xs91, oA (rList Rimpl_Edge) v166 [(x148.1, x148.2.1, x148.2.2)], bA b161 [(.int .i64 x148.1), (.int .i64 x148.2.1), (.int .i64 x148.2.2)] 72] w167 := H.front 2 rfl
     refine lx_appendOwn (r := Rimpl_Edge) S trivial (by decide) rfl H rfl rfl Tryz.underlying28 Tryz.ti72 rfl rfl rfl (by decide) (by decide) hle (fun v171 w172 H => ⟨trivial, fun a S => ?_⟩)
     refine lq v171 S (q_assign rfl) fun a S => ?_
     refine lx_nil ?_
     refine inBlock_norm ?_
     have H : Heap w0 [oA (rList Rimpl_Edge) v171 (xs91 ++ [(x148.1, x148.2.1, x148.2.2)])] w172 := H.sel [0] (by decide)
     exact ⟨(xs91 ++ [(x148.1, x148.2.1, x148.2.2)]), v171, S.sub ⟨rfl, rfl, rfl, rfl, rfl, trivial⟩, H, hm⟩
    ·have hm := ite_f hc165 hm
     refine wp_skip ?_
     refine inBlock_norm ?_
     have H : Heap w0 [oA (rList Rimpl_Edge) v90 xs91] w164 := H.sel [1] (by decide)
     exact ⟨xs91, v90, S.sub ⟨rfl, rfl, rfl, rfl, rfl, trivial⟩, H, hm⟩
  ·have hm := ite_f hc142 hm
   refine wp_exit ?_
   refine then_exit ?_
   refine then_exit ?_
   refine inBlock_exit ?_
   obtain rfl := it_brk hm hc141
   exact ⟨xs91, v90, S.sub ⟨rfl, trivial⟩, H, rfl⟩

/-- slices.Repeat[[]int64,int64] -/
def slices_Repeat__int64_int64_m (fuel : Nat) (a0 : (List Int)) (a1 : Int) : Option ((List Int)) :=
  join (κ := Option (List Int)) ((math_bits_Mul_m fuel (IntKind.u64.wrap (a0.length : Int)) (IntKind.u64.wrap a1)).bind fun x35 => join (κ := Option (List Int)) ((mks (W x35.2) (0 : Int)).bind fun x40 => (iter (fun (s : (List Int) × (Int)) => (match s with | (xs57, x58) => (if (decide (x58 < (xs57.length : Int))) = true then (sub xs57 x58 (xs57.length : Int)).bind fun xs81 => (sub xs57 (0 : Int) x58).bind fun xs83 => some (.inl ((cpy xs57 (x58).toNat xs81.length xs83), (W (x58 + (((min xs83.length xs81.length : Nat) : Nat) : Int))))) else some (.inr (.inl (xs57)))) : Option (((List Int) × (Int)) ⊕ (((List Int)) ⊕ ((List Int)))))) fuel ((cpy x40 ((0 : Int)).toNat x40.length a0), (((min a0.length x40.length : Nat) : Nat) : Int))).bind fun res70 => ctl (β := (List Int)) (ρ := (List Int)) (τ := (List Int)) res70 (fun (xs69) => some (xs69)) (fun q => some (q))) (fun K38 => (if (decide ((0 : Int) < x35.1)) = true then some true else some (decide ((9223372036854775807 : Int) < x35.2))).bind fun t86 => (if t86 = true then none else K38))) (fun K31 => (if (decide (a1 < (0 : Int))) = true then none else K31))
set_option maxRecDepth 20000 in
theorem slices_Repeat__int64_int64_ok {w0 : World} {fuel : Nat} {p0 : Value} {a0 : (List Int)} {a1 : Int} {r : (List Int)} (h0 : Rd (rList (rInt .i64)) w0 p0 a0) (hm : slices_Repeat__int64_int64_m fuel a0 a1 = some r) :
  Calls Tryz.prog 132 #[p0, .int .i64 a1] w0 fun e w => ∃ (v0 : Value), e = .returned (v0) ∧ Heap w0 [oA (rList (rInt .i64)) v0 r] w := by
 unfold slices_Repeat__int64_int64_m at hm
 have H := Heap.start w0
 refine enter (args := [p0, .int .i64 a1]) Tryz.func132 rfl 48 rfl (Nat.le_of_ble_eq_true rfl) (fun a S => ?_)
 refine wp_seq (region_plain ?_)
 refine lq (.slice none 0 0) S (q_assign rfl) fun a S => ?_
 refine lx_nil (thenN ?_)
 obtain ⟨K31, hK32, hm⟩ := join_elim hm
 refine seq_cut (fun a w => Slots a 48 [(0, p0), (1, (.int .i64 a1))] ∧ Heap w0 [] w ∧ K31 = some r) ?_ ?_
 ·rintro a w ⟨S, H, hm⟩
  subst hK32
  refine wp_seq (region_plain ?_)
  refine lq p0 S (q_move rfl) fun a S => ?_
  refine lq (.int .i64 (a0.length : Int)) S (q_lenSl rfl (h0).isSl rfl Tryz.underlying34) fun a S => ?_
  refine lq (.int .u64 (IntKind.u64.wrap (a0.length : Int))) S (q_convInt rfl Tryz.underlying3 Tryz.underlying148) fun a S => ?_
  refine lq (.int .i64 a1) S (q_move rfl) fun a S => ?_
  refine lq (.int .u64 (IntKind.u64.wrap a1)) S (q_convInt rfl Tryz.underlying3 Tryz.underlying148) fun a S => ?_
  obtain ⟨x35, e36, hm⟩ := bind_some hm
  refine lx_call (xs := [.tmp 15, .tmp 17]) S trivial (by decide) rfl rfl Tryz.call165 ((math_bits_Mul_ok   e36).mono ?_)
  rintro e w33 ⟨rfl, Hc34⟩
  have H := H.call0 Hc34
  refine ⟨_, rfl, trivial, fun a S => ?_⟩
  refine lq (.tuple #[(.int .u64 x35.1), (.int .u64 x35.2)]) S (q_move rfl) fun a S => ?_
  refine lq (.int .u64 x35.1) S (q_extract rfl rfl) fun a S => ?_
  refine lq (.int .u64 x35.2) S (q_extract rfl rfl) fun a S => ?_
  refine lq (.int .u64 x35.1) S (q_assign rfl) fun a S => ?_
  refine lq (.int .u64 x35.2) S (q_assign rfl) fun a S => ?_
  refine lx_nil (thenN ?_)
  obtain ⟨K38, hK39, hm⟩ := join_elim hm
  refine seq_cut (fun a w => Slots a 48 [(0, p0), (6, (.int .u64 x35.2))] ∧ Heap w0 [] w ∧ K38 = some r) ?_ ?_
  ·rintro a w ⟨S, H, hm⟩
   subst hK39
   refine wp_seq (region_plain ?_)
   refine lq (.int .u64 x35.2) S (q_move rfl) fun a S => ?_
   refine lq (.int .i64 (W x35.2)) S (q_convInt rfl Tryz.underlying148 Tryz.underlying3) fun a S => ?_
   obtain ⟨x40, e41, hm⟩ := bind_some hm
   obtain ⟨m42, hn, hn2, rfl⟩ := mks_some e41
   refine lx_make (r := (rInt .i64)) (z0 := (0 : Int)) (n := m42) S trivial (by decide) rfl H (by rw [← hn]; rfl) (by rw [← hn]; rfl) Tryz.underlying34 (Tryz.ti2) rfl rfl (by decide) (fun w => ⟨rfl, rfl⟩) hn2 (by decide) (fun v43 w44 H => ⟨trivial, fun a S => ?_⟩)
   refine lq v43 S (q_assign rfl) fun a S => ?_
   refine lx_nil (thenN ?_)
   refine wp_seq (region_plain ?_)
   refine lq v43 S (q_move rfl) fun a S => ?_
   refine lq p0 S (q_move rfl) fun a S => ?_
   have hR := (H.arg h0)
   have hS := sub_self (xs := (List.replicate m42 (0 : Int)))
   have hxv := subV_self' (s := ((rInt .i64)).size) (H.isSl 0 rfl)
   refine lx_copy (r := (rInt .i64)) (lo := (0 : Int)) (hi := ((List.replicate m42 (0 : Int)).length : Int)) S trivial (by decide) rfl H (flat_int _) (by rw [hxv]; rfl) rfl hS hR Tryz.underlying34 Tryz.sizeOf2 (fun w46 H => ⟨trivial, fun a S => ?_⟩)
   refine lq (.int .i64 (((min a0.length (List.replicate m42 (0 : Int)).length : Nat) : Nat) : Int)) S (q_assign rfl) fun a S => ?_
   refine lx_nil (thenN ?_)
   refine wp_seq ?_
   obtain ⟨res70, hit71, hk74⟩ := bind_some hm
   obtain ⟨f72, hf73, hit71⟩ := iter_name hit71
   refine block_loop (fun a w => ∃ (xs69 : List Int), Slots a 48 [(7, v43)] ∧ Heap w0 [oA (rList (rInt .i64)) v43 xs69] w ∧ res70 = .inl (xs69)) ?_ ?_
   ·rintro a w ⟨xs69, S, H, rfl⟩
    have hm := ctl_inl hk74
    refine thenN ?_
    refine wp_seq (region_plain ?_)
    refine lq v43 S (q_move rfl) fun a S => ?_
    refine lq v43 S (q_assign rfl) fun a S => ?_
    refine lx_nil (thenN ?_)
    refine wp_ret ?_
    obtain rfl := Option.some.inj hm
    exact leave1 S rfl rfl ⟨v43, rfl, H⟩
   ·skip
    refine loop_ghost (fun n a w => ∃ (xs57 : List Int) (x58 : Int), Slots a 48 [(7, v43), (8, (.int .i64 x58))] ∧ Heap w0 [oA (rList (rInt .i64)) v43 xs57] w ∧ iter f72 n (xs57, x58) = some res70) _ ⟨(cpy (List.replicate m42 (0 : Int)) ((0 : Int)).toNat (List.replicate m42 (0 : Int)).length a0), (((min a0.length (List.replicate m42 (0 : Int)).length : Nat) : Nat) : Int), S.sub ⟨rfl, rfl, trivial⟩, H, hit71⟩ ?_
    rintro n a w ⟨xs57, x58, S, H, hit71⟩
    obtain ⟨m75, o76, rfl, hm, hc77⟩ := iter_step hit71
    rw [hf73] at hm
    refine wp_seq (wp_seq (region_plain ?_))
    refine lq (.int .i64 x58) S (q_move rfl) fun a S => ?_
    refine lq v43 S (q_move rfl) fun a S => ?_
    refine lq (.int .i64 (xs57.length : Int)) S (q_lenSl rfl (H.isSl 0 rfl) rfl Tryz.underlying34) fun a S => ?_
    refine lq (.bool (decide (x58 < (xs57.length : Int)))) S (q_lss rfl rfl) fun a S => ?_
    refine lx_nil (thenN ?_)
    refine cond_b S rfl (fun hc78 => ?_) (fun hc78 => ?_)
    ·have hm := ite_t hc78 hm
     refine wp_skip (thenN ?_)
     refine wp_block ?_
     refine region_drawG (fun w1 => Heap w0 [] w1) (fun i => [7].contains i) mixed (by kernel_rfl) (fun w80 he79 => ?_)
     have H := H.later he79
     refine ⟨H.sel [] (by decide), ?_⟩
     refine lq (.int .i64 x58) S (q_move rfl) fun a S => ?_
     refine lq v43 S (q_move rfl) fun a S => ?_
     refine lq (.int .i64 x58) S (q_move rfl) fun a S => ?_
     obtain ⟨xs81, e82, hm⟩ := bind_some hm
     have hsb := (sub_some e82).1
     refine lq (subV v43 (x58).toNat ((xs57.length : Int)).toNat 1) S (q_slice (lo := (some (.tmp 40))) (hi := none) (l := x58) (h := (xs57.length : Int)) (size := 1) rfl (H.isSl 0 rfl) Tryz.underlying34 Tryz.sizeOf2 rfl rfl hsb.1 hsb.2.1 hsb.2.2) fun a S => ?_
     refine lq v43 S (q_move rfl) fun a S => ?_
     refine lq (.int .i64 x58) S (q_move rfl) fun a S => ?_
     obtain ⟨xs83, e84, hm⟩ := bind_some hm
     have hsb := (sub_some e84).1
     refine lq (subV v43 ((0 : Int)).toNat (x58).toNat 1) S (q_slice (lo := none) (hi := (some (.tmp 43))) (l := (0 : Int)) (h := x58) (size := 1) rfl (H.isSl 0 rfl) Tryz.underlying34 Tryz.sizeOf2 rfl rfl hsb.1 hsb.2.1 hsb.2.2) fun a S => ?_
     have hR := ((H.rdAt 0 rfl).sub e84)
     have hS := e82
     refine lx_copy (r := (rInt .i64)) (lo := x58) (hi := (xs57.length : Int)) S trivial (by decide) rfl H (flat_int _) rfl rfl hS hR Tryz.underlying34 Tryz.sizeOf2 (fun w85 H => ⟨H.sel [] (by decide), fun a S => ?_⟩)
     refine lq (.int .i64 (W (x58 + (((min xs83.length xs81.length : Nat) : Nat) : Int)))) S (q_add rfl rfl) fun a S => ?_
     refine lq (.int .i64 (W (x58 + (((min xs83.length xs81.length : Nat) : Nat) : Int)))) S (q_assign rfl) fun a S => ?_
     refine lx_nil ?_
     refine inBlock_norm ?_
     exact ⟨m75, Nat.lt_succ_self _, (cpy xs57 (x58).toNat xs81.length xs83), (W (x58 + (((min xs83.length xs81.length : Nat) : Nat) : Int))), S.sub ⟨rfl, rfl, trivial⟩, H, it_cont hm hc77⟩
    ·have hm := ite_f hc78 hm
     refine wp_exit ?_
     refine then_exit ?_
     refine then_exit ?_
     refine inBlock_exit ?_
     obtain rfl := it_brk hm hc77
     exact ⟨xs57, S.sub ⟨rfl, trivial⟩, H, rfl⟩
  ·skip
   refine wp_seq (region_plain ?_)
   refine lq (.int .u64 x35.1) S (q_move rfl) fun a S => ?_
   refine lq (.bool (decide ((0 : Int) < x35.1))) S (q_gtr rfl rfl) fun a S => ?_
   refine lq (.bool (decide ((0 : Int) < x35.1))) S (q_move rfl) fun a S => ?_
   obtain ⟨t86, e87, hm⟩ := bind_some hm
   refine lx_cut 3 (fun a w => Slots a 48 [(0, p0), (6, (.int .u64 x35.2)), (26, (.bool t86))] ∧ Heap w0 [] w) ?_ ?_
   ·by_cases hc88 : (decide ((0 : Int) < x35.1)) = true
    ·have hm := ite_t hc88 e87
     refine lx_skip S rfl rfl (isB_ne hc88) (by decide) (fun a S => ?_)
     refine lx_skip S rfl rfl (isB_ne hc88) (by decide) (fun a S => ?_)
     refine lq (.bool true) S (q_pickT' rfl hc88 rfl) fun a S => ?_
     refine lx_nil ?_
     obtain rfl := Option.some.inj hm
     exact ⟨S.sub ⟨rfl, rfl, rfl, trivial⟩, H⟩
    ·have hm := ite_f (eq_false_of_ne_true hc88) e87
     have hc88 : (decide ((0 : Int) < x35.1)) = false := eq_false_of_ne_true hc88
     refine lx_q (.int .u64 x35.2) S (want_b rfl rfl hc88) (by decide) (q_move rfl) (fun a S => ?_)
     refine lx_q (.bool (decide ((9223372036854775807 : Int) < x35.2))) S (want_b rfl rfl hc88) (by decide) (q_gtr rfl rfl) (fun a S => ?_)
     refine lq (.bool (decide ((9223372036854775807 : Int) < x35.2))) S (q_pickF' rfl hc88 rfl) fun a S => ?_
     refine lx_nil ?_
     obtain rfl := Option.some.inj hm
     exact ⟨S.sub ⟨rfl, rfl, rfl, trivial⟩, H⟩
   ·rintro a w ⟨S, H⟩
    refine lx_nil (thenN ?_)
    refine cond_b S rfl (fun hc89 => ?_) (fun hc89 => ?_)
    ·have hm := ite_t hc89 hm
     refine region_plain ?_
     cases hm
    ·have hm := ite_f hc89 hm
     refine wp_skip ?_
     exact ⟨S.sub ⟨rfl, rfl, trivial⟩, H, hm⟩
 ·skip
  refine wp_seq (region_plain ?_)
  refine lq (.int .i64 a1) S (q_move rfl) fun a S => ?_
  refine lq (.bool (decide (a1 < (0 : Int)))) S (q_lss rfl rfl) fun a S => ?_
  refine lx_nil (thenN ?_)
  refine cond_b S rfl (fun hc90 => ?_) (fun hc90 => ?_)
  ·have hm := ite_t hc90 hm
   refine region_plain ?_
   cases hm
  ·have hm := ite_f hc90 hm
   refine wp_skip ?_
   exact ⟨S.sub ⟨rfl, rfl, trivial⟩, H, hm⟩

/-- (impl.Lts).distances -/
def impl_Lts_distances_m (fuel : Nat) (a0 : Timpl_Lts) (a1 : (List Int)) (a2 : Bool) : Option ((List Int)) :=
  (slices_Repeat__int64_int64_m fuel [(-1 : Int)] a0.1).bind fun x57 => (slices_Clone__int64_int64_m fuel a1).bind fun x64 => (iter (fun (s : (List Int) × (Int)) => (match s with | (xs80, x81) => (if (decide (x81 < (a1.length : Int))) = true then (idx a1 x81).bind fun x733 => (idx xs80 x733).bind fun _ => some (.inl ((xs80.set x733.toNat (0 : Int)), (W (x81 + (1 : Int))))) else some (.inr (.inl (xs80)))) : Option (((List Int) × (Int)) ⊕ (((List Int)) ⊕ ((List Int)))))) fuel (x57, (0 : Int))).bind fun res94 => ctl (β := (List Int)) (ρ := (List Int)) (τ := (List Int)) res94 (fun (xs93) => (iter (fun (s : (List Int) × (List Int)) => (match s with | (xs306, xs308) => (if (decide ((0 : Int) < (xs308.length : Int))) = true then (idx xs308 (0 : Int)).bind fun x527 => (sub xs308 (1 : Int) (xs308.length : Int)).bind fun xs532 => (iter (fun (s : (List Int) × (List Int) × (Int)) => (match s with | (xs595, xs597, x599) => (if (decide (x599 < (a0.2.2.2.length : Int))) = true then join (κ := List Int → List Int → Option (((List Int) × (List Int) × (Int)) ⊕ (((List Int) × (List Int)) ⊕ ((List Int))))) (fun (xs674 : List Int) (xs676 : List Int) => some (.inl (xs674, xs676, (W (x599 + (1 : Int)))))) (fun K678 => (idx a0.2.2.2 x599).bind fun x680 => join (κ := Int → Int → Option (((List Int) × (List Int) × (Int)) ⊕ (((List Int) × (List Int)) ⊕ ((List Int))))) (fun (x699 : Int) (x700 : Int) => (if (x699 == x527) = true then (idx xs595 x700).bind fun x706 => some (decide (x706 < (0 : Int))) else some false).bind fun t703 => (if t703 = true then (idx xs595 x527).bind fun x712 => (idx xs595 x700).bind fun _ => (app xs597 [x700]).bind fun x723 => (K678 (xs595.set x700.toNat (W (x712 + (1 : Int)))) x723) else (K678 xs595 xs597))) (fun K701 => (if (!a2) = true then (K701 x680.2.2 x680.1) else (K701 x680.1 x680.2.2)))) else some (.inr (.inl (xs595, xs597)))) : Option (((List Int) × (List Int) × (Int)) ⊕ (((List Int) × (List Int)) ⊕ ((List Int)))))) fuel (xs306, xs532, (0 : Int))).bind fun res665 => ctl (β := (List Int) × (List Int)) (ρ := (List Int)) (τ := (((List Int) × (List Int)) ⊕ (((List Int)) ⊕ ((List Int))))) res665 (fun (xs661, xs663) => some (.inl (xs661, xs663))) (fun q => some (.inr (.inr q))) else some (.inr (.inl (xs306)))) : Option (((List Int) × (List Int)) ⊕ (((List Int)) ⊕ ((List Int)))))) fuel (xs93, x64)).bind fun res518 => ctl (β := (List Int)) (ρ := (List Int)) (τ := (List Int)) res518 (fun (xs517) => some (xs517)) (fun q => some (q))) (fun q => some (q))
set_option maxRecDepth 20000 in
theorem impl_Lts_distances_ok {w0 : World} {fuel : Nat} {p0 p1 : Value} {a0 : Timpl_Lts} {a1 : (List Int)} {a2 : Bool} {r : (List Int)} (h0 : Rd Rimpl_Lts w0 p0 a0) (h1 : Rd (rList (rInt .i64)) w0 p1 a1) (hm : impl_Lts_distances_m fuel a0 a1 a2 = some r) :
  Calls Tryz.prog 89 #[p0, p1, .bool a2] w0 fun e w => ∃ (v0 : Value), e = .returned (v0) ∧ Heap w0 [oA (rList (rInt .i64)) v0 r] w := by
 unfold impl_Lts_distances_m at hm
 have H := Heap.start w0
 obtain ⟨c31, rfl, h32⟩ := h0
 obtain ⟨c37, c38, rfl, h39, h40⟩ := h32
 obtain rfl := h39
 obtain ⟨c41, c42, rfl, h43, h44⟩ := h40
 obtain rfl := h43
 obtain ⟨c45, c46, rfl, h47, h48⟩ := h44
 obtain ⟨v33, rfl, h34⟩ := rd_list h47
 obtain ⟨v35, rfl, h36⟩ := rd_list h48
 refine enter (args := [(.agg #[(.int .i64 a0.1), (.int .i64 a0.2.1), v33, v35]), p1, .bool a2]) Tryz.func89 rfl 79 rfl (Nat.le_of_ble_eq_true rfl) (fun a S => ?_)
 refine wp_seq (region_plain ?_)
 refine lx_box S trivial (by decide) rfl H rfl rfl (fun b49 w50 H => ⟨trivial, fun a S => ?_⟩)
 refine lq (.slice none 0 0) S (q_assign rfl) fun a S => ?_
 refine lx_nil (thenN ?_)
 refine wp_seq (region_plain ?_)
 refine lx_buildSlice (r := (rInt .i64)) (xs := [(-1 : Int)]) (ps := [(0, [(.int .i64 (-1 : Int))])]) (cs := [(.int .i64 (-1 : Int))]) (parts := [(0, .const (.int .i64 (-1)))]) S trivial (by decide) rfl (H.put0 (A := eA) rfl) rfl Tryz.underlying34 Tryz.sizeOf2 Tryz.zeroValue2 (by decide) ⟨rfl, rfl, Nat.le_of_ble_eq_true rfl, trivial⟩ (by intro zs hz; exact fill_dense hz ⟨rfl, trivial⟩ rfl rfl) rfl (by decide) (fun w F hA => by cases (show F = [] from hA); exact ⟨_, _, [(.int .i64 (-1 : Int))], _, rfl, rfl, ⟨rfl, rfl⟩, ⟨rfl, rfl⟩⟩) (fun v52 w53 H => ⟨trivial, fun a S => ?_⟩)
 refine lq (pAdd (bp b49) 0) S (q_fieldAddr' 0 2 rfl (isP_bp _) Tryz.underlying30 rfl Tryz.sizeOf2) fun a S => ?_
 refine lx_e (.int .i64 a0.1) S trivial (by decide) rfl trivial (q_load1 rfl Tryz.isAgg2 (by rintro _ rfl; exact (At.of_add (m := 0) (j := 0) (boxAt (i := 1) H rfl (j := 0) rfl)))) (fun a S => ?_)
 obtain ⟨x57, e58, hm⟩ := bind_some hm
 refine lx_call (xs := [.tmp 16, .tmp 18]) S trivial (by decide) rfl rfl Tryz.call132 ((slices_Repeat__int64_int64_ok (H.rdAt 0 rfl)  e58).mono ?_)
 rintro e w55 ⟨v59, rfl, Hc56⟩
 have H := H.call1 Hc56
 refine ⟨_, rfl, trivial, fun a S => ?_⟩
 refine lq v59 S (q_assign rfl) fun a S => ?_
 refine lx_nil (thenN ?_)
 refine wp_seq (region_plain ?_)
 refine lq p1 S (q_move rfl) fun a S => ?_
 obtain ⟨x64, e65, hm⟩ := bind_some hm
 refine lx_call (xs := [.tmp 20]) S trivial (by decide) rfl rfl Tryz.call133 ((slices_Clone__int64_int64_ok (H.arg h1) e65).mono ?_)
 rintro e w62 ⟨v66, rfl, Hc63⟩
 have H := H.call1 Hc63
 refine ⟨_, rfl, trivial, fun a S => ?_⟩
 refine lq v66 S (q_assign rfl) fun a S => ?_
 refine lx_nil (thenN ?_)
 refine wp_seq (wp_seq (region_plain ?_))
 refine lq p1 S (q_move rfl) fun a S => ?_
 refine lq (.int .i64 (a1.length : Int)) S (q_lenSl rfl (h1).isSl rfl Tryz.underlying34) fun a S => ?_
 refine lq (.int .i64 (0 : Int)) S (q_move rfl) fun a S => ?_
 refine lx_nil (thenN ?_)
 obtain ⟨res94, hit95, hk98⟩ := bind_some hm
 obtain ⟨f96, hf97, hit95⟩ := iter_name hit95
 refine block_loop (fun a w => ∃ (xs93 : List Int), Slots a 79 [(2, (.bool a2)), (3, (bp b49)), (7, v59), (8, v66)] ∧ Heap w0 [bA b49 [(.int .i64 a0.1), (.int .i64 a0.2.1), v33, v35] 30, oA (rList (rInt .i64)) v59 xs93, oA (rList (rInt .i64)) v66 x64] w ∧ res94 = .inl (xs93)) ?_ ?_
 ·rintro a w ⟨xs93, S, H, rfl⟩
  have hm := ctl_inl hk98
  refine thenN ?_
  refine wp_seq ?_
  obtain ⟨res518, hit519, hk522⟩ := bind_some hm
  obtain ⟨f520, hf521, hit519⟩ := iter_name hit519
  refine block_loop (fun a w => ∃ (xs517 : List Int), Slots a 79 [(7, v59)] ∧ Heap w0 [oA (rList (rInt .i64)) v59 xs517] w ∧ res518 = .inl (xs517)) ?_ ?_
  ·rintro a w ⟨xs517, S, H, rfl⟩
   have hm := ctl_inl hk522
   refine thenN ?_
   refine wp_seq (region_plain ?_)
   refine lq v59 S (q_move rfl) fun a S => ?_
   refine lq v59 S (q_assign rfl) fun a S => ?_
   refine lx_nil (thenN ?_)
   refine wp_ret ?_
   obtain rfl := Option.some.inj hm
   exact leave1 S rfl rfl ⟨v59, rfl, H⟩
  ·skip
   refine loop_ghost (fun n a w => ∃ (xs306 : List Int) (xs308 : List Int) (v307 : Value), Slots a 79 [(2, (.bool a2)), (3, (bp b49)), (7, v59), (8, v307)] ∧ Heap w0 [bA b49 [(.int .i64 a0.1), (.int .i64 a0.2.1), v33, v35] 30, oA (rList (rInt .i64)) v59 xs306, oA (rList (rInt .i64)) v307 xs308] w ∧ iter f520 n (xs306, xs308) = some res518) _ ⟨xs93, x64, v66, S.sub ⟨rfl, rfl, rfl, rfl, trivial⟩, H, hit519⟩ ?_
   rintro n a w ⟨xs306, xs308, v307, S, H, hit519⟩
   obtain ⟨m523, o524, rfl, hm, hc525⟩ := iter_step hit519
   rw [hf521] at hm
   refine wp_seq (wp_seq (region_plain ?_))
   refine lq v307 S (q_move rfl) fun a S => ?_
   refine lq (.int .i64 (xs308.length : Int)) S (q_lenSl rfl (H.isSl 2 rfl) rfl Tryz.underlying34) fun a S => ?_
   refine lq (.bool (decide ((0 : Int) < (xs308.length : Int)))) S (q_gtr rfl rfl) fun a S => ?_
   refine lx_nil (thenN ?_)
   refine cond_b S rfl (fun hc526 => ?_) (fun hc526 => ?_)
   ·have hm := ite_t hc526 hm
    refine wp_skip (thenN ?_)
    refine wp_block ?_
    refine wp_seq (region_plain ?_)
    refine lq v307 S (q_move rfl) fun a S => ?_
    obtain ⟨x527, e528, hm⟩ := bind_some hm
    have hlt := lt_of_idx (idx_some e528).2
    refine lq (ePtr v307 ((0 : Int).toNat * 1)) S (q_indexAddr rfl (H.isSl 2 rfl) rfl (idx_some e528).1 hlt Tryz.underlying34 Tryz.sizeOf2) fun a S => ?_
    obtain ⟨c529, h530, hat531⟩ := (H.rdAt 2 rfl).elem (idx_some e528).2
    obtain rfl := h530
    refine lx_e (.int .i64 x527) S trivial (by decide) rfl trivial (q_load1 rfl Tryz.isAgg2 (by rintro _ rfl; exact (hat531 0 _ rfl))) (fun a S => ?_)
    refine lq (.int .i64 x527) S (q_assign rfl) fun a S => ?_
    refine lx_nil (thenN ?_)
    refine wp_seq (region_plain ?_)
    refine lq v307 S (q_move rfl) fun a S => ?_
    obtain ⟨xs532, e533, hm⟩ := bind_some hm
    have hsb := (sub_some e533).1
    refine lq (subV v307 ((1 : Int)).toNat ((xs308.length : Int)).toNat 1) S (q_slice (lo := (some (.const (.int .i64 (1))))) (hi := none) (l := (1 : Int)) (h := (xs308.length : Int)) (size := 1) rfl (H.isSl 2 rfl) Tryz.underlying34 Tryz.sizeOf2 rfl rfl hsb.1 hsb.2.1 hsb.2.2) fun a S => ?_
    have H : Heap w0 [oA (rList (rInt .i64)) v307 xs308, bA b49 [(.int .i64 a0.1), (.int .i64 a0.2.1), v33, v35] 30, oA (rList (rInt .i64)) v59 xs306] w := H.front 2 rfl
    have H : Heap w0 [oA (rList (rInt .i64)) (subV v307 ((1 : Int)).toNat ((xs308.length : Int)).toNat 1) xs532, bA b49 [(.int .i64 a0.1), (.int .i64 a0.2.1), v33, v35] 30, oA (rList (rInt .i64)) v59 xs306] w := H.cut e533
    refine lq (subV v307 ((1 : Int)).toNat ((xs308.length : Int)).toNat 1) S (q_assign rfl) fun a S => ?_
    refine lx_nil (thenN ?_)
    refine wp_seq (region_plain ?_)
    refine lq (pAdd (bp b49) 3) S (q_fieldAddr' 3 28 rfl (isP_bp _) Tryz.underlying30 rfl Tryz.sizeOf28) fun a S => ?_
    refine lx_e v35 S trivial (by decide) rfl trivial (q_load1 rfl Tryz.isAgg28 (by rintro _ rfl; exact (At.of_add (m := 3) (j := 0) (boxAt (i := 1) H rfl (j := 3) rfl)))) (fun a S => ?_)
    refine lq (.int .i64 (a0.2.2.2.length : Int)) S (q_lenSl rfl (h36).isSl rfl Tryz.underlying28) fun a S => ?_
    refine lq (.int .i64 (0 : Int)) S (q_move rfl) fun a S => ?_
    refine lx_nil (thenN ?_)
    obtain ⟨res665, hit666, hk669⟩ := bind_some hm
    obtain ⟨f667, hf668, hit666⟩ := iter_name hit666
    refine block_loop (fun a w => ∃ (xs661 : List Int) (xs663 : List Int) (v662 : Value), Slots a 79 [(2, (.bool a2)), (3, (bp b49)), (7, v59), (8, v662)] ∧ Heap w0 [bA b49 [(.int .i64 a0.1), (.int .i64 a0.2.1), v33, v35] 30, oA (rList (rInt .i64)) v59 xs661, oA (rList (rInt .i64)) v662 xs663] w ∧ res665 = .inl (xs661, xs663)) ?_ ?_
    ·rintro a w ⟨xs661, xs663, v662, S, H, rfl⟩
     have hm := ctl_inl hk669
     refine inBlock_norm ?_
     exact ⟨m523, Nat.lt_succ_self _, xs661, xs663, v662, S.sub ⟨rfl, rfl, rfl, rfl, trivial⟩, H, it_cont hm hc525⟩
    ·skip
     have H : Heap w0 [oA (rList (rInt .i64)) v59 xs306, oA (rList (rInt .i64)) (subV v307 ((1 : Int)).toNat ((xs308.length : Int)).toNat 1) xs532, bA b49 [(.int .i64 a0.1), (.int .i64 a0.2.1), v33, v35] 30] w := H.front 2 rfl
     have H : Heap w0 [bA b49 [(.int .i64 a0.1), (.int .i64 a0.2.1), v33, v35] 30, oA (rList (rInt .i64)) v59 xs306, oA (rList (rInt .i64)) (subV v307 ((1 : Int)).toNat ((xs308.length : Int)).toNat 1) xs532] w := H.front 2 rfl
     refine loop_ghost (fun n a w => ∃ (xs595 : List Int) (xs597 : List Int) (x599 : Int) (v596 : Value), Slots a 79 [(2, (.bool a2)), (3, (bp b49)), (7, v59), (8, v596), (11, (.int .i64 x527)), (41, v35), (42, (.int .i64 (a0.2.2.2.length : Int))), (43, (.int .i64 x599))] ∧ Heap w0 [bA b49 [(.int .i64 a0.1), (.int .i64 a0.2.1), v33, v35] 30, oA (rList (rInt .i64)) v59 xs595, oA (rList (rInt .i64)) v596 xs597] w ∧ iter f667 n (xs595, xs597, x599) = some res665) _ ⟨xs306, xs532, (0 : Int), (subV v307 ((1 : Int)).toNat ((xs308.length : Int)).toNat 1), S.sub ⟨rfl, rfl, rfl, rfl, rfl, rfl, rfl, rfl, trivial⟩, H, hit666⟩ ?_
     rintro n a w ⟨xs595, xs597, x599, v596, S, H, hit666⟩
     obtain ⟨m670, o671, rfl, hm, hc672⟩ := iter_step hit666
     rw [hf668] at hm
     refine wp_seq (region_plain ?_)
     refine lq (.bool (decide (x599 < (a0.2.2.2.length : Int)))) S (q_lss rfl rfl) fun a S => ?_
     refine lx_nil (thenN ?_)
     refine wp_seq ?_
     refine cond_b S rfl (fun hc673 => ?_) (fun hc673 => ?_)
     ·have hm := ite_t hc673 hm
      refine wp_skip (thenN ?_)
      obtain ⟨K678, hK679, hm⟩ := join_elim hm
      refine seq_cut (fun a w => ∃ (xs674 : List Int) (xs676 : List Int) (v675 : Value), Slots a 79 [(2, (.bool a2)), (3, (bp b49)), (7, v59), (8, v675), (11, (.int .i64 x527)), (41, v35), (42, (.int .i64 (a0.2.2.2.length : Int))), (43, (.int .i64 x599))] ∧ Heap w0 [bA b49 [(.int .i64 a0.1), (.int .i64 a0.2.1), v33, v35] 30, oA (rList (rInt .i64)) v59 xs674, oA (rList (rInt .i64)) v675 xs676] w ∧ K678 xs674 xs676 = some o671) ?_ ?_
      ·rintro a w ⟨xs674, xs676, v675, S, H, hm⟩
       subst hK679
       refine region_plain ?_
       refine lq (.int .i64 (W (x599 + (1 : Int)))) S (q_add rfl rfl) fun a S => ?_
       refine lq (.int .i64 (W (x599 + (1 : Int)))) S (q_move rfl) fun a S => ?_
       refine lx_nil ?_
       exact ⟨m670, Nat.lt_succ_self _, xs674, xs676, (W (x599 + (1 : Int))), v675, S.sub ⟨rfl, rfl, rfl, rfl, rfl, rfl, rfl, rfl, trivial⟩, H, it_cont hm hc672⟩
      ·skip
       refine wp_block ?_
       refine wp_seq (region_plain ?_)
       obtain ⟨x680, e681, hm⟩ := bind_some hm
       obtain ⟨c682, h683, hat684⟩ := (h36).elem (idx_some e681).2
       obtain ⟨c685, c686, rfl, h687, h688⟩ := h683
       obtain rfl := h687
       obtain ⟨c689, c690, rfl, h691, h692⟩ := h688
       obtain rfl := h691
       obtain rfl := h692
       have hlt := lt_of_idx (idx_some e681).2
       refine lq (ePtr v35 (x599.toNat * 3)) S (q_indexAddr rfl (h36).isSl rfl (idx_some e681).1 hlt Tryz.underlying28 Tryz.sizeOf72) fun a S => ?_
       refine lx_e (.agg #[(.int .i64 x680.1), (.int .i64 x680.2.1), (.int .i64 x680.2.2)]) S trivial (by decide) rfl trivial (q_loadA (cs := [(.int .i64 x680.1), (.int .i64 x680.2.1), (.int .i64 x680.2.2)]) rfl ((hat684 0 _ rfl).isP) Tryz.isAgg72 Tryz.sizeOf72 (by rintro _ rfl; exact (fun j u hu => (hat684 j u hu).ext H.ext))) (fun a S => ?_)
       refine lx_alloc S trivial (by decide) rfl H Tryz.zeroValue72 rfl (fun b693 w694 H => ⟨trivial, fun a S => ?_⟩)
       refine lx_storeBox (o := 0) (i := 0) (us := [(.int .i64 x680.1), (.int .i64 x680.2.1), (.int .i64 x680.2.2)]) (cs' := [(.int .i64 x680.1), (.int .i64 x680.2.1), (.int .i64 x680.2.2)]) S trivial rfl H rfl rfl rfl rfl Tryz.sizeOf72 (Nat.le_of_ble_eq_true rfl) (List.forall_mem_cons.2 ⟨rfl, (List.forall_mem_cons.2 ⟨rfl, (List.forall_mem_cons.2 ⟨rfl, (fun _ h => nomatch h)⟩)⟩)⟩) rfl (fun w696 H => ⟨trivial, fun a S => ?_⟩)
       change Heap w0 [bA b693 [(.int .i64 x680.1), (.int .i64 x680.2.1), (.int .i64 x680.2.2)] 72, bA b49 [(.int .i64 a0.1), (.int .i64 a0.2.1), v33, v35] 30, oA (rList (rInt .i64)) v59 xs595, oA (rList (rInt .i64)) v596 xs597] w696 at H
       refine lx_nil (thenN ?_)
       refine wp_seq ?_
       refine region_drawG (fun w1 => Heap w0 [bA b693 [(.int .i64 x680.1), (.int .i64 x680.2.1), (.int .i64 x680.2.2)] 72] w1) (fun i => [].contains i) mixed (by kernel_rfl) (fun w698 he697 => ?_)
       have H := H.later he697
       refine ⟨H.sel [0] (by decide), ?_⟩
       refine lq (pAdd (bp b693) 0) S (q_fieldAddr' 0 2 rfl (isP_bp _) Tryz.underlying72 rfl Tryz.sizeOf2) fun a S => ?_
       refine lq (.int .i64 x680.1) S (q_load1 rfl Tryz.isAgg2 (fun w1 hC => (At.of_add (m := 0) (j := 0) (boxAt (i := 0) hC rfl (j := 0) rfl)))) fun a S => ?_
       refine lq (pAdd (bp b693) 2) S (q_fieldAddr' 2 2 rfl (isP_bp _) Tryz.underlying72 rfl Tryz.sizeOf2) fun a S => ?_
       refine lq (.int .i64 x680.2.2) S (q_load1 rfl Tryz.isAgg2 (fun w1 hC => (At.of_add (m := 2) (j := 0) (boxAt (i := 0) hC rfl (j := 2) rfl)))) fun a S => ?_
       refine lq (.int .i64 x680.1) S (q_assign rfl) fun a S => ?_
       refine lq (.int .i64 x680.2.2) S (q_assign rfl) fun a S => ?_
       refine lx_nil (thenN ?_)
       obtain ⟨K701, hK702, hm⟩ := join_elim hm
       refine seq_cut (fun a w => ∃ (x699 : Int) (x700 : Int), Slots a 79 [(2, (.bool a2)), (3, (bp b49)), (7, v59), (8, v596), (11, (.int .i64 x527)), (14, (.int .i64 x699)), (15, (.int .i64 x700)), (41, v35), (42, (.int .i64 (a0.2.2.2.length : Int))), (43, (.int .i64 x599))] ∧ Heap w0 [bA b49 [(.int .i64 a0.1), (.int .i64 a0.2.1), v33, v35] 30, oA (rList (rInt .i64)) v59 xs595, oA (rList (rInt .i64)) v596 xs597] w ∧ K701 x699 x700 = some o671) ?_ ?_
       ·rintro a w ⟨x699, x700, S, H, hm⟩
        subst hK702
        refine wp_seq (region_plain ?_)
        refine lq (.int .i64 x699) S (q_move rfl) fun a S => ?_
        refine lq (.int .i64 x527) S (q_move rfl) fun a S => ?_
        refine lq (.bool (x699 == x527)) S (q_eql rfl rfl) fun a S => ?_
        refine lq (.bool (x699 == x527)) S (q_move rfl) fun a S => ?_
        obtain ⟨t703, e704, hm⟩ := bind_some hm
        refine lx_cut 6 (fun a w => Slots a 79 [(2, (.bool a2)), (3, (bp b49)), (7, v59), (8, v596), (11, (.int .i64 x527)), (15, (.int .i64 x700)), (41, v35), (42, (.int .i64 (a0.2.2.2.length : Int))), (43, (.int .i64 x599)), (64, (.bool t703))] ∧ Heap w0 [bA b49 [(.int .i64 a0.1), (.int .i64 a0.2.1), v33, v35] 30, oA (rList (rInt .i64)) v59 xs595, oA (rList (rInt .i64)) v596 xs597] w) ?_ ?_
        ·by_cases hc705 : (x699 == x527) = true
         ·have hm := ite_t hc705 e704
          refine lx_q v59 S (want_b rfl rfl hc705) (by decide) (q_move rfl) (fun a S => ?_)
          refine lx_q (.int .i64 x700) S (want_b rfl rfl hc705) (by decide) (q_move rfl) (fun a S => ?_)
          obtain ⟨x706, e707, hm⟩ := bind_some hm
          have hlt := lt_of_idx (idx_some e707).2
          refine lx_q (ePtr v59 (x700.toNat * 1)) S (want_b rfl rfl hc705) (by decide) (q_indexAddr rfl (H.isSl 1 rfl) rfl (idx_some e707).1 hlt Tryz.underlying34 Tryz.sizeOf2) (fun a S => ?_)
          obtain ⟨c708, h709, hat710⟩ := (H.rdAt 1 rfl).elem (idx_some e707).2
          obtain rfl := h709
          refine lx_e (.int .i64 x706) S (want_b rfl rfl hc705) (by decide) rfl trivial (q_load1 rfl Tryz.isAgg2 (by rintro _ rfl; exact (hat710 0 _ rfl))) (fun a S => ?_)
          refine lx_q (.bool (decide (x706 < (0 : Int)))) S (want_b rfl rfl hc705) (by decide) (q_lss rfl rfl) (fun a S => ?_)
          refine lq (.bool (decide (x706 < (0 : Int)))) S (q_pickT' rfl hc705 rfl) fun a S => ?_
          refine lx_nil ?_
          obtain rfl := Option.some.inj hm
          exact ⟨S.sub ⟨rfl, rfl, rfl, rfl, rfl, rfl, rfl, rfl, rfl, rfl, trivial⟩, H⟩
         ·have hm := ite_f (eq_false_of_ne_true hc705) e704
          have hc705 : (x699 == x527) = false := eq_false_of_ne_true hc705
          refine lx_skip S rfl rfl (isB_ne hc705) (by decide) (fun a S => ?_)
          refine lx_skip S rfl rfl (isB_ne hc705) (by decide) (fun a S => ?_)
          refine lx_skip S rfl rfl (isB_ne hc705) (by decide) (fun a S => ?_)
          refine lx_skip S rfl rfl (isB_ne hc705) (by decide) (fun a S => ?_)
          refine lx_skip S rfl rfl (isB_ne hc705) (by decide) (fun a S => ?_)
          refine lq (.bool false) S (q_pickF' rfl hc705 rfl) fun a S => ?_
          refine lx_nil ?_
          obtain rfl := Option.some.inj hm
          exact ⟨S.sub ⟨rfl, rfl, rfl, rfl, rfl, rfl, rfl, rfl, rfl, rfl, trivial⟩, H⟩
        ·rintro a w ⟨S, H⟩
         refine lx_nil (thenN ?_)
         refine cond_b S rfl (fun hc711 => ?_) (fun hc711 => ?_)
         ·have hm := ite_t hc711 hm
          refine wp_seq (region_plain ?_)
          refine lq v59 S (q_move rfl) fun a S => ?_
          refine lq (.int .i64 x700) S (q_move rfl) fun a S => ?_
          refine lq v59 S (q_move rfl) fun a S => ?_
          refine lq (.int .i64 x527) S (q_move rfl) fun a S => ?_
          obtain ⟨x712, e713, hm⟩ := bind_some hm
          have hlt := lt_of_idx (idx_some e713).2
          refine lq (ePtr v59 (x527.toNat * 1)) S (q_indexAddr rfl (H.isSl 1 rfl) rfl (idx_some e713).1 hlt Tryz.underlying34 Tryz.sizeOf2) fun a S => ?_
          obtain ⟨c714, h715, hat716⟩ := (H.rdAt 1 rfl).elem (idx_some e713).2
          obtain rfl := h715
          refine lx_e (.int .i64 x712) S trivial (by decide) rfl trivial (q_load1 rfl Tryz.isAgg2 (by rintro _ rfl; exact (hat716 0 _ rfl))) (fun a S => ?_)
          refine lq (.int .i64 (W (x712 + (1 : Int)))) S (q_add rfl rfl) fun a S => ?_
          obtain ⟨x717, e718, hm⟩ := bind_some hm
          have hlt := lt_of_idx (idx_some e718).2
          refine lq (ePtr v59 (x700.toNat * 1)) S (q_indexAddr rfl (H.isSl 1 rfl) rfl (idx_some e718).1 hlt Tryz.underlying34 Tryz.sizeOf2) fun a S => ?_
          have H : Heap w0 [oA (rList (rInt .i64)) v59 xs595, bA b49 [(.int .i64 a0.1), (.int .i64 a0.2.1), v33, v35] 30, oA (rList (rInt .i64)) v596 xs597] w := H.front 1 rfl
          refine lx_storeElem (r := (rInt .i64)) (us := [(.int .i64 (W (x712 + (1 : Int))))]) (off := 0) (e' := (W (x712 + (1 : Int)))) S trivial rfl H.putE (ev_zero rfl) rfl (idx_some e718).2 rfl Tryz.sizeOf2 (Nat.le_of_ble_eq_true rfl) (List.forall_mem_cons.2 ⟨rfl, (fun _ h => nomatch h)⟩) (Upd.full rfl (fun w G hG => by cases (show G = [] from hG); exact ⟨rfl, rfl⟩)) (fun w719 H => ⟨trivial, fun a S => ?_⟩)
          refine lx_nil (thenN ?_)
          refine region_plain ?_
          refine lq v596 S (q_move rfl) fun a S => ?_
          refine lq (.int .i64 x700) S (q_move rfl) fun a S => ?_
          refine lx_buildSlice (r := (rInt .i64)) (xs := [x700]) (ps := [(0, [(.int .i64 x700)])]) (cs := [(.int .i64 x700)]) (parts := [(0, .tmp 74)]) S trivial (by decide) rfl (H.put0 (A := eA) rfl) rfl Tryz.underlying34 Tryz.sizeOf2 Tryz.zeroValue2 (by decide) ⟨rfl, rfl, Nat.le_of_ble_eq_true rfl, trivial⟩ (by intro zs hz; exact fill_dense hz ⟨rfl, trivial⟩ rfl rfl) rfl (by decide) (fun w F hA => by cases (show F = [] from hA); exact ⟨_, _, [(.int .i64 x700)], _, rfl, rfl, ⟨rfl, rfl⟩, ⟨rfl, rfl⟩⟩) (fun v720 w721 H => ⟨trivial, fun a S => ?_⟩)
          obtain ⟨x723, e724, hm⟩ := bind_some hm
          obtain ⟨hle, hap⟩ := app_some e724
          replace hap := hap.symm
          subst hap
          have H : Heap w0 [oA (rList (rInt .i64)) v720 [x700], oA (rList (rInt .i64)) v59 (xs595.set x700.toNat (W (x712 + (1 : Int)))), bA b49 [(.int .i64 a0.1), (.int .i64 a0.2.1), v33, v35] 30, oA (rList (rInt .i64)) v596 xs597] w721 := H.front 0 rfl
          have H : Heap w0 [oA (rList (rInt .i64)) v596 xs597, oA (rList (rInt .i64)) v720 [x700], oA (rList (rInt .i64)) v59 (xs595.set x700.toNat (W (x712 + (1 : Int)))), bA b49 [(.int .i64 a0.1), (.int .i64 a0.2.1), v33, v35] 30] w721 := H.front 3 rfl
          refine lx_appendOwn (r := (rInt .i64)) S trivial (by decide) rfl H rfl rfl Tryz.underlying34 Tryz.ti2 rfl rfl rfl (by decide) (by decide) hle (fun v725 w726 H => ⟨trivial, fun a S => ?_⟩)
          refine lq v725 S (q_assign rfl) fun a S => ?_
          refine lx_nil ?_
          refine inBlock_norm ?_
          have H : Heap w0 [oA (rList (rInt .i64)) v59 (xs595.set x700.toNat (W (x712 + (1 : Int)))), oA (rList (rInt .i64)) v725 (xs597 ++ [x700]), bA b49 [(.int .i64 a0.1), (.int .i64 a0.2.1), v33, v35] 30] w726 := H.front 1 rfl
          have H : Heap w0 [bA b49 [(.int .i64 a0.1), (.int .i64 a0.2.1), v33, v35] 30, oA (rList (rInt .i64)) v59 (xs595.set x700.toNat (W (x712 + (1 : Int)))), oA (rList (rInt .i64)) v725 (xs597 ++ [x700])] w726 := H.front 2 rfl
          exact ⟨(xs595.set x700.toNat (W (x712 + (1 : Int)))), (xs597 ++ [x700]), v725, S.sub ⟨rfl, rfl, rfl, rfl, rfl, rfl, rfl, rfl, trivial⟩, H, hm⟩
         ·have hm := ite_f hc711 hm
          refine wp_skip ?_
          refine inBlock_norm ?_
          exact ⟨xs595, xs597, v596, S.sub ⟨rfl, rfl, rfl, rfl, rfl, rfl, rfl, rfl, trivial⟩, H, hm⟩
       ·skip
        refine wp_seq (region_plain ?_)
        refine lq (.bool a2) S (q_move rfl) fun a S => ?_
        refine lq (.bool (!a2)) S (q_not rfl) fun a S => ?_
        refine lx_nil (thenN ?_)
        refine cond_b S rfl (fun hc728 => ?_) (fun hc728 => ?_)
        ·have hm := ite_t hc728 hm
         refine region_plain ?_
         refine lq (.int .i64 x680.2.2) S (q_move rfl) fun a S => ?_
         refine lq (.int .i64 x680.1) S (q_move rfl) fun a S => ?_
         refine lq (.int .i64 x680.2.2) S (q_assign rfl) fun a S => ?_
         refine lq (.int .i64 x680.1) S (q_assign rfl) fun a S => ?_
         refine lx_nil ?_
         have H : Heap w0 [bA b49 [(.int .i64 a0.1), (.int .i64 a0.2.1), v33, v35] 30, oA (rList (rInt .i64)) v59 xs595, oA (rList (rInt .i64)) v596 xs597] w698 := H.sel [1, 2, 3] (by decide)
         exact ⟨x680.2.2, x680.1, S.sub ⟨rfl, rfl, rfl, rfl, rfl, rfl, rfl, rfl, rfl, rfl, trivial⟩, H, hm⟩
        ·have hm := ite_f hc728 hm
         refine wp_skip ?_
         have H : Heap w0 [bA b49 [(.int .i64 a0.1), (.int .i64 a0.2.1), v33, v35] 30, oA (rList (rInt .i64)) v59 xs595, oA (rList (rInt .i64)) v596 xs597] w698 := H.sel [1, 2, 3] (by decide)
         exact ⟨x680.1, x680.2.2, S.sub ⟨rfl, rfl, rfl, rfl, rfl, rfl, rfl, rfl, rfl, rfl, trivial⟩, H, hm⟩
     ·have hm := ite_f hc673 hm
      refine wp_exit ?_
      refine then_exit ?_
      refine then_exit ?_
      refine inBlock_exit ?_
      obtain rfl := it_brk hm hc672
      exact ⟨xs595, xs597, v596, S.sub ⟨rfl, rfl, rfl, rfl, trivial⟩, H, rfl⟩
   ·have hm := ite_f hc526 hm
    refine wp_exit ?_
    refine then_exit ?_
    refine then_exit ?_
    refine inBlock_exit ?_
    obtain rfl := it_brk hm hc525
    have H : Heap w0 [oA (rList (rInt .i64)) v59 xs306] w := H.sel [1] (by decide)
    exact ⟨xs306, S.sub ⟨rfl, trivial⟩, H, rfl⟩
 ·skip
  have H : Heap w0 [oA (rList (rInt .i64)) v59 x57, oA (rList (rInt .i64)) v66 x64, oA (rList (rInt .i64)) v52 [(-1 : Int)], bA b49 [(.int .i64 a0.1), (.int .i64 a0.2.1), v33, v35] 30] w62 := H.front 1 rfl
  have H : Heap w0 [bA b49 [(.int .i64 a0.1), (.int .i64 a0.2.1), v33, v35] 30, oA (rList (rInt .i64)) v59 x57, oA (rList (rInt .i64)) v66 x64, oA (rList (rInt .i64)) v52 [(-1 : Int)]] w62 := H.front 3 rfl
  have H : Heap w0 [bA b49 [(.int .i64 a0.1), (.int .i64 a0.2.1), v33, v35] 30, oA (rList (rInt .i64)) v59 x57, oA (rList (rInt .i64)) v66 x64] w62 := H.sel [0, 1, 2] (by decide)
  refine loop_ghost (fun n a w => ∃ (xs80 : List Int) (x81 : Int), Slots a 79 [(2, (.bool a2)), (3, (bp b49)), (7, v59), (8, v66), (22, p1), (23, (.int .i64 (a1.length : Int))), (24, (.int .i64 x81))] ∧ Heap w0 [bA b49 [(.int .i64 a0.1), (.int .i64 a0.2.1), v33, v35] 30, oA (rList (rInt .i64)) v59 xs80, oA (rList (rInt .i64)) v66 x64] w ∧ iter f96 n (xs80, x81) = some res94) _ ⟨x57, (0 : Int), S.sub ⟨rfl, rfl, rfl, rfl, rfl, rfl, rfl, trivial⟩, H, hit95⟩ ?_
  rintro n a w ⟨xs80, x81, S, H, hit95⟩
  obtain ⟨m729, o730, rfl, hm, hc731⟩ := iter_step hit95
  rw [hf97] at hm
  refine wp_seq (region_plain ?_)
  refine lq (.bool (decide (x81 < (a1.length : Int)))) S (q_lss rfl rfl) fun a S => ?_
  refine lx_nil (thenN ?_)
  refine wp_seq ?_
  refine cond_b S rfl (fun hc732 => ?_) (fun hc732 => ?_)
  ·have hm := ite_t hc732 hm
   refine wp_skip (thenN ?_)
   refine wp_seq ?_
   refine wp_block ?_
   refine wp_seq (region_plain ?_)
   obtain ⟨x733, e734, hm⟩ := bind_some hm
   obtain ⟨c735, h736, hat737⟩ := (h1).elem (idx_some e734).2
   obtain rfl := h736
   have hlt := lt_of_idx (idx_some e734).2
   refine lq (ePtr p1 (x81.toNat * 1)) S (q_indexAddr rfl (h1).isSl rfl (idx_some e734).1 hlt Tryz.underlying34 Tryz.sizeOf2) fun a S => ?_
   refine lx_e (.int .i64 x733) S trivial (by decide) rfl trivial (q_load1 rfl Tryz.isAgg2 (by rintro _ rfl; exact ((hat737 0 _ rfl).ext H.ext))) (fun a S => ?_)
   refine lq (.int .i64 x733) S (q_assign rfl) fun a S => ?_
   refine lx_nil (thenN ?_)
   refine region_plain ?_
   refine lq v59 S (q_move rfl) fun a S => ?_
   refine lq (.int .i64 x733) S (q_move rfl) fun a S => ?_
   obtain ⟨x738, e739, hm⟩ := bind_some hm
   have hlt := lt_of_idx (idx_some e739).2
   refine lq (ePtr v59 (x733.toNat * 1)) S (q_indexAddr rfl (H.isSl 1 rfl) rfl (idx_some e739).1 hlt Tryz.underlying34 Tryz.sizeOf2) fun a S => ?_
   have H : Heap w0 [oA (rList (rInt .i64)) v59 xs80, bA b49 [(.int .i64 a0.1), (.int .i64 a0.2.1), v33, v35] 30, oA (rList (rInt .i64)) v66 x64] w := H.front 1 rfl
   refine lx_storeElem (r := (rInt .i64)) (us := [(.int .i64 (0 : Int))]) (off := 0) (e' := (0 : Int)) S trivial rfl H.putE (ev_zero rfl) rfl (idx_some e739).2 rfl Tryz.sizeOf2 (Nat.le_of_ble_eq_true rfl) (List.forall_mem_cons.2 ⟨rfl, (fun _ h => nomatch h)⟩) (Upd.full rfl (fun w G hG => by cases (show G = [] from hG); exact ⟨rfl, rfl⟩)) (fun w740 H => ⟨trivial, fun a S => ?_⟩)
   refine lx_nil ?_
   refine inBlock_norm ?_
   refine thenN ?_
   refine region_plain ?_
   refine lq (.int .i64 (W (x81 + (1 : Int)))) S (q_add rfl rfl) fun a S => ?_
   refine lq (.int .i64 (W (x81 + (1 : Int)))) S (q_move rfl) fun a S => ?_
   refine lx_nil ?_
   have H : Heap w0 [oA (rList (rInt .i64)) v66 x64, oA (rList (rInt .i64)) v59 (xs80.set x733.toNat (0 : Int)), bA b49 [(.int .i64 a0.1), (.int .i64 a0.2.1), v33, v35] 30] w740 := H.front 2 rfl
   have H : Heap w0 [oA (rList (rInt .i64)) v59 (xs80.set x733.toNat (0 : Int)), oA (rList (rInt .i64)) v66 x64, bA b49 [(.int .i64 a0.1), (.int .i64 a0.2.1), v33, v35] 30] w740 := H.front 1 rfl
   have H : Heap w0 [bA b49 [(.int .i64 a0.1), (.int .i64 a0.2.1), v33, v35] 30, oA (rList (rInt .i64)) v59 (xs80.set x733.toNat (0 : Int)), oA (rList (rInt .i64)) v66 x64] w740 := H.front 2 rfl
   exact ⟨m729, Nat.lt_succ_self _, (xs80.set x733.toNat (0 : Int)), (W (x81 + (1 : Int))), S.sub ⟨rfl, rfl, rfl, rfl, rfl, rfl, rfl, trivial⟩, H, it_cont hm hc731⟩
  ·have hm := ite_f hc732 hm
   refine wp_exit ?_
   refine then_exit ?_
   refine then_exit ?_
   refine inBlock_exit ?_
   obtain rfl := it_brk hm hc731
   exact ⟨xs80, S.sub ⟨rfl, rfl, rfl, rfl, trivial⟩, H, rfl⟩
end Go.Proofs.YtkgkfbmcnchdbaaGreatDoor
