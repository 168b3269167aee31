/- The models of some functions and their walks (printed by a program of this repo). -/
import Derived.Test.YtkgkfbmcnchdbaaGreatDoorF0
import Derived.Test.YtkgkfbmcnchdbaaGreatDoorGxT
import Derived.Test.YtkgkfbmcnchdbaaGreatDoorGxY
namespace Go.Proofs.YtkgkfbmcnchdbaaGreatDoor
open Go.RowKit Go.Gx

/-- spec.l11Out -/
def spec_l11Out_m (fuel : Nat) (a0 : Timpl_Lts) (a1 : Int) : Option ((List Timpl_Edge)) :=
  (iter (fun (s : (List Timpl_Edge) × (Int)) => (match s with | (xs99, x101) => (if (decide (x101 < (a0.2.2.2.length : Int))) = true then join (κ := List Timpl_Edge → Option (((List Timpl_Edge) × (Int)) ⊕ (((List Timpl_Edge)) ⊕ ((List Timpl_Edge))))) (fun (xs160 : List Timpl_Edge) => some (.inl (xs160, (W (x101 + (1 : Int)))))) (fun K162 => (idx a0.2.2.2 x101).bind fun x164 => (if (x164.1 == a1) = true then (idx a0.2.2.2 x101).bind fun x178 => (app xs99 [(x178.1, x178.2.1, x178.2.2)]).bind fun x194 => (K162 x194) else (K162 xs99))) else some (.inr (.inl (xs99)))) : Option (((List Timpl_Edge) × (Int)) ⊕ (((List Timpl_Edge)) ⊕ ((List Timpl_Edge)))))) fuel (([] : List Timpl_Edge), (0 : Int))).bind fun res150 => ctl (β := (List Timpl_Edge)) (ρ := (List Timpl_Edge)) (τ := (List Timpl_Edge)) res150 (fun (xs148) => some (xs148)) (fun q => some (q))
set_option maxRecDepth 20000 in
theorem spec_l11Out_ok {w0 : World} {fuel : Nat} {p0 : Value} {a0 : Timpl_Lts} {a1 : Int} {r : (List Timpl_Edge)} (h0 : Rd (rPtr Rimpl_Lts) w0 p0 a0) (hm : spec_l11Out_m fuel a0 a1 = some r) :
  Calls Tryz.prog 81 #[p0, .int .i64 a1] w0 fun e w => ∃ (v0 : Value), e = .returned (v0) ∧ Heap w0 [oA (rList Rimpl_Edge) v0 r] w := by
 unfold spec_l11Out_m at hm
 have H := Heap.start w0
 obtain ⟨c31, h32, hat33⟩ := h0.ptr
 obtain ⟨c38, c39, rfl, h40, h41⟩ := h32
 obtain rfl := h40
 obtain ⟨c42, c43, rfl, h44, h45⟩ := h41
 obtain rfl := h44
 obtain ⟨c46, c47, rfl, h48, h49⟩ := h45
 obtain ⟨v34, rfl, h35⟩ := rd_list h48
 obtain ⟨v36, rfl, h37⟩ := rd_list h49
 refine enter (args := [p0, .int .i64 a1]) Tryz.func81 rfl 38 rfl (Nat.le_of_ble_eq_true rfl) (fun a S => ?_)
 refine wp_seq (region_plain ?_)
 refine lq (.slice none 0 0) S (q_assign rfl) fun a S => ?_
 refine lx_nil (thenN ?_)
 refine wp_seq (region_plain ?_)
 refine lx_buildSlice0 (r := Rimpl_Edge) S trivial (by decide) rfl H Tryz.underlying28 Tryz.sizeOf72 (fun v50 w51 H => ⟨trivial, fun a S => ?_⟩)
 refine lq v50 S (q_assign rfl) fun a S => ?_
 refine lx_nil (thenN ?_)
 refine wp_seq (wp_seq (region_plain ?_))
 refine lq (.int .i64 (0 : Int)) S (q_assign rfl) fun a S => ?_
 refine lx_nil (thenN ?_)
 obtain ⟨res150, hit151, hk154⟩ := bind_some hm
 obtain ⟨f152, hf153, hit151⟩ := iter_name hit151
 refine block_loop (fun a w => ∃ (xs148 : List Timpl_Edge) (v147 : Value), Slots a 38 [(5, v147)] ∧ Heap w0 [oA (rList Rimpl_Edge) v147 xs148] w ∧ res150 = .inl (xs148)) ?_ ?_
 ·rintro a w ⟨xs148, v147, S, H, rfl⟩
  have hm := ctl_inl hk154
  refine thenN ?_
  refine wp_seq (region_plain ?_)
  refine lq v147 S (q_move rfl) fun a S => ?_
  refine lq v147 S (q_assign rfl) fun a S => ?_
  refine lx_nil (thenN ?_)
  refine wp_ret ?_
  obtain rfl := Option.some.inj hm
  exact leave1 S rfl rfl ⟨v147, rfl, H⟩
 ·skip
  refine loop_ghost (fun n a w => ∃ (xs99 : List Timpl_Edge) (x101 : Int) (v98 : Value), Slots a 38 [(0, p0), (1, (.int .i64 a1)), (5, v98), (6, (.int .i64 x101))] ∧ Heap w0 [oA (rList Rimpl_Edge) v98 xs99] w ∧ iter f152 n (xs99, x101) = some res150) _ ⟨([] : List Timpl_Edge), (0 : Int), v50, S.sub ⟨rfl, rfl, rfl, rfl, trivial⟩, H, hit151⟩ ?_
  rintro n a w ⟨xs99, x101, v98, S, H, hit151⟩
  obtain ⟨m155, o156, rfl, hm, hc157⟩ := iter_step hit151
  rw [hf153] at hm
  refine wp_seq (wp_seq (region_plain ?_))
  refine lq (.int .i64 x101) S (q_move rfl) fun a S => ?_
  refine lq p0 S (q_move rfl) fun a S => ?_
  refine lq p0 S (q_nilCheck rfl ((hat33 0 _ rfl).isP)) fun a S => ?_
  refine lq (pAdd p0 3) S (q_fieldAddr' 3 28 rfl ((hat33 0 _ rfl).isP) Tryz.underlying30 rfl Tryz.sizeOf28) fun a S => ?_
  refine lx_e v36 S trivial (by decide) rfl trivial (q_load1 rfl Tryz.isAgg28 (by rintro _ rfl; exact (At.of_add (m := 3) (j := 0) ((hat33 3 _ rfl).ext H.ext)))) (fun a S => ?_)
  refine lq (.int .i64 (a0.2.2.2.length : Int)) S (q_lenSl rfl (h37).isSl rfl Tryz.underlying28) fun a S => ?_
  refine lq (.bool (decide (x101 < (a0.2.2.2.length : Int)))) S (q_lss rfl rfl) fun a S => ?_
  refine lx_nil (thenN ?_)
  refine cond_b S rfl (fun hc158 => ?_) (fun hc158 => ?_)
  ·have hm := ite_t hc158 hm
   refine wp_skip (thenN ?_)
   obtain ⟨K162, hK163, hm⟩ := join_elim hm
   refine seq_cut (fun a w => ∃ (xs160 : List Timpl_Edge) (v159 : Value), Slots a 38 [(0, p0), (1, (.int .i64 a1)), (5, v159), (6, (.int .i64 x101))] ∧ Heap w0 [oA (rList Rimpl_Edge) v159 xs160] w ∧ K162 xs160 = some o156) ?_ ?_
   ·rintro a w ⟨xs160, v159, S, H, hm⟩
    subst hK163
    refine region_plain ?_
    refine lq (.int .i64 x101) S (q_move rfl) fun a S => ?_
    refine lq (.int .i64 (W (x101 + (1 : Int)))) S (q_add rfl rfl) fun a S => ?_
    refine lq (.int .i64 (W (x101 + (1 : Int)))) S (q_assign rfl) fun a S => ?_
    refine lx_nil ?_
    exact ⟨m155, Nat.lt_succ_self _, xs160, (W (x101 + (1 : Int))), v159, S.sub ⟨rfl, rfl, rfl, rfl, trivial⟩, H, it_cont hm hc157⟩
   ·skip
    refine wp_block ?_
    refine wp_seq (region_plain ?_)
    refine lq p0 S (q_move rfl) fun a S => ?_
    refine lq p0 S (q_nilCheck rfl ((hat33 0 _ rfl).isP)) fun a S => ?_
    refine lq (pAdd p0 3) S (q_fieldAddr' 3 28 rfl ((hat33 0 _ rfl).isP) Tryz.underlying30 rfl Tryz.sizeOf28) fun a S => ?_
    refine lx_e v36 S trivial (by decide) rfl trivial (q_load1 rfl Tryz.isAgg28 (by rintro _ rfl; exact (At.of_add (m := 3) (j := 0) ((hat33 3 _ rfl).ext H.ext)))) (fun a S => ?_)
    refine lq (.int .i64 x101) S (q_move rfl) fun a S => ?_
    obtain ⟨x164, e165, hm⟩ := bind_some hm
    obtain ⟨c166, h167, hat168⟩ := (h37).elem (idx_some e165).2
    obtain ⟨c169, c170, rfl, h171, h172⟩ := h167
    obtain rfl := h171
    obtain ⟨c173, c174, rfl, h175, h176⟩ := h172
    obtain rfl := h175
    obtain rfl := h176
    have hlt := lt_of_idx (idx_some e165).2
    refine lq (ePtr v36 (x101.toNat * 3)) S (q_indexAddr rfl (h37).isSl rfl (idx_some e165).1 hlt Tryz.underlying28 Tryz.sizeOf72) fun a S => ?_
    refine lq (pAdd (ePtr v36 (x101.toNat * 3)) 0) S (q_fieldAddr' 0 2 rfl ((hat168 0 _ rfl).isP) Tryz.underlying72 rfl Tryz.sizeOf2) fun a S => ?_
    refine lx_e (.int .i64 x164.1) S trivial (by decide) rfl trivial (q_load1 rfl Tryz.isAgg2 (by rintro _ rfl; exact (At.of_add (m := 0) (j := 0) ((hat168 0 _ rfl).ext H.ext)))) (fun a S => ?_)
    refine lq (.int .i64 a1) S (q_move rfl) fun a S => ?_
    refine lq (.bool (x164.1 == a1)) S (q_eql rfl rfl) fun a S => ?_
    refine lx_nil (thenN ?_)
    refine cond_b S rfl (fun hc177 => ?_) (fun hc177 => ?_)
    ·have hm := ite_t hc177 hm
     refine region_plain ?_
     refine lq v98 S (q_move rfl) fun a S => ?_
     refine lq p0 S (q_move rfl) fun a S => ?_
     refine lq p0 S (q_nilCheck rfl ((hat33 0 _ rfl).isP)) fun a S => ?_
     refine lq (pAdd p0 3) S (q_fieldAddr' 3 28 rfl ((hat33 0 _ rfl).isP) Tryz.underlying30 rfl Tryz.sizeOf28) fun a S => ?_
     refine lx_e v36 S trivial (by decide) rfl trivial (q_load1 rfl Tryz.isAgg28 (by rintro _ rfl; exact (At.of_add (m := 3) (j := 0) ((hat33 3 _ rfl).ext H.ext)))) (fun a S => ?_)
     refine lq (.int .i64 x101) S (q_move rfl) fun a S => ?_
     obtain ⟨x178, e179, hm⟩ := bind_some hm
     obtain ⟨c180, h181, hat182⟩ := (h37).elem (idx_some e179).2
     obtain ⟨c183, c184, rfl, h185, h186⟩ := h181
     obtain rfl := h185
     obtain ⟨c187, c188, rfl, h189, h190⟩ := h186
     obtain rfl := h189
     obtain rfl := h190
     have hlt := lt_of_idx (idx_some e179).2
     refine lq (ePtr v36 (x101.toNat * 3)) S (q_indexAddr rfl (h37).isSl rfl (idx_some e179).1 hlt Tryz.underlying28 Tryz.sizeOf72) fun a S => ?_
     refine lx_e (.agg #[(.int .i64 x178.1), (.int .i64 x178.2.1), (.int .i64 x178.2.2)]) S trivial (by decide) rfl trivial (q_loadA (cs := [(.int .i64 x178.1), (.int .i64 x178.2.1), (.int .i64 x178.2.2)]) rfl ((hat182 0 _ rfl).isP) Tryz.isAgg72 Tryz.sizeOf72 (by rintro _ rfl; exact (fun j u hu => (hat182 j u hu).ext H.ext))) (fun a S => ?_)
     refine lx_buildSlice (r := Rimpl_Edge) (xs := [(x178.1, x178.2.1, x178.2.2)]) (ps := [(0, [(.int .i64 x178.1), (.int .i64 x178.2.1), (.int .i64 x178.2.2)])]) (cs := [(.int .i64 x178.1), (.int .i64 x178.2.1), (.int .i64 x178.2.2)]) (parts := [(0, .tmp 34)]) S trivial (by decide) rfl (H.put0 (A := eA) rfl) rfl Tryz.underlying28 Tryz.sizeOf72 Tryz.zeroValue72 (by decide) ⟨rfl, rfl, Nat.le_of_ble_eq_true rfl, trivial⟩ (by intro zs hz; exact fill_dense hz ⟨rfl, trivial⟩ rfl rfl) rfl (by decide) (fun w F hA => by cases (show F = [] from hA); exact ⟨_, _, [(.int .i64 x178.1), (.int .i64 x178.2.1), (.int .i64 x178.2.2)], _, rfl, rfl, ⟨_, _, [(.int .i64 x178.1)], [(.int .i64 x178.2.1), (.int .i64 x178.2.2)], rfl, rfl, ⟨rfl, rfl⟩, ⟨_, _, [(.int .i64 x178.2.1)], [(.int .i64 x178.2.2)], rfl, rfl, ⟨rfl, rfl⟩, ⟨rfl, rfl⟩⟩⟩, ⟨rfl, rfl⟩⟩) (fun v191 w192 H => ⟨trivial, fun a S => ?_⟩)
     obtain ⟨x194, e195, hm⟩ := bind_some hm
     obtain ⟨hle, hap⟩ := app_some e195
     replace hap := hap.symm
     subst hap
     have H : Heap w0 [oA (rList Rimpl_Edge) v191 [(x178.1, x178.2.1, x178.2.2)], oA (rList Rimpl_Edge) v98 xs99] w192 := H.front 0 rfl
     have H : Heap w0 [oA (rList Rimpl_Edge) v98 xs99, oA (rList Rimpl_Edge) v191 [(x178.1, x178.2.1, x178.2.2)]] w192 := H.front 1 rfl
     refine lx_appendOwn (r := Rimpl_Edge) S trivial (by decide) rfl H rfl rfl Tryz.underlying28 Tryz.ti72 rfl rfl rfl (by decide) (by decide) hle (fun v196 w197 H => ⟨trivial, fun a S => ?_⟩)
     refine lq v196 S (q_assign rfl) fun a S => ?_
     refine lx_nil ?_
     refine inBlock_norm ?_
     exact ⟨(xs99 ++ [(x178.1, x178.2.1, x178.2.2)]), v196, S.sub ⟨rfl, rfl, rfl, rfl, trivial⟩, H, hm⟩
    ·have hm := ite_f hc177 hm
     refine wp_skip ?_
     refine inBlock_norm ?_
     exact ⟨xs99, v98, S.sub ⟨rfl, rfl, rfl, rfl, trivial⟩, H, hm⟩
  ·have hm := ite_f hc158 hm
   refine wp_exit ?_
   refine then_exit ?_
   refine then_exit ?_
   refine inBlock_exit ?_
   obtain rfl := it_brk hm hc157
   exact ⟨xs99, v98, S.sub ⟨rfl, trivial⟩, H, rfl⟩

/-- laws.heldEdgeS -/
def laws_heldEdgeS_m (fuel : Nat) (a0 : (List Timpl_Edge)) (a1 : Int) : Option (Int) :=
  (iter (fun (s : (Int) × (Int)) => (match s with | (x76, x77) => (if (decide (x77 < (a0.length : Int))) = true then (idx a0 x77).bind fun x133 => (if (x133.1 != x76) = true then some (.inr (.inr (-1 : Int))) else (idx a0 x77).bind fun x147 => (if (x147.2.1 != (W (x76 + (1 : Int)))) = true then some (.inr (.inr (-1 : Int))) else (idx a0 x77).bind fun x161 => (if (x161.2.2 != (W ((W (x76 + (1 : Int))) + (1 : Int)))) = true then some (.inr (.inr (-1 : Int))) else some (.inl ((W ((W ((W (x76 + (1 : Int))) + (1 : Int))) + (1 : Int))), (W (x77 + (1 : Int)))))))) else some (.inr (.inl (x76)))) : Option (((Int) × (Int)) ⊕ ((Int) ⊕ (Int))))) fuel (a1, (0 : Int))).bind fun res124 => ctl (β := Int) (ρ := Int) (τ := Int) res124 (fun (x123) => some (x123)) (fun q => some (q))
set_option maxRecDepth 20000 in
theorem laws_heldEdgeS_ok {w0 : World} {fuel : Nat} {p0 : Value} {a0 : (List Timpl_Edge)} {a1 : Int} {r : Int} (h0 : Rd (rList Rimpl_Edge) w0 p0 a0) (hm : laws_heldEdgeS_m fuel a0 a1 = some r) :
  Calls Tryz.prog 35 #[p0, .int .i64 a1] w0 fun e w => e = .returned (.int .i64 r) ∧ Heap w0 [] w := by
 unfold laws_heldEdgeS_m at hm
 have H := Heap.start w0
 refine enter (args := [p0, .int .i64 a1]) Tryz.func35 rfl 40 rfl (Nat.le_of_ble_eq_true rfl) (fun a S => ?_)
 refine wp_seq (region_plain ?_)
 refine lq (.int .i64 (0 : Int)) S (q_assign rfl) fun a S => ?_
 refine lx_nil (thenN ?_)
 refine wp_seq (wp_seq (region_plain ?_))
 refine lq (.int .i64 (0 : Int)) S (q_assign rfl) fun a S => ?_
 refine lx_nil (thenN ?_)
 obtain ⟨res124, hit125, hk128⟩ := bind_some hm
 obtain ⟨f126, hf127, hit125⟩ := iter_name hit125
 refine block_loop (fun a w => ∃ (x123 : Int), Slots a 40 [(1, (.int .i64 x123))] ∧ Heap w0 [] w ∧ res124 = .inl (x123)) ?_ ?_
 ·rintro a w ⟨x123, S, H, rfl⟩
  have hm := ctl_inl hk128
  refine thenN ?_
  refine wp_seq (region_plain ?_)
  refine lq (.int .i64 x123) S (q_move rfl) fun a S => ?_
  refine lq (.int .i64 x123) S (q_assign rfl) fun a S => ?_
  refine lx_nil (thenN ?_)
  refine wp_ret ?_
  obtain rfl := Option.some.inj hm
  exact leave1 S rfl rfl ⟨rfl, H⟩
 ·skip
  refine loop_ghost (fun n a w => ∃ (x76 : Int) (x77 : Int), Slots a 40 [(0, p0), (1, (.int .i64 x76)), (5, (.int .i64 x77))] ∧ Heap w0 [] w ∧ iter f126 n (x76, x77) = some res124) _ ⟨a1, (0 : Int), S.sub ⟨rfl, rfl, rfl, trivial⟩, H, hit125⟩ ?_
  rintro n a w ⟨x76, x77, S, H, hit125⟩
  obtain ⟨m129, o130, rfl, hm, hc131⟩ := iter_step hit125
  rw [hf127] at hm
  refine wp_seq (wp_seq (region_plain ?_))
  refine lq (.int .i64 x77) S (q_move rfl) fun a S => ?_
  refine lq p0 S (q_move rfl) fun a S => ?_
  refine lq (.int .i64 (a0.length : Int)) S (q_lenSl rfl (h0).isSl rfl Tryz.underlying28) fun a S => ?_
  refine lq (.bool (decide (x77 < (a0.length : Int)))) S (q_lss rfl rfl) fun a S => ?_
  refine lx_nil (thenN ?_)
  refine cond_b S rfl (fun hc132 => ?_) (fun hc132 => ?_)
  ·have hm := ite_t hc132 hm
   refine wp_skip (thenN ?_)
   refine wp_seq ?_
   refine wp_block ?_
   refine wp_seq (wp_seq (region_plain ?_))
   refine lq p0 S (q_move rfl) fun a S => ?_
   refine lq (.int .i64 x77) S (q_move rfl) fun a S => ?_
   obtain ⟨x133, e134, hm⟩ := bind_some hm
   obtain ⟨c135, h136, hat137⟩ := (h0).elem (idx_some e134).2
   obtain ⟨c138, c139, rfl, h140, h141⟩ := h136
   obtain rfl := h140
   obtain ⟨c142, c143, rfl, h144, h145⟩ := h141
   obtain rfl := h144
   obtain rfl := h145
   have hlt := lt_of_idx (idx_some e134).2
   refine lq (ePtr p0 (x77.toNat * 3)) S (q_indexAddr rfl (h0).isSl rfl (idx_some e134).1 hlt Tryz.underlying28 Tryz.sizeOf72) fun a S => ?_
   refine lq (pAdd (ePtr p0 (x77.toNat * 3)) 0) S (q_fieldAddr' 0 2 rfl ((hat137 0 _ rfl).isP) Tryz.underlying72 rfl Tryz.sizeOf2) fun a S => ?_
   refine lx_e (.int .i64 x133.1) S trivial (by decide) rfl trivial (q_load1 rfl Tryz.isAgg2 (by rintro _ rfl; exact (At.of_add (m := 0) (j := 0) ((hat137 0 _ rfl).ext H.ext)))) (fun a S => ?_)
   refine lq (.int .i64 x76) S (q_move rfl) fun a S => ?_
   refine lq (.bool (x133.1 != x76)) S (q_neq rfl rfl) fun a S => ?_
   refine lx_nil (thenN ?_)
   refine cond_b S rfl (fun hc146 => ?_) (fun hc146 => ?_)
   ·have hm := ite_t hc146 hm
    refine wp_seq (region_plain ?_)
    refine lq (.int .i64 (-1 : Int)) S (q_assign rfl) fun a S => ?_
    refine lx_nil (thenN ?_)
    refine wp_ret (then_ret ?_)
    refine inBlock_ret ?_
    refine then_ret ?_
    refine then_ret ?_
    refine inBlock_ret ?_
    refine then_ret ?_
    refine then_ret ?_
    obtain rfl := it_brk hm hc131
    have hm := ctl_inr hk128
    obtain rfl := Option.some.inj hm
    exact leave1 S rfl rfl ⟨rfl, H⟩
   ·have hm := ite_f hc146 hm
    refine wp_skip (thenN ?_)
    refine wp_seq (region_plain ?_)
    refine lq (.int .i64 x76) S (q_move rfl) fun a S => ?_
    refine lq (.int .i64 (W (x76 + (1 : Int)))) S (q_add rfl rfl) fun a S => ?_
    refine lq (.int .i64 (W (x76 + (1 : Int)))) S (q_assign rfl) fun a S => ?_
    refine lx_nil (thenN ?_)
    refine wp_seq (wp_seq (region_plain ?_))
    refine lq p0 S (q_move rfl) fun a S => ?_
    refine lq (.int .i64 x77) S (q_move rfl) fun a S => ?_
    obtain ⟨x147, e148, hm⟩ := bind_some hm
    obtain ⟨c149, h150, hat151⟩ := (h0).elem (idx_some e148).2
    obtain ⟨c152, c153, rfl, h154, h155⟩ := h150
    obtain rfl := h154
    obtain ⟨c156, c157, rfl, h158, h159⟩ := h155
    obtain rfl := h158
    obtain rfl := h159
    have hlt := lt_of_idx (idx_some e148).2
    refine lq (ePtr p0 (x77.toNat * 3)) S (q_indexAddr rfl (h0).isSl rfl (idx_some e148).1 hlt Tryz.underlying28 Tryz.sizeOf72) fun a S => ?_
    refine lq (pAdd (ePtr p0 (x77.toNat * 3)) 1) S (q_fieldAddr' 1 2 rfl ((hat151 0 _ rfl).isP) Tryz.underlying72 rfl Tryz.sizeOf2) fun a S => ?_
    refine lx_e (.int .i64 x147.2.1) S trivial (by decide) rfl trivial (q_load1 rfl Tryz.isAgg2 (by rintro _ rfl; exact (At.of_add (m := 1) (j := 0) ((hat151 1 _ rfl).ext H.ext)))) (fun a S => ?_)
    refine lq (.int .i64 (W (x76 + (1 : Int)))) S (q_move rfl) fun a S => ?_
    refine lq (.bool (x147.2.1 != (W (x76 + (1 : Int))))) S (q_neq rfl rfl) fun a S => ?_
    refine lx_nil (thenN ?_)
    refine cond_b S rfl (fun hc160 => ?_) (fun hc160 => ?_)
    ·have hm := ite_t hc160 hm
     refine wp_seq (region_plain ?_)
     refine lq (.int .i64 (-1 : Int)) S (q_assign rfl) fun a S => ?_
     refine lx_nil (thenN ?_)
     refine wp_ret (then_ret ?_)
     refine inBlock_ret ?_
     refine then_ret ?_
     refine then_ret ?_
     refine inBlock_ret ?_
     refine then_ret ?_
     refine then_ret ?_
     obtain rfl := it_brk hm hc131
     have hm := ctl_inr hk128
     obtain rfl := Option.some.inj hm
     exact leave1 S rfl rfl ⟨rfl, H⟩
    ·have hm := ite_f hc160 hm
     refine wp_skip (thenN ?_)
     refine wp_seq (region_plain ?_)
     refine lq (.int .i64 (W (x76 + (1 : Int)))) S (q_move rfl) fun a S => ?_
     refine lq (.int .i64 (W ((W (x76 + (1 : Int))) + (1 : Int)))) S (q_add rfl rfl) fun a S => ?_
     refine lq (.int .i64 (W ((W (x76 + (1 : Int))) + (1 : Int)))) S (q_assign rfl) fun a S => ?_
     refine lx_nil (thenN ?_)
     refine wp_seq (wp_seq (region_plain ?_))
     refine lq p0 S (q_move rfl) fun a S => ?_
     refine lq (.int .i64 x77) S (q_move rfl) fun a S => ?_
     obtain ⟨x161, e162, hm⟩ := bind_some hm
     obtain ⟨c163, h164, hat165⟩ := (h0).elem (idx_some e162).2
     obtain ⟨c166, c167, rfl, h168, h169⟩ := h164
     obtain rfl := h168
     obtain ⟨c170, c171, rfl, h172, h173⟩ := h169
     obtain rfl := h172
     obtain rfl := h173
     have hlt := lt_of_idx (idx_some e162).2
     refine lq (ePtr p0 (x77.toNat * 3)) S (q_indexAddr rfl (h0).isSl rfl (idx_some e162).1 hlt Tryz.underlying28 Tryz.sizeOf72) fun a S => ?_
     refine lq (pAdd (ePtr p0 (x77.toNat * 3)) 2) S (q_fieldAddr' 2 2 rfl ((hat165 0 _ rfl).isP) Tryz.underlying72 rfl Tryz.sizeOf2) fun a S => ?_
     refine lx_e (.int .i64 x161.2.2) S trivial (by decide) rfl trivial (q_load1 rfl Tryz.isAgg2 (by rintro _ rfl; exact (At.of_add (m := 2) (j := 0) ((hat165 2 _ rfl).ext H.ext)))) (fun a S => ?_)
     refine lq (.int .i64 (W ((W (x76 + (1 : Int))) + (1 : Int)))) S (q_move rfl) fun a S => ?_
     refine lq (.bool (x161.2.2 != (W ((W (x76 + (1 : Int))) + (1 : Int))))) S (q_neq rfl rfl) fun a S => ?_
     refine lx_nil (thenN ?_)
     refine cond_b S rfl (fun hc174 => ?_) (fun hc174 => ?_)
     ·have hm := ite_t hc174 hm
      refine wp_seq (region_plain ?_)
      refine lq (.int .i64 (-1 : Int)) S (q_assign rfl) fun a S => ?_
      refine lx_nil (thenN ?_)
      refine wp_ret (then_ret ?_)
      refine inBlock_ret ?_
      refine then_ret ?_
      refine then_ret ?_
      refine inBlock_ret ?_
      refine then_ret ?_
      refine then_ret ?_
      obtain rfl := it_brk hm hc131
      have hm := ctl_inr hk128
      obtain rfl := Option.some.inj hm
      exact leave1 S rfl rfl ⟨rfl, H⟩
     ·have hm := ite_f hc174 hm
      refine wp_skip (thenN ?_)
      refine region_plain ?_
      refine lq (.int .i64 (W ((W (x76 + (1 : Int))) + (1 : Int)))) S (q_move rfl) fun a S => ?_
      refine lq (.int .i64 (W ((W ((W (x76 + (1 : Int))) + (1 : Int))) + (1 : Int)))) S (q_add rfl rfl) fun a S => ?_
      refine lq (.int .i64 (W ((W ((W (x76 + (1 : Int))) + (1 : Int))) + (1 : Int)))) S (q_assign rfl) fun a S => ?_
      refine lx_nil ?_
      refine inBlock_norm ?_
      refine thenN ?_
      refine region_plain ?_
      refine lq (.int .i64 x77) S (q_move rfl) fun a S => ?_
      refine lq (.int .i64 (W (x77 + (1 : Int)))) S (q_add rfl rfl) fun a S => ?_
      refine lq (.int .i64 (W (x77 + (1 : Int)))) S (q_assign rfl) fun a S => ?_
      refine lx_nil ?_
      exact ⟨m129, Nat.lt_succ_self _, (W ((W ((W (x76 + (1 : Int))) + (1 : Int))) + (1 : Int))), (W (x77 + (1 : Int))), S.sub ⟨rfl, rfl, rfl, trivial⟩, H, it_cont hm hc131⟩
  ·have hm := ite_f hc132 hm
   refine wp_exit ?_
   refine then_exit ?_
   refine then_exit ?_
   refine inBlock_exit ?_
   obtain rfl := it_brk hm hc131
   exact ⟨x76, S.sub ⟨rfl, trivial⟩, H, rfl⟩
end Go.Proofs.YtkgkfbmcnchdbaaGreatDoor
