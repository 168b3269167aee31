/- The model of a statement and its walk (printed by a program of this repo). -/
import Derived.Test.YtkgkfbmcnchdbaaGreatDoorF0
import Derived.Test.YtkgkfbmcnchdbaaGreatDoorF1
import Derived.Test.YtkgkfbmcnchdbaaGreatDoorF12
import Derived.Test.YtkgkfbmcnchdbaaGreatDoorF2
import Derived.Test.YtkgkfbmcnchdbaaGreatDoorF3
import Derived.Test.YtkgkfbmcnchdbaaGreatDoorF4
import Derived.Test.YtkgkfbmcnchdbaaGreatDoorF5
import Derived.Test.YtkgkfbmcnchdbaaGreatDoorF6
import Derived.Test.YtkgkfbmcnchdbaaGreatDoorF7
import Derived.Test.YtkgkfbmcnchdbaaGreatDoorF8
import Derived.Test.YtkgkfbmcnchdbaaGreatDoorGxT
import Derived.Test.YtkgkfbmcnchdbaaGreatDoorGxY
namespace Go.Proofs.YtkgkfbmcnchdbaaGreatDoor
open Go.RowKit Go.Gx

/-- spec.DeadlocksOf -/
def spec_DeadlocksOf_m (fuel : Nat) (a0 : Timpl_Lts) : Option (((List Int) × Int)) :=
  (spec_l11Is_m fuel (a0.1, a0.2.1, a0.2.2.1, a0.2.2.2)).bind fun x54 => (if (!x54) = true then some (([], (1 : Int))) else (spec_l11Reach_m fuel (a0.1, a0.2.1, a0.2.2.1, a0.2.2.2)).bind fun x61 => (iter (fun (s : (List Int) × (Int)) => (match s with | (xs106, x108) => (if (decide (x108 < (x61.length : Int))) = true then join (κ := List Int → Option (((List Int) × (Int)) ⊕ (((List Int)) ⊕ (((List Int) × Int))))) (fun (xs158 : List Int) => some (.inl (xs158, (W (x108 + (1 : Int)))))) (fun K160 => (idx x61 x108).bind fun x162 => (spec_l11Out_m fuel (a0.1, a0.2.1, a0.2.2.1, a0.2.2.2) x162).bind fun x169 => (if ((x169.length : Int) == (0 : Int)) = true then (idx x61 x108).bind fun x175 => (app xs106 [x175]).bind fun x183 => (K160 x183) else (K160 xs106))) else some (.inr (.inl (xs106)))) : Option (((List Int) × (Int)) ⊕ (((List Int)) ⊕ (((List Int) × Int)))))) fuel (([] : List Int), (0 : Int))).bind fun res148 => ctl (β := (List Int)) (ρ := ((List Int) × Int)) (τ := ((List Int) × Int)) res148 (fun (xs146) => some ((xs146, (0 : Int)))) (fun q => some (q)))
set_option maxRecDepth 20000 in
theorem spec_DeadlocksOf_ok {w0 : World} {fuel : Nat} {p0 : Value} {a0 : Timpl_Lts} {r : ((List Int) × Int)} (h0 : Rd Rimpl_Lts w0 p0 a0) (hm : spec_DeadlocksOf_m fuel a0 = some r) :
  Calls Tryz.prog 51 #[p0] w0 fun e w => ∃ (v0 : Value), e = .returned (.tuple #[v0, .int .i64 r.2]) ∧ Heap w0 [oA (rList (rInt .i64)) v0 r.1] w := by
 unfold spec_DeadlocksOf_m at hm
 have H := Heap.start w0
 obtain ⟨c31, rfl, h32⟩ := h0
 obtain ⟨c37, c38, rfl, h39, h40⟩ := h32
 obtain rfl := h39
 obtain ⟨c41, c42, rfl, h43, h44⟩ := h40
 obtain rfl := h43
 obtain ⟨c45, c46, rfl, h47, h48⟩ := h44
 obtain ⟨v33, rfl, h34⟩ := rd_list h47
 obtain ⟨v35, rfl, h36⟩ := rd_list h48
 refine enter (args := [(.agg #[(.int .i64 a0.1), (.int .i64 a0.2.1), v33, v35])]) Tryz.func51 rfl 32 rfl (Nat.le_of_ble_eq_true rfl) (fun a S => ?_)
 refine wp_seq (region_plain ?_)
 refine lx_box S trivial (by decide) rfl H rfl rfl (fun b49 w50 H => ⟨trivial, fun a S => ?_⟩)
 refine lq (.slice none 0 0) S (q_assign rfl) fun a S => ?_
 refine lq (.int .i64 (0 : Int)) S (q_assign rfl) fun a S => ?_
 refine lx_nil (thenN ?_)
 refine wp_seq (wp_seq (region_plain ?_))
 obtain ⟨x54, e55, hm⟩ := bind_some hm
 refine lx_call (xs := [.tmp 1]) S trivial (by decide) rfl rfl Tryz.call70 ((spec_l11Is_ok (rdPtr_box H 0 rfl ⟨[(.int .i64 a0.1)], [(.int .i64 a0.2.1), v33, v35], rfl, rfl, ⟨[(.int .i64 a0.2.1)], [v33, v35], rfl, rfl, ⟨[v33], [v35], rfl, ((H.arg h34)).list_rd, ((H.arg h36)).list_rd⟩⟩⟩) e55).mono ?_)
 rintro e w52 ⟨rfl, Hc53⟩
 have H := H.call0 Hc53
 refine ⟨_, rfl, trivial, fun a S => ?_⟩
 refine lq (.bool (!x54)) S (q_not rfl) fun a S => ?_
 refine lx_nil (thenN ?_)
 refine cond_b S rfl (fun hc57 => ?_) (fun hc57 => ?_)
 ·have hm := ite_t hc57 hm
  refine wp_seq (region_plain ?_)
  refine lq (.slice none 0 0) S (q_assign rfl) fun a S => ?_
  refine lq (.int .i64 (1 : Int)) S (q_assign rfl) fun a S => ?_
  refine lx_nil (thenN ?_)
  refine wp_ret (then_ret ?_)
  obtain rfl := Option.some.inj hm
  have H : Heap w0 [oA (rList (rInt .i64)) (.slice none 0 0) ([] : List Int), bA b49 [(.int .i64 a0.1), (.int .i64 a0.2.1), v33, v35] 30] w52 := H.nilList (rInt .i64)
  have H : Heap w0 [oA (rList (rInt .i64)) (.slice none 0 0) ([] : List Int)] w52 := H.sel [0] (by decide)
  exact leave2 S rfl rfl rfl ⟨(.slice none 0 0), rfl, H⟩
 ·have hm := ite_f hc57 hm
  refine wp_skip (thenN ?_)
  refine wp_seq (region_plain ?_)
  obtain ⟨x61, e62, hm⟩ := bind_some hm
  refine lx_call (xs := [.tmp 1]) S trivial (by decide) rfl rfl Tryz.call98 ((spec_l11Reach_ok (rdPtr_box H 0 rfl ⟨[(.int .i64 a0.1)], [(.int .i64 a0.2.1), v33, v35], rfl, rfl, ⟨[(.int .i64 a0.2.1)], [v33, v35], rfl, rfl, ⟨[v33], [v35], rfl, ((H.arg h34)).list_rd, ((H.arg h36)).list_rd⟩⟩⟩) e62).mono ?_)
  rintro e w59 ⟨v63, rfl, Hc60⟩
  have H := H.call1 Hc60
  refine ⟨_, rfl, trivial, fun a S => ?_⟩
  refine lq v63 S (q_assign rfl) fun a S => ?_
  refine lx_nil (thenN ?_)
  refine wp_seq (region_plain ?_)
  refine lx_buildSlice0 (r := (rInt .i64)) S trivial (by decide) rfl H Tryz.underlying34 Tryz.sizeOf2 (fun v66 w67 H => ⟨trivial, fun a S => ?_⟩)
  refine lq v66 S (q_assign rfl) fun a S => ?_
  refine lx_nil (thenN ?_)
  refine wp_seq (wp_seq (region_plain ?_))
  refine lq (.int .i64 (0 : Int)) S (q_assign rfl) fun a S => ?_
  refine lx_nil (thenN ?_)
  obtain ⟨res148, hit149, hk152⟩ := bind_some hm
  obtain ⟨f150, hf151, hit149⟩ := iter_name hit149
  refine block_loop (fun a w => ∃ (xs146 : List Int) (v145 : Value), Slots a 32 [(5, v145)] ∧ Heap w0 [oA (rList (rInt .i64)) v145 xs146] w ∧ res148 = .inl (xs146)) ?_ ?_
  ·rintro a w ⟨xs146, v145, S, H, rfl⟩
   have hm := ctl_inl hk152
   refine thenN ?_
   refine wp_seq (region_plain ?_)
   refine lq v145 S (q_move rfl) fun a S => ?_
   refine lq v145 S (q_assign rfl) fun a S => ?_
   refine lq (.int .i64 (0 : Int)) S (q_assign rfl) fun a S => ?_
   refine lx_nil (thenN ?_)
   refine wp_ret ?_
   obtain rfl := Option.some.inj hm
   exact leave2 S rfl rfl rfl ⟨v145, rfl, H⟩
  ·skip
   have H : Heap w0 [oA (rList (rInt .i64)) v63 x61, oA (rList (rInt .i64)) v66 ([] : List Int), bA b49 [(.int .i64 a0.1), (.int .i64 a0.2.1), v33, v35] 30] w67 := H.front 1 rfl
   have H : Heap w0 [bA b49 [(.int .i64 a0.1), (.int .i64 a0.2.1), v33, v35] 30, oA (rList (rInt .i64)) v63 x61, oA (rList (rInt .i64)) v66 ([] : List Int)] w67 := H.front 2 rfl
   refine loop_ghost (fun n a w => ∃ (xs106 : List Int) (x108 : Int) (v105 : Value), Slots a 32 [(1, (bp b49)), (4, v63), (5, v105), (6, (.int .i64 x108))] ∧ Heap w0 [bA b49 [(.int .i64 a0.1), (.int .i64 a0.2.1), v33, v35] 30, oA (rList (rInt .i64)) v63 x61, oA (rList (rInt .i64)) v105 xs106] w ∧ iter f150 n (xs106, x108) = some res148) _ ⟨([] : List Int), (0 : Int), v66, S.sub ⟨rfl, rfl, rfl, rfl, trivial⟩, H, hit149⟩ ?_
   rintro n a w ⟨xs106, x108, v105, S, H, hit149⟩
   obtain ⟨m153, o154, rfl, hm, hc155⟩ := iter_step hit149
   rw [hf151] at hm
   refine wp_seq (wp_seq (region_plain ?_))
   refine lq (.int .i64 x108) S (q_move rfl) fun a S => ?_
   refine lq v63 S (q_move rfl) fun a S => ?_
   refine lq (.int .i64 (x61.length : Int)) S (q_lenSl rfl (H.isSl 1 rfl) rfl Tryz.underlying34) fun a S => ?_
   refine lq (.bool (decide (x108 < (x61.length : Int)))) S (q_lss rfl rfl) fun a S => ?_
   refine lx_nil (thenN ?_)
   refine cond_b S rfl (fun hc156 => ?_) (fun hc156 => ?_)
   ·have hm := ite_t hc156 hm
    refine wp_skip (thenN ?_)
    obtain ⟨K160, hK161, hm⟩ := join_elim hm
    refine seq_cut (fun a w => ∃ (xs158 : List Int) (v157 : Value), Slots a 32 [(1, (bp b49)), (4, v63), (5, v157), (6, (.int .i64 x108))] ∧ Heap w0 [bA b49 [(.int .i64 a0.1), (.int .i64 a0.2.1), v33, v35] 30, oA (rList (rInt .i64)) v63 x61, oA (rList (rInt .i64)) v157 xs158] w ∧ K160 xs158 = some o154) ?_ ?_
    ·rintro a w ⟨xs158, v157, S, H, hm⟩
     subst hK161
     refine region_plain ?_
     refine lq (.int .i64 x108) S (q_move rfl) fun a S => ?_
     refine lq (.int .i64 (W (x108 + (1 : Int)))) S (q_add rfl rfl) fun a S => ?_
     refine lq (.int .i64 (W (x108 + (1 : Int)))) S (q_assign rfl) fun a S => ?_
     refine lx_nil ?_
     exact ⟨m153, Nat.lt_succ_self _, xs158, (W (x108 + (1 : Int))), v157, S.sub ⟨rfl, rfl, rfl, rfl, trivial⟩, H, it_cont hm hc155⟩
    ·skip
     refine wp_block ?_
     refine wp_seq (region_plain ?_)
     refine lq v63 S (q_move rfl) fun a S => ?_
     refine lq (.int .i64 x108) S (q_move rfl) fun a S => ?_
     obtain ⟨x162, e163, hm⟩ := bind_some hm
     have hlt := lt_of_idx (idx_some e163).2
     refine lq (ePtr v63 (x108.toNat * 1)) S (q_indexAddr rfl (H.isSl 1 rfl) rfl (idx_some e163).1 hlt Tryz.underlying34 Tryz.sizeOf2) fun a S => ?_
     obtain ⟨c164, h165, hat166⟩ := (H.rdAt 1 rfl).elem (idx_some e163).2
     obtain rfl := h165
     refine lx_e (.int .i64 x162) S trivial (by decide) rfl trivial (q_load1 rfl Tryz.isAgg2 (by rintro _ rfl; exact (hat166 0 _ rfl))) (fun a S => ?_)
     obtain ⟨x169, e170, hm⟩ := bind_some hm
     refine lx_call (xs := [.tmp 1, .tmp 20]) S trivial (by decide) rfl rfl Tryz.call81 ((spec_l11Out_ok (rdPtr_box H 0 rfl ⟨[(.int .i64 a0.1)], [(.int .i64 a0.2.1), v33, v35], rfl, rfl, ⟨[(.int .i64 a0.2.1)], [v33, v35], rfl, rfl, ⟨[v33], [v35], rfl, ((H.arg h34)).list_rd, ((H.arg h36)).list_rd⟩⟩⟩)  e170).mono ?_)
     rintro e w167 ⟨v171, rfl, Hc168⟩
     have H := H.call1 Hc168
     refine ⟨_, rfl, trivial, fun a S => ?_⟩
     refine lq (.int .i64 (x169.length : Int)) S (q_lenSl rfl (H.isSl 0 rfl) rfl Tryz.underlying28) fun a S => ?_
     refine lq (.bool ((x169.length : Int) == (0 : Int))) S (q_eql rfl rfl) fun a S => ?_
     refine lx_nil (thenN ?_)
     refine cond_b S rfl (fun hc174 => ?_) (fun hc174 => ?_)
     ·have hm := ite_t hc174 hm
      refine region_plain ?_
      refine lq v105 S (q_move rfl) fun a S => ?_
      refine lq v63 S (q_move rfl) fun a S => ?_
      refine lq (.int .i64 x108) S (q_move rfl) fun a S => ?_
      obtain ⟨x175, e176, hm⟩ := bind_some hm
      have hlt := lt_of_idx (idx_some e176).2
      refine lq (ePtr v63 (x108.toNat * 1)) S (q_indexAddr rfl (H.isSl 2 rfl) rfl (idx_some e176).1 hlt Tryz.underlying34 Tryz.sizeOf2) fun a S => ?_
      obtain ⟨c177, h178, hat179⟩ := (H.rdAt 2 rfl).elem (idx_some e176).2
      obtain rfl := h178
      refine lx_e (.int .i64 x175) S trivial (by decide) rfl trivial (q_load1 rfl Tryz.isAgg2 (by rintro _ rfl; exact (hat179 0 _ rfl))) (fun a S => ?_)
      refine lx_buildSlice (r := (rInt .i64)) (xs := [x175]) (ps := [(0, [(.int .i64 x175)])]) (cs := [(.int .i64 x175)]) (parts := [(0, .tmp 28)]) S trivial (by decide) rfl (H.put0 (A := eA) rfl) rfl Tryz.underlying34 Tryz.sizeOf2 Tryz.zeroValue2 (by decide) ⟨rfl, rfl, Nat.le_of_ble_eq_true rfl, trivial⟩ (by intro zs hz; exact fill_dense hz ⟨rfl, trivial⟩ rfl rfl) rfl (by decide) (fun w F hA => by cases (show F = [] from hA); exact ⟨_, _, [(.int .i64 x175)], _, rfl, rfl, ⟨rfl, rfl⟩, ⟨rfl, rfl⟩⟩) (fun v180 w181 H => ⟨trivial, fun a S => ?_⟩)
      obtain ⟨x183, e184, hm⟩ := bind_some hm
      obtain ⟨hle, hap⟩ := app_some e184
      replace hap := hap.symm
      subst hap
      have H : Heap w0 [oA (rList (rInt .i64)) v180 [x175], oA (rList Rimpl_Edge) v171 x169, bA b49 [(.int .i64 a0.1), (.int .i64 a0.2.1), v33, v35] 30, oA (rList (rInt .i64)) v63 x61, oA (rList (rInt .i64)) v105 xs106] w181 := H.front 0 rfl
      have H : Heap w0 [oA (rList (rInt .i64)) v105 xs106, oA (rList (rInt .i64)) v180 [x175], oA (rList Rimpl_Edge) v171 x169, bA b49 [(.int .i64 a0.1), (.int .i64 a0.2.1), v33, v35] 30, oA (rList (rInt .i64)) v63 x61] w181 := H.front 4 rfl
      refine lx_appendOwn (r := (rInt .i64)) S trivial (by decide) rfl H rfl rfl Tryz.underlying34 Tryz.ti2 rfl rfl rfl (by decide) (by decide) hle (fun v185 w186 H => ⟨trivial, fun a S => ?_⟩)
      refine lq v185 S (q_assign rfl) fun a S => ?_
      refine lx_nil ?_
      refine inBlock_norm ?_
      have H : Heap w0 [oA (rList (rInt .i64)) v63 x61, oA (rList (rInt .i64)) v185 (xs106 ++ [x175]), oA (rList Rimpl_Edge) v171 x169, bA b49 [(.int .i64 a0.1), (.int .i64 a0.2.1), v33, v35] 30] w186 := H.front 3 rfl
      have H : Heap w0 [bA b49 [(.int .i64 a0.1), (.int .i64 a0.2.1), v33, v35] 30, oA (rList (rInt .i64)) v63 x61, oA (rList (rInt .i64)) v185 (xs106 ++ [x175]), oA (rList Rimpl_Edge) v171 x169] w186 := H.front 3 rfl
      have H : Heap w0 [bA b49 [(.int .i64 a0.1), (.int .i64 a0.2.1), v33, v35] 30, oA (rList (rInt .i64)) v63 x61, oA (rList (rInt .i64)) v185 (xs106 ++ [x175])] w186 := H.sel [0, 1, 2] (by decide)
      exact ⟨(xs106 ++ [x175]), v185, S.sub ⟨rfl, rfl, rfl, rfl, trivial⟩, H, hm⟩
     ·have hm := ite_f hc174 hm
      refine wp_skip ?_
      refine inBlock_norm ?_
      have H : Heap w0 [bA b49 [(.int .i64 a0.1), (.int .i64 a0.2.1), v33, v35] 30, oA (rList (rInt .i64)) v63 x61, oA (rList (rInt .i64)) v105 xs106] w167 := H.sel [1, 2, 3] (by decide)
      exact ⟨xs106, v105, S.sub ⟨rfl, rfl, rfl, rfl, trivial⟩, H, hm⟩
   ·have hm := ite_f hc156 hm
    refine wp_exit ?_
    refine then_exit ?_
    refine then_exit ?_
    refine inBlock_exit ?_
    obtain rfl := it_brk hm hc155
    have H : Heap w0 [oA (rList (rInt .i64)) v105 xs106] w := H.sel [2] (by decide)
    exact ⟨xs106, v105, S.sub ⟨rfl, trivial⟩, H, rfl⟩

/-- impl.DeadlocksOf$1 -/
def impl_DeadlocksOf_1_m (fuel : Nat) (a0 : Int) (a1 : Timpl_Lts) : Option (Bool) :=
  (impl_Lts_out_m fuel (a1.1, a1.2.1, a1.2.2.1, a1.2.2.2) a0).bind fun x52 => some ((decide ((0 : Int) < (x52.length : Int))))
set_option maxRecDepth 20000 in
theorem impl_DeadlocksOf_1_ok {w0 : World} {fuel : Nat} {p1 : Value} {a0 : Int} {a1 : Timpl_Lts} {r : Bool} (h1 : Rd (rPtr Rimpl_Lts) w0 p1 a1) (hm : impl_DeadlocksOf_1_m fuel a0 a1 = some r) :
  Calls Tryz.prog 101 #[.int .i64 a0, p1] w0 fun e w => e = .returned (.bool r) ∧ Heap w0 [] w := by
 unfold impl_DeadlocksOf_1_m at hm
 have H := Heap.start w0
 obtain ⟨c31, h32, hat33⟩ := h1.ptr
 obtain ⟨c38, c39, rfl, h40, h41⟩ := h32
 obtain rfl := h40
 obtain ⟨c42, c43, rfl, h44, h45⟩ := h41
 obtain rfl := h44
 obtain ⟨c46, c47, rfl, h48, h49⟩ := h45
 obtain ⟨v34, rfl, h35⟩ := rd_list h48
 obtain ⟨v36, rfl, h37⟩ := rd_list h49
 refine enter (args := [.int .i64 a0, p1]) Tryz.func101 rfl 9 rfl (Nat.le_of_ble_eq_true rfl) (fun a S => ?_)
 refine wp_seq (region_plain ?_)
 refine lq (.bool false) S (q_assign rfl) fun a S => ?_
 refine lx_nil (thenN ?_)
 refine wp_seq (region_plain ?_)
 refine lx_e (.agg #[(.int .i64 a1.1), (.int .i64 a1.2.1), v34, v36]) S trivial (by decide) rfl trivial (q_loadA (cs := [(.int .i64 a1.1), (.int .i64 a1.2.1), v34, v36]) rfl ((hat33 0 _ rfl).isP) Tryz.isAgg30 Tryz.sizeOf30 (by rintro _ rfl; exact (fun j u hu => (hat33 j u hu).ext H.ext))) (fun a S => ?_)
 refine lq (.int .i64 a0) S (q_move rfl) fun a S => ?_
 obtain ⟨x52, e53, hm⟩ := bind_some hm
 refine lx_call (xs := [.tmp 4, .tmp 5]) S trivial (by decide) rfl rfl Tryz.call83 ((impl_Lts_out_ok ⟨[(.int .i64 a1.1), (.int .i64 a1.2.1), v34, v36], rfl, ⟨[(.int .i64 a1.1)], [(.int .i64 a1.2.1), v34, v36], rfl, rfl, ⟨[(.int .i64 a1.2.1)], [v34, v36], rfl, rfl, ⟨[v34], [v36], rfl, ((H.arg h35)).list_rd, ((H.arg h37)).list_rd⟩⟩⟩⟩  e53).mono ?_)
 rintro e w50 ⟨v54, rfl, Hc51⟩
 have H := H.call1 Hc51
 refine ⟨_, rfl, trivial, fun a S => ?_⟩
 refine lq (.int .i64 (x52.length : Int)) S (q_lenSl rfl (H.isSl 0 rfl) rfl Tryz.underlying28) fun a S => ?_
 refine lq (.bool (decide ((0 : Int) < (x52.length : Int)))) S (q_gtr rfl rfl) fun a S => ?_
 refine lq (.bool (decide ((0 : Int) < (x52.length : Int)))) S (q_assign rfl) fun a S => ?_
 refine lx_nil (thenN ?_)
 refine wp_ret ?_
 obtain rfl := Option.some.inj hm
 have H : Heap w0 [] w50 := H.sel [] (by decide)
 exact leave1 S rfl rfl ⟨rfl, H⟩

/-- impl.DeadlocksOf -/
def impl_DeadlocksOf_m (fuel : Nat) (a0 : Timpl_Lts) : Option (((List Int) × Int)) :=
  (impl_ValidLts_m fuel (a0.1, a0.2.1, a0.2.2.1, a0.2.2.2)).bind fun x54 => (if (!x54) = true then some (([], (1 : Int))) else (impl_Lts_reachable_m fuel (a0.1, a0.2.1, a0.2.2.1, a0.2.2.2)).bind fun x61 => (slices_DeleteFunc__int64_int64_m fuel x61 (fun (z0 : Int) => impl_DeadlocksOf_1_m fuel z0 (a0.1, a0.2.1, a0.2.2.1, a0.2.2.2))).bind fun x68 => some ((x68, (0 : Int))))
set_option maxRecDepth 20000 in
theorem impl_DeadlocksOf_ok {w0 : World} {fuel : Nat} {p0 : Value} {a0 : Timpl_Lts} {r : ((List Int) × Int)} (hG : Glob Tryz.prog w0) (h0 : Rd Rimpl_Lts w0 p0 a0) (hm : impl_DeadlocksOf_m fuel a0 = some r) :
  Calls Tryz.prog 52 #[p0] w0 fun e w => ∃ (v0 : Value), e = .returned (.tuple #[v0, .int .i64 r.2]) ∧ Heap w0 [oA (rList (rInt .i64)) v0 r.1] w := by
 unfold impl_DeadlocksOf_m at hm
 have H := Heap.start w0
 obtain ⟨c31, rfl, h32⟩ := h0
 obtain ⟨c37, c38, rfl, h39, h40⟩ := h32
 obtain rfl := h39
 obtain ⟨c41, c42, rfl, h43, h44⟩ := h40
 obtain rfl := h43
 obtain ⟨c45, c46, rfl, h47, h48⟩ := h44
 obtain ⟨v33, rfl, h34⟩ := rd_list h47
 obtain ⟨v35, rfl, h36⟩ := rd_list h48
 refine enter (args := [(.agg #[(.int .i64 a0.1), (.int .i64 a0.2.1), v33, v35])]) Tryz.func52 rfl 11 rfl (Nat.le_of_ble_eq_true rfl) (fun a S => ?_)
 refine wp_seq (region_plain ?_)
 refine lx_box S trivial (by decide) rfl H rfl rfl (fun b49 w50 H => ⟨trivial, fun a S => ?_⟩)
 refine lq (.slice none 0 0) S (q_assign rfl) fun a S => ?_
 refine lq (.int .i64 (0 : Int)) S (q_assign rfl) fun a S => ?_
 refine lx_nil (thenN ?_)
 refine wp_seq (wp_seq (region_plain ?_))
 refine lx_e (.agg #[(.int .i64 a0.1), (.int .i64 a0.2.1), v33, v35]) S trivial (by decide) rfl trivial (q_loadA (cs := [(.int .i64 a0.1), (.int .i64 a0.2.1), v33, v35]) rfl (isP_bp _) Tryz.isAgg30 Tryz.sizeOf30 (by rintro _ rfl; exact (fun j u hu => boxAt (i := 0) H rfl hu))) (fun a S => ?_)
 obtain ⟨x54, e55, hm⟩ := bind_some hm
 refine lx_call (xs := [.tmp 4]) S trivial (by decide) rfl rfl Tryz.call22 ((impl_ValidLts_ok (hG.ext H.ext) ⟨[(.int .i64 a0.1), (.int .i64 a0.2.1), v33, v35], rfl, ⟨[(.int .i64 a0.1)], [(.int .i64 a0.2.1), v33, v35], rfl, rfl, ⟨[(.int .i64 a0.2.1)], [v33, v35], rfl, rfl, ⟨[v33], [v35], rfl, ((H.arg h34)).list_rd, ((H.arg h36)).list_rd⟩⟩⟩⟩ e55).mono ?_)
 rintro e w52 ⟨rfl, Hc53⟩
 have H := H.call0 Hc53
 refine ⟨_, rfl, trivial, fun a S => ?_⟩
 refine lq (.bool (!x54)) S (q_not rfl) fun a S => ?_
 refine lx_nil (thenN ?_)
 refine cond_b S rfl (fun hc57 => ?_) (fun hc57 => ?_)
 ·have hm := ite_t hc57 hm
  refine wp_seq (region_plain ?_)
  refine lq (.slice none 0 0) S (q_assign rfl) fun a S => ?_
  refine lq (.int .i64 (1 : Int)) S (q_assign rfl) fun a S => ?_
  refine lx_nil (thenN ?_)
  refine wp_ret (then_ret ?_)
  obtain rfl := Option.some.inj hm
  have H : Heap w0 [oA (rList (rInt .i64)) (.slice none 0 0) ([] : List Int), bA b49 [(.int .i64 a0.1), (.int .i64 a0.2.1), v33, v35] 30] w52 := H.nilList (rInt .i64)
  have H : Heap w0 [oA (rList (rInt .i64)) (.slice none 0 0) ([] : List Int)] w52 := H.sel [0] (by decide)
  exact leave2 S rfl rfl rfl ⟨(.slice none 0 0), rfl, H⟩
 ·have hm := ite_f hc57 hm
  refine wp_skip (thenN ?_)
  refine wp_seq (region_plain ?_)
  refine lx_e (.agg #[(.int .i64 a0.1), (.int .i64 a0.2.1), v33, v35]) S trivial (by decide) rfl trivial (q_loadA (cs := [(.int .i64 a0.1), (.int .i64 a0.2.1), v33, v35]) rfl (isP_bp _) Tryz.isAgg30 Tryz.sizeOf30 (by rintro _ rfl; exact (fun j u hu => boxAt (i := 0) H rfl hu))) (fun a S => ?_)
  obtain ⟨x61, e62, hm⟩ := bind_some hm
  refine lx_call (xs := [.tmp 7]) S trivial (by decide) rfl rfl Tryz.call99 ((impl_Lts_reachable_ok ⟨[(.int .i64 a0.1), (.int .i64 a0.2.1), v33, v35], rfl, ⟨[(.int .i64 a0.1)], [(.int .i64 a0.2.1), v33, v35], rfl, rfl, ⟨[(.int .i64 a0.2.1)], [v33, v35], rfl, rfl, ⟨[v33], [v35], rfl, ((H.arg h34)).list_rd, ((H.arg h36)).list_rd⟩⟩⟩⟩ e62).mono ?_)
  rintro e w59 ⟨v63, rfl, Hc60⟩
  have H := H.call1 Hc60
  refine ⟨_, rfl, trivial, fun a S => ?_⟩
  refine lq (.func (.func 101) #[] #[(bp b49)]) S (q_makeFunc (xs := []) (ys := [.tmp 1]) rfl rfl) fun a S => ?_
  obtain ⟨x68, e69, hm⟩ := bind_some hm
  refine lx_call (xs := [.tmp 8, .tmp 9]) S trivial (by decide) rfl rfl Tryz.call100 ((slices_DeleteFunc__int64_int64_ok (f1 := 101) (fs1 := ([] : List Value)) (cp1 := ([(bp b49)] : List Value)) (a1 := (fun (z0 : Int) => impl_DeadlocksOf_1_m fuel z0 (a0.1, a0.2.1, a0.2.2.1, a0.2.2.2))) H Tryz.call101 (fun H  hm => impl_DeadlocksOf_1_ok  (rdPtr_box H 0 rfl ⟨[(.int .i64 a0.1)], [(.int .i64 a0.2.1), v33, v35], rfl, rfl, ⟨[(.int .i64 a0.2.1)], [v33, v35], rfl, rfl, ⟨[v33], [v35], rfl, ((H.arg h34)).list_rd, ((H.arg h36)).list_rd⟩⟩⟩) hm) e69).mono ?_)
  rintro e w66 ⟨v70, rfl, H⟩
  refine ⟨_, rfl, trivial, fun a S => ?_⟩
  refine lq v70 S (q_assign rfl) fun a S => ?_
  refine lq (.int .i64 (0 : Int)) S (q_assign rfl) fun a S => ?_
  refine lx_nil (thenN ?_)
  refine wp_ret ?_
  obtain rfl := Option.some.inj hm
  have H : Heap w0 [oA (rList (rInt .i64)) v70 x68] w66 := H.sel [0] (by decide)
  exact leave2 S rfl rfl rfl ⟨v70, rfl, H⟩

/-- laws.FnExactDeadlocksOf -/
def laws_FnExactDeadlocksOf_m (fuel : Nat) (a0 : Tlaws_Lts) : Option (Bool) :=
  (laws_szLts_m fuel (a0.1, a0.2.1, a0.2.2.1, a0.2.2.2) (1048576 : Int)).bind fun x54 => (if (decide (x54 < (0 : Int))) = true then some (true) else (laws_toLts_m fuel (a0.1, a0.2.1, a0.2.2.1, a0.2.2.2)).bind fun x60 => (spec_DeadlocksOf_m fuel (x60.1, x60.2.1, x60.2.2.1, x60.2.2.2)).bind fun x69 => (laws_toLts_m fuel (a0.1, a0.2.1, a0.2.2.1, a0.2.2.2)).bind fun x76 => (impl_DeadlocksOf_m fuel (x76.1, x76.2.1, x76.2.2.1, x76.2.2.2)).bind fun x89 => (laws_eqInt64S_m fuel x89.1 x69.1).bind fun x96 => (if (!x96) = true then some true else some (x89.2 != x69.2)).bind fun t99 => (if t99 = true then some (false) else (laws_toLts_m fuel (a0.1, a0.2.1, a0.2.2.1, a0.2.2.2)).bind fun x107 => (laws_eqLts_m fuel (x76.1, x76.2.1, x76.2.2.1, x76.2.2.2) (x107.1, x107.2.1, x107.2.2.1, x107.2.2.2)).bind fun x116 => (if (!x116) = true then some (false) else (laws_markLts_m fuel (x76.1, x76.2.1, x76.2.2.1, x76.2.2.2) (1 : Int)).bind fun x122 => (if (decide (x122.1 < (0 : Int))) = true then some true else (laws_eqInt64S_m fuel x89.1 x69.1).bind fun x129 => some (!x129)).bind fun t124 => (if t124 = true then some true else some (x89.2 != x69.2)).bind fun t132 => (if t132 = true then some (false) else (laws_markInt64S_m fuel x89.1 (1 : Int)).bind fun x138 => (laws_heldInt64S_m fuel x138.2 (1 : Int)).bind fun x142 => (if (decide (x142 < (0 : Int))) = true then some (false) else (if (x142 != x138.1) = true then some (false) else (laws_toLts_m fuel (a0.1, a0.2.1, a0.2.2.1, a0.2.2.2)).bind fun x149 => (impl_DeadlocksOf_m fuel (x149.1, x149.2.1, x149.2.2.1, x149.2.2.2)).bind fun x158 => (laws_eqInt64S_m fuel x158.1 x69.1).bind fun x165 => (if (!x165) = true then some true else some (x158.2 != x69.2)).bind fun t168 => (if t168 = true then some (false) else (laws_heldInt64S_m fuel x138.2 (1 : Int)).bind fun x174 => (if (decide (x174 < (0 : Int))) = true then some (false) else (if (x174 != x138.1) = true then some (false) else some (true))))))))))
set_option maxRecDepth 20000 in
theorem laws_FnExactDeadlocksOf_ok {w0 : World} {fuel : Nat} {p0 : Value} {a0 : Tlaws_Lts} {r : Bool} (hG : Glob Tryz.prog w0) (h0 : Rd Rlaws_Lts w0 p0 a0) (hm : laws_FnExactDeadlocksOf_m fuel a0 = some r) :
  Calls Tryz.prog 12 #[p0] w0 fun e w => e = .returned (.bool r) ∧ Heap w0 [] w := by
 unfold laws_FnExactDeadlocksOf_m at hm
 have H := Heap.start w0
 obtain ⟨c31, rfl, h32⟩ := h0
 obtain ⟨c37, c38, rfl, h39, h40⟩ := h32
 obtain rfl := h39
 obtain ⟨c41, c42, rfl, h43, h44⟩ := h40
 obtain rfl := h43
 obtain ⟨c45, c46, rfl, h47, h48⟩ := h44
 obtain ⟨v33, rfl, h34⟩ := rd_list h47
 obtain ⟨v35, rfl, h36⟩ := rd_list h48
 refine enter (args := [(.agg #[(.int .i64 a0.1), (.int .i64 a0.2.1), v33, v35])]) Tryz.func12 rfl 96 rfl (Nat.le_of_ble_eq_true rfl) (fun a S => ?_)
 refine wp_seq (region_plain ?_)
 refine lx_box S trivial (by decide) rfl H rfl rfl (fun b49 w50 H => ⟨trivial, fun a S => ?_⟩)
 refine lq (.bool false) S (q_assign rfl) fun a S => ?_
 refine lx_nil (thenN ?_)
 refine wp_seq (region_plain ?_)
 refine lq (.int .i64 (1048576 : Int)) S (q_assign rfl) fun a S => ?_
 refine lx_nil (thenN ?_)
 refine wp_seq (region_plain ?_)
 refine lx_e (.agg #[(.int .i64 a0.1), (.int .i64 a0.2.1), v33, v35]) S trivial (by decide) rfl trivial (q_loadA (cs := [(.int .i64 a0.1), (.int .i64 a0.2.1), v33, v35]) rfl (isP_bp _) Tryz.isAgg25 Tryz.sizeOf25 (by rintro _ rfl; exact (fun j u hu => boxAt (i := 0) H rfl hu))) (fun a S => ?_)
 refine lq (.int .i64 (1048576 : Int)) S (q_move rfl) fun a S => ?_
 obtain ⟨x54, e55, hm⟩ := bind_some hm
 refine lx_call (xs := [.tmp 14, .tmp 15]) S trivial (by decide) rfl rfl Tryz.call19 ((laws_szLts_ok ⟨[(.int .i64 a0.1), (.int .i64 a0.2.1), v33, v35], rfl, ⟨[(.int .i64 a0.1)], [(.int .i64 a0.2.1), v33, v35], rfl, rfl, ⟨[(.int .i64 a0.2.1)], [v33, v35], rfl, rfl, ⟨[v33], [v35], rfl, ((H.arg h34)).list_rd, ((H.arg h36)).list_rd⟩⟩⟩⟩  e55).mono ?_)
 rintro e w52 ⟨rfl, Hc53⟩
 have H := H.call0 Hc53
 refine ⟨_, rfl, trivial, fun a S => ?_⟩
 refine lq (.int .i64 x54) S (q_assign rfl) fun a S => ?_
 refine lx_nil (thenN ?_)
 refine wp_seq (wp_seq (region_plain ?_))
 refine lq (.int .i64 x54) S (q_move rfl) fun a S => ?_
 refine lq (.bool (decide (x54 < (0 : Int)))) S (q_lss rfl rfl) fun a S => ?_
 refine lx_nil (thenN ?_)
 refine cond_b S rfl (fun hc57 => ?_) (fun hc57 => ?_)
 ·have hm := ite_t hc57 hm
  refine wp_seq (region_plain ?_)
  refine lq (.bool true) S (q_assign rfl) fun a S => ?_
  refine lx_nil (thenN ?_)
  refine wp_ret (then_ret ?_)
  obtain rfl := Option.some.inj hm
  have H : Heap w0 [] w52 := H.sel [] (by decide)
  exact leave1 S rfl rfl ⟨rfl, H⟩
 ·have hm := ite_f hc57 hm
  refine wp_skip (thenN ?_)
  refine wp_seq (region_plain ?_)
  refine lx_e (.agg #[(.int .i64 a0.1), (.int .i64 a0.2.1), v33, v35]) S trivial (by decide) rfl trivial (q_loadA (cs := [(.int .i64 a0.1), (.int .i64 a0.2.1), v33, v35]) rfl (isP_bp _) Tryz.isAgg25 Tryz.sizeOf25 (by rintro _ rfl; exact (fun j u hu => boxAt (i := 0) H rfl hu))) (fun a S => ?_)
  obtain ⟨x60, e61, hm⟩ := bind_some hm
  refine lx_call (xs := [.tmp 20]) S trivial (by decide) rfl rfl Tryz.call21 ((laws_toLts_ok ⟨[(.int .i64 a0.1), (.int .i64 a0.2.1), v33, v35], rfl, ⟨[(.int .i64 a0.1)], [(.int .i64 a0.2.1), v33, v35], rfl, rfl, ⟨[(.int .i64 a0.2.1)], [v33, v35], rfl, rfl, ⟨[v33], [v35], rfl, ((H.arg h34)).list_rd, ((H.arg h36)).list_rd⟩⟩⟩⟩ e61).mono ?_)
  rintro e w58 ⟨v62, v63, rfl, Hc59⟩
  have H := H.call2 Hc59
  refine ⟨_, rfl, trivial, fun a S => ?_⟩
  obtain ⟨x69, e70, hm⟩ := bind_some hm
  refine lx_call (xs := [.tmp 21]) S trivial (by decide) rfl rfl Tryz.call51 ((spec_DeadlocksOf_ok ⟨[(.int .i64 x60.1), (.int .i64 x60.2.1), v62, v63], rfl, ⟨[(.int .i64 x60.1)], [(.int .i64 x60.2.1), v62, v63], rfl, rfl, ⟨[(.int .i64 x60.2.1)], [v62, v63], rfl, rfl, ⟨[v62], [v63], rfl, ((H.rdAt 0 rfl)).list_rd, ((H.rdAt 1 rfl)).list_rd⟩⟩⟩⟩ e70).mono ?_)
  rintro e w67 ⟨v71, rfl, Hc68⟩
  have H := H.call1 Hc68
  refine ⟨_, rfl, trivial, fun a S => ?_⟩
  refine lq (.tuple #[v71, (.int .i64 x69.2)]) S (q_move rfl) fun a S => ?_
  refine lq v71 S (q_extract rfl rfl) fun a S => ?_
  refine lq (.int .i64 x69.2) S (q_extract rfl rfl) fun a S => ?_
  refine lq v71 S (q_assign rfl) fun a S => ?_
  refine lq (.int .i64 x69.2) S (q_assign rfl) fun a S => ?_
  refine lx_nil (thenN ?_)
  refine wp_seq (region_plain ?_)
  refine lx_e (.agg #[(.int .i64 a0.1), (.int .i64 a0.2.1), v33, v35]) S trivial (by decide) rfl trivial (q_loadA (cs := [(.int .i64 a0.1), (.int .i64 a0.2.1), v33, v35]) rfl (isP_bp _) Tryz.isAgg25 Tryz.sizeOf25 (by rintro _ rfl; exact (fun j u hu => boxAt (i := 3) H rfl hu))) (fun a S => ?_)
  obtain ⟨x76, e77, hm⟩ := bind_some hm
  refine lx_call (xs := [.tmp 25]) S trivial (by decide) rfl rfl Tryz.call21 ((laws_toLts_ok ⟨[(.int .i64 a0.1), (.int .i64 a0.2.1), v33, v35], rfl, ⟨[(.int .i64 a0.1)], [(.int .i64 a0.2.1), v33, v35], rfl, rfl, ⟨[(.int .i64 a0.2.1)], [v33, v35], rfl, rfl, ⟨[v33], [v35], rfl, ((H.arg h34)).list_rd, ((H.arg h36)).list_rd⟩⟩⟩⟩ e77).mono ?_)
  rintro e w74 ⟨v78, v79, rfl, Hc75⟩
  have H := H.call2 Hc75
  refine ⟨_, rfl, trivial, fun a S => ?_⟩
  refine lx_alloc S trivial (by decide) rfl H Tryz.zeroValue30 rfl (fun b83 w84 H => ⟨trivial, fun a S => ?_⟩)
  refine lx_storeBox (o := 0) (i := 0) (us := [(.int .i64 x76.1), (.int .i64 x76.2.1), v78, v79]) (cs' := [(.int .i64 x76.1), (.int .i64 x76.2.1), v78, v79]) S trivial rfl H rfl rfl rfl rfl Tryz.sizeOf30 (Nat.le_of_ble_eq_true rfl) (List.forall_mem_cons.2 ⟨rfl, (List.forall_mem_cons.2 ⟨rfl, (List.forall_mem_cons.2 ⟨one_sl (H.isSl 1 rfl), (List.forall_mem_cons.2 ⟨one_sl (H.isSl 2 rfl), (fun _ h => nomatch h)⟩)⟩)⟩)⟩) rfl (fun w86 H => ⟨trivial, fun a S => ?_⟩)
  change Heap w0 [bA b83 [(.int .i64 x76.1), (.int .i64 x76.2.1), v78, v79] 30, oA (rList rStr) v78 x76.2.2.1, oA (rList Rimpl_Edge) v79 x76.2.2.2, oA (rList (rInt .i64)) v71 x69.1, oA (rList rStr) v62 x60.2.2.1, oA (rList Rimpl_Edge) v63 x60.2.2.2, bA b49 [(.int .i64 a0.1), (.int .i64 a0.2.1), v33, v35] 25] w86 at H
  refine lx_nil (thenN ?_)
  refine wp_seq (region_plain ?_)
  refine lx_e (.agg #[(.int .i64 x76.1), (.int .i64 x76.2.1), v78, v79]) S trivial (by decide) rfl trivial (q_loadA (cs := [(.int .i64 x76.1), (.int .i64 x76.2.1), v78, v79]) rfl (isP_bp _) Tryz.isAgg30 Tryz.sizeOf30 (by rintro _ rfl; exact (fun j u hu => boxAt (i := 0) H rfl hu))) (fun a S => ?_)
  obtain ⟨x89, e90, hm⟩ := bind_some hm
  refine lx_call (xs := [.tmp 28]) S trivial (by decide) rfl rfl Tryz.call52 ((impl_DeadlocksOf_ok (hG.ext H.ext) ⟨[(.int .i64 x76.1), (.int .i64 x76.2.1), v78, v79], rfl, ⟨[(.int .i64 x76.1)], [(.int .i64 x76.2.1), v78, v79], rfl, rfl, ⟨[(.int .i64 x76.2.1)], [v78, v79], rfl, rfl, ⟨[v78], [v79], rfl, ((H.rdAt 1 rfl)).list_rd, ((H.rdAt 2 rfl)).list_rd⟩⟩⟩⟩ e90).mono ?_)
  rintro e w87 ⟨v91, rfl, Hc88⟩
  have H := H.call1 Hc88
  refine ⟨_, rfl, trivial, fun a S => ?_⟩
  refine lq (.tuple #[v91, (.int .i64 x89.2)]) S (q_move rfl) fun a S => ?_
  refine lq v91 S (q_extract rfl rfl) fun a S => ?_
  refine lq (.int .i64 x89.2) S (q_extract rfl rfl) fun a S => ?_
  refine lq v91 S (q_assign rfl) fun a S => ?_
  refine lq (.int .i64 x89.2) S (q_assign rfl) fun a S => ?_
  refine lx_nil (thenN ?_)
  refine wp_seq (wp_seq (region_plain ?_))
  refine lq v91 S (q_move rfl) fun a S => ?_
  refine lq v71 S (q_move rfl) fun a S => ?_
  obtain ⟨x96, e97, hm⟩ := bind_some hm
  refine lx_call (xs := [.tmp 32, .tmp 33]) S trivial (by decide) rfl rfl Tryz.call29 ((laws_eqInt64S_ok (H.rdAt 0 rfl) (H.rdAt 4 rfl) e97).mono ?_)
  rintro e w94 ⟨rfl, Hc95⟩
  have H := H.call0 Hc95
  refine ⟨_, rfl, trivial, fun a S => ?_⟩
  refine lq (.bool (!x96)) S (q_not rfl) fun a S => ?_
  refine lq (.bool (!x96)) S (q_move rfl) fun a S => ?_
  obtain ⟨t99, e100, hm⟩ := bind_some hm
  refine lx_cut 4 (fun a w => Slots a 96 [(1, (bp b49)), (4, v71), (5, (.int .i64 x69.2)), (6, (bp b83)), (7, v91), (8, (.int .i64 x89.2)), (40, (.bool t99))] ∧ Heap w0 [oA (rList (rInt .i64)) v91 x89.1, bA b83 [(.int .i64 x76.1), (.int .i64 x76.2.1), v78, v79] 30, oA (rList rStr) v78 x76.2.2.1, oA (rList Rimpl_Edge) v79 x76.2.2.2, oA (rList (rInt .i64)) v71 x69.1, bA b49 [(.int .i64 a0.1), (.int .i64 a0.2.1), v33, v35] 25] w) ?_ ?_
  ·by_cases hc101 : (!x96) = true
   ·have hm := ite_t hc101 e100
    refine lx_skip S rfl rfl (isB_ne hc101) (by decide) (fun a S => ?_)
    refine lx_skip S rfl rfl (isB_ne hc101) (by decide) (fun a S => ?_)
    refine lx_skip S rfl rfl (isB_ne hc101) (by decide) (fun a S => ?_)
    refine lq (.bool true) S (q_pickT' rfl hc101 rfl) fun a S => ?_
    refine lx_nil ?_
    obtain rfl := Option.some.inj hm
    have H := H.sel [0, 1, 2, 3, 4, 7] (by decide)
    exact ⟨S.sub ⟨rfl, rfl, rfl, rfl, rfl, rfl, rfl, trivial⟩, H⟩
   ·have hm := ite_f (eq_false_of_ne_true hc101) e100
    have hc101 : (!x96) = false := eq_false_of_ne_true hc101
    refine lx_q (.int .i64 x89.2) S (want_b rfl rfl hc101) (by decide) (q_move rfl) (fun a S => ?_)
    refine lx_q (.int .i64 x69.2) S (want_b rfl rfl hc101) (by decide) (q_move rfl) (fun a S => ?_)
    refine lx_q (.bool (x89.2 != x69.2)) S (want_b rfl rfl hc101) (by decide) (q_neq rfl rfl) (fun a S => ?_)
    refine lq (.bool (x89.2 != x69.2)) S (q_pickF' rfl hc101 rfl) fun a S => ?_
    refine lx_nil ?_
    obtain rfl := Option.some.inj hm
    have H := H.sel [0, 1, 2, 3, 4, 7] (by decide)
    exact ⟨S.sub ⟨rfl, rfl, rfl, rfl, rfl, rfl, rfl, trivial⟩, H⟩
  ·rintro a w ⟨S, H⟩
   refine lx_nil (thenN ?_)
   refine cond_b S rfl (fun hc102 => ?_) (fun hc102 => ?_)
   ·have hm := ite_t hc102 hm
    refine wp_seq (region_plain ?_)
    refine lq (.bool false) S (q_assign rfl) fun a S => ?_
    refine lx_nil (thenN ?_)
    refine wp_ret (then_ret ?_)
    obtain rfl := Option.some.inj hm
    have H : Heap w0 [] w := H.sel [] (by decide)
    exact leave1 S rfl rfl ⟨rfl, H⟩
   ·have hm := ite_f hc102 hm
    refine wp_skip (thenN ?_)
    refine wp_seq ?_
    refine wp_seq ?_
    refine region_drawG (fun w1 => Heap w0 [bA b83 [(.int .i64 x76.1), (.int .i64 x76.2.1), v78, v79] 30, bA b49 [(.int .i64 a0.1), (.int .i64 a0.2.1), v33, v35] 25] w1) (fun i => [2, 3].contains i) mixed (by kernel_rfl) (fun w104 he103 => ?_)
    have H := H.later he103
    refine ⟨H.sel [1, 5] (by decide), ?_⟩
    refine lq (.agg #[(.int .i64 x76.1), (.int .i64 x76.2.1), v78, v79]) S (q_loadA (cs := [(.int .i64 x76.1), (.int .i64 x76.2.1), v78, v79]) rfl (isP_bp _) Tryz.isAgg30 Tryz.sizeOf30 (fun w1 hC => (fun j u hu => boxAt (i := 0) hC rfl hu))) fun a S => ?_
    refine lq (.agg #[(.int .i64 a0.1), (.int .i64 a0.2.1), v33, v35]) S (q_loadA (cs := [(.int .i64 a0.1), (.int .i64 a0.2.1), v33, v35]) rfl (isP_bp _) Tryz.isAgg25 Tryz.sizeOf25 (fun w1 hC => (fun j u hu => boxAt (i := 1) hC rfl hu))) fun a S => ?_
    obtain ⟨x107, e108, hm⟩ := bind_some hm
    refine lx_call (xs := [.tmp 42]) S trivial (by decide) rfl rfl Tryz.call21 ((laws_toLts_ok ⟨[(.int .i64 a0.1), (.int .i64 a0.2.1), v33, v35], rfl, ⟨[(.int .i64 a0.1)], [(.int .i64 a0.2.1), v33, v35], rfl, rfl, ⟨[(.int .i64 a0.2.1)], [v33, v35], rfl, rfl, ⟨[v33], [v35], rfl, ((H.arg h34)).list_rd, ((H.arg h36)).list_rd⟩⟩⟩⟩ e108).mono ?_)
    rintro e w105 ⟨v109, v110, rfl, Hc106⟩
    have H := H.call2 Hc106
    refine ⟨_, rfl, H.sel [3, 7] (by decide), fun a S => ?_⟩
    obtain ⟨x116, e117, hm⟩ := bind_some hm
    refine lx_call (xs := [.tmp 41, .tmp 43]) S trivial (by decide) rfl rfl Tryz.call23 ((laws_eqLts_ok ⟨[(.int .i64 x76.1), (.int .i64 x76.2.1), v78, v79], rfl, ⟨[(.int .i64 x76.1)], [(.int .i64 x76.2.1), v78, v79], rfl, rfl, ⟨[(.int .i64 x76.2.1)], [v78, v79], rfl, rfl, ⟨[v78], [v79], rfl, ((H.rdAt 4 rfl)).list_rd, ((H.rdAt 5 rfl)).list_rd⟩⟩⟩⟩ ⟨[(.int .i64 x107.1), (.int .i64 x107.2.1), v109, v110], rfl, ⟨[(.int .i64 x107.1)], [(.int .i64 x107.2.1), v109, v110], rfl, rfl, ⟨[(.int .i64 x107.2.1)], [v109, v110], rfl, rfl, ⟨[v109], [v110], rfl, ((H.rdAt 0 rfl)).list_rd, ((H.rdAt 1 rfl)).list_rd⟩⟩⟩⟩ e117).mono ?_)
    rintro e w114 ⟨rfl, Hc115⟩
    have H := H.call0 Hc115
    refine ⟨_, rfl, H.sel [3, 7] (by decide), fun a S => ?_⟩
    refine lq (.bool (!x116)) S (q_not rfl) fun a S => ?_
    refine lx_nil (thenN ?_)
    refine cond_b S rfl (fun hc119 => ?_) (fun hc119 => ?_)
    ·have hm := ite_t hc119 hm
     refine wp_seq (region_plain ?_)
     refine lq (.bool false) S (q_assign rfl) fun a S => ?_
     refine lx_nil (thenN ?_)
     refine wp_ret (then_ret ?_)
     obtain rfl := Option.some.inj hm
     have H : Heap w0 [] w114 := H.sel [] (by decide)
     exact leave1 S rfl rfl ⟨rfl, H⟩
    ·have hm := ite_f hc119 hm
     refine wp_skip (thenN ?_)
     refine wp_seq (region_plain ?_)
     refine lq (.int .i64 (1 : Int)) S (q_assign rfl) fun a S => ?_
     refine lx_nil (thenN ?_)
     refine wp_seq (region_plain ?_)
     refine lx_e (.agg #[(.int .i64 x76.1), (.int .i64 x76.2.1), v78, v79]) S trivial (by decide) rfl trivial (q_loadA (cs := [(.int .i64 x76.1), (.int .i64 x76.2.1), v78, v79]) rfl (isP_bp _) Tryz.isAgg30 Tryz.sizeOf30 (by rintro _ rfl; exact (fun j u hu => boxAt (i := 3) H rfl hu))) (fun a S => ?_)
     refine lq (.int .i64 (1 : Int)) S (q_move rfl) fun a S => ?_
     obtain ⟨x122, e123, hm⟩ := bind_some hm
     have H : Heap w0 [oA (rList Rimpl_Edge) v79 x76.2.2.2, oA (rList rStr) v109 x107.2.2.1, oA (rList Rimpl_Edge) v110 x107.2.2.2, oA (rList (rInt .i64)) v91 x89.1, bA b83 [(.int .i64 x76.1), (.int .i64 x76.2.1), v78, v79] 30, oA (rList rStr) v78 x76.2.2.1, oA (rList (rInt .i64)) v71 x69.1, bA b49 [(.int .i64 a0.1), (.int .i64 a0.2.1), v33, v35] 25] w114 := H.front 5 rfl
     have H : Heap w0 [oA (rList rStr) v78 x76.2.2.1, oA (rList Rimpl_Edge) v79 x76.2.2.2, oA (rList rStr) v109 x107.2.2.1, oA (rList Rimpl_Edge) v110 x107.2.2.2, oA (rList (rInt .i64)) v91 x89.1, bA b83 [(.int .i64 x76.1), (.int .i64 x76.2.1), v78, v79] 30, oA (rList (rInt .i64)) v71 x69.1, bA b49 [(.int .i64 a0.1), (.int .i64 a0.2.1), v33, v35] 25] w114 := H.front 5 rfl
     refine lx_call (xs := [.tmp 46, .tmp 47]) S trivial (by decide) rfl rfl Tryz.call33 ((laws_markLts_ok H  e123).mono ?_)
     rintro e w120 ⟨rfl, H⟩
     refine ⟨_, rfl, trivial, fun a S => ?_⟩
     refine lq (.int .i64 x122.1) S (q_assign rfl) fun a S => ?_
     refine lx_nil (thenN ?_)
     refine wp_seq (wp_seq (region_plain ?_))
     refine lq (.int .i64 x122.1) S (q_move rfl) fun a S => ?_
     refine lq (.bool (decide (x122.1 < (0 : Int)))) S (q_lss rfl rfl) fun a S => ?_
     refine lq (.bool (decide (x122.1 < (0 : Int)))) S (q_move rfl) fun a S => ?_
     obtain ⟨t124, e125, hm⟩ := bind_some hm
     refine lx_cut 5 (fun a w => Slots a 96 [(1, (bp b49)), (4, v71), (5, (.int .i64 x69.2)), (7, v91), (8, (.int .i64 x89.2)), (56, (.bool t124))] ∧ Heap w0 [oA (rList (rInt .i64)) v91 x89.1, oA (rList (rInt .i64)) v71 x69.1, bA b49 [(.int .i64 a0.1), (.int .i64 a0.2.1), v33, v35] 25] w) ?_ ?_
     ·by_cases hc126 : (decide (x122.1 < (0 : Int))) = true
      ·have hm := ite_t hc126 e125
       refine lx_skip S rfl rfl (isB_ne hc126) (by decide) (fun a S => ?_)
       refine lx_skip S rfl rfl (isB_ne hc126) (by decide) (fun a S => ?_)
       refine lx_skip S rfl rfl (isB_ne hc126) (by decide) (fun a S => ?_)
       refine lx_skip S rfl rfl (isB_ne hc126) (by decide) (fun a S => ?_)
       refine lq (.bool true) S (q_pickT' rfl hc126 rfl) fun a S => ?_
       refine lx_nil ?_
       obtain rfl := Option.some.inj hm
       have H := H.sel [4, 6, 7] (by decide)
       exact ⟨S.sub ⟨rfl, rfl, rfl, rfl, rfl, rfl, trivial⟩, H⟩
      ·have hm := ite_f (eq_false_of_ne_true hc126) e125
       have hc126 : (decide (x122.1 < (0 : Int))) = false := eq_false_of_ne_true hc126
       refine lx_q v91 S (want_b rfl rfl hc126) (by decide) (q_move rfl) (fun a S => ?_)
       refine lx_q v71 S (want_b rfl rfl hc126) (by decide) (q_move rfl) (fun a S => ?_)
       obtain ⟨x129, e130, hm⟩ := bind_some hm
       refine lx_call (xs := [.tmp 52, .tmp 53]) S (want_b rfl rfl hc126) (by decide) rfl rfl Tryz.call29 ((laws_eqInt64S_ok (H.rdAt 4 rfl) (H.rdAt 6 rfl) e130).mono ?_)
       rintro e w127 ⟨rfl, Hc128⟩
       have H := H.call0 Hc128
       refine ⟨_, rfl, trivial, fun a S => ?_⟩
       refine lx_q (.bool (!x129)) S (want_b rfl rfl hc126) (by decide) (q_not rfl) (fun a S => ?_)
       refine lq (.bool (!x129)) S (q_pickF' rfl hc126 rfl) fun a S => ?_
       refine lx_nil ?_
       obtain rfl := Option.some.inj hm
       have H := H.sel [4, 6, 7] (by decide)
       exact ⟨S.sub ⟨rfl, rfl, rfl, rfl, rfl, rfl, trivial⟩, H⟩
     ·rintro a w ⟨S, H⟩
      refine lq (.bool t124) S (q_move rfl) fun a S => ?_
      obtain ⟨t132, e133, hm⟩ := bind_some hm
      refine lx_cut 4 (fun a w => Slots a 96 [(1, (bp b49)), (4, v71), (5, (.int .i64 x69.2)), (7, v91), (61, (.bool t132))] ∧ Heap w0 [oA (rList (rInt .i64)) v91 x89.1, oA (rList (rInt .i64)) v71 x69.1, bA b49 [(.int .i64 a0.1), (.int .i64 a0.2.1), v33, v35] 25] w) ?_ ?_
      ·by_cases hc134 : t124 = true
       ·have hm := ite_t hc134 e133
        refine lx_skip S rfl rfl (isB_ne hc134) (by decide) (fun a S => ?_)
        refine lx_skip S rfl rfl (isB_ne hc134) (by decide) (fun a S => ?_)
        refine lx_skip S rfl rfl (isB_ne hc134) (by decide) (fun a S => ?_)
        refine lq (.bool true) S (q_pickT' rfl hc134 rfl) fun a S => ?_
        refine lx_nil ?_
        obtain rfl := Option.some.inj hm
        exact ⟨S.sub ⟨rfl, rfl, rfl, rfl, rfl, trivial⟩, H⟩
       ·have hm := ite_f (eq_false_of_ne_true hc134) e133
        have hc134 : t124 = false := eq_false_of_ne_true hc134
        refine lx_q (.int .i64 x89.2) S (want_b rfl rfl hc134) (by decide) (q_move rfl) (fun a S => ?_)
        refine lx_q (.int .i64 x69.2) S (want_b rfl rfl hc134) (by decide) (q_move rfl) (fun a S => ?_)
        refine lx_q (.bool (x89.2 != x69.2)) S (want_b rfl rfl hc134) (by decide) (q_neq rfl rfl) (fun a S => ?_)
        refine lq (.bool (x89.2 != x69.2)) S (q_pickF' rfl hc134 rfl) fun a S => ?_
        refine lx_nil ?_
        obtain rfl := Option.some.inj hm
        exact ⟨S.sub ⟨rfl, rfl, rfl, rfl, rfl, trivial⟩, H⟩
      ·rintro a w ⟨S, H⟩
       refine lx_nil (thenN ?_)
       refine cond_b S rfl (fun hc135 => ?_) (fun hc135 => ?_)
       ·have hm := ite_t hc135 hm
        refine wp_seq (region_plain ?_)
        refine lq (.bool false) S (q_assign rfl) fun a S => ?_
        refine lx_nil (thenN ?_)
        refine wp_ret (then_ret ?_)
        obtain rfl := Option.some.inj hm
        have H : Heap w0 [] w := H.sel [] (by decide)
        exact leave1 S rfl rfl ⟨rfl, H⟩
       ·have hm := ite_f hc135 hm
        refine wp_skip (thenN ?_)
        refine wp_seq (region_plain ?_)
        refine lq (.int .i64 (1 : Int)) S (q_assign rfl) fun a S => ?_
        refine lx_nil (thenN ?_)
        refine wp_seq (region_plain ?_)
        refine lq v91 S (q_move rfl) fun a S => ?_
        refine lq (.int .i64 (1 : Int)) S (q_move rfl) fun a S => ?_
        obtain ⟨x138, e139, hm⟩ := bind_some hm
        refine lx_call (xs := [.tmp 62, .tmp 63]) S trivial (by decide) rfl rfl Tryz.call39 ((laws_markInt64S_ok H  e139).mono ?_)
        rintro e w136 ⟨rfl, H⟩
        refine ⟨_, rfl, trivial, fun a S => ?_⟩
        refine lq (.int .i64 x138.1) S (q_assign rfl) fun a S => ?_
        refine lx_nil (thenN ?_)
        refine wp_seq (region_plain ?_)
        refine lq (.int .i64 (1 : Int)) S (q_assign rfl) fun a S => ?_
        refine lx_nil (thenN ?_)
        refine wp_seq (region_plain ?_)
        refine lq v91 S (q_move rfl) fun a S => ?_
        refine lq (.int .i64 (1 : Int)) S (q_move rfl) fun a S => ?_
        obtain ⟨x142, e143, hm⟩ := bind_some hm
        refine lx_call (xs := [.tmp 65, .tmp 66]) S trivial (by decide) rfl rfl Tryz.call44 ((laws_heldInt64S_ok (H.rdAt 0 rfl)  e143).mono ?_)
        rintro e w140 ⟨rfl, Hc141⟩
        have H := H.call0 Hc141
        refine ⟨_, rfl, trivial, fun a S => ?_⟩
        refine lq (.int .i64 x142) S (q_assign rfl) fun a S => ?_
        refine lx_nil (thenN ?_)
        refine wp_seq (wp_seq (region_plain ?_))
        refine lq (.int .i64 x142) S (q_move rfl) fun a S => ?_
        refine lq (.bool (decide (x142 < (0 : Int)))) S (q_lss rfl rfl) fun a S => ?_
        refine lx_nil (thenN ?_)
        refine cond_b S rfl (fun hc145 => ?_) (fun hc145 => ?_)
        ·have hm := ite_t hc145 hm
         refine wp_seq (region_plain ?_)
         refine lq (.bool false) S (q_assign rfl) fun a S => ?_
         refine lx_nil (thenN ?_)
         refine wp_ret (then_ret ?_)
         obtain rfl := Option.some.inj hm
         have H : Heap w0 [] w140 := H.sel [] (by decide)
         exact leave1 S rfl rfl ⟨rfl, H⟩
        ·have hm := ite_f hc145 hm
         refine wp_skip (thenN ?_)
         refine wp_seq (wp_seq (region_plain ?_))
         refine lq (.int .i64 x142) S (q_move rfl) fun a S => ?_
         refine lq (.int .i64 x138.1) S (q_move rfl) fun a S => ?_
         refine lq (.bool (x142 != x138.1)) S (q_neq rfl rfl) fun a S => ?_
         refine lx_nil (thenN ?_)
         refine cond_b S rfl (fun hc146 => ?_) (fun hc146 => ?_)
         ·have hm := ite_t hc146 hm
          refine wp_seq (region_plain ?_)
          refine lq (.bool false) S (q_assign rfl) fun a S => ?_
          refine lx_nil (thenN ?_)
          refine wp_ret (then_ret ?_)
          obtain rfl := Option.some.inj hm
          have H : Heap w0 [] w140 := H.sel [] (by decide)
          exact leave1 S rfl rfl ⟨rfl, H⟩
         ·have hm := ite_f hc146 hm
          refine wp_skip (thenN ?_)
          refine wp_seq (region_plain ?_)
          refine lx_e (.agg #[(.int .i64 a0.1), (.int .i64 a0.2.1), v33, v35]) S trivial (by decide) rfl trivial (q_loadA (cs := [(.int .i64 a0.1), (.int .i64 a0.2.1), v33, v35]) rfl (isP_bp _) Tryz.isAgg25 Tryz.sizeOf25 (by rintro _ rfl; exact (fun j u hu => boxAt (i := 2) H rfl hu))) (fun a S => ?_)
          obtain ⟨x149, e150, hm⟩ := bind_some hm
          refine lx_call (xs := [.tmp 74]) S trivial (by decide) rfl rfl Tryz.call21 ((laws_toLts_ok ⟨[(.int .i64 a0.1), (.int .i64 a0.2.1), v33, v35], rfl, ⟨[(.int .i64 a0.1)], [(.int .i64 a0.2.1), v33, v35], rfl, rfl, ⟨[(.int .i64 a0.2.1)], [v33, v35], rfl, rfl, ⟨[v33], [v35], rfl, ((H.arg h34)).list_rd, ((H.arg h36)).list_rd⟩⟩⟩⟩ e150).mono ?_)
          rintro e w147 ⟨v151, v152, rfl, Hc148⟩
          have H := H.call2 Hc148
          refine ⟨_, rfl, trivial, fun a S => ?_⟩
          obtain ⟨x158, e159, hm⟩ := bind_some hm
          refine lx_call (xs := [.tmp 75]) S trivial (by decide) rfl rfl Tryz.call52 ((impl_DeadlocksOf_ok (hG.ext H.ext) ⟨[(.int .i64 x149.1), (.int .i64 x149.2.1), v151, v152], rfl, ⟨[(.int .i64 x149.1)], [(.int .i64 x149.2.1), v151, v152], rfl, rfl, ⟨[(.int .i64 x149.2.1)], [v151, v152], rfl, rfl, ⟨[v151], [v152], rfl, ((H.rdAt 0 rfl)).list_rd, ((H.rdAt 1 rfl)).list_rd⟩⟩⟩⟩ e159).mono ?_)
          rintro e w156 ⟨v160, rfl, Hc157⟩
          have H := H.call1 Hc157
          refine ⟨_, rfl, trivial, fun a S => ?_⟩
          refine lq (.tuple #[v160, (.int .i64 x158.2)]) S (q_move rfl) fun a S => ?_
          refine lq v160 S (q_extract rfl rfl) fun a S => ?_
          refine lq (.int .i64 x158.2) S (q_extract rfl rfl) fun a S => ?_
          refine lq v160 S (q_assign rfl) fun a S => ?_
          refine lq (.int .i64 x158.2) S (q_assign rfl) fun a S => ?_
          refine lx_nil (thenN ?_)
          refine wp_seq (wp_seq (region_plain ?_))
          refine lq v160 S (q_move rfl) fun a S => ?_
          refine lq v71 S (q_move rfl) fun a S => ?_
          obtain ⟨x165, e166, hm⟩ := bind_some hm
          refine lx_call (xs := [.tmp 79, .tmp 80]) S trivial (by decide) rfl rfl Tryz.call29 ((laws_eqInt64S_ok (H.rdAt 0 rfl) (H.rdAt 4 rfl) e166).mono ?_)
          rintro e w163 ⟨rfl, Hc164⟩
          have H := H.call0 Hc164
          refine ⟨_, rfl, trivial, fun a S => ?_⟩
          refine lq (.bool (!x165)) S (q_not rfl) fun a S => ?_
          refine lq (.bool (!x165)) S (q_move rfl) fun a S => ?_
          obtain ⟨t168, e169, hm⟩ := bind_some hm
          refine lx_cut 4 (fun a w => Slots a 96 [(7, v91), (10, (.int .i64 x138.1)), (87, (.bool t168))] ∧ Heap w0 [oA (rList (rInt .i64)) v91 x138.2] w) ?_ ?_
          ·by_cases hc170 : (!x165) = true
           ·have hm := ite_t hc170 e169
            refine lx_skip S rfl rfl (isB_ne hc170) (by decide) (fun a S => ?_)
            refine lx_skip S rfl rfl (isB_ne hc170) (by decide) (fun a S => ?_)
            refine lx_skip S rfl rfl (isB_ne hc170) (by decide) (fun a S => ?_)
            refine lq (.bool true) S (q_pickT' rfl hc170 rfl) fun a S => ?_
            refine lx_nil ?_
            obtain rfl := Option.some.inj hm
            have H := H.sel [3] (by decide)
            exact ⟨S.sub ⟨rfl, rfl, rfl, trivial⟩, H⟩
           ·have hm := ite_f (eq_false_of_ne_true hc170) e169
            have hc170 : (!x165) = false := eq_false_of_ne_true hc170
            refine lx_q (.int .i64 x158.2) S (want_b rfl rfl hc170) (by decide) (q_move rfl) (fun a S => ?_)
            refine lx_q (.int .i64 x69.2) S (want_b rfl rfl hc170) (by decide) (q_move rfl) (fun a S => ?_)
            refine lx_q (.bool (x158.2 != x69.2)) S (want_b rfl rfl hc170) (by decide) (q_neq rfl rfl) (fun a S => ?_)
            refine lq (.bool (x158.2 != x69.2)) S (q_pickF' rfl hc170 rfl) fun a S => ?_
            refine lx_nil ?_
            obtain rfl := Option.some.inj hm
            have H := H.sel [3] (by decide)
            exact ⟨S.sub ⟨rfl, rfl, rfl, trivial⟩, H⟩
          ·rintro a w ⟨S, H⟩
           refine lx_nil (thenN ?_)
           refine cond_b S rfl (fun hc171 => ?_) (fun hc171 => ?_)
           ·have hm := ite_t hc171 hm
            refine wp_seq (region_plain ?_)
            refine lq (.bool false) S (q_assign rfl) fun a S => ?_
            refine lx_nil (thenN ?_)
            refine wp_ret (then_ret ?_)
            obtain rfl := Option.some.inj hm
            have H : Heap w0 [] w := H.sel [] (by decide)
            exact leave1 S rfl rfl ⟨rfl, H⟩
           ·have hm := ite_f hc171 hm
            refine wp_skip (thenN ?_)
            refine wp_seq (region_plain ?_)
            refine lq (.int .i64 (1 : Int)) S (q_assign rfl) fun a S => ?_
            refine lx_nil (thenN ?_)
            refine wp_seq (region_plain ?_)
            refine lq v91 S (q_move rfl) fun a S => ?_
            refine lq (.int .i64 (1 : Int)) S (q_move rfl) fun a S => ?_
            obtain ⟨x174, e175, hm⟩ := bind_some hm
            refine lx_call (xs := [.tmp 88, .tmp 89]) S trivial (by decide) rfl rfl Tryz.call44 ((laws_heldInt64S_ok (H.rdAt 0 rfl)  e175).mono ?_)
            rintro e w172 ⟨rfl, Hc173⟩
            have H := H.call0 Hc173
            refine ⟨_, rfl, trivial, fun a S => ?_⟩
            refine lq (.int .i64 x174) S (q_assign rfl) fun a S => ?_
            refine lx_nil (thenN ?_)
            refine wp_seq (wp_seq (region_plain ?_))
            refine lq (.int .i64 x174) S (q_move rfl) fun a S => ?_
            refine lq (.bool (decide (x174 < (0 : Int)))) S (q_lss rfl rfl) fun a S => ?_
            refine lx_nil (thenN ?_)
            refine cond_b S rfl (fun hc177 => ?_) (fun hc177 => ?_)
            ·have hm := ite_t hc177 hm
             refine wp_seq (region_plain ?_)
             refine lq (.bool false) S (q_assign rfl) fun a S => ?_
             refine lx_nil (thenN ?_)
             refine wp_ret (then_ret ?_)
             obtain rfl := Option.some.inj hm
             have H : Heap w0 [] w172 := H.sel [] (by decide)
             exact leave1 S rfl rfl ⟨rfl, H⟩
            ·have hm := ite_f hc177 hm
             refine wp_skip (thenN ?_)
             refine wp_seq (wp_seq (region_plain ?_))
             refine lq (.int .i64 x174) S (q_move rfl) fun a S => ?_
             refine lq (.int .i64 x138.1) S (q_move rfl) fun a S => ?_
             refine lq (.bool (x174 != x138.1)) S (q_neq rfl rfl) fun a S => ?_
             refine lx_nil (thenN ?_)
             refine cond_b S rfl (fun hc178 => ?_) (fun hc178 => ?_)
             ·have hm := ite_t hc178 hm
              refine wp_seq (region_plain ?_)
              refine lq (.bool false) S (q_assign rfl) fun a S => ?_
              refine lx_nil (thenN ?_)
              refine wp_ret (then_ret ?_)
              obtain rfl := Option.some.inj hm
              have H : Heap w0 [] w172 := H.sel [] (by decide)
              exact leave1 S rfl rfl ⟨rfl, H⟩
             ·have hm := ite_f hc178 hm
              refine wp_skip (thenN ?_)
              refine wp_seq (region_plain ?_)
              refine lq (.bool true) S (q_assign rfl) fun a S => ?_
              refine lx_nil (thenN ?_)
              refine wp_ret ?_
              obtain rfl := Option.some.inj hm
              have H : Heap w0 [] w172 := H.sel [] (by decide)
              exact leave1 S rfl rfl ⟨rfl, H⟩
end Go.Proofs.YtkgkfbmcnchdbaaGreatDoor
