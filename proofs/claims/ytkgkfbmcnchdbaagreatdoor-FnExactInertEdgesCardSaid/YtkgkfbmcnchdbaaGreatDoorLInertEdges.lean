/- The model of a statement and its walk (printed by a program of this repo). -/
import Derived.Test.YtkgkfbmcnchdbaaGreatDoorF0
import Derived.Test.YtkgkfbmcnchdbaaGreatDoorF1
import Derived.Test.YtkgkfbmcnchdbaaGreatDoorF12
import Derived.Test.YtkgkfbmcnchdbaaGreatDoorF2
import Derived.Test.YtkgkfbmcnchdbaaGreatDoorF3
import Derived.Test.YtkgkfbmcnchdbaaGreatDoorF4
import Derived.Test.YtkgkfbmcnchdbaaGreatDoorF5
import Derived.Test.YtkgkfbmcnchdbaaGreatDoorF7
import Derived.Test.YtkgkfbmcnchdbaaGreatDoorGxJ
import Derived.Test.YtkgkfbmcnchdbaaGreatDoorGxT
import Derived.Test.YtkgkfbmcnchdbaaGreatDoorGxY
namespace Go.Proofs.YtkgkfbmcnchdbaaGreatDoor
open Go.RowKit Go.Gx

/-- spec.l13Is -/
def spec_l13Is_m (fuel : Nat) (a0 : Timpl_Lts) (a1 : (List Int)) : Option (Bool) :=
  (if ((a1.length : Int) != a0.1) = true then some (false) else (iter (fun (s : (Int) × (Int)) => (match s with | (x74, x75) => (if (decide (x75 < (a1.length : Int))) = true then join (κ := Int → Option (((Int) × (Int)) ⊕ ((Unit) ⊕ (Bool)))) (fun (x108 : Int) => some (.inl (x108, (W (x75 + (1 : Int)))))) (fun K109 => (idx a1 x75).bind fun x111 => (spec_l00In_m fuel x111 (0 : Int) x74).bind fun x118 => (if (!x118) = true then some (.inr (.inr false)) else (idx a1 x75).bind fun x122 => (if (x122 == x74) = true then (K109 (W (x74 + (1 : Int)))) else (K109 x74)))) else some (.inr (.inl ()))) : Option (((Int) × (Int)) ⊕ ((Unit) ⊕ (Bool))))) fuel ((0 : Int), (0 : Int))).bind fun res99 => ctl (β := Unit) (ρ := Bool) (τ := Bool) res99 (fun _ => some (true)) (fun q => some (q)))
set_option maxRecDepth 20000 in
theorem spec_l13Is_ok {w0 : World} {fuel : Nat} {p0 p1 : Value} {a0 : Timpl_Lts} {a1 : (List Int)} {r : Bool} (h0 : Rd (rPtr Rimpl_Lts) w0 p0 a0) (h1 : Rd (rList (rInt .i64)) w0 p1 a1) (hm : spec_l13Is_m fuel a0 a1 = some r) :
  Calls Tryz.prog 134 #[p0, p1] w0 fun e w => e = .returned (.bool r) ∧ Heap w0 [] w := by
 unfold spec_l13Is_m at hm
 have H := Heap.start w0
 obtain ⟨c31, h32, hat33⟩ := h0.ptr
 obtain ⟨c38, c39, rfl, h40, h41⟩ := h32
 obtain rfl := h40
 obtain ⟨c42, c43, rfl, h44, h45⟩ := h41
 obtain rfl := h44
 obtain ⟨c46, c47, rfl, h48, h49⟩ := h45
 obtain ⟨v34, rfl, h35⟩ := rd_list h48
 obtain ⟨v36, rfl, h37⟩ := rd_list h49
 refine enter (args := [p0, p1]) Tryz.func134 rfl 35 rfl (Nat.le_of_ble_eq_true rfl) (fun a S => ?_)
 refine wp_seq (region_plain ?_)
 refine lq (.bool false) S (q_assign rfl) fun a S => ?_
 refine lx_nil (thenN ?_)
 refine wp_seq (wp_seq (region_plain ?_))
 refine lq p1 S (q_move rfl) fun a S => ?_
 refine lq (.int .i64 (a1.length : Int)) S (q_lenSl rfl (h1).isSl rfl Tryz.underlying34) fun a S => ?_
 refine lq p0 S (q_move rfl) fun a S => ?_
 refine lq p0 S (q_nilCheck rfl ((hat33 0 _ rfl).isP)) fun a S => ?_
 refine lq (pAdd p0 0) S (q_fieldAddr' 0 2 rfl ((hat33 0 _ rfl).isP) Tryz.underlying30 rfl Tryz.sizeOf2) fun a S => ?_
 refine lx_e (.int .i64 a0.1) S trivial (by decide) rfl trivial (q_load1 rfl Tryz.isAgg2 (by rintro _ rfl; exact (At.of_add (m := 0) (j := 0) ((hat33 0 _ rfl).ext H.ext)))) (fun a S => ?_)
 refine lq (.bool ((a1.length : Int) != a0.1)) S (q_neq rfl rfl) fun a S => ?_
 refine lx_nil (thenN ?_)
 refine cond_b S rfl (fun hc50 => ?_) (fun hc50 => ?_)
 ·have hm := ite_t hc50 hm
  refine wp_seq (region_plain ?_)
  refine lq (.bool false) S (q_assign rfl) fun a S => ?_
  refine lx_nil (thenN ?_)
  refine wp_ret (then_ret ?_)
  obtain rfl := Option.some.inj hm
  exact leave1 S rfl rfl ⟨rfl, H⟩
 ·have hm := ite_f hc50 hm
  refine wp_skip (thenN ?_)
  refine wp_seq (region_plain ?_)
  refine lq (.int .i64 (0 : Int)) S (q_assign rfl) fun a S => ?_
  refine lx_nil (thenN ?_)
  refine wp_seq (wp_seq (region_plain ?_))
  refine lq (.int .i64 (0 : Int)) S (q_assign rfl) fun a S => ?_
  refine lx_nil (thenN ?_)
  obtain ⟨res99, hit100, hk103⟩ := bind_some hm
  obtain ⟨f101, hf102, hit100⟩ := iter_name hit100
  refine block_loop (fun a w => Slots a 35 [] ∧ Heap w0 [] w ∧ res99 = .inl ()) ?_ ?_
  ·rintro a w ⟨S, H, rfl⟩
   have hm := ctl_inl hk103
   refine thenN ?_
   refine wp_seq (region_plain ?_)
   refine lq (.bool true) S (q_assign rfl) fun a S => ?_
   refine lx_nil (thenN ?_)
   refine wp_ret ?_
   obtain rfl := Option.some.inj hm
   exact leave1 S rfl rfl ⟨rfl, H⟩
  ·skip
   refine loop_ghost (fun n a w => ∃ (x74 : Int) (x75 : Int), Slots a 35 [(1, p1), (5, (.int .i64 x74)), (6, (.int .i64 x75))] ∧ Heap w0 [] w ∧ iter f101 n (x74, x75) = some res99) _ ⟨(0 : Int), (0 : Int), S.sub ⟨rfl, rfl, rfl, trivial⟩, H, hit100⟩ ?_
   rintro n a w ⟨x74, x75, S, H, hit100⟩
   obtain ⟨m104, o105, rfl, hm, hc106⟩ := iter_step hit100
   rw [hf102] at hm
   refine wp_seq (wp_seq (region_plain ?_))
   refine lq (.int .i64 x75) S (q_move rfl) fun a S => ?_
   refine lq p1 S (q_move rfl) fun a S => ?_
   refine lq (.int .i64 (a1.length : Int)) S (q_lenSl rfl (h1).isSl rfl Tryz.underlying34) fun a S => ?_
   refine lq (.bool (decide (x75 < (a1.length : Int)))) S (q_lss rfl rfl) fun a S => ?_
   refine lx_nil (thenN ?_)
   refine cond_b S rfl (fun hc107 => ?_) (fun hc107 => ?_)
   ·have hm := ite_t hc107 hm
    refine wp_skip (thenN ?_)
    obtain ⟨K109, hK110, hm⟩ := join_elim hm
    refine seq_cut (fun a w => ∃ (x108 : Int), Slots a 35 [(1, p1), (5, (.int .i64 x108)), (6, (.int .i64 x75))] ∧ Heap w0 [] w ∧ K109 x108 = some o105) ?_ ?_
    ·rintro a w ⟨x108, S, H, hm⟩
     subst hK110
     refine region_plain ?_
     refine lq (.int .i64 x75) S (q_move rfl) fun a S => ?_
     refine lq (.int .i64 (W (x75 + (1 : Int)))) S (q_add rfl rfl) fun a S => ?_
     refine lq (.int .i64 (W (x75 + (1 : Int)))) S (q_assign rfl) fun a S => ?_
     refine lx_nil ?_
     exact ⟨m104, Nat.lt_succ_self _, x108, (W (x75 + (1 : Int))), S.sub ⟨rfl, rfl, rfl, trivial⟩, H, it_cont hm hc106⟩
    ·skip
     refine wp_block ?_
     refine wp_seq (wp_seq (region_plain ?_))
     refine lq p1 S (q_move rfl) fun a S => ?_
     refine lq (.int .i64 x75) S (q_move rfl) fun a S => ?_
     obtain ⟨x111, e112, hm⟩ := bind_some hm
     obtain ⟨c113, h114, hat115⟩ := (h1).elem (idx_some e112).2
     obtain rfl := h114
     have hlt := lt_of_idx (idx_some e112).2
     refine lq (ePtr p1 (x75.toNat * 1)) S (q_indexAddr rfl (h1).isSl rfl (idx_some e112).1 hlt Tryz.underlying34 Tryz.sizeOf2) fun a S => ?_
     refine lx_e (.int .i64 x111) S trivial (by decide) rfl trivial (q_load1 rfl Tryz.isAgg2 (by rintro _ rfl; exact ((hat115 0 _ rfl).ext H.ext))) (fun a S => ?_)
     refine lq (.int .i64 x74) S (q_move rfl) fun a S => ?_
     obtain ⟨x118, e119, hm⟩ := bind_some hm
     refine lx_call (xs := [.tmp 23, .const (.int .i64 (0)), .tmp 24]) S trivial (by decide) rfl rfl Tryz.call125 ((spec_l00In_ok    e119).mono ?_)
     rintro e w116 ⟨rfl, Hc117⟩
     have H := H.call0 Hc117
     refine ⟨_, rfl, trivial, fun a S => ?_⟩
     refine lq (.bool (!x118)) S (q_not rfl) fun a S => ?_
     refine lx_nil (thenN ?_)
     refine cond_b S rfl (fun hc121 => ?_) (fun hc121 => ?_)
     ·have hm := ite_t hc121 hm
      refine wp_seq (region_plain ?_)
      refine lq (.bool false) S (q_assign rfl) fun a S => ?_
      refine lx_nil (thenN ?_)
      refine wp_ret (then_ret ?_)
      refine inBlock_ret ?_
      refine then_ret ?_
      refine then_ret ?_
      refine inBlock_ret ?_
      refine then_ret ?_
      refine then_ret ?_
      obtain rfl := it_brk hm hc106
      have hm := ctl_inr hk103
      obtain rfl := Option.some.inj hm
      exact leave1 S rfl rfl ⟨rfl, H⟩
     ·have hm := ite_f hc121 hm
      refine wp_skip (thenN ?_)
      refine wp_seq (region_plain ?_)
      refine lq p1 S (q_move rfl) fun a S => ?_
      refine lq (.int .i64 x75) S (q_move rfl) fun a S => ?_
      obtain ⟨x122, e123, hm⟩ := bind_some hm
      obtain ⟨c124, h125, hat126⟩ := (h1).elem (idx_some e123).2
      obtain rfl := h125
      have hlt := lt_of_idx (idx_some e123).2
      refine lq (ePtr p1 (x75.toNat * 1)) S (q_indexAddr rfl (h1).isSl rfl (idx_some e123).1 hlt Tryz.underlying34 Tryz.sizeOf2) fun a S => ?_
      refine lx_e (.int .i64 x122) S trivial (by decide) rfl trivial (q_load1 rfl Tryz.isAgg2 (by rintro _ rfl; exact ((hat126 0 _ rfl).ext H.ext))) (fun a S => ?_)
      refine lq (.int .i64 x74) S (q_move rfl) fun a S => ?_
      refine lq (.bool (x122 == x74)) S (q_eql rfl rfl) fun a S => ?_
      refine lx_nil (thenN ?_)
      refine cond_b S rfl (fun hc127 => ?_) (fun hc127 => ?_)
      ·have hm := ite_t hc127 hm
       refine region_plain ?_
       refine lq (.int .i64 x74) S (q_move rfl) fun a S => ?_
       refine lq (.int .i64 (W (x74 + (1 : Int)))) S (q_add rfl rfl) fun a S => ?_
       refine lq (.int .i64 (W (x74 + (1 : Int)))) S (q_assign rfl) fun a S => ?_
       refine lx_nil ?_
       refine inBlock_norm ?_
       exact ⟨(W (x74 + (1 : Int))), S.sub ⟨rfl, rfl, rfl, trivial⟩, H, hm⟩
      ·have hm := ite_f hc127 hm
       refine wp_skip ?_
       refine inBlock_norm ?_
       exact ⟨x74, S.sub ⟨rfl, rfl, rfl, trivial⟩, H, hm⟩
   ·have hm := ite_f hc107 hm
    refine wp_exit ?_
    refine then_exit ?_
    refine then_exit ?_
    refine inBlock_exit ?_
    obtain rfl := it_brk hm hc106
    exact ⟨S.sub trivial, H, rfl⟩

/-- spec.l15Ask -/
def spec_l15Ask_m (fuel : Nat) (a0 : Timpl_Lts) (a1 : (List Int)) : Option (Int) :=
  (spec_l11Is_m fuel a0).bind fun x52 => (if (!x52) = true then some ((1 : Int)) else (spec_l13Is_m fuel a0 a1).bind fun x58 => (if (!x58) = true then some ((2 : Int)) else some ((0 : Int))))
set_option maxRecDepth 20000 in
theorem spec_l15Ask_ok {w0 : World} {fuel : Nat} {p0 p1 : Value} {a0 : Timpl_Lts} {a1 : (List Int)} {r : Int} (h0 : Rd (rPtr Rimpl_Lts) w0 p0 a0) (h1 : Rd (rList (rInt .i64)) w0 p1 a1) (hm : spec_l15Ask_m fuel a0 a1 = some r) :
  Calls Tryz.prog 90 #[p0, p1] w0 fun e w => e = .returned (.int .i64 r) ∧ Heap w0 [] w := by
 unfold spec_l15Ask_m at hm
 have H := Heap.start w0
 obtain ⟨c31, h32, hat33⟩ := h0.ptr
 obtain ⟨c38, c39, rfl, h40, h41⟩ := h32
 obtain rfl := h40
 obtain ⟨c42, c43, rfl, h44, h45⟩ := h41
 obtain rfl := h44
 obtain ⟨c46, c47, rfl, h48, h49⟩ := h45
 obtain ⟨v34, rfl, h35⟩ := rd_list h48
 obtain ⟨v36, rfl, h37⟩ := rd_list h49
 refine enter (args := [p0, p1]) Tryz.func90 rfl 12 rfl (Nat.le_of_ble_eq_true rfl) (fun a S => ?_)
 refine wp_seq (region_plain ?_)
 refine lq (.int .i64 (0 : Int)) S (q_assign rfl) fun a S => ?_
 refine lx_nil (thenN ?_)
 refine wp_seq (wp_seq (region_plain ?_))
 refine lq p0 S (q_move rfl) fun a S => ?_
 obtain ⟨x52, e53, hm⟩ := bind_some hm
 refine lx_call (xs := [.tmp 5]) S trivial (by decide) rfl rfl Tryz.call70 ((spec_l11Is_ok (H.arg h0) e53).mono ?_)
 rintro e w50 ⟨rfl, Hc51⟩
 have H := H.call0 Hc51
 refine ⟨_, rfl, trivial, fun a S => ?_⟩
 refine lq (.bool (!x52)) S (q_not rfl) fun a S => ?_
 refine lx_nil (thenN ?_)
 refine cond_b S rfl (fun hc55 => ?_) (fun hc55 => ?_)
 ·have hm := ite_t hc55 hm
  refine wp_seq (region_plain ?_)
  refine lq (.int .i64 (1 : Int)) S (q_assign rfl) fun a S => ?_
  refine lx_nil (thenN ?_)
  refine wp_ret (then_ret ?_)
  obtain rfl := Option.some.inj hm
  exact leave1 S rfl rfl ⟨rfl, H⟩
 ·have hm := ite_f hc55 hm
  refine wp_skip (thenN ?_)
  refine wp_seq (wp_seq (region_plain ?_))
  refine lq p0 S (q_move rfl) fun a S => ?_
  refine lq p1 S (q_move rfl) fun a S => ?_
  obtain ⟨x58, e59, hm⟩ := bind_some hm
  refine lx_call (xs := [.tmp 8, .tmp 9]) S trivial (by decide) rfl rfl Tryz.call134 ((spec_l13Is_ok (H.arg h0) (H.arg h1) e59).mono ?_)
  rintro e w56 ⟨rfl, Hc57⟩
  have H := H.call0 Hc57
  refine ⟨_, rfl, trivial, fun a S => ?_⟩
  refine lq (.bool (!x58)) S (q_not rfl) fun a S => ?_
  refine lx_nil (thenN ?_)
  refine cond_b S rfl (fun hc61 => ?_) (fun hc61 => ?_)
  ·have hm := ite_t hc61 hm
   refine wp_seq (region_plain ?_)
   refine lq (.int .i64 (2 : Int)) S (q_assign rfl) fun a S => ?_
   refine lx_nil (thenN ?_)
   refine wp_ret (then_ret ?_)
   obtain rfl := Option.some.inj hm
   exact leave1 S rfl rfl ⟨rfl, H⟩
  ·have hm := ite_f hc61 hm
   refine wp_skip (thenN ?_)
   refine wp_seq (region_plain ?_)
   refine lq (.int .i64 (0 : Int)) S (q_assign rfl) fun a S => ?_
   refine lx_nil (thenN ?_)
   refine wp_ret ?_
   obtain rfl := Option.some.inj hm
   exact leave1 S rfl rfl ⟨rfl, H⟩

/-- spec.InertEdges -/
def spec_InertEdges_m (fuel : Nat) (a0 : Timpl_Lts) (a1 : (List Int)) : Option (((List Timpl_Edge) × Int)) :=
  (spec_l15Ask_m fuel (a0.1, a0.2.1, a0.2.2.1, a0.2.2.2) a1).bind fun x54 => (if (x54 != (0 : Int)) = true then some (([], x54)) else (iter (fun (s : (List Timpl_Edge) × (Int)) => (match s with | (xs113, x115) => (if (decide (x115 < (a0.2.2.2.length : Int))) = true then join (κ := List Timpl_Edge → Option (((List Timpl_Edge) × (Int)) ⊕ (((List Timpl_Edge)) ⊕ (((List Timpl_Edge) × Int))))) (fun (xs179 : List Timpl_Edge) => some (.inl (xs179, (W (x115 + (1 : Int)))))) (fun K181 => (idx a0.2.2.2 x115).bind fun x183 => (spec_l15Inert_m fuel x183 a1).bind fun x198 => (if x198 = true then (idx a0.2.2.2 x115).bind fun x202 => (app xs113 [(x202.1, x202.2.1, x202.2.2)]).bind fun x218 => (K181 x218) else (K181 xs113))) else some (.inr (.inl (xs113)))) : Option (((List Timpl_Edge) × (Int)) ⊕ (((List Timpl_Edge)) ⊕ (((List Timpl_Edge) × Int)))))) fuel (([] : List Timpl_Edge), (0 : Int))).bind fun res169 => ctl (β := (List Timpl_Edge)) (ρ := ((List Timpl_Edge) × Int)) (τ := ((List Timpl_Edge) × Int)) res169 (fun (xs167) => some ((xs167, (0 : Int)))) (fun q => some (q)))
set_option maxRecDepth 20000 in
theorem spec_InertEdges_ok {w0 : World} {fuel : Nat} {p0 p1 : Value} {a0 : Timpl_Lts} {a1 : (List Int)} {r : ((List Timpl_Edge) × Int)} (h0 : Rd Rimpl_Lts w0 p0 a0) (h1 : Rd (rList (rInt .i64)) w0 p1 a1) (hm : spec_InertEdges_m fuel a0 a1 = some r) :
  Calls Tryz.prog 45 #[p0, p1] w0 fun e w => ∃ (v0 : Value), e = .returned (.tuple #[v0, .int .i64 r.2]) ∧ Heap w0 [oA (rList Rimpl_Edge) v0 r.1] w := by
 unfold spec_InertEdges_m at hm
 have H := Heap.start w0
 obtain ⟨c31, rfl, h32⟩ := h0
 obtain ⟨c37, c38, rfl, h39, h40⟩ := h32
 obtain rfl := h39
 obtain ⟨c41, c42, rfl, h43, h44⟩ := h40
 obtain rfl := h43
 obtain ⟨c45, c46, rfl, h47, h48⟩ := h44
 obtain ⟨v33, rfl, h34⟩ := rd_list h47
 obtain ⟨v35, rfl, h36⟩ := rd_list h48
 refine enter (args := [(.agg #[(.int .i64 a0.1), (.int .i64 a0.2.1), v33, v35]), p1]) Tryz.func45 rfl 37 rfl (Nat.le_of_ble_eq_true rfl) (fun a S => ?_)
 refine wp_seq (region_plain ?_)
 refine lx_box S trivial (by decide) rfl H rfl rfl (fun b49 w50 H => ⟨trivial, fun a S => ?_⟩)
 refine lq (.slice none 0 0) S (q_assign rfl) fun a S => ?_
 refine lq (.int .i64 (0 : Int)) S (q_assign rfl) fun a S => ?_
 refine lx_nil (thenN ?_)
 refine wp_seq (region_plain ?_)
 refine lq p1 S (q_move rfl) fun a S => ?_
 obtain ⟨x54, e55, hm⟩ := bind_some hm
 refine lx_call (xs := [.tmp 2, .tmp 9]) S trivial (by decide) rfl rfl Tryz.call90 ((spec_l15Ask_ok (rdPtr_box H 0 rfl ⟨[(.int .i64 a0.1)], [(.int .i64 a0.2.1), v33, v35], rfl, rfl, ⟨[(.int .i64 a0.2.1)], [v33, v35], rfl, rfl, ⟨[v33], [v35], rfl, ((H.arg h34)).list_rd, ((H.arg h36)).list_rd⟩⟩⟩) (H.arg h1) e55).mono ?_)
 rintro e w52 ⟨rfl, Hc53⟩
 have H := H.call0 Hc53
 refine ⟨_, rfl, trivial, fun a S => ?_⟩
 refine lq (.int .i64 x54) S (q_assign rfl) fun a S => ?_
 refine lx_nil (thenN ?_)
 refine wp_seq (wp_seq (region_plain ?_))
 refine lq (.int .i64 x54) S (q_move rfl) fun a S => ?_
 refine lq (.bool (x54 != (0 : Int))) S (q_neq rfl rfl) fun a S => ?_
 refine lx_nil (thenN ?_)
 refine cond_b S rfl (fun hc57 => ?_) (fun hc57 => ?_)
 ·have hm := ite_t hc57 hm
  refine wp_seq (region_plain ?_)
  refine lq (.int .i64 x54) S (q_move rfl) fun a S => ?_
  refine lq (.slice none 0 0) S (q_assign rfl) fun a S => ?_
  refine lq (.int .i64 x54) S (q_assign rfl) fun a S => ?_
  refine lx_nil (thenN ?_)
  refine wp_ret (then_ret ?_)
  obtain rfl := Option.some.inj hm
  have H : Heap w0 [oA (rList Rimpl_Edge) (.slice none 0 0) ([] : List Timpl_Edge), bA b49 [(.int .i64 a0.1), (.int .i64 a0.2.1), v33, v35] 30] w52 := H.nilList Rimpl_Edge
  have H : Heap w0 [oA (rList Rimpl_Edge) (.slice none 0 0) ([] : List Timpl_Edge)] w52 := H.sel [0] (by decide)
  exact leave2 S rfl rfl rfl ⟨(.slice none 0 0), rfl, H⟩
 ·have hm := ite_f hc57 hm
  refine wp_skip (thenN ?_)
  refine wp_seq (region_plain ?_)
  refine lx_buildSlice0 (r := Rimpl_Edge) S trivial (by decide) rfl H Tryz.underlying28 Tryz.sizeOf72 (fun v59 w60 H => ⟨trivial, fun a S => ?_⟩)
  refine lq v59 S (q_assign rfl) fun a S => ?_
  refine lx_nil (thenN ?_)
  refine wp_seq (wp_seq (region_plain ?_))
  refine lq (.int .i64 (0 : Int)) S (q_assign rfl) fun a S => ?_
  refine lx_nil (thenN ?_)
  obtain ⟨res169, hit170, hk173⟩ := bind_some hm
  obtain ⟨f171, hf172, hit170⟩ := iter_name hit170
  refine block_loop (fun a w => ∃ (xs167 : List Timpl_Edge) (v166 : Value), Slots a 37 [(7, v166)] ∧ Heap w0 [oA (rList Rimpl_Edge) v166 xs167] w ∧ res169 = .inl (xs167)) ?_ ?_
  ·rintro a w ⟨xs167, v166, S, H, rfl⟩
   have hm := ctl_inl hk173
   refine thenN ?_
   refine wp_seq (region_plain ?_)
   refine lq v166 S (q_move rfl) fun a S => ?_
   refine lq v166 S (q_assign rfl) fun a S => ?_
   refine lq (.int .i64 (0 : Int)) S (q_assign rfl) fun a S => ?_
   refine lx_nil (thenN ?_)
   refine wp_ret ?_
   obtain rfl := Option.some.inj hm
   exact leave2 S rfl rfl rfl ⟨v166, rfl, H⟩
  ·skip
   have H : Heap w0 [bA b49 [(.int .i64 a0.1), (.int .i64 a0.2.1), v33, v35] 30, oA (rList Rimpl_Edge) v59 ([] : List Timpl_Edge)] w60 := H.front 1 rfl
   refine loop_ghost (fun n a w => ∃ (xs113 : List Timpl_Edge) (x115 : Int) (v112 : Value), Slots a 37 [(1, p1), (2, (bp b49)), (7, v112), (8, (.int .i64 x115))] ∧ Heap w0 [bA b49 [(.int .i64 a0.1), (.int .i64 a0.2.1), v33, v35] 30, oA (rList Rimpl_Edge) v112 xs113] w ∧ iter f171 n (xs113, x115) = some res169) _ ⟨([] : List Timpl_Edge), (0 : Int), v59, S.sub ⟨rfl, rfl, rfl, rfl, trivial⟩, H, hit170⟩ ?_
   rintro n a w ⟨xs113, x115, v112, S, H, hit170⟩
   obtain ⟨m174, o175, rfl, hm, hc176⟩ := iter_step hit170
   rw [hf172] at hm
   refine wp_seq (wp_seq (region_plain ?_))
   refine lq (.int .i64 x115) S (q_move rfl) fun a S => ?_
   refine lq (pAdd (bp b49) 3) S (q_fieldAddr' 3 28 rfl (isP_bp _) Tryz.underlying30 rfl Tryz.sizeOf28) fun a S => ?_
   refine lx_e v35 S trivial (by decide) rfl trivial (q_load1 rfl Tryz.isAgg28 (by rintro _ rfl; exact (At.of_add (m := 3) (j := 0) (boxAt (i := 0) H rfl (j := 3) rfl)))) (fun a S => ?_)
   refine lq (.int .i64 (a0.2.2.2.length : Int)) S (q_lenSl rfl (h36).isSl rfl Tryz.underlying28) fun a S => ?_
   refine lq (.bool (decide (x115 < (a0.2.2.2.length : Int)))) S (q_lss rfl rfl) fun a S => ?_
   refine lx_nil (thenN ?_)
   refine cond_b S rfl (fun hc177 => ?_) (fun hc177 => ?_)
   ·have hm := ite_t hc177 hm
    refine wp_skip (thenN ?_)
    obtain ⟨K181, hK182, hm⟩ := join_elim hm
    refine seq_cut (fun a w => ∃ (xs179 : List Timpl_Edge) (v178 : Value), Slots a 37 [(1, p1), (2, (bp b49)), (7, v178), (8, (.int .i64 x115))] ∧ Heap w0 [bA b49 [(.int .i64 a0.1), (.int .i64 a0.2.1), v33, v35] 30, oA (rList Rimpl_Edge) v178 xs179] w ∧ K181 xs179 = some o175) ?_ ?_
    ·rintro a w ⟨xs179, v178, S, H, hm⟩
     subst hK182
     refine region_plain ?_
     refine lq (.int .i64 x115) S (q_move rfl) fun a S => ?_
     refine lq (.int .i64 (W (x115 + (1 : Int)))) S (q_add rfl rfl) fun a S => ?_
     refine lq (.int .i64 (W (x115 + (1 : Int)))) S (q_assign rfl) fun a S => ?_
     refine lx_nil ?_
     exact ⟨m174, Nat.lt_succ_self _, xs179, (W (x115 + (1 : Int))), v178, S.sub ⟨rfl, rfl, rfl, rfl, trivial⟩, H, it_cont hm hc176⟩
    ·skip
     refine wp_block ?_
     refine wp_seq (region_plain ?_)
     refine lq (pAdd (bp b49) 3) S (q_fieldAddr' 3 28 rfl (isP_bp _) Tryz.underlying30 rfl Tryz.sizeOf28) fun a S => ?_
     refine lx_e v35 S trivial (by decide) rfl trivial (q_load1 rfl Tryz.isAgg28 (by rintro _ rfl; exact (At.of_add (m := 3) (j := 0) (boxAt (i := 0) H rfl (j := 3) rfl)))) (fun a S => ?_)
     refine lq (.int .i64 x115) S (q_move rfl) fun a S => ?_
     obtain ⟨x183, e184, hm⟩ := bind_some hm
     obtain ⟨c185, h186, hat187⟩ := (h36).elem (idx_some e184).2
     obtain ⟨c188, c189, rfl, h190, h191⟩ := h186
     obtain rfl := h190
     obtain ⟨c192, c193, rfl, h194, h195⟩ := h191
     obtain rfl := h194
     obtain rfl := h195
     have hlt := lt_of_idx (idx_some e184).2
     refine lq (ePtr v35 (x115.toNat * 3)) S (q_indexAddr rfl (h36).isSl rfl (idx_some e184).1 hlt Tryz.underlying28 Tryz.sizeOf72) fun a S => ?_
     refine lq p1 S (q_move rfl) fun a S => ?_
     obtain ⟨x198, e199, hm⟩ := bind_some hm
     refine lx_call (xs := [.tmp 25, .tmp 26]) S trivial (by decide) rfl rfl Tryz.call91 ((spec_l15Inert_ok ((H.arg h36).elemPtr (idx_some e184).2) (H.arg h1) e199).mono ?_)
     rintro e w196 ⟨rfl, Hc197⟩
     have H := H.call0 Hc197
     refine ⟨_, rfl, trivial, fun a S => ?_⟩
     refine lx_nil (thenN ?_)
     refine cond_b S rfl (fun hc201 => ?_) (fun hc201 => ?_)
     ·have hm := ite_t hc201 hm
      refine region_plain ?_
      refine lq v112 S (q_move rfl) fun a S => ?_
      refine lq (pAdd (bp b49) 3) S (q_fieldAddr' 3 28 rfl (isP_bp _) Tryz.underlying30 rfl Tryz.sizeOf28) fun a S => ?_
      refine lx_e v35 S trivial (by decide) rfl trivial (q_load1 rfl Tryz.isAgg28 (by rintro _ rfl; exact (At.of_add (m := 3) (j := 0) (boxAt (i := 0) H rfl (j := 3) rfl)))) (fun a S => ?_)
      refine lq (.int .i64 x115) S (q_move rfl) fun a S => ?_
      obtain ⟨x202, e203, hm⟩ := bind_some hm
      obtain ⟨c204, h205, hat206⟩ := (h36).elem (idx_some e203).2
      obtain ⟨c207, c208, rfl, h209, h210⟩ := h205
      obtain rfl := h209
      obtain ⟨c211, c212, rfl, h213, h214⟩ := h210
      obtain rfl := h213
      obtain rfl := h214
      have hlt := lt_of_idx (idx_some e203).2
      refine lq (ePtr v35 (x115.toNat * 3)) S (q_indexAddr rfl (h36).isSl rfl (idx_some e203).1 hlt Tryz.underlying28 Tryz.sizeOf72) fun a S => ?_
      refine lx_e (.agg #[(.int .i64 x202.1), (.int .i64 x202.2.1), (.int .i64 x202.2.2)]) S trivial (by decide) rfl trivial (q_loadA (cs := [(.int .i64 x202.1), (.int .i64 x202.2.1), (.int .i64 x202.2.2)]) rfl ((hat206 0 _ rfl).isP) Tryz.isAgg72 Tryz.sizeOf72 (by rintro _ rfl; exact (fun j u hu => (hat206 j u hu).ext H.ext))) (fun a S => ?_)
      refine lx_buildSlice (r := Rimpl_Edge) (xs := [(x202.1, x202.2.1, x202.2.2)]) (ps := [(0, [(.int .i64 x202.1), (.int .i64 x202.2.1), (.int .i64 x202.2.2)])]) (cs := [(.int .i64 x202.1), (.int .i64 x202.2.1), (.int .i64 x202.2.2)]) (parts := [(0, .tmp 33)]) S trivial (by decide) rfl (H.put0 (A := eA) rfl) rfl Tryz.underlying28 Tryz.sizeOf72 Tryz.zeroValue72 (by decide) ⟨rfl, rfl, Nat.le_of_ble_eq_true rfl, trivial⟩ (by intro zs hz; exact fill_dense hz ⟨rfl, trivial⟩ rfl rfl) rfl (by decide) (fun w F hA => by cases (show F = [] from hA); exact ⟨_, _, [(.int .i64 x202.1), (.int .i64 x202.2.1), (.int .i64 x202.2.2)], _, rfl, rfl, ⟨_, _, [(.int .i64 x202.1)], [(.int .i64 x202.2.1), (.int .i64 x202.2.2)], rfl, rfl, ⟨rfl, rfl⟩, ⟨_, _, [(.int .i64 x202.2.1)], [(.int .i64 x202.2.2)], rfl, rfl, ⟨rfl, rfl⟩, ⟨rfl, rfl⟩⟩⟩, ⟨rfl, rfl⟩⟩) (fun v215 w216 H => ⟨trivial, fun a S => ?_⟩)
      obtain ⟨x218, e219, hm⟩ := bind_some hm
      obtain ⟨hle, hap⟩ := app_some e219
      replace hap := hap.symm
      subst hap
      have H : Heap w0 [oA (rList Rimpl_Edge) v215 [(x202.1, x202.2.1, x202.2.2)], bA b49 [(.int .i64 a0.1), (.int .i64 a0.2.1), v33, v35] 30, oA (rList Rimpl_Edge) v112 xs113] w216 := H.front 0 rfl
      have H : Heap w0 [oA (rList Rimpl_Edge) v112 xs113, oA (rList Rimpl_Edge) v215 [(x202.1, x202.2.1, x202.2.2)], bA b49 [(.int .i64 a0.1), (.int .i64 a0.2.1), v33, v35] 30] w216 := H.front 2 rfl
      refine lx_appendOwn (r := Rimpl_Edge) S trivial (by decide) rfl H rfl rfl Tryz.underlying28 Tryz.ti72 rfl rfl rfl (by decide) (by decide) hle (fun v220 w221 H => ⟨trivial, fun a S => ?_⟩)
      refine lq v220 S (q_assign rfl) fun a S => ?_
      refine lx_nil ?_
      refine inBlock_norm ?_
      have H : Heap w0 [bA b49 [(.int .i64 a0.1), (.int .i64 a0.2.1), v33, v35] 30, oA (rList Rimpl_Edge) v220 (xs113 ++ [(x202.1, x202.2.1, x202.2.2)])] w221 := H.front 1 rfl
      exact ⟨(xs113 ++ [(x202.1, x202.2.1, x202.2.2)]), v220, S.sub ⟨rfl, rfl, rfl, rfl, trivial⟩, H, hm⟩
     ·have hm := ite_f hc201 hm
      refine wp_skip ?_
      refine inBlock_norm ?_
      exact ⟨xs113, v112, S.sub ⟨rfl, rfl, rfl, rfl, trivial⟩, H, hm⟩
   ·have hm := ite_f hc177 hm
    refine wp_exit ?_
    refine then_exit ?_
    refine then_exit ?_
    refine inBlock_exit ?_
    obtain rfl := it_brk hm hc176
    have H : Heap w0 [oA (rList Rimpl_Edge) v112 xs113] w := H.sel [1] (by decide)
    exact ⟨xs113, v112, S.sub ⟨rfl, trivial⟩, H, rfl⟩

/-- impl.itemsOk -/
def impl_itemsOk_m (fuel : Nat) (a0 : Int) : Option (Bool) :=
  (impl_within_m fuel a0 (1 : Int) (40 : Int)).bind fun x33 => some (x33)
set_option maxRecDepth 20000 in
theorem impl_itemsOk_ok {w0 : World} {fuel : Nat} {a0 : Int} {r : Bool} (hm : impl_itemsOk_m fuel a0 = some r) :
  Calls Tryz.prog 186 #[.int .i64 a0] w0 fun e w => e = .returned (.bool r) ∧ Heap w0 [] w := by
 unfold impl_itemsOk_m at hm
 have H := Heap.start w0
 refine enter (args := [.int .i64 a0]) Tryz.func186 rfl 5 rfl (Nat.le_of_ble_eq_true rfl) (fun a S => ?_)
 refine wp_seq (region_plain ?_)
 refine lq (.bool false) S (q_assign rfl) fun a S => ?_
 refine lx_nil (thenN ?_)
 refine wp_seq (region_plain ?_)
 refine lq (.int .i64 a0) S (q_move rfl) fun a S => ?_
 obtain ⟨x33, e34, hm⟩ := bind_some hm
 refine lx_call (xs := [.tmp 3, .const (.int .i64 (1)), .const (.int .i64 (40))]) S trivial (by decide) rfl rfl Tryz.call71 ((impl_within_ok    e34).mono ?_)
 rintro e w31 ⟨rfl, Hc32⟩
 have H := H.call0 Hc32
 refine ⟨_, rfl, trivial, fun a S => ?_⟩
 refine lq (.bool x33) S (q_assign rfl) fun a S => ?_
 refine lx_nil (thenN ?_)
 refine wp_ret ?_
 obtain rfl := Option.some.inj hm
 exact leave1 S rfl rfl ⟨rfl, H⟩

/-- impl.normal -/
def impl_normal_m (fuel : Nat) (a0 : (List Int)) : Option ((List Int)) :=
  (mks (a0.length : Int) (0 : Int)).bind fun x34 => (iter (fun (s : (List (Int × Int)) × (List Int) × (Int)) => (match s with | (m58, xs59, x60) => (if (decide (x60 < (a0.length : Int))) = true then (idx a0 x60).bind fun x89 => join (κ := List (Int × Int) → Int → Option (((List (Int × Int)) × (List Int) × (Int)) ⊕ (((List Int)) ⊕ ((List Int))))) (fun (m94 : List (Int × Int)) (x95 : Int) => (idx xs59 x60).bind fun _ => some (.inl (m94, (xs59.set x60.toNat x95), (W (x60 + (1 : Int)))))) (fun K96 => (if (!(mget m58 x89).isSome) = true then (K96 (mset m58 x89 (m58.length : Int)) (m58.length : Int)) else (K96 m58 ((mget m58 x89).getD (0 : Int))))) else some (.inr (.inl (xs59)))) : Option (((List (Int × Int)) × (List Int) × (Int)) ⊕ (((List Int)) ⊕ ((List Int)))))) fuel (([] : List (Int × Int)), x34, (0 : Int))).bind fun res80 => ctl (β := (List Int)) (ρ := (List Int)) (τ := (List Int)) res80 (fun (xs79) => some (xs79)) (fun q => some (q))
set_option maxRecDepth 20000 in
theorem impl_normal_ok {w0 : World} {fuel : Nat} {p0 : Value} {a0 : (List Int)} {r : (List Int)} (h0 : Rd (rList (rInt .i64)) w0 p0 a0) (hm : impl_normal_m fuel a0 = some r) :
  Calls Tryz.prog 188 #[p0] w0 fun e w => ∃ (v0 : Value), e = .returned (v0) ∧ Heap w0 [oA (rList (rInt .i64)) v0 r] w := by
 unfold impl_normal_m at hm
 have H := Heap.start w0
 refine enter (args := [p0]) Tryz.func188 rfl 39 rfl (Nat.le_of_ble_eq_true rfl) (fun a S => ?_)
 refine wp_seq (region_plain ?_)
 refine lq (.slice none 0 0) S (q_assign rfl) fun a S => ?_
 refine lx_nil (thenN ?_)
 refine wp_seq (region_plain ?_)
 refine lx_makeMap (fun n : Int => Value.int .i64 n) (fun n : Int => Value.int .i64 n) S trivial (by decide) rfl H (fun r31 w32 H => ⟨trivial, fun a S => ?_⟩)
 refine lq (.map (some r31)) S (q_assign rfl) fun a S => ?_
 refine lx_nil (thenN ?_)
 refine wp_seq (region_plain ?_)
 refine lq p0 S (q_move rfl) fun a S => ?_
 refine lq (.int .i64 (a0.length : Int)) S (q_lenSl rfl (h0).isSl rfl Tryz.underlying34) fun a S => ?_
 obtain ⟨x34, e35, hm⟩ := bind_some hm
 obtain ⟨m36, hn, hn2, rfl⟩ := mks_some e35
 refine lx_make (r := (rInt .i64)) (z0 := (0 : Int)) (n := m36) S trivial (by decide) rfl H (by rw [← hn]; rfl) (by rw [← hn]; rfl) Tryz.underlying34 (Tryz.ti2) rfl rfl (by decide) (fun w => ⟨rfl, rfl⟩) hn2 (by decide) (fun v37 w38 H => ⟨trivial, fun a S => ?_⟩)
 refine lq v37 S (q_assign rfl) fun a S => ?_
 refine lx_nil (thenN ?_)
 refine wp_seq (wp_seq (region_plain ?_))
 refine lq p0 S (q_move rfl) fun a S => ?_
 refine lq (.int .i64 (a0.length : Int)) S (q_lenSl rfl (h0).isSl rfl Tryz.underlying34) fun a S => ?_
 refine lq (.int .i64 (0 : Int)) S (q_move rfl) fun a S => ?_
 refine lx_nil (thenN ?_)
 obtain ⟨res80, hit81, hk84⟩ := bind_some hm
 obtain ⟨f82, hf83, hit81⟩ := iter_name hit81
 refine block_loop (fun a w => ∃ (xs79 : List Int), Slots a 39 [(4, v37)] ∧ Heap w0 [oA (rList (rInt .i64)) v37 xs79] w ∧ res80 = .inl (xs79)) ?_ ?_
 ·rintro a w ⟨xs79, S, H, rfl⟩
  have hm := ctl_inl hk84
  refine thenN ?_
  refine wp_seq (region_plain ?_)
  refine lq v37 S (q_move rfl) fun a S => ?_
  refine lq v37 S (q_assign rfl) fun a S => ?_
  refine lx_nil (thenN ?_)
  refine wp_ret ?_
  obtain rfl := Option.some.inj hm
  exact leave1 S rfl rfl ⟨v37, rfl, H⟩
 ·skip
  have H : Heap w0 [mapA (fun n : Int => Value.int .i64 n) (fun n : Int => Value.int .i64 n) r31 ([] : List (Int × Int)), oA (rList (rInt .i64)) v37 (List.replicate m36 (0 : Int))] w38 := H.front 1 rfl
  refine loop_ghost (fun n a w => ∃ (m58 : List (Int × Int)) (xs59 : List Int) (x60 : Int), Slots a 39 [(3, (.map (some r31))), (4, v37), (13, p0), (14, (.int .i64 (a0.length : Int))), (15, (.int .i64 x60))] ∧ Heap w0 [mapA (fun n : Int => Value.int .i64 n) (fun n : Int => Value.int .i64 n) r31 m58, oA (rList (rInt .i64)) v37 xs59] w ∧ iter f82 n (m58, xs59, x60) = some res80) _ ⟨([] : List (Int × Int)), (List.replicate m36 (0 : Int)), (0 : Int), S.sub ⟨rfl, rfl, rfl, rfl, rfl, trivial⟩, H, hit81⟩ ?_
  rintro n a w ⟨m58, xs59, x60, S, H, hit81⟩
  obtain ⟨m85, o86, rfl, hm, hc87⟩ := iter_step hit81
  rw [hf83] at hm
  refine wp_seq (region_plain ?_)
  refine lq (.bool (decide (x60 < (a0.length : Int)))) S (q_lss rfl rfl) fun a S => ?_
  refine lx_nil (thenN ?_)
  refine wp_seq ?_
  refine cond_b S rfl (fun hc88 => ?_) (fun hc88 => ?_)
  ·have hm := ite_t hc88 hm
   refine wp_skip (thenN ?_)
   refine wp_seq ?_
   refine wp_block ?_
   refine wp_seq (region_plain ?_)
   refine lq (.int .i64 x60) S (q_move rfl) fun a S => ?_
   obtain ⟨x89, e90, hm⟩ := bind_some hm
   obtain ⟨c91, h92, hat93⟩ := (h0).elem (idx_some e90).2
   obtain rfl := h92
   have hlt := lt_of_idx (idx_some e90).2
   refine lq (ePtr p0 (x60.toNat * 1)) S (q_indexAddr rfl (h0).isSl rfl (idx_some e90).1 hlt Tryz.underlying34 Tryz.sizeOf2) fun a S => ?_
   refine lx_e (.int .i64 x89) S trivial (by decide) rfl trivial (q_load1 rfl Tryz.isAgg2 (by rintro _ rfl; exact ((hat93 0 _ rfl).ext H.ext))) (fun a S => ?_)
   refine lq (.int .i64 x60) S (q_assign rfl) fun a S => ?_
   refine lq (.int .i64 x89) S (q_assign rfl) fun a S => ?_
   refine lx_nil (thenN ?_)
   refine wp_seq (region_plain ?_)
   refine lq (.map (some r31)) S (q_move rfl) fun a S => ?_
   refine lq (.int .i64 x89) S (q_move rfl) fun a S => ?_
   refine lx_e (.tuple #[(.int .i64 ((mget m58 x89).getD (0 : Int))), (.bool (mget m58 x89).isSome)]) S trivial (by decide) rfl trivial (q_lookup (key := x89) (z0 := (0 : Int)) (keys_int .i64) rfl rfl Tryz.underlying192 Tryz.underlying2 Tryz.zeroValue2 (by rintro _ rfl; exact H.mapAt 0 rfl)) (fun a S => ?_)
   refine lq (.tuple #[(.int .i64 ((mget m58 x89).getD (0 : Int))), (.bool (mget m58 x89).isSome)]) S (q_move rfl) fun a S => ?_
   refine lq (.int .i64 ((mget m58 x89).getD (0 : Int))) S (q_extract rfl rfl) fun a S => ?_
   refine lq (.bool (mget m58 x89).isSome) S (q_extract rfl rfl) fun a S => ?_
   refine lq (.int .i64 ((mget m58 x89).getD (0 : Int))) S (q_assign rfl) fun a S => ?_
   refine lq (.bool (mget m58 x89).isSome) S (q_assign rfl) fun a S => ?_
   refine lx_nil (thenN ?_)
   obtain ⟨K96, hK97, hm⟩ := join_elim hm
   refine seq_cut (fun a w => ∃ (m94 : List (Int × Int)) (x95 : Int), Slots a 39 [(3, (.map (some r31))), (4, v37), (5, (.int .i64 x60)), (7, (.int .i64 x95)), (13, p0), (14, (.int .i64 (a0.length : Int))), (15, (.int .i64 x60))] ∧ Heap w0 [mapA (fun n : Int => Value.int .i64 n) (fun n : Int => Value.int .i64 n) r31 m94, oA (rList (rInt .i64)) v37 xs59] w ∧ K96 m94 x95 = some o86) ?_ ?_
   ·rintro a w ⟨m94, x95, S, H, hm⟩
    subst hK97
    refine region_plain ?_
    refine lq v37 S (q_move rfl) fun a S => ?_
    refine lq (.int .i64 x60) S (q_move rfl) fun a S => ?_
    refine lq (.int .i64 x95) S (q_move rfl) fun a S => ?_
    obtain ⟨x98, e99, hm⟩ := bind_some hm
    have hlt := lt_of_idx (idx_some e99).2
    refine lq (ePtr v37 (x60.toNat * 1)) S (q_indexAddr rfl (H.isSl 1 rfl) rfl (idx_some e99).1 hlt Tryz.underlying34 Tryz.sizeOf2) fun a S => ?_
    have H : Heap w0 [oA (rList (rInt .i64)) v37 xs59, mapA (fun n : Int => Value.int .i64 n) (fun n : Int => Value.int .i64 n) r31 m94] w := H.front 1 rfl
    refine lx_storeElem (r := (rInt .i64)) (us := [(.int .i64 x95)]) (off := 0) (e' := x95) S trivial rfl H.putE (ev_zero rfl) rfl (idx_some e99).2 rfl Tryz.sizeOf2 (Nat.le_of_ble_eq_true rfl) (List.forall_mem_cons.2 ⟨rfl, (fun _ h => nomatch h)⟩) (Upd.full rfl (fun w G hG => by cases (show G = [] from hG); exact ⟨rfl, rfl⟩)) (fun w100 H => ⟨trivial, fun a S => ?_⟩)
    refine lx_nil ?_
    refine inBlock_norm ?_
    refine thenN ?_
    refine region_plain ?_
    refine lq (.int .i64 (W (x60 + (1 : Int)))) S (q_add rfl rfl) fun a S => ?_
    refine lq (.int .i64 (W (x60 + (1 : Int)))) S (q_move rfl) fun a S => ?_
    refine lx_nil ?_
    have H : Heap w0 [mapA (fun n : Int => Value.int .i64 n) (fun n : Int => Value.int .i64 n) r31 m94, oA (rList (rInt .i64)) v37 (xs59.set x60.toNat x95)] w100 := H.front 1 rfl
    exact ⟨m85, Nat.lt_succ_self _, m94, (xs59.set x60.toNat x95), (W (x60 + (1 : Int))), S.sub ⟨rfl, rfl, rfl, rfl, rfl, trivial⟩, H, it_cont hm hc87⟩
   ·skip
    refine wp_seq (region_plain ?_)
    refine lq (.bool (mget m58 x89).isSome) S (q_move rfl) fun a S => ?_
    refine lq (.bool (!(mget m58 x89).isSome)) S (q_not rfl) fun a S => ?_
    refine lx_nil (thenN ?_)
    refine cond_b S rfl (fun hc101 => ?_) (fun hc101 => ?_)
    ·have hm := ite_t hc101 hm
     refine wp_seq (region_plain ?_)
     refine lq (.map (some r31)) S (q_move rfl) fun a S => ?_
     refine lx_e (.int .i64 (m58.length : Int)) S trivial (by decide) rfl trivial (q_lenMap rfl rfl Tryz.underlying192 (by rintro _ rfl; exact H.mapAt 0 rfl)) (fun a S => ?_)
     refine lq (.int .i64 (m58.length : Int)) S (q_assign rfl) fun a S => ?_
     refine lx_nil (thenN ?_)
     refine region_plain ?_
     refine lq (.map (some r31)) S (q_move rfl) fun a S => ?_
     refine lq (.int .i64 x89) S (q_move rfl) fun a S => ?_
     refine lq (.int .i64 (m58.length : Int)) S (q_move rfl) fun a S => ?_
     refine lx_mapUpdate (key := x89) (val := (m58.length : Int)) (keys_int .i64) S trivial rfl H rfl rfl rfl Tryz.underlying192 Tryz.underlying2 (fun w102 H => ⟨trivial, fun a S => ?_⟩)
     refine lx_nil ?_
     exact ⟨(mset m58 x89 (m58.length : Int)), (m58.length : Int), S.sub ⟨rfl, rfl, rfl, rfl, rfl, rfl, rfl, trivial⟩, H, hm⟩
    ·have hm := ite_f hc101 hm
     refine wp_skip ?_
     exact ⟨m58, ((mget m58 x89).getD (0 : Int)), S.sub ⟨rfl, rfl, rfl, rfl, rfl, rfl, rfl, trivial⟩, H, hm⟩
  ·have hm := ite_f hc88 hm
   refine wp_exit ?_
   refine then_exit ?_
   refine then_exit ?_
   refine inBlock_exit ?_
   obtain rfl := it_brk hm hc87
   have H : Heap w0 [oA (rList (rInt .i64)) v37 xs59] w := H.sel [1] (by decide)
   exact ⟨xs59, S.sub ⟨rfl, trivial⟩, H, rfl⟩

/-- slices.Equal[[]int64,int64] -/
def slices_Equal__int64_int64_m (fuel : Nat) (a0 : (List Int)) (a1 : (List Int)) : Option (Bool) :=
  (if ((a0.length : Int) != (a1.length : Int)) = true then some (false) else (iter (fun (s : (Int)) => (match s with | (x47) => (if (decide (x47 < (a0.length : Int))) = true then (idx a0 x47).bind fun x74 => (idx a1 x47).bind fun x79 => (if (x74 != x79) = true then some (.inr (.inr false)) else some (.inl ((W (x47 + (1 : Int)))))) else some (.inr (.inl ()))) : Option (((Int)) ⊕ ((Unit) ⊕ (Bool))))) fuel ((0 : Int))).bind fun res63 => ctl (β := Unit) (ρ := Bool) (τ := Bool) res63 (fun _ => some (true)) (fun q => some (q)))
set_option maxRecDepth 20000 in
theorem slices_Equal__int64_int64_ok {w0 : World} {fuel : Nat} {p0 p1 : Value} {a0 : (List Int)} {a1 : (List Int)} {r : Bool} (h0 : Rd (rList (rInt .i64)) w0 p0 a0) (h1 : Rd (rList (rInt .i64)) w0 p1 a1) (hm : slices_Equal__int64_int64_m fuel a0 a1 = some r) :
  Calls Tryz.prog 187 #[p0, p1] w0 fun e w => e = .returned (.bool r) ∧ Heap w0 [] w := by
 unfold slices_Equal__int64_int64_m at hm
 have H := Heap.start w0
 refine enter (args := [p0, p1]) Tryz.func187 rfl 26 rfl (Nat.le_of_ble_eq_true rfl) (fun a S => ?_)
 refine wp_seq (region_plain ?_)
 refine lq (.bool false) S (q_assign rfl) fun a S => ?_
 refine lx_nil (thenN ?_)
 refine wp_seq (wp_seq (region_plain ?_))
 refine lq p0 S (q_move rfl) fun a S => ?_
 refine lq (.int .i64 (a0.length : Int)) S (q_lenSl rfl (h0).isSl rfl Tryz.underlying34) fun a S => ?_
 refine lq p1 S (q_move rfl) fun a S => ?_
 refine lq (.int .i64 (a1.length : Int)) S (q_lenSl rfl (h1).isSl rfl Tryz.underlying34) fun a S => ?_
 refine lq (.bool ((a0.length : Int) != (a1.length : Int))) S (q_neq rfl rfl) fun a S => ?_
 refine lx_nil (thenN ?_)
 refine cond_b S rfl (fun hc31 => ?_) (fun hc31 => ?_)
 ·have hm := ite_t hc31 hm
  refine wp_seq (region_plain ?_)
  refine lq (.bool false) S (q_assign rfl) fun a S => ?_
  refine lx_nil (thenN ?_)
  refine wp_ret (then_ret ?_)
  obtain rfl := Option.some.inj hm
  exact leave1 S rfl rfl ⟨rfl, H⟩
 ·have hm := ite_f hc31 hm
  refine wp_skip (thenN ?_)
  refine wp_seq (wp_seq (region_plain ?_))
  refine lq p0 S (q_move rfl) fun a S => ?_
  refine lq (.int .i64 (a0.length : Int)) S (q_lenSl rfl (h0).isSl rfl Tryz.underlying34) fun a S => ?_
  refine lq (.int .i64 (0 : Int)) S (q_move rfl) fun a S => ?_
  refine lx_nil (thenN ?_)
  obtain ⟨res63, hit64, hk67⟩ := bind_some hm
  obtain ⟨f65, hf66, hit64⟩ := iter_name hit64
  refine block_loop (fun a w => Slots a 26 [] ∧ Heap w0 [] w ∧ res63 = .inl ()) ?_ ?_
  ·rintro a w ⟨S, H, rfl⟩
   have hm := ctl_inl hk67
   refine thenN ?_
   refine wp_seq (region_plain ?_)
   refine lq (.bool true) S (q_assign rfl) fun a S => ?_
   refine lx_nil (thenN ?_)
   refine wp_ret ?_
   obtain rfl := Option.some.inj hm
   exact leave1 S rfl rfl ⟨rfl, H⟩
  ·skip
   refine loop_ghost (fun n a w => ∃ (x47 : Int), Slots a 26 [(0, p0), (1, p1), (12, (.int .i64 (a0.length : Int))), (13, (.int .i64 x47))] ∧ Heap w0 [] w ∧ iter f65 n (x47) = some res63) _ ⟨(0 : Int), S.sub ⟨rfl, rfl, rfl, rfl, trivial⟩, H, hit64⟩ ?_
   rintro n a w ⟨x47, S, H, hit64⟩
   obtain ⟨m68, o69, rfl, hm, hc70⟩ := iter_step hit64
   rw [hf66] at hm
   refine wp_seq (region_plain ?_)
   refine lq (.bool (decide (x47 < (a0.length : Int)))) S (q_lss rfl rfl) fun a S => ?_
   refine lx_nil (thenN ?_)
   refine wp_seq ?_
   refine cond_b S rfl (fun hc71 => ?_) (fun hc71 => ?_)
   ·have hm := ite_t hc71 hm
    refine wp_skip (thenN ?_)
    refine wp_seq ?_
    refine wp_block ?_
    refine wp_seq (region_plain ?_)
    refine lq (.int .i64 x47) S (q_move rfl) fun a S => ?_
    refine lq (.int .i64 x47) S (q_assign rfl) fun a S => ?_
    refine lx_nil (thenN ?_)
    refine wp_seq ?_
    refine region_drawG (fun w1 => Heap w0 [] w1) (fun i => [].contains i) mixed (by kernel_rfl) (fun w73 he72 => ?_)
    have H := H.later he72
    refine ⟨H.sel [] (by decide), ?_⟩
    refine lq p0 S (q_move rfl) fun a S => ?_
    refine lq (.int .i64 x47) S (q_move rfl) fun a S => ?_
    obtain ⟨x74, e75, hm⟩ := bind_some hm
    obtain ⟨c76, h77, hat78⟩ := (h0).elem (idx_some e75).2
    obtain rfl := h77
    have hlt := lt_of_idx (idx_some e75).2
    refine lq (ePtr p0 (x47.toNat * 1)) S (q_indexAddr rfl (h0).isSl rfl (idx_some e75).1 hlt Tryz.underlying34 Tryz.sizeOf2) fun a S => ?_
    refine lq (.int .i64 x74) S (q_load1 rfl Tryz.isAgg2 (fun w1 hC => ((hat78 0 _ rfl).ext hC.ext))) fun a S => ?_
    refine lq p1 S (q_move rfl) fun a S => ?_
    refine lq (.int .i64 x47) S (q_move rfl) fun a S => ?_
    obtain ⟨x79, e80, hm⟩ := bind_some hm
    obtain ⟨c81, h82, hat83⟩ := (h1).elem (idx_some e80).2
    obtain rfl := h82
    have hlt := lt_of_idx (idx_some e80).2
    refine lq (ePtr p1 (x47.toNat * 1)) S (q_indexAddr rfl (h1).isSl rfl (idx_some e80).1 hlt Tryz.underlying34 Tryz.sizeOf2) fun a S => ?_
    refine lq (.int .i64 x79) S (q_load1 rfl Tryz.isAgg2 (fun w1 hC => ((hat83 0 _ rfl).ext hC.ext))) fun a S => ?_
    refine lq (.bool (x74 != x79)) S (q_neq rfl rfl) fun a S => ?_
    refine lx_nil (thenN ?_)
    refine cond_b S rfl (fun hc84 => ?_) (fun hc84 => ?_)
    ·have hm := ite_t hc84 hm
     refine wp_seq (region_plain ?_)
     refine lq (.bool false) S (q_assign rfl) fun a S => ?_
     refine lx_nil (thenN ?_)
     refine wp_ret (inBlock_ret ?_)
     refine then_ret ?_
     refine then_ret ?_
     refine inBlock_ret ?_
     refine then_ret ?_
     refine then_ret ?_
     obtain rfl := it_brk hm hc70
     have hm := ctl_inr hk67
     obtain rfl := Option.some.inj hm
     exact leave1 S rfl rfl ⟨rfl, H⟩
    ·have hm := ite_f hc84 hm
     refine wp_skip ?_
     refine inBlock_norm ?_
     refine thenN ?_
     refine region_plain ?_
     refine lq (.int .i64 (W (x47 + (1 : Int)))) S (q_add rfl rfl) fun a S => ?_
     refine lq (.int .i64 (W (x47 + (1 : Int)))) S (q_move rfl) fun a S => ?_
     refine lx_nil ?_
     exact ⟨m68, Nat.lt_succ_self _, (W (x47 + (1 : Int))), S.sub ⟨rfl, rfl, rfl, rfl, trivial⟩, H, it_cont hm hc70⟩
   ·have hm := ite_f hc71 hm
    refine wp_exit ?_
    refine then_exit ?_
    refine then_exit ?_
    refine inBlock_exit ?_
    obtain rfl := it_brk hm hc70
    exact ⟨S.sub trivial, H, rfl⟩

/-- impl.IsPartition -/
def impl_IsPartition_m (fuel : Nat) (a0 : (List Int)) : Option (Bool) :=
  (impl_itemsOk_m fuel (a0.length : Int)).bind fun x33 => (if x33 = true then (impl_normal_m fuel a0).bind fun x41 => (slices_Equal__int64_int64_m fuel a0 x41).bind fun x48 => some x48 else some false).bind fun t36 => some (t36)
set_option maxRecDepth 20000 in
theorem impl_IsPartition_ok {w0 : World} {fuel : Nat} {p0 : Value} {a0 : (List Int)} {r : Bool} (h0 : Rd (rList (rInt .i64)) w0 p0 a0) (hm : impl_IsPartition_m fuel a0 = some r) :
  Calls Tryz.prog 166 #[p0] w0 fun e w => e = .returned (.bool r) ∧ Heap w0 [] w := by
 unfold impl_IsPartition_m at hm
 have H := Heap.start w0
 refine enter (args := [p0]) Tryz.func166 rfl 12 rfl (Nat.le_of_ble_eq_true rfl) (fun a S => ?_)
 refine wp_seq (region_plain ?_)
 refine lq (.bool false) S (q_assign rfl) fun a S => ?_
 refine lx_nil (thenN ?_)
 refine wp_seq (region_plain ?_)
 refine lq p0 S (q_move rfl) fun a S => ?_
 refine lq (.int .i64 (a0.length : Int)) S (q_lenSl rfl (h0).isSl rfl Tryz.underlying34) fun a S => ?_
 obtain ⟨x33, e34, hm⟩ := bind_some hm
 refine lx_call (xs := [.tmp 4]) S trivial (by decide) rfl rfl Tryz.call186 ((impl_itemsOk_ok  e34).mono ?_)
 rintro e w31 ⟨rfl, Hc32⟩
 have H := H.call0 Hc32
 refine ⟨_, rfl, trivial, fun a S => ?_⟩
 refine lq (.bool x33) S (q_move rfl) fun a S => ?_
 obtain ⟨t36, e37, hm⟩ := bind_some hm
 refine lx_cut 5 (fun a w => Slots a 12 [(11, (.bool t36))] ∧ Heap w0 [] w) ?_ ?_
 ·by_cases hc38 : x33 = true
  ·have hm := ite_t hc38 e37
   refine lx_q p0 S (want_b rfl rfl hc38) (by decide) (q_move rfl) (fun a S => ?_)
   refine lx_q p0 S (want_b rfl rfl hc38) (by decide) (q_move rfl) (fun a S => ?_)
   obtain ⟨x41, e42, hm⟩ := bind_some hm
   refine lx_call (xs := [.tmp 8]) S (want_b rfl rfl hc38) (by decide) rfl rfl Tryz.call188 ((impl_normal_ok (H.arg h0) e42).mono ?_)
   rintro e w39 ⟨v43, rfl, Hc40⟩
   have H := H.call1 Hc40
   refine ⟨_, rfl, trivial, fun a S => ?_⟩
   obtain ⟨x48, e49, hm⟩ := bind_some hm
   refine lx_call (xs := [.tmp 7, .tmp 9]) S (want_b rfl rfl hc38) (by decide) rfl rfl Tryz.call187 ((slices_Equal__int64_int64_ok (H.arg h0) (H.rdAt 0 rfl) e49).mono ?_)
   rintro e w46 ⟨rfl, Hc47⟩
   have H := H.call0 Hc47
   refine ⟨_, rfl, trivial, fun a S => ?_⟩
   refine lq (.bool x48) S (q_pickT' rfl hc38 rfl) fun a S => ?_
   refine lx_nil ?_
   obtain rfl := Option.some.inj hm
   have H := H.sel [] (by decide)
   exact ⟨S.sub ⟨rfl, trivial⟩, H⟩
  ·have hm := ite_f (eq_false_of_ne_true hc38) e37
   have hc38 : x33 = false := eq_false_of_ne_true hc38
   refine lx_skip S rfl rfl (isB_ne hc38) (by decide) (fun a S => ?_)
   refine lx_skip S rfl rfl (isB_ne hc38) (by decide) (fun a S => ?_)
   refine lx_skip S rfl rfl (isB_ne hc38) (by decide) (fun a S => ?_)
   refine lx_skip S rfl rfl (isB_ne hc38) (by decide) (fun a S => ?_)
   refine lq (.bool false) S (q_pickF' rfl hc38 rfl) fun a S => ?_
   refine lx_nil ?_
   obtain rfl := Option.some.inj hm
   exact ⟨S.sub ⟨rfl, trivial⟩, H⟩
 ·rintro a w ⟨S, H⟩
  refine lq (.bool t36) S (q_assign rfl) fun a S => ?_
  refine lx_nil (thenN ?_)
  refine wp_ret ?_
  obtain rfl := Option.some.inj hm
  exact leave1 S rfl rfl ⟨rfl, H⟩

/-- (impl.Lts).partitionOf -/
def impl_Lts_partitionOf_m (fuel : Nat) (a0 : Timpl_Lts) (a1 : (List Int)) : Option (Bool) :=
  (impl_IsPartition_m fuel a1).bind fun x54 => (if x54 = true then some ((a1.length : Int) == a0.1) else some false).bind fun t57 => some (t57)
set_option maxRecDepth 20000 in
theorem impl_Lts_partitionOf_ok {w0 : World} {fuel : Nat} {p0 p1 : Value} {a0 : Timpl_Lts} {a1 : (List Int)} {r : Bool} (h0 : Rd Rimpl_Lts w0 p0 a0) (h1 : Rd (rList (rInt .i64)) w0 p1 a1) (hm : impl_Lts_partitionOf_m fuel a0 a1 = some r) :
  Calls Tryz.prog 135 #[p0, p1] w0 fun e w => e = .returned (.bool r) ∧ Heap w0 [] w := by
 unfold impl_Lts_partitionOf_m at hm
 have H := Heap.start w0
 obtain ⟨c31, rfl, h32⟩ := h0
 obtain ⟨c37, c38, rfl, h39, h40⟩ := h32
 obtain rfl := h39
 obtain ⟨c41, c42, rfl, h43, h44⟩ := h40
 obtain rfl := h43
 obtain ⟨c45, c46, rfl, h47, h48⟩ := h44
 obtain ⟨v33, rfl, h34⟩ := rd_list h47
 obtain ⟨v35, rfl, h36⟩ := rd_list h48
 refine enter (args := [(.agg #[(.int .i64 a0.1), (.int .i64 a0.2.1), v33, v35]), p1]) Tryz.func135 rfl 14 rfl (Nat.le_of_ble_eq_true rfl) (fun a S => ?_)
 refine wp_seq (region_plain ?_)
 refine lx_box S trivial (by decide) rfl H rfl rfl (fun b49 w50 H => ⟨trivial, fun a S => ?_⟩)
 refine lq (.bool false) S (q_assign rfl) fun a S => ?_
 refine lx_nil (thenN ?_)
 refine wp_seq (region_plain ?_)
 refine lq p1 S (q_move rfl) fun a S => ?_
 obtain ⟨x54, e55, hm⟩ := bind_some hm
 refine lx_call (xs := [.tmp 5]) S trivial (by decide) rfl rfl Tryz.call166 ((impl_IsPartition_ok (H.arg h1) e55).mono ?_)
 rintro e w52 ⟨rfl, Hc53⟩
 have H := H.call0 Hc53
 refine ⟨_, rfl, trivial, fun a S => ?_⟩
 refine lq (.bool x54) S (q_move rfl) fun a S => ?_
 obtain ⟨t57, e58, hm⟩ := bind_some hm
 refine lx_cut 6 (fun a w => Slots a 14 [(13, (.bool t57))] ∧ Heap w0 [] w) ?_ ?_
 ·by_cases hc59 : x54 = true
  ·have hm := ite_t hc59 e58
   refine lx_q p1 S (want_b rfl rfl hc59) (by decide) (q_move rfl) (fun a S => ?_)
   refine lx_q (.int .i64 (a1.length : Int)) S (want_b rfl rfl hc59) (by decide) (q_lenSl rfl (h1).isSl rfl Tryz.underlying34) (fun a S => ?_)
   refine lx_q (pAdd (bp b49) 0) S (want_b rfl rfl hc59) (by decide) (q_fieldAddr' 0 2 rfl (isP_bp _) Tryz.underlying30 rfl Tryz.sizeOf2) (fun a S => ?_)
   refine lx_e (.int .i64 a0.1) S (want_b rfl rfl hc59) (by decide) rfl trivial (q_load1 rfl Tryz.isAgg2 (by rintro _ rfl; exact (At.of_add (m := 0) (j := 0) (boxAt (i := 0) H rfl (j := 0) rfl)))) (fun a S => ?_)
   refine lx_q (.bool ((a1.length : Int) == a0.1)) S (want_b rfl rfl hc59) (by decide) (q_eql rfl rfl) (fun a S => ?_)
   refine lq (.bool ((a1.length : Int) == a0.1)) S (q_pickT' rfl hc59 rfl) fun a S => ?_
   refine lx_nil ?_
   obtain rfl := Option.some.inj hm
   have H := H.sel [] (by decide)
   exact ⟨S.sub ⟨rfl, trivial⟩, H⟩
  ·have hm := ite_f (eq_false_of_ne_true hc59) e58
   have hc59 : x54 = false := eq_false_of_ne_true hc59
   refine lx_skip S rfl rfl (isB_ne hc59) (by decide) (fun a S => ?_)
   refine lx_skip S rfl rfl (isB_ne hc59) (by decide) (fun a S => ?_)
   refine lx_skip S rfl rfl (isB_ne hc59) (by decide) (fun a S => ?_)
   refine lx_skip S rfl rfl (isB_ne hc59) (by decide) (fun a S => ?_)
   refine lx_skip S rfl rfl (isB_ne hc59) (by decide) (fun a S => ?_)
   refine lq (.bool false) S (q_pickF' rfl hc59 rfl) fun a S => ?_
   refine lx_nil ?_
   obtain rfl := Option.some.inj hm
   have H := H.sel [] (by decide)
   exact ⟨S.sub ⟨rfl, trivial⟩, H⟩
 ·rintro a w ⟨S, H⟩
  refine lq (.bool t57) S (q_assign rfl) fun a S => ?_
  refine lx_nil (thenN ?_)
  refine wp_ret ?_
  obtain rfl := Option.some.inj hm
  exact leave1 S rfl rfl ⟨rfl, H⟩

/-- impl.ltsPartition -/
def impl_ltsPartition_m (fuel : Nat) (a0 : Timpl_Lts) (a1 : (List Int)) : Option (Int) :=
  (impl_ValidLts_m fuel (a0.1, a0.2.1, a0.2.2.1, a0.2.2.2)).bind fun x54 => (if (!x54) = true then some ((1 : Int)) else (impl_Lts_partitionOf_m fuel (a0.1, a0.2.1, a0.2.2.1, a0.2.2.2) a1).bind fun x60 => (if (!x60) = true then some ((2 : Int)) else some ((0 : Int))))
set_option maxRecDepth 20000 in
theorem impl_ltsPartition_ok {w0 : World} {fuel : Nat} {p0 p1 : Value} {a0 : Timpl_Lts} {a1 : (List Int)} {r : Int} (hG : Glob Tryz.prog w0) (h0 : Rd Rimpl_Lts w0 p0 a0) (h1 : Rd (rList (rInt .i64)) w0 p1 a1) (hm : impl_ltsPartition_m fuel a0 a1 = some r) :
  Calls Tryz.prog 92 #[p0, p1] w0 fun e w => e = .returned (.int .i64 r) ∧ Heap w0 [] w := by
 unfold impl_ltsPartition_m at hm
 have H := Heap.start w0
 obtain ⟨c31, rfl, h32⟩ := h0
 obtain ⟨c37, c38, rfl, h39, h40⟩ := h32
 obtain rfl := h39
 obtain ⟨c41, c42, rfl, h43, h44⟩ := h40
 obtain rfl := h43
 obtain ⟨c45, c46, rfl, h47, h48⟩ := h44
 obtain ⟨v33, rfl, h34⟩ := rd_list h47
 obtain ⟨v35, rfl, h36⟩ := rd_list h48
 refine enter (args := [(.agg #[(.int .i64 a0.1), (.int .i64 a0.2.1), v33, v35]), p1]) Tryz.func92 rfl 14 rfl (Nat.le_of_ble_eq_true rfl) (fun a S => ?_)
 refine wp_seq (region_plain ?_)
 refine lx_box S trivial (by decide) rfl H rfl rfl (fun b49 w50 H => ⟨trivial, fun a S => ?_⟩)
 refine lq (.int .i64 (0 : Int)) S (q_assign rfl) fun a S => ?_
 refine lx_nil (thenN ?_)
 refine wp_seq ?_
 refine wp_block ?_
 refine wp_seq (region_plain ?_)
 refine lx_e (.agg #[(.int .i64 a0.1), (.int .i64 a0.2.1), v33, v35]) S trivial (by decide) rfl trivial (q_loadA (cs := [(.int .i64 a0.1), (.int .i64 a0.2.1), v33, v35]) rfl (isP_bp _) Tryz.isAgg30 Tryz.sizeOf30 (by rintro _ rfl; exact (fun j u hu => boxAt (i := 0) H rfl hu))) (fun a S => ?_)
 obtain ⟨x54, e55, hm⟩ := bind_some hm
 refine lx_call (xs := [.tmp 6]) S trivial (by decide) rfl rfl Tryz.call22 ((impl_ValidLts_ok (hG.ext H.ext) ⟨[(.int .i64 a0.1), (.int .i64 a0.2.1), v33, v35], rfl, ⟨[(.int .i64 a0.1)], [(.int .i64 a0.2.1), v33, v35], rfl, rfl, ⟨[(.int .i64 a0.2.1)], [v33, v35], rfl, rfl, ⟨[v33], [v35], rfl, ((H.arg h34)).list_rd, ((H.arg h36)).list_rd⟩⟩⟩⟩ e55).mono ?_)
 rintro e w52 ⟨rfl, Hc53⟩
 have H := H.call0 Hc53
 refine ⟨_, rfl, trivial, fun a S => ?_⟩
 refine lq (.bool (!x54)) S (q_not rfl) fun a S => ?_
 refine lq (.bool (!x54)) S (q_assign rfl) fun a S => ?_
 refine lx_nil (thenN ?_)
 refine cond_b S rfl (fun hc57 => ?_) (fun hc57 => ?_)
 ·have hm := ite_t hc57 hm
  refine wp_seq (region_plain ?_)
  refine lq (.int .i64 (1 : Int)) S (q_assign rfl) fun a S => ?_
  refine lx_nil (thenN ?_)
  refine wp_ret (inBlock_ret ?_)
  refine then_ret ?_
  obtain rfl := Option.some.inj hm
  have H : Heap w0 [] w52 := H.sel [] (by decide)
  exact leave1 S rfl rfl ⟨rfl, H⟩
 ·have hm := ite_f hc57 hm
  refine wp_seq (region_plain ?_)
  refine lx_e (.agg #[(.int .i64 a0.1), (.int .i64 a0.2.1), v33, v35]) S trivial (by decide) rfl trivial (q_loadA (cs := [(.int .i64 a0.1), (.int .i64 a0.2.1), v33, v35]) rfl (isP_bp _) Tryz.isAgg30 Tryz.sizeOf30 (by rintro _ rfl; exact (fun j u hu => boxAt (i := 0) H rfl hu))) (fun a S => ?_)
  refine lq p1 S (q_move rfl) fun a S => ?_
  obtain ⟨x60, e61, hm⟩ := bind_some hm
  refine lx_call (xs := [.tmp 10, .tmp 11]) S trivial (by decide) rfl rfl Tryz.call135 ((impl_Lts_partitionOf_ok ⟨[(.int .i64 a0.1), (.int .i64 a0.2.1), v33, v35], rfl, ⟨[(.int .i64 a0.1)], [(.int .i64 a0.2.1), v33, v35], rfl, rfl, ⟨[(.int .i64 a0.2.1)], [v33, v35], rfl, rfl, ⟨[v33], [v35], rfl, ((H.arg h34)).list_rd, ((H.arg h36)).list_rd⟩⟩⟩⟩ (H.arg h1) e61).mono ?_)
  rintro e w58 ⟨rfl, Hc59⟩
  have H := H.call0 Hc59
  refine ⟨_, rfl, trivial, fun a S => ?_⟩
  refine lq (.bool (!x60)) S (q_not rfl) fun a S => ?_
  refine lq (.bool (!x60)) S (q_assign rfl) fun a S => ?_
  refine lx_nil (thenN ?_)
  refine cond_b S rfl (fun hc63 => ?_) (fun hc63 => ?_)
  ·have hm := ite_t hc63 hm
   refine wp_seq (region_plain ?_)
   refine lq (.int .i64 (2 : Int)) S (q_assign rfl) fun a S => ?_
   refine lx_nil (thenN ?_)
   refine wp_ret (inBlock_ret ?_)
   refine then_ret ?_
   obtain rfl := Option.some.inj hm
   have H : Heap w0 [] w58 := H.sel [] (by decide)
   exact leave1 S rfl rfl ⟨rfl, H⟩
  ·have hm := ite_f hc63 hm
   refine wp_skip ?_
   refine inBlock_norm ?_
   refine thenN ?_
   refine wp_seq (region_plain ?_)
   refine lq (.int .i64 (0 : Int)) S (q_assign rfl) fun a S => ?_
   refine lx_nil (thenN ?_)
   refine wp_ret ?_
   obtain rfl := Option.some.inj hm
   have H : Heap w0 [] w58 := H.sel [] (by decide)
   exact leave1 S rfl rfl ⟨rfl, H⟩

/-- (impl.Lts).inertOnly$1 -/
def impl_Lts_inertOnly_1_m (_ : Nat) (a0 : Timpl_Edge) (a1 : (List Int)) : Option (Bool) :=
  (if (a0.2.1 == (0 : Int)) = true then (idx a1 a0.1).bind fun x54 => (idx a1 a0.2.2).bind fun x59 => some (x54 == x59) else some false).bind fun t51 => some (t51)
set_option maxRecDepth 20000 in
theorem impl_Lts_inertOnly_1_ok {w0 : World} {fuel : Nat} {p0 p1 : Value} {a0 : Timpl_Edge} {a1 : (List Int)} {r : Bool} (h0 : Rd Rimpl_Edge w0 p0 a0) (h1 : Rd (rPtr (rList (rInt .i64))) w0 p1 a1) (hm : impl_Lts_inertOnly_1_m fuel a0 a1 = some r) :
  Calls Tryz.prog 137 #[p0, p1] w0 fun e w => e = .returned (.bool r) ∧ Heap w0 [] w := by
 unfold impl_Lts_inertOnly_1_m at hm
 have H := Heap.start w0
 obtain ⟨c31, rfl, h32⟩ := h0
 obtain ⟨c33, c34, rfl, h35, h36⟩ := h32
 obtain rfl := h35
 obtain ⟨c37, c38, rfl, h39, h40⟩ := h36
 obtain rfl := h39
 obtain rfl := h40
 obtain ⟨c41, h42, hat43⟩ := h1.ptr
 obtain ⟨v44, rfl, h45⟩ := rd_list h42
 refine enter (args := [(.agg #[(.int .i64 a0.1), (.int .i64 a0.2.1), (.int .i64 a0.2.2)]), p1]) Tryz.func137 rfl 20 rfl (Nat.le_of_ble_eq_true rfl) (fun a S => ?_)
 refine wp_seq (region_plain ?_)
 refine lx_box S trivial (by decide) rfl H rfl rfl (fun b46 w47 H => ⟨trivial, fun a S => ?_⟩)
 refine lq (.bool false) S (q_assign rfl) fun a S => ?_
 refine lx_nil (thenN ?_)
 refine wp_seq ?_
 refine region_drawG (fun w1 => Heap w0 [bA b46 [(.int .i64 a0.1), (.int .i64 a0.2.1), (.int .i64 a0.2.2)] 72] w1) (fun i => [].contains i) mixed (by kernel_rfl) (fun w50 he49 => ?_)
 have H := H.later he49
 refine ⟨H.sel [0] (by decide), ?_⟩
 refine lq (pAdd (bp b46) 1) S (q_fieldAddr' 1 2 rfl (isP_bp _) Tryz.underlying72 rfl Tryz.sizeOf2) fun a S => ?_
 refine lq (.int .i64 a0.2.1) S (q_load1 rfl Tryz.isAgg2 (fun w1 hC => (At.of_add (m := 1) (j := 0) (boxAt (i := 0) hC rfl (j := 1) rfl)))) fun a S => ?_
 refine lq (.bool (a0.2.1 == (0 : Int))) S (q_eql rfl rfl) fun a S => ?_
 refine lq (.bool (a0.2.1 == (0 : Int))) S (q_move rfl) fun a S => ?_
 obtain ⟨t51, e52, hm⟩ := bind_some hm
 refine lx_cut 12 (fun a w => Slots a 20 [(19, (.bool t51))] ∧ Heap w0 [] w) ?_ ?_
 ·by_cases hc53 : (a0.2.1 == (0 : Int)) = true
  ·have hm := ite_t hc53 e52
   refine lx_q v44 S (want_b rfl rfl hc53) (by decide) (q_load1 rfl Tryz.isAgg34 (fun w1 hC => ((hat43 0 _ rfl).ext hC.ext))) (fun a S => ?_)
   refine lx_q (pAdd (bp b46) 0) S (want_b rfl rfl hc53) (by decide) (q_fieldAddr' 0 2 rfl (isP_bp _) Tryz.underlying72 rfl Tryz.sizeOf2) (fun a S => ?_)
   refine lx_q (.int .i64 a0.1) S (want_b rfl rfl hc53) (by decide) (q_load1 rfl Tryz.isAgg2 (fun w1 hC => (At.of_add (m := 0) (j := 0) (boxAt (i := 0) hC rfl (j := 0) rfl)))) (fun a S => ?_)
   obtain ⟨x54, e55, hm⟩ := bind_some hm
   obtain ⟨c56, h57, hat58⟩ := (h45).elem (idx_some e55).2
   obtain rfl := h57
   have hlt := lt_of_idx (idx_some e55).2
   refine lx_q (ePtr v44 (a0.1.toNat * 1)) S (want_b rfl rfl hc53) (by decide) (q_indexAddr rfl (h45).isSl rfl (idx_some e55).1 hlt Tryz.underlying34 Tryz.sizeOf2) (fun a S => ?_)
   refine lx_q (.int .i64 x54) S (want_b rfl rfl hc53) (by decide) (q_load1 rfl Tryz.isAgg2 (fun w1 hC => ((hat58 0 _ rfl).ext hC.ext))) (fun a S => ?_)
   refine lx_q v44 S (want_b rfl rfl hc53) (by decide) (q_load1 rfl Tryz.isAgg34 (fun w1 hC => ((hat43 0 _ rfl).ext hC.ext))) (fun a S => ?_)
   refine lx_q (pAdd (bp b46) 2) S (want_b rfl rfl hc53) (by decide) (q_fieldAddr' 2 2 rfl (isP_bp _) Tryz.underlying72 rfl Tryz.sizeOf2) (fun a S => ?_)
   refine lx_q (.int .i64 a0.2.2) S (want_b rfl rfl hc53) (by decide) (q_load1 rfl Tryz.isAgg2 (fun w1 hC => (At.of_add (m := 2) (j := 0) (boxAt (i := 0) hC rfl (j := 2) rfl)))) (fun a S => ?_)
   obtain ⟨x59, e60, hm⟩ := bind_some hm
   obtain ⟨c61, h62, hat63⟩ := (h45).elem (idx_some e60).2
   obtain rfl := h62
   have hlt := lt_of_idx (idx_some e60).2
   refine lx_q (ePtr v44 (a0.2.2.toNat * 1)) S (want_b rfl rfl hc53) (by decide) (q_indexAddr rfl (h45).isSl rfl (idx_some e60).1 hlt Tryz.underlying34 Tryz.sizeOf2) (fun a S => ?_)
   refine lx_q (.int .i64 x59) S (want_b rfl rfl hc53) (by decide) (q_load1 rfl Tryz.isAgg2 (fun w1 hC => ((hat63 0 _ rfl).ext hC.ext))) (fun a S => ?_)
   refine lx_q (.bool (x54 == x59)) S (want_b rfl rfl hc53) (by decide) (q_eql rfl rfl) (fun a S => ?_)
   refine lq (.bool (x54 == x59)) S (q_pickT' rfl hc53 rfl) fun a S => ?_
   refine lx_nil ?_
   obtain rfl := Option.some.inj hm
   have H := H.sel [] (by decide)
   exact ⟨S.sub ⟨rfl, trivial⟩, H⟩
  ·have hm := ite_f (eq_false_of_ne_true hc53) e52
   have hc53 : (a0.2.1 == (0 : Int)) = false := eq_false_of_ne_true hc53
   refine lx_skip S rfl rfl (isB_ne hc53) (by decide) (fun a S => ?_)
   refine lx_skip S rfl rfl (isB_ne hc53) (by decide) (fun a S => ?_)
   refine lx_skip S rfl rfl (isB_ne hc53) (by decide) (fun a S => ?_)
   refine lx_skip S rfl rfl (isB_ne hc53) (by decide) (fun a S => ?_)
   refine lx_skip S rfl rfl (isB_ne hc53) (by decide) (fun a S => ?_)
   refine lx_skip S rfl rfl (isB_ne hc53) (by decide) (fun a S => ?_)
   refine lx_skip S rfl rfl (isB_ne hc53) (by decide) (fun a S => ?_)
   refine lx_skip S rfl rfl (isB_ne hc53) (by decide) (fun a S => ?_)
   refine lx_skip S rfl rfl (isB_ne hc53) (by decide) (fun a S => ?_)
   refine lx_skip S rfl rfl (isB_ne hc53) (by decide) (fun a S => ?_)
   refine lx_skip S rfl rfl (isB_ne hc53) (by decide) (fun a S => ?_)
   refine lq (.bool false) S (q_pickF' rfl hc53 rfl) fun a S => ?_
   refine lx_nil ?_
   obtain rfl := Option.some.inj hm
   have H := H.sel [] (by decide)
   exact ⟨S.sub ⟨rfl, trivial⟩, H⟩
 ·rintro a w ⟨S, H⟩
  refine lq (.bool t51) S (q_assign rfl) fun a S => ?_
  refine lx_nil (thenN ?_)
  refine wp_ret ?_
  obtain rfl := Option.some.inj hm
  exact leave1 S rfl rfl ⟨rfl, H⟩

/-- (impl.Lts).only -/
def impl_Lts_only_m (fuel : Nat) (a0 : Timpl_Lts) (a1 : (Timpl_Edge → Option Bool)) : Option (Timpl_Lts) :=
  (iter (fun (s : (List Timpl_Edge) × (Int)) => (match s with | (xs106, x108) => (if (decide (x108 < (a0.2.2.2.length : Int))) = true then join (κ := List Timpl_Edge → Option (((List Timpl_Edge) × (Int)) ⊕ (((List Timpl_Edge)) ⊕ (Timpl_Lts)))) (fun (xs168 : List Timpl_Edge) => some (.inl (xs168, (W (x108 + (1 : Int)))))) (fun K170 => (idx a0.2.2.2 x108).bind fun x172 => (a1 (x172.1, x172.2.1, x172.2.2)).bind fun x193 => (if x193 = true then (app xs106 [(x172.1, x172.2.1, x172.2.2)]).bind fun x200 => (K170 x200) else (K170 xs106))) else some (.inr (.inl (xs106)))) : Option (((List Timpl_Edge) × (Int)) ⊕ (((List Timpl_Edge)) ⊕ (Timpl_Lts))))) fuel ([], (0 : Int))).bind fun res156 => ctl (β := (List Timpl_Edge)) (ρ := Timpl_Lts) (τ := Timpl_Lts) res156 (fun (xs154) => some ((a0.1, a0.2.1, a0.2.2.1, xs154))) (fun q => some (q))
set_option maxRecDepth 20000 in
theorem impl_Lts_only_ok {w0 : World} {fuel : Nat} {p0 : Value} {a0 : Timpl_Lts} {a1 : (Timpl_Edge → Option Bool)} {f1 : Nat} {fs1 cp1 : List Value} {r : Timpl_Lts} (h0 : Rd Rimpl_Lts w0 p0 a0) (hcf1 : ∀ args w, (callFunc f1 args).run Tryz.prog w = .ok (.enter f1 args) w) (hf1 : ∀ {w : World} {x0_ : Timpl_Edge} {v0_ : Value} {y : Bool}, Ext w0 w → Rd Rimpl_Edge w v0_ x0_ → a1 x0_ = some y → Calls Tryz.prog f1 (fs1 ++ ([v0_] : List Value) ++ cp1).toArray w fun e w' => e = .returned (.bool y) ∧ Heap w [] w') (hm : impl_Lts_only_m fuel a0 a1 = some r) :
  Calls Tryz.prog 136 #[p0, .func (.func f1) fs1.toArray cp1.toArray] w0 fun e w => ∃ (v0 : Value) (v1 : Value), e = .returned (.agg #[.int .i64 r.1, .int .i64 r.2.1, v0, v1]) ∧ IsSl v0 (r.2.2.1).length ∧ Heap w0 [oA (rList Rimpl_Edge) v1 r.2.2.2] w := by
 unfold impl_Lts_only_m at hm
 have H := Heap.start w0
 obtain ⟨c31, rfl, h32⟩ := h0
 obtain ⟨c37, c38, rfl, h39, h40⟩ := h32
 obtain rfl := h39
 obtain ⟨c41, c42, rfl, h43, h44⟩ := h40
 obtain rfl := h43
 obtain ⟨c45, c46, rfl, h47, h48⟩ := h44
 obtain ⟨v33, rfl, h34⟩ := rd_list h47
 obtain ⟨v35, rfl, h36⟩ := rd_list h48
 refine enter (args := [(.agg #[(.int .i64 a0.1), (.int .i64 a0.2.1), v33, v35]), .func (.func f1) fs1.toArray cp1.toArray]) Tryz.func136 rfl 33 rfl (Nat.le_of_ble_eq_true rfl) (fun a S => ?_)
 refine wp_seq (region_plain ?_)
 refine lx_box S trivial (by decide) rfl H rfl rfl (fun b49 w50 H => ⟨trivial, fun a S => ?_⟩)
 refine lx_alloc S trivial (by decide) rfl H Tryz.zeroValue30 rfl (fun b52 w53 H => ⟨trivial, fun a S => ?_⟩)
 refine lx_nil (thenN ?_)
 refine wp_seq (region_plain ?_)
 refine lq (pAdd (bp b49) 0) S (q_fieldAddr' 0 2 rfl (isP_bp _) Tryz.underlying30 rfl Tryz.sizeOf2) fun a S => ?_
 refine lx_e (.int .i64 a0.1) S trivial (by decide) rfl trivial (q_load1 rfl Tryz.isAgg2 (by rintro _ rfl; exact (At.of_add (m := 0) (j := 0) (boxAt (i := 1) H rfl (j := 0) rfl)))) (fun a S => ?_)
 refine lq (pAdd (bp b49) 1) S (q_fieldAddr' 1 2 rfl (isP_bp _) Tryz.underlying30 rfl Tryz.sizeOf2) fun a S => ?_
 refine lx_e (.int .i64 a0.2.1) S trivial (by decide) rfl trivial (q_load1 rfl Tryz.isAgg2 (by rintro _ rfl; exact (At.of_add (m := 1) (j := 0) (boxAt (i := 1) H rfl (j := 1) rfl)))) (fun a S => ?_)
 refine lq (pAdd (bp b49) 2) S (q_fieldAddr' 2 22 rfl (isP_bp _) Tryz.underlying30 rfl Tryz.sizeOf22) fun a S => ?_
 refine lx_e v33 S trivial (by decide) rfl trivial (q_load1 rfl Tryz.isAgg22 (by rintro _ rfl; exact (At.of_add (m := 2) (j := 0) (boxAt (i := 1) H rfl (j := 2) rfl)))) (fun a S => ?_)
 refine lq (.agg #[(.int .i64 a0.1), (.int .i64 a0.2.1), v33, (.slice none 0 0)]) S (q_build (zs := [(.int .i64 (0 : Int)), (.int .i64 (0 : Int)), (.slice none 0 0), (.slice none 0 0)]) (szs := [1, 1, 1, 1]) (ps := [(0, [(.int .i64 a0.1)]), (1, [(.int .i64 a0.2.1)]), (2, [v33])]) (parts := [(0, .tmp 9), (1, .tmp 11), (2, .tmp 13)]) rfl Tryz.underlying30 Tryz.zeroValue30 (fun w => by simp [Tryz.sizeOf2, Tryz.sizeOf22, Tryz.sizeOf28]) ⟨rfl, rfl, Nat.le_of_ble_eq_true rfl, ⟨rfl, rfl, Nat.le_of_ble_eq_true rfl, ⟨rfl, (cells_sl (h34).isSl), Nat.le_of_ble_eq_true rfl, trivial⟩⟩⟩ rfl) fun a S => ?_
 refine lx_alloc S trivial (by decide) rfl H Tryz.zeroValue30 rfl (fun b55 w56 H => ⟨trivial, fun a S => ?_⟩)
 refine lx_storeBox (o := 0) (i := 0) (us := [(.int .i64 a0.1), (.int .i64 a0.2.1), v33, (.slice none 0 0)]) (cs' := [(.int .i64 a0.1), (.int .i64 a0.2.1), v33, (.slice none 0 0)]) S trivial rfl H rfl rfl rfl rfl Tryz.sizeOf30 (Nat.le_of_ble_eq_true rfl) (List.forall_mem_cons.2 ⟨rfl, (List.forall_mem_cons.2 ⟨rfl, (List.forall_mem_cons.2 ⟨one_sl (h34).isSl, (List.forall_mem_cons.2 ⟨rfl, (fun _ h => nomatch h)⟩)⟩)⟩)⟩) rfl (fun w58 H => ⟨trivial, fun a S => ?_⟩)
 change Heap w0 [bA b55 [(.int .i64 a0.1), (.int .i64 a0.2.1), v33, (.slice none 0 0)] 30, bA b52 [(.int .i64 (0 : Int)), (.int .i64 (0 : Int)), (.slice none 0 0), (.slice none 0 0)] 30, bA b49 [(.int .i64 a0.1), (.int .i64 a0.2.1), v33, v35] 30] w58 at H
 refine lx_nil (thenN ?_)
 refine wp_seq (wp_seq (region_plain ?_))
 refine lq (pAdd (bp b49) 3) S (q_fieldAddr' 3 28 rfl (isP_bp _) Tryz.underlying30 rfl Tryz.sizeOf28) fun a S => ?_
 refine lx_e v35 S trivial (by decide) rfl trivial (q_load1 rfl Tryz.isAgg28 (by rintro _ rfl; exact (At.of_add (m := 3) (j := 0) (boxAt (i := 2) H rfl (j := 3) rfl)))) (fun a S => ?_)
 refine lq (.int .i64 (a0.2.2.2.length : Int)) S (q_lenSl rfl (h36).isSl rfl Tryz.underlying28) fun a S => ?_
 refine lq (.int .i64 (0 : Int)) S (q_move rfl) fun a S => ?_
 refine lx_nil (thenN ?_)
 obtain ⟨res156, hit157, hk160⟩ := bind_some hm
 obtain ⟨f158, hf159, hit157⟩ := iter_name hit157
 refine block_loop (fun a w => ∃ (xs154 : List Timpl_Edge) (v153 : Value), Slots a 33 [(4, (bp b52)), (5, (bp b55))] ∧ Heap w0 [bA b52 [(.int .i64 (0 : Int)), (.int .i64 (0 : Int)), (.slice none 0 0), (.slice none 0 0)] 30, bA b55 [(.int .i64 a0.1), (.int .i64 a0.2.1), v33, v153] 30, oA (rList Rimpl_Edge) v153 xs154] w ∧ res156 = .inl (xs154)) ?_ ?_
 ·rintro a w ⟨xs154, v153, S, H, rfl⟩
  have hm := ctl_inl hk160
  refine thenN ?_
  refine wp_seq (region_plain ?_)
  refine lx_e (.agg #[(.int .i64 a0.1), (.int .i64 a0.2.1), v33, v153]) S trivial (by decide) rfl trivial (q_loadA (cs := [(.int .i64 a0.1), (.int .i64 a0.2.1), v33, v153]) rfl (isP_bp _) Tryz.isAgg30 Tryz.sizeOf30 (by rintro _ rfl; exact (fun j u hu => boxAt (i := 1) H rfl hu))) (fun a S => ?_)
  refine lx_storeBox (o := 0) (i := 0) (us := [(.int .i64 a0.1), (.int .i64 a0.2.1), v33, v153]) (cs' := [(.int .i64 a0.1), (.int .i64 a0.2.1), v33, v153]) S trivial rfl H rfl rfl rfl rfl Tryz.sizeOf30 (Nat.le_of_ble_eq_true rfl) (List.forall_mem_cons.2 ⟨rfl, (List.forall_mem_cons.2 ⟨rfl, (List.forall_mem_cons.2 ⟨one_sl (h34).isSl, (List.forall_mem_cons.2 ⟨one_sl (H.isSl 2 rfl), (fun _ h => nomatch h)⟩)⟩)⟩)⟩) rfl (fun w161 H => ⟨trivial, fun a S => ?_⟩)
  change Heap w0 [bA b52 [(.int .i64 a0.1), (.int .i64 a0.2.1), v33, v153] 30, bA b55 [(.int .i64 a0.1), (.int .i64 a0.2.1), v33, v153] 30, oA (rList Rimpl_Edge) v153 xs154] w161 at H
  refine lx_nil (thenN ?_)
  refine wp_ret ?_
  have hrv0 := RV.cellA (t := 30) (q := 4) (env := [(4, (bp b52)), (5, (bp b55)), (32, (.agg #[(.int .i64 a0.1), (.int .i64 a0.2.1), v33, v153]))]) H (i := 0) rfl rfl Tryz.isAgg30 Tryz.sizeOf30
  obtain rfl := Option.some.inj hm
  have H : Heap w0 [oA (rList Rimpl_Edge) v153 xs154] w161 := H.sel [2] (by decide)
  exact leaveR1 S rfl hrv0 ⟨v33, v153, rfl, (h34).isSl, H⟩
 ·skip
  have H : Heap w0 [oA (rList Rimpl_Edge) (.slice none 0 0) ([] : List Timpl_Edge), bA b55 [(.int .i64 a0.1), (.int .i64 a0.2.1), v33, (.slice none 0 0)] 30, bA b52 [(.int .i64 (0 : Int)), (.int .i64 (0 : Int)), (.slice none 0 0), (.slice none 0 0)] 30, bA b49 [(.int .i64 a0.1), (.int .i64 a0.2.1), v33, v35] 30] w58 := H.nilList Rimpl_Edge
  have H : Heap w0 [bA b55 [(.int .i64 a0.1), (.int .i64 a0.2.1), v33, (.slice none 0 0)] 30, oA (rList Rimpl_Edge) (.slice none 0 0) ([] : List Timpl_Edge), bA b52 [(.int .i64 (0 : Int)), (.int .i64 (0 : Int)), (.slice none 0 0), (.slice none 0 0)] 30, bA b49 [(.int .i64 a0.1), (.int .i64 a0.2.1), v33, v35] 30] w58 := H.front 1 rfl
  have H : Heap w0 [bA b52 [(.int .i64 (0 : Int)), (.int .i64 (0 : Int)), (.slice none 0 0), (.slice none 0 0)] 30, bA b55 [(.int .i64 a0.1), (.int .i64 a0.2.1), v33, (.slice none 0 0)] 30, oA (rList Rimpl_Edge) (.slice none 0 0) ([] : List Timpl_Edge), bA b49 [(.int .i64 a0.1), (.int .i64 a0.2.1), v33, v35] 30] w58 := H.front 2 rfl
  have H : Heap w0 [bA b52 [(.int .i64 (0 : Int)), (.int .i64 (0 : Int)), (.slice none 0 0), (.slice none 0 0)] 30, bA b55 [(.int .i64 a0.1), (.int .i64 a0.2.1), v33, (.slice none 0 0)] 30, oA (rList Rimpl_Edge) (.slice none 0 0) ([] : List Timpl_Edge)] w58 := H.sel [0, 1, 2] (by decide)
  refine loop_ghost (fun n a w => ∃ (xs106 : List Timpl_Edge) (x108 : Int) (v105 : Value), Slots a 33 [(1, (.func (.func f1) fs1.toArray cp1.toArray)), (4, (bp b52)), (5, (bp b55)), (16, v35), (17, (.int .i64 (a0.2.2.2.length : Int))), (18, (.int .i64 x108))] ∧ Heap w0 [bA b52 [(.int .i64 (0 : Int)), (.int .i64 (0 : Int)), (.slice none 0 0), (.slice none 0 0)] 30, bA b55 [(.int .i64 a0.1), (.int .i64 a0.2.1), v33, v105] 30, oA (rList Rimpl_Edge) v105 xs106] w ∧ iter f158 n (xs106, x108) = some res156) _ ⟨[], (0 : Int), (.slice none 0 0), S.sub ⟨rfl, rfl, rfl, rfl, rfl, rfl, trivial⟩, H, hit157⟩ ?_
  rintro n a w ⟨xs106, x108, v105, S, H, hit157⟩
  obtain ⟨m163, o164, rfl, hm, hc165⟩ := iter_step hit157
  rw [hf159] at hm
  refine wp_seq (region_plain ?_)
  refine lq (.bool (decide (x108 < (a0.2.2.2.length : Int)))) S (q_lss rfl rfl) fun a S => ?_
  refine lx_nil (thenN ?_)
  refine wp_seq ?_
  refine cond_b S rfl (fun hc166 => ?_) (fun hc166 => ?_)
  ·have hm := ite_t hc166 hm
   refine wp_skip (thenN ?_)
   obtain ⟨K170, hK171, hm⟩ := join_elim hm
   refine seq_cut (fun a w => ∃ (xs168 : List Timpl_Edge) (v167 : Value), Slots a 33 [(1, (.func (.func f1) fs1.toArray cp1.toArray)), (4, (bp b52)), (5, (bp b55)), (16, v35), (17, (.int .i64 (a0.2.2.2.length : Int))), (18, (.int .i64 x108))] ∧ Heap w0 [bA b52 [(.int .i64 (0 : Int)), (.int .i64 (0 : Int)), (.slice none 0 0), (.slice none 0 0)] 30, bA b55 [(.int .i64 a0.1), (.int .i64 a0.2.1), v33, v167] 30, oA (rList Rimpl_Edge) v167 xs168] w ∧ K170 xs168 = some o164) ?_ ?_
   ·rintro a w ⟨xs168, v167, S, H, hm⟩
    subst hK171
    refine region_plain ?_
    refine lq (.int .i64 (W (x108 + (1 : Int)))) S (q_add rfl rfl) fun a S => ?_
    refine lq (.int .i64 (W (x108 + (1 : Int)))) S (q_move rfl) fun a S => ?_
    refine lx_nil ?_
    exact ⟨m163, Nat.lt_succ_self _, xs168, (W (x108 + (1 : Int))), v167, S.sub ⟨rfl, rfl, rfl, rfl, rfl, rfl, trivial⟩, H, it_cont hm hc165⟩
   ·skip
    refine wp_block ?_
    refine wp_seq (region_plain ?_)
    obtain ⟨x172, e173, hm⟩ := bind_some hm
    obtain ⟨c174, h175, hat176⟩ := (h36).elem (idx_some e173).2
    obtain ⟨c177, c178, rfl, h179, h180⟩ := h175
    obtain rfl := h179
    obtain ⟨c181, c182, rfl, h183, h184⟩ := h180
    obtain rfl := h183
    obtain rfl := h184
    have hlt := lt_of_idx (idx_some e173).2
    refine lq (ePtr v35 (x108.toNat * 3)) S (q_indexAddr rfl (h36).isSl rfl (idx_some e173).1 hlt Tryz.underlying28 Tryz.sizeOf72) fun a S => ?_
    refine lx_e (.agg #[(.int .i64 x172.1), (.int .i64 x172.2.1), (.int .i64 x172.2.2)]) S trivial (by decide) rfl trivial (q_loadA (cs := [(.int .i64 x172.1), (.int .i64 x172.2.1), (.int .i64 x172.2.2)]) rfl ((hat176 0 _ rfl).isP) Tryz.isAgg72 Tryz.sizeOf72 (by rintro _ rfl; exact (fun j u hu => (hat176 j u hu).ext H.ext))) (fun a S => ?_)
    refine lx_alloc S trivial (by decide) rfl H Tryz.zeroValue72 rfl (fun b185 w186 H => ⟨trivial, fun a S => ?_⟩)
    refine lx_storeBox (o := 0) (i := 0) (us := [(.int .i64 x172.1), (.int .i64 x172.2.1), (.int .i64 x172.2.2)]) (cs' := [(.int .i64 x172.1), (.int .i64 x172.2.1), (.int .i64 x172.2.2)]) S trivial rfl H rfl rfl rfl rfl Tryz.sizeOf72 (Nat.le_of_ble_eq_true rfl) (List.forall_mem_cons.2 ⟨rfl, (List.forall_mem_cons.2 ⟨rfl, (List.forall_mem_cons.2 ⟨rfl, (fun _ h => nomatch h)⟩)⟩)⟩) rfl (fun w188 H => ⟨trivial, fun a S => ?_⟩)
    change Heap w0 [bA b185 [(.int .i64 x172.1), (.int .i64 x172.2.1), (.int .i64 x172.2.2)] 72, bA b52 [(.int .i64 (0 : Int)), (.int .i64 (0 : Int)), (.slice none 0 0), (.slice none 0 0)] 30, bA b55 [(.int .i64 a0.1), (.int .i64 a0.2.1), v33, v105] 30, oA (rList Rimpl_Edge) v105 xs106] w188 at H
    refine lx_nil (thenN ?_)
    refine wp_seq (region_plain ?_)
    refine lq (.func (.func f1) fs1.toArray cp1.toArray) S (q_move rfl) fun a S => ?_
    refine lx_e (.agg #[(.int .i64 x172.1), (.int .i64 x172.2.1), (.int .i64 x172.2.2)]) S trivial (by decide) rfl trivial (q_loadA (cs := [(.int .i64 x172.1), (.int .i64 x172.2.1), (.int .i64 x172.2.2)]) rfl (isP_bp _) Tryz.isAgg72 Tryz.sizeOf72 (by rintro _ rfl; exact (fun j u hu => boxAt (i := 0) H rfl hu))) (fun a S => ?_)
    obtain ⟨x193, e194, hm⟩ := bind_some hm
    refine lx_callV (f := f1) (first := fs1) (cap := cp1) (xs := [.tmp 23]) S trivial (by decide) rfl rfl rfl hcf1 ((hf1 H.ext ⟨[(.int .i64 x172.1), (.int .i64 x172.2.1), (.int .i64 x172.2.2)], rfl, ⟨[(.int .i64 x172.1)], [(.int .i64 x172.2.1), (.int .i64 x172.2.2)], rfl, rfl, ⟨[(.int .i64 x172.2.1)], [(.int .i64 x172.2.2)], rfl, rfl, rfl⟩⟩⟩ e194).mono ?_)
    rintro e w191 ⟨rfl, Hc192⟩
    have H := H.call0 Hc192
    refine ⟨_, rfl, trivial, fun a S => ?_⟩
    refine lx_nil (thenN ?_)
    refine cond_b S rfl (fun hc196 => ?_) (fun hc196 => ?_)
    ·have hm := ite_t hc196 hm
     refine region_plain ?_
     refine lq (pAdd (bp b55) 3) S (q_fieldAddr' 3 28 rfl (isP_bp _) Tryz.underlying30 rfl Tryz.sizeOf28) fun a S => ?_
     refine lx_e v105 S trivial (by decide) rfl trivial (q_load1 rfl Tryz.isAgg28 (by rintro _ rfl; exact (At.of_add (m := 3) (j := 0) (boxAt (i := 2) H rfl (j := 3) rfl)))) (fun a S => ?_)
     refine lx_e (.agg #[(.int .i64 x172.1), (.int .i64 x172.2.1), (.int .i64 x172.2.2)]) S trivial (by decide) rfl trivial (q_loadA (cs := [(.int .i64 x172.1), (.int .i64 x172.2.1), (.int .i64 x172.2.2)]) rfl (isP_bp _) Tryz.isAgg72 Tryz.sizeOf72 (by rintro _ rfl; exact (fun j u hu => boxAt (i := 0) H rfl hu))) (fun a S => ?_)
     refine lx_buildSlice (r := Rimpl_Edge) (xs := [(x172.1, x172.2.1, x172.2.2)]) (ps := [(0, [(.int .i64 x172.1), (.int .i64 x172.2.1), (.int .i64 x172.2.2)])]) (cs := [(.int .i64 x172.1), (.int .i64 x172.2.1), (.int .i64 x172.2.2)]) (parts := [(0, .tmp 27)]) S trivial (by decide) rfl (H.put0 (A := eA) rfl) rfl Tryz.underlying28 Tryz.sizeOf72 Tryz.zeroValue72 (by decide) ⟨rfl, rfl, Nat.le_of_ble_eq_true rfl, trivial⟩ (by intro zs hz; exact fill_dense hz ⟨rfl, trivial⟩ rfl rfl) rfl (by decide) (fun w F hA => by cases (show F = [] from hA); exact ⟨_, _, [(.int .i64 x172.1), (.int .i64 x172.2.1), (.int .i64 x172.2.2)], _, rfl, rfl, ⟨_, _, [(.int .i64 x172.1)], [(.int .i64 x172.2.1), (.int .i64 x172.2.2)], rfl, rfl, ⟨rfl, rfl⟩, ⟨_, _, [(.int .i64 x172.2.1)], [(.int .i64 x172.2.2)], rfl, rfl, ⟨rfl, rfl⟩, ⟨rfl, rfl⟩⟩⟩, ⟨rfl, rfl⟩⟩) (fun v197 w198 H => ⟨trivial, fun a S => ?_⟩)
     obtain ⟨x200, e201, hm⟩ := bind_some hm
     obtain ⟨hle, hap⟩ := app_some e201
     replace hap := hap.symm
     subst hap
     have H : Heap w0 [oA (rList Rimpl_Edge) v197 [(x172.1, x172.2.1, x172.2.2)], bA b185 [(.int .i64 x172.1), (.int .i64 x172.2.1), (.int .i64 x172.2.2)] 72, bA b52 [(.int .i64 (0 : Int)), (.int .i64 (0 : Int)), (.slice none 0 0), (.slice none 0 0)] 30, bA b55 [(.int .i64 a0.1), (.int .i64 a0.2.1), v33, v105] 30, oA (rList Rimpl_Edge) v105 xs106] w198 := H.front 0 rfl
     have H : Heap w0 [oA (rList Rimpl_Edge) v105 xs106, oA (rList Rimpl_Edge) v197 [(x172.1, x172.2.1, x172.2.2)], bA b185 [(.int .i64 x172.1), (.int .i64 x172.2.1), (.int .i64 x172.2.2)] 72, bA b52 [(.int .i64 (0 : Int)), (.int .i64 (0 : Int)), (.slice none 0 0), (.slice none 0 0)] 30, bA b55 [(.int .i64 a0.1), (.int .i64 a0.2.1), v33, v105] 30] w198 := H.front 4 rfl
     refine lx_appendOwn (r := Rimpl_Edge) S trivial (by decide) rfl H rfl rfl Tryz.underlying28 Tryz.ti72 rfl rfl rfl (by decide) (by decide) hle (fun v202 w203 H => ⟨trivial, fun a S => ?_⟩)
     refine lq (pAdd (bp b55) 3) S (q_fieldAddr' 3 28 rfl (isP_bp _) Tryz.underlying30 rfl Tryz.sizeOf28) fun a S => ?_
     refine lx_storeBox (o := 3) (i := 3) (us := [v202]) (cs' := [(.int .i64 a0.1), (.int .i64 a0.2.1), v33, v202]) S trivial rfl H rfl rfl rfl (cells_sl (H.isSl 0 rfl)) Tryz.sizeOf28 (Nat.le_of_ble_eq_true rfl) (List.forall_mem_cons.2 ⟨one_sl (H.isSl 0 rfl), (fun _ h => nomatch h)⟩) rfl (fun w205 H => ⟨trivial, fun a S => ?_⟩)
     change Heap w0 [oA (rList Rimpl_Edge) v202 (xs106 ++ [(x172.1, x172.2.1, x172.2.2)]), bA b185 [(.int .i64 x172.1), (.int .i64 x172.2.1), (.int .i64 x172.2.2)] 72, bA b52 [(.int .i64 (0 : Int)), (.int .i64 (0 : Int)), (.slice none 0 0), (.slice none 0 0)] 30, bA b55 [(.int .i64 a0.1), (.int .i64 a0.2.1), v33, v202] 30] w205 at H
     refine lx_nil ?_
     refine inBlock_norm ?_
     have H : Heap w0 [bA b55 [(.int .i64 a0.1), (.int .i64 a0.2.1), v33, v202] 30, oA (rList Rimpl_Edge) v202 (xs106 ++ [(x172.1, x172.2.1, x172.2.2)]), bA b185 [(.int .i64 x172.1), (.int .i64 x172.2.1), (.int .i64 x172.2.2)] 72, bA b52 [(.int .i64 (0 : Int)), (.int .i64 (0 : Int)), (.slice none 0 0), (.slice none 0 0)] 30] w205 := H.front 3 rfl
     have H : Heap w0 [bA b52 [(.int .i64 (0 : Int)), (.int .i64 (0 : Int)), (.slice none 0 0), (.slice none 0 0)] 30, bA b55 [(.int .i64 a0.1), (.int .i64 a0.2.1), v33, v202] 30, oA (rList Rimpl_Edge) v202 (xs106 ++ [(x172.1, x172.2.1, x172.2.2)]), bA b185 [(.int .i64 x172.1), (.int .i64 x172.2.1), (.int .i64 x172.2.2)] 72] w205 := H.front 3 rfl
     have H : Heap w0 [bA b52 [(.int .i64 (0 : Int)), (.int .i64 (0 : Int)), (.slice none 0 0), (.slice none 0 0)] 30, bA b55 [(.int .i64 a0.1), (.int .i64 a0.2.1), v33, v202] 30, oA (rList Rimpl_Edge) v202 (xs106 ++ [(x172.1, x172.2.1, x172.2.2)])] w205 := H.sel [0, 1, 2] (by decide)
     exact ⟨(xs106 ++ [(x172.1, x172.2.1, x172.2.2)]), v202, S.sub ⟨rfl, rfl, rfl, rfl, rfl, rfl, trivial⟩, H, hm⟩
    ·have hm := ite_f hc196 hm
     refine wp_skip ?_
     refine inBlock_norm ?_
     have H : Heap w0 [bA b52 [(.int .i64 (0 : Int)), (.int .i64 (0 : Int)), (.slice none 0 0), (.slice none 0 0)] 30, bA b55 [(.int .i64 a0.1), (.int .i64 a0.2.1), v33, v105] 30, oA (rList Rimpl_Edge) v105 xs106] w191 := H.sel [1, 2, 3] (by decide)
     exact ⟨xs106, v105, S.sub ⟨rfl, rfl, rfl, rfl, rfl, rfl, trivial⟩, H, hm⟩
  ·have hm := ite_f hc166 hm
   refine wp_exit ?_
   refine then_exit ?_
   refine then_exit ?_
   refine inBlock_exit ?_
   obtain rfl := it_brk hm hc165
   exact ⟨xs106, v105, S.sub ⟨rfl, rfl, trivial⟩, H, rfl⟩

/-- (impl.Lts).inertOnly -/
def impl_Lts_inertOnly_m (fuel : Nat) (a0 : Timpl_Lts) (a1 : (List Int)) : Option (Timpl_Lts) :=
  (impl_Lts_only_m fuel (a0.1, a0.2.1, a0.2.2.1, a0.2.2.2) (fun (z0 : Timpl_Edge) => impl_Lts_inertOnly_1_m fuel z0 a1)).bind fun x60 => some ((x60.1, x60.2.1, x60.2.2.1, x60.2.2.2))
set_option maxRecDepth 20000 in
theorem impl_Lts_inertOnly_ok {w0 : World} {fuel : Nat} {p0 p1 : Value} {a0 : Timpl_Lts} {a1 : (List Int)} {r : Timpl_Lts} (h0 : Rd Rimpl_Lts w0 p0 a0) (h1 : Rd (rList (rInt .i64)) w0 p1 a1) (hm : impl_Lts_inertOnly_m fuel a0 a1 = some r) :
  Calls Tryz.prog 93 #[p0, p1] w0 fun e w => ∃ (v0 : Value) (v1 : Value), e = .returned (.agg #[.int .i64 r.1, .int .i64 r.2.1, v0, v1]) ∧ IsSl v0 (r.2.2.1).length ∧ Heap w0 [oA (rList Rimpl_Edge) v1 r.2.2.2] w := by
 unfold impl_Lts_inertOnly_m at hm
 have H := Heap.start w0
 obtain ⟨c31, rfl, h32⟩ := h0
 obtain ⟨c37, c38, rfl, h39, h40⟩ := h32
 obtain rfl := h39
 obtain ⟨c41, c42, rfl, h43, h44⟩ := h40
 obtain rfl := h43
 obtain ⟨c45, c46, rfl, h47, h48⟩ := h44
 obtain ⟨v33, rfl, h34⟩ := rd_list h47
 obtain ⟨v35, rfl, h36⟩ := rd_list h48
 refine enter (args := [(.agg #[(.int .i64 a0.1), (.int .i64 a0.2.1), v33, v35]), p1]) Tryz.func93 rfl 8 rfl (Nat.le_of_ble_eq_true rfl) (fun a S => ?_)
 refine wp_seq (region_plain ?_)
 refine lx_box S trivial (by decide) rfl H rfl rfl (fun b49 w50 H => ⟨trivial, fun a S => ?_⟩)
 refine lx_box S trivial (by decide) rfl H rfl (cells_sl (h1).isSl) (fun b52 w53 H => ⟨trivial, fun a S => ?_⟩)
 refine lx_alloc S trivial (by decide) rfl H Tryz.zeroValue30 rfl (fun b55 w56 H => ⟨trivial, fun a S => ?_⟩)
 refine lx_nil (thenN ?_)
 refine wp_seq (region_plain ?_)
 refine lx_e (.agg #[(.int .i64 a0.1), (.int .i64 a0.2.1), v33, v35]) S trivial (by decide) rfl trivial (q_loadA (cs := [(.int .i64 a0.1), (.int .i64 a0.2.1), v33, v35]) rfl (isP_bp _) Tryz.isAgg30 Tryz.sizeOf30 (by rintro _ rfl; exact (fun j u hu => boxAt (i := 2) H rfl hu))) (fun a S => ?_)
 refine lq (.func (.func 137) #[] #[(bp b52)]) S (q_makeFunc (xs := []) (ys := [.tmp 3]) rfl rfl) fun a S => ?_
 obtain ⟨x60, e61, hm⟩ := bind_some hm
 have hcap62 : Rd (rPtr (rList (rInt .i64))) w56 (bp b52) a1 := (rdPtr_box H 1 rfl ((H.arg h1)).list_rd)
 refine lx_call (xs := [.tmp 5, .tmp 6]) S trivial (by decide) rfl rfl Tryz.call136 ((impl_Lts_only_ok (f1 := 137) (fs1 := ([] : List Value)) (cp1 := ([(bp b52)] : List Value)) (a1 := (fun (z0 : Timpl_Edge) => impl_Lts_inertOnly_1_m fuel z0 a1)) ⟨[(.int .i64 a0.1), (.int .i64 a0.2.1), v33, v35], rfl, ⟨[(.int .i64 a0.1)], [(.int .i64 a0.2.1), v33, v35], rfl, rfl, ⟨[(.int .i64 a0.2.1)], [v33, v35], rfl, rfl, ⟨[v33], [v35], rfl, ((H.arg h34)).list_rd, ((H.arg h36)).list_rd⟩⟩⟩⟩ Tryz.call137 (fun he h0_ hm => impl_Lts_inertOnly_1_ok h0_ (hcap62.ext he) hm) e61).mono ?_)
 rintro e w58 ⟨v63, v64, rfl, hs67, Hc59⟩
 have H := H.call1 Hc59
 refine ⟨_, rfl, trivial, fun a S => ?_⟩
 refine lx_storeBox (o := 0) (i := 1) (us := [(.int .i64 x60.1), (.int .i64 x60.2.1), v63, v64]) (cs' := [(.int .i64 x60.1), (.int .i64 x60.2.1), v63, v64]) S trivial rfl H rfl rfl rfl rfl Tryz.sizeOf30 (Nat.le_of_ble_eq_true rfl) (List.forall_mem_cons.2 ⟨rfl, (List.forall_mem_cons.2 ⟨rfl, (List.forall_mem_cons.2 ⟨one_sl hs67, (List.forall_mem_cons.2 ⟨one_sl (H.isSl 0 rfl), (fun _ h => nomatch h)⟩)⟩)⟩)⟩) rfl (fun w69 H => ⟨trivial, fun a S => ?_⟩)
 change Heap w0 [oA (rList Rimpl_Edge) v64 x60.2.2.2, bA b55 [(.int .i64 x60.1), (.int .i64 x60.2.1), v63, v64] 30, bA b52 [p1] 34, bA b49 [(.int .i64 a0.1), (.int .i64 a0.2.1), v33, v35] 30] w69 at H
 refine lx_nil (thenN ?_)
 refine wp_ret ?_
 have hrv0 := RV.cellA (t := 30) (q := 4) (env := [(0, (.agg #[(.int .i64 a0.1), (.int .i64 a0.2.1), v33, v35])), (1, p1), (2, (bp b49)), (3, (bp b52)), (4, (bp b55)), (5, (.agg #[(.int .i64 a0.1), (.int .i64 a0.2.1), v33, v35])), (6, (.func (.func 137) #[] #[(bp b52)])), (7, (.agg #[(.int .i64 x60.1), (.int .i64 x60.2.1), v63, v64]))]) H (i := 1) rfl rfl Tryz.isAgg30 Tryz.sizeOf30
 obtain rfl := Option.some.inj hm
 have H : Heap w0 [oA (rList Rimpl_Edge) v64 x60.2.2.2] w69 := H.sel [0] (by decide)
 exact leaveR1 S rfl hrv0 ⟨v63, v64, rfl, hs67, H⟩

/-- impl.InertEdges -/
def impl_InertEdges_m (fuel : Nat) (a0 : Timpl_Lts) (a1 : (List Int)) : Option (((List Timpl_Edge) × Int)) :=
  (impl_ltsPartition_m fuel (a0.1, a0.2.1, a0.2.2.1, a0.2.2.2) a1).bind fun x54 => (if (x54 != (0 : Int)) = true then some (([], x54)) else (impl_Lts_inertOnly_m fuel (a0.1, a0.2.1, a0.2.2.1, a0.2.2.2) a1).bind fun x61 => some ((x61.2.2.2, (0 : Int))))
set_option maxRecDepth 20000 in
theorem impl_InertEdges_ok {w0 : World} {fuel : Nat} {p0 p1 : Value} {a0 : Timpl_Lts} {a1 : (List Int)} {r : ((List Timpl_Edge) × Int)} (hG : Glob Tryz.prog w0) (h0 : Rd Rimpl_Lts w0 p0 a0) (h1 : Rd (rList (rInt .i64)) w0 p1 a1) (hm : impl_InertEdges_m fuel a0 a1 = some r) :
  Calls Tryz.prog 46 #[p0, p1] w0 fun e w => ∃ (v0 : Value), e = .returned (.tuple #[v0, .int .i64 r.2]) ∧ Heap w0 [oA (rList Rimpl_Edge) v0 r.1] w := by
 unfold impl_InertEdges_m at hm
 have H := Heap.start w0
 obtain ⟨c31, rfl, h32⟩ := h0
 obtain ⟨c37, c38, rfl, h39, h40⟩ := h32
 obtain rfl := h39
 obtain ⟨c41, c42, rfl, h43, h44⟩ := h40
 obtain rfl := h43
 obtain ⟨c45, c46, rfl, h47, h48⟩ := h44
 obtain ⟨v33, rfl, h34⟩ := rd_list h47
 obtain ⟨v35, rfl, h36⟩ := rd_list h48
 refine enter (args := [(.agg #[(.int .i64 a0.1), (.int .i64 a0.2.1), v33, v35]), p1]) Tryz.func46 rfl 17 rfl (Nat.le_of_ble_eq_true rfl) (fun a S => ?_)
 refine wp_seq (region_plain ?_)
 refine lx_box S trivial (by decide) rfl H rfl rfl (fun b49 w50 H => ⟨trivial, fun a S => ?_⟩)
 refine lq (.slice none 0 0) S (q_assign rfl) fun a S => ?_
 refine lq (.int .i64 (0 : Int)) S (q_assign rfl) fun a S => ?_
 refine lx_nil (thenN ?_)
 refine wp_seq (wp_seq (region_plain ?_))
 refine lx_e (.agg #[(.int .i64 a0.1), (.int .i64 a0.2.1), v33, v35]) S trivial (by decide) rfl trivial (q_loadA (cs := [(.int .i64 a0.1), (.int .i64 a0.2.1), v33, v35]) rfl (isP_bp _) Tryz.isAgg30 Tryz.sizeOf30 (by rintro _ rfl; exact (fun j u hu => boxAt (i := 0) H rfl hu))) (fun a S => ?_)
 refine lq p1 S (q_move rfl) fun a S => ?_
 obtain ⟨x54, e55, hm⟩ := bind_some hm
 refine lx_call (xs := [.tmp 7, .tmp 8]) S trivial (by decide) rfl rfl Tryz.call92 ((impl_ltsPartition_ok (hG.ext H.ext) ⟨[(.int .i64 a0.1), (.int .i64 a0.2.1), v33, v35], rfl, ⟨[(.int .i64 a0.1)], [(.int .i64 a0.2.1), v33, v35], rfl, rfl, ⟨[(.int .i64 a0.2.1)], [v33, v35], rfl, rfl, ⟨[v33], [v35], rfl, ((H.arg h34)).list_rd, ((H.arg h36)).list_rd⟩⟩⟩⟩ (H.arg h1) e55).mono ?_)
 rintro e w52 ⟨rfl, Hc53⟩
 have H := H.call0 Hc53
 refine ⟨_, rfl, trivial, fun a S => ?_⟩
 refine lq (.int .i64 x54) S (q_assign rfl) fun a S => ?_
 refine lx_nil (thenN ?_)
 refine wp_seq (region_plain ?_)
 refine lq (.int .i64 x54) S (q_move rfl) fun a S => ?_
 refine lq (.bool (x54 != (0 : Int))) S (q_neq rfl rfl) fun a S => ?_
 refine lx_nil (thenN ?_)
 refine cond_b S rfl (fun hc57 => ?_) (fun hc57 => ?_)
 ·have hm := ite_t hc57 hm
  refine wp_seq (region_plain ?_)
  refine lq (.int .i64 x54) S (q_move rfl) fun a S => ?_
  refine lq (.slice none 0 0) S (q_assign rfl) fun a S => ?_
  refine lq (.int .i64 x54) S (q_assign rfl) fun a S => ?_
  refine lx_nil (thenN ?_)
  refine wp_ret (then_ret ?_)
  obtain rfl := Option.some.inj hm
  have H : Heap w0 [oA (rList Rimpl_Edge) (.slice none 0 0) ([] : List Timpl_Edge), bA b49 [(.int .i64 a0.1), (.int .i64 a0.2.1), v33, v35] 30] w52 := H.nilList Rimpl_Edge
  have H : Heap w0 [oA (rList Rimpl_Edge) (.slice none 0 0) ([] : List Timpl_Edge)] w52 := H.sel [0] (by decide)
  exact leave2 S rfl rfl rfl ⟨(.slice none 0 0), rfl, H⟩
 ·have hm := ite_f hc57 hm
  refine wp_skip (thenN ?_)
  refine wp_seq (region_plain ?_)
  refine lx_e (.agg #[(.int .i64 a0.1), (.int .i64 a0.2.1), v33, v35]) S trivial (by decide) rfl trivial (q_loadA (cs := [(.int .i64 a0.1), (.int .i64 a0.2.1), v33, v35]) rfl (isP_bp _) Tryz.isAgg30 Tryz.sizeOf30 (by rintro _ rfl; exact (fun j u hu => boxAt (i := 0) H rfl hu))) (fun a S => ?_)
  refine lq p1 S (q_move rfl) fun a S => ?_
  obtain ⟨x61, e62, hm⟩ := bind_some hm
  refine lx_call (xs := [.tmp 13, .tmp 14]) S trivial (by decide) rfl rfl Tryz.call93 ((impl_Lts_inertOnly_ok ⟨[(.int .i64 a0.1), (.int .i64 a0.2.1), v33, v35], rfl, ⟨[(.int .i64 a0.1)], [(.int .i64 a0.2.1), v33, v35], rfl, rfl, ⟨[(.int .i64 a0.2.1)], [v33, v35], rfl, rfl, ⟨[v33], [v35], rfl, ((H.arg h34)).list_rd, ((H.arg h36)).list_rd⟩⟩⟩⟩ (H.arg h1) e62).mono ?_)
  rintro e w59 ⟨v63, v64, rfl, hs67, Hc60⟩
  have H := H.call1 Hc60
  refine ⟨_, rfl, trivial, fun a S => ?_⟩
  refine lq v64 S (q_field1 (cs := [(.int .i64 x61.1), (.int .i64 x61.2.1), v63, v64]) rfl Tryz.underlying30 rfl Tryz.isAgg28 rfl) fun a S => ?_
  refine lq v64 S (q_assign rfl) fun a S => ?_
  refine lq (.int .i64 (0 : Int)) S (q_assign rfl) fun a S => ?_
  refine lx_nil (thenN ?_)
  refine wp_ret ?_
  obtain rfl := Option.some.inj hm
  have H : Heap w0 [oA (rList Rimpl_Edge) v64 x61.2.2.2] w59 := H.sel [0] (by decide)
  exact leave2 S rfl rfl rfl ⟨v64, rfl, H⟩

/-- laws.FnExactInertEdges -/
def laws_FnExactInertEdges_m (fuel : Nat) (a0 : Tlaws_Lts) (a1 : (List Int)) : Option (Bool) :=
  (if (decide ((1048576 : Int) < (a1.length : Int))) = true then some (true) else (laws_szLts_m fuel (a0.1, a0.2.1, a0.2.2.1, a0.2.2.2) (1048576 : Int)).bind fun x55 => (if (decide (x55 < (0 : Int))) = true then some (true) else (laws_toLts_m fuel (a0.1, a0.2.1, a0.2.2.1, a0.2.2.2)).bind fun x61 => (laws_toInt64S_m fuel a1).bind fun x70 => (spec_InertEdges_m fuel (x61.1, x61.2.1, x61.2.2.1, x61.2.2.2) x70).bind fun x77 => (laws_toLts_m fuel (a0.1, a0.2.1, a0.2.2.1, a0.2.2.2)).bind fun x84 => (laws_toInt64S_m fuel a1).bind fun x97 => (impl_InertEdges_m fuel (x84.1, x84.2.1, x84.2.2.1, x84.2.2.2) x97).bind fun x104 => (laws_eqEdgeS_m fuel x104.1 x77.1).bind fun x111 => (if (!x111) = true then some true else some (x104.2 != x77.2)).bind fun t114 => (if t114 = true then some (false) else (laws_toLts_m fuel (a0.1, a0.2.1, a0.2.2.1, a0.2.2.2)).bind fun x122 => (laws_eqLts_m fuel (x84.1, x84.2.1, x84.2.2.1, x84.2.2.2) (x122.1, x122.2.1, x122.2.2.1, x122.2.2.2)).bind fun x131 => (if (!x131) = true then some (false) else (laws_toInt64S_m fuel a1).bind fun x137 => (laws_eqInt64S_m fuel x97 x137).bind fun x144 => (if (!x144) = true then some (false) else (laws_markLts_m fuel (x84.1, x84.2.1, x84.2.2.1, x84.2.2.2) (1 : Int)).bind fun x150 => (laws_markInt64S_m fuel x97 x150.1).bind fun x154 => (if (decide (x154.1 < (0 : Int))) = true then some true else (laws_eqEdgeS_m fuel x104.1 x77.1).bind fun x161 => some (!x161)).bind fun t156 => (if t156 = true then some true else some (x104.2 != x77.2)).bind fun t164 => (if t164 = true then some (false) else (laws_markEdgeS_m fuel x104.1 (1 : Int)).bind fun x170 => (laws_heldEdgeS_m fuel x170.2 (1 : Int)).bind fun x174 => (if (decide (x174 < (0 : Int))) = true then some (false) else (if (x174 != x170.1) = true then some (false) else (laws_toLts_m fuel (a0.1, a0.2.1, a0.2.2.1, a0.2.2.2)).bind fun x181 => (laws_toInt64S_m fuel a1).bind fun x190 => (impl_InertEdges_m fuel (x181.1, x181.2.1, x181.2.2.1, x181.2.2.2) x190).bind fun x197 => (laws_eqEdgeS_m fuel x197.1 x77.1).bind fun x204 => (if (!x204) = true then some true else some (x197.2 != x77.2)).bind fun t207 => (if t207 = true then some (false) else (laws_heldEdgeS_m fuel x170.2 (1 : Int)).bind fun x213 => (if (decide (x213 < (0 : Int))) = true then some (false) else (if (x213 != x170.1) = true then some (false) else some (true))))))))))))
set_option maxRecDepth 20000 in
theorem laws_FnExactInertEdges_ok {w0 : World} {fuel : Nat} {p0 p1 : Value} {a0 : Tlaws_Lts} {a1 : (List Int)} {r : Bool} (hG : Glob Tryz.prog w0) (h0 : Rd Rlaws_Lts w0 p0 a0) (h1 : Rd (rList (rInt .i64)) w0 p1 a1) (hm : laws_FnExactInertEdges_m fuel a0 a1 = some r) :
  Calls Tryz.prog 9 #[p0, p1] w0 fun e w => e = .returned (.bool r) ∧ Heap w0 [] w := by
 unfold laws_FnExactInertEdges_m at hm
 have H := Heap.start w0
 obtain ⟨c31, rfl, h32⟩ := h0
 obtain ⟨c37, c38, rfl, h39, h40⟩ := h32
 obtain rfl := h39
 obtain ⟨c41, c42, rfl, h43, h44⟩ := h40
 obtain rfl := h43
 obtain ⟨c45, c46, rfl, h47, h48⟩ := h44
 obtain ⟨v33, rfl, h34⟩ := rd_list h47
 obtain ⟨v35, rfl, h36⟩ := rd_list h48
 refine enter (args := [(.agg #[(.int .i64 a0.1), (.int .i64 a0.2.1), v33, v35]), p1]) Tryz.func9 rfl 117 rfl (Nat.le_of_ble_eq_true rfl) (fun a S => ?_)
 refine wp_seq (region_plain ?_)
 refine lx_box S trivial (by decide) rfl H rfl rfl (fun b49 w50 H => ⟨trivial, fun a S => ?_⟩)
 refine lq (.bool false) S (q_assign rfl) fun a S => ?_
 refine lx_nil (thenN ?_)
 refine wp_seq (wp_seq (region_plain ?_))
 refine lq p1 S (q_move rfl) fun a S => ?_
 refine lq (.int .i64 (a1.length : Int)) S (q_lenSl rfl (h1).isSl rfl Tryz.underlying34) fun a S => ?_
 refine lq (.bool (decide ((1048576 : Int) < (a1.length : Int)))) S (q_gtr rfl rfl) fun a S => ?_
 refine lx_nil (thenN ?_)
 refine cond_b S rfl (fun hc52 => ?_) (fun hc52 => ?_)
 ·have hm := ite_t hc52 hm
  refine wp_seq (region_plain ?_)
  refine lq (.bool true) S (q_assign rfl) fun a S => ?_
  refine lx_nil (thenN ?_)
  refine wp_ret (then_ret ?_)
  obtain rfl := Option.some.inj hm
  have H : Heap w0 [] w50 := H.sel [] (by decide)
  exact leave1 S rfl rfl ⟨rfl, H⟩
 ·have hm := ite_f hc52 hm
  refine wp_skip (thenN ?_)
  refine wp_seq (region_plain ?_)
  refine lq (.int .i64 (1048576 : Int)) S (q_assign rfl) fun a S => ?_
  refine lx_nil (thenN ?_)
  refine wp_seq (region_plain ?_)
  refine lx_e (.agg #[(.int .i64 a0.1), (.int .i64 a0.2.1), v33, v35]) S trivial (by decide) rfl trivial (q_loadA (cs := [(.int .i64 a0.1), (.int .i64 a0.2.1), v33, v35]) rfl (isP_bp _) Tryz.isAgg25 Tryz.sizeOf25 (by rintro _ rfl; exact (fun j u hu => boxAt (i := 0) H rfl hu))) (fun a S => ?_)
  refine lq (.int .i64 (1048576 : Int)) S (q_move rfl) fun a S => ?_
  obtain ⟨x55, e56, hm⟩ := bind_some hm
  refine lx_call (xs := [.tmp 20, .tmp 21]) S trivial (by decide) rfl rfl Tryz.call19 ((laws_szLts_ok ⟨[(.int .i64 a0.1), (.int .i64 a0.2.1), v33, v35], rfl, ⟨[(.int .i64 a0.1)], [(.int .i64 a0.2.1), v33, v35], rfl, rfl, ⟨[(.int .i64 a0.2.1)], [v33, v35], rfl, rfl, ⟨[v33], [v35], rfl, ((H.arg h34)).list_rd, ((H.arg h36)).list_rd⟩⟩⟩⟩  e56).mono ?_)
  rintro e w53 ⟨rfl, Hc54⟩
  have H := H.call0 Hc54
  refine ⟨_, rfl, trivial, fun a S => ?_⟩
  refine lq (.int .i64 x55) S (q_assign rfl) fun a S => ?_
  refine lx_nil (thenN ?_)
  refine wp_seq (wp_seq (region_plain ?_))
  refine lq (.int .i64 x55) S (q_move rfl) fun a S => ?_
  refine lq (.bool (decide (x55 < (0 : Int)))) S (q_lss rfl rfl) fun a S => ?_
  refine lx_nil (thenN ?_)
  refine cond_b S rfl (fun hc58 => ?_) (fun hc58 => ?_)
  ·have hm := ite_t hc58 hm
   refine wp_seq (region_plain ?_)
   refine lq (.bool true) S (q_assign rfl) fun a S => ?_
   refine lx_nil (thenN ?_)
   refine wp_ret (then_ret ?_)
   obtain rfl := Option.some.inj hm
   have H : Heap w0 [] w53 := H.sel [] (by decide)
   exact leave1 S rfl rfl ⟨rfl, H⟩
  ·have hm := ite_f hc58 hm
   refine wp_skip (thenN ?_)
   refine wp_seq (region_plain ?_)
   refine lx_e (.agg #[(.int .i64 a0.1), (.int .i64 a0.2.1), v33, v35]) S trivial (by decide) rfl trivial (q_loadA (cs := [(.int .i64 a0.1), (.int .i64 a0.2.1), v33, v35]) rfl (isP_bp _) Tryz.isAgg25 Tryz.sizeOf25 (by rintro _ rfl; exact (fun j u hu => boxAt (i := 0) H rfl hu))) (fun a S => ?_)
   obtain ⟨x61, e62, hm⟩ := bind_some hm
   refine lx_call (xs := [.tmp 26]) S trivial (by decide) rfl rfl Tryz.call21 ((laws_toLts_ok ⟨[(.int .i64 a0.1), (.int .i64 a0.2.1), v33, v35], rfl, ⟨[(.int .i64 a0.1)], [(.int .i64 a0.2.1), v33, v35], rfl, rfl, ⟨[(.int .i64 a0.2.1)], [v33, v35], rfl, rfl, ⟨[v33], [v35], rfl, ((H.arg h34)).list_rd, ((H.arg h36)).list_rd⟩⟩⟩⟩ e62).mono ?_)
   rintro e w59 ⟨v63, v64, rfl, Hc60⟩
   have H := H.call2 Hc60
   refine ⟨_, rfl, trivial, fun a S => ?_⟩
   refine lq p1 S (q_move rfl) fun a S => ?_
   obtain ⟨x70, e71, hm⟩ := bind_some hm
   refine lx_call (xs := [.tmp 28]) S trivial (by decide) rfl rfl Tryz.call27 ((laws_toInt64S_ok (H.arg h1) e71).mono ?_)
   rintro e w68 ⟨v72, rfl, Hc69⟩
   have H := H.call1 Hc69
   refine ⟨_, rfl, trivial, fun a S => ?_⟩
   obtain ⟨x77, e78, hm⟩ := bind_some hm
   refine lx_call (xs := [.tmp 27, .tmp 29]) S trivial (by decide) rfl rfl Tryz.call45 ((spec_InertEdges_ok ⟨[(.int .i64 x61.1), (.int .i64 x61.2.1), v63, v64], rfl, ⟨[(.int .i64 x61.1)], [(.int .i64 x61.2.1), v63, v64], rfl, rfl, ⟨[(.int .i64 x61.2.1)], [v63, v64], rfl, rfl, ⟨[v63], [v64], rfl, ((H.rdAt 1 rfl)).list_rd, ((H.rdAt 2 rfl)).list_rd⟩⟩⟩⟩ (H.rdAt 0 rfl) e78).mono ?_)
   rintro e w75 ⟨v79, rfl, Hc76⟩
   have H := H.call1 Hc76
   refine ⟨_, rfl, trivial, fun a S => ?_⟩
   refine lq (.tuple #[v79, (.int .i64 x77.2)]) S (q_move rfl) fun a S => ?_
   refine lq v79 S (q_extract rfl rfl) fun a S => ?_
   refine lq (.int .i64 x77.2) S (q_extract rfl rfl) fun a S => ?_
   refine lq v79 S (q_assign rfl) fun a S => ?_
   refine lq (.int .i64 x77.2) S (q_assign rfl) fun a S => ?_
   refine lx_nil (thenN ?_)
   refine wp_seq (region_plain ?_)
   refine lx_e (.agg #[(.int .i64 a0.1), (.int .i64 a0.2.1), v33, v35]) S trivial (by decide) rfl trivial (q_loadA (cs := [(.int .i64 a0.1), (.int .i64 a0.2.1), v33, v35]) rfl (isP_bp _) Tryz.isAgg25 Tryz.sizeOf25 (by rintro _ rfl; exact (fun j u hu => boxAt (i := 4) H rfl hu))) (fun a S => ?_)
   obtain ⟨x84, e85, hm⟩ := bind_some hm
   refine lx_call (xs := [.tmp 33]) S trivial (by decide) rfl rfl Tryz.call21 ((laws_toLts_ok ⟨[(.int .i64 a0.1), (.int .i64 a0.2.1), v33, v35], rfl, ⟨[(.int .i64 a0.1)], [(.int .i64 a0.2.1), v33, v35], rfl, rfl, ⟨[(.int .i64 a0.2.1)], [v33, v35], rfl, rfl, ⟨[v33], [v35], rfl, ((H.arg h34)).list_rd, ((H.arg h36)).list_rd⟩⟩⟩⟩ e85).mono ?_)
   rintro e w82 ⟨v86, v87, rfl, Hc83⟩
   have H := H.call2 Hc83
   refine ⟨_, rfl, trivial, fun a S => ?_⟩
   refine lx_alloc S trivial (by decide) rfl H Tryz.zeroValue30 rfl (fun b91 w92 H => ⟨trivial, fun a S => ?_⟩)
   refine lx_storeBox (o := 0) (i := 0) (us := [(.int .i64 x84.1), (.int .i64 x84.2.1), v86, v87]) (cs' := [(.int .i64 x84.1), (.int .i64 x84.2.1), v86, v87]) S trivial rfl H rfl rfl rfl rfl Tryz.sizeOf30 (Nat.le_of_ble_eq_true rfl) (List.forall_mem_cons.2 ⟨rfl, (List.forall_mem_cons.2 ⟨rfl, (List.forall_mem_cons.2 ⟨one_sl (H.isSl 1 rfl), (List.forall_mem_cons.2 ⟨one_sl (H.isSl 2 rfl), (fun _ h => nomatch h)⟩)⟩)⟩)⟩) rfl (fun w94 H => ⟨trivial, fun a S => ?_⟩)
   change Heap w0 [bA b91 [(.int .i64 x84.1), (.int .i64 x84.2.1), v86, v87] 30, oA (rList rStr) v86 x84.2.2.1, oA (rList Rimpl_Edge) v87 x84.2.2.2, oA (rList Rimpl_Edge) v79 x77.1, oA (rList (rInt .i64)) v72 x70, oA (rList rStr) v63 x61.2.2.1, oA (rList Rimpl_Edge) v64 x61.2.2.2, bA b49 [(.int .i64 a0.1), (.int .i64 a0.2.1), v33, v35] 25] w94 at H
   refine lx_nil (thenN ?_)
   refine wp_seq (region_plain ?_)
   refine lq p1 S (q_move rfl) fun a S => ?_
   obtain ⟨x97, e98, hm⟩ := bind_some hm
   refine lx_call (xs := [.tmp 35]) S trivial (by decide) rfl rfl Tryz.call27 ((laws_toInt64S_ok (H.arg h1) e98).mono ?_)
   rintro e w95 ⟨v99, rfl, Hc96⟩
   have H := H.call1 Hc96
   refine ⟨_, rfl, trivial, fun a S => ?_⟩
   refine lq v99 S (q_assign rfl) fun a S => ?_
   refine lx_nil (thenN ?_)
   refine wp_seq (region_plain ?_)
   refine lx_e (.agg #[(.int .i64 x84.1), (.int .i64 x84.2.1), v86, v87]) S trivial (by decide) rfl trivial (q_loadA (cs := [(.int .i64 x84.1), (.int .i64 x84.2.1), v86, v87]) rfl (isP_bp _) Tryz.isAgg30 Tryz.sizeOf30 (by rintro _ rfl; exact (fun j u hu => boxAt (i := 1) H rfl hu))) (fun a S => ?_)
   refine lq v99 S (q_move rfl) fun a S => ?_
   obtain ⟨x104, e105, hm⟩ := bind_some hm
   refine lx_call (xs := [.tmp 38, .tmp 39]) S trivial (by decide) rfl rfl Tryz.call46 ((impl_InertEdges_ok (hG.ext H.ext) ⟨[(.int .i64 x84.1), (.int .i64 x84.2.1), v86, v87], rfl, ⟨[(.int .i64 x84.1)], [(.int .i64 x84.2.1), v86, v87], rfl, rfl, ⟨[(.int .i64 x84.2.1)], [v86, v87], rfl, rfl, ⟨[v86], [v87], rfl, ((H.rdAt 2 rfl)).list_rd, ((H.rdAt 3 rfl)).list_rd⟩⟩⟩⟩ (H.rdAt 0 rfl) e105).mono ?_)
   rintro e w102 ⟨v106, rfl, Hc103⟩
   have H := H.call1 Hc103
   refine ⟨_, rfl, trivial, fun a S => ?_⟩
   refine lq (.tuple #[v106, (.int .i64 x104.2)]) S (q_move rfl) fun a S => ?_
   refine lq v106 S (q_extract rfl rfl) fun a S => ?_
   refine lq (.int .i64 x104.2) S (q_extract rfl rfl) fun a S => ?_
   refine lq v106 S (q_assign rfl) fun a S => ?_
   refine lq (.int .i64 x104.2) S (q_assign rfl) fun a S => ?_
   refine lx_nil (thenN ?_)
   refine wp_seq (wp_seq (region_plain ?_))
   refine lq v106 S (q_move rfl) fun a S => ?_
   refine lq v79 S (q_move rfl) fun a S => ?_
   obtain ⟨x111, e112, hm⟩ := bind_some hm
   refine lx_call (xs := [.tmp 43, .tmp 44]) S trivial (by decide) rfl rfl Tryz.call32 ((laws_eqEdgeS_ok (H.rdAt 0 rfl) (H.rdAt 5 rfl) e112).mono ?_)
   rintro e w109 ⟨rfl, Hc110⟩
   have H := H.call0 Hc110
   refine ⟨_, rfl, trivial, fun a S => ?_⟩
   refine lq (.bool (!x111)) S (q_not rfl) fun a S => ?_
   refine lq (.bool (!x111)) S (q_move rfl) fun a S => ?_
   obtain ⟨t114, e115, hm⟩ := bind_some hm
   refine lx_cut 4 (fun a w => Slots a 117 [(1, p1), (2, (bp b49)), (6, v79), (7, (.int .i64 x77.2)), (8, (bp b91)), (9, v99), (10, v106), (11, (.int .i64 x104.2)), (51, (.bool t114))] ∧ Heap w0 [oA (rList Rimpl_Edge) v106 x104.1, oA (rList (rInt .i64)) v99 x97, bA b91 [(.int .i64 x84.1), (.int .i64 x84.2.1), v86, v87] 30, oA (rList rStr) v86 x84.2.2.1, oA (rList Rimpl_Edge) v87 x84.2.2.2, oA (rList Rimpl_Edge) v79 x77.1, bA b49 [(.int .i64 a0.1), (.int .i64 a0.2.1), v33, v35] 25] w) ?_ ?_
   ·by_cases hc116 : (!x111) = true
    ·have hm := ite_t hc116 e115
     refine lx_skip S rfl rfl (isB_ne hc116) (by decide) (fun a S => ?_)
     refine lx_skip S rfl rfl (isB_ne hc116) (by decide) (fun a S => ?_)
     refine lx_skip S rfl rfl (isB_ne hc116) (by decide) (fun a S => ?_)
     refine lq (.bool true) S (q_pickT' rfl hc116 rfl) fun a S => ?_
     refine lx_nil ?_
     obtain rfl := Option.some.inj hm
     have H := H.sel [0, 1, 2, 3, 4, 5, 9] (by decide)
     exact ⟨S.sub ⟨rfl, rfl, rfl, rfl, rfl, rfl, rfl, rfl, rfl, trivial⟩, H⟩
    ·have hm := ite_f (eq_false_of_ne_true hc116) e115
     have hc116 : (!x111) = false := eq_false_of_ne_true hc116
     refine lx_q (.int .i64 x104.2) S (want_b rfl rfl hc116) (by decide) (q_move rfl) (fun a S => ?_)
     refine lx_q (.int .i64 x77.2) S (want_b rfl rfl hc116) (by decide) (q_move rfl) (fun a S => ?_)
     refine lx_q (.bool (x104.2 != x77.2)) S (want_b rfl rfl hc116) (by decide) (q_neq rfl rfl) (fun a S => ?_)
     refine lq (.bool (x104.2 != x77.2)) S (q_pickF' rfl hc116 rfl) fun a S => ?_
     refine lx_nil ?_
     obtain rfl := Option.some.inj hm
     have H := H.sel [0, 1, 2, 3, 4, 5, 9] (by decide)
     exact ⟨S.sub ⟨rfl, rfl, rfl, rfl, rfl, rfl, rfl, rfl, rfl, trivial⟩, H⟩
   ·rintro a w ⟨S, H⟩
    refine lx_nil (thenN ?_)
    refine cond_b S rfl (fun hc117 => ?_) (fun hc117 => ?_)
    ·have hm := ite_t hc117 hm
     refine wp_seq (region_plain ?_)
     refine lq (.bool false) S (q_assign rfl) fun a S => ?_
     refine lx_nil (thenN ?_)
     refine wp_ret (then_ret ?_)
     obtain rfl := Option.some.inj hm
     have H : Heap w0 [] w := H.sel [] (by decide)
     exact leave1 S rfl rfl ⟨rfl, H⟩
    ·have hm := ite_f hc117 hm
     refine wp_skip (thenN ?_)
     refine wp_seq ?_
     refine wp_seq ?_
     refine region_drawG (fun w1 => Heap w0 [bA b91 [(.int .i64 x84.1), (.int .i64 x84.2.1), v86, v87] 30, bA b49 [(.int .i64 a0.1), (.int .i64 a0.2.1), v33, v35] 25] w1) (fun i => [2, 3].contains i) mixed (by kernel_rfl) (fun w119 he118 => ?_)
     have H := H.later he118
     refine ⟨H.sel [2, 6] (by decide), ?_⟩
     refine lq (.agg #[(.int .i64 x84.1), (.int .i64 x84.2.1), v86, v87]) S (q_loadA (cs := [(.int .i64 x84.1), (.int .i64 x84.2.1), v86, v87]) rfl (isP_bp _) Tryz.isAgg30 Tryz.sizeOf30 (fun w1 hC => (fun j u hu => boxAt (i := 0) hC rfl hu))) fun a S => ?_
     refine lq (.agg #[(.int .i64 a0.1), (.int .i64 a0.2.1), v33, v35]) S (q_loadA (cs := [(.int .i64 a0.1), (.int .i64 a0.2.1), v33, v35]) rfl (isP_bp _) Tryz.isAgg25 Tryz.sizeOf25 (fun w1 hC => (fun j u hu => boxAt (i := 1) hC rfl hu))) fun a S => ?_
     obtain ⟨x122, e123, hm⟩ := bind_some hm
     refine lx_call (xs := [.tmp 53]) S trivial (by decide) rfl rfl Tryz.call21 ((laws_toLts_ok ⟨[(.int .i64 a0.1), (.int .i64 a0.2.1), v33, v35], rfl, ⟨[(.int .i64 a0.1)], [(.int .i64 a0.2.1), v33, v35], rfl, rfl, ⟨[(.int .i64 a0.2.1)], [v33, v35], rfl, rfl, ⟨[v33], [v35], rfl, ((H.arg h34)).list_rd, ((H.arg h36)).list_rd⟩⟩⟩⟩ e123).mono ?_)
     rintro e w120 ⟨v124, v125, rfl, Hc121⟩
     have H := H.call2 Hc121
     refine ⟨_, rfl, H.sel [4, 8] (by decide), fun a S => ?_⟩
     obtain ⟨x131, e132, hm⟩ := bind_some hm
     refine lx_call (xs := [.tmp 52, .tmp 54]) S trivial (by decide) rfl rfl Tryz.call23 ((laws_eqLts_ok ⟨[(.int .i64 x84.1), (.int .i64 x84.2.1), v86, v87], rfl, ⟨[(.int .i64 x84.1)], [(.int .i64 x84.2.1), v86, v87], rfl, rfl, ⟨[(.int .i64 x84.2.1)], [v86, v87], rfl, rfl, ⟨[v86], [v87], rfl, ((H.rdAt 5 rfl)).list_rd, ((H.rdAt 6 rfl)).list_rd⟩⟩⟩⟩ ⟨[(.int .i64 x122.1), (.int .i64 x122.2.1), v124, v125], rfl, ⟨[(.int .i64 x122.1)], [(.int .i64 x122.2.1), v124, v125], rfl, rfl, ⟨[(.int .i64 x122.2.1)], [v124, v125], rfl, rfl, ⟨[v124], [v125], rfl, ((H.rdAt 0 rfl)).list_rd, ((H.rdAt 1 rfl)).list_rd⟩⟩⟩⟩ e132).mono ?_)
     rintro e w129 ⟨rfl, Hc130⟩
     have H := H.call0 Hc130
     refine ⟨_, rfl, H.sel [4, 8] (by decide), fun a S => ?_⟩
     refine lq (.bool (!x131)) S (q_not rfl) fun a S => ?_
     refine lx_nil (thenN ?_)
     refine cond_b S rfl (fun hc134 => ?_) (fun hc134 => ?_)
     ·have hm := ite_t hc134 hm
      refine wp_seq (region_plain ?_)
      refine lq (.bool false) S (q_assign rfl) fun a S => ?_
      refine lx_nil (thenN ?_)
      refine wp_ret (then_ret ?_)
      obtain rfl := Option.some.inj hm
      have H : Heap w0 [] w129 := H.sel [] (by decide)
      exact leave1 S rfl rfl ⟨rfl, H⟩
     ·have hm := ite_f hc134 hm
      refine wp_skip (thenN ?_)
      refine wp_seq (wp_seq (region_plain ?_))
      refine lq v99 S (q_move rfl) fun a S => ?_
      refine lq p1 S (q_move rfl) fun a S => ?_
      obtain ⟨x137, e138, hm⟩ := bind_some hm
      refine lx_call (xs := [.tmp 58]) S trivial (by decide) rfl rfl Tryz.call27 ((laws_toInt64S_ok (H.arg h1) e138).mono ?_)
      rintro e w135 ⟨v139, rfl, Hc136⟩
      have H := H.call1 Hc136
      refine ⟨_, rfl, trivial, fun a S => ?_⟩
      obtain ⟨x144, e145, hm⟩ := bind_some hm
      refine lx_call (xs := [.tmp 57, .tmp 59]) S trivial (by decide) rfl rfl Tryz.call29 ((laws_eqInt64S_ok (H.rdAt 4 rfl) (H.rdAt 0 rfl) e145).mono ?_)
      rintro e w142 ⟨rfl, Hc143⟩
      have H := H.call0 Hc143
      refine ⟨_, rfl, trivial, fun a S => ?_⟩
      refine lq (.bool (!x144)) S (q_not rfl) fun a S => ?_
      refine lx_nil (thenN ?_)
      refine cond_b S rfl (fun hc147 => ?_) (fun hc147 => ?_)
      ·have hm := ite_t hc147 hm
       refine wp_seq (region_plain ?_)
       refine lq (.bool false) S (q_assign rfl) fun a S => ?_
       refine lx_nil (thenN ?_)
       refine wp_ret (then_ret ?_)
       obtain rfl := Option.some.inj hm
       have H : Heap w0 [] w142 := H.sel [] (by decide)
       exact leave1 S rfl rfl ⟨rfl, H⟩
      ·have hm := ite_f hc147 hm
       refine wp_skip (thenN ?_)
       refine wp_seq (region_plain ?_)
       refine lq (.int .i64 (1 : Int)) S (q_assign rfl) fun a S => ?_
       refine lx_nil (thenN ?_)
       refine wp_seq (region_plain ?_)
       refine lx_e (.agg #[(.int .i64 x84.1), (.int .i64 x84.2.1), v86, v87]) S trivial (by decide) rfl trivial (q_loadA (cs := [(.int .i64 x84.1), (.int .i64 x84.2.1), v86, v87]) rfl (isP_bp _) Tryz.isAgg30 Tryz.sizeOf30 (by rintro _ rfl; exact (fun j u hu => boxAt (i := 5) H rfl hu))) (fun a S => ?_)
       refine lq (.int .i64 (1 : Int)) S (q_move rfl) fun a S => ?_
       obtain ⟨x150, e151, hm⟩ := bind_some hm
       have H : Heap w0 [oA (rList Rimpl_Edge) v87 x84.2.2.2, oA (rList (rInt .i64)) v139 x137, oA (rList rStr) v124 x122.2.2.1, oA (rList Rimpl_Edge) v125 x122.2.2.2, oA (rList Rimpl_Edge) v106 x104.1, oA (rList (rInt .i64)) v99 x97, bA b91 [(.int .i64 x84.1), (.int .i64 x84.2.1), v86, v87] 30, oA (rList rStr) v86 x84.2.2.1, oA (rList Rimpl_Edge) v79 x77.1, bA b49 [(.int .i64 a0.1), (.int .i64 a0.2.1), v33, v35] 25] w142 := H.front 7 rfl
       have H : Heap w0 [oA (rList rStr) v86 x84.2.2.1, oA (rList Rimpl_Edge) v87 x84.2.2.2, oA (rList (rInt .i64)) v139 x137, oA (rList rStr) v124 x122.2.2.1, oA (rList Rimpl_Edge) v125 x122.2.2.2, oA (rList Rimpl_Edge) v106 x104.1, oA (rList (rInt .i64)) v99 x97, bA b91 [(.int .i64 x84.1), (.int .i64 x84.2.1), v86, v87] 30, oA (rList Rimpl_Edge) v79 x77.1, bA b49 [(.int .i64 a0.1), (.int .i64 a0.2.1), v33, v35] 25] w142 := H.front 7 rfl
       refine lx_call (xs := [.tmp 62, .tmp 63]) S trivial (by decide) rfl rfl Tryz.call33 ((laws_markLts_ok H  e151).mono ?_)
       rintro e w148 ⟨rfl, H⟩
       refine ⟨_, rfl, trivial, fun a S => ?_⟩
       refine lq (.int .i64 x150.1) S (q_assign rfl) fun a S => ?_
       refine lx_nil (thenN ?_)
       refine wp_seq (region_plain ?_)
       refine lq v99 S (q_move rfl) fun a S => ?_
       refine lq (.int .i64 x150.1) S (q_move rfl) fun a S => ?_
       obtain ⟨x154, e155, hm⟩ := bind_some hm
       have H : Heap w0 [oA (rList (rInt .i64)) v99 x97, oA (rList rStr) v86 x150.2.1, oA (rList Rimpl_Edge) v87 x150.2.2, oA (rList (rInt .i64)) v139 x137, oA (rList rStr) v124 x122.2.2.1, oA (rList Rimpl_Edge) v125 x122.2.2.2, oA (rList Rimpl_Edge) v106 x104.1, bA b91 [(.int .i64 x84.1), (.int .i64 x84.2.1), v86, v87] 30, oA (rList Rimpl_Edge) v79 x77.1, bA b49 [(.int .i64 a0.1), (.int .i64 a0.2.1), v33, v35] 25] w148 := H.front 6 rfl
       refine lx_call (xs := [.tmp 65, .tmp 66]) S trivial (by decide) rfl rfl Tryz.call39 ((laws_markInt64S_ok H  e155).mono ?_)
       rintro e w152 ⟨rfl, H⟩
       refine ⟨_, rfl, trivial, fun a S => ?_⟩
       refine lq (.int .i64 x154.1) S (q_assign rfl) fun a S => ?_
       refine lx_nil (thenN ?_)
       refine wp_seq (wp_seq (region_plain ?_))
       refine lq (.int .i64 x154.1) S (q_move rfl) fun a S => ?_
       refine lq (.bool (decide (x154.1 < (0 : Int)))) S (q_lss rfl rfl) fun a S => ?_
       refine lq (.bool (decide (x154.1 < (0 : Int)))) S (q_move rfl) fun a S => ?_
       obtain ⟨t156, e157, hm⟩ := bind_some hm
       refine lx_cut 5 (fun a w => Slots a 117 [(1, p1), (2, (bp b49)), (6, v79), (7, (.int .i64 x77.2)), (10, v106), (11, (.int .i64 x104.2)), (75, (.bool t156))] ∧ Heap w0 [oA (rList Rimpl_Edge) v106 x104.1, oA (rList Rimpl_Edge) v79 x77.1, bA b49 [(.int .i64 a0.1), (.int .i64 a0.2.1), v33, v35] 25] w) ?_ ?_
       ·by_cases hc158 : (decide (x154.1 < (0 : Int))) = true
        ·have hm := ite_t hc158 e157
         refine lx_skip S rfl rfl (isB_ne hc158) (by decide) (fun a S => ?_)
         refine lx_skip S rfl rfl (isB_ne hc158) (by decide) (fun a S => ?_)
         refine lx_skip S rfl rfl (isB_ne hc158) (by decide) (fun a S => ?_)
         refine lx_skip S rfl rfl (isB_ne hc158) (by decide) (fun a S => ?_)
         refine lq (.bool true) S (q_pickT' rfl hc158 rfl) fun a S => ?_
         refine lx_nil ?_
         obtain rfl := Option.some.inj hm
         have H := H.sel [6, 8, 9] (by decide)
         exact ⟨S.sub ⟨rfl, rfl, rfl, rfl, rfl, rfl, rfl, trivial⟩, H⟩
        ·have hm := ite_f (eq_false_of_ne_true hc158) e157
         have hc158 : (decide (x154.1 < (0 : Int))) = false := eq_false_of_ne_true hc158
         refine lx_q v106 S (want_b rfl rfl hc158) (by decide) (q_move rfl) (fun a S => ?_)
         refine lx_q v79 S (want_b rfl rfl hc158) (by decide) (q_move rfl) (fun a S => ?_)
         obtain ⟨x161, e162, hm⟩ := bind_some hm
         refine lx_call (xs := [.tmp 71, .tmp 72]) S (want_b rfl rfl hc158) (by decide) rfl rfl Tryz.call32 ((laws_eqEdgeS_ok (H.rdAt 6 rfl) (H.rdAt 8 rfl) e162).mono ?_)
         rintro e w159 ⟨rfl, Hc160⟩
         have H := H.call0 Hc160
         refine ⟨_, rfl, trivial, fun a S => ?_⟩
         refine lx_q (.bool (!x161)) S (want_b rfl rfl hc158) (by decide) (q_not rfl) (fun a S => ?_)
         refine lq (.bool (!x161)) S (q_pickF' rfl hc158 rfl) fun a S => ?_
         refine lx_nil ?_
         obtain rfl := Option.some.inj hm
         have H := H.sel [6, 8, 9] (by decide)
         exact ⟨S.sub ⟨rfl, rfl, rfl, rfl, rfl, rfl, rfl, trivial⟩, H⟩
       ·rintro a w ⟨S, H⟩
        refine lq (.bool t156) S (q_move rfl) fun a S => ?_
        obtain ⟨t164, e165, hm⟩ := bind_some hm
        refine lx_cut 4 (fun a w => Slots a 117 [(1, p1), (2, (bp b49)), (6, v79), (7, (.int .i64 x77.2)), (10, v106), (80, (.bool t164))] ∧ Heap w0 [oA (rList Rimpl_Edge) v106 x104.1, oA (rList Rimpl_Edge) v79 x77.1, bA b49 [(.int .i64 a0.1), (.int .i64 a0.2.1), v33, v35] 25] w) ?_ ?_
        ·by_cases hc166 : t156 = true
         ·have hm := ite_t hc166 e165
          refine lx_skip S rfl rfl (isB_ne hc166) (by decide) (fun a S => ?_)
          refine lx_skip S rfl rfl (isB_ne hc166) (by decide) (fun a S => ?_)
          refine lx_skip S rfl rfl (isB_ne hc166) (by decide) (fun a S => ?_)
          refine lq (.bool true) S (q_pickT' rfl hc166 rfl) fun a S => ?_
          refine lx_nil ?_
          obtain rfl := Option.some.inj hm
          exact ⟨S.sub ⟨rfl, rfl, rfl, rfl, rfl, rfl, trivial⟩, H⟩
         ·have hm := ite_f (eq_false_of_ne_true hc166) e165
          have hc166 : t156 = false := eq_false_of_ne_true hc166
          refine lx_q (.int .i64 x104.2) S (want_b rfl rfl hc166) (by decide) (q_move rfl) (fun a S => ?_)
          refine lx_q (.int .i64 x77.2) S (want_b rfl rfl hc166) (by decide) (q_move rfl) (fun a S => ?_)
          refine lx_q (.bool (x104.2 != x77.2)) S (want_b rfl rfl hc166) (by decide) (q_neq rfl rfl) (fun a S => ?_)
          refine lq (.bool (x104.2 != x77.2)) S (q_pickF' rfl hc166 rfl) fun a S => ?_
          refine lx_nil ?_
          obtain rfl := Option.some.inj hm
          exact ⟨S.sub ⟨rfl, rfl, rfl, rfl, rfl, rfl, trivial⟩, H⟩
        ·rintro a w ⟨S, H⟩
         refine lx_nil (thenN ?_)
         refine cond_b S rfl (fun hc167 => ?_) (fun hc167 => ?_)
         ·have hm := ite_t hc167 hm
          refine wp_seq (region_plain ?_)
          refine lq (.bool false) S (q_assign rfl) fun a S => ?_
          refine lx_nil (thenN ?_)
          refine wp_ret (then_ret ?_)
          obtain rfl := Option.some.inj hm
          have H : Heap w0 [] w := H.sel [] (by decide)
          exact leave1 S rfl rfl ⟨rfl, H⟩
         ·have hm := ite_f hc167 hm
          refine wp_skip (thenN ?_)
          refine wp_seq (region_plain ?_)
          refine lq (.int .i64 (1 : Int)) S (q_assign rfl) fun a S => ?_
          refine lx_nil (thenN ?_)
          refine wp_seq (region_plain ?_)
          refine lq v106 S (q_move rfl) fun a S => ?_
          refine lq (.int .i64 (1 : Int)) S (q_move rfl) fun a S => ?_
          obtain ⟨x170, e171, hm⟩ := bind_some hm
          refine lx_call (xs := [.tmp 81, .tmp 82]) S trivial (by decide) rfl rfl Tryz.call34 ((laws_markEdgeS_ok H  e171).mono ?_)
          rintro e w168 ⟨rfl, H⟩
          refine ⟨_, rfl, trivial, fun a S => ?_⟩
          refine lq (.int .i64 x170.1) S (q_assign rfl) fun a S => ?_
          refine lx_nil (thenN ?_)
          refine wp_seq (region_plain ?_)
          refine lq (.int .i64 (1 : Int)) S (q_assign rfl) fun a S => ?_
          refine lx_nil (thenN ?_)
          refine wp_seq (region_plain ?_)
          refine lq v106 S (q_move rfl) fun a S => ?_
          refine lq (.int .i64 (1 : Int)) S (q_move rfl) fun a S => ?_
          obtain ⟨x174, e175, hm⟩ := bind_some hm
          refine lx_call (xs := [.tmp 84, .tmp 85]) S trivial (by decide) rfl rfl Tryz.call35 ((laws_heldEdgeS_ok (H.rdAt 0 rfl)  e175).mono ?_)
          rintro e w172 ⟨rfl, Hc173⟩
          have H := H.call0 Hc173
          refine ⟨_, rfl, trivial, fun a S => ?_⟩
          refine lq (.int .i64 x174) S (q_assign rfl) fun a S => ?_
          refine lx_nil (thenN ?_)
          refine wp_seq (wp_seq (region_plain ?_))
          refine lq (.int .i64 x174) S (q_move rfl) fun a S => ?_
          refine lq (.bool (decide (x174 < (0 : Int)))) S (q_lss rfl rfl) fun a S => ?_
          refine lx_nil (thenN ?_)
          refine cond_b S rfl (fun hc177 => ?_) (fun hc177 => ?_)
          ·have hm := ite_t hc177 hm
           refine wp_seq (region_plain ?_)
           refine lq (.bool false) S (q_assign rfl) fun a S => ?_
           refine lx_nil (thenN ?_)
           refine wp_ret (then_ret ?_)
           obtain rfl := Option.some.inj hm
           have H : Heap w0 [] w172 := H.sel [] (by decide)
           exact leave1 S rfl rfl ⟨rfl, H⟩
          ·have hm := ite_f hc177 hm
           refine wp_skip (thenN ?_)
           refine wp_seq (wp_seq (region_plain ?_))
           refine lq (.int .i64 x174) S (q_move rfl) fun a S => ?_
           refine lq (.int .i64 x170.1) S (q_move rfl) fun a S => ?_
           refine lq (.bool (x174 != x170.1)) S (q_neq rfl rfl) fun a S => ?_
           refine lx_nil (thenN ?_)
           refine cond_b S rfl (fun hc178 => ?_) (fun hc178 => ?_)
           ·have hm := ite_t hc178 hm
            refine wp_seq (region_plain ?_)
            refine lq (.bool false) S (q_assign rfl) fun a S => ?_
            refine lx_nil (thenN ?_)
            refine wp_ret (then_ret ?_)
            obtain rfl := Option.some.inj hm
            have H : Heap w0 [] w172 := H.sel [] (by decide)
            exact leave1 S rfl rfl ⟨rfl, H⟩
           ·have hm := ite_f hc178 hm
            refine wp_skip (thenN ?_)
            refine wp_seq (region_plain ?_)
            refine lx_e (.agg #[(.int .i64 a0.1), (.int .i64 a0.2.1), v33, v35]) S trivial (by decide) rfl trivial (q_loadA (cs := [(.int .i64 a0.1), (.int .i64 a0.2.1), v33, v35]) rfl (isP_bp _) Tryz.isAgg25 Tryz.sizeOf25 (by rintro _ rfl; exact (fun j u hu => boxAt (i := 2) H rfl hu))) (fun a S => ?_)
            obtain ⟨x181, e182, hm⟩ := bind_some hm
            refine lx_call (xs := [.tmp 93]) S trivial (by decide) rfl rfl Tryz.call21 ((laws_toLts_ok ⟨[(.int .i64 a0.1), (.int .i64 a0.2.1), v33, v35], rfl, ⟨[(.int .i64 a0.1)], [(.int .i64 a0.2.1), v33, v35], rfl, rfl, ⟨[(.int .i64 a0.2.1)], [v33, v35], rfl, rfl, ⟨[v33], [v35], rfl, ((H.arg h34)).list_rd, ((H.arg h36)).list_rd⟩⟩⟩⟩ e182).mono ?_)
            rintro e w179 ⟨v183, v184, rfl, Hc180⟩
            have H := H.call2 Hc180
            refine ⟨_, rfl, trivial, fun a S => ?_⟩
            refine lq p1 S (q_move rfl) fun a S => ?_
            obtain ⟨x190, e191, hm⟩ := bind_some hm
            refine lx_call (xs := [.tmp 95]) S trivial (by decide) rfl rfl Tryz.call27 ((laws_toInt64S_ok (H.arg h1) e191).mono ?_)
            rintro e w188 ⟨v192, rfl, Hc189⟩
            have H := H.call1 Hc189
            refine ⟨_, rfl, trivial, fun a S => ?_⟩
            obtain ⟨x197, e198, hm⟩ := bind_some hm
            refine lx_call (xs := [.tmp 94, .tmp 96]) S trivial (by decide) rfl rfl Tryz.call46 ((impl_InertEdges_ok (hG.ext H.ext) ⟨[(.int .i64 x181.1), (.int .i64 x181.2.1), v183, v184], rfl, ⟨[(.int .i64 x181.1)], [(.int .i64 x181.2.1), v183, v184], rfl, rfl, ⟨[(.int .i64 x181.2.1)], [v183, v184], rfl, rfl, ⟨[v183], [v184], rfl, ((H.rdAt 1 rfl)).list_rd, ((H.rdAt 2 rfl)).list_rd⟩⟩⟩⟩ (H.rdAt 0 rfl) e198).mono ?_)
            rintro e w195 ⟨v199, rfl, Hc196⟩
            have H := H.call1 Hc196
            refine ⟨_, rfl, trivial, fun a S => ?_⟩
            refine lq (.tuple #[v199, (.int .i64 x197.2)]) S (q_move rfl) fun a S => ?_
            refine lq v199 S (q_extract rfl rfl) fun a S => ?_
            refine lq (.int .i64 x197.2) S (q_extract rfl rfl) fun a S => ?_
            refine lq v199 S (q_assign rfl) fun a S => ?_
            refine lq (.int .i64 x197.2) S (q_assign rfl) fun a S => ?_
            refine lx_nil (thenN ?_)
            refine wp_seq (wp_seq (region_plain ?_))
            refine lq v199 S (q_move rfl) fun a S => ?_
            refine lq v79 S (q_move rfl) fun a S => ?_
            obtain ⟨x204, e205, hm⟩ := bind_some hm
            refine lx_call (xs := [.tmp 100, .tmp 101]) S trivial (by decide) rfl rfl Tryz.call32 ((laws_eqEdgeS_ok (H.rdAt 0 rfl) (H.rdAt 5 rfl) e205).mono ?_)
            rintro e w202 ⟨rfl, Hc203⟩
            have H := H.call0 Hc203
            refine ⟨_, rfl, trivial, fun a S => ?_⟩
            refine lq (.bool (!x204)) S (q_not rfl) fun a S => ?_
            refine lq (.bool (!x204)) S (q_move rfl) fun a S => ?_
            obtain ⟨t207, e208, hm⟩ := bind_some hm
            refine lx_cut 4 (fun a w => Slots a 117 [(10, v106), (13, (.int .i64 x170.1)), (108, (.bool t207))] ∧ Heap w0 [oA (rList Rimpl_Edge) v106 x170.2] w) ?_ ?_
            ·by_cases hc209 : (!x204) = true
             ·have hm := ite_t hc209 e208
              refine lx_skip S rfl rfl (isB_ne hc209) (by decide) (fun a S => ?_)
              refine lx_skip S rfl rfl (isB_ne hc209) (by decide) (fun a S => ?_)
              refine lx_skip S rfl rfl (isB_ne hc209) (by decide) (fun a S => ?_)
              refine lq (.bool true) S (q_pickT' rfl hc209 rfl) fun a S => ?_
              refine lx_nil ?_
              obtain rfl := Option.some.inj hm
              have H := H.sel [4] (by decide)
              exact ⟨S.sub ⟨rfl, rfl, rfl, trivial⟩, H⟩
             ·have hm := ite_f (eq_false_of_ne_true hc209) e208
              have hc209 : (!x204) = false := eq_false_of_ne_true hc209
              refine lx_q (.int .i64 x197.2) S (want_b rfl rfl hc209) (by decide) (q_move rfl) (fun a S => ?_)
              refine lx_q (.int .i64 x77.2) S (want_b rfl rfl hc209) (by decide) (q_move rfl) (fun a S => ?_)
              refine lx_q (.bool (x197.2 != x77.2)) S (want_b rfl rfl hc209) (by decide) (q_neq rfl rfl) (fun a S => ?_)
              refine lq (.bool (x197.2 != x77.2)) S (q_pickF' rfl hc209 rfl) fun a S => ?_
              refine lx_nil ?_
              obtain rfl := Option.some.inj hm
              have H := H.sel [4] (by decide)
              exact ⟨S.sub ⟨rfl, rfl, rfl, trivial⟩, H⟩
            ·rintro a w ⟨S, H⟩
             refine lx_nil (thenN ?_)
             refine cond_b S rfl (fun hc210 => ?_) (fun hc210 => ?_)
             ·have hm := ite_t hc210 hm
              refine wp_seq (region_plain ?_)
              refine lq (.bool false) S (q_assign rfl) fun a S => ?_
              refine lx_nil (thenN ?_)
              refine wp_ret (then_ret ?_)
              obtain rfl := Option.some.inj hm
              have H : Heap w0 [] w := H.sel [] (by decide)
              exact leave1 S rfl rfl ⟨rfl, H⟩
             ·have hm := ite_f hc210 hm
              refine wp_skip (thenN ?_)
              refine wp_seq (region_plain ?_)
              refine lq (.int .i64 (1 : Int)) S (q_assign rfl) fun a S => ?_
              refine lx_nil (thenN ?_)
              refine wp_seq (region_plain ?_)
              refine lq v106 S (q_move rfl) fun a S => ?_
              refine lq (.int .i64 (1 : Int)) S (q_move rfl) fun a S => ?_
              obtain ⟨x213, e214, hm⟩ := bind_some hm
              refine lx_call (xs := [.tmp 109, .tmp 110]) S trivial (by decide) rfl rfl Tryz.call35 ((laws_heldEdgeS_ok (H.rdAt 0 rfl)  e214).mono ?_)
              rintro e w211 ⟨rfl, Hc212⟩
              have H := H.call0 Hc212
              refine ⟨_, rfl, trivial, fun a S => ?_⟩
              refine lq (.int .i64 x213) S (q_assign rfl) fun a S => ?_
              refine lx_nil (thenN ?_)
              refine wp_seq (wp_seq (region_plain ?_))
              refine lq (.int .i64 x213) S (q_move rfl) fun a S => ?_
              refine lq (.bool (decide (x213 < (0 : Int)))) S (q_lss rfl rfl) fun a S => ?_
              refine lx_nil (thenN ?_)
              refine cond_b S rfl (fun hc216 => ?_) (fun hc216 => ?_)
              ·have hm := ite_t hc216 hm
               refine wp_seq (region_plain ?_)
               refine lq (.bool false) S (q_assign rfl) fun a S => ?_
               refine lx_nil (thenN ?_)
               refine wp_ret (then_ret ?_)
               obtain rfl := Option.some.inj hm
               have H : Heap w0 [] w211 := H.sel [] (by decide)
               exact leave1 S rfl rfl ⟨rfl, H⟩
              ·have hm := ite_f hc216 hm
               refine wp_skip (thenN ?_)
               refine wp_seq (wp_seq (region_plain ?_))
               refine lq (.int .i64 x213) S (q_move rfl) fun a S => ?_
               refine lq (.int .i64 x170.1) S (q_move rfl) fun a S => ?_
               refine lq (.bool (x213 != x170.1)) S (q_neq rfl rfl) fun a S => ?_
               refine lx_nil (thenN ?_)
               refine cond_b S rfl (fun hc217 => ?_) (fun hc217 => ?_)
               ·have hm := ite_t hc217 hm
                refine wp_seq (region_plain ?_)
                refine lq (.bool false) S (q_assign rfl) fun a S => ?_
                refine lx_nil (thenN ?_)
                refine wp_ret (then_ret ?_)
                obtain rfl := Option.some.inj hm
                have H : Heap w0 [] w211 := H.sel [] (by decide)
                exact leave1 S rfl rfl ⟨rfl, H⟩
               ·have hm := ite_f hc217 hm
                refine wp_skip (thenN ?_)
                refine wp_seq (region_plain ?_)
                refine lq (.bool true) S (q_assign rfl) fun a S => ?_
                refine lx_nil (thenN ?_)
                refine wp_ret ?_
                obtain rfl := Option.some.inj hm
                have H : Heap w0 [] w211 := H.sel [] (by decide)
                exact leave1 S rfl rfl ⟨rfl, H⟩
end Go.Proofs.YtkgkfbmcnchdbaaGreatDoor
