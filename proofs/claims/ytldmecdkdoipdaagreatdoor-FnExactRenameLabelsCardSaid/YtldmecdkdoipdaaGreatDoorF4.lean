/- The models of some functions and their walks (printed by a program of this repo). -/
import Derived.Test.YtldmecdkdoipdaaGreatDoorF0
import Derived.Test.YtldmecdkdoipdaaGreatDoorF3
import Derived.Test.YtldmecdkdoipdaaGreatDoorGxT
import Derived.Test.YtldmecdkdoipdaaGreatDoorGxY
namespace Go.Proofs.YtldmecdkdoipdaaGreatDoor
open Go.RowKit Go.Gx

/-- laws.eqEdge -/
def laws_eqEdge_m (_ : Nat) (a0 : Timpl_Edge) (a1 : Timpl_Edge) : Option (Bool) :=
  (if (a0.1 != a1.1) = true then some (false) else (if (a0.2.1 != a1.2.1) = true then some (false) else (if (a0.2.2 != a1.2.2) = true then some (false) else some (true))))
set_option maxRecDepth 20000 in
theorem laws_eqEdge_ok [dr : Dr] {w0 : World} {fuel : Nat} {p0 p1 : Value} {a0 : Timpl_Edge} {a1 : Timpl_Edge} {r : Bool} (h0 : Rd Rimpl_Edge w0 p0 a0) (h1 : Rd Rimpl_Edge w0 p1 a1) (hm : laws_eqEdge_m fuel a0 a1 = some r) :
  Calls Tryz.prog 51 #[p0, p1] w0 fun e w => e = .returned (.bool r) ∧ Heap w0 [] w := by
 unfold laws_eqEdge_m at hm
 have H := Heap.start w0
 obtain ⟨c31, rfl, h32⟩ := h0
 obtain ⟨c33, c34, rfl, h35, h36⟩ := h32
 obtain rfl := h35
 obtain ⟨c37, c38, rfl, h39, h40⟩ := h36
 obtain rfl := h39
 obtain rfl := h40
 obtain ⟨c41, rfl, h42⟩ := h1
 obtain ⟨c43, c44, rfl, h45, h46⟩ := h42
 obtain rfl := h45
 obtain ⟨c47, c48, rfl, h49, h50⟩ := h46
 obtain rfl := h49
 obtain rfl := h50
 refine enter (args := [(.agg #[(.int .i64 a0.1), (.int .i64 a0.2.1), (.int .i64 a0.2.2)]), (.agg #[(.int .i64 a1.1), (.int .i64 a1.2.1), (.int .i64 a1.2.2)])]) Tryz.func51 rfl 20 rfl (Nat.le_of_ble_eq_true rfl) (fun a S => ?_)
 refine wp_seq (region_plain ?_)
 refine lx_box S trivial (by decide) rfl H rfl rfl (fun b51 w52 H => ⟨trivial, fun a S => ?_⟩)
 refine lx_box S trivial (by decide) rfl H rfl rfl (fun b54 w55 H => ⟨trivial, fun a S => ?_⟩)
 refine lq (.bool false) S (q_assign rfl) fun a S => ?_
 refine lx_nil (thenN ?_)
 refine wp_seq (wp_seq (region_plain ?_))
 refine lq (pAdd (bp b51) 0) S (q_fieldAddr' 0 2 rfl (isP_bp _) Tryz.underlying68 rfl Tryz.sizeOf2) fun a S => ?_
 refine lx_e (.int .i64 a0.1) S trivial (by decide) rfl trivial (q_load1 rfl Tryz.isAgg2 (by rintro _ rfl; exact (At.of_add (m := 0) (j := 0) (boxAt (i := 1) H rfl (j := 0) rfl)))) (fun a S => ?_)
 refine lq (pAdd (bp b54) 0) S (q_fieldAddr' 0 2 rfl (isP_bp _) Tryz.underlying68 rfl Tryz.sizeOf2) fun a S => ?_
 refine lx_e (.int .i64 a1.1) S trivial (by decide) rfl trivial (q_load1 rfl Tryz.isAgg2 (by rintro _ rfl; exact (At.of_add (m := 0) (j := 0) (boxAt (i := 0) H rfl (j := 0) rfl)))) (fun a S => ?_)
 refine lq (.bool (a0.1 != a1.1)) S (q_neq rfl rfl) fun a S => ?_
 refine lx_nil (thenN ?_)
 refine cond_b S rfl (fun hc57 => ?_) (fun hc57 => ?_)
 ·have hm := ite_t hc57 hm
  refine wp_seq (region_plain ?_)
  refine lq (.bool false) S (q_assign rfl) fun a S => ?_
  refine lx_nil (thenN ?_)
  refine wp_ret (then_ret ?_)
  obtain rfl := Option.some.inj hm
  have H : Heap w0 [] w55 := H.sel [] (by decide)
  exact leave1 S rfl rfl ⟨rfl, H⟩
 ·have hm := ite_f hc57 hm
  refine wp_skip (thenN ?_)
  refine wp_seq (wp_seq (region_plain ?_))
  refine lq (pAdd (bp b51) 1) S (q_fieldAddr' 1 2 rfl (isP_bp _) Tryz.underlying68 rfl Tryz.sizeOf2) fun a S => ?_
  refine lx_e (.int .i64 a0.2.1) S trivial (by decide) rfl trivial (q_load1 rfl Tryz.isAgg2 (by rintro _ rfl; exact (At.of_add (m := 1) (j := 0) (boxAt (i := 1) H rfl (j := 1) rfl)))) (fun a S => ?_)
  refine lq (pAdd (bp b54) 1) S (q_fieldAddr' 1 2 rfl (isP_bp _) Tryz.underlying68 rfl Tryz.sizeOf2) fun a S => ?_
  refine lx_e (.int .i64 a1.2.1) S trivial (by decide) rfl trivial (q_load1 rfl Tryz.isAgg2 (by rintro _ rfl; exact (At.of_add (m := 1) (j := 0) (boxAt (i := 0) H rfl (j := 1) rfl)))) (fun a S => ?_)
  refine lq (.bool (a0.2.1 != a1.2.1)) S (q_neq rfl rfl) fun a S => ?_
  refine lx_nil (thenN ?_)
  refine cond_b S rfl (fun hc58 => ?_) (fun hc58 => ?_)
  ·have hm := ite_t hc58 hm
   refine wp_seq (region_plain ?_)
   refine lq (.bool false) S (q_assign rfl) fun a S => ?_
   refine lx_nil (thenN ?_)
   refine wp_ret (then_ret ?_)
   obtain rfl := Option.some.inj hm
   have H : Heap w0 [] w55 := H.sel [] (by decide)
   exact leave1 S rfl rfl ⟨rfl, H⟩
  ·have hm := ite_f hc58 hm
   refine wp_skip (thenN ?_)
   refine wp_seq (wp_seq (region_plain ?_))
   refine lq (pAdd (bp b51) 2) S (q_fieldAddr' 2 2 rfl (isP_bp _) Tryz.underlying68 rfl Tryz.sizeOf2) fun a S => ?_
   refine lx_e (.int .i64 a0.2.2) S trivial (by decide) rfl trivial (q_load1 rfl Tryz.isAgg2 (by rintro _ rfl; exact (At.of_add (m := 2) (j := 0) (boxAt (i := 1) H rfl (j := 2) rfl)))) (fun a S => ?_)
   refine lq (pAdd (bp b54) 2) S (q_fieldAddr' 2 2 rfl (isP_bp _) Tryz.underlying68 rfl Tryz.sizeOf2) fun a S => ?_
   refine lx_e (.int .i64 a1.2.2) S trivial (by decide) rfl trivial (q_load1 rfl Tryz.isAgg2 (by rintro _ rfl; exact (At.of_add (m := 2) (j := 0) (boxAt (i := 0) H rfl (j := 2) rfl)))) (fun a S => ?_)
   refine lq (.bool (a0.2.2 != a1.2.2)) S (q_neq rfl rfl) fun a S => ?_
   refine lx_nil (thenN ?_)
   refine cond_b S rfl (fun hc59 => ?_) (fun hc59 => ?_)
   ·have hm := ite_t hc59 hm
    refine wp_seq (region_plain ?_)
    refine lq (.bool false) S (q_assign rfl) fun a S => ?_
    refine lx_nil (thenN ?_)
    refine wp_ret (then_ret ?_)
    obtain rfl := Option.some.inj hm
    have H : Heap w0 [] w55 := H.sel [] (by decide)
    exact leave1 S rfl rfl ⟨rfl, H⟩
   ·have hm := ite_f hc59 hm
    refine wp_skip (thenN ?_)
    refine wp_seq (region_plain ?_)
    refine lq (.bool true) S (q_assign rfl) fun a S => ?_
    refine lx_nil (thenN ?_)
    refine wp_ret ?_
    obtain rfl := Option.some.inj hm
    have H : Heap w0 [] w55 := H.sel [] (by decide)
    exact leave1 S rfl rfl ⟨rfl, H⟩

/-- laws.eqEdgeS -/
def laws_eqEdgeS_m (fuel : Nat) (a0 : (List Timpl_Edge)) (a1 : (List Timpl_Edge)) : Option (Bool) :=
  (if ((a0.length : Int) != (a1.length : Int)) = true then some (false) else (iter (fun (s : (Int)) => (match s with | (x68) => (if (decide (x68 < (a0.length : Int))) = true then (idx a0 x68).bind fun x116 => (idx a1 x68).bind fun x129 => (laws_eqEdge_m fuel (x116.1, x116.2.1, x116.2.2) (x129.1, x129.2.1, x129.2.2)).bind fun x144 => (if (!x144) = true then some (.inr (.inr false)) else some (.inl ((W (x68 + (1 : Int)))))) else some (.inr (.inl ()))) : Option (((Int)) ⊕ ((Unit) ⊕ (Bool))))) fuel ((0 : Int))).bind fun res105 => ctl (β := Unit) (ρ := Bool) (τ := Bool) res105 (fun _ => some (true)) (fun q => some (q)))
set_option maxRecDepth 20000 in
theorem laws_eqEdgeS_ok [dr : Dr] {w0 : World} {fuel : Nat} {p0 p1 : Value} {a0 : (List Timpl_Edge)} {a1 : (List Timpl_Edge)} {r : Bool} (h0 : Rd (rList Rimpl_Edge) w0 p0 a0) (h1 : Rd (rList Rimpl_Edge) w0 p1 a1) (hm : laws_eqEdgeS_m fuel a0 a1 = some r) :
  Calls Tryz.prog 27 #[p0, p1] w0 fun e w => e = .returned (.bool r) ∧ Heap w0 [] w := by
 unfold laws_eqEdgeS_m at hm
 have H := Heap.start w0
 refine enter (args := [p0, p1]) Tryz.func27 rfl 27 rfl (Nat.le_of_ble_eq_true rfl) (fun a S => ?_)
 refine wp_seq (region_plain ?_)
 refine lq (.bool false) S (q_assign rfl) fun a S => ?_
 refine lx_nil (thenN ?_)
 refine wp_seq (wp_seq (region_plain ?_))
 refine lq p0 S (q_move rfl) fun a S => ?_
 refine lq (.int .i64 (a0.length : Int)) S (q_lenSl rfl (h0).isSl rfl Tryz.underlying29) fun a S => ?_
 refine lq p1 S (q_move rfl) fun a S => ?_
 refine lq (.int .i64 (a1.length : Int)) S (q_lenSl rfl (h1).isSl rfl Tryz.underlying29) fun a S => ?_
 refine lq (.bool ((a0.length : Int) != (a1.length : Int))) S (q_neq rfl rfl) fun a S => ?_
 refine lx_nil (thenN ?_)
 refine cond_b S rfl (fun hc31 => ?_) (fun hc31 => ?_)
 ·have hm := ite_t hc31 hm
  refine wp_seq (region_plain ?_)
  refine lq (.bool false) S (q_assign rfl) fun a S => ?_
  refine lx_nil (thenN ?_)
  refine wp_ret (then_ret ?_)
  obtain rfl := Option.some.inj hm
  exact leave1 S rfl rfl ⟨rfl, H⟩
 ·have hm := ite_f hc31 hm
  refine wp_skip (thenN ?_)
  refine wp_seq (wp_seq (region_plain ?_))
  refine lq (.int .i64 (0 : Int)) S (q_assign rfl) fun a S => ?_
  refine lx_nil (thenN ?_)
  obtain ⟨res105, hit106, hk109⟩ := bind_some hm
  obtain ⟨f107, hf108, hit106⟩ := iter_name hit106
  refine block_loop (fun a w => Slots a 27 [] ∧ Heap w0 [] w ∧ res105 = .inl ()) ?_ ?_
  ·rintro a w ⟨S, H, rfl⟩
   have hm := ctl_inl hk109
   refine thenN ?_
   refine wp_seq (region_plain ?_)
   refine lq (.bool true) S (q_assign rfl) fun a S => ?_
   refine lx_nil (thenN ?_)
   refine wp_ret ?_
   obtain rfl := Option.some.inj hm
   exact leave1 S rfl rfl ⟨rfl, H⟩
  ·skip
   refine loop_ghost (fun n a w => ∃ (x68 : Int), Slots a 27 [(0, p0), (1, p1), (5, (.int .i64 x68))] ∧ Heap w0 [] w ∧ iter f107 n (x68) = some res105) _ ⟨(0 : Int), S.sub ⟨rfl, rfl, rfl, trivial⟩, H, hit106⟩ ?_
   rintro n a w ⟨x68, S, H, hit106⟩
   obtain ⟨m110, o111, rfl, hm, hc112⟩ := iter_step hit106
   rw [hf108] at hm
   refine wp_seq (wp_seq (region_plain ?_))
   refine lq (.int .i64 x68) S (q_move rfl) fun a S => ?_
   refine lq p0 S (q_move rfl) fun a S => ?_
   refine lq (.int .i64 (a0.length : Int)) S (q_lenSl rfl (h0).isSl rfl Tryz.underlying29) fun a S => ?_
   refine lq (.bool (decide (x68 < (a0.length : Int)))) S (q_lss rfl rfl) fun a S => ?_
   refine lx_nil (thenN ?_)
   refine cond_b S rfl (fun hc113 => ?_) (fun hc113 => ?_)
   ·have hm := ite_t hc113 hm
    refine wp_skip (thenN ?_)
    refine wp_seq ?_
    refine wp_block ?_
    refine wp_seq ?_
    refine region_drawG (fun w1 => Heap w0 [] w1) (fun i => [8].contains i) mixed (by kernel_rfl) (fun w115 he114 => ?_)
    have H := H.later he114
    refine ⟨H.sel [] (by decide), ?_⟩
    refine lq p0 S (q_move rfl) fun a S => ?_
    refine lq (.int .i64 x68) S (q_move rfl) fun a S => ?_
    obtain ⟨x116, e117, hm⟩ := bind_some hm
    obtain ⟨c118, h119, hat120⟩ := (h0).elem (idx_some e117).2
    obtain ⟨c121, c122, rfl, h123, h124⟩ := h119
    obtain rfl := h123
    obtain ⟨c125, c126, rfl, h127, h128⟩ := h124
    obtain rfl := h127
    obtain rfl := h128
    have hlt := lt_of_idx (idx_some e117).2
    refine lq (ePtr p0 (x68.toNat * 3)) S (q_indexAddr rfl (h0).isSl rfl (idx_some e117).1 hlt Tryz.underlying29 Tryz.sizeOf68) fun a S => ?_
    refine lq (.agg #[(.int .i64 x116.1), (.int .i64 x116.2.1), (.int .i64 x116.2.2)]) S (q_loadA (cs := [(.int .i64 x116.1), (.int .i64 x116.2.1), (.int .i64 x116.2.2)]) rfl ((hat120 0 _ rfl).isP) Tryz.isAgg68 Tryz.sizeOf68 (fun w1 hC => (fun j u hu => (hat120 j u hu).ext hC.ext))) fun a S => ?_
    refine lq p1 S (q_move rfl) fun a S => ?_
    refine lq (.int .i64 x68) S (q_move rfl) fun a S => ?_
    obtain ⟨x129, e130, hm⟩ := bind_some hm
    obtain ⟨c131, h132, hat133⟩ := (h1).elem (idx_some e130).2
    obtain ⟨c134, c135, rfl, h136, h137⟩ := h132
    obtain rfl := h136
    obtain ⟨c138, c139, rfl, h140, h141⟩ := h137
    obtain rfl := h140
    obtain rfl := h141
    have hlt := lt_of_idx (idx_some e130).2
    refine lq (ePtr p1 (x68.toNat * 3)) S (q_indexAddr rfl (h1).isSl rfl (idx_some e130).1 hlt Tryz.underlying29 Tryz.sizeOf68) fun a S => ?_
    refine lq (.agg #[(.int .i64 x129.1), (.int .i64 x129.2.1), (.int .i64 x129.2.2)]) S (q_loadA (cs := [(.int .i64 x129.1), (.int .i64 x129.2.1), (.int .i64 x129.2.2)]) rfl ((hat133 0 _ rfl).isP) Tryz.isAgg68 Tryz.sizeOf68 (fun w1 hC => (fun j u hu => (hat133 j u hu).ext hC.ext))) fun a S => ?_
    obtain ⟨x144, e145, hm⟩ := bind_some hm
    refine lx_call (xs := [.tmp 20, .tmp 24]) S trivial (by decide) rfl rfl Tryz.call51 ((laws_eqEdge_ok ⟨[(.int .i64 x116.1), (.int .i64 x116.2.1), (.int .i64 x116.2.2)], rfl, ⟨[(.int .i64 x116.1)], [(.int .i64 x116.2.1), (.int .i64 x116.2.2)], rfl, rfl, ⟨[(.int .i64 x116.2.1)], [(.int .i64 x116.2.2)], rfl, rfl, rfl⟩⟩⟩ ⟨[(.int .i64 x129.1), (.int .i64 x129.2.1), (.int .i64 x129.2.2)], rfl, ⟨[(.int .i64 x129.1)], [(.int .i64 x129.2.1), (.int .i64 x129.2.2)], rfl, rfl, ⟨[(.int .i64 x129.2.1)], [(.int .i64 x129.2.2)], rfl, rfl, rfl⟩⟩⟩ e145).mono ?_)
    rintro e w142 ⟨rfl, Hc143⟩
    have H := H.call0 Hc143
    refine ⟨_, rfl, H.sel [] (by decide), fun a S => ?_⟩
    refine lq (.bool (!x144)) S (q_not rfl) fun a S => ?_
    refine lx_nil (thenN ?_)
    refine cond_b S rfl (fun hc147 => ?_) (fun hc147 => ?_)
    ·have hm := ite_t hc147 hm
     refine wp_seq (region_plain ?_)
     refine lq (.bool false) S (q_assign rfl) fun a S => ?_
     refine lx_nil (thenN ?_)
     refine wp_ret (inBlock_ret ?_)
     refine then_ret ?_
     refine then_ret ?_
     refine inBlock_ret ?_
     refine then_ret ?_
     refine then_ret ?_
     obtain rfl := it_brk hm hc112
     have hm := ctl_inr hk109
     obtain rfl := Option.some.inj hm
     exact leave1 S rfl rfl ⟨rfl, H⟩
    ·have hm := ite_f hc147 hm
     refine wp_skip ?_
     refine inBlock_norm ?_
     refine thenN ?_
     refine region_plain ?_
     refine lq (.int .i64 x68) S (q_move rfl) fun a S => ?_
     refine lq (.int .i64 (W (x68 + (1 : Int)))) S (q_add rfl rfl) fun a S => ?_
     refine lq (.int .i64 (W (x68 + (1 : Int)))) S (q_assign rfl) fun a S => ?_
     refine lx_nil ?_
     exact ⟨m110, Nat.lt_succ_self _, (W (x68 + (1 : Int))), S.sub ⟨rfl, rfl, rfl, trivial⟩, H, it_cont hm hc112⟩
   ·have hm := ite_f hc113 hm
    refine wp_exit ?_
    refine then_exit ?_
    refine then_exit ?_
    refine inBlock_exit ?_
    obtain rfl := it_brk hm hc112
    exact ⟨S.sub trivial, H, rfl⟩

/-- laws.eqLts -/
def laws_eqLts_m (fuel : Nat) (a0 : Timpl_Lts) (a1 : Timpl_Lts) : Option (Bool) :=
  (if (a0.1 != a1.1) = true then some (false) else (if (a0.2.1 != a1.2.1) = true then some (false) else (laws_eqStringS_m fuel a0.2.2.1 a1.2.2.1).bind fun x77 => (if (!x77) = true then some (false) else (laws_eqEdgeS_m fuel a0.2.2.2 a1.2.2.2).bind fun x83 => (if (!x83) = true then some (false) else some (true)))))
set_option maxRecDepth 20000 in
theorem laws_eqLts_ok [dr : Dr] {w0 : World} {fuel : Nat} {p0 p1 : Value} {a0 : Timpl_Lts} {a1 : Timpl_Lts} {r : Bool} (h0 : Rd Rimpl_Lts w0 p0 a0) (h1 : Rd Rimpl_Lts w0 p1 a1) (hm : laws_eqLts_m fuel a0 a1 = some r) :
  Calls Tryz.prog 10 #[p0, p1] w0 fun e w => e = .returned (.bool r) ∧ Heap w0 [] w := by
 unfold laws_eqLts_m at hm
 have H := Heap.start w0
 obtain ⟨c31, rfl, h32⟩ := h0
 obtain ⟨c37, c38, rfl, h39, h40⟩ := h32
 obtain rfl := h39
 obtain ⟨c41, c42, rfl, h43, h44⟩ := h40
 obtain rfl := h43
 obtain ⟨c45, c46, rfl, h47, h48⟩ := h44
 obtain ⟨v33, rfl, h34⟩ := rd_list h47
 obtain ⟨v35, rfl, h36⟩ := rd_list h48
 obtain ⟨c49, rfl, h50⟩ := h1
 obtain ⟨c55, c56, rfl, h57, h58⟩ := h50
 obtain rfl := h57
 obtain ⟨c59, c60, rfl, h61, h62⟩ := h58
 obtain rfl := h61
 obtain ⟨c63, c64, rfl, h65, h66⟩ := h62
 obtain ⟨v51, rfl, h52⟩ := rd_list h65
 obtain ⟨v53, rfl, h54⟩ := rd_list h66
 refine enter (args := [(.agg #[(.int .i64 a0.1), (.int .i64 a0.2.1), v33, v35]), (.agg #[(.int .i64 a1.1), (.int .i64 a1.2.1), v51, v53])]) Tryz.func10 rfl 27 rfl (Nat.le_of_ble_eq_true rfl) (fun a S => ?_)
 refine wp_seq (region_plain ?_)
 refine lx_box S trivial (by decide) rfl H rfl rfl (fun b67 w68 H => ⟨trivial, fun a S => ?_⟩)
 refine lx_box S trivial (by decide) rfl H rfl rfl (fun b70 w71 H => ⟨trivial, fun a S => ?_⟩)
 refine lq (.bool false) S (q_assign rfl) fun a S => ?_
 refine lx_nil (thenN ?_)
 refine wp_seq (wp_seq (region_plain ?_))
 refine lq (pAdd (bp b67) 0) S (q_fieldAddr' 0 2 rfl (isP_bp _) Tryz.underlying31 rfl Tryz.sizeOf2) fun a S => ?_
 refine lx_e (.int .i64 a0.1) S trivial (by decide) rfl trivial (q_load1 rfl Tryz.isAgg2 (by rintro _ rfl; exact (At.of_add (m := 0) (j := 0) (boxAt (i := 1) H rfl (j := 0) rfl)))) (fun a S => ?_)
 refine lq (pAdd (bp b70) 0) S (q_fieldAddr' 0 2 rfl (isP_bp _) Tryz.underlying31 rfl Tryz.sizeOf2) fun a S => ?_
 refine lx_e (.int .i64 a1.1) S trivial (by decide) rfl trivial (q_load1 rfl Tryz.isAgg2 (by rintro _ rfl; exact (At.of_add (m := 0) (j := 0) (boxAt (i := 0) H rfl (j := 0) rfl)))) (fun a S => ?_)
 refine lq (.bool (a0.1 != a1.1)) S (q_neq rfl rfl) fun a S => ?_
 refine lx_nil (thenN ?_)
 refine cond_b S rfl (fun hc73 => ?_) (fun hc73 => ?_)
 ·have hm := ite_t hc73 hm
  refine wp_seq (region_plain ?_)
  refine lq (.bool false) S (q_assign rfl) fun a S => ?_
  refine lx_nil (thenN ?_)
  refine wp_ret (then_ret ?_)
  obtain rfl := Option.some.inj hm
  have H : Heap w0 [] w71 := H.sel [] (by decide)
  exact leave1 S rfl rfl ⟨rfl, H⟩
 ·have hm := ite_f hc73 hm
  refine wp_skip (thenN ?_)
  refine wp_seq (wp_seq (region_plain ?_))
  refine lq (pAdd (bp b67) 1) S (q_fieldAddr' 1 2 rfl (isP_bp _) Tryz.underlying31 rfl Tryz.sizeOf2) fun a S => ?_
  refine lx_e (.int .i64 a0.2.1) S trivial (by decide) rfl trivial (q_load1 rfl Tryz.isAgg2 (by rintro _ rfl; exact (At.of_add (m := 1) (j := 0) (boxAt (i := 1) H rfl (j := 1) rfl)))) (fun a S => ?_)
  refine lq (pAdd (bp b70) 1) S (q_fieldAddr' 1 2 rfl (isP_bp _) Tryz.underlying31 rfl Tryz.sizeOf2) fun a S => ?_
  refine lx_e (.int .i64 a1.2.1) S trivial (by decide) rfl trivial (q_load1 rfl Tryz.isAgg2 (by rintro _ rfl; exact (At.of_add (m := 1) (j := 0) (boxAt (i := 0) H rfl (j := 1) rfl)))) (fun a S => ?_)
  refine lq (.bool (a0.2.1 != a1.2.1)) S (q_neq rfl rfl) fun a S => ?_
  refine lx_nil (thenN ?_)
  refine cond_b S rfl (fun hc74 => ?_) (fun hc74 => ?_)
  ·have hm := ite_t hc74 hm
   refine wp_seq (region_plain ?_)
   refine lq (.bool false) S (q_assign rfl) fun a S => ?_
   refine lx_nil (thenN ?_)
   refine wp_ret (then_ret ?_)
   obtain rfl := Option.some.inj hm
   have H : Heap w0 [] w71 := H.sel [] (by decide)
   exact leave1 S rfl rfl ⟨rfl, H⟩
  ·have hm := ite_f hc74 hm
   refine wp_skip (thenN ?_)
   refine wp_seq (wp_seq (region_plain ?_))
   refine lq (pAdd (bp b67) 2) S (q_fieldAddr' 2 22 rfl (isP_bp _) Tryz.underlying31 rfl Tryz.sizeOf22) fun a S => ?_
   refine lx_e v33 S trivial (by decide) rfl trivial (q_load1 rfl Tryz.isAgg22 (by rintro _ rfl; exact (At.of_add (m := 2) (j := 0) (boxAt (i := 1) H rfl (j := 2) rfl)))) (fun a S => ?_)
   refine lq (pAdd (bp b70) 2) S (q_fieldAddr' 2 22 rfl (isP_bp _) Tryz.underlying31 rfl Tryz.sizeOf22) fun a S => ?_
   refine lx_e v51 S trivial (by decide) rfl trivial (q_load1 rfl Tryz.isAgg22 (by rintro _ rfl; exact (At.of_add (m := 2) (j := 0) (boxAt (i := 0) H rfl (j := 2) rfl)))) (fun a S => ?_)
   obtain ⟨x77, e78, hm⟩ := bind_some hm
   refine lx_call (xs := [.tmp 16, .tmp 18]) S trivial (by decide) rfl rfl Tryz.call26 ((laws_eqStringS_ok (H.arg h34) (H.arg h52) e78).mono ?_)
   rintro e w75 ⟨rfl, Hc76⟩
   have H := H.call0 Hc76
   refine ⟨_, rfl, trivial, fun a S => ?_⟩
   refine lq (.bool (!x77)) S (q_not rfl) fun a S => ?_
   refine lx_nil (thenN ?_)
   refine cond_b S rfl (fun hc80 => ?_) (fun hc80 => ?_)
   ·have hm := ite_t hc80 hm
    refine wp_seq (region_plain ?_)
    refine lq (.bool false) S (q_assign rfl) fun a S => ?_
    refine lx_nil (thenN ?_)
    refine wp_ret (then_ret ?_)
    obtain rfl := Option.some.inj hm
    have H : Heap w0 [] w75 := H.sel [] (by decide)
    exact leave1 S rfl rfl ⟨rfl, H⟩
   ·have hm := ite_f hc80 hm
    refine wp_skip (thenN ?_)
    refine wp_seq (wp_seq (region_plain ?_))
    refine lq (pAdd (bp b67) 3) S (q_fieldAddr' 3 29 rfl (isP_bp _) Tryz.underlying31 rfl Tryz.sizeOf29) fun a S => ?_
    refine lx_e v35 S trivial (by decide) rfl trivial (q_load1 rfl Tryz.isAgg29 (by rintro _ rfl; exact (At.of_add (m := 3) (j := 0) (boxAt (i := 1) H rfl (j := 3) rfl)))) (fun a S => ?_)
    refine lq (pAdd (bp b70) 3) S (q_fieldAddr' 3 29 rfl (isP_bp _) Tryz.underlying31 rfl Tryz.sizeOf29) fun a S => ?_
    refine lx_e v53 S trivial (by decide) rfl trivial (q_load1 rfl Tryz.isAgg29 (by rintro _ rfl; exact (At.of_add (m := 3) (j := 0) (boxAt (i := 0) H rfl (j := 3) rfl)))) (fun a S => ?_)
    obtain ⟨x83, e84, hm⟩ := bind_some hm
    refine lx_call (xs := [.tmp 22, .tmp 24]) S trivial (by decide) rfl rfl Tryz.call27 ((laws_eqEdgeS_ok (H.arg h36) (H.arg h54) e84).mono ?_)
    rintro e w81 ⟨rfl, Hc82⟩
    have H := H.call0 Hc82
    refine ⟨_, rfl, trivial, fun a S => ?_⟩
    refine lq (.bool (!x83)) S (q_not rfl) fun a S => ?_
    refine lx_nil (thenN ?_)
    refine cond_b S rfl (fun hc86 => ?_) (fun hc86 => ?_)
    ·have hm := ite_t hc86 hm
     refine wp_seq (region_plain ?_)
     refine lq (.bool false) S (q_assign rfl) fun a S => ?_
     refine lx_nil (thenN ?_)
     refine wp_ret (then_ret ?_)
     obtain rfl := Option.some.inj hm
     have H : Heap w0 [] w81 := H.sel [] (by decide)
     exact leave1 S rfl rfl ⟨rfl, H⟩
    ·have hm := ite_f hc86 hm
     refine wp_skip (thenN ?_)
     refine wp_seq (region_plain ?_)
     refine lq (.bool true) S (q_assign rfl) fun a S => ?_
     refine lx_nil (thenN ?_)
     refine wp_ret ?_
     obtain rfl := Option.some.inj hm
     have H : Heap w0 [] w81 := H.sel [] (by decide)
     exact leave1 S rfl rfl ⟨rfl, H⟩
end Go.Proofs.YtldmecdkdoipdaaGreatDoor
