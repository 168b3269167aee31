/- The models of some functions and their walks (printed by a program of this repo). -/
import Derived.Test.YtmiebbfdkfofhaaGreatDoorF0
import Derived.Test.YtmiebbfdkfofhaaGreatDoorF3
import Derived.Test.YtmiebbfdkfofhaaGreatDoorGxT
import Derived.Test.YtmiebbfdkfofhaaGreatDoorGxY
namespace Go.Proofs.YtmiebbfdkfofhaaGreatDoor
open Go.RowKit Go.Gx

/-- laws.eqEdge -/
def laws_eqEdge_m (_ : Nat) (a0 : Timpl_Edge) (a1 : Timpl_Edge) : Option (Bool) :=
  (if (a0.1 != a1.1) = true then some (false) else (if (a0.2.1 != a1.2.1) = true then some (false) else (if (a0.2.2 != a1.2.2) = true then some (false) else some (true))))
set_option maxRecDepth 20000 in
theorem laws_eqEdge_ok {w0 : World} {fuel : Nat} {p0 p1 : Value} {a0 : Timpl_Edge} {a1 : Timpl_Edge} {r : Bool} (h0 : Rd Rimpl_Edge w0 p0 a0) (h1 : Rd Rimpl_Edge w0 p1 a1) (hm : laws_eqEdge_m fuel a0 a1 = some r) :
  Calls Tryz.prog 54 #[p0, p1] w0 fun e w => e = .returned (.bool r) ∧ Heap w0 [] w := by
 unfold laws_eqEdge_m at hm
 have H := Heap.start w0
 obtain ⟨c31, rfl, h32⟩ := h0
 obtain ⟨c33, c34, rfl, h35, h36⟩ := h32
 obtain rfl := h35
 obtain ⟨c37, c38, rfl, h39, h40⟩ := h36
 obtain rfl := h39
 obtain rfl := h40
 obtain ⟨c41, rfl, h42⟩ := h1
 obtain ⟨c43, c44, rfl, h45, h46⟩ := h42
 obtain rfl := h45
 obtain ⟨c47, c48, rfl, h49, h50⟩ := h46
 obtain rfl := h49
 obtain rfl := h50
 refine enter (args := [(.agg #[(.int .i64 a0.1), (.int .i64 a0.2.1), (.int .i64 a0.2.2)]), (.agg #[(.int .i64 a1.1), (.int .i64 a1.2.1), (.int .i64 a1.2.2)])]) Tryz.func54 rfl 20 rfl (Nat.le_of_ble_eq_true rfl) (fun a S => ?_)
 refine wp_seq (region_plain ?_)
 refine lx_box S trivial (by decide) rfl H rfl rfl (fun b51 w52 H => ⟨trivial, fun a S => ?_⟩)
 refine lx_box S trivial (by decide) rfl H rfl rfl (fun b54 w55 H => ⟨trivial, fun a S => ?_⟩)
 refine lq (.bool false) S (q_assign rfl) fun a S => ?_
 refine lx_nil (thenN ?_)
 refine wp_seq (wp_seq (region_plain ?_))
 refine lq (pAdd (bp b51) 0) S (q_fieldAddr' 0 2 rfl (isP_bp _) Tryz.underlying68 rfl Tryz.sizeOf2) fun a S => ?_
 refine lx_e (.int .i64 a0.1) S trivial (by decide) rfl trivial (q_load1 rfl Tryz.isAgg2 (by rintro _ rfl; exact (At.of_add (m := 0) (j := 0) (boxAt (i := 1) H rfl (j := 0) rfl)))) (fun a S => ?_)
 refine lq (pAdd (bp b54) 0) S (q_fieldAddr' 0 2 rfl (isP_bp _) Tryz.underlying68 rfl Tryz.sizeOf2) fun a S => ?_
 refine lx_e (.int .i64 a1.1) S trivial (by decide) rfl trivial (q_load1 rfl Tryz.isAgg2 (by rintro _ rfl; exact (At.of_add (m := 0) (j := 0) (boxAt (i := 0) H rfl (j := 0) rfl)))) (fun a S => ?_)
 refine lq (.bool (a0.1 != a1.1)) S (q_neq rfl rfl) fun a S => ?_
 refine lx_nil (thenN ?_)
 refine cond_b S rfl (fun hc57 => ?_) (fun hc57 => ?_)
 ·have hm := ite_t hc57 hm
  refine wp_seq (region_plain ?_)
  refine lq (.bool false) S (q_assign rfl) fun a S => ?_
  refine lx_nil (thenN ?_)
  refine wp_ret (then_ret ?_)
  obtain rfl := Option.some.inj hm
  have H : Heap w0 [] w55 := H.sel [] (by decide)
  exact leave1 S rfl rfl ⟨rfl, H⟩
 ·have hm := ite_f hc57 hm
  refine wp_skip (thenN ?_)
  refine wp_seq (wp_seq (region_plain ?_))
  refine lq (pAdd (bp b51) 1) S (q_fieldAddr' 1 2 rfl (isP_bp _) Tryz.underlying68 rfl Tryz.sizeOf2) fun a S => ?_
  refine lx_e (.int .i64 a0.2.1) S trivial (by decide) rfl trivial (q_load1 rfl Tryz.isAgg2 (by rintro _ rfl; exact (At.of_add (m := 1) (j := 0) (boxAt (i := 1) H rfl (j := 1) rfl)))) (fun a S => ?_)
  refine lq (pAdd (bp b54) 1) S (q_fieldAddr' 1 2 rfl (isP_bp _) Tryz.underlying68 rfl Tryz.sizeOf2) fun a S => ?_
  refine lx_e (.int .i64 a1.2.1) S trivial (by decide) rfl trivial (q_load1 rfl Tryz.isAgg2 (by rintro _ rfl; exact (At.of_add (m := 1) (j := 0) (boxAt (i := 0) H rfl (j := 1) rfl)))) (fun a S => ?_)
  refine lq (.bool (a0.2.1 != a1.2.1)) S (q_neq rfl rfl) fun a S => ?_
  refine lx_nil (thenN ?_)
  refine cond_b S rfl (fun hc58 => ?_) (fun hc58 => ?_)
  ·have hm := ite_t hc58 hm
   refine wp_seq (region_plain ?_)
   refine lq (.bool false) S (q_assign rfl) fun a S => ?_
   refine lx_nil (thenN ?_)
   refine wp_ret (then_ret ?_)
   obtain rfl := Option.some.inj hm
   have H : Heap w0 [] w55 := H.sel [] (by decide)
   exact leave1 S rfl rfl ⟨rfl, H⟩
  ·have hm := ite_f hc58 hm
   refine wp_skip (thenN ?_)
   refine wp_seq (wp_seq (region_plain ?_))
   refine lq (pAdd (bp b51) 2) S (q_fieldAddr' 2 2 rfl (isP_bp _) Tryz.underlying68 rfl Tryz.sizeOf2) fun a S => ?_
   refine lx_e (.int .i64 a0.2.2) S trivial (by decide) rfl trivial (q_load1 rfl Tryz.isAgg2 (by rintro _ rfl; exact (At.of_add (m := 2) (j := 0) (boxAt (i := 1) H rfl (j := 2) rfl)))) (fun a S => ?_)
   refine lq (pAdd (bp b54) 2) S (q_fieldAddr' 2 2 rfl (isP_bp _) Tryz.underlying68 rfl Tryz.sizeOf2) fun a S => ?_
   refine lx_e (.int .i64 a1.2.2) S trivial (by decide) rfl trivial (q_load1 rfl Tryz.isAgg2 (by rintro _ rfl; exact (At.of_add (m := 2) (j := 0) (boxAt (i := 0) H rfl (j := 2) rfl)))) (fun a S => ?_)
   refine lq (.bool (a0.2.2 != a1.2.2)) S (q_neq rfl rfl) fun a S => ?_
   refine lx_nil (thenN ?_)
   refine cond_b S rfl (fun hc59 => ?_) (fun hc59 => ?_)
   ·have hm := ite_t hc59 hm
    refine wp_seq (region_plain ?_)
    refine lq (.bool false) S (q_assign rfl) fun a S => ?_
    refine lx_nil (thenN ?_)
    refine wp_ret (then_ret ?_)
    obtain rfl := Option.some.inj hm
    have H : Heap w0 [] w55 := H.sel [] (by decide)
    exact leave1 S rfl rfl ⟨rfl, H⟩
   ·have hm := ite_f hc59 hm
    refine wp_skip (thenN ?_)
    refine wp_seq (region_plain ?_)
    refine lq (.bool true) S (q_assign rfl) fun a S => ?_
    refine lx_nil (thenN ?_)
    refine wp_ret ?_
    obtain rfl := Option.some.inj hm
    have H : Heap w0 [] w55 := H.sel [] (by decide)
    exact leave1 S rfl rfl ⟨rfl, H⟩

/-- laws.eqEdgeS -/
def laws_eqEdgeS_m (fuel : Nat) (a0 : (List Timpl_Edge)) (a1 : (List Timpl_Edge)) : Option (Bool) :=
  (if ((a0.length : Int) != (a1.length : Int)) = true then some (false) else (iter (fun (s : (Int)) => (match s with | (x68) => (if (decide (x68 < (a0.length : Int))) = true then (idx a0 x68).bind fun x116 => (idx a1 x68).bind fun x129 => (laws_eqEdge_m fuel (x116.1, x116.2.1, x116.2.2) (x129.1, x129.2.1, x129.2.2)).bind fun x144 => (if (!x144) = true then some (.inr (.inr false)) else some (.inl ((W (x68 + (1 : Int)))))) else some (.inr (.inl ()))) : Option (((Int)) ⊕ ((Unit) ⊕ (Bool))))) fuel ((0 : Int))).bind fun res105 => ctl (β := Unit) (ρ := Bool) (τ := Bool) res105 (fun _ => some (true)) (fun q => some (q)))
set_option maxRecDepth 20000 in
theorem laws_eqEdgeS_ok {w0 : World} {fuel : Nat} {p0 p1 : Value} {a0 : (List Timpl_Edge)} {a1 : (List Timpl_Edge)} {r : Bool} (h0 : Rd (rList Rimpl_Edge) w0 p0 a0) (h1 : Rd (rList Rimpl_Edge) w0 p1 a1) (hm : laws_eqEdgeS_m fuel a0 a1 = some r) :
  Calls Tryz.prog 32 #[p0, p1] w0 fun e w => e = .returned (.bool r) ∧ Heap w0 [] w := by
 unfold laws_eqEdgeS_m at hm
 have H := Heap.start w0
 refine enter (args := [p0, p1]) Tryz.func32 rfl 27 rfl (Nat.le_of_ble_eq_true rfl) (fun a S => ?_)
 refine wp_seq (region_plain ?_)
 refine lq (.bool false) S (q_assign rfl) fun a S => ?_
 refine lx_nil (thenN ?_)
 refine wp_seq (wp_seq (region_plain ?_))
 refine lq p0 S (q_move rfl) fun a S => ?_
 refine lq (.int .i64 (a0.length : Int)) S (q_lenSl rfl (h0).isSl rfl Tryz.underlying29) fun a S => ?_
 refine lq p1 S (q_move rfl) fun a S => ?_
 refine lq (.int .i64 (a1.length : Int)) S (q_lenSl rfl (h1).isSl rfl Tryz.underlying29) fun a S => ?_
 refine lq (.bool ((a0.length : Int) != (a1.length : Int))) S (q_neq rfl rfl) fun a S => ?_
 refine lx_nil (thenN ?_)
 refine cond_b S rfl (fun hc31 => ?_) (fun hc31 => ?_)
 ·have hm := ite_t hc31 hm
  refine wp_seq (region_plain ?_)
  refine lq (.bool false) S (q_assign rfl) fun a S => ?_
  refine lx_nil (thenN ?_)
  refine wp_ret (then_ret ?_)
  obtain rfl := Option.some.inj hm
  exact leave1 S rfl rfl ⟨rfl, H⟩
 ·have hm := ite_f hc31 hm
  refine wp_skip (thenN ?_)
  refine wp_seq (wp_seq (region_plain ?_))
  refine lq (.int .i64 (0 : Int)) S (q_assign rfl) fun a S => ?_
  refine lx_nil (thenN ?_)
  obtain ⟨res105, hit106, hk109⟩ := bind_some hm
  obtain ⟨f107, hf108, hit106⟩ := iter_name hit106
  refine block_loop (fun a w => Slots a 27 [] ∧ Heap w0 [] w ∧ res105 = .inl ()) ?_ ?_
  ·rintro a w ⟨S, H, rfl⟩
   have hm := ctl_inl hk109
   refine thenN ?_
   refine wp_seq (region_plain ?_)
   refine lq (.bool true) S (q_assign rfl) fun a S => ?_
   refine lx_nil (thenN ?_)
   refine wp_ret ?_
   obtain rfl := Option.some.inj hm
   exact leave1 S rfl rfl ⟨rfl, H⟩
  ·skip
   refine loop_ghost (fun n a w => ∃ (x68 : Int), Slots a 27 [(0, p0), (1, p1), (5, (.int .i64 x68))] ∧ Heap w0 [] w ∧ iter f107 n (x68) = some res105) _ ⟨(0 : Int), S.sub ⟨rfl, rfl, rfl, trivial⟩, H, hit106⟩ ?_
   rintro n a w ⟨x68, S, H, hit106⟩
   obtain ⟨m110, o111, rfl, hm, hc112⟩ := iter_step hit106
   rw [hf108] at hm
   refine wp_seq (wp_seq (region_plain ?_))
   refine lq (.int .i64 x68) S (q_move rfl) fun a S => ?_
   refine lq p0 S (q_move rfl) fun a S => ?_
   refine lq (.int .i64 (a0.length : Int)) S (q_lenSl rfl (h0).isSl rfl Tryz.underlying29) fun a S => ?_
   refine lq (.bool (decide (x68 < (a0.length : Int)))) S (q_lss rfl rfl) fun a S => ?_
   refine lx_nil (thenN ?_)
   refine cond_b S rfl (fun hc113 => ?_) (fun hc113 => ?_)
   ·have hm := ite_t hc113 hm
    refine wp_skip (thenN ?_)
    refine wp_seq ?_
    refine wp_block ?_
    refine wp_seq ?_
    refine region_drawG (fun w1 => Heap w0 [] w1) (fun i => [8].contains i) mixed (by kernel_rfl) (fun w115 he114 => ?_)
    have H := H.later he114
    refine ⟨H.sel [] (by decide), ?_⟩
    refine lq p0 S (q_move rfl) fun a S => ?_
    refine lq (.int .i64 x68) S (q_move rfl) fun a S => ?_
    obtain ⟨x116, e117, hm⟩ := bind_some hm
    obtain ⟨c118, h119, hat120⟩ := (h0).elem (idx_some e117).2
    obtain ⟨c121, c122, rfl, h123, h124⟩ := h119
    obtain rfl := h123
    obtain ⟨c125, c126, rfl, h127, h128⟩ := h124
    obtain rfl := h127
    obtain rfl := h128
    have hlt := lt_of_idx (idx_some e117).2
    refine lq (ePtr p0 (x68.toNat * 3)) S (q_indexAddr rfl (h0).isSl rfl (idx_some e117).1 hlt Tryz.underlying29 Tryz.sizeOf68) fun a S => ?_
    refine lq (.agg #[(.int .i64 x116.1), (.int .i64 x116.2.1), (.int .i64 x116.2.2)]) S (q_loadA (cs := [(.int .i64 x116.1), (.int .i64 x116.2.1), (.int .i64 x116.2.2)]) rfl ((hat120 0 _ rfl).isP) Tryz.isAgg68 Tryz.sizeOf68 (fun w1 hC => (fun j u hu => (hat120 j u hu).ext hC.ext))) fun a S => ?_
    refine lq p1 S (q_move rfl) fun a S => ?_
    refine lq (.int .i64 x68) S (q_move rfl) fun a S => ?_
    obtain ⟨x129, e130, hm⟩ := bind_some hm
    obtain ⟨c131, h132, hat133⟩ := (h1).elem (idx_some e130).2
    obtain ⟨c134, c135, rfl, h136, h137⟩ := h132
    obtain rfl := h136
    obtain ⟨c138, c139, rfl, h140, h141⟩ := h137
    obtain rfl := h140
    obtain rfl := h141
    have hlt := lt_of_idx (idx_some e130).2
    refine lq (ePtr p1 (x68.toNat * 3)) S (q_indexAddr rfl (h1).isSl rfl (idx_some e130).1 hlt Tryz.underlying29 Tryz.sizeOf68) fun a S => ?_
    refine lq (.agg #[(.int .i64 x129.1), (.int .i64 x129.2.1), (.int .i64 x129.2.2)]) S (q_loadA (cs := [(.int .i64 x129.1), (.int .i64 x129.2.1), (.int .i64 x129.2.2)]) rfl ((hat133 0 _ rfl).isP) Tryz.isAgg68 Tryz.sizeOf68 (fun w1 hC => (fun j u hu => (hat133 j u hu).ext hC.ext))) fun a S => ?_
    obtain ⟨x144, e145, hm⟩ := bind_some hm
    refine lx_call (xs := [.tmp 20, .tmp 24]) S trivial (by decide) rfl rfl Tryz.call54 ((laws_eqEdge_ok ⟨[(.int .i64 x116.1), (.int .i64 x116.2.1), (.int .i64 x116.2.2)], rfl, ⟨[(.int .i64 x116.1)], [(.int .i64 x116.2.1), (.int .i64 x116.2.2)], rfl, rfl, ⟨[(.int .i64 x116.2.1)], [(.int .i64 x116.2.2)], rfl, rfl, rfl⟩⟩⟩ ⟨[(.int .i64 x129.1), (.int .i64 x129.2.1), (.int .i64 x129.2.2)], rfl, ⟨[(.int .i64 x129.1)], [(.int .i64 x129.2.1), (.int .i64 x129.2.2)], rfl, rfl, ⟨[(.int .i64 x129.2.1)], [(.int .i64 x129.2.2)], rfl, rfl, rfl⟩⟩⟩ e145).mono ?_)
    rintro e w142 ⟨rfl, Hc143⟩
    have H := H.call0 Hc143
    refine ⟨_, rfl, H.sel [] (by decide), fun a S => ?_⟩
    refine lq (.bool (!x144)) S (q_not rfl) fun a S => ?_
    refine lx_nil (thenN ?_)
    refine cond_b S rfl (fun hc147 => ?_) (fun hc147 => ?_)
    ·have hm := ite_t hc147 hm
     refine wp_seq (region_plain ?_)
     refine lq (.bool false) S (q_assign rfl) fun a S => ?_
     refine lx_nil (thenN ?_)
     refine wp_ret (inBlock_ret ?_)
     refine then_ret ?_
     refine then_ret ?_
     refine inBlock_ret ?_
     refine then_ret ?_
     refine then_ret ?_
     obtain rfl := it_brk hm hc112
     have hm := ctl_inr hk109
     obtain rfl := Option.some.inj hm
     exact leave1 S rfl rfl ⟨rfl, H⟩
    ·have hm := ite_f hc147 hm
     refine wp_skip ?_
     refine inBlock_norm ?_
     refine thenN ?_
     refine region_plain ?_
     refine lq (.int .i64 x68) S (q_move rfl) fun a S => ?_
     refine lq (.int .i64 (W (x68 + (1 : Int)))) S (q_add rfl rfl) fun a S => ?_
     refine lq (.int .i64 (W (x68 + (1 : Int)))) S (q_assign rfl) fun a S => ?_
     refine lx_nil ?_
     exact ⟨m110, Nat.lt_succ_self _, (W (x68 + (1 : Int))), S.sub ⟨rfl, rfl, rfl, trivial⟩, H, it_cont hm hc112⟩
   ·have hm := ite_f hc113 hm
    refine wp_exit ?_
    refine then_exit ?_
    refine then_exit ?_
    refine inBlock_exit ?_
    obtain rfl := it_brk hm hc112
    exact ⟨S.sub trivial, H, rfl⟩

/-- laws.eqLts -/
def laws_eqLts_m (fuel : Nat) (a0 : Timpl_Lts) (a1 : Timpl_Lts) : Option (Bool) :=
  (if (a0.1 != a1.1) = true then some (false) else (if (a0.2.1 != a1.2.1) = true then some (false) else (laws_eqStringS_m fuel a0.2.2.1 a1.2.2.1).bind fun x77 => (if (!x77) = true then some (false) else (laws_eqEdgeS_m fuel a0.2.2.2 a1.2.2.2).bind fun x83 => (if (!x83) = true then some (false) else some (true)))))
set_option maxRecDepth 20000 in
theorem laws_eqLts_ok {w0 : World} {fuel : Nat} {p0 p1 : Value} {a0 : Timpl_Lts} {a1 : Timpl_Lts} {r : Bool} (h0 : Rd Rimpl_Lts w0 p0 a0) (h1 : Rd Rimpl_Lts w0 p1 a1) (hm : laws_eqLts_m fuel a0 a1 = some r) :
  Calls Tryz.prog 10 #[p0, p1] w0 fun e w => e = .returned (.bool r) ∧ Heap w0 [] w := by
 unfold laws_eqLts_m at hm
 have H := Heap.start w0
 obtain ⟨c31, rfl, h32⟩ := h0
 obtain ⟨c37, c38, rfl, h39, h40⟩ := h32
 obtain rfl := h39
 obtain ⟨c41, c42, rfl, h43, h44⟩ := h40
 obtain rfl := h43
 obtain ⟨c45, c46, rfl, h47, h48⟩ := h44
 obtain ⟨v33, rfl, h34⟩ := rd_list h47
 obtain ⟨v35, rfl, h36⟩ := rd_list h48
 obtain ⟨c49, rfl, h50⟩ := h1
 obtain ⟨c55, c56, rfl, h57, h58⟩ := h50
 obtain rfl := h57
 obtain ⟨c59, c60, rfl, h61, h62⟩ := h58
 obtain rfl := h61
 obtain ⟨c63, c64, rfl, h65, h66⟩ := h62
 obtain ⟨v51, rfl, h52⟩ := rd_list h65
 obtain ⟨v53, rfl, h54⟩ := rd_list h66
 refine enter (args := [(.agg #[(.int .i64 a0.1), (.int .i64 a0.2.1), v33, v35]), (.agg #[(.int .i64 a1.1), (.int .i64 a1.2.1), v51, v53])]) Tryz.func10 rfl 27 rfl (Nat.le_of_ble_eq_true rfl) (fun a S => ?_)
 refine wp_seq (region_plain ?_)
 refine lx_box S trivial (by decide) rfl H rfl rfl (fun b67 w68 H => ⟨trivial, fun a S => ?_⟩)
 refine lx_box S trivial (by decide) rfl H rfl rfl (fun b70 w71 H => ⟨trivial, fun a S => ?_⟩)
 refine lq (.bool false) S (q_assign rfl) fun a S => ?_
 refine lx_nil (thenN ?_)
 refine wp_seq (wp_seq (region_plain ?_))
 refine lq (pAdd (bp b67) 0) S (q_fieldAddr' 0 2 rfl (isP_bp _) Tryz.underlying31 rfl Tryz.sizeOf2) fun a S => ?_
 refine lx_e (.int .i64 a0.1) S trivial (by decide) rfl trivial (q_load1 rfl Tryz.isAgg2 (by rintro _ rfl; exact (At.of_add (m := 0) (j := 0) (boxAt (i := 1) H rfl (j := 0) rfl)))) (fun a S => ?_)
 refine lq (pAdd (bp b70) 0) S (q_fieldAddr' 0 2 rfl (isP_bp _) Tryz.underlying31 rfl Tryz.sizeOf2) fun a S => ?_
 refine lx_e (.int .i64 a1.1) S trivial (by decide) rfl trivial (q_load1 rfl Tryz.isAgg2 (by rintro _ rfl; exact (At.of_add (m := 0) (j := 0) (boxAt (i := 0) H rfl (j := 0) rfl)))) (fun a S => ?_)
 refine lq (.bool (a0.1 != a1.1)) S (q_neq rfl rfl) fun a S => ?_
 refine lx_nil (thenN ?_)
 refine cond_b S rfl (fun hc73 => ?_) (fun hc73 => ?_)
 ·have hm := ite_t hc73 hm
  refine wp_seq (region_plain ?_)
  refine lq (.bool false) S (q_assign rfl) fun a S => ?_
  refine lx_nil (thenN ?_)
  refine wp_ret (then_ret ?_)
  obtain rfl := Option.some.inj hm
  have H : Heap w0 [] w71 := H.sel [] (by decide)
  exact leave1 S rfl rfl ⟨rfl, H⟩
 ·have hm := ite_f hc73 hm
  refine wp_skip (thenN ?_)
  refine wp_seq (wp_seq (region_plain ?_))
  refine lq (pAdd (bp b67) 1) S (q_fieldAddr' 1 2 rfl (isP_bp _) Tryz.underlying31 rfl Tryz.sizeOf2) fun a S => ?_
  refine lx_e (.int .i64 a0.2.1) S trivial (by decide) rfl trivial (q_load1 rfl Tryz.isAgg2 (by rintro _ rfl; exact (At.of_add (m := 1) (j := 0) (boxAt (i := 1) H rfl (j := 1) rfl)))) (fun a S => ?_)
  refine lq (pAdd (bp b70) 1) S (q_fieldAddr' 1 2 rfl (isP_bp _) Tryz.underlying31 rfl Tryz.sizeOf2) fun a S => ?_
  refine lx_e (.int .i64 a1.2.1) S trivial (by decide) rfl trivial (q_load1 rfl Tryz.isAgg2 (by rintro _ rfl; exact (At.of_add (m := 1) (j := 0) (boxAt (i := 0) H rfl (j := 1) rfl)))) (fun a S => ?_)
  refine lq (.bool (a0.2.1 != a1.2.1)) S (q_neq rfl rfl) fun a S => ?_
  refine lx_nil (thenN ?_)
  refine cond_b S rfl (fun hc74 => ?_) (fun hc74 => ?_)
  ·have hm := ite_t hc74 hm
   refine wp_seq (region_plain ?_)
   refine lq (.bool false) S (q_assign rfl) fun a S => ?_
   refine lx_nil (thenN ?_)
   refine wp_ret (then_ret ?_)
   obtain rfl := Option.some.inj hm
   have H : Heap w0 [] w71 := H.sel [] (by decide)
   exact leave1 S rfl rfl ⟨rfl, H⟩
  ·have hm := ite_f hc74 hm
   refine wp_skip (thenN ?_)
   refine wp_seq (wp_seq (region_plain ?_))
   refine lq (pAdd (bp b67) 2) S (q_fieldAddr' 2 22 rfl (isP_bp _) Tryz.underlying31 rfl Tryz.sizeOf22) fun a S => ?_
   refine lx_e v33 S trivial (by decide) rfl trivial (q_load1 rfl Tryz.isAgg22 (by rintro _ rfl; exact (At.of_add (m := 2) (j := 0) (boxAt (i := 1) H rfl (j := 2) rfl)))) (fun a S => ?_)
   refine lq (pAdd (bp b70) 2) S (q_fieldAddr' 2 22 rfl (isP_bp _) Tryz.underlying31 rfl Tryz.sizeOf22) fun a S => ?_
   refine lx_e v51 S trivial (by decide) rfl trivial (q_load1 rfl Tryz.isAgg22 (by rintro _ rfl; exact (At.of_add (m := 2) (j := 0) (boxAt (i := 0) H rfl (j := 2) rfl)))) (fun a S => ?_)
   obtain ⟨x77, e78, hm⟩ := bind_some hm
   refine lx_call (xs := [.tmp 16, .tmp 18]) S trivial (by decide) rfl rfl Tryz.call9 ((laws_eqStringS_ok (H.arg h34) (H.arg h52) e78).mono ?_)
   rintro e w75 ⟨rfl, Hc76⟩
   have H := H.call0 Hc76
   refine ⟨_, rfl, trivial, fun a S => ?_⟩
   refine lq (.bool (!x77)) S (q_not rfl) fun a S => ?_
   refine lx_nil (thenN ?_)
   refine cond_b S rfl (fun hc80 => ?_) (fun hc80 => ?_)
   ·have hm := ite_t hc80 hm
    refine wp_seq (region_plain ?_)
    refine lq (.bool false) S (q_assign rfl) fun a S => ?_
    refine lx_nil (thenN ?_)
    refine wp_ret (then_ret ?_)
    obtain rfl := Option.some.inj hm
    have H : Heap w0 [] w75 := H.sel [] (by decide)
    exact leave1 S rfl rfl ⟨rfl, H⟩
   ·have hm := ite_f hc80 hm
    refine wp_skip (thenN ?_)
    refine wp_seq (wp_seq (region_plain ?_))
    refine lq (pAdd (bp b67) 3) S (q_fieldAddr' 3 29 rfl (isP_bp _) Tryz.underlying31 rfl Tryz.sizeOf29) fun a S => ?_
    refine lx_e v35 S trivial (by decide) rfl trivial (q_load1 rfl Tryz.isAgg29 (by rintro _ rfl; exact (At.of_add (m := 3) (j := 0) (boxAt (i := 1) H rfl (j := 3) rfl)))) (fun a S => ?_)
    refine lq (pAdd (bp b70) 3) S (q_fieldAddr' 3 29 rfl (isP_bp _) Tryz.underlying31 rfl Tryz.sizeOf29) fun a S => ?_
    refine lx_e v53 S trivial (by decide) rfl trivial (q_load1 rfl Tryz.isAgg29 (by rintro _ rfl; exact (At.of_add (m := 3) (j := 0) (boxAt (i := 0) H rfl (j := 3) rfl)))) (fun a S => ?_)
    obtain ⟨x83, e84, hm⟩ := bind_some hm
    refine lx_call (xs := [.tmp 22, .tmp 24]) S trivial (by decide) rfl rfl Tryz.call32 ((laws_eqEdgeS_ok (H.arg h36) (H.arg h54) e84).mono ?_)
    rintro e w81 ⟨rfl, Hc82⟩
    have H := H.call0 Hc82
    refine ⟨_, rfl, trivial, fun a S => ?_⟩
    refine lq (.bool (!x83)) S (q_not rfl) fun a S => ?_
    refine lx_nil (thenN ?_)
    refine cond_b S rfl (fun hc86 => ?_) (fun hc86 => ?_)
    ·have hm := ite_t hc86 hm
     refine wp_seq (region_plain ?_)
     refine lq (.bool false) S (q_assign rfl) fun a S => ?_
     refine lx_nil (thenN ?_)
     refine wp_ret (then_ret ?_)
     obtain rfl := Option.some.inj hm
     have H : Heap w0 [] w81 := H.sel [] (by decide)
     exact leave1 S rfl rfl ⟨rfl, H⟩
    ·have hm := ite_f hc86 hm
     refine wp_skip (thenN ?_)
     refine wp_seq (region_plain ?_)
     refine lq (.bool true) S (q_assign rfl) fun a S => ?_
     refine lx_nil (thenN ?_)
     refine wp_ret ?_
     obtain rfl := Option.some.inj hm
     have H : Heap w0 [] w81 := H.sel [] (by decide)
     exact leave1 S rfl rfl ⟨rfl, H⟩

/-- laws.markText -/
def laws_markText_m (fuel : Nat) (a0 : Int) : Option (Str) :=
  (if (decide (a0 ≤ (0 : Int))) = true then some (([109, 48] : Str)) else (iter (fun (s : (Int) × (Str)) => (match s with | (x40, x41) => (if (decide ((0 : Int) < x40)) = true then (cat (bstr [(IntKind.u8.wrap (W ((48 : Int) + (x40.tmod (10 : Int)))))]) x41).bind fun x65 => some (.inl ((W (x40.tdiv (10 : Int))), x65)) else some (.inr (.inl (x41)))) : Option (((Int) × (Str)) ⊕ ((Str) ⊕ (Str))))) fuel (a0, ([] : Str))).bind fun res51 => ctl (β := Str) (ρ := Str) (τ := Str) res51 (fun (x50) => (cat ([109] : Str) x50).bind fun x56 => some (x56)) (fun q => some (q)))
set_option maxRecDepth 20000 in
theorem laws_markText_ok {w0 : World} {fuel : Nat} {a0 : Int} {r : Str} (hm : laws_markText_m fuel a0 = some r) :
  Calls Tryz.prog 34 #[.int .i64 a0] w0 fun e w => e = .returned (sv r) ∧ Heap w0 [] w := by
 unfold laws_markText_m at hm
 have H := Heap.start w0
 refine enter (args := [.int .i64 a0]) Tryz.func34 rfl 20 rfl (Nat.le_of_ble_eq_true rfl) (fun a S => ?_)
 refine wp_seq (region_plain ?_)
 refine lq (sv ([] : Str)) S (q_assign rfl) fun a S => ?_
 refine lx_nil (thenN ?_)
 refine wp_seq (wp_seq (region_plain ?_))
 refine lq (.int .i64 a0) S (q_move rfl) fun a S => ?_
 refine lq (.bool (decide (a0 ≤ (0 : Int)))) S (q_leq rfl rfl) fun a S => ?_
 refine lx_nil (thenN ?_)
 refine cond_b S rfl (fun hc31 => ?_) (fun hc31 => ?_)
 ·have hm := ite_t hc31 hm
  refine wp_seq (region_plain ?_)
  refine lq (sv ([109, 48] : Str)) S (q_assign rfl) fun a S => ?_
  refine lx_nil (thenN ?_)
  refine wp_ret (then_ret ?_)
  obtain rfl := Option.some.inj hm
  exact leave1 S rfl rfl ⟨rfl, H⟩
 ·have hm := ite_f hc31 hm
  refine wp_skip (thenN ?_)
  refine wp_seq (region_plain ?_)
  refine lq (sv ([] : Str)) S (q_assign rfl) fun a S => ?_
  refine lx_nil (thenN ?_)
  refine wp_seq ?_
  obtain ⟨res51, hit52, hk55⟩ := bind_some hm
  obtain ⟨f53, hf54, hit52⟩ := iter_name hit52
  refine block_loop (fun a w => ∃ (x50 : Str), Slots a 20 [(3, (sv x50))] ∧ Heap w0 [] w ∧ res51 = .inl (x50)) ?_ ?_
  ·rintro a w ⟨x50, S, H, rfl⟩
   have hm := ctl_inl hk55
   refine thenN ?_
   refine wp_seq (region_plain ?_)
   refine lq (sv x50) S (q_move rfl) fun a S => ?_
   obtain ⟨x56, e57, hm⟩ := bind_some hm
   obtain ⟨hle, hcat⟩ := cat_some e57
   subst hcat
   refine lq (sv (([109] : Str) ++ x50)) S (q_cat rfl rfl hle) fun a S => ?_
   refine lq (sv (([109] : Str) ++ x50)) S (q_assign rfl) fun a S => ?_
   refine lx_nil (thenN ?_)
   refine wp_ret ?_
   obtain rfl := Option.some.inj hm
   exact leave1 S rfl rfl ⟨rfl, H⟩
  ·skip
   refine loop_ghost (fun n a w => ∃ (x40 : Int) (x41 : Str), Slots a 20 [(0, (.int .i64 x40)), (3, (sv x41))] ∧ Heap w0 [] w ∧ iter f53 n (x40, x41) = some res51) _ ⟨a0, ([] : Str), S.sub ⟨rfl, rfl, trivial⟩, H, hit52⟩ ?_
   rintro n a w ⟨x40, x41, S, H, hit52⟩
   obtain ⟨m58, o59, rfl, hm, hc60⟩ := iter_step hit52
   rw [hf54] at hm
   refine wp_seq (wp_seq (region_plain ?_))
   refine lq (.int .i64 x40) S (q_move rfl) fun a S => ?_
   refine lq (.bool (decide ((0 : Int) < x40))) S (q_gtr rfl rfl) fun a S => ?_
   refine lx_nil (thenN ?_)
   refine cond_b S rfl (fun hc61 => ?_) (fun hc61 => ?_)
   ·have hm := ite_t hc61 hm
    refine wp_skip (thenN ?_)
    refine wp_block ?_
    refine wp_seq (region_plain ?_)
    refine lq (.int .i64 x40) S (q_move rfl) fun a S => ?_
    refine lq (.int .i64 (x40.tmod (10 : Int))) S (q_rem rfl rfl (show (10 : Int) ≠ 0 from by decide)) fun a S => ?_
    refine lq (.int .i64 (W ((48 : Int) + (x40.tmod (10 : Int))))) S (q_add rfl rfl) fun a S => ?_
    refine lq (.int .u8 (IntKind.u8.wrap (W ((48 : Int) + (x40.tmod (10 : Int)))))) S (q_convInt rfl Tryz.underlying3 Tryz.underlying5) fun a S => ?_
    refine lx_buildSlice (r := (rInt .u8)) (xs := [(IntKind.u8.wrap (W ((48 : Int) + (x40.tmod (10 : Int)))))]) (ps := [(0, [(.int .u8 (IntKind.u8.wrap (W ((48 : Int) + (x40.tmod (10 : Int))))))])]) (cs := [(.int .u8 (IntKind.u8.wrap (W ((48 : Int) + (x40.tmod (10 : Int))))))]) (parts := [(0, .tmp 11)]) S trivial (by decide) rfl (H.put0 (A := eA) rfl) rfl Tryz.underlying80 Tryz.sizeOf5 Tryz.zeroValue5 (by decide) ⟨rfl, rfl, Nat.le_of_ble_eq_true rfl, trivial⟩ (by intro zs hz; exact fill_dense hz ⟨rfl, trivial⟩ rfl rfl) rfl (by decide) (fun w F hA => by cases (show F = [] from hA); exact ⟨_, _, [(.int .u8 (IntKind.u8.wrap (W ((48 : Int) + (x40.tmod (10 : Int))))))], _, rfl, rfl, ⟨rfl, rfl⟩, ⟨rfl, rfl⟩⟩) (fun v62 w63 H => ⟨trivial, fun a S => ?_⟩)
    refine lx_e (sv (bstr [(IntKind.u8.wrap (W ((48 : Int) + (x40.tmod (10 : Int)))))])) S trivial (by decide) rfl trivial (q_bstr rfl Tryz.underlying80 Tryz.underlying9 Tryz.underlying5 (by rintro _ rfl; exact (H.rdAt 0 rfl))) (fun a S => ?_)
    refine lq (sv x41) S (q_move rfl) fun a S => ?_
    obtain ⟨x65, e66, hm⟩ := bind_some hm
    obtain ⟨hle, hcat⟩ := cat_some e66
    subst hcat
    refine lq (sv ((bstr [(IntKind.u8.wrap (W ((48 : Int) + (x40.tmod (10 : Int)))))]) ++ x41)) S (q_cat rfl rfl hle) fun a S => ?_
    refine lq (sv ((bstr [(IntKind.u8.wrap (W ((48 : Int) + (x40.tmod (10 : Int)))))]) ++ x41)) S (q_assign rfl) fun a S => ?_
    refine lx_nil (thenN ?_)
    refine region_plain ?_
    refine lq (.int .i64 x40) S (q_move rfl) fun a S => ?_
    refine lq (.int .i64 (W (x40.tdiv (10 : Int)))) S (q_quo rfl rfl (show (10 : Int) ≠ 0 from by decide)) fun a S => ?_
    refine lq (.int .i64 (W (x40.tdiv (10 : Int)))) S (q_assign rfl) fun a S => ?_
    refine lx_nil ?_
    refine inBlock_norm ?_
    have H : Heap w0 [] w63 := H.sel [] (by decide)
    exact ⟨m58, Nat.lt_succ_self _, (W (x40.tdiv (10 : Int))), ((bstr [(IntKind.u8.wrap (W ((48 : Int) + (x40.tmod (10 : Int)))))]) ++ x41), S.sub ⟨rfl, rfl, trivial⟩, H, it_cont hm hc60⟩
   ·have hm := ite_f hc61 hm
    refine wp_exit ?_
    refine then_exit ?_
    refine then_exit ?_
    refine inBlock_exit ?_
    obtain rfl := it_brk hm hc60
    exact ⟨x41, S.sub ⟨rfl, trivial⟩, H, rfl⟩

/-- laws.markStringS -/
def laws_markStringS_m (fuel : Nat) (a0 : (List Str)) (a1 : Int) : Option (Int × (List Str)) :=
  (iter (fun (s : (List Str) × (Int) × (Int)) => (match s with | (xs43, x44, x45) => (if (decide (x45 < (xs43.length : Int))) = true then (laws_markText_m fuel x44).bind fun x71 => (idx xs43 x45).bind fun _ => some (.inl ((xs43.set x45.toNat x71), (W (x44 + (1 : Int))), (W (x45 + (1 : Int))))) else some (.inr (.inl (x44, xs43)))) : Option (((List Str) × (Int) × (Int)) ⊕ ((Int × (List Str)) ⊕ (Int × (List Str)))))) fuel (a0, a1, (0 : Int))).bind fun res60 => ctl (β := Int × (List Str)) (ρ := Int × (List Str)) (τ := Int × (List Str)) res60 (fun (x58, xs59) => some ((x58, xs59))) (fun q => some (q))
set_option maxRecDepth 20000 in
theorem laws_markStringS_ok {w0 : World} {fuel : Nat} {p0 : Value} {a0 : (List Str)} {a1 : Int} {w00 : World} {L : List Asrt} {r : Int × (List Str)} (H : Heap w00 (oA (rList rStr) p0 a0 :: L) w0) (hm : laws_markStringS_m fuel a0 a1 = some r) :
  Calls Tryz.prog 12 #[p0, .int .i64 a1] w0 fun e w => e = .returned (.int .i64 r.1) ∧ Heap w00 (oA (rList rStr) p0 r.2 :: L) w := by
 unfold laws_markStringS_m at hm
 refine enter (args := [p0, .int .i64 a1]) Tryz.func12 rfl 20 rfl (Nat.le_of_ble_eq_true rfl) (fun a S => ?_)
 refine wp_seq (region_plain ?_)
 refine lq (.int .i64 (0 : Int)) S (q_assign rfl) fun a S => ?_
 refine lx_nil (thenN ?_)
 refine wp_seq (wp_seq (region_plain ?_))
 refine lq (.int .i64 (0 : Int)) S (q_assign rfl) fun a S => ?_
 refine lx_nil (thenN ?_)
 obtain ⟨res60, hit61, hk64⟩ := bind_some hm
 obtain ⟨f62, hf63, hit61⟩ := iter_name hit61
 refine block_loop (fun a w => ∃ (x58 : Int) (xs59 : List Str), Slots a 20 [(1, (.int .i64 x58))] ∧ Heap w00 (oA (rList rStr) p0 xs59 :: L) w ∧ res60 = .inl (x58, xs59)) ?_ ?_
 ·rintro a w ⟨x58, xs59, S, H, rfl⟩
  have hm := ctl_inl hk64
  refine thenN ?_
  refine wp_seq (region_plain ?_)
  refine lq (.int .i64 x58) S (q_move rfl) fun a S => ?_
  refine lq (.int .i64 x58) S (q_assign rfl) fun a S => ?_
  refine lx_nil (thenN ?_)
  refine wp_ret ?_
  obtain rfl := Option.some.inj hm
  exact leave1 S rfl rfl ⟨rfl, H⟩
 ·skip
  refine loop_ghost (fun n a w => ∃ (xs43 : List Str) (x44 : Int) (x45 : Int), Slots a 20 [(0, p0), (1, (.int .i64 x44)), (5, (.int .i64 x45))] ∧ Heap w00 (oA (rList rStr) p0 xs43 :: L) w ∧ iter f62 n (xs43, x44, x45) = some res60) _ ⟨a0, a1, (0 : Int), S.sub ⟨rfl, rfl, rfl, trivial⟩, H, hit61⟩ ?_
  rintro n a w ⟨xs43, x44, x45, S, H, hit61⟩
  obtain ⟨m65, o66, rfl, hm, hc67⟩ := iter_step hit61
  rw [hf63] at hm
  refine wp_seq (wp_seq (region_plain ?_))
  refine lq (.int .i64 x45) S (q_move rfl) fun a S => ?_
  refine lq p0 S (q_move rfl) fun a S => ?_
  refine lq (.int .i64 (xs43.length : Int)) S (q_lenSl rfl (H.isSl 0 rfl) rfl Tryz.underlying22) fun a S => ?_
  refine lq (.bool (decide (x45 < (xs43.length : Int)))) S (q_lss rfl rfl) fun a S => ?_
  refine lx_nil (thenN ?_)
  refine cond_b S rfl (fun hc68 => ?_) (fun hc68 => ?_)
  ·have hm := ite_t hc68 hm
   refine wp_skip (thenN ?_)
   refine wp_seq ?_
   refine wp_block ?_
   refine wp_seq (region_plain ?_)
   refine lq p0 S (q_move rfl) fun a S => ?_
   refine lq (.int .i64 x45) S (q_move rfl) fun a S => ?_
   refine lq (.int .i64 x44) S (q_move rfl) fun a S => ?_
   obtain ⟨x71, e72, hm⟩ := bind_some hm
   refine lx_call (xs := [.tmp 14]) S trivial (by decide) rfl rfl Tryz.call34 ((laws_markText_ok  e72).mono ?_)
   rintro e w69 ⟨rfl, Hc70⟩
   have H := H.call0 Hc70
   refine ⟨_, rfl, trivial, fun a S => ?_⟩
   obtain ⟨x74, e75, hm⟩ := bind_some hm
   have hlt := lt_of_idx (idx_some e75).2
   refine lq (ePtr p0 (x45.toNat * 1)) S (q_indexAddr rfl (H.isSl 0 rfl) rfl (idx_some e75).1 hlt Tryz.underlying22 Tryz.sizeOf9) fun a S => ?_
   refine lx_storeElem (r := rStr) (us := [(sv x71)]) (off := 0) (e' := x71) S trivial rfl H.putE (ev_zero rfl) rfl (idx_some e75).2 rfl Tryz.sizeOf9 (Nat.le_of_ble_eq_true rfl) (List.forall_mem_cons.2 ⟨rfl, (fun _ h => nomatch h)⟩) (Upd.full rfl (fun w G hG => by cases (show G = [] from hG); exact ⟨rfl, rfl⟩)) (fun w76 H => ⟨trivial, fun a S => ?_⟩)
   refine lx_nil (thenN ?_)
   refine region_plain ?_
   refine lq (.int .i64 x44) S (q_move rfl) fun a S => ?_
   refine lq (.int .i64 (W (x44 + (1 : Int)))) S (q_add rfl rfl) fun a S => ?_
   refine lq (.int .i64 (W (x44 + (1 : Int)))) S (q_assign rfl) fun a S => ?_
   refine lx_nil ?_
   refine inBlock_norm ?_
   refine thenN ?_
   refine region_plain ?_
   refine lq (.int .i64 x45) S (q_move rfl) fun a S => ?_
   refine lq (.int .i64 (W (x45 + (1 : Int)))) S (q_add rfl rfl) fun a S => ?_
   refine lq (.int .i64 (W (x45 + (1 : Int)))) S (q_assign rfl) fun a S => ?_
   refine lx_nil ?_
   exact ⟨m65, Nat.lt_succ_self _, (xs43.set x45.toNat x71), (W (x44 + (1 : Int))), (W (x45 + (1 : Int))), S.sub ⟨rfl, rfl, rfl, trivial⟩, H, it_cont hm hc67⟩
  ·have hm := ite_f hc68 hm
   refine wp_exit ?_
   refine then_exit ?_
   refine then_exit ?_
   refine inBlock_exit ?_
   obtain rfl := it_brk hm hc67
   exact ⟨x44, xs43, S.sub ⟨rfl, trivial⟩, H, rfl⟩

/-- laws.markEdgeS -/
def laws_markEdgeS_m (fuel : Nat) (a0 : (List Timpl_Edge)) (a1 : Int) : Option (Int × (List Timpl_Edge)) :=
  (iter (fun (s : (List Timpl_Edge) × (Int) × (Int)) => (match s with | (xs44, x45, x46) => (if (decide (x46 < (xs44.length : Int))) = true then (idx xs44 x46).bind fun x71 => (idx (xs44.set x46.toNat (x45, x71.2.1, x71.2.2)) x46).bind fun x74 => (idx ((xs44.set x46.toNat (x45, x71.2.1, x71.2.2)).set x46.toNat (x74.1, (W (x45 + (1 : Int))), x74.2.2)) x46).bind fun x77 => some (.inl ((((xs44.set x46.toNat (x45, x71.2.1, x71.2.2)).set x46.toNat (x74.1, (W (x45 + (1 : Int))), x74.2.2)).set x46.toNat (x77.1, x77.2.1, (W ((W (x45 + (1 : Int))) + (1 : Int))))), (W ((W ((W (x45 + (1 : Int))) + (1 : Int))) + (1 : Int))), (W (x46 + (1 : Int))))) else some (.inr (.inl (x45, xs44)))) : Option (((List Timpl_Edge) × (Int) × (Int)) ⊕ ((Int × (List Timpl_Edge)) ⊕ (Int × (List Timpl_Edge)))))) fuel (a0, a1, (0 : Int))).bind fun res62 => ctl (β := Int × (List Timpl_Edge)) (ρ := Int × (List Timpl_Edge)) (τ := Int × (List Timpl_Edge)) res62 (fun (x60, xs61) => some ((x60, xs61))) (fun q => some (q))
set_option maxRecDepth 20000 in
theorem laws_markEdgeS_ok {w0 : World} {fuel : Nat} {p0 : Value} {a0 : (List Timpl_Edge)} {a1 : Int} {w00 : World} {L : List Asrt} {r : Int × (List Timpl_Edge)} (H : Heap w00 (oA (rList Rimpl_Edge) p0 a0 :: L) w0) (hm : laws_markEdgeS_m fuel a0 a1 = some r) :
  Calls Tryz.prog 33 #[p0, .int .i64 a1] w0 fun e w => e = .returned (.int .i64 r.1) ∧ Heap w00 (oA (rList Rimpl_Edge) p0 r.2 :: L) w := by
 unfold laws_markEdgeS_m at hm
 refine enter (args := [p0, .int .i64 a1]) Tryz.func33 rfl 34 rfl (Nat.le_of_ble_eq_true rfl) (fun a S => ?_)
 refine wp_seq (region_plain ?_)
 refine lq (.int .i64 (0 : Int)) S (q_assign rfl) fun a S => ?_
 refine lx_nil (thenN ?_)
 refine wp_seq (wp_seq (region_plain ?_))
 refine lq (.int .i64 (0 : Int)) S (q_assign rfl) fun a S => ?_
 refine lx_nil (thenN ?_)
 obtain ⟨res62, hit63, hk66⟩ := bind_some hm
 obtain ⟨f64, hf65, hit63⟩ := iter_name hit63
 refine block_loop (fun a w => ∃ (x60 : Int) (xs61 : List Timpl_Edge), Slots a 34 [(1, (.int .i64 x60))] ∧ Heap w00 (oA (rList Rimpl_Edge) p0 xs61 :: L) w ∧ res62 = .inl (x60, xs61)) ?_ ?_
 ·rintro a w ⟨x60, xs61, S, H, rfl⟩
  have hm := ctl_inl hk66
  refine thenN ?_
  refine wp_seq (region_plain ?_)
  refine lq (.int .i64 x60) S (q_move rfl) fun a S => ?_
  refine lq (.int .i64 x60) S (q_assign rfl) fun a S => ?_
  refine lx_nil (thenN ?_)
  refine wp_ret ?_
  obtain rfl := Option.some.inj hm
  exact leave1 S rfl rfl ⟨rfl, H⟩
 ·skip
  refine loop_ghost (fun n a w => ∃ (xs44 : List Timpl_Edge) (x45 : Int) (x46 : Int), Slots a 34 [(0, p0), (1, (.int .i64 x45)), (5, (.int .i64 x46))] ∧ Heap w00 (oA (rList Rimpl_Edge) p0 xs44 :: L) w ∧ iter f64 n (xs44, x45, x46) = some res62) _ ⟨a0, a1, (0 : Int), S.sub ⟨rfl, rfl, rfl, trivial⟩, H, hit63⟩ ?_
  rintro n a w ⟨xs44, x45, x46, S, H, hit63⟩
  obtain ⟨m67, o68, rfl, hm, hc69⟩ := iter_step hit63
  rw [hf65] at hm
  refine wp_seq (wp_seq (region_plain ?_))
  refine lq (.int .i64 x46) S (q_move rfl) fun a S => ?_
  refine lq p0 S (q_move rfl) fun a S => ?_
  refine lq (.int .i64 (xs44.length : Int)) S (q_lenSl rfl (H.isSl 0 rfl) rfl Tryz.underlying29) fun a S => ?_
  refine lq (.bool (decide (x46 < (xs44.length : Int)))) S (q_lss rfl rfl) fun a S => ?_
  refine lx_nil (thenN ?_)
  refine cond_b S rfl (fun hc70 => ?_) (fun hc70 => ?_)
  ·have hm := ite_t hc70 hm
   refine wp_skip (thenN ?_)
   refine wp_seq ?_
   refine wp_block ?_
   refine wp_seq (region_plain ?_)
   refine lq p0 S (q_move rfl) fun a S => ?_
   refine lq (.int .i64 x46) S (q_move rfl) fun a S => ?_
   refine lq (.int .i64 x45) S (q_move rfl) fun a S => ?_
   obtain ⟨x71, e72, hm⟩ := bind_some hm
   have hlt := lt_of_idx (idx_some e72).2
   refine lq (ePtr p0 (x46.toNat * 3)) S (q_indexAddr rfl (H.isSl 0 rfl) rfl (idx_some e72).1 hlt Tryz.underlying29 Tryz.sizeOf68) fun a S => ?_
   refine lq (pAdd (ePtr p0 (x46.toNat * 3)) 0) S (q_fieldAddr' 0 2 rfl (((H.isSl 0 rfl)).ptr (lt_of_idx (idx_some e72).2) _) Tryz.underlying68 rfl Tryz.sizeOf2) fun a S => ?_
   refine lx_storeElem (r := Rimpl_Edge) (us := [(.int .i64 x45)]) (off := 0) (e' := (x45, x71.2.1, x71.2.2)) S trivial rfl H.putE rfl rfl (idx_some e72).2 rfl Tryz.sizeOf2 (Nat.le_of_ble_eq_true rfl) (List.forall_mem_cons.2 ⟨rfl, (fun _ h => nomatch h)⟩) (Upd.fst (off := 0) (Nat.le_of_ble_eq_true rfl) (Upd.full rfl (fun w G hG => by cases (show G = [] from hG); exact ⟨rfl, rfl⟩))) (fun w73 H => ⟨trivial, fun a S => ?_⟩)
   refine lx_nil (thenN ?_)
   refine wp_seq (region_plain ?_)
   refine lq (.int .i64 x45) S (q_move rfl) fun a S => ?_
   refine lq (.int .i64 (W (x45 + (1 : Int)))) S (q_add rfl rfl) fun a S => ?_
   refine lq (.int .i64 (W (x45 + (1 : Int)))) S (q_assign rfl) fun a S => ?_
   refine lx_nil (thenN ?_)
   refine wp_seq (region_plain ?_)
   refine lq p0 S (q_move rfl) fun a S => ?_
   refine lq (.int .i64 x46) S (q_move rfl) fun a S => ?_
   refine lq (.int .i64 (W (x45 + (1 : Int)))) S (q_move rfl) fun a S => ?_
   obtain ⟨x74, e75, hm⟩ := bind_some hm
   have hlt := lt_of_idx (idx_some e75).2
   refine lq (ePtr p0 (x46.toNat * 3)) S (q_indexAddr rfl (H.isSl 0 rfl) rfl (idx_some e75).1 hlt Tryz.underlying29 Tryz.sizeOf68) fun a S => ?_
   refine lq (pAdd (ePtr p0 (x46.toNat * 3)) 1) S (q_fieldAddr' 1 2 rfl (((H.isSl 0 rfl)).ptr (lt_of_idx (idx_some e75).2) _) Tryz.underlying68 rfl Tryz.sizeOf2) fun a S => ?_
   refine lx_storeElem (r := Rimpl_Edge) (us := [(.int .i64 (W (x45 + (1 : Int))))]) (off := 1) (e' := (x74.1, (W (x45 + (1 : Int))), x74.2.2)) S trivial rfl H.putE rfl rfl (idx_some e75).2 rfl Tryz.sizeOf2 (Nat.le_of_ble_eq_true rfl) (List.forall_mem_cons.2 ⟨rfl, (fun _ h => nomatch h)⟩) (Upd.snd (off := 0) (Upd.fst (off := 0) (Nat.le_of_ble_eq_true rfl) (Upd.full rfl (fun w G hG => by cases (show G = [] from hG); exact ⟨rfl, rfl⟩)))) (fun w76 H => ⟨trivial, fun a S => ?_⟩)
   refine lx_nil (thenN ?_)
   refine wp_seq (region_plain ?_)
   refine lq (.int .i64 (W (x45 + (1 : Int)))) S (q_move rfl) fun a S => ?_
   refine lq (.int .i64 (W ((W (x45 + (1 : Int))) + (1 : Int)))) S (q_add rfl rfl) fun a S => ?_
   refine lq (.int .i64 (W ((W (x45 + (1 : Int))) + (1 : Int)))) S (q_assign rfl) fun a S => ?_
   refine lx_nil (thenN ?_)
   refine wp_seq (region_plain ?_)
   refine lq p0 S (q_move rfl) fun a S => ?_
   refine lq (.int .i64 x46) S (q_move rfl) fun a S => ?_
   refine lq (.int .i64 (W ((W (x45 + (1 : Int))) + (1 : Int)))) S (q_move rfl) fun a S => ?_
   obtain ⟨x77, e78, hm⟩ := bind_some hm
   have hlt := lt_of_idx (idx_some e78).2
   refine lq (ePtr p0 (x46.toNat * 3)) S (q_indexAddr rfl (H.isSl 0 rfl) rfl (idx_some e78).1 hlt Tryz.underlying29 Tryz.sizeOf68) fun a S => ?_
   refine lq (pAdd (ePtr p0 (x46.toNat * 3)) 2) S (q_fieldAddr' 2 2 rfl (((H.isSl 0 rfl)).ptr (lt_of_idx (idx_some e78).2) _) Tryz.underlying68 rfl Tryz.sizeOf2) fun a S => ?_
   refine lx_storeElem (r := Rimpl_Edge) (us := [(.int .i64 (W ((W (x45 + (1 : Int))) + (1 : Int))))]) (off := 2) (e' := (x77.1, x77.2.1, (W ((W (x45 + (1 : Int))) + (1 : Int))))) S trivial rfl H.putE rfl rfl (idx_some e78).2 rfl Tryz.sizeOf2 (Nat.le_of_ble_eq_true rfl) (List.forall_mem_cons.2 ⟨rfl, (fun _ h => nomatch h)⟩) (Upd.snd (off := 1) (Upd.snd (off := 0) (Upd.full rfl (fun w G hG => by cases (show G = [] from hG); exact ⟨rfl, rfl⟩)))) (fun w79 H => ⟨trivial, fun a S => ?_⟩)
   refine lx_nil (thenN ?_)
   refine region_plain ?_
   refine lq (.int .i64 (W ((W (x45 + (1 : Int))) + (1 : Int)))) S (q_move rfl) fun a S => ?_
   refine lq (.int .i64 (W ((W ((W (x45 + (1 : Int))) + (1 : Int))) + (1 : Int)))) S (q_add rfl rfl) fun a S => ?_
   refine lq (.int .i64 (W ((W ((W (x45 + (1 : Int))) + (1 : Int))) + (1 : Int)))) S (q_assign rfl) fun a S => ?_
   refine lx_nil ?_
   refine inBlock_norm ?_
   refine thenN ?_
   refine region_plain ?_
   refine lq (.int .i64 x46) S (q_move rfl) fun a S => ?_
   refine lq (.int .i64 (W (x46 + (1 : Int)))) S (q_add rfl rfl) fun a S => ?_
   refine lq (.int .i64 (W (x46 + (1 : Int)))) S (q_assign rfl) fun a S => ?_
   refine lx_nil ?_
   exact ⟨m67, Nat.lt_succ_self _, (((xs44.set x46.toNat (x45, x71.2.1, x71.2.2)).set x46.toNat (x74.1, (W (x45 + (1 : Int))), x74.2.2)).set x46.toNat (x77.1, x77.2.1, (W ((W (x45 + (1 : Int))) + (1 : Int))))), (W ((W ((W (x45 + (1 : Int))) + (1 : Int))) + (1 : Int))), (W (x46 + (1 : Int))), S.sub ⟨rfl, rfl, rfl, trivial⟩, H, it_cont hm hc69⟩
  ·have hm := ite_f hc70 hm
   refine wp_exit ?_
   refine then_exit ?_
   refine then_exit ?_
   refine inBlock_exit ?_
   obtain rfl := it_brk hm hc69
   exact ⟨x45, xs44, S.sub ⟨rfl, trivial⟩, H, rfl⟩

/-- laws.markLts -/
def laws_markLts_m (fuel : Nat) (a0 : Timpl_Lts) (a1 : Int) : Option (Int × (List Str) × (List Timpl_Edge)) :=
  (laws_markStringS_m fuel a0.2.2.1 a1).bind fun x36 => (laws_markEdgeS_m fuel a0.2.2.2 x36.1).bind fun x40 => some ((x40.1, x36.2, x40.2))
set_option maxRecDepth 20000 in
theorem laws_markLts_ok {w0 : World} {fuel : Nat} {p0_0 p0_1 : Value} {a0 : Timpl_Lts} {a1 : Int} {w00 : World} {L : List Asrt} {r : Int × (List Str) × (List Timpl_Edge)} (H : Heap w00 (oA (rList rStr) p0_0 a0.2.2.1 :: oA (rList Rimpl_Edge) p0_1 a0.2.2.2 :: L) w0) (hm : laws_markLts_m fuel a0 a1 = some r) :
  Calls Tryz.prog 11 #[(.agg #[(.int .i64 a0.1), (.int .i64 a0.2.1), p0_0, p0_1]), .int .i64 a1] w0 fun e w => e = .returned (.int .i64 r.1) ∧ Heap w00 (oA (rList rStr) p0_0 r.2.1 :: oA (rList Rimpl_Edge) p0_1 r.2.2 :: L) w := by
 unfold laws_markLts_m at hm
 refine enter (args := [(.agg #[(.int .i64 a0.1), (.int .i64 a0.2.1), p0_0, p0_1]), .int .i64 a1]) Tryz.func11 rfl 14 rfl (Nat.le_of_ble_eq_true rfl) (fun a S => ?_)
 refine wp_seq (region_plain ?_)
 refine lx_box S trivial (by decide) rfl H rfl rfl (fun b31 w32 H => ⟨trivial, fun a S => ?_⟩)
 refine lq (.int .i64 (0 : Int)) S (q_assign rfl) fun a S => ?_
 refine lx_nil (thenN ?_)
 refine wp_seq (region_plain ?_)
 refine lq (pAdd (bp b31) 2) S (q_fieldAddr' 2 22 rfl (isP_bp _) Tryz.underlying31 rfl Tryz.sizeOf22) fun a S => ?_
 refine lx_e p0_0 S trivial (by decide) rfl trivial (q_load1 rfl Tryz.isAgg22 (by rintro _ rfl; exact (At.of_add (m := 2) (j := 0) (boxAt (i := 0) H rfl (j := 2) rfl)))) (fun a S => ?_)
 refine lq (.int .i64 a1) S (q_move rfl) fun a S => ?_
 obtain ⟨x36, e37, hm⟩ := bind_some hm
 have H : Heap w00 (oA (rList rStr) p0_0 a0.2.2.1 :: bA b31 [(.int .i64 a0.1), (.int .i64 a0.2.1), p0_0, p0_1] 31 :: oA (rList Rimpl_Edge) p0_1 a0.2.2.2 :: L) w32 := H.front 1 rfl
 refine lx_call (xs := [.tmp 6, .tmp 7]) S trivial (by decide) rfl rfl Tryz.call12 ((laws_markStringS_ok H  e37).mono ?_)
 rintro e w34 ⟨rfl, H⟩
 refine ⟨_, rfl, trivial, fun a S => ?_⟩
 refine lq (.int .i64 x36.1) S (q_assign rfl) fun a S => ?_
 refine lx_nil (thenN ?_)
 refine wp_seq (region_plain ?_)
 refine lq (pAdd (bp b31) 3) S (q_fieldAddr' 3 29 rfl (isP_bp _) Tryz.underlying31 rfl Tryz.sizeOf29) fun a S => ?_
 refine lx_e p0_1 S trivial (by decide) rfl trivial (q_load1 rfl Tryz.isAgg29 (by rintro _ rfl; exact (At.of_add (m := 3) (j := 0) (boxAt (i := 1) H rfl (j := 3) rfl)))) (fun a S => ?_)
 refine lq (.int .i64 x36.1) S (q_move rfl) fun a S => ?_
 obtain ⟨x40, e41, hm⟩ := bind_some hm
 have H : Heap w00 (oA (rList Rimpl_Edge) p0_1 a0.2.2.2 :: oA (rList rStr) p0_0 x36.2 :: bA b31 [(.int .i64 a0.1), (.int .i64 a0.2.1), p0_0, p0_1] 31 :: L) w34 := H.front 2 rfl
 refine lx_call (xs := [.tmp 10, .tmp 11]) S trivial (by decide) rfl rfl Tryz.call33 ((laws_markEdgeS_ok H  e41).mono ?_)
 rintro e w38 ⟨rfl, H⟩
 refine ⟨_, rfl, trivial, fun a S => ?_⟩
 refine lq (.int .i64 x40.1) S (q_assign rfl) fun a S => ?_
 refine lx_nil (thenN ?_)
 refine wp_seq (region_plain ?_)
 refine lq (.int .i64 x40.1) S (q_move rfl) fun a S => ?_
 refine lq (.int .i64 x40.1) S (q_assign rfl) fun a S => ?_
 refine lx_nil (thenN ?_)
 refine wp_ret ?_
 obtain rfl := Option.some.inj hm
 have H : Heap w00 (oA (rList rStr) p0_0 x36.2 :: oA (rList Rimpl_Edge) p0_1 x40.2 :: bA b31 [(.int .i64 a0.1), (.int .i64 a0.2.1), p0_0, p0_1] 31 :: L) w38 := H.front 1 rfl
 have H : Heap w00 (oA (rList rStr) p0_0 x36.2 :: oA (rList Rimpl_Edge) p0_1 x40.2 :: L) w38 := H.selT 3 [0, 1] (by decide)
 exact leave1 S rfl rfl ⟨rfl, H⟩
end Go.Proofs.YtmiebbfdkfofhaaGreatDoor
