/- The models of some functions and their walks (printed by a program of this repo). -/
import Derived.Test.YtnkpniekdipgaaaGreatDoorF0
import Derived.Test.YtnkpniekdipgaaaGreatDoorGxT
import Derived.Test.YtnkpniekdipgaaaGreatDoorGxY
namespace Go.Proofs.YtnkpniekdipgaaaGreatDoor
open Go.RowKit Go.Gx

/-- laws.szNode -/
def laws_szNode_m (_ : Nat) (a0 : Tlaws_Node) (a1 : Int) : Option (Int) :=
  (if (decide ((W (a1 - (a0.2.2.1.length : Int))) < (0 : Int))) = true then some ((-1 : Int)) else some ((W (a1 - (a0.2.2.1.length : Int)))))
set_option maxRecDepth 20000 in
theorem laws_szNode_ok [dr : Dr] {w0 : World} {fuel : Nat} {p0 : Value} {a0 : Tlaws_Node} {a1 : Int} {r : Int} (h0 : Rd Rlaws_Node w0 p0 a0) (hm : laws_szNode_m fuel a0 a1 = some r) :
  Calls Tryz.prog 23 #[p0, .int .i64 a1] w0 fun e w => e = .returned (.int .i64 r) ∧ Heap w0 [] w := by
 unfold laws_szNode_m at hm
 have H := Heap.start w0
 obtain ⟨c31, rfl, h32⟩ := h0
 obtain ⟨c33, c34, rfl, h35, h36⟩ := h32
 obtain rfl := h35
 obtain ⟨c37, c38, rfl, h39, h40⟩ := h36
 obtain rfl := h39
 obtain ⟨c41, c42, rfl, h43, h44⟩ := h40
 obtain rfl := h43
 obtain rfl := h44
 refine enter (args := [(.agg #[(.int .i64 a0.1), (.int .i64 a0.2.1), (sv a0.2.2.1), (.bool a0.2.2.2)]), .int .i64 a1]) Tryz.func23 rfl 13 rfl (Nat.le_of_ble_eq_true rfl) (fun a S => ?_)
 refine wp_seq (region_plain ?_)
 refine lx_box S trivial (by decide) rfl H rfl rfl (fun b45 w46 H => ⟨trivial, fun a S => ?_⟩)
 refine lq (.int .i64 (0 : Int)) S (q_assign rfl) fun a S => ?_
 refine lx_nil (thenN ?_)
 refine wp_seq (region_plain ?_)
 refine lq (.int .i64 a1) S (q_move rfl) fun a S => ?_
 refine lq (pAdd (bp b45) 2) S (q_fieldAddr' 2 9 rfl (isP_bp _) Tryz.underlying52 rfl Tryz.sizeOf9) fun a S => ?_
 refine lx_e (sv a0.2.2.1) S trivial (by decide) rfl trivial (q_load1 rfl Tryz.isAgg9 (by rintro _ rfl; exact (At.of_add (m := 2) (j := 0) (boxAt (i := 0) H rfl (j := 2) rfl)))) (fun a S => ?_)
 refine lq (.int .i64 (a0.2.2.1.length : Int)) S (q_lenStr rfl rfl Tryz.underlying9) fun a S => ?_
 refine lq (.int .i64 (W (a1 - (a0.2.2.1.length : Int)))) S (q_sub rfl rfl) fun a S => ?_
 refine lq (.int .i64 (W (a1 - (a0.2.2.1.length : Int)))) S (q_assign rfl) fun a S => ?_
 refine lx_nil (thenN ?_)
 refine wp_seq (wp_seq (region_plain ?_))
 refine lq (.int .i64 (W (a1 - (a0.2.2.1.length : Int)))) S (q_move rfl) fun a S => ?_
 refine lq (.bool (decide ((W (a1 - (a0.2.2.1.length : Int))) < (0 : Int)))) S (q_lss rfl rfl) fun a S => ?_
 refine lx_nil (thenN ?_)
 refine cond_b S rfl (fun hc48 => ?_) (fun hc48 => ?_)
 ·have hm := ite_t hc48 hm
  refine wp_seq (region_plain ?_)
  refine lq (.int .i64 (-1 : Int)) S (q_assign rfl) fun a S => ?_
  refine lx_nil (thenN ?_)
  refine wp_ret (then_ret ?_)
  obtain rfl := Option.some.inj hm
  have H : Heap w0 [] w46 := H.sel [] (by decide)
  exact leave1 S rfl rfl ⟨rfl, H⟩
 ·have hm := ite_f hc48 hm
  refine wp_skip (thenN ?_)
  refine wp_seq (region_plain ?_)
  refine lq (.int .i64 (W (a1 - (a0.2.2.1.length : Int)))) S (q_move rfl) fun a S => ?_
  refine lq (.int .i64 (W (a1 - (a0.2.2.1.length : Int)))) S (q_assign rfl) fun a S => ?_
  refine lx_nil (thenN ?_)
  refine wp_ret ?_
  obtain rfl := Option.some.inj hm
  have H : Heap w0 [] w46 := H.sel [] (by decide)
  exact leave1 S rfl rfl ⟨rfl, H⟩

/-- laws.szNodeS -/
def laws_szNodeS_m (fuel : Nat) (a0 : (List Tlaws_Node)) (a1 : Int) : Option (Int) :=
  (if (decide ((W (a1 - (a0.length : Int))) < (0 : Int))) = true then some ((-1 : Int)) else (iter (fun (s : (Int) × (Int)) => (match s with | (x58, x59) => (if (decide (x59 < (a0.length : Int))) = true then (idx a0 x59).bind fun x96 => (laws_szNode_m fuel (x96.1, x96.2.1, x96.2.2.1, x96.2.2.2) x58).bind fun x115 => (if (decide (x115 < (0 : Int))) = true then some (.inr (.inr (-1 : Int))) else some (.inl (x115, (W (x59 + (1 : Int)))))) else some (.inr (.inl (x58)))) : Option (((Int) × (Int)) ⊕ ((Int) ⊕ (Int))))) fuel ((W (a1 - (a0.length : Int))), (0 : Int))).bind fun res87 => ctl (β := Int) (ρ := Int) (τ := Int) res87 (fun (x86) => some (x86)) (fun q => some (q)))
set_option maxRecDepth 20000 in
theorem laws_szNodeS_ok [dr : Dr] {w0 : World} {fuel : Nat} {p0 : Value} {a0 : (List Tlaws_Node)} {a1 : Int} {r : Int} (h0 : Rd (rList Rlaws_Node) w0 p0 a0) (hm : laws_szNodeS_m fuel a0 a1 = some r) :
  Calls Tryz.prog 6 #[p0, .int .i64 a1] w0 fun e w => e = .returned (.int .i64 r) ∧ Heap w0 [] w := by
 unfold laws_szNodeS_m at hm
 have H := Heap.start w0
 refine enter (args := [p0, .int .i64 a1]) Tryz.func6 rfl 27 rfl (Nat.le_of_ble_eq_true rfl) (fun a S => ?_)
 refine wp_seq (region_plain ?_)
 refine lq (.int .i64 (0 : Int)) S (q_assign rfl) fun a S => ?_
 refine lx_nil (thenN ?_)
 refine wp_seq (region_plain ?_)
 refine lq (.int .i64 a1) S (q_move rfl) fun a S => ?_
 refine lq p0 S (q_move rfl) fun a S => ?_
 refine lq (.int .i64 (a0.length : Int)) S (q_lenSl rfl (h0).isSl rfl Tryz.underlying22) fun a S => ?_
 refine lq (.int .i64 (W (a1 - (a0.length : Int)))) S (q_sub rfl rfl) fun a S => ?_
 refine lq (.int .i64 (W (a1 - (a0.length : Int)))) S (q_assign rfl) fun a S => ?_
 refine lx_nil (thenN ?_)
 refine wp_seq (wp_seq (region_plain ?_))
 refine lq (.int .i64 (W (a1 - (a0.length : Int)))) S (q_move rfl) fun a S => ?_
 refine lq (.bool (decide ((W (a1 - (a0.length : Int))) < (0 : Int)))) S (q_lss rfl rfl) fun a S => ?_
 refine lx_nil (thenN ?_)
 refine cond_b S rfl (fun hc31 => ?_) (fun hc31 => ?_)
 ·have hm := ite_t hc31 hm
  refine wp_seq (region_plain ?_)
  refine lq (.int .i64 (-1 : Int)) S (q_assign rfl) fun a S => ?_
  refine lx_nil (thenN ?_)
  refine wp_ret (then_ret ?_)
  obtain rfl := Option.some.inj hm
  exact leave1 S rfl rfl ⟨rfl, H⟩
 ·have hm := ite_f hc31 hm
  refine wp_skip (thenN ?_)
  refine wp_seq (wp_seq (region_plain ?_))
  refine lq (.int .i64 (0 : Int)) S (q_assign rfl) fun a S => ?_
  refine lx_nil (thenN ?_)
  obtain ⟨res87, hit88, hk91⟩ := bind_some hm
  obtain ⟨f89, hf90, hit88⟩ := iter_name hit88
  refine block_loop (fun a w => ∃ (x86 : Int), Slots a 27 [(1, (.int .i64 x86))] ∧ Heap w0 [] w ∧ res87 = .inl (x86)) ?_ ?_
  ·rintro a w ⟨x86, S, H, rfl⟩
   have hm := ctl_inl hk91
   refine thenN ?_
   refine wp_seq (region_plain ?_)
   refine lq (.int .i64 x86) S (q_move rfl) fun a S => ?_
   refine lq (.int .i64 x86) S (q_assign rfl) fun a S => ?_
   refine lx_nil (thenN ?_)
   refine wp_ret ?_
   obtain rfl := Option.some.inj hm
   exact leave1 S rfl rfl ⟨rfl, H⟩
  ·skip
   refine loop_ghost (fun n a w => ∃ (x58 : Int) (x59 : Int), Slots a 27 [(0, p0), (1, (.int .i64 x58)), (5, (.int .i64 x59))] ∧ Heap w0 [] w ∧ iter f89 n (x58, x59) = some res87) _ ⟨(W (a1 - (a0.length : Int))), (0 : Int), S.sub ⟨rfl, rfl, rfl, trivial⟩, H, hit88⟩ ?_
   rintro n a w ⟨x58, x59, S, H, hit88⟩
   obtain ⟨m92, o93, rfl, hm, hc94⟩ := iter_step hit88
   rw [hf90] at hm
   refine wp_seq (wp_seq (region_plain ?_))
   refine lq (.int .i64 x59) S (q_move rfl) fun a S => ?_
   refine lq p0 S (q_move rfl) fun a S => ?_
   refine lq (.int .i64 (a0.length : Int)) S (q_lenSl rfl (h0).isSl rfl Tryz.underlying22) fun a S => ?_
   refine lq (.bool (decide (x59 < (a0.length : Int)))) S (q_lss rfl rfl) fun a S => ?_
   refine lx_nil (thenN ?_)
   refine cond_b S rfl (fun hc95 => ?_) (fun hc95 => ?_)
   ·have hm := ite_t hc95 hm
    refine wp_skip (thenN ?_)
    refine wp_seq ?_
    refine wp_block ?_
    refine wp_seq (region_plain ?_)
    refine lq p0 S (q_move rfl) fun a S => ?_
    refine lq (.int .i64 x59) S (q_move rfl) fun a S => ?_
    obtain ⟨x96, e97, hm⟩ := bind_some hm
    obtain ⟨c98, h99, hat100⟩ := (h0).elem (idx_some e97).2
    obtain ⟨c101, c102, rfl, h103, h104⟩ := h99
    obtain rfl := h103
    obtain ⟨c105, c106, rfl, h107, h108⟩ := h104
    obtain rfl := h107
    obtain ⟨c109, c110, rfl, h111, h112⟩ := h108
    obtain rfl := h111
    obtain rfl := h112
    have hlt := lt_of_idx (idx_some e97).2
    refine lq (ePtr p0 (x59.toNat * 4)) S (q_indexAddr rfl (h0).isSl rfl (idx_some e97).1 hlt Tryz.underlying22 Tryz.sizeOf52) fun a S => ?_
    refine lx_e (.agg #[(.int .i64 x96.1), (.int .i64 x96.2.1), (sv x96.2.2.1), (.bool x96.2.2.2)]) S trivial (by decide) rfl trivial (q_loadA (cs := [(.int .i64 x96.1), (.int .i64 x96.2.1), (sv x96.2.2.1), (.bool x96.2.2.2)]) rfl ((hat100 0 _ rfl).isP) Tryz.isAgg52 Tryz.sizeOf52 (by rintro _ rfl; exact (fun j u hu => (hat100 j u hu).ext H.ext))) (fun a S => ?_)
    refine lq (.int .i64 x58) S (q_move rfl) fun a S => ?_
    obtain ⟨x115, e116, hm⟩ := bind_some hm
    refine lx_call (xs := [.tmp 21, .tmp 22]) S trivial (by decide) rfl rfl Tryz.call23 ((laws_szNode_ok ⟨[(.int .i64 x96.1), (.int .i64 x96.2.1), (sv x96.2.2.1), (.bool x96.2.2.2)], rfl, ⟨[(.int .i64 x96.1)], [(.int .i64 x96.2.1), (sv x96.2.2.1), (.bool x96.2.2.2)], rfl, rfl, ⟨[(.int .i64 x96.2.1)], [(sv x96.2.2.1), (.bool x96.2.2.2)], rfl, rfl, ⟨[(sv x96.2.2.1)], [(.bool x96.2.2.2)], rfl, rfl, rfl⟩⟩⟩⟩  e116).mono ?_)
    rintro e w113 ⟨rfl, Hc114⟩
    have H := H.call0 Hc114
    refine ⟨_, rfl, trivial, fun a S => ?_⟩
    refine lq (.int .i64 x115) S (q_assign rfl) fun a S => ?_
    refine lx_nil (thenN ?_)
    refine wp_seq (region_plain ?_)
    refine lq (.int .i64 x115) S (q_move rfl) fun a S => ?_
    refine lq (.bool (decide (x115 < (0 : Int)))) S (q_lss rfl rfl) fun a S => ?_
    refine lx_nil (thenN ?_)
    refine cond_b S rfl (fun hc118 => ?_) (fun hc118 => ?_)
    ·have hm := ite_t hc118 hm
     refine wp_seq (region_plain ?_)
     refine lq (.int .i64 (-1 : Int)) S (q_assign rfl) fun a S => ?_
     refine lx_nil (thenN ?_)
     refine wp_ret (inBlock_ret ?_)
     refine then_ret ?_
     refine then_ret ?_
     refine inBlock_ret ?_
     refine then_ret ?_
     refine then_ret ?_
     obtain rfl := it_brk hm hc94
     have hm := ctl_inr hk91
     obtain rfl := Option.some.inj hm
     exact leave1 S rfl rfl ⟨rfl, H⟩
    ·have hm := ite_f hc118 hm
     refine wp_skip ?_
     refine inBlock_norm ?_
     refine thenN ?_
     refine region_plain ?_
     refine lq (.int .i64 x59) S (q_move rfl) fun a S => ?_
     refine lq (.int .i64 (W (x59 + (1 : Int)))) S (q_add rfl rfl) fun a S => ?_
     refine lq (.int .i64 (W (x59 + (1 : Int)))) S (q_assign rfl) fun a S => ?_
     refine lx_nil ?_
     exact ⟨m92, Nat.lt_succ_self _, x115, (W (x59 + (1 : Int))), S.sub ⟨rfl, rfl, rfl, trivial⟩, H, it_cont hm hc94⟩
   ·have hm := ite_f hc95 hm
    refine wp_exit ?_
    refine then_exit ?_
    refine then_exit ?_
    refine inBlock_exit ?_
    obtain rfl := it_brk hm hc94
    exact ⟨x58, S.sub ⟨rfl, trivial⟩, H, rfl⟩

/-- laws.szStringS -/
def laws_szStringS_m (fuel : Nat) (a0 : (List Str)) (a1 : Int) : Option (Int) :=
  (if (decide ((W (a1 - (a0.length : Int))) < (0 : Int))) = true then some ((-1 : Int)) else (iter (fun (s : (Int) × (Int)) => (match s with | (x41, x42) => (if (decide (x42 < (a0.length : Int))) = true then (idx a0 x42).bind fun x62 => (if (decide ((W (x41 - (x62.length : Int))) < (0 : Int))) = true then some (.inr (.inr (-1 : Int))) else some (.inl ((W (x41 - (x62.length : Int))), (W (x42 + (1 : Int)))))) else some (.inr (.inl (x41)))) : Option (((Int) × (Int)) ⊕ ((Int) ⊕ (Int))))) fuel ((W (a1 - (a0.length : Int))), (0 : Int))).bind fun res53 => ctl (β := Int) (ρ := Int) (τ := Int) res53 (fun (x52) => some (x52)) (fun q => some (q)))
set_option maxRecDepth 20000 in
theorem laws_szStringS_ok [dr : Dr] {w0 : World} {fuel : Nat} {p0 : Value} {a0 : (List Str)} {a1 : Int} {r : Int} (h0 : Rd (rList rStr) w0 p0 a0) (hm : laws_szStringS_m fuel a0 a1 = some r) :
  Calls Tryz.prog 24 #[p0, .int .i64 a1] w0 fun e w => e = .returned (.int .i64 r) ∧ Heap w0 [] w := by
 unfold laws_szStringS_m at hm
 have H := Heap.start w0
 refine enter (args := [p0, .int .i64 a1]) Tryz.func24 rfl 28 rfl (Nat.le_of_ble_eq_true rfl) (fun a S => ?_)
 refine wp_seq (region_plain ?_)
 refine lq (.int .i64 (0 : Int)) S (q_assign rfl) fun a S => ?_
 refine lx_nil (thenN ?_)
 refine wp_seq (region_plain ?_)
 refine lq (.int .i64 a1) S (q_move rfl) fun a S => ?_
 refine lq p0 S (q_move rfl) fun a S => ?_
 refine lq (.int .i64 (a0.length : Int)) S (q_lenSl rfl (h0).isSl rfl Tryz.underlying23) fun a S => ?_
 refine lq (.int .i64 (W (a1 - (a0.length : Int)))) S (q_sub rfl rfl) fun a S => ?_
 refine lq (.int .i64 (W (a1 - (a0.length : Int)))) S (q_assign rfl) fun a S => ?_
 refine lx_nil (thenN ?_)
 refine wp_seq (wp_seq (region_plain ?_))
 refine lq (.int .i64 (W (a1 - (a0.length : Int)))) S (q_move rfl) fun a S => ?_
 refine lq (.bool (decide ((W (a1 - (a0.length : Int))) < (0 : Int)))) S (q_lss rfl rfl) fun a S => ?_
 refine lx_nil (thenN ?_)
 refine cond_b S rfl (fun hc31 => ?_) (fun hc31 => ?_)
 ·have hm := ite_t hc31 hm
  refine wp_seq (region_plain ?_)
  refine lq (.int .i64 (-1 : Int)) S (q_assign rfl) fun a S => ?_
  refine lx_nil (thenN ?_)
  refine wp_ret (then_ret ?_)
  obtain rfl := Option.some.inj hm
  exact leave1 S rfl rfl ⟨rfl, H⟩
 ·have hm := ite_f hc31 hm
  refine wp_skip (thenN ?_)
  refine wp_seq (wp_seq (region_plain ?_))
  refine lq (.int .i64 (0 : Int)) S (q_assign rfl) fun a S => ?_
  refine lx_nil (thenN ?_)
  obtain ⟨res53, hit54, hk57⟩ := bind_some hm
  obtain ⟨f55, hf56, hit54⟩ := iter_name hit54
  refine block_loop (fun a w => ∃ (x52 : Int), Slots a 28 [(1, (.int .i64 x52))] ∧ Heap w0 [] w ∧ res53 = .inl (x52)) ?_ ?_
  ·rintro a w ⟨x52, S, H, rfl⟩
   have hm := ctl_inl hk57
   refine thenN ?_
   refine wp_seq (region_plain ?_)
   refine lq (.int .i64 x52) S (q_move rfl) fun a S => ?_
   refine lq (.int .i64 x52) S (q_assign rfl) fun a S => ?_
   refine lx_nil (thenN ?_)
   refine wp_ret ?_
   obtain rfl := Option.some.inj hm
   exact leave1 S rfl rfl ⟨rfl, H⟩
  ·skip
   refine loop_ghost (fun n a w => ∃ (x41 : Int) (x42 : Int), Slots a 28 [(0, p0), (1, (.int .i64 x41)), (5, (.int .i64 x42))] ∧ Heap w0 [] w ∧ iter f55 n (x41, x42) = some res53) _ ⟨(W (a1 - (a0.length : Int))), (0 : Int), S.sub ⟨rfl, rfl, rfl, trivial⟩, H, hit54⟩ ?_
   rintro n a w ⟨x41, x42, S, H, hit54⟩
   obtain ⟨m58, o59, rfl, hm, hc60⟩ := iter_step hit54
   rw [hf56] at hm
   refine wp_seq (wp_seq (region_plain ?_))
   refine lq (.int .i64 x42) S (q_move rfl) fun a S => ?_
   refine lq p0 S (q_move rfl) fun a S => ?_
   refine lq (.int .i64 (a0.length : Int)) S (q_lenSl rfl (h0).isSl rfl Tryz.underlying23) fun a S => ?_
   refine lq (.bool (decide (x42 < (a0.length : Int)))) S (q_lss rfl rfl) fun a S => ?_
   refine lx_nil (thenN ?_)
   refine cond_b S rfl (fun hc61 => ?_) (fun hc61 => ?_)
   ·have hm := ite_t hc61 hm
    refine wp_skip (thenN ?_)
    refine wp_seq ?_
    refine wp_block ?_
    refine wp_seq (region_plain ?_)
    refine lq (.int .i64 x41) S (q_move rfl) fun a S => ?_
    refine lq p0 S (q_move rfl) fun a S => ?_
    refine lq (.int .i64 x42) S (q_move rfl) fun a S => ?_
    obtain ⟨x62, e63, hm⟩ := bind_some hm
    obtain ⟨c64, h65, hat66⟩ := (h0).elem (idx_some e63).2
    obtain rfl := h65
    have hlt := lt_of_idx (idx_some e63).2
    refine lq (ePtr p0 (x42.toNat * 1)) S (q_indexAddr rfl (h0).isSl rfl (idx_some e63).1 hlt Tryz.underlying23 Tryz.sizeOf9) fun a S => ?_
    refine lx_e (sv x62) S trivial (by decide) rfl trivial (q_load1 rfl Tryz.isAgg9 (by rintro _ rfl; exact ((hat66 0 _ rfl).ext H.ext))) (fun a S => ?_)
    refine lq (.int .i64 (x62.length : Int)) S (q_lenStr rfl rfl Tryz.underlying9) fun a S => ?_
    refine lq (.int .i64 (W (x41 - (x62.length : Int)))) S (q_sub rfl rfl) fun a S => ?_
    refine lq (.int .i64 (W (x41 - (x62.length : Int)))) S (q_assign rfl) fun a S => ?_
    refine lx_nil (thenN ?_)
    refine wp_seq (region_plain ?_)
    refine lq (.int .i64 (W (x41 - (x62.length : Int)))) S (q_move rfl) fun a S => ?_
    refine lq (.bool (decide ((W (x41 - (x62.length : Int))) < (0 : Int)))) S (q_lss rfl rfl) fun a S => ?_
    refine lx_nil (thenN ?_)
    refine cond_b S rfl (fun hc67 => ?_) (fun hc67 => ?_)
    ·have hm := ite_t hc67 hm
     refine wp_seq (region_plain ?_)
     refine lq (.int .i64 (-1 : Int)) S (q_assign rfl) fun a S => ?_
     refine lx_nil (thenN ?_)
     refine wp_ret (inBlock_ret ?_)
     refine then_ret ?_
     refine then_ret ?_
     refine inBlock_ret ?_
     refine then_ret ?_
     refine then_ret ?_
     obtain rfl := it_brk hm hc60
     have hm := ctl_inr hk57
     obtain rfl := Option.some.inj hm
     exact leave1 S rfl rfl ⟨rfl, H⟩
    ·have hm := ite_f hc67 hm
     refine wp_skip ?_
     refine inBlock_norm ?_
     refine thenN ?_
     refine region_plain ?_
     refine lq (.int .i64 x42) S (q_move rfl) fun a S => ?_
     refine lq (.int .i64 (W (x42 + (1 : Int)))) S (q_add rfl rfl) fun a S => ?_
     refine lq (.int .i64 (W (x42 + (1 : Int)))) S (q_assign rfl) fun a S => ?_
     refine lx_nil ?_
     exact ⟨m58, Nat.lt_succ_self _, (W (x41 - (x62.length : Int))), (W (x42 + (1 : Int))), S.sub ⟨rfl, rfl, rfl, trivial⟩, H, it_cont hm hc60⟩
   ·have hm := ite_f hc61 hm
    refine wp_exit ?_
    refine then_exit ?_
    refine then_exit ?_
    refine inBlock_exit ?_
    obtain rfl := it_brk hm hc60
    exact ⟨x41, S.sub ⟨rfl, trivial⟩, H, rfl⟩

/-- laws.szEdgeS -/
def laws_szEdgeS_m (_ : Nat) (a0 : (List Tlaws_Edge)) (a1 : Int) : Option (Int) :=
  (if (decide ((W (a1 - (a0.length : Int))) < (0 : Int))) = true then some ((-1 : Int)) else some ((W (a1 - (a0.length : Int)))))
set_option maxRecDepth 20000 in
theorem laws_szEdgeS_ok [dr : Dr] {w0 : World} {fuel : Nat} {p0 : Value} {a0 : (List Tlaws_Edge)} {a1 : Int} {r : Int} (h0 : Rd (rList Rlaws_Edge) w0 p0 a0) (hm : laws_szEdgeS_m fuel a0 a1 = some r) :
  Calls Tryz.prog 25 #[p0, .int .i64 a1] w0 fun e w => e = .returned (.int .i64 r) ∧ Heap w0 [] w := by
 unfold laws_szEdgeS_m at hm
 have H := Heap.start w0
 refine enter (args := [p0, .int .i64 a1]) Tryz.func25 rfl 12 rfl (Nat.le_of_ble_eq_true rfl) (fun a S => ?_)
 refine wp_seq (region_plain ?_)
 refine lq (.int .i64 (0 : Int)) S (q_assign rfl) fun a S => ?_
 refine lx_nil (thenN ?_)
 refine wp_seq (region_plain ?_)
 refine lq (.int .i64 a1) S (q_move rfl) fun a S => ?_
 refine lq p0 S (q_move rfl) fun a S => ?_
 refine lq (.int .i64 (a0.length : Int)) S (q_lenSl rfl (h0).isSl rfl Tryz.underlying24) fun a S => ?_
 refine lq (.int .i64 (W (a1 - (a0.length : Int)))) S (q_sub rfl rfl) fun a S => ?_
 refine lq (.int .i64 (W (a1 - (a0.length : Int)))) S (q_assign rfl) fun a S => ?_
 refine lx_nil (thenN ?_)
 refine wp_seq (wp_seq (region_plain ?_))
 refine lq (.int .i64 (W (a1 - (a0.length : Int)))) S (q_move rfl) fun a S => ?_
 refine lq (.bool (decide ((W (a1 - (a0.length : Int))) < (0 : Int)))) S (q_lss rfl rfl) fun a S => ?_
 refine lx_nil (thenN ?_)
 refine cond_b S rfl (fun hc31 => ?_) (fun hc31 => ?_)
 ·have hm := ite_t hc31 hm
  refine wp_seq (region_plain ?_)
  refine lq (.int .i64 (-1 : Int)) S (q_assign rfl) fun a S => ?_
  refine lx_nil (thenN ?_)
  refine wp_ret (then_ret ?_)
  obtain rfl := Option.some.inj hm
  exact leave1 S rfl rfl ⟨rfl, H⟩
 ·have hm := ite_f hc31 hm
  refine wp_skip (thenN ?_)
  refine wp_seq (region_plain ?_)
  refine lq (.int .i64 (W (a1 - (a0.length : Int)))) S (q_move rfl) fun a S => ?_
  refine lq (.int .i64 (W (a1 - (a0.length : Int)))) S (q_assign rfl) fun a S => ?_
  refine lx_nil (thenN ?_)
  refine wp_ret ?_
  obtain rfl := Option.some.inj hm
  exact leave1 S rfl rfl ⟨rfl, H⟩

/-- laws.szLts -/
def laws_szLts_m (fuel : Nat) (a0 : Tlaws_Lts) (a1 : Int) : Option (Int) :=
  (laws_szStringS_m fuel a0.2.2.1 a1).bind fun x54 => (if (decide (x54 < (0 : Int))) = true then some ((-1 : Int)) else (laws_szEdgeS_m fuel a0.2.2.2 x54).bind fun x60 => (if (decide (x60 < (0 : Int))) = true then some ((-1 : Int)) else some (x60)))
set_option maxRecDepth 20000 in
theorem laws_szLts_ok [dr : Dr] {w0 : World} {fuel : Nat} {p0 : Value} {a0 : Tlaws_Lts} {a1 : Int} {r : Int} (h0 : Rd Rlaws_Lts w0 p0 a0) (hm : laws_szLts_m fuel a0 a1 = some r) :
  Calls Tryz.prog 7 #[p0, .int .i64 a1] w0 fun e w => e = .returned (.int .i64 r) ∧ Heap w0 [] w := by
 unfold laws_szLts_m at hm
 have H := Heap.start w0
 obtain ⟨c31, rfl, h32⟩ := h0
 obtain ⟨c37, c38, rfl, h39, h40⟩ := h32
 obtain rfl := h39
 obtain ⟨c41, c42, rfl, h43, h44⟩ := h40
 obtain rfl := h43
 obtain ⟨c45, c46, rfl, h47, h48⟩ := h44
 obtain ⟨v33, rfl, h34⟩ := rd_list h47
 obtain ⟨v35, rfl, h36⟩ := rd_list h48
 refine enter (args := [(.agg #[(.int .i64 a0.1), (.int .i64 a0.2.1), v33, v35]), .int .i64 a1]) Tryz.func7 rfl 18 rfl (Nat.le_of_ble_eq_true rfl) (fun a S => ?_)
 refine wp_seq (region_plain ?_)
 refine lx_box S trivial (by decide) rfl H rfl rfl (fun b49 w50 H => ⟨trivial, fun a S => ?_⟩)
 refine lq (.int .i64 (0 : Int)) S (q_assign rfl) fun a S => ?_
 refine lx_nil (thenN ?_)
 refine wp_seq (region_plain ?_)
 refine lq (pAdd (bp b49) 2) S (q_fieldAddr' 2 23 rfl (isP_bp _) Tryz.underlying26 rfl Tryz.sizeOf23) fun a S => ?_
 refine lx_e v33 S trivial (by decide) rfl trivial (q_load1 rfl Tryz.isAgg23 (by rintro _ rfl; exact (At.of_add (m := 2) (j := 0) (boxAt (i := 0) H rfl (j := 2) rfl)))) (fun a S => ?_)
 refine lq (.int .i64 a1) S (q_move rfl) fun a S => ?_
 obtain ⟨x54, e55, hm⟩ := bind_some hm
 refine lx_call (xs := [.tmp 6, .tmp 7]) S trivial (by decide) rfl rfl Tryz.call24 ((laws_szStringS_ok (H.arg h34)  e55).mono ?_)
 rintro e w52 ⟨rfl, Hc53⟩
 have H := H.call0 Hc53
 refine ⟨_, rfl, trivial, fun a S => ?_⟩
 refine lq (.int .i64 x54) S (q_assign rfl) fun a S => ?_
 refine lx_nil (thenN ?_)
 refine wp_seq (wp_seq (region_plain ?_))
 refine lq (.int .i64 x54) S (q_move rfl) fun a S => ?_
 refine lq (.bool (decide (x54 < (0 : Int)))) S (q_lss rfl rfl) fun a S => ?_
 refine lx_nil (thenN ?_)
 refine cond_b S rfl (fun hc57 => ?_) (fun hc57 => ?_)
 ·have hm := ite_t hc57 hm
  refine wp_seq (region_plain ?_)
  refine lq (.int .i64 (-1 : Int)) S (q_assign rfl) fun a S => ?_
  refine lx_nil (thenN ?_)
  refine wp_ret (then_ret ?_)
  obtain rfl := Option.some.inj hm
  have H : Heap w0 [] w52 := H.sel [] (by decide)
  exact leave1 S rfl rfl ⟨rfl, H⟩
 ·have hm := ite_f hc57 hm
  refine wp_skip (thenN ?_)
  refine wp_seq (region_plain ?_)
  refine lq (pAdd (bp b49) 3) S (q_fieldAddr' 3 24 rfl (isP_bp _) Tryz.underlying26 rfl Tryz.sizeOf24) fun a S => ?_
  refine lx_e v35 S trivial (by decide) rfl trivial (q_load1 rfl Tryz.isAgg24 (by rintro _ rfl; exact (At.of_add (m := 3) (j := 0) (boxAt (i := 0) H rfl (j := 3) rfl)))) (fun a S => ?_)
  refine lq (.int .i64 x54) S (q_move rfl) fun a S => ?_
  obtain ⟨x60, e61, hm⟩ := bind_some hm
  refine lx_call (xs := [.tmp 12, .tmp 13]) S trivial (by decide) rfl rfl Tryz.call25 ((laws_szEdgeS_ok (H.arg h36)  e61).mono ?_)
  rintro e w58 ⟨rfl, Hc59⟩
  have H := H.call0 Hc59
  refine ⟨_, rfl, trivial, fun a S => ?_⟩
  refine lq (.int .i64 x60) S (q_assign rfl) fun a S => ?_
  refine lx_nil (thenN ?_)
  refine wp_seq (wp_seq (region_plain ?_))
  refine lq (.int .i64 x60) S (q_move rfl) fun a S => ?_
  refine lq (.bool (decide (x60 < (0 : Int)))) S (q_lss rfl rfl) fun a S => ?_
  refine lx_nil (thenN ?_)
  refine cond_b S rfl (fun hc63 => ?_) (fun hc63 => ?_)
  ·have hm := ite_t hc63 hm
   refine wp_seq (region_plain ?_)
   refine lq (.int .i64 (-1 : Int)) S (q_assign rfl) fun a S => ?_
   refine lx_nil (thenN ?_)
   refine wp_ret (then_ret ?_)
   obtain rfl := Option.some.inj hm
   have H : Heap w0 [] w58 := H.sel [] (by decide)
   exact leave1 S rfl rfl ⟨rfl, H⟩
  ·have hm := ite_f hc63 hm
   refine wp_skip (thenN ?_)
   refine wp_seq (region_plain ?_)
   refine lq (.int .i64 x60) S (q_move rfl) fun a S => ?_
   refine lq (.int .i64 x60) S (q_assign rfl) fun a S => ?_
   refine lx_nil (thenN ?_)
   refine wp_ret ?_
   obtain rfl := Option.some.inj hm
   have H : Heap w0 [] w58 := H.sel [] (by decide)
   exact leave1 S rfl rfl ⟨rfl, H⟩

/-- laws.toNode -/
def laws_toNode_m (_ : Nat) (a0 : Tlaws_Node) : Option (Timpl_Node) :=
  some ((a0.1, a0.2.1, a0.2.2.1, a0.2.2.2))
set_option maxRecDepth 20000 in
theorem laws_toNode_ok [dr : Dr] {w0 : World} {fuel : Nat} {p0 : Value} {a0 : Tlaws_Node} {r : Timpl_Node} (h0 : Rd Rlaws_Node w0 p0 a0) (hm : laws_toNode_m fuel a0 = some r) :
  Calls Tryz.prog 30 #[p0] w0 fun e w => e = .returned (.agg #[.int .i64 r.1, .int .i64 r.2.1, sv r.2.2.1, .bool r.2.2.2]) ∧ Heap w0 [] w := by
 unfold laws_toNode_m at hm
 have H := Heap.start w0
 obtain ⟨c31, rfl, h32⟩ := h0
 obtain ⟨c33, c34, rfl, h35, h36⟩ := h32
 obtain rfl := h35
 obtain ⟨c37, c38, rfl, h39, h40⟩ := h36
 obtain rfl := h39
 obtain ⟨c41, c42, rfl, h43, h44⟩ := h40
 obtain rfl := h43
 obtain rfl := h44
 refine enter (args := [(.agg #[(.int .i64 a0.1), (.int .i64 a0.2.1), (sv a0.2.2.1), (.bool a0.2.2.2)])]) Tryz.func30 rfl 17 rfl (Nat.le_of_ble_eq_true rfl) (fun a S => ?_)
 refine wp_seq (region_plain ?_)
 refine lx_box S trivial (by decide) rfl H rfl rfl (fun b45 w46 H => ⟨trivial, fun a S => ?_⟩)
 refine lx_alloc S trivial (by decide) rfl H Tryz.zeroValue61 rfl (fun b48 w49 H => ⟨trivial, fun a S => ?_⟩)
 refine lx_nil (thenN ?_)
 refine wp_seq (region_plain ?_)
 refine lx_alloc S trivial (by decide) rfl H Tryz.zeroValue61 rfl (fun b51 w52 H => ⟨trivial, fun a S => ?_⟩)
 refine lx_nil (thenN ?_)
 refine wp_seq (region_plain ?_)
 refine lq (pAdd (bp b45) 0) S (q_fieldAddr' 0 2 rfl (isP_bp _) Tryz.underlying52 rfl Tryz.sizeOf2) fun a S => ?_
 refine lx_e (.int .i64 a0.1) S trivial (by decide) rfl trivial (q_load1 rfl Tryz.isAgg2 (by rintro _ rfl; exact (At.of_add (m := 0) (j := 0) (boxAt (i := 2) H rfl (j := 0) rfl)))) (fun a S => ?_)
 refine lq (pAdd (bp b51) 0) S (q_fieldAddr' 0 2 rfl (isP_bp _) Tryz.underlying61 rfl Tryz.sizeOf2) fun a S => ?_
 refine lx_storeBox (o := 0) (i := 0) (us := [(.int .i64 a0.1)]) (cs' := [(.int .i64 a0.1), (.int .i64 (0 : Int)), (sv ([] : Str)), (.bool false)]) S trivial rfl H rfl rfl rfl rfl Tryz.sizeOf2 (Nat.le_of_ble_eq_true rfl) (List.forall_mem_cons.2 ⟨rfl, (List.forall_mem_nil _)⟩) rfl (fun w54 H => ⟨trivial, fun a S => ?_⟩)
 change Heap w0 [bA b51 [(.int .i64 a0.1), (.int .i64 (0 : Int)), (sv ([] : Str)), (.bool false)] 61, bA b48 [(.int .i64 (0 : Int)), (.int .i64 (0 : Int)), (sv ([] : Str)), (.bool false)] 61, bA b45 [(.int .i64 a0.1), (.int .i64 a0.2.1), (sv a0.2.2.1), (.bool a0.2.2.2)] 52] w54 at H
 refine lx_nil (thenN ?_)
 refine wp_seq (region_plain ?_)
 refine lq (pAdd (bp b45) 1) S (q_fieldAddr' 1 2 rfl (isP_bp _) Tryz.underlying52 rfl Tryz.sizeOf2) fun a S => ?_
 refine lx_e (.int .i64 a0.2.1) S trivial (by decide) rfl trivial (q_load1 rfl Tryz.isAgg2 (by rintro _ rfl; exact (At.of_add (m := 1) (j := 0) (boxAt (i := 2) H rfl (j := 1) rfl)))) (fun a S => ?_)
 refine lq (pAdd (bp b51) 1) S (q_fieldAddr' 1 2 rfl (isP_bp _) Tryz.underlying61 rfl Tryz.sizeOf2) fun a S => ?_
 refine lx_storeBox (o := 1) (i := 0) (us := [(.int .i64 a0.2.1)]) (cs' := [(.int .i64 a0.1), (.int .i64 a0.2.1), (sv ([] : Str)), (.bool false)]) S trivial rfl H rfl rfl rfl rfl Tryz.sizeOf2 (Nat.le_of_ble_eq_true rfl) (List.forall_mem_cons.2 ⟨rfl, (List.forall_mem_nil _)⟩) rfl (fun w55 H => ⟨trivial, fun a S => ?_⟩)
 change Heap w0 [bA b51 [(.int .i64 a0.1), (.int .i64 a0.2.1), (sv ([] : Str)), (.bool false)] 61, bA b48 [(.int .i64 (0 : Int)), (.int .i64 (0 : Int)), (sv ([] : Str)), (.bool false)] 61, bA b45 [(.int .i64 a0.1), (.int .i64 a0.2.1), (sv a0.2.2.1), (.bool a0.2.2.2)] 52] w55 at H
 refine lx_nil (thenN ?_)
 refine wp_seq (region_plain ?_)
 refine lq (pAdd (bp b45) 2) S (q_fieldAddr' 2 9 rfl (isP_bp _) Tryz.underlying52 rfl Tryz.sizeOf9) fun a S => ?_
 refine lx_e (sv a0.2.2.1) S trivial (by decide) rfl trivial (q_load1 rfl Tryz.isAgg9 (by rintro _ rfl; exact (At.of_add (m := 2) (j := 0) (boxAt (i := 2) H rfl (j := 2) rfl)))) (fun a S => ?_)
 refine lq (pAdd (bp b51) 2) S (q_fieldAddr' 2 9 rfl (isP_bp _) Tryz.underlying61 rfl Tryz.sizeOf9) fun a S => ?_
 refine lx_storeBox (o := 2) (i := 0) (us := [(sv a0.2.2.1)]) (cs' := [(.int .i64 a0.1), (.int .i64 a0.2.1), (sv a0.2.2.1), (.bool false)]) S trivial rfl H rfl rfl rfl rfl Tryz.sizeOf9 (Nat.le_of_ble_eq_true rfl) (List.forall_mem_cons.2 ⟨rfl, (List.forall_mem_nil _)⟩) rfl (fun w56 H => ⟨trivial, fun a S => ?_⟩)
 change Heap w0 [bA b51 [(.int .i64 a0.1), (.int .i64 a0.2.1), (sv a0.2.2.1), (.bool false)] 61, bA b48 [(.int .i64 (0 : Int)), (.int .i64 (0 : Int)), (sv ([] : Str)), (.bool false)] 61, bA b45 [(.int .i64 a0.1), (.int .i64 a0.2.1), (sv a0.2.2.1), (.bool a0.2.2.2)] 52] w56 at H
 refine lx_nil (thenN ?_)
 refine wp_seq (region_plain ?_)
 refine lq (pAdd (bp b45) 3) S (q_fieldAddr' 3 4 rfl (isP_bp _) Tryz.underlying52 rfl Tryz.sizeOf4) fun a S => ?_
 refine lx_e (.bool a0.2.2.2) S trivial (by decide) rfl trivial (q_load1 rfl Tryz.isAgg4 (by rintro _ rfl; exact (At.of_add (m := 3) (j := 0) (boxAt (i := 2) H rfl (j := 3) rfl)))) (fun a S => ?_)
 refine lq (pAdd (bp b51) 3) S (q_fieldAddr' 3 4 rfl (isP_bp _) Tryz.underlying61 rfl Tryz.sizeOf4) fun a S => ?_
 refine lx_storeBox (o := 3) (i := 0) (us := [(.bool a0.2.2.2)]) (cs' := [(.int .i64 a0.1), (.int .i64 a0.2.1), (sv a0.2.2.1), (.bool a0.2.2.2)]) S trivial rfl H rfl rfl rfl rfl Tryz.sizeOf4 (Nat.le_of_ble_eq_true rfl) (List.forall_mem_cons.2 ⟨rfl, (List.forall_mem_nil _)⟩) rfl (fun w57 H => ⟨trivial, fun a S => ?_⟩)
 change Heap w0 [bA b51 [(.int .i64 a0.1), (.int .i64 a0.2.1), (sv a0.2.2.1), (.bool a0.2.2.2)] 61, bA b48 [(.int .i64 (0 : Int)), (.int .i64 (0 : Int)), (sv ([] : Str)), (.bool false)] 61, bA b45 [(.int .i64 a0.1), (.int .i64 a0.2.1), (sv a0.2.2.1), (.bool a0.2.2.2)] 52] w57 at H
 refine lx_nil (thenN ?_)
 refine wp_seq (region_plain ?_)
 refine lx_e (.agg #[(.int .i64 a0.1), (.int .i64 a0.2.1), (sv a0.2.2.1), (.bool a0.2.2.2)]) S trivial (by decide) rfl trivial (q_loadA (cs := [(.int .i64 a0.1), (.int .i64 a0.2.1), (sv a0.2.2.1), (.bool a0.2.2.2)]) rfl (isP_bp _) Tryz.isAgg61 Tryz.sizeOf61 (by rintro _ rfl; exact (fun j u hu => boxAt (i := 0) H rfl hu))) (fun a S => ?_)
 refine lx_storeBox (o := 0) (i := 1) (us := [(.int .i64 a0.1), (.int .i64 a0.2.1), (sv a0.2.2.1), (.bool a0.2.2.2)]) (cs' := [(.int .i64 a0.1), (.int .i64 a0.2.1), (sv a0.2.2.1), (.bool a0.2.2.2)]) S trivial rfl H rfl rfl rfl rfl Tryz.sizeOf61 (Nat.le_of_ble_eq_true rfl) (List.forall_mem_cons.2 ⟨rfl, (List.forall_mem_cons.2 ⟨rfl, (List.forall_mem_cons.2 ⟨rfl, (List.forall_mem_cons.2 ⟨rfl, (List.forall_mem_nil _)⟩)⟩)⟩)⟩) rfl (fun w58 H => ⟨trivial, fun a S => ?_⟩)
 change Heap w0 [bA b51 [(.int .i64 a0.1), (.int .i64 a0.2.1), (sv a0.2.2.1), (.bool a0.2.2.2)] 61, bA b48 [(.int .i64 a0.1), (.int .i64 a0.2.1), (sv a0.2.2.1), (.bool a0.2.2.2)] 61, bA b45 [(.int .i64 a0.1), (.int .i64 a0.2.1), (sv a0.2.2.1), (.bool a0.2.2.2)] 52] w58 at H
 refine lx_nil (thenN ?_)
 refine wp_ret ?_
 have hrv0 := RV.cellA (t := 61) (q := 2) (env := [(0, (.agg #[(.int .i64 a0.1), (.int .i64 a0.2.1), (sv a0.2.2.1), (.bool a0.2.2.2)])), (1, (bp b45)), (2, (bp b48)), (3, (bp b51)), (4, (pAdd (bp b45) 0)), (5, (.int .i64 a0.1)), (6, (pAdd (bp b51) 0)), (7, (pAdd (bp b45) 1)), (8, (.int .i64 a0.2.1)), (9, (pAdd (bp b51) 1)), (10, (pAdd (bp b45) 2)), (11, (sv a0.2.2.1)), (12, (pAdd (bp b51) 2)), (13, (pAdd (bp b45) 3)), (14, (.bool a0.2.2.2)), (15, (pAdd (bp b51) 3)), (16, (.agg #[(.int .i64 a0.1), (.int .i64 a0.2.1), (sv a0.2.2.1), (.bool a0.2.2.2)]))]) H (i := 1) rfl rfl Tryz.isAgg61 Tryz.sizeOf61
 obtain rfl := Option.some.inj hm
 have H : Heap w0 [] w58 := H.sel [] (by decide)
 exact leaveR1 S rfl hrv0 ⟨rfl, H⟩

/-- laws.toNodeS -/
def laws_toNodeS_m (fuel : Nat) (a0 : (List Tlaws_Node)) : Option ((List Timpl_Node)) :=
  (mks (a0.length : Int) ((0 : Int), (0 : Int), ([] : Str), false)).bind fun x31 => (iter (fun (s : (List Timpl_Node) × (Int)) => (match s with | (xs65, x66) => (if (decide (x66 < (a0.length : Int))) = true then (idx a0 x66).bind fun x105 => (laws_toNode_m fuel (x105.1, x105.2.1, x105.2.2.1, x105.2.2.2)).bind fun x124 => (idx xs65 x66).bind fun _ => some (.inl ((xs65.set x66.toNat (x124.1, x124.2.1, x124.2.2.1, x124.2.2.2)), (W (x66 + (1 : Int))))) else some (.inr (.inl (xs65)))) : Option (((List Timpl_Node) × (Int)) ⊕ (((List Timpl_Node)) ⊕ ((List Timpl_Node)))))) fuel (x31, (0 : Int))).bind fun res96 => ctl (β := (List Timpl_Node)) (ρ := (List Timpl_Node)) (τ := (List Timpl_Node)) res96 (fun (xs95) => some (xs95)) (fun q => some (q))
set_option maxRecDepth 20000 in
theorem laws_toNodeS_ok [dr : Dr] {w0 : World} {fuel : Nat} {p0 : Value} {a0 : (List Tlaws_Node)} {r : (List Timpl_Node)} (h0 : Rd (rList Rlaws_Node) w0 p0 a0) (hm : laws_toNodeS_m fuel a0 = some r) :
  Calls Tryz.prog 9 #[p0] w0 fun e w => ∃ (v0 : Value), e = .returned (v0) ∧ Heap w0 [oA (rList Rimpl_Node) v0 r] w := by
 unfold laws_toNodeS_m at hm
 have H := Heap.start w0
 refine enter (args := [p0]) Tryz.func9 rfl 23 rfl (Nat.le_of_ble_eq_true rfl) (fun a S => ?_)
 refine wp_seq (region_plain ?_)
 refine lq (.slice none 0 0) S (q_assign rfl) fun a S => ?_
 refine lx_nil (thenN ?_)
 refine wp_seq (region_plain ?_)
 refine lq p0 S (q_move rfl) fun a S => ?_
 refine lq (.int .i64 (a0.length : Int)) S (q_lenSl rfl (h0).isSl rfl Tryz.underlying22) fun a S => ?_
 obtain ⟨x31, e32, hm⟩ := bind_some hm
 obtain ⟨m33, hn, hn2, rfl⟩ := mks_some e32
 refine lx_make (r := Rimpl_Node) (z0 := ((0 : Int), (0 : Int), ([] : Str), false)) (n := m33) S trivial (by decide) rfl H (by rw [← hn]; rfl) (by rw [← hn]; rfl) Tryz.underlying31 (Tryz.ti61) rfl rfl (Nat.le_of_ble_eq_true rfl) (fun w => ⟨_, _, [(.int .i64 (0 : Int))], [(.int .i64 (0 : Int)), (sv ([] : Str)), (.bool false)], rfl, rfl, ⟨rfl, rfl⟩, ⟨_, _, [(.int .i64 (0 : Int))], [(sv ([] : Str)), (.bool false)], rfl, rfl, ⟨rfl, rfl⟩, ⟨_, _, [(sv ([] : Str))], [(.bool false)], rfl, rfl, ⟨rfl, rfl⟩, ⟨rfl, rfl⟩⟩⟩⟩) hn2 (by decide) (fun v34 w35 H => ⟨trivial, fun a S => ?_⟩)
 refine lq v34 S (q_assign rfl) fun a S => ?_
 refine lx_nil (thenN ?_)
 refine wp_seq (wp_seq (region_plain ?_))
 refine lq (.int .i64 (0 : Int)) S (q_assign rfl) fun a S => ?_
 refine lx_nil (thenN ?_)
 obtain ⟨res96, hit97, hk100⟩ := bind_some hm
 obtain ⟨f98, hf99, hit97⟩ := iter_name hit97
 refine block_loop (fun a w => ∃ (xs95 : List Timpl_Node), Slots a 23 [(3, v34)] ∧ Heap w0 [oA (rList Rimpl_Node) v34 xs95] w ∧ res96 = .inl (xs95)) ?_ ?_
 ·rintro a w ⟨xs95, S, H, rfl⟩
  have hm := ctl_inl hk100
  refine thenN ?_
  refine wp_seq (region_plain ?_)
  refine lq v34 S (q_move rfl) fun a S => ?_
  refine lq v34 S (q_assign rfl) fun a S => ?_
  refine lx_nil (thenN ?_)
  refine wp_ret ?_
  obtain rfl := Option.some.inj hm
  exact leave1 S rfl rfl ⟨v34, rfl, H⟩
 ·skip
  refine loop_ghost (fun n a w => ∃ (xs65 : List Timpl_Node) (x66 : Int), Slots a 23 [(0, p0), (3, v34), (4, (.int .i64 x66))] ∧ Heap w0 [oA (rList Rimpl_Node) v34 xs65] w ∧ iter f98 n (xs65, x66) = some res96) _ ⟨(List.replicate m33 ((0 : Int), (0 : Int), ([] : Str), false)), (0 : Int), S.sub ⟨rfl, rfl, rfl, trivial⟩, H, hit97⟩ ?_
  rintro n a w ⟨xs65, x66, S, H, hit97⟩
  obtain ⟨m101, o102, rfl, hm, hc103⟩ := iter_step hit97
  rw [hf99] at hm
  refine wp_seq (wp_seq (region_plain ?_))
  refine lq (.int .i64 x66) S (q_move rfl) fun a S => ?_
  refine lq p0 S (q_move rfl) fun a S => ?_
  refine lq (.int .i64 (a0.length : Int)) S (q_lenSl rfl (h0).isSl rfl Tryz.underlying22) fun a S => ?_
  refine lq (.bool (decide (x66 < (a0.length : Int)))) S (q_lss rfl rfl) fun a S => ?_
  refine lx_nil (thenN ?_)
  refine cond_b S rfl (fun hc104 => ?_) (fun hc104 => ?_)
  ·have hm := ite_t hc104 hm
   refine wp_skip (thenN ?_)
   refine wp_seq ?_
   refine wp_block ?_
   refine region_plain ?_
   refine lq v34 S (q_move rfl) fun a S => ?_
   refine lq (.int .i64 x66) S (q_move rfl) fun a S => ?_
   refine lq p0 S (q_move rfl) fun a S => ?_
   refine lq (.int .i64 x66) S (q_move rfl) fun a S => ?_
   obtain ⟨x105, e106, hm⟩ := bind_some hm
   obtain ⟨c107, h108, hat109⟩ := (h0).elem (idx_some e106).2
   obtain ⟨c110, c111, rfl, h112, h113⟩ := h108
   obtain rfl := h112
   obtain ⟨c114, c115, rfl, h116, h117⟩ := h113
   obtain rfl := h116
   obtain ⟨c118, c119, rfl, h120, h121⟩ := h117
   obtain rfl := h120
   obtain rfl := h121
   have hlt := lt_of_idx (idx_some e106).2
   refine lq (ePtr p0 (x66.toNat * 4)) S (q_indexAddr rfl (h0).isSl rfl (idx_some e106).1 hlt Tryz.underlying22 Tryz.sizeOf52) fun a S => ?_
   refine lx_e (.agg #[(.int .i64 x105.1), (.int .i64 x105.2.1), (sv x105.2.2.1), (.bool x105.2.2.2)]) S trivial (by decide) rfl trivial (q_loadA (cs := [(.int .i64 x105.1), (.int .i64 x105.2.1), (sv x105.2.2.1), (.bool x105.2.2.2)]) rfl ((hat109 0 _ rfl).isP) Tryz.isAgg52 Tryz.sizeOf52 (by rintro _ rfl; exact (fun j u hu => (hat109 j u hu).ext H.ext))) (fun a S => ?_)
   obtain ⟨x124, e125, hm⟩ := bind_some hm
   refine lx_call (xs := [.tmp 19]) S trivial (by decide) rfl rfl Tryz.call30 ((laws_toNode_ok ⟨[(.int .i64 x105.1), (.int .i64 x105.2.1), (sv x105.2.2.1), (.bool x105.2.2.2)], rfl, ⟨[(.int .i64 x105.1)], [(.int .i64 x105.2.1), (sv x105.2.2.1), (.bool x105.2.2.2)], rfl, rfl, ⟨[(.int .i64 x105.2.1)], [(sv x105.2.2.1), (.bool x105.2.2.2)], rfl, rfl, ⟨[(sv x105.2.2.1)], [(.bool x105.2.2.2)], rfl, rfl, rfl⟩⟩⟩⟩ e125).mono ?_)
   rintro e w122 ⟨rfl, Hc123⟩
   have H := H.call0 Hc123
   refine ⟨_, rfl, trivial, fun a S => ?_⟩
   obtain ⟨x127, e128, hm⟩ := bind_some hm
   have hlt := lt_of_idx (idx_some e128).2
   refine lq (ePtr v34 (x66.toNat * 4)) S (q_indexAddr rfl (H.isSl 0 rfl) rfl (idx_some e128).1 hlt Tryz.underlying31 Tryz.sizeOf61) fun a S => ?_
   refine lx_storeElem (r := Rimpl_Node) (us := [(.int .i64 x124.1), (.int .i64 x124.2.1), (sv x124.2.2.1), (.bool x124.2.2.2)]) (off := 0) (e' := (x124.1, x124.2.1, x124.2.2.1, x124.2.2.2)) S trivial rfl H.putE (ev_zero rfl) rfl (idx_some e128).2 rfl Tryz.sizeOf61 (Nat.le_of_ble_eq_true rfl) (List.forall_mem_cons.2 ⟨rfl, (List.forall_mem_cons.2 ⟨rfl, (List.forall_mem_cons.2 ⟨rfl, (List.forall_mem_cons.2 ⟨rfl, (List.forall_mem_nil _)⟩)⟩)⟩)⟩) (Upd.full rfl (fun w G hG => by cases (show G = [] from hG); exact ⟨_, _, [(.int .i64 x124.1)], [(.int .i64 x124.2.1), (sv x124.2.2.1), (.bool x124.2.2.2)], rfl, rfl, ⟨rfl, rfl⟩, ⟨_, _, [(.int .i64 x124.2.1)], [(sv x124.2.2.1), (.bool x124.2.2.2)], rfl, rfl, ⟨rfl, rfl⟩, ⟨_, _, [(sv x124.2.2.1)], [(.bool x124.2.2.2)], rfl, rfl, ⟨rfl, rfl⟩, ⟨rfl, rfl⟩⟩⟩⟩)) (fun w129 H => ⟨trivial, fun a S => ?_⟩)
   refine lx_nil ?_
   refine inBlock_norm ?_
   refine thenN ?_
   refine region_plain ?_
   refine lq (.int .i64 x66) S (q_move rfl) fun a S => ?_
   refine lq (.int .i64 (W (x66 + (1 : Int)))) S (q_add rfl rfl) fun a S => ?_
   refine lq (.int .i64 (W (x66 + (1 : Int)))) S (q_assign rfl) fun a S => ?_
   refine lx_nil ?_
   exact ⟨m101, Nat.lt_succ_self _, (xs65.set x66.toNat (x124.1, x124.2.1, x124.2.2.1, x124.2.2.2)), (W (x66 + (1 : Int))), S.sub ⟨rfl, rfl, rfl, trivial⟩, H, it_cont hm hc103⟩
  ·have hm := ite_f hc104 hm
   refine wp_exit ?_
   refine then_exit ?_
   refine then_exit ?_
   refine inBlock_exit ?_
   obtain rfl := it_brk hm hc103
   exact ⟨xs65, S.sub ⟨rfl, trivial⟩, H, rfl⟩

/-- laws.toStringS -/
def laws_toStringS_m (fuel : Nat) (a0 : (List Str)) : Option ((List Str)) :=
  (mks (a0.length : Int) ([] : Str)).bind fun x31 => (iter (fun (s : (List Str) × (Int)) => (match s with | (xs48, x49) => (if (decide (x49 < (a0.length : Int))) = true then (idx a0 x49).bind fun x71 => (idx xs48 x49).bind fun _ => some (.inl ((xs48.set x49.toNat x71), (W (x49 + (1 : Int))))) else some (.inr (.inl (xs48)))) : Option (((List Str) × (Int)) ⊕ (((List Str)) ⊕ ((List Str)))))) fuel (x31, (0 : Int))).bind fun res62 => ctl (β := (List Str)) (ρ := (List Str)) (τ := (List Str)) res62 (fun (xs61) => some (xs61)) (fun q => some (q))
set_option maxRecDepth 20000 in
theorem laws_toStringS_ok [dr : Dr] {w0 : World} {fuel : Nat} {p0 : Value} {a0 : (List Str)} {r : (List Str)} (h0 : Rd (rList rStr) w0 p0 a0) (hm : laws_toStringS_m fuel a0 = some r) :
  Calls Tryz.prog 31 #[p0] w0 fun e w => ∃ (v0 : Value), e = .returned (v0) ∧ Heap w0 [oA (rList rStr) v0 r] w := by
 unfold laws_toStringS_m at hm
 have H := Heap.start w0
 refine enter (args := [p0]) Tryz.func31 rfl 22 rfl (Nat.le_of_ble_eq_true rfl) (fun a S => ?_)
 refine wp_seq (region_plain ?_)
 refine lq (.slice none 0 0) S (q_assign rfl) fun a S => ?_
 refine lx_nil (thenN ?_)
 refine wp_seq (region_plain ?_)
 refine lq p0 S (q_move rfl) fun a S => ?_
 refine lq (.int .i64 (a0.length : Int)) S (q_lenSl rfl (h0).isSl rfl Tryz.underlying23) fun a S => ?_
 obtain ⟨x31, e32, hm⟩ := bind_some hm
 obtain ⟨m33, hn, hn2, rfl⟩ := mks_some e32
 refine lx_make (r := rStr) (z0 := ([] : Str)) (n := m33) S trivial (by decide) rfl H (by rw [← hn]; rfl) (by rw [← hn]; rfl) Tryz.underlying23 (Tryz.ti9) rfl rfl (Nat.le_of_ble_eq_true rfl) (fun w => ⟨rfl, rfl⟩) hn2 (by decide) (fun v34 w35 H => ⟨trivial, fun a S => ?_⟩)
 refine lq v34 S (q_assign rfl) fun a S => ?_
 refine lx_nil (thenN ?_)
 refine wp_seq (wp_seq (region_plain ?_))
 refine lq (.int .i64 (0 : Int)) S (q_assign rfl) fun a S => ?_
 refine lx_nil (thenN ?_)
 obtain ⟨res62, hit63, hk66⟩ := bind_some hm
 obtain ⟨f64, hf65, hit63⟩ := iter_name hit63
 refine block_loop (fun a w => ∃ (xs61 : List Str), Slots a 22 [(3, v34)] ∧ Heap w0 [oA (rList rStr) v34 xs61] w ∧ res62 = .inl (xs61)) ?_ ?_
 ·rintro a w ⟨xs61, S, H, rfl⟩
  have hm := ctl_inl hk66
  refine thenN ?_
  refine wp_seq (region_plain ?_)
  refine lq v34 S (q_move rfl) fun a S => ?_
  refine lq v34 S (q_assign rfl) fun a S => ?_
  refine lx_nil (thenN ?_)
  refine wp_ret ?_
  obtain rfl := Option.some.inj hm
  exact leave1 S rfl rfl ⟨v34, rfl, H⟩
 ·skip
  refine loop_ghost (fun n a w => ∃ (xs48 : List Str) (x49 : Int), Slots a 22 [(0, p0), (3, v34), (4, (.int .i64 x49))] ∧ Heap w0 [oA (rList rStr) v34 xs48] w ∧ iter f64 n (xs48, x49) = some res62) _ ⟨(List.replicate m33 ([] : Str)), (0 : Int), S.sub ⟨rfl, rfl, rfl, trivial⟩, H, hit63⟩ ?_
  rintro n a w ⟨xs48, x49, S, H, hit63⟩
  obtain ⟨m67, o68, rfl, hm, hc69⟩ := iter_step hit63
  rw [hf65] at hm
  refine wp_seq (wp_seq (region_plain ?_))
  refine lq (.int .i64 x49) S (q_move rfl) fun a S => ?_
  refine lq p0 S (q_move rfl) fun a S => ?_
  refine lq (.int .i64 (a0.length : Int)) S (q_lenSl rfl (h0).isSl rfl Tryz.underlying23) fun a S => ?_
  refine lq (.bool (decide (x49 < (a0.length : Int)))) S (q_lss rfl rfl) fun a S => ?_
  refine lx_nil (thenN ?_)
  refine cond_b S rfl (fun hc70 => ?_) (fun hc70 => ?_)
  ·have hm := ite_t hc70 hm
   refine wp_skip (thenN ?_)
   refine wp_seq ?_
   refine wp_block ?_
   refine region_plain ?_
   refine lq v34 S (q_move rfl) fun a S => ?_
   refine lq (.int .i64 x49) S (q_move rfl) fun a S => ?_
   refine lq p0 S (q_move rfl) fun a S => ?_
   refine lq (.int .i64 x49) S (q_move rfl) fun a S => ?_
   obtain ⟨x71, e72, hm⟩ := bind_some hm
   obtain ⟨c73, h74, hat75⟩ := (h0).elem (idx_some e72).2
   obtain rfl := h74
   have hlt := lt_of_idx (idx_some e72).2
   refine lq (ePtr p0 (x49.toNat * 1)) S (q_indexAddr rfl (h0).isSl rfl (idx_some e72).1 hlt Tryz.underlying23 Tryz.sizeOf9) fun a S => ?_
   refine lx_e (sv x71) S trivial (by decide) rfl trivial (q_load1 rfl Tryz.isAgg9 (by rintro _ rfl; exact ((hat75 0 _ rfl).ext H.ext))) (fun a S => ?_)
   obtain ⟨x76, e77, hm⟩ := bind_some hm
   have hlt := lt_of_idx (idx_some e77).2
   refine lq (ePtr v34 (x49.toNat * 1)) S (q_indexAddr rfl (H.isSl 0 rfl) rfl (idx_some e77).1 hlt Tryz.underlying23 Tryz.sizeOf9) fun a S => ?_
   refine lx_storeElem (r := rStr) (us := [(sv x71)]) (off := 0) (e' := x71) S trivial rfl H.putE (ev_zero rfl) rfl (idx_some e77).2 rfl Tryz.sizeOf9 (Nat.le_of_ble_eq_true rfl) (List.forall_mem_cons.2 ⟨rfl, (List.forall_mem_nil _)⟩) (Upd.full rfl (fun w G hG => by cases (show G = [] from hG); exact ⟨rfl, rfl⟩)) (fun w78 H => ⟨trivial, fun a S => ?_⟩)
   refine lx_nil ?_
   refine inBlock_norm ?_
   refine thenN ?_
   refine region_plain ?_
   refine lq (.int .i64 x49) S (q_move rfl) fun a S => ?_
   refine lq (.int .i64 (W (x49 + (1 : Int)))) S (q_add rfl rfl) fun a S => ?_
   refine lq (.int .i64 (W (x49 + (1 : Int)))) S (q_assign rfl) fun a S => ?_
   refine lx_nil ?_
   exact ⟨m67, Nat.lt_succ_self _, (xs48.set x49.toNat x71), (W (x49 + (1 : Int))), S.sub ⟨rfl, rfl, rfl, trivial⟩, H, it_cont hm hc69⟩
  ·have hm := ite_f hc70 hm
   refine wp_exit ?_
   refine then_exit ?_
   refine then_exit ?_
   refine inBlock_exit ?_
   obtain rfl := it_brk hm hc69
   exact ⟨xs48, S.sub ⟨rfl, trivial⟩, H, rfl⟩

/-- laws.toEdge -/
def laws_toEdge_m (_ : Nat) (a0 : Tlaws_Edge) : Option (Timpl_Edge) :=
  some ((a0.1, a0.2.1, a0.2.2))
set_option maxRecDepth 20000 in
theorem laws_toEdge_ok [dr : Dr] {w0 : World} {fuel : Nat} {p0 : Value} {a0 : Tlaws_Edge} {r : Timpl_Edge} (h0 : Rd Rlaws_Edge w0 p0 a0) (hm : laws_toEdge_m fuel a0 = some r) :
  Calls Tryz.prog 51 #[p0] w0 fun e w => e = .returned (.agg #[.int .i64 r.1, .int .i64 r.2.1, .int .i64 r.2.2]) ∧ Heap w0 [] w := by
 unfold laws_toEdge_m at hm
 have H := Heap.start w0
 obtain ⟨c31, rfl, h32⟩ := h0
 obtain ⟨c33, c34, rfl, h35, h36⟩ := h32
 obtain rfl := h35
 obtain ⟨c37, c38, rfl, h39, h40⟩ := h36
 obtain rfl := h39
 obtain rfl := h40
 refine enter (args := [(.agg #[(.int .i64 a0.1), (.int .i64 a0.2.1), (.int .i64 a0.2.2)])]) Tryz.func51 rfl 14 rfl (Nat.le_of_ble_eq_true rfl) (fun a S => ?_)
 refine wp_seq (region_plain ?_)
 refine lx_box S trivial (by decide) rfl H rfl rfl (fun b41 w42 H => ⟨trivial, fun a S => ?_⟩)
 refine lx_alloc S trivial (by decide) rfl H Tryz.zeroValue80 rfl (fun b44 w45 H => ⟨trivial, fun a S => ?_⟩)
 refine lx_nil (thenN ?_)
 refine wp_seq (region_plain ?_)
 refine lx_alloc S trivial (by decide) rfl H Tryz.zeroValue80 rfl (fun b47 w48 H => ⟨trivial, fun a S => ?_⟩)
 refine lx_nil (thenN ?_)
 refine wp_seq (region_plain ?_)
 refine lq (pAdd (bp b41) 0) S (q_fieldAddr' 0 2 rfl (isP_bp _) Tryz.underlying87 rfl Tryz.sizeOf2) fun a S => ?_
 refine lx_e (.int .i64 a0.1) S trivial (by decide) rfl trivial (q_load1 rfl Tryz.isAgg2 (by rintro _ rfl; exact (At.of_add (m := 0) (j := 0) (boxAt (i := 2) H rfl (j := 0) rfl)))) (fun a S => ?_)
 refine lq (pAdd (bp b47) 0) S (q_fieldAddr' 0 2 rfl (isP_bp _) Tryz.underlying80 rfl Tryz.sizeOf2) fun a S => ?_
 refine lx_storeBox (o := 0) (i := 0) (us := [(.int .i64 a0.1)]) (cs' := [(.int .i64 a0.1), (.int .i64 (0 : Int)), (.int .i64 (0 : Int))]) S trivial rfl H rfl rfl rfl rfl Tryz.sizeOf2 (Nat.le_of_ble_eq_true rfl) (List.forall_mem_cons.2 ⟨rfl, (List.forall_mem_nil _)⟩) rfl (fun w50 H => ⟨trivial, fun a S => ?_⟩)
 change Heap w0 [bA b47 [(.int .i64 a0.1), (.int .i64 (0 : Int)), (.int .i64 (0 : Int))] 80, bA b44 [(.int .i64 (0 : Int)), (.int .i64 (0 : Int)), (.int .i64 (0 : Int))] 80, bA b41 [(.int .i64 a0.1), (.int .i64 a0.2.1), (.int .i64 a0.2.2)] 87] w50 at H
 refine lx_nil (thenN ?_)
 refine wp_seq (region_plain ?_)
 refine lq (pAdd (bp b41) 1) S (q_fieldAddr' 1 2 rfl (isP_bp _) Tryz.underlying87 rfl Tryz.sizeOf2) fun a S => ?_
 refine lx_e (.int .i64 a0.2.1) S trivial (by decide) rfl trivial (q_load1 rfl Tryz.isAgg2 (by rintro _ rfl; exact (At.of_add (m := 1) (j := 0) (boxAt (i := 2) H rfl (j := 1) rfl)))) (fun a S => ?_)
 refine lq (pAdd (bp b47) 1) S (q_fieldAddr' 1 2 rfl (isP_bp _) Tryz.underlying80 rfl Tryz.sizeOf2) fun a S => ?_
 refine lx_storeBox (o := 1) (i := 0) (us := [(.int .i64 a0.2.1)]) (cs' := [(.int .i64 a0.1), (.int .i64 a0.2.1), (.int .i64 (0 : Int))]) S trivial rfl H rfl rfl rfl rfl Tryz.sizeOf2 (Nat.le_of_ble_eq_true rfl) (List.forall_mem_cons.2 ⟨rfl, (List.forall_mem_nil _)⟩) rfl (fun w51 H => ⟨trivial, fun a S => ?_⟩)
 change Heap w0 [bA b47 [(.int .i64 a0.1), (.int .i64 a0.2.1), (.int .i64 (0 : Int))] 80, bA b44 [(.int .i64 (0 : Int)), (.int .i64 (0 : Int)), (.int .i64 (0 : Int))] 80, bA b41 [(.int .i64 a0.1), (.int .i64 a0.2.1), (.int .i64 a0.2.2)] 87] w51 at H
 refine lx_nil (thenN ?_)
 refine wp_seq (region_plain ?_)
 refine lq (pAdd (bp b41) 2) S (q_fieldAddr' 2 2 rfl (isP_bp _) Tryz.underlying87 rfl Tryz.sizeOf2) fun a S => ?_
 refine lx_e (.int .i64 a0.2.2) S trivial (by decide) rfl trivial (q_load1 rfl Tryz.isAgg2 (by rintro _ rfl; exact (At.of_add (m := 2) (j := 0) (boxAt (i := 2) H rfl (j := 2) rfl)))) (fun a S => ?_)
 refine lq (pAdd (bp b47) 2) S (q_fieldAddr' 2 2 rfl (isP_bp _) Tryz.underlying80 rfl Tryz.sizeOf2) fun a S => ?_
 refine lx_storeBox (o := 2) (i := 0) (us := [(.int .i64 a0.2.2)]) (cs' := [(.int .i64 a0.1), (.int .i64 a0.2.1), (.int .i64 a0.2.2)]) S trivial rfl H rfl rfl rfl rfl Tryz.sizeOf2 (Nat.le_of_ble_eq_true rfl) (List.forall_mem_cons.2 ⟨rfl, (List.forall_mem_nil _)⟩) rfl (fun w52 H => ⟨trivial, fun a S => ?_⟩)
 change Heap w0 [bA b47 [(.int .i64 a0.1), (.int .i64 a0.2.1), (.int .i64 a0.2.2)] 80, bA b44 [(.int .i64 (0 : Int)), (.int .i64 (0 : Int)), (.int .i64 (0 : Int))] 80, bA b41 [(.int .i64 a0.1), (.int .i64 a0.2.1), (.int .i64 a0.2.2)] 87] w52 at H
 refine lx_nil (thenN ?_)
 refine wp_seq (region_plain ?_)
 refine lx_e (.agg #[(.int .i64 a0.1), (.int .i64 a0.2.1), (.int .i64 a0.2.2)]) S trivial (by decide) rfl trivial (q_loadA (cs := [(.int .i64 a0.1), (.int .i64 a0.2.1), (.int .i64 a0.2.2)]) rfl (isP_bp _) Tryz.isAgg80 Tryz.sizeOf80 (by rintro _ rfl; exact (fun j u hu => boxAt (i := 0) H rfl hu))) (fun a S => ?_)
 refine lx_storeBox (o := 0) (i := 1) (us := [(.int .i64 a0.1), (.int .i64 a0.2.1), (.int .i64 a0.2.2)]) (cs' := [(.int .i64 a0.1), (.int .i64 a0.2.1), (.int .i64 a0.2.2)]) S trivial rfl H rfl rfl rfl rfl Tryz.sizeOf80 (Nat.le_of_ble_eq_true rfl) (List.forall_mem_cons.2 ⟨rfl, (List.forall_mem_cons.2 ⟨rfl, (List.forall_mem_cons.2 ⟨rfl, (List.forall_mem_nil _)⟩)⟩)⟩) rfl (fun w53 H => ⟨trivial, fun a S => ?_⟩)
 change Heap w0 [bA b47 [(.int .i64 a0.1), (.int .i64 a0.2.1), (.int .i64 a0.2.2)] 80, bA b44 [(.int .i64 a0.1), (.int .i64 a0.2.1), (.int .i64 a0.2.2)] 80, bA b41 [(.int .i64 a0.1), (.int .i64 a0.2.1), (.int .i64 a0.2.2)] 87] w53 at H
 refine lx_nil (thenN ?_)
 refine wp_ret ?_
 have hrv0 := RV.cellA (t := 80) (q := 2) (env := [(0, (.agg #[(.int .i64 a0.1), (.int .i64 a0.2.1), (.int .i64 a0.2.2)])), (1, (bp b41)), (2, (bp b44)), (3, (bp b47)), (4, (pAdd (bp b41) 0)), (5, (.int .i64 a0.1)), (6, (pAdd (bp b47) 0)), (7, (pAdd (bp b41) 1)), (8, (.int .i64 a0.2.1)), (9, (pAdd (bp b47) 1)), (10, (pAdd (bp b41) 2)), (11, (.int .i64 a0.2.2)), (12, (pAdd (bp b47) 2)), (13, (.agg #[(.int .i64 a0.1), (.int .i64 a0.2.1), (.int .i64 a0.2.2)]))]) H (i := 1) rfl rfl Tryz.isAgg80 Tryz.sizeOf80
 obtain rfl := Option.some.inj hm
 have H : Heap w0 [] w53 := H.sel [] (by decide)
 exact leaveR1 S rfl hrv0 ⟨rfl, H⟩

/-- laws.toEdgeS -/
def laws_toEdgeS_m (fuel : Nat) (a0 : (List Tlaws_Edge)) : Option ((List Timpl_Edge)) :=
  (mks (a0.length : Int) ((0 : Int), (0 : Int), (0 : Int))).bind fun x31 => (iter (fun (s : (List Timpl_Edge) × (Int)) => (match s with | (xs61, x62) => (if (decide (x62 < (a0.length : Int))) = true then (idx a0 x62).bind fun x97 => (laws_toEdge_m fuel (x97.1, x97.2.1, x97.2.2)).bind fun x112 => (idx xs61 x62).bind fun _ => some (.inl ((xs61.set x62.toNat (x112.1, x112.2.1, x112.2.2)), (W (x62 + (1 : Int))))) else some (.inr (.inl (xs61)))) : Option (((List Timpl_Edge) × (Int)) ⊕ (((List Timpl_Edge)) ⊕ ((List Timpl_Edge)))))) fuel (x31, (0 : Int))).bind fun res88 => ctl (β := (List Timpl_Edge)) (ρ := (List Timpl_Edge)) (τ := (List Timpl_Edge)) res88 (fun (xs87) => some (xs87)) (fun q => some (q))
set_option maxRecDepth 20000 in
theorem laws_toEdgeS_ok [dr : Dr] {w0 : World} {fuel : Nat} {p0 : Value} {a0 : (List Tlaws_Edge)} {r : (List Timpl_Edge)} (h0 : Rd (rList Rlaws_Edge) w0 p0 a0) (hm : laws_toEdgeS_m fuel a0 = some r) :
  Calls Tryz.prog 32 #[p0] w0 fun e w => ∃ (v0 : Value), e = .returned (v0) ∧ Heap w0 [oA (rList Rimpl_Edge) v0 r] w := by
 unfold laws_toEdgeS_m at hm
 have H := Heap.start w0
 refine enter (args := [p0]) Tryz.func32 rfl 23 rfl (Nat.le_of_ble_eq_true rfl) (fun a S => ?_)
 refine wp_seq (region_plain ?_)
 refine lq (.slice none 0 0) S (q_assign rfl) fun a S => ?_
 refine lx_nil (thenN ?_)
 refine wp_seq (region_plain ?_)
 refine lq p0 S (q_move rfl) fun a S => ?_
 refine lq (.int .i64 (a0.length : Int)) S (q_lenSl rfl (h0).isSl rfl Tryz.underlying24) fun a S => ?_
 obtain ⟨x31, e32, hm⟩ := bind_some hm
 obtain ⟨m33, hn, hn2, rfl⟩ := mks_some e32
 refine lx_make (r := Rimpl_Edge) (z0 := ((0 : Int), (0 : Int), (0 : Int))) (n := m33) S trivial (by decide) rfl H (by rw [← hn]; rfl) (by rw [← hn]; rfl) Tryz.underlying33 (Tryz.ti80) rfl rfl (Nat.le_of_ble_eq_true rfl) (fun w => ⟨_, _, [(.int .i64 (0 : Int))], [(.int .i64 (0 : Int)), (.int .i64 (0 : Int))], rfl, rfl, ⟨rfl, rfl⟩, ⟨_, _, [(.int .i64 (0 : Int))], [(.int .i64 (0 : Int))], rfl, rfl, ⟨rfl, rfl⟩, ⟨rfl, rfl⟩⟩⟩) hn2 (by decide) (fun v34 w35 H => ⟨trivial, fun a S => ?_⟩)
 refine lq v34 S (q_assign rfl) fun a S => ?_
 refine lx_nil (thenN ?_)
 refine wp_seq (wp_seq (region_plain ?_))
 refine lq (.int .i64 (0 : Int)) S (q_assign rfl) fun a S => ?_
 refine lx_nil (thenN ?_)
 obtain ⟨res88, hit89, hk92⟩ := bind_some hm
 obtain ⟨f90, hf91, hit89⟩ := iter_name hit89
 refine block_loop (fun a w => ∃ (xs87 : List Timpl_Edge), Slots a 23 [(3, v34)] ∧ Heap w0 [oA (rList Rimpl_Edge) v34 xs87] w ∧ res88 = .inl (xs87)) ?_ ?_
 ·rintro a w ⟨xs87, S, H, rfl⟩
  have hm := ctl_inl hk92
  refine thenN ?_
  refine wp_seq (region_plain ?_)
  refine lq v34 S (q_move rfl) fun a S => ?_
  refine lq v34 S (q_assign rfl) fun a S => ?_
  refine lx_nil (thenN ?_)
  refine wp_ret ?_
  obtain rfl := Option.some.inj hm
  exact leave1 S rfl rfl ⟨v34, rfl, H⟩
 ·skip
  refine loop_ghost (fun n a w => ∃ (xs61 : List Timpl_Edge) (x62 : Int), Slots a 23 [(0, p0), (3, v34), (4, (.int .i64 x62))] ∧ Heap w0 [oA (rList Rimpl_Edge) v34 xs61] w ∧ iter f90 n (xs61, x62) = some res88) _ ⟨(List.replicate m33 ((0 : Int), (0 : Int), (0 : Int))), (0 : Int), S.sub ⟨rfl, rfl, rfl, trivial⟩, H, hit89⟩ ?_
  rintro n a w ⟨xs61, x62, S, H, hit89⟩
  obtain ⟨m93, o94, rfl, hm, hc95⟩ := iter_step hit89
  rw [hf91] at hm
  refine wp_seq (wp_seq (region_plain ?_))
  refine lq (.int .i64 x62) S (q_move rfl) fun a S => ?_
  refine lq p0 S (q_move rfl) fun a S => ?_
  refine lq (.int .i64 (a0.length : Int)) S (q_lenSl rfl (h0).isSl rfl Tryz.underlying24) fun a S => ?_
  refine lq (.bool (decide (x62 < (a0.length : Int)))) S (q_lss rfl rfl) fun a S => ?_
  refine lx_nil (thenN ?_)
  refine cond_b S rfl (fun hc96 => ?_) (fun hc96 => ?_)
  ·have hm := ite_t hc96 hm
   refine wp_skip (thenN ?_)
   refine wp_seq ?_
   refine wp_block ?_
   refine region_plain ?_
   refine lq v34 S (q_move rfl) fun a S => ?_
   refine lq (.int .i64 x62) S (q_move rfl) fun a S => ?_
   refine lq p0 S (q_move rfl) fun a S => ?_
   refine lq (.int .i64 x62) S (q_move rfl) fun a S => ?_
   obtain ⟨x97, e98, hm⟩ := bind_some hm
   obtain ⟨c99, h100, hat101⟩ := (h0).elem (idx_some e98).2
   obtain ⟨c102, c103, rfl, h104, h105⟩ := h100
   obtain rfl := h104
   obtain ⟨c106, c107, rfl, h108, h109⟩ := h105
   obtain rfl := h108
   obtain rfl := h109
   have hlt := lt_of_idx (idx_some e98).2
   refine lq (ePtr p0 (x62.toNat * 3)) S (q_indexAddr rfl (h0).isSl rfl (idx_some e98).1 hlt Tryz.underlying24 Tryz.sizeOf87) fun a S => ?_
   refine lx_e (.agg #[(.int .i64 x97.1), (.int .i64 x97.2.1), (.int .i64 x97.2.2)]) S trivial (by decide) rfl trivial (q_loadA (cs := [(.int .i64 x97.1), (.int .i64 x97.2.1), (.int .i64 x97.2.2)]) rfl ((hat101 0 _ rfl).isP) Tryz.isAgg87 Tryz.sizeOf87 (by rintro _ rfl; exact (fun j u hu => (hat101 j u hu).ext H.ext))) (fun a S => ?_)
   obtain ⟨x112, e113, hm⟩ := bind_some hm
   refine lx_call (xs := [.tmp 19]) S trivial (by decide) rfl rfl Tryz.call51 ((laws_toEdge_ok ⟨[(.int .i64 x97.1), (.int .i64 x97.2.1), (.int .i64 x97.2.2)], rfl, ⟨[(.int .i64 x97.1)], [(.int .i64 x97.2.1), (.int .i64 x97.2.2)], rfl, rfl, ⟨[(.int .i64 x97.2.1)], [(.int .i64 x97.2.2)], rfl, rfl, rfl⟩⟩⟩ e113).mono ?_)
   rintro e w110 ⟨rfl, Hc111⟩
   have H := H.call0 Hc111
   refine ⟨_, rfl, trivial, fun a S => ?_⟩
   obtain ⟨x115, e116, hm⟩ := bind_some hm
   have hlt := lt_of_idx (idx_some e116).2
   refine lq (ePtr v34 (x62.toNat * 3)) S (q_indexAddr rfl (H.isSl 0 rfl) rfl (idx_some e116).1 hlt Tryz.underlying33 Tryz.sizeOf80) fun a S => ?_
   refine lx_storeElem (r := Rimpl_Edge) (us := [(.int .i64 x112.1), (.int .i64 x112.2.1), (.int .i64 x112.2.2)]) (off := 0) (e' := (x112.1, x112.2.1, x112.2.2)) S trivial rfl H.putE (ev_zero rfl) rfl (idx_some e116).2 rfl Tryz.sizeOf80 (Nat.le_of_ble_eq_true rfl) (List.forall_mem_cons.2 ⟨rfl, (List.forall_mem_cons.2 ⟨rfl, (List.forall_mem_cons.2 ⟨rfl, (List.forall_mem_nil _)⟩)⟩)⟩) (Upd.full rfl (fun w G hG => by cases (show G = [] from hG); exact ⟨_, _, [(.int .i64 x112.1)], [(.int .i64 x112.2.1), (.int .i64 x112.2.2)], rfl, rfl, ⟨rfl, rfl⟩, ⟨_, _, [(.int .i64 x112.2.1)], [(.int .i64 x112.2.2)], rfl, rfl, ⟨rfl, rfl⟩, ⟨rfl, rfl⟩⟩⟩)) (fun w117 H => ⟨trivial, fun a S => ?_⟩)
   refine lx_nil ?_
   refine inBlock_norm ?_
   refine thenN ?_
   refine region_plain ?_
   refine lq (.int .i64 x62) S (q_move rfl) fun a S => ?_
   refine lq (.int .i64 (W (x62 + (1 : Int)))) S (q_add rfl rfl) fun a S => ?_
   refine lq (.int .i64 (W (x62 + (1 : Int)))) S (q_assign rfl) fun a S => ?_
   refine lx_nil ?_
   exact ⟨m93, Nat.lt_succ_self _, (xs61.set x62.toNat (x112.1, x112.2.1, x112.2.2)), (W (x62 + (1 : Int))), S.sub ⟨rfl, rfl, rfl, trivial⟩, H, it_cont hm hc95⟩
  ·have hm := ite_f hc96 hm
   refine wp_exit ?_
   refine then_exit ?_
   refine then_exit ?_
   refine inBlock_exit ?_
   obtain rfl := it_brk hm hc95
   exact ⟨xs61, S.sub ⟨rfl, trivial⟩, H, rfl⟩

/-- laws.toLts -/
def laws_toLts_m (fuel : Nat) (a0 : Tlaws_Lts) : Option (Timpl_Lts) :=
  (laws_toStringS_m fuel a0.2.2.1).bind fun x62 => (laws_toEdgeS_m fuel a0.2.2.2).bind fun x70 => some ((a0.1, a0.2.1, x62, x70))
set_option maxRecDepth 20000 in
theorem laws_toLts_ok [dr : Dr] {w0 : World} {fuel : Nat} {p0 : Value} {a0 : Tlaws_Lts} {r : Timpl_Lts} (h0 : Rd Rlaws_Lts w0 p0 a0) (hm : laws_toLts_m fuel a0 = some r) :
  Calls Tryz.prog 10 #[p0] w0 fun e w => ∃ (v0 : Value) (v1 : Value), e = .returned (.agg #[.int .i64 r.1, .int .i64 r.2.1, v0, v1]) ∧ Heap w0 [oA (rList rStr) v0 r.2.2.1, oA (rList Rimpl_Edge) v1 r.2.2.2] w := by
 unfold laws_toLts_m at hm
 have H := Heap.start w0
 obtain ⟨c31, rfl, h32⟩ := h0
 obtain ⟨c37, c38, rfl, h39, h40⟩ := h32
 obtain rfl := h39
 obtain ⟨c41, c42, rfl, h43, h44⟩ := h40
 obtain rfl := h43
 obtain ⟨c45, c46, rfl, h47, h48⟩ := h44
 obtain ⟨v33, rfl, h34⟩ := rd_list h47
 obtain ⟨v35, rfl, h36⟩ := rd_list h48
 refine enter (args := [(.agg #[(.int .i64 a0.1), (.int .i64 a0.2.1), v33, v35])]) Tryz.func10 rfl 19 rfl (Nat.le_of_ble_eq_true rfl) (fun a S => ?_)
 refine wp_seq (region_plain ?_)
 refine lx_box S trivial (by decide) rfl H rfl rfl (fun b49 w50 H => ⟨trivial, fun a S => ?_⟩)
 refine lx_alloc S trivial (by decide) rfl H Tryz.zeroValue35 rfl (fun b52 w53 H => ⟨trivial, fun a S => ?_⟩)
 refine lx_nil (thenN ?_)
 refine wp_seq (region_plain ?_)
 refine lx_alloc S trivial (by decide) rfl H Tryz.zeroValue35 rfl (fun b55 w56 H => ⟨trivial, fun a S => ?_⟩)
 refine lx_nil (thenN ?_)
 refine wp_seq (region_plain ?_)
 refine lq (pAdd (bp b49) 0) S (q_fieldAddr' 0 2 rfl (isP_bp _) Tryz.underlying26 rfl Tryz.sizeOf2) fun a S => ?_
 refine lx_e (.int .i64 a0.1) S trivial (by decide) rfl trivial (q_load1 rfl Tryz.isAgg2 (by rintro _ rfl; exact (At.of_add (m := 0) (j := 0) (boxAt (i := 2) H rfl (j := 0) rfl)))) (fun a S => ?_)
 refine lq (pAdd (bp b55) 0) S (q_fieldAddr' 0 2 rfl (isP_bp _) Tryz.underlying35 rfl Tryz.sizeOf2) fun a S => ?_
 refine lx_storeBox (o := 0) (i := 0) (us := [(.int .i64 a0.1)]) (cs' := [(.int .i64 a0.1), (.int .i64 (0 : Int)), (.slice none 0 0), (.slice none 0 0)]) S trivial rfl H rfl rfl rfl rfl Tryz.sizeOf2 (Nat.le_of_ble_eq_true rfl) (List.forall_mem_cons.2 ⟨rfl, (List.forall_mem_nil _)⟩) rfl (fun w58 H => ⟨trivial, fun a S => ?_⟩)
 change Heap w0 [bA b55 [(.int .i64 a0.1), (.int .i64 (0 : Int)), (.slice none 0 0), (.slice none 0 0)] 35, bA b52 [(.int .i64 (0 : Int)), (.int .i64 (0 : Int)), (.slice none 0 0), (.slice none 0 0)] 35, bA b49 [(.int .i64 a0.1), (.int .i64 a0.2.1), v33, v35] 26] w58 at H
 refine lx_nil (thenN ?_)
 refine wp_seq (region_plain ?_)
 refine lq (pAdd (bp b49) 1) S (q_fieldAddr' 1 2 rfl (isP_bp _) Tryz.underlying26 rfl Tryz.sizeOf2) fun a S => ?_
 refine lx_e (.int .i64 a0.2.1) S trivial (by decide) rfl trivial (q_load1 rfl Tryz.isAgg2 (by rintro _ rfl; exact (At.of_add (m := 1) (j := 0) (boxAt (i := 2) H rfl (j := 1) rfl)))) (fun a S => ?_)
 refine lq (pAdd (bp b55) 1) S (q_fieldAddr' 1 2 rfl (isP_bp _) Tryz.underlying35 rfl Tryz.sizeOf2) fun a S => ?_
 refine lx_storeBox (o := 1) (i := 0) (us := [(.int .i64 a0.2.1)]) (cs' := [(.int .i64 a0.1), (.int .i64 a0.2.1), (.slice none 0 0), (.slice none 0 0)]) S trivial rfl H rfl rfl rfl rfl Tryz.sizeOf2 (Nat.le_of_ble_eq_true rfl) (List.forall_mem_cons.2 ⟨rfl, (List.forall_mem_nil _)⟩) rfl (fun w59 H => ⟨trivial, fun a S => ?_⟩)
 change Heap w0 [bA b55 [(.int .i64 a0.1), (.int .i64 a0.2.1), (.slice none 0 0), (.slice none 0 0)] 35, bA b52 [(.int .i64 (0 : Int)), (.int .i64 (0 : Int)), (.slice none 0 0), (.slice none 0 0)] 35, bA b49 [(.int .i64 a0.1), (.int .i64 a0.2.1), v33, v35] 26] w59 at H
 refine lx_nil (thenN ?_)
 refine wp_seq (region_plain ?_)
 refine lq (pAdd (bp b49) 2) S (q_fieldAddr' 2 23 rfl (isP_bp _) Tryz.underlying26 rfl Tryz.sizeOf23) fun a S => ?_
 refine lx_e v33 S trivial (by decide) rfl trivial (q_load1 rfl Tryz.isAgg23 (by rintro _ rfl; exact (At.of_add (m := 2) (j := 0) (boxAt (i := 2) H rfl (j := 2) rfl)))) (fun a S => ?_)
 obtain ⟨x62, e63, hm⟩ := bind_some hm
 refine lx_call (xs := [.tmp 11]) S trivial (by decide) rfl rfl Tryz.call31 ((laws_toStringS_ok (H.arg h34) e63).mono ?_)
 rintro e w60 ⟨v64, rfl, Hc61⟩
 have H := H.call1 Hc61
 refine ⟨_, rfl, trivial, fun a S => ?_⟩
 refine lq (pAdd (bp b55) 2) S (q_fieldAddr' 2 23 rfl (isP_bp _) Tryz.underlying35 rfl Tryz.sizeOf23) fun a S => ?_
 refine lx_storeBox (o := 2) (i := 1) (us := [v64]) (cs' := [(.int .i64 a0.1), (.int .i64 a0.2.1), v64, (.slice none 0 0)]) S trivial rfl H rfl rfl rfl (cells_sl (H.isSl 0 rfl)) Tryz.sizeOf23 (Nat.le_of_ble_eq_true rfl) (List.forall_mem_cons.2 ⟨one_sl (H.isSl 0 rfl), (List.forall_mem_nil _)⟩) rfl (fun w67 H => ⟨trivial, fun a S => ?_⟩)
 change Heap w0 [oA (rList rStr) v64 x62, bA b55 [(.int .i64 a0.1), (.int .i64 a0.2.1), v64, (.slice none 0 0)] 35, bA b52 [(.int .i64 (0 : Int)), (.int .i64 (0 : Int)), (.slice none 0 0), (.slice none 0 0)] 35, bA b49 [(.int .i64 a0.1), (.int .i64 a0.2.1), v33, v35] 26] w67 at H
 refine lx_nil (thenN ?_)
 refine wp_seq (region_plain ?_)
 refine lq (pAdd (bp b49) 3) S (q_fieldAddr' 3 24 rfl (isP_bp _) Tryz.underlying26 rfl Tryz.sizeOf24) fun a S => ?_
 refine lx_e v35 S trivial (by decide) rfl trivial (q_load1 rfl Tryz.isAgg24 (by rintro _ rfl; exact (At.of_add (m := 3) (j := 0) (boxAt (i := 3) H rfl (j := 3) rfl)))) (fun a S => ?_)
 obtain ⟨x70, e71, hm⟩ := bind_some hm
 refine lx_call (xs := [.tmp 15]) S trivial (by decide) rfl rfl Tryz.call32 ((laws_toEdgeS_ok (H.arg h36) e71).mono ?_)
 rintro e w68 ⟨v72, rfl, Hc69⟩
 have H := H.call1 Hc69
 refine ⟨_, rfl, trivial, fun a S => ?_⟩
 refine lq (pAdd (bp b55) 3) S (q_fieldAddr' 3 33 rfl (isP_bp _) Tryz.underlying35 rfl Tryz.sizeOf33) fun a S => ?_
 refine lx_storeBox (o := 3) (i := 2) (us := [v72]) (cs' := [(.int .i64 a0.1), (.int .i64 a0.2.1), v64, v72]) S trivial rfl H rfl rfl rfl (cells_sl (H.isSl 0 rfl)) Tryz.sizeOf33 (Nat.le_of_ble_eq_true rfl) (List.forall_mem_cons.2 ⟨one_sl (H.isSl 0 rfl), (List.forall_mem_nil _)⟩) rfl (fun w75 H => ⟨trivial, fun a S => ?_⟩)
 change Heap w0 [oA (rList Rimpl_Edge) v72 x70, oA (rList rStr) v64 x62, bA b55 [(.int .i64 a0.1), (.int .i64 a0.2.1), v64, v72] 35, bA b52 [(.int .i64 (0 : Int)), (.int .i64 (0 : Int)), (.slice none 0 0), (.slice none 0 0)] 35, bA b49 [(.int .i64 a0.1), (.int .i64 a0.2.1), v33, v35] 26] w75 at H
 refine lx_nil (thenN ?_)
 refine wp_seq (region_plain ?_)
 refine lx_e (.agg #[(.int .i64 a0.1), (.int .i64 a0.2.1), v64, v72]) S trivial (by decide) rfl trivial (q_loadA (cs := [(.int .i64 a0.1), (.int .i64 a0.2.1), v64, v72]) rfl (isP_bp _) Tryz.isAgg35 Tryz.sizeOf35 (by rintro _ rfl; exact (fun j u hu => boxAt (i := 2) H rfl hu))) (fun a S => ?_)
 refine lx_storeBox (o := 0) (i := 3) (us := [(.int .i64 a0.1), (.int .i64 a0.2.1), v64, v72]) (cs' := [(.int .i64 a0.1), (.int .i64 a0.2.1), v64, v72]) S trivial rfl H rfl rfl rfl rfl Tryz.sizeOf35 (Nat.le_of_ble_eq_true rfl) (List.forall_mem_cons.2 ⟨rfl, (List.forall_mem_cons.2 ⟨rfl, (List.forall_mem_cons.2 ⟨one_sl (H.isSl 1 rfl), (List.forall_mem_cons.2 ⟨one_sl (H.isSl 0 rfl), (List.forall_mem_nil _)⟩)⟩)⟩)⟩) rfl (fun w76 H => ⟨trivial, fun a S => ?_⟩)
 change Heap w0 [oA (rList Rimpl_Edge) v72 x70, oA (rList rStr) v64 x62, bA b55 [(.int .i64 a0.1), (.int .i64 a0.2.1), v64, v72] 35, bA b52 [(.int .i64 a0.1), (.int .i64 a0.2.1), v64, v72] 35, bA b49 [(.int .i64 a0.1), (.int .i64 a0.2.1), v33, v35] 26] w76 at H
 refine lx_nil (thenN ?_)
 refine wp_ret ?_
 have hrv0 := RV.cellA (t := 35) (q := 2) (env := [(0, (.agg #[(.int .i64 a0.1), (.int .i64 a0.2.1), v33, v35])), (1, (bp b49)), (2, (bp b52)), (3, (bp b55)), (4, (pAdd (bp b49) 0)), (5, (.int .i64 a0.1)), (6, (pAdd (bp b55) 0)), (7, (pAdd (bp b49) 1)), (8, (.int .i64 a0.2.1)), (9, (pAdd (bp b55) 1)), (10, (pAdd (bp b49) 2)), (11, v33), (12, v64), (13, (pAdd (bp b55) 2)), (14, (pAdd (bp b49) 3)), (15, v35), (16, v72), (17, (pAdd (bp b55) 3)), (18, (.agg #[(.int .i64 a0.1), (.int .i64 a0.2.1), v64, v72]))]) H (i := 3) rfl rfl Tryz.isAgg35 Tryz.sizeOf35
 obtain rfl := Option.some.inj hm
 have H : Heap w0 [oA (rList rStr) v64 x62, oA (rList Rimpl_Edge) v72 x70, bA b55 [(.int .i64 a0.1), (.int .i64 a0.2.1), v64, v72] 35, bA b52 [(.int .i64 a0.1), (.int .i64 a0.2.1), v64, v72] 35, bA b49 [(.int .i64 a0.1), (.int .i64 a0.2.1), v33, v35] 26] w76 := H.front 1 rfl
 have H : Heap w0 [oA (rList rStr) v64 x62, oA (rList Rimpl_Edge) v72 x70] w76 := H.sel [0, 1] (by decide)
 exact leaveR1 S rfl hrv0 ⟨v64, v72, rfl, H⟩

/-- spec.l00In -/
def spec_l00In_m (_ : Nat) (a0 : Int) (a1 : Int) (a2 : Int) : Option (Bool) :=
  (if (decide (a1 ≤ a0)) = true then some (decide (a0 ≤ a2)) else some false).bind fun t31 => some (t31)
set_option maxRecDepth 20000 in
theorem spec_l00In_ok [dr : Dr] {w0 : World} {fuel : Nat} {a0 : Int} {a1 : Int} {a2 : Int} {r : Bool} (hm : spec_l00In_m fuel a0 a1 a2 = some r) :
  Calls Tryz.prog 28 #[.int .i64 a0, .int .i64 a1, .int .i64 a2] w0 fun e w => e = .returned (.bool r) ∧ Heap w0 [] w := by
 unfold spec_l00In_m at hm
 have H := Heap.start w0
 refine enter (args := [.int .i64 a0, .int .i64 a1, .int .i64 a2]) Tryz.func28 rfl 15 rfl (Nat.le_of_ble_eq_true rfl) (fun a S => ?_)
 refine wp_seq (region_plain ?_)
 refine lq (.bool false) S (q_assign rfl) fun a S => ?_
 refine lx_nil (thenN ?_)
 refine wp_seq (region_plain ?_)
 refine lq (.int .i64 a0) S (q_move rfl) fun a S => ?_
 refine lq (.int .i64 a1) S (q_move rfl) fun a S => ?_
 refine lq (.bool (decide (a1 ≤ a0))) S (q_geq rfl rfl) fun a S => ?_
 refine lq (.bool (decide (a1 ≤ a0))) S (q_move rfl) fun a S => ?_
 obtain ⟨t31, e32, hm⟩ := bind_some hm
 refine lx_cut 4 (fun a w => Slots a 15 [(14, (.bool t31))] ∧ Heap w0 [] w) ?_ ?_
 ·by_cases hc33 : (decide (a1 ≤ a0)) = true
  ·have hm := ite_t hc33 e32
   refine lx_q (.int .i64 a0) S (want_b rfl rfl hc33) (by decide) (q_move rfl) (fun a S => ?_)
   refine lx_q (.int .i64 a2) S (want_b rfl rfl hc33) (by decide) (q_move rfl) (fun a S => ?_)
   refine lx_q (.bool (decide (a0 ≤ a2))) S (want_b rfl rfl hc33) (by decide) (q_leq rfl rfl) (fun a S => ?_)
   refine lq (.bool (decide (a0 ≤ a2))) S (q_pickT' rfl hc33 rfl) fun a S => ?_
   refine lx_nil ?_
   obtain rfl := Option.some.inj hm
   exact ⟨S.sub ⟨rfl, trivial⟩, H⟩
  ·have hm := ite_f (eq_false_of_ne_true hc33) e32
   have hc33 : (decide (a1 ≤ a0)) = false := eq_false_of_ne_true hc33
   refine lx_skip S rfl rfl (isB_ne hc33) (by decide) (fun a S => ?_)
   refine lx_skip S rfl rfl (isB_ne hc33) (by decide) (fun a S => ?_)
   refine lx_skip S rfl rfl (isB_ne hc33) (by decide) (fun a S => ?_)
   refine lq (.bool false) S (q_pickF' rfl hc33 rfl) fun a S => ?_
   refine lx_nil ?_
   obtain rfl := Option.some.inj hm
   exact ⟨S.sub ⟨rfl, trivial⟩, H⟩
 ·rintro a w ⟨S, H⟩
  refine lq (.bool t31) S (q_assign rfl) fun a S => ?_
  refine lx_nil (thenN ?_)
  refine wp_ret ?_
  obtain rfl := Option.some.inj hm
  exact leave1 S rfl rfl ⟨rfl, H⟩

/-- spec.l14Arity -/
def spec_l14Arity_m (_ : Nat) (a0 : Int) : Option (Int) :=
  join (κ := Bool → Option Int) (fun (x31 : Bool) => (if x31 = true then some ((0 : Int)) else join (κ := Bool → Option Int) (fun (x35 : Bool) => (if x35 = true then some ((2 : Int)) else some ((1 : Int)))) (fun K36 => (if (a0 == (2 : Int)) = true then (K36 (a0 == (2 : Int))) else (K36 (a0 == (3 : Int))))))) (fun K32 => (if (a0 == (0 : Int)) = true then (K32 (a0 == (0 : Int))) else (if (a0 == (1 : Int)) = true then (K32 (a0 == (1 : Int))) else (K32 (a0 == (6 : Int))))))
set_option maxRecDepth 20000 in
theorem spec_l14Arity_ok [dr : Dr] {w0 : World} {fuel : Nat} {a0 : Int} {r : Int} (hm : spec_l14Arity_m fuel a0 = some r) :
  Calls Tryz.prog 67 #[.int .i64 a0] w0 fun e w => e = .returned (.int .i64 r) ∧ Heap w0 [] w := by
 unfold spec_l14Arity_m at hm
 have H := Heap.start w0
 refine enter (args := [.int .i64 a0]) Tryz.func67 rfl 11 rfl (Nat.le_of_ble_eq_true rfl) (fun a S => ?_)
 refine wp_seq (region_plain ?_)
 refine lq (.int .i64 (0 : Int)) S (q_assign rfl) fun a S => ?_
 refine lx_nil (thenN ?_)
 refine wp_seq (wp_seq (region_plain ?_))
 refine lq (.int .i64 a0) S (q_move rfl) fun a S => ?_
 refine lx_nil (thenN ?_)
 refine wp_block ?_
 obtain ⟨K32, hK33, hm⟩ := join_elim hm
 refine seq_cut (fun a w => ∃ (x31 : Bool), Slots a 11 [(3, (.int .i64 a0)), (4, (.bool x31))] ∧ Heap w0 [] w ∧ K32 x31 = some r) ?_ ?_
 ·rintro a w ⟨x31, S, H, hm⟩
  subst hK33
  refine cond_b S rfl (fun hc34 => ?_) (fun hc34 => ?_)
  ·have hm := ite_t hc34 hm
   refine wp_seq (region_plain ?_)
   refine lq (.int .i64 (0 : Int)) S (q_assign rfl) fun a S => ?_
   refine lx_nil (thenN ?_)
   refine wp_ret (inBlock_ret ?_)
   refine then_ret ?_
   obtain rfl := Option.some.inj hm
   exact leave1 S rfl rfl ⟨rfl, H⟩
  ·have hm := ite_f hc34 hm
   obtain ⟨K36, hK37, hm⟩ := join_elim hm
   refine seq_cut (fun a w => ∃ (x35 : Bool), Slots a 11 [(8, (.bool x35))] ∧ Heap w0 [] w ∧ K36 x35 = some r) ?_ ?_
   ·rintro a w ⟨x35, S, H, hm⟩
    subst hK37
    refine cond_b S rfl (fun hc38 => ?_) (fun hc38 => ?_)
    ·have hm := ite_t hc38 hm
     refine wp_seq (region_plain ?_)
     refine lq (.int .i64 (2 : Int)) S (q_assign rfl) fun a S => ?_
     refine lx_nil (thenN ?_)
     refine wp_ret (inBlock_ret ?_)
     refine then_ret ?_
     obtain rfl := Option.some.inj hm
     exact leave1 S rfl rfl ⟨rfl, H⟩
    ·have hm := ite_f hc38 hm
     refine wp_skip ?_
     refine inBlock_norm ?_
     refine thenN ?_
     refine wp_seq (region_plain ?_)
     refine lq (.int .i64 (1 : Int)) S (q_assign rfl) fun a S => ?_
     refine lx_nil (thenN ?_)
     refine wp_ret ?_
     obtain rfl := Option.some.inj hm
     exact leave1 S rfl rfl ⟨rfl, H⟩
   ·skip
    refine wp_seq (region_plain ?_)
    refine lq (.bool (a0 == (2 : Int))) S (q_eql rfl rfl) fun a S => ?_
    refine lq (.bool (a0 == (2 : Int))) S (q_assign rfl) fun a S => ?_
    refine lx_nil (thenN ?_)
    refine cond_b S rfl (fun hc39 => ?_) (fun hc39 => ?_)
    ·have hm := ite_t hc39 hm
     refine wp_skip ?_
     exact ⟨(a0 == (2 : Int)), S.sub ⟨rfl, trivial⟩, H, hm⟩
    ·have hm := ite_f hc39 hm
     refine region_plain ?_
     refine lq (.bool (a0 == (3 : Int))) S (q_eql rfl rfl) fun a S => ?_
     refine lq (.bool (a0 == (3 : Int))) S (q_assign rfl) fun a S => ?_
     refine lx_nil ?_
     exact ⟨(a0 == (3 : Int)), S.sub ⟨rfl, trivial⟩, H, hm⟩
 ·skip
  refine wp_seq (region_plain ?_)
  refine lq (.bool (a0 == (0 : Int))) S (q_eql rfl rfl) fun a S => ?_
  refine lq (.bool (a0 == (0 : Int))) S (q_assign rfl) fun a S => ?_
  refine lx_nil (thenN ?_)
  refine cond_b S rfl (fun hc40 => ?_) (fun hc40 => ?_)
  ·have hm := ite_t hc40 hm
   refine wp_skip ?_
   exact ⟨(a0 == (0 : Int)), S.sub ⟨rfl, rfl, trivial⟩, H, hm⟩
  ·have hm := ite_f hc40 hm
   refine wp_seq (region_plain ?_)
   refine lq (.bool (a0 == (1 : Int))) S (q_eql rfl rfl) fun a S => ?_
   refine lq (.bool (a0 == (1 : Int))) S (q_assign rfl) fun a S => ?_
   refine lx_nil (thenN ?_)
   refine cond_b S rfl (fun hc41 => ?_) (fun hc41 => ?_)
   ·have hm := ite_t hc41 hm
    refine wp_skip ?_
    exact ⟨(a0 == (1 : Int)), S.sub ⟨rfl, rfl, trivial⟩, H, hm⟩
   ·have hm := ite_f hc41 hm
    refine region_plain ?_
    refine lq (.bool (a0 == (6 : Int))) S (q_eql rfl rfl) fun a S => ?_
    refine lq (.bool (a0 == (6 : Int))) S (q_assign rfl) fun a S => ?_
    refine lx_nil ?_
    exact ⟨(a0 == (6 : Int)), S.sub ⟨rfl, rfl, trivial⟩, H, hm⟩

/-- spec.l01Open -/
def spec_l01Open_m (fuel : Nat) (a0 : Str) : Option (Int) :=
  (iter (fun (s : (Int)) => (match s with | (x36) => (if (decide (x36 < (a0.length : Int))) = true then (idx a0 x36).bind fun b51 => (if ((b51.toNat : Int) == (40 : Int)) = true then some (.inr (.inr x36)) else some (.inl ((W (x36 + (1 : Int)))))) else some (.inr (.inl ()))) : Option (((Int)) ⊕ ((Unit) ⊕ (Int))))) fuel ((0 : Int))).bind fun res42 => ctl (β := Unit) (ρ := Int) (τ := Int) res42 (fun _ => some ((a0.length : Int))) (fun q => some (q))
set_option maxRecDepth 20000 in
theorem spec_l01Open_ok [dr : Dr] {w0 : World} {fuel : Nat} {a0 : Str} {r : Int} (hm : spec_l01Open_m fuel a0 = some r) :
  Calls Tryz.prog 97 #[sv a0] w0 fun e w => e = .returned (.int .i64 r) ∧ Heap w0 [] w := by
 unfold spec_l01Open_m at hm
 have H := Heap.start w0
 refine enter (args := [sv a0]) Tryz.func97 rfl 17 rfl (Nat.le_of_ble_eq_true rfl) (fun a S => ?_)
 refine wp_seq (region_plain ?_)
 refine lq (.int .i64 (0 : Int)) S (q_assign rfl) fun a S => ?_
 refine lx_nil (thenN ?_)
 refine wp_seq (wp_seq (region_plain ?_))
 refine lq (.int .i64 (0 : Int)) S (q_assign rfl) fun a S => ?_
 refine lx_nil (thenN ?_)
 obtain ⟨res42, hit43, hk46⟩ := bind_some hm
 obtain ⟨f44, hf45, hit43⟩ := iter_name hit43
 refine block_loop (fun a w => Slots a 17 [(0, (sv a0))] ∧ Heap w0 [] w ∧ res42 = .inl ()) ?_ ?_
 ·rintro a w ⟨S, H, rfl⟩
  have hm := ctl_inl hk46
  refine thenN ?_
  refine wp_seq (region_plain ?_)
  refine lq (sv a0) S (q_move rfl) fun a S => ?_
  refine lq (.int .i64 (a0.length : Int)) S (q_lenStr rfl rfl Tryz.underlying9) fun a S => ?_
  refine lq (.int .i64 (a0.length : Int)) S (q_assign rfl) fun a S => ?_
  refine lx_nil (thenN ?_)
  refine wp_ret ?_
  obtain rfl := Option.some.inj hm
  exact leave1 S rfl rfl ⟨rfl, H⟩
 ·skip
  refine loop_ghost (fun n a w => ∃ (x36 : Int), Slots a 17 [(0, (sv a0)), (3, (.int .i64 x36))] ∧ Heap w0 [] w ∧ iter f44 n (x36) = some res42) _ ⟨(0 : Int), S.sub ⟨rfl, rfl, trivial⟩, H, hit43⟩ ?_
  rintro n a w ⟨x36, S, H, hit43⟩
  obtain ⟨m47, o48, rfl, hm, hc49⟩ := iter_step hit43
  rw [hf45] at hm
  refine wp_seq (wp_seq (region_plain ?_))
  refine lq (.int .i64 x36) S (q_move rfl) fun a S => ?_
  refine lq (sv a0) S (q_move rfl) fun a S => ?_
  refine lq (.int .i64 (a0.length : Int)) S (q_lenStr rfl rfl Tryz.underlying9) fun a S => ?_
  refine lq (.bool (decide (x36 < (a0.length : Int)))) S (q_lss rfl rfl) fun a S => ?_
  refine lx_nil (thenN ?_)
  refine cond_b S rfl (fun hc50 => ?_) (fun hc50 => ?_)
  ·have hm := ite_t hc50 hm
   refine wp_skip (thenN ?_)
   refine wp_seq ?_
   refine wp_block ?_
   refine wp_seq (region_plain ?_)
   refine lq (sv a0) S (q_move rfl) fun a S => ?_
   refine lq (.int .i64 x36) S (q_move rfl) fun a S => ?_
   obtain ⟨b51, e52, hm⟩ := bind_some hm
   refine lq (.int .u8 (b51.toNat : Int)) S (q_sidx rfl rfl Tryz.underlying9 e52) fun a S => ?_
   refine lq (.bool ((b51.toNat : Int) == (40 : Int))) S (q_eql rfl rfl) fun a S => ?_
   refine lx_nil (thenN ?_)
   refine cond_b S rfl (fun hc53 => ?_) (fun hc53 => ?_)
   ·have hm := ite_t hc53 hm
    refine wp_seq (region_plain ?_)
    refine lq (.int .i64 x36) S (q_move rfl) fun a S => ?_
    refine lq (.int .i64 x36) S (q_assign rfl) fun a S => ?_
    refine lx_nil (thenN ?_)
    refine wp_ret (inBlock_ret ?_)
    refine then_ret ?_
    refine then_ret ?_
    refine inBlock_ret ?_
    refine then_ret ?_
    refine then_ret ?_
    obtain rfl := it_brk hm hc49
    have hm := ctl_inr hk46
    obtain rfl := Option.some.inj hm
    exact leave1 S rfl rfl ⟨rfl, H⟩
   ·have hm := ite_f hc53 hm
    refine wp_skip ?_
    refine inBlock_norm ?_
    refine thenN ?_
    refine region_plain ?_
    refine lq (.int .i64 x36) S (q_move rfl) fun a S => ?_
    refine lq (.int .i64 (W (x36 + (1 : Int)))) S (q_add rfl rfl) fun a S => ?_
    refine lq (.int .i64 (W (x36 + (1 : Int)))) S (q_assign rfl) fun a S => ?_
    refine lx_nil ?_
    exact ⟨m47, Nat.lt_succ_self _, (W (x36 + (1 : Int))), S.sub ⟨rfl, rfl, trivial⟩, H, it_cont hm hc49⟩
  ·have hm := ite_f hc50 hm
   refine wp_exit ?_
   refine then_exit ?_
   refine then_exit ?_
   refine inBlock_exit ?_
   obtain rfl := it_brk hm hc49
   exact ⟨S.sub ⟨rfl, trivial⟩, H, rfl⟩

/-- spec.l01Small -/
def spec_l01Small_m (_ : Nat) (a0 : Int) : Option (Bool) :=
  (if (decide ((97 : Int) ≤ a0)) = true then some (decide (a0 ≤ (122 : Int))) else some false).bind fun t31 => some (t31)
set_option maxRecDepth 20000 in
theorem spec_l01Small_ok [dr : Dr] {w0 : World} {fuel : Nat} {a0 : Int} {r : Bool} (hm : spec_l01Small_m fuel a0 = some r) :
  Calls Tryz.prog 108 #[.int .u8 a0] w0 fun e w => e = .returned (.bool r) ∧ Heap w0 [] w := by
 unfold spec_l01Small_m at hm
 have H := Heap.start w0
 refine enter (args := [.int .u8 a0]) Tryz.func108 rfl 9 rfl (Nat.le_of_ble_eq_true rfl) (fun a S => ?_)
 refine wp_seq (region_plain ?_)
 refine lq (.bool false) S (q_assign rfl) fun a S => ?_
 refine lx_nil (thenN ?_)
 refine wp_seq (region_plain ?_)
 refine lq (.int .u8 a0) S (q_move rfl) fun a S => ?_
 refine lq (.bool (decide ((97 : Int) ≤ a0))) S (q_geq rfl rfl) fun a S => ?_
 refine lq (.bool (decide ((97 : Int) ≤ a0))) S (q_move rfl) fun a S => ?_
 obtain ⟨t31, e32, hm⟩ := bind_some hm
 refine lx_cut 3 (fun a w => Slots a 9 [(8, (.bool t31))] ∧ Heap w0 [] w) ?_ ?_
 ·by_cases hc33 : (decide ((97 : Int) ≤ a0)) = true
  ·have hm := ite_t hc33 e32
   refine lx_q (.int .u8 a0) S (want_b rfl rfl hc33) (by decide) (q_move rfl) (fun a S => ?_)
   refine lx_q (.bool (decide (a0 ≤ (122 : Int)))) S (want_b rfl rfl hc33) (by decide) (q_leq rfl rfl) (fun a S => ?_)
   refine lq (.bool (decide (a0 ≤ (122 : Int)))) S (q_pickT' rfl hc33 rfl) fun a S => ?_
   refine lx_nil ?_
   obtain rfl := Option.some.inj hm
   exact ⟨S.sub ⟨rfl, trivial⟩, H⟩
  ·have hm := ite_f (eq_false_of_ne_true hc33) e32
   have hc33 : (decide ((97 : Int) ≤ a0)) = false := eq_false_of_ne_true hc33
   refine lx_skip S rfl rfl (isB_ne hc33) (by decide) (fun a S => ?_)
   refine lx_skip S rfl rfl (isB_ne hc33) (by decide) (fun a S => ?_)
   refine lq (.bool false) S (q_pickF' rfl hc33 rfl) fun a S => ?_
   refine lx_nil ?_
   obtain rfl := Option.some.inj hm
   exact ⟨S.sub ⟨rfl, trivial⟩, H⟩
 ·rintro a w ⟨S, H⟩
  refine lq (.bool t31) S (q_assign rfl) fun a S => ?_
  refine lx_nil (thenN ?_)
  refine wp_ret ?_
  obtain rfl := Option.some.inj hm
  exact leave1 S rfl rfl ⟨rfl, H⟩

/-- spec.l01Digit -/
def spec_l01Digit_m (_ : Nat) (a0 : Int) : Option (Bool) :=
  (if (decide ((48 : Int) ≤ a0)) = true then some (decide (a0 ≤ (57 : Int))) else some false).bind fun t31 => some (t31)
set_option maxRecDepth 20000 in
theorem spec_l01Digit_ok [dr : Dr] {w0 : World} {fuel : Nat} {a0 : Int} {r : Bool} (hm : spec_l01Digit_m fuel a0 = some r) :
  Calls Tryz.prog 109 #[.int .u8 a0] w0 fun e w => e = .returned (.bool r) ∧ Heap w0 [] w := by
 unfold spec_l01Digit_m at hm
 have H := Heap.start w0
 refine enter (args := [.int .u8 a0]) Tryz.func109 rfl 9 rfl (Nat.le_of_ble_eq_true rfl) (fun a S => ?_)
 refine wp_seq (region_plain ?_)
 refine lq (.bool false) S (q_assign rfl) fun a S => ?_
 refine lx_nil (thenN ?_)
 refine wp_seq (region_plain ?_)
 refine lq (.int .u8 a0) S (q_move rfl) fun a S => ?_
 refine lq (.bool (decide ((48 : Int) ≤ a0))) S (q_geq rfl rfl) fun a S => ?_
 refine lq (.bool (decide ((48 : Int) ≤ a0))) S (q_move rfl) fun a S => ?_
 obtain ⟨t31, e32, hm⟩ := bind_some hm
 refine lx_cut 3 (fun a w => Slots a 9 [(8, (.bool t31))] ∧ Heap w0 [] w) ?_ ?_
 ·by_cases hc33 : (decide ((48 : Int) ≤ a0)) = true
  ·have hm := ite_t hc33 e32
   refine lx_q (.int .u8 a0) S (want_b rfl rfl hc33) (by decide) (q_move rfl) (fun a S => ?_)
   refine lx_q (.bool (decide (a0 ≤ (57 : Int)))) S (want_b rfl rfl hc33) (by decide) (q_leq rfl rfl) (fun a S => ?_)
   refine lq (.bool (decide (a0 ≤ (57 : Int)))) S (q_pickT' rfl hc33 rfl) fun a S => ?_
   refine lx_nil ?_
   obtain rfl := Option.some.inj hm
   exact ⟨S.sub ⟨rfl, trivial⟩, H⟩
  ·have hm := ite_f (eq_false_of_ne_true hc33) e32
   have hc33 : (decide ((48 : Int) ≤ a0)) = false := eq_false_of_ne_true hc33
   refine lx_skip S rfl rfl (isB_ne hc33) (by decide) (fun a S => ?_)
   refine lx_skip S rfl rfl (isB_ne hc33) (by decide) (fun a S => ?_)
   refine lq (.bool false) S (q_pickF' rfl hc33 rfl) fun a S => ?_
   refine lx_nil ?_
   obtain rfl := Option.some.inj hm
   exact ⟨S.sub ⟨rfl, trivial⟩, H⟩
 ·rintro a w ⟨S, H⟩
  refine lq (.bool t31) S (q_assign rfl) fun a S => ?_
  refine lx_nil (thenN ?_)
  refine wp_ret ?_
  obtain rfl := Option.some.inj hm
  exact leave1 S rfl rfl ⟨rfl, H⟩

/-- spec.l01Name -/
def spec_l01Name_m (fuel : Nat) (a0 : Str) : Option (Bool) :=
  (if (a0 == ([] : Str)) = true then some true else some (decide ((10 : Int) < (a0.length : Int)))).bind fun t31 => (if t31 = true then some true else (idx a0 (0 : Int)).bind fun b37 => (spec_l01Small_m fuel (b37.toNat : Int)).bind fun x41 => some (!x41)).bind fun t34 => (if t34 = true then some (false) else (iter (fun (s : (Int)) => (match s with | (x65) => (if (decide (x65 < (a0.length : Int))) = true then (idx a0 x65).bind fun b95 => (spec_l01Small_m fuel (b95.toNat : Int)).bind fun x99 => (if (!x99) = true then (idx a0 x65).bind fun b105 => (spec_l01Digit_m fuel (b105.toNat : Int)).bind fun x109 => some (!x109) else some false).bind fun t102 => (if t102 = true then some (.inr (.inr false)) else some (.inl ((W (x65 + (1 : Int)))))) else some (.inr (.inl ()))) : Option (((Int)) ⊕ ((Unit) ⊕ (Bool))))) fuel ((0 : Int))).bind fun res86 => ctl (β := Unit) (ρ := Bool) (τ := Bool) res86 (fun _ => some (true)) (fun q => some (q)))
set_option maxRecDepth 20000 in
theorem spec_l01Name_ok [dr : Dr] {w0 : World} {fuel : Nat} {a0 : Str} {r : Bool} (hm : spec_l01Name_m fuel a0 = some r) :
  Calls Tryz.prog 96 #[sv a0] w0 fun e w => e = .returned (.bool r) ∧ Heap w0 [] w := by
 unfold spec_l01Name_m at hm
 have H := Heap.start w0
 refine enter (args := [sv a0]) Tryz.func96 rfl 35 rfl (Nat.le_of_ble_eq_true rfl) (fun a S => ?_)
 refine wp_seq (region_plain ?_)
 refine lq (.bool false) S (q_assign rfl) fun a S => ?_
 refine lx_nil (thenN ?_)
 refine wp_seq (wp_seq (region_plain ?_))
 refine lq (sv a0) S (q_move rfl) fun a S => ?_
 refine lq (.bool (a0 == ([] : Str))) S (q_seql rfl rfl) fun a S => ?_
 refine lq (.bool (a0 == ([] : Str))) S (q_move rfl) fun a S => ?_
 obtain ⟨t31, e32, hm⟩ := bind_some hm
 refine lx_cut 4 (fun a w => Slots a 35 [(0, (sv a0)), (10, (.bool t31))] ∧ Heap w0 [] w) ?_ ?_
 ·by_cases hc33 : (a0 == ([] : Str)) = true
  ·have hm := ite_t hc33 e32
   refine lx_skip S rfl rfl (isB_ne hc33) (by decide) (fun a S => ?_)
   refine lx_skip S rfl rfl (isB_ne hc33) (by decide) (fun a S => ?_)
   refine lx_skip S rfl rfl (isB_ne hc33) (by decide) (fun a S => ?_)
   refine lq (.bool true) S (q_pickT' rfl hc33 rfl) fun a S => ?_
   refine lx_nil ?_
   obtain rfl := Option.some.inj hm
   exact ⟨S.sub ⟨rfl, rfl, trivial⟩, H⟩
  ·have hm := ite_f (eq_false_of_ne_true hc33) e32
   have hc33 : (a0 == ([] : Str)) = false := eq_false_of_ne_true hc33
   refine lx_q (sv a0) S (want_b rfl rfl hc33) (by decide) (q_move rfl) (fun a S => ?_)
   refine lx_q (.int .i64 (a0.length : Int)) S (want_b rfl rfl hc33) (by decide) (q_lenStr rfl rfl Tryz.underlying9) (fun a S => ?_)
   refine lx_q (.bool (decide ((10 : Int) < (a0.length : Int)))) S (want_b rfl rfl hc33) (by decide) (q_gtr rfl rfl) (fun a S => ?_)
   refine lq (.bool (decide ((10 : Int) < (a0.length : Int)))) S (q_pickF' rfl hc33 rfl) fun a S => ?_
   refine lx_nil ?_
   obtain rfl := Option.some.inj hm
   exact ⟨S.sub ⟨rfl, rfl, trivial⟩, H⟩
 ·rintro a w ⟨S, H⟩
  refine lq (.bool t31) S (q_move rfl) fun a S => ?_
  obtain ⟨t34, e35, hm⟩ := bind_some hm
  refine lx_cut 5 (fun a w => Slots a 35 [(0, (sv a0)), (16, (.bool t34))] ∧ Heap w0 [] w) ?_ ?_
  ·by_cases hc36 : t31 = true
   ·have hm := ite_t hc36 e35
    refine lx_skip S rfl rfl (isB_ne hc36) (by decide) (fun a S => ?_)
    refine lx_skip S rfl rfl (isB_ne hc36) (by decide) (fun a S => ?_)
    refine lx_skip S rfl rfl (isB_ne hc36) (by decide) (fun a S => ?_)
    refine lx_skip S rfl rfl (isB_ne hc36) (by decide) (fun a S => ?_)
    refine lq (.bool true) S (q_pickT' rfl hc36 rfl) fun a S => ?_
    refine lx_nil ?_
    obtain rfl := Option.some.inj hm
    exact ⟨S.sub ⟨rfl, rfl, trivial⟩, H⟩
   ·have hm := ite_f (eq_false_of_ne_true hc36) e35
    have hc36 : t31 = false := eq_false_of_ne_true hc36
    refine lx_q (sv a0) S (want_b rfl rfl hc36) (by decide) (q_move rfl) (fun a S => ?_)
    obtain ⟨b37, e38, hm⟩ := bind_some hm
    refine lx_q (.int .u8 (b37.toNat : Int)) S (want_b rfl rfl hc36) (by decide) (q_sidx rfl rfl Tryz.underlying9 e38) (fun a S => ?_)
    obtain ⟨x41, e42, hm⟩ := bind_some hm
    refine lx_call (xs := [.tmp 13]) S (want_b rfl rfl hc36) (by decide) rfl rfl Tryz.call108 ((spec_l01Small_ok  e42).mono ?_)
    rintro e w39 ⟨rfl, Hc40⟩
    have H := H.call0 Hc40
    refine ⟨_, rfl, trivial, fun a S => ?_⟩
    refine lx_q (.bool (!x41)) S (want_b rfl rfl hc36) (by decide) (q_not rfl) (fun a S => ?_)
    refine lq (.bool (!x41)) S (q_pickF' rfl hc36 rfl) fun a S => ?_
    refine lx_nil ?_
    obtain rfl := Option.some.inj hm
    exact ⟨S.sub ⟨rfl, rfl, trivial⟩, H⟩
  ·rintro a w ⟨S, H⟩
   refine lx_nil (thenN ?_)
   refine cond_b S rfl (fun hc44 => ?_) (fun hc44 => ?_)
   ·have hm := ite_t hc44 hm
    refine wp_seq (region_plain ?_)
    refine lq (.bool false) S (q_assign rfl) fun a S => ?_
    refine lx_nil (thenN ?_)
    refine wp_ret (then_ret ?_)
    obtain rfl := Option.some.inj hm
    exact leave1 S rfl rfl ⟨rfl, H⟩
   ·have hm := ite_f hc44 hm
    refine wp_skip (thenN ?_)
    refine wp_seq (wp_seq (region_plain ?_))
    refine lq (.int .i64 (0 : Int)) S (q_assign rfl) fun a S => ?_
    refine lx_nil (thenN ?_)
    obtain ⟨res86, hit87, hk90⟩ := bind_some hm
    obtain ⟨f88, hf89, hit87⟩ := iter_name hit87
    refine block_loop (fun a w => Slots a 35 [] ∧ Heap w0 [] w ∧ res86 = .inl ()) ?_ ?_
    ·rintro a w ⟨S, H, rfl⟩
     have hm := ctl_inl hk90
     refine thenN ?_
     refine wp_seq (region_plain ?_)
     refine lq (.bool true) S (q_assign rfl) fun a S => ?_
     refine lx_nil (thenN ?_)
     refine wp_ret ?_
     obtain rfl := Option.some.inj hm
     exact leave1 S rfl rfl ⟨rfl, H⟩
    ·skip
     refine loop_ghost (fun n a w => ∃ (x65 : Int), Slots a 35 [(0, (sv a0)), (3, (.int .i64 x65))] ∧ Heap w0 [] w ∧ iter f88 n (x65) = some res86) _ ⟨(0 : Int), S.sub ⟨rfl, rfl, trivial⟩, H, hit87⟩ ?_
     rintro n a w ⟨x65, S, H, hit87⟩
     obtain ⟨m91, o92, rfl, hm, hc93⟩ := iter_step hit87
     rw [hf89] at hm
     refine wp_seq (wp_seq (region_plain ?_))
     refine lq (.int .i64 x65) S (q_move rfl) fun a S => ?_
     refine lq (sv a0) S (q_move rfl) fun a S => ?_
     refine lq (.int .i64 (a0.length : Int)) S (q_lenStr rfl rfl Tryz.underlying9) fun a S => ?_
     refine lq (.bool (decide (x65 < (a0.length : Int)))) S (q_lss rfl rfl) fun a S => ?_
     refine lx_nil (thenN ?_)
     refine cond_b S rfl (fun hc94 => ?_) (fun hc94 => ?_)
     ·have hm := ite_t hc94 hm
      refine wp_skip (thenN ?_)
      refine wp_seq ?_
      refine wp_block ?_
      refine wp_seq (region_plain ?_)
      refine lq (sv a0) S (q_move rfl) fun a S => ?_
      refine lq (.int .i64 x65) S (q_move rfl) fun a S => ?_
      obtain ⟨b95, e96, hm⟩ := bind_some hm
      refine lq (.int .u8 (b95.toNat : Int)) S (q_sidx rfl rfl Tryz.underlying9 e96) fun a S => ?_
      obtain ⟨x99, e100, hm⟩ := bind_some hm
      refine lx_call (xs := [.tmp 25]) S trivial (by decide) rfl rfl Tryz.call108 ((spec_l01Small_ok  e100).mono ?_)
      rintro e w97 ⟨rfl, Hc98⟩
      have H := H.call0 Hc98
      refine ⟨_, rfl, trivial, fun a S => ?_⟩
      refine lq (.bool (!x99)) S (q_not rfl) fun a S => ?_
      refine lq (.bool (!x99)) S (q_move rfl) fun a S => ?_
      obtain ⟨t102, e103, hm⟩ := bind_some hm
      refine lx_cut 6 (fun a w => Slots a 35 [(0, (sv a0)), (3, (.int .i64 x65)), (34, (.bool t102))] ∧ Heap w0 [] w) ?_ ?_
      ·by_cases hc104 : (!x99) = true
       ·have hm := ite_t hc104 e103
        refine lx_q (sv a0) S (want_b rfl rfl hc104) (by decide) (q_move rfl) (fun a S => ?_)
        refine lx_q (.int .i64 x65) S (want_b rfl rfl hc104) (by decide) (q_move rfl) (fun a S => ?_)
        obtain ⟨b105, e106, hm⟩ := bind_some hm
        refine lx_q (.int .u8 (b105.toNat : Int)) S (want_b rfl rfl hc104) (by decide) (q_sidx rfl rfl Tryz.underlying9 e106) (fun a S => ?_)
        obtain ⟨x109, e110, hm⟩ := bind_some hm
        refine lx_call (xs := [.tmp 31]) S (want_b rfl rfl hc104) (by decide) rfl rfl Tryz.call109 ((spec_l01Digit_ok  e110).mono ?_)
        rintro e w107 ⟨rfl, Hc108⟩
        have H := H.call0 Hc108
        refine ⟨_, rfl, trivial, fun a S => ?_⟩
        refine lx_q (.bool (!x109)) S (want_b rfl rfl hc104) (by decide) (q_not rfl) (fun a S => ?_)
        refine lq (.bool (!x109)) S (q_pickT' rfl hc104 rfl) fun a S => ?_
        refine lx_nil ?_
        obtain rfl := Option.some.inj hm
        exact ⟨S.sub ⟨rfl, rfl, rfl, trivial⟩, H⟩
       ·have hm := ite_f (eq_false_of_ne_true hc104) e103
        have hc104 : (!x99) = false := eq_false_of_ne_true hc104
        refine lx_skip S rfl rfl (isB_ne hc104) (by decide) (fun a S => ?_)
        refine lx_skip S rfl rfl (isB_ne hc104) (by decide) (fun a S => ?_)
        refine lx_skip S rfl rfl (isB_ne hc104) (by decide) (fun a S => ?_)
        refine lx_skip S rfl rfl (isB_ne hc104) (by decide) (fun a S => ?_)
        refine lx_skip S rfl rfl (isB_ne hc104) (by decide) (fun a S => ?_)
        refine lq (.bool false) S (q_pickF' rfl hc104 rfl) fun a S => ?_
        refine lx_nil ?_
        obtain rfl := Option.some.inj hm
        exact ⟨S.sub ⟨rfl, rfl, rfl, trivial⟩, H⟩
      ·rintro a w ⟨S, H⟩
       refine lx_nil (thenN ?_)
       refine cond_b S rfl (fun hc112 => ?_) (fun hc112 => ?_)
       ·have hm := ite_t hc112 hm
        refine wp_seq (region_plain ?_)
        refine lq (.bool false) S (q_assign rfl) fun a S => ?_
        refine lx_nil (thenN ?_)
        refine wp_ret (inBlock_ret ?_)
        refine then_ret ?_
        refine then_ret ?_
        refine inBlock_ret ?_
        refine then_ret ?_
        refine then_ret ?_
        obtain rfl := it_brk hm hc93
        have hm := ctl_inr hk90
        obtain rfl := Option.some.inj hm
        exact leave1 S rfl rfl ⟨rfl, H⟩
       ·have hm := ite_f hc112 hm
        refine wp_skip ?_
        refine inBlock_norm ?_
        refine thenN ?_
        refine region_plain ?_
        refine lq (.int .i64 x65) S (q_move rfl) fun a S => ?_
        refine lq (.int .i64 (W (x65 + (1 : Int)))) S (q_add rfl rfl) fun a S => ?_
        refine lq (.int .i64 (W (x65 + (1 : Int)))) S (q_assign rfl) fun a S => ?_
        refine lx_nil ?_
        exact ⟨m91, Nat.lt_succ_self _, (W (x65 + (1 : Int))), S.sub ⟨rfl, rfl, trivial⟩, H, it_cont hm hc93⟩
     ·have hm := ite_f hc94 hm
      refine wp_exit ?_
      refine then_exit ?_
      refine then_exit ?_
      refine inBlock_exit ?_
      obtain rfl := it_brk hm hc93
      exact ⟨S.sub trivial, H, rfl⟩

/-- spec.l01Action -/
def spec_l01Action_m (fuel : Nat) (a0 : Str) : Option (Bool) :=
  (spec_l01Name_m fuel a0).bind fun x33 => (if x33 = true then some (a0 != ([116, 97, 117] : Str)) else some false).bind fun t36 => some (t36)
set_option maxRecDepth 20000 in
theorem spec_l01Action_ok [dr : Dr] {w0 : World} {fuel : Nat} {a0 : Str} {r : Bool} (hm : spec_l01Action_m fuel a0 = some r) :
  Calls Tryz.prog 81 #[sv a0] w0 fun e w => e = .returned (.bool r) ∧ Heap w0 [] w := by
 unfold spec_l01Action_m at hm
 have H := Heap.start w0
 refine enter (args := [sv a0]) Tryz.func81 rfl 9 rfl (Nat.le_of_ble_eq_true rfl) (fun a S => ?_)
 refine wp_seq (region_plain ?_)
 refine lq (.bool false) S (q_assign rfl) fun a S => ?_
 refine lx_nil (thenN ?_)
 refine wp_seq (region_plain ?_)
 refine lq (sv a0) S (q_move rfl) fun a S => ?_
 obtain ⟨x33, e34, hm⟩ := bind_some hm
 refine lx_call (xs := [.tmp 3]) S trivial (by decide) rfl rfl Tryz.call96 ((spec_l01Name_ok  e34).mono ?_)
 rintro e w31 ⟨rfl, Hc32⟩
 have H := H.call0 Hc32
 refine ⟨_, rfl, trivial, fun a S => ?_⟩
 refine lq (.bool x33) S (q_move rfl) fun a S => ?_
 obtain ⟨t36, e37, hm⟩ := bind_some hm
 refine lx_cut 3 (fun a w => Slots a 9 [(8, (.bool t36))] ∧ Heap w0 [] w) ?_ ?_
 ·by_cases hc38 : x33 = true
  ·have hm := ite_t hc38 e37
   refine lx_q (sv a0) S (want_b rfl rfl hc38) (by decide) (q_move rfl) (fun a S => ?_)
   refine lx_q (.bool (a0 != ([116, 97, 117] : Str))) S (want_b rfl rfl hc38) (by decide) (q_sneq rfl rfl) (fun a S => ?_)
   refine lq (.bool (a0 != ([116, 97, 117] : Str))) S (q_pickT' rfl hc38 rfl) fun a S => ?_
   refine lx_nil ?_
   obtain rfl := Option.some.inj hm
   exact ⟨S.sub ⟨rfl, trivial⟩, H⟩
  ·have hm := ite_f (eq_false_of_ne_true hc38) e37
   have hc38 : x33 = false := eq_false_of_ne_true hc38
   refine lx_skip S rfl rfl (isB_ne hc38) (by decide) (fun a S => ?_)
   refine lx_skip S rfl rfl (isB_ne hc38) (by decide) (fun a S => ?_)
   refine lq (.bool false) S (q_pickF' rfl hc38 rfl) fun a S => ?_
   refine lx_nil ?_
   obtain rfl := Option.some.inj hm
   exact ⟨S.sub ⟨rfl, trivial⟩, H⟩
 ·rintro a w ⟨S, H⟩
  refine lq (.bool t36) S (q_assign rfl) fun a S => ?_
  refine lx_nil (thenN ?_)
  refine wp_ret ?_
  obtain rfl := Option.some.inj hm
  exact leave1 S rfl rfl ⟨rfl, H⟩

/-- spec.l01Split -/
def spec_l01Split_m (fuel : Nat) (a0 : Str) (a1 : Int) : Option ((List Str)) :=
  (iter (fun (s : (List Str) × (Int) × (Int)) => (match s with | (xs60, x62, x63) => (if (decide (x63 < (a0.length : Int))) = true then join (κ := List Str → Int → Option (((List Str) × (Int) × (Int)) ⊕ (((List Str) × Int) ⊕ ((List Str))))) (fun (xs113 : List Str) (x115 : Int) => some (.inl (xs113, x115, (W (x63 + (1 : Int)))))) (fun K116 => (idx a0 x63).bind fun b118 => (if ((b118.toNat : Int) == a1) = true then (sub a0 x62 x63).bind fun xs121 => (app xs60 [xs121]).bind fun x126 => (K116 x126 (W (x63 + (1 : Int)))) else (K116 xs60 x62))) else some (.inr (.inl (xs60, x62)))) : Option (((List Str) × (Int) × (Int)) ⊕ (((List Str) × Int) ⊕ ((List Str)))))) fuel (([] : List Str), (0 : Int), (0 : Int))).bind fun res93 => ctl (β := (List Str) × Int) (ρ := (List Str)) (τ := (List Str)) res93 (fun (xs90, x92) => (sub a0 x92 (a0.length : Int)).bind fun xs98 => (app xs90 [xs98]).bind fun x103 => some (x103)) (fun q => some (q))
set_option maxRecDepth 20000 in
theorem spec_l01Split_ok [dr : Dr] {w0 : World} {fuel : Nat} {a0 : Str} {a1 : Int} {r : (List Str)} (hm : spec_l01Split_m fuel a0 a1 = some r) :
  Calls Tryz.prog 98 #[sv a0, .int .u8 a1] w0 fun e w => ∃ (v0 : Value), e = .returned (v0) ∧ Heap w0 [oA (rList rStr) v0 r] w := by
 unfold spec_l01Split_m at hm
 have H := Heap.start w0
 refine enter (args := [sv a0, .int .u8 a1]) Tryz.func98 rfl 35 rfl (Nat.le_of_ble_eq_true rfl) (fun a S => ?_)
 refine wp_seq (region_plain ?_)
 refine lq (.slice none 0 0) S (q_assign rfl) fun a S => ?_
 refine lx_nil (thenN ?_)
 refine wp_seq (region_plain ?_)
 refine lx_buildSlice0 (r := rStr) S trivial (by decide) rfl H Tryz.underlying23 Tryz.sizeOf9 (fun v31 w32 H => ⟨trivial, fun a S => ?_⟩)
 refine lq v31 S (q_assign rfl) fun a S => ?_
 refine lx_nil (thenN ?_)
 refine wp_seq (region_plain ?_)
 refine lq (.int .i64 (0 : Int)) S (q_assign rfl) fun a S => ?_
 refine lx_nil (thenN ?_)
 refine wp_seq (wp_seq (region_plain ?_))
 refine lq (.int .i64 (0 : Int)) S (q_assign rfl) fun a S => ?_
 refine lx_nil (thenN ?_)
 obtain ⟨res93, hit94, hk97⟩ := bind_some hm
 obtain ⟨f95, hf96, hit94⟩ := iter_name hit94
 refine block_loop (fun a w => ∃ (xs90 : List Str) (x92 : Int) (v89 : Value), Slots a 35 [(0, (sv a0)), (5, v89), (6, (.int .i64 x92))] ∧ Heap w0 [oA (rList rStr) v89 xs90] w ∧ res93 = .inl (xs90, x92)) ?_ ?_
 ·rintro a w ⟨xs90, x92, v89, S, H, rfl⟩
  have hm := ctl_inl hk97
  refine thenN ?_
  refine wp_seq (region_plain ?_)
  refine lq v89 S (q_move rfl) fun a S => ?_
  refine lq (sv a0) S (q_move rfl) fun a S => ?_
  refine lq (.int .i64 x92) S (q_move rfl) fun a S => ?_
  obtain ⟨xs98, e99, hm⟩ := bind_some hm
  obtain ⟨hsb, hse⟩ := sub_some e99
  replace hse := hse.symm
  subst hse
  refine lq (sv ((a0.take ((a0.length : Int)).toNat).drop (x92).toNat)) S (q_ssub (lo := (some (.tmp 31))) (hi := none) (l := x92) (h := (a0.length : Int)) rfl Tryz.underlying9 rfl rfl hsb.1 hsb.2.1 hsb.2.2) fun a S => ?_
  refine lx_buildSlice (r := rStr) (xs := [((a0.take ((a0.length : Int)).toNat).drop (x92).toNat)]) (ps := [(0, [(sv ((a0.take ((a0.length : Int)).toNat).drop (x92).toNat))])]) (cs := [(sv ((a0.take ((a0.length : Int)).toNat).drop (x92).toNat))]) (parts := [(0, .tmp 32)]) S trivial (by decide) rfl (H.put0 (A := eA) rfl) rfl Tryz.underlying23 Tryz.sizeOf9 Tryz.zeroValue9 (by decide) ⟨rfl, rfl, Nat.le_of_ble_eq_true rfl, trivial⟩ (by intro zs hz; exact fill_dense hz ⟨rfl, trivial⟩ rfl rfl) rfl (by decide) (fun w F hA => by cases (show F = [] from hA); exact ⟨_, _, [(sv ((a0.take ((a0.length : Int)).toNat).drop (x92).toNat))], _, rfl, rfl, ⟨rfl, rfl⟩, ⟨rfl, rfl⟩⟩) (fun v100 w101 H => ⟨trivial, fun a S => ?_⟩)
  obtain ⟨x103, e104, hm⟩ := bind_some hm
  obtain ⟨hle, hap⟩ := app_some e104
  replace hap := hap.symm
  subst hap
  have H : Heap w0 [oA (rList rStr) v100 [((a0.take ((a0.length : Int)).toNat).drop (x92).toNat)], oA (rList rStr) v89 xs90] w101 := H.front 0 rfl
  have H : Heap w0 [oA (rList rStr) v89 xs90, oA (rList rStr) v100 [((a0.take ((a0.length : Int)).toNat).drop (x92).toNat)]] w101 := H.front 1 rfl
  refine lx_appendOwn (r := rStr) S trivial (by decide) rfl H rfl rfl Tryz.underlying23 Tryz.ti9 rfl rfl rfl (Nat.le_of_ble_eq_true rfl) (by decide) hle (fun v105 w106 H => ⟨trivial, fun a S => ?_⟩)
  refine lq v105 S (q_assign rfl) fun a S => ?_
  refine lx_nil (thenN ?_)
  refine wp_ret ?_
  obtain rfl := Option.some.inj hm
  exact leave1 S rfl rfl ⟨v105, rfl, H⟩
 ·skip
  refine loop_ghost (fun n a w => ∃ (xs60 : List Str) (x62 : Int) (x63 : Int) (v59 : Value), Slots a 35 [(0, (sv a0)), (1, (.int .u8 a1)), (5, v59), (6, (.int .i64 x62)), (7, (.int .i64 x63))] ∧ Heap w0 [oA (rList rStr) v59 xs60] w ∧ iter f95 n (xs60, x62, x63) = some res93) _ ⟨([] : List Str), (0 : Int), (0 : Int), v31, S.sub ⟨rfl, rfl, rfl, rfl, rfl, trivial⟩, H, hit94⟩ ?_
  rintro n a w ⟨xs60, x62, x63, v59, S, H, hit94⟩
  obtain ⟨m108, o109, rfl, hm, hc110⟩ := iter_step hit94
  rw [hf96] at hm
  refine wp_seq (wp_seq (region_plain ?_))
  refine lq (.int .i64 x63) S (q_move rfl) fun a S => ?_
  refine lq (sv a0) S (q_move rfl) fun a S => ?_
  refine lq (.int .i64 (a0.length : Int)) S (q_lenStr rfl rfl Tryz.underlying9) fun a S => ?_
  refine lq (.bool (decide (x63 < (a0.length : Int)))) S (q_lss rfl rfl) fun a S => ?_
  refine lx_nil (thenN ?_)
  refine cond_b S rfl (fun hc111 => ?_) (fun hc111 => ?_)
  ·have hm := ite_t hc111 hm
   refine wp_skip (thenN ?_)
   obtain ⟨K116, hK117, hm⟩ := join_elim hm
   refine seq_cut (fun a w => ∃ (xs113 : List Str) (x115 : Int) (v112 : Value), Slots a 35 [(0, (sv a0)), (1, (.int .u8 a1)), (5, v112), (6, (.int .i64 x115)), (7, (.int .i64 x63))] ∧ Heap w0 [oA (rList rStr) v112 xs113] w ∧ K116 xs113 x115 = some o109) ?_ ?_
   ·rintro a w ⟨xs113, x115, v112, S, H, hm⟩
    subst hK117
    refine region_plain ?_
    refine lq (.int .i64 x63) S (q_move rfl) fun a S => ?_
    refine lq (.int .i64 (W (x63 + (1 : Int)))) S (q_add rfl rfl) fun a S => ?_
    refine lq (.int .i64 (W (x63 + (1 : Int)))) S (q_assign rfl) fun a S => ?_
    refine lx_nil ?_
    exact ⟨m108, Nat.lt_succ_self _, xs113, x115, (W (x63 + (1 : Int))), v112, S.sub ⟨rfl, rfl, rfl, rfl, rfl, trivial⟩, H, it_cont hm hc110⟩
   ·skip
    refine wp_block ?_
    refine wp_seq (region_plain ?_)
    refine lq (sv a0) S (q_move rfl) fun a S => ?_
    refine lq (.int .i64 x63) S (q_move rfl) fun a S => ?_
    obtain ⟨b118, e119, hm⟩ := bind_some hm
    refine lq (.int .u8 (b118.toNat : Int)) S (q_sidx rfl rfl Tryz.underlying9 e119) fun a S => ?_
    refine lq (.int .u8 a1) S (q_move rfl) fun a S => ?_
    refine lq (.bool ((b118.toNat : Int) == a1)) S (q_eql rfl rfl) fun a S => ?_
    refine lx_nil (thenN ?_)
    refine cond_b S rfl (fun hc120 => ?_) (fun hc120 => ?_)
    ·have hm := ite_t hc120 hm
     refine wp_seq (region_plain ?_)
     refine lq v59 S (q_move rfl) fun a S => ?_
     refine lq (sv a0) S (q_move rfl) fun a S => ?_
     refine lq (.int .i64 x62) S (q_move rfl) fun a S => ?_
     refine lq (.int .i64 x63) S (q_move rfl) fun a S => ?_
     obtain ⟨xs121, e122, hm⟩ := bind_some hm
     obtain ⟨hsb, hse⟩ := sub_some e122
     replace hse := hse.symm
     subst hse
     refine lq (sv ((a0.take (x63).toNat).drop (x62).toNat)) S (q_ssub (lo := (some (.tmp 22))) (hi := (some (.tmp 23))) (l := x62) (h := x63) rfl Tryz.underlying9 rfl rfl hsb.1 hsb.2.1 hsb.2.2) fun a S => ?_
     refine lx_buildSlice (r := rStr) (xs := [((a0.take (x63).toNat).drop (x62).toNat)]) (ps := [(0, [(sv ((a0.take (x63).toNat).drop (x62).toNat))])]) (cs := [(sv ((a0.take (x63).toNat).drop (x62).toNat))]) (parts := [(0, .tmp 24)]) S trivial (by decide) rfl (H.put0 (A := eA) rfl) rfl Tryz.underlying23 Tryz.sizeOf9 Tryz.zeroValue9 (by decide) ⟨rfl, rfl, Nat.le_of_ble_eq_true rfl, trivial⟩ (by intro zs hz; exact fill_dense hz ⟨rfl, trivial⟩ rfl rfl) rfl (by decide) (fun w F hA => by cases (show F = [] from hA); exact ⟨_, _, [(sv ((a0.take (x63).toNat).drop (x62).toNat))], _, rfl, rfl, ⟨rfl, rfl⟩, ⟨rfl, rfl⟩⟩) (fun v123 w124 H => ⟨trivial, fun a S => ?_⟩)
     obtain ⟨x126, e127, hm⟩ := bind_some hm
     obtain ⟨hle, hap⟩ := app_some e127
     replace hap := hap.symm
     subst hap
     have H : Heap w0 [oA (rList rStr) v123 [((a0.take (x63).toNat).drop (x62).toNat)], oA (rList rStr) v59 xs60] w124 := H.front 0 rfl
     have H : Heap w0 [oA (rList rStr) v59 xs60, oA (rList rStr) v123 [((a0.take (x63).toNat).drop (x62).toNat)]] w124 := H.front 1 rfl
     refine lx_appendOwn (r := rStr) S trivial (by decide) rfl H rfl rfl Tryz.underlying23 Tryz.ti9 rfl rfl rfl (Nat.le_of_ble_eq_true rfl) (by decide) hle (fun v128 w129 H => ⟨trivial, fun a S => ?_⟩)
     refine lq v128 S (q_assign rfl) fun a S => ?_
     refine lx_nil (thenN ?_)
     refine region_plain ?_
     refine lq (.int .i64 x63) S (q_move rfl) fun a S => ?_
     refine lq (.int .i64 (W (x63 + (1 : Int)))) S (q_add rfl rfl) fun a S => ?_
     refine lq (.int .i64 (W (x63 + (1 : Int)))) S (q_assign rfl) fun a S => ?_
     refine lx_nil ?_
     refine inBlock_norm ?_
     exact ⟨(xs60 ++ [((a0.take (x63).toNat).drop (x62).toNat)]), (W (x63 + (1 : Int))), v128, S.sub ⟨rfl, rfl, rfl, rfl, rfl, trivial⟩, H, hm⟩
    ·have hm := ite_f hc120 hm
     refine wp_skip ?_
     refine inBlock_norm ?_
     exact ⟨xs60, x62, v59, S.sub ⟨rfl, rfl, rfl, rfl, rfl, trivial⟩, H, hm⟩
  ·have hm := ite_f hc111 hm
   refine wp_exit ?_
   refine then_exit ?_
   refine then_exit ?_
   refine inBlock_exit ?_
   obtain rfl := it_brk hm hc110
   exact ⟨xs60, x62, v59, S.sub ⟨rfl, rfl, rfl, trivial⟩, H, rfl⟩
end Go.Proofs.YtnkpniekdipgaaaGreatDoor
