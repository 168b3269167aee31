/- The models of some functions and their walks (printed by a program of this repo). -/
import Derived.Test.YtkgkfbmcnchdbaaGreatDoorF0
import Derived.Test.YtkgkfbmcnchdbaaGreatDoorF6
import Derived.Test.YtkgkfbmcnchdbaaGreatDoorF8
import Derived.Test.YtkgkfbmcnchdbaaGreatDoorGxT
import Derived.Test.YtkgkfbmcnchdbaaGreatDoorGxY
namespace Go.Proofs.YtkgkfbmcnchdbaaGreatDoor
open Go.RowKit Go.Gx

/-- spec.l15Inert -/
def spec_l15Inert_m (_ : Nat) (a0 : Timpl_Edge) (a1 : (List Int)) : Option (Bool) :=
  (if (a0.2.1 == (0 : Int)) = true then (idx a1 a0.1).bind fun x47 => (idx a1 a0.2.2).bind fun x52 => some (x47 == x52) else some false).bind fun t44 => some (t44)
set_option maxRecDepth 20000 in
theorem spec_l15Inert_ok {w0 : World} {fuel : Nat} {p0 p1 : Value} {a0 : Timpl_Edge} {a1 : (List Int)} {r : Bool} (h0 : Rd (rPtr Rimpl_Edge) w0 p0 a0) (h1 : Rd (rList (rInt .i64)) w0 p1 a1) (hm : spec_l15Inert_m fuel a0 a1 = some r) :
  Calls Tryz.prog 91 #[p0, p1] w0 fun e w => e = .returned (.bool r) ∧ Heap w0 [] w := by
 unfold spec_l15Inert_m at hm
 have H := Heap.start w0
 obtain ⟨c31, h32, hat33⟩ := h0.ptr
 obtain ⟨c34, c35, rfl, h36, h37⟩ := h32
 obtain rfl := h36
 obtain ⟨c38, c39, rfl, h40, h41⟩ := h37
 obtain rfl := h40
 obtain rfl := h41
 refine enter (args := [p0, p1]) Tryz.func91 rfl 27 rfl (Nat.le_of_ble_eq_true rfl) (fun a S => ?_)
 refine wp_seq (region_plain ?_)
 refine lq (.bool false) S (q_assign rfl) fun a S => ?_
 refine lx_nil (thenN ?_)
 refine wp_seq ?_
 refine region_drawG (fun w1 => Heap w0 [] w1) (fun i => [].contains i) mixed (by kernel_rfl) (fun w43 he42 => ?_)
 have H := H.later he42
 refine ⟨H.sel [] (by decide), ?_⟩
 refine lq p0 S (q_move rfl) fun a S => ?_
 refine lq p0 S (q_nilCheck rfl ((hat33 0 _ rfl).isP)) fun a S => ?_
 refine lq (pAdd p0 1) S (q_fieldAddr' 1 2 rfl ((hat33 0 _ rfl).isP) Tryz.underlying72 rfl Tryz.sizeOf2) fun a S => ?_
 refine lq (.int .i64 a0.2.1) S (q_load1 rfl Tryz.isAgg2 (fun w1 hC => (At.of_add (m := 1) (j := 0) ((hat33 1 _ rfl).ext hC.ext)))) fun a S => ?_
 refine lq (.bool (a0.2.1 == (0 : Int))) S (q_eql rfl rfl) fun a S => ?_
 refine lq (.bool (a0.2.1 == (0 : Int))) S (q_move rfl) fun a S => ?_
 obtain ⟨t44, e45, hm⟩ := bind_some hm
 refine lx_cut 16 (fun a w => Slots a 27 [(26, (.bool t44))] ∧ Heap w0 [] w) ?_ ?_
 ·by_cases hc46 : (a0.2.1 == (0 : Int)) = true
  ·have hm := ite_t hc46 e45
   refine lx_q p1 S (want_b rfl rfl hc46) (by decide) (q_move rfl) (fun a S => ?_)
   refine lx_q p0 S (want_b rfl rfl hc46) (by decide) (q_move rfl) (fun a S => ?_)
   refine lx_q p0 S (want_b rfl rfl hc46) (by decide) (q_nilCheck rfl ((hat33 0 _ rfl).isP)) (fun a S => ?_)
   refine lx_q (pAdd p0 0) S (want_b rfl rfl hc46) (by decide) (q_fieldAddr' 0 2 rfl ((hat33 0 _ rfl).isP) Tryz.underlying72 rfl Tryz.sizeOf2) (fun a S => ?_)
   refine lx_q (.int .i64 a0.1) S (want_b rfl rfl hc46) (by decide) (q_load1 rfl Tryz.isAgg2 (fun w1 hC => (At.of_add (m := 0) (j := 0) ((hat33 0 _ rfl).ext hC.ext)))) (fun a S => ?_)
   obtain ⟨x47, e48, hm⟩ := bind_some hm
   obtain ⟨c49, h50, hat51⟩ := (h1).elem (idx_some e48).2
   obtain rfl := h50
   have hlt := lt_of_idx (idx_some e48).2
   refine lx_q (ePtr p1 (a0.1.toNat * 1)) S (want_b rfl rfl hc46) (by decide) (q_indexAddr rfl (h1).isSl rfl (idx_some e48).1 hlt Tryz.underlying34 Tryz.sizeOf2) (fun a S => ?_)
   refine lx_q (.int .i64 x47) S (want_b rfl rfl hc46) (by decide) (q_load1 rfl Tryz.isAgg2 (fun w1 hC => ((hat51 0 _ rfl).ext hC.ext))) (fun a S => ?_)
   refine lx_q p1 S (want_b rfl rfl hc46) (by decide) (q_move rfl) (fun a S => ?_)
   refine lx_q p0 S (want_b rfl rfl hc46) (by decide) (q_move rfl) (fun a S => ?_)
   refine lx_q p0 S (want_b rfl rfl hc46) (by decide) (q_nilCheck rfl ((hat33 0 _ rfl).isP)) (fun a S => ?_)
   refine lx_q (pAdd p0 2) S (want_b rfl rfl hc46) (by decide) (q_fieldAddr' 2 2 rfl ((hat33 0 _ rfl).isP) Tryz.underlying72 rfl Tryz.sizeOf2) (fun a S => ?_)
   refine lx_q (.int .i64 a0.2.2) S (want_b rfl rfl hc46) (by decide) (q_load1 rfl Tryz.isAgg2 (fun w1 hC => (At.of_add (m := 2) (j := 0) ((hat33 2 _ rfl).ext hC.ext)))) (fun a S => ?_)
   obtain ⟨x52, e53, hm⟩ := bind_some hm
   obtain ⟨c54, h55, hat56⟩ := (h1).elem (idx_some e53).2
   obtain rfl := h55
   have hlt := lt_of_idx (idx_some e53).2
   refine lx_q (ePtr p1 (a0.2.2.toNat * 1)) S (want_b rfl rfl hc46) (by decide) (q_indexAddr rfl (h1).isSl rfl (idx_some e53).1 hlt Tryz.underlying34 Tryz.sizeOf2) (fun a S => ?_)
   refine lx_q (.int .i64 x52) S (want_b rfl rfl hc46) (by decide) (q_load1 rfl Tryz.isAgg2 (fun w1 hC => ((hat56 0 _ rfl).ext hC.ext))) (fun a S => ?_)
   refine lx_q (.bool (x47 == x52)) S (want_b rfl rfl hc46) (by decide) (q_eql rfl rfl) (fun a S => ?_)
   refine lq (.bool (x47 == x52)) S (q_pickT' rfl hc46 rfl) fun a S => ?_
   refine lx_nil ?_
   obtain rfl := Option.some.inj hm
   exact ⟨S.sub ⟨rfl, trivial⟩, H⟩
  ·have hm := ite_f (eq_false_of_ne_true hc46) e45
   have hc46 : (a0.2.1 == (0 : Int)) = false := eq_false_of_ne_true hc46
   refine lx_skip S rfl rfl (isB_ne hc46) (by decide) (fun a S => ?_)
   refine lx_skip S rfl rfl (isB_ne hc46) (by decide) (fun a S => ?_)
   refine lx_skip S rfl rfl (isB_ne hc46) (by decide) (fun a S => ?_)
   refine lx_skip S rfl rfl (isB_ne hc46) (by decide) (fun a S => ?_)
   refine lx_skip S rfl rfl (isB_ne hc46) (by decide) (fun a S => ?_)
   refine lx_skip S rfl rfl (isB_ne hc46) (by decide) (fun a S => ?_)
   refine lx_skip S rfl rfl (isB_ne hc46) (by decide) (fun a S => ?_)
   refine lx_skip S rfl rfl (isB_ne hc46) (by decide) (fun a S => ?_)
   refine lx_skip S rfl rfl (isB_ne hc46) (by decide) (fun a S => ?_)
   refine lx_skip S rfl rfl (isB_ne hc46) (by decide) (fun a S => ?_)
   refine lx_skip S rfl rfl (isB_ne hc46) (by decide) (fun a S => ?_)
   refine lx_skip S rfl rfl (isB_ne hc46) (by decide) (fun a S => ?_)
   refine lx_skip S rfl rfl (isB_ne hc46) (by decide) (fun a S => ?_)
   refine lx_skip S rfl rfl (isB_ne hc46) (by decide) (fun a S => ?_)
   refine lx_skip S rfl rfl (isB_ne hc46) (by decide) (fun a S => ?_)
   refine lq (.bool false) S (q_pickF' rfl hc46 rfl) fun a S => ?_
   refine lx_nil ?_
   obtain rfl := Option.some.inj hm
   exact ⟨S.sub ⟨rfl, trivial⟩, H⟩
 ·rintro a w ⟨S, H⟩
  refine lq (.bool t44) S (q_assign rfl) fun a S => ?_
  refine lx_nil (thenN ?_)
  refine wp_ret ?_
  obtain rfl := Option.some.inj hm
  exact leave1 S rfl rfl ⟨rfl, H⟩

/-- slices.IndexFunc[[]impl.Edge,impl.Edge] -/
def slices_IndexFunc__impl_Edge_impl_Edge_m (fuel : Nat) (a0 : (List Timpl_Edge)) (a1 : (Timpl_Edge → Option Bool)) : Option (Int) :=
  (iter (fun (s : (Int)) => (match s with | (x54) => (if (decide (x54 < (a0.length : Int))) = true then (idx a0 x54).bind fun x87 => (a1 (x87.1, x87.2.1, x87.2.2)).bind fun x104 => (if x104 = true then some (.inr (.inr x54)) else some (.inl ((W (x54 + (1 : Int)))))) else some (.inr (.inl ()))) : Option (((Int)) ⊕ ((Unit) ⊕ (Int))))) fuel ((0 : Int))).bind fun res78 => ctl (β := Unit) (ρ := Int) (τ := Int) res78 (fun _ => some ((-1 : Int))) (fun q => some (q))
set_option maxRecDepth 20000 in
theorem slices_IndexFunc__impl_Edge_impl_Edge_ok {w0 : World} {fuel : Nat} {p0 : Value} {a0 : (List Timpl_Edge)} {a1 : (Timpl_Edge → Option Bool)} {f1 : Nat} {fs1 cp1 : List Value} {r : Int} (h0 : Rd (rList Rimpl_Edge) w0 p0 a0) (hcf1 : ∀ args w, (callFunc f1 args).run Tryz.prog w = .ok (.enter f1 args) w) (hf1 : ∀ {w : World} {x0_ : Timpl_Edge} {v0_ : Value} {y : Bool}, Ext w0 w → Rd Rimpl_Edge w v0_ x0_ → a1 x0_ = some y → Calls Tryz.prog f1 (fs1 ++ ([v0_] : List Value) ++ cp1).toArray w fun e w' => e = .returned (.bool y) ∧ Heap w [] w') (hm : slices_IndexFunc__impl_Edge_impl_Edge_m fuel a0 a1 = some r) :
  Calls Tryz.prog 142 #[p0, .func (.func f1) fs1.toArray cp1.toArray] w0 fun e w => e = .returned (.int .i64 r) ∧ Heap w0 [] w := by
 unfold slices_IndexFunc__impl_Edge_impl_Edge_m at hm
 have H := Heap.start w0
 refine enter (args := [p0, .func (.func f1) fs1.toArray cp1.toArray]) Tryz.func142 rfl 19 rfl (Nat.le_of_ble_eq_true rfl) (fun a S => ?_)
 refine wp_seq (region_plain ?_)
 refine lq (.int .i64 (0 : Int)) S (q_assign rfl) fun a S => ?_
 refine lx_nil (thenN ?_)
 refine wp_seq (wp_seq (region_plain ?_))
 refine lq p0 S (q_move rfl) fun a S => ?_
 refine lq (.int .i64 (a0.length : Int)) S (q_lenSl rfl (h0).isSl rfl Tryz.underlying28) fun a S => ?_
 refine lq (.int .i64 (0 : Int)) S (q_move rfl) fun a S => ?_
 refine lx_nil (thenN ?_)
 obtain ⟨res78, hit79, hk82⟩ := bind_some hm
 obtain ⟨f80, hf81, hit79⟩ := iter_name hit79
 refine block_loop (fun a w => Slots a 19 [] ∧ Heap w0 [] w ∧ res78 = .inl ()) ?_ ?_
 ·rintro a w ⟨S, H, rfl⟩
  have hm := ctl_inl hk82
  refine thenN ?_
  refine wp_seq (region_plain ?_)
  refine lq (.int .i64 (-1 : Int)) S (q_assign rfl) fun a S => ?_
  refine lx_nil (thenN ?_)
  refine wp_ret ?_
  obtain rfl := Option.some.inj hm
  exact leave1 S rfl rfl ⟨rfl, H⟩
 ·skip
  refine loop_ghost (fun n a w => ∃ (x54 : Int), Slots a 19 [(0, p0), (1, (.func (.func f1) fs1.toArray cp1.toArray)), (7, (.int .i64 (a0.length : Int))), (8, (.int .i64 x54))] ∧ Heap w0 [] w ∧ iter f80 n (x54) = some res78) _ ⟨(0 : Int), S.sub ⟨rfl, rfl, rfl, rfl, trivial⟩, H, hit79⟩ ?_
  rintro n a w ⟨x54, S, H, hit79⟩
  obtain ⟨m83, o84, rfl, hm, hc85⟩ := iter_step hit79
  rw [hf81] at hm
  refine wp_seq (region_plain ?_)
  refine lq (.bool (decide (x54 < (a0.length : Int)))) S (q_lss rfl rfl) fun a S => ?_
  refine lx_nil (thenN ?_)
  refine wp_seq ?_
  refine cond_b S rfl (fun hc86 => ?_) (fun hc86 => ?_)
  ·have hm := ite_t hc86 hm
   refine wp_skip (thenN ?_)
   refine wp_seq ?_
   refine wp_block ?_
   refine wp_seq (region_plain ?_)
   refine lq (.int .i64 x54) S (q_move rfl) fun a S => ?_
   refine lq (.int .i64 x54) S (q_assign rfl) fun a S => ?_
   refine lx_nil (thenN ?_)
   refine wp_seq (region_plain ?_)
   refine lq (.func (.func f1) fs1.toArray cp1.toArray) S (q_move rfl) fun a S => ?_
   refine lq p0 S (q_move rfl) fun a S => ?_
   refine lq (.int .i64 x54) S (q_move rfl) fun a S => ?_
   obtain ⟨x87, e88, hm⟩ := bind_some hm
   obtain ⟨c89, h90, hat91⟩ := (h0).elem (idx_some e88).2
   obtain ⟨c92, c93, rfl, h94, h95⟩ := h90
   obtain rfl := h94
   obtain ⟨c96, c97, rfl, h98, h99⟩ := h95
   obtain rfl := h98
   obtain rfl := h99
   have hlt := lt_of_idx (idx_some e88).2
   refine lq (ePtr p0 (x54.toNat * 3)) S (q_indexAddr rfl (h0).isSl rfl (idx_some e88).1 hlt Tryz.underlying28 Tryz.sizeOf72) fun a S => ?_
   refine lx_e (.agg #[(.int .i64 x87.1), (.int .i64 x87.2.1), (.int .i64 x87.2.2)]) S trivial (by decide) rfl trivial (q_loadA (cs := [(.int .i64 x87.1), (.int .i64 x87.2.1), (.int .i64 x87.2.2)]) rfl ((hat91 0 _ rfl).isP) Tryz.isAgg72 Tryz.sizeOf72 (by rintro _ rfl; exact (fun j u hu => (hat91 j u hu).ext H.ext))) (fun a S => ?_)
   obtain ⟨x104, e105, hm⟩ := bind_some hm
   refine lx_callV (f := f1) (first := fs1) (cap := cp1) (xs := [.tmp 15]) S trivial (by decide) rfl rfl rfl hcf1 ((hf1 H.ext ⟨[(.int .i64 x87.1), (.int .i64 x87.2.1), (.int .i64 x87.2.2)], rfl, ⟨[(.int .i64 x87.1)], [(.int .i64 x87.2.1), (.int .i64 x87.2.2)], rfl, rfl, ⟨[(.int .i64 x87.2.1)], [(.int .i64 x87.2.2)], rfl, rfl, rfl⟩⟩⟩ e105).mono ?_)
   rintro e w102 ⟨rfl, Hc103⟩
   have H := H.call0 Hc103
   refine ⟨_, rfl, trivial, fun a S => ?_⟩
   refine lx_nil (thenN ?_)
   refine cond_b S rfl (fun hc107 => ?_) (fun hc107 => ?_)
   ·have hm := ite_t hc107 hm
    refine wp_seq (region_plain ?_)
    refine lq (.int .i64 x54) S (q_move rfl) fun a S => ?_
    refine lq (.int .i64 x54) S (q_assign rfl) fun a S => ?_
    refine lx_nil (thenN ?_)
    refine wp_ret (inBlock_ret ?_)
    refine then_ret ?_
    refine then_ret ?_
    refine inBlock_ret ?_
    refine then_ret ?_
    refine then_ret ?_
    obtain rfl := it_brk hm hc85
    have hm := ctl_inr hk82
    obtain rfl := Option.some.inj hm
    exact leave1 S rfl rfl ⟨rfl, H⟩
   ·have hm := ite_f hc107 hm
    refine wp_skip ?_
    refine inBlock_norm ?_
    refine thenN ?_
    refine region_plain ?_
    refine lq (.int .i64 (W (x54 + (1 : Int)))) S (q_add rfl rfl) fun a S => ?_
    refine lq (.int .i64 (W (x54 + (1 : Int)))) S (q_move rfl) fun a S => ?_
    refine lx_nil ?_
    exact ⟨m83, Nat.lt_succ_self _, (W (x54 + (1 : Int))), S.sub ⟨rfl, rfl, rfl, rfl, trivial⟩, H, it_cont hm hc85⟩
  ·have hm := ite_f hc86 hm
   refine wp_exit ?_
   refine then_exit ?_
   refine then_exit ?_
   refine inBlock_exit ?_
   obtain rfl := it_brk hm hc85
   exact ⟨S.sub trivial, H, rfl⟩

/-- spec.l11Reach -/
def spec_l11Reach_m (fuel : Nat) (a0 : Timpl_Lts) : Option ((List Int)) :=
  (mks a0.1 false).bind fun x50 => (idx x50 a0.2.1).bind fun _ => (iter (fun (s : (List Bool) × (Bool)) => (match s with | (xs264, x265) => (if x265 = true then (iter (fun (s : (List Bool) × (Bool) × (Int)) => (match s with | (xs631, x632, x633) => (if (decide (x633 < (a0.2.2.2.length : Int))) = true then join (κ := List Bool → Bool → Option (((List Bool) × (Bool) × (Int)) ⊕ (((List Bool) × Bool) ⊕ ((List Int))))) (fun (xs709 : List Bool) (x710 : Bool) => some (.inl (xs709, x710, (W (x633 + (1 : Int)))))) (fun K711 => (idx a0.2.2.2 x633).bind fun x713 => (idx xs631 x713.1).bind fun x726 => (if x726 = true then (idx a0.2.2.2 x633).bind fun x734 => (idx xs631 x734.2.2).bind fun x747 => some (!x747) else some false).bind fun t731 => (if t731 = true then (idx a0.2.2.2 x633).bind fun x753 => (idx xs631 x753.2.2).bind fun _ => (K711 (xs631.set x753.2.2.toNat true) true) else (K711 xs631 x632))) else some (.inr (.inl (xs631, x632)))) : Option (((List Bool) × (Bool) × (Int)) ⊕ (((List Bool) × Bool) ⊕ ((List Int)))))) fuel (xs264, false, (0 : Int))).bind fun res700 => ctl (β := (List Bool) × Bool) (ρ := (List Int)) (τ := (((List Bool) × (Bool)) ⊕ (((List Bool)) ⊕ ((List Int))))) res700 (fun (xs698, x699) => some (.inl (xs698, x699))) (fun q => some (.inr (.inr q))) else some (.inr (.inl (xs264)))) : Option (((List Bool) × (Bool)) ⊕ (((List Bool)) ⊕ ((List Int)))))) fuel ((x50.set a0.2.1.toNat true), true)).bind fun res472 => ctl (β := (List Bool)) (ρ := (List Int)) (τ := (List Int)) res472 (fun (xs471) => (iter (fun (s : (List Int) × (Int)) => (match s with | (xs505, x507) => (if (decide (x507 < a0.1)) = true then join (κ := List Int → Option (((List Int) × (Int)) ⊕ (((List Int)) ⊕ ((List Int))))) (fun (xs545 : List Int) => some (.inl (xs545, (W (x507 + (1 : Int)))))) (fun K547 => (idx xs471 x507).bind fun x549 => (if x549 = true then (app xs505 [x507]).bind fun x558 => (K547 x558) else (K547 xs505))) else some (.inr (.inl (xs505)))) : Option (((List Int) × (Int)) ⊕ (((List Int)) ⊕ ((List Int)))))) fuel (([] : List Int), (0 : Int))).bind fun res535 => ctl (β := (List Int)) (ρ := (List Int)) (τ := (List Int)) res535 (fun (xs533) => some (xs533)) (fun q => some (q))) (fun q => some (q))
set_option maxRecDepth 20000 in
theorem spec_l11Reach_ok {w0 : World} {fuel : Nat} {p0 : Value} {a0 : Timpl_Lts} {r : (List Int)} (h0 : Rd (rPtr Rimpl_Lts) w0 p0 a0) (hm : spec_l11Reach_m fuel a0 = some r) :
  Calls Tryz.prog 98 #[p0] w0 fun e w => ∃ (v0 : Value), e = .returned (v0) ∧ Heap w0 [oA (rList (rInt .i64)) v0 r] w := by
 unfold spec_l11Reach_m at hm
 have H := Heap.start w0
 obtain ⟨c31, h32, hat33⟩ := h0.ptr
 obtain ⟨c38, c39, rfl, h40, h41⟩ := h32
 obtain rfl := h40
 obtain ⟨c42, c43, rfl, h44, h45⟩ := h41
 obtain rfl := h44
 obtain ⟨c46, c47, rfl, h48, h49⟩ := h45
 obtain ⟨v34, rfl, h35⟩ := rd_list h48
 obtain ⟨v36, rfl, h37⟩ := rd_list h49
 refine enter (args := [p0]) Tryz.func98 rfl 82 rfl (Nat.le_of_ble_eq_true rfl) (fun a S => ?_)
 refine wp_seq (region_plain ?_)
 refine lq (.slice none 0 0) S (q_assign rfl) fun a S => ?_
 refine lx_nil (thenN ?_)
 refine wp_seq (region_plain ?_)
 refine lq p0 S (q_move rfl) fun a S => ?_
 refine lq p0 S (q_nilCheck rfl ((hat33 0 _ rfl).isP)) fun a S => ?_
 refine lq (pAdd p0 0) S (q_fieldAddr' 0 2 rfl ((hat33 0 _ rfl).isP) Tryz.underlying30 rfl Tryz.sizeOf2) fun a S => ?_
 refine lx_e (.int .i64 a0.1) S trivial (by decide) rfl trivial (q_load1 rfl Tryz.isAgg2 (by rintro _ rfl; exact (At.of_add (m := 0) (j := 0) ((hat33 0 _ rfl).ext H.ext)))) (fun a S => ?_)
 obtain ⟨x50, e51, hm⟩ := bind_some hm
 obtain ⟨m52, hn, hn2, rfl⟩ := mks_some e51
 refine lx_make (r := rBool) (z0 := false) (n := m52) S trivial (by decide) rfl H (by rw [← hn]; rfl) (by rw [← hn]; rfl) Tryz.underlying93 (Tryz.ti4) rfl rfl (by decide) (fun w => ⟨rfl, rfl⟩) hn2 (by decide) (fun v53 w54 H => ⟨trivial, fun a S => ?_⟩)
 refine lq v53 S (q_assign rfl) fun a S => ?_
 refine lx_nil (thenN ?_)
 refine wp_seq (region_plain ?_)
 refine lq v53 S (q_move rfl) fun a S => ?_
 refine lq p0 S (q_move rfl) fun a S => ?_
 refine lq p0 S (q_nilCheck rfl ((hat33 0 _ rfl).isP)) fun a S => ?_
 refine lq (pAdd p0 1) S (q_fieldAddr' 1 2 rfl ((hat33 0 _ rfl).isP) Tryz.underlying30 rfl Tryz.sizeOf2) fun a S => ?_
 refine lx_e (.int .i64 a0.2.1) S trivial (by decide) rfl trivial (q_load1 rfl Tryz.isAgg2 (by rintro _ rfl; exact (At.of_add (m := 1) (j := 0) ((hat33 1 _ rfl).ext H.ext)))) (fun a S => ?_)
 obtain ⟨x56, e57, hm⟩ := bind_some hm
 have hlt := lt_of_idx (idx_some e57).2
 refine lq (ePtr v53 (a0.2.1.toNat * 1)) S (q_indexAddr rfl (H.isSl 0 rfl) rfl (idx_some e57).1 hlt Tryz.underlying93 Tryz.sizeOf4) fun a S => ?_
 refine lx_storeElem (r := rBool) (us := [(.bool true)]) (off := 0) (e' := true) S trivial rfl H.putE (ev_zero rfl) rfl (idx_some e57).2 rfl Tryz.sizeOf4 (Nat.le_of_ble_eq_true rfl) (List.forall_mem_cons.2 ⟨rfl, (fun _ h => nomatch h)⟩) (Upd.full rfl (fun w G hG => by cases (show G = [] from hG); exact ⟨rfl, rfl⟩)) (fun w58 H => ⟨trivial, fun a S => ?_⟩)
 refine lx_nil (thenN ?_)
 refine wp_seq (wp_seq (region_plain ?_))
 refine lq (.bool true) S (q_assign rfl) fun a S => ?_
 refine lx_nil (thenN ?_)
 obtain ⟨res472, hit473, hk476⟩ := bind_some hm
 obtain ⟨f474, hf475, hit473⟩ := iter_name hit473
 refine block_loop (fun a w => ∃ (xs471 : List Bool), Slots a 82 [(0, p0), (3, v53)] ∧ Heap w0 [oA (rList rBool) v53 xs471] w ∧ res472 = .inl (xs471)) ?_ ?_
 ·rintro a w ⟨xs471, S, H, rfl⟩
  have hm := ctl_inl hk476
  refine thenN ?_
  refine wp_seq (region_plain ?_)
  refine lx_buildSlice0 (r := (rInt .i64)) S trivial (by decide) rfl H Tryz.underlying34 Tryz.sizeOf2 (fun v477 w478 H => ⟨trivial, fun a S => ?_⟩)
  refine lq v477 S (q_assign rfl) fun a S => ?_
  refine lx_nil (thenN ?_)
  refine wp_seq (wp_seq (region_plain ?_))
  refine lq (.int .i64 (0 : Int)) S (q_assign rfl) fun a S => ?_
  refine lx_nil (thenN ?_)
  obtain ⟨res535, hit536, hk539⟩ := bind_some hm
  obtain ⟨f537, hf538, hit536⟩ := iter_name hit536
  refine block_loop (fun a w => ∃ (xs533 : List Int) (v532 : Value), Slots a 82 [(6, v532)] ∧ Heap w0 [oA (rList (rInt .i64)) v532 xs533] w ∧ res535 = .inl (xs533)) ?_ ?_
  ·rintro a w ⟨xs533, v532, S, H, rfl⟩
   have hm := ctl_inl hk539
   refine thenN ?_
   refine wp_seq (region_plain ?_)
   refine lq v532 S (q_move rfl) fun a S => ?_
   refine lq v532 S (q_assign rfl) fun a S => ?_
   refine lx_nil (thenN ?_)
   refine wp_ret ?_
   obtain rfl := Option.some.inj hm
   exact leave1 S rfl rfl ⟨v532, rfl, H⟩
  ·skip
   have H : Heap w0 [oA (rList rBool) v53 xs471, oA (rList (rInt .i64)) v477 ([] : List Int)] w478 := H.front 1 rfl
   refine loop_ghost (fun n a w => ∃ (xs505 : List Int) (x507 : Int) (v504 : Value), Slots a 82 [(0, p0), (3, v53), (6, v504), (7, (.int .i64 x507))] ∧ Heap w0 [oA (rList rBool) v53 xs471, oA (rList (rInt .i64)) v504 xs505] w ∧ iter f537 n (xs505, x507) = some res535) _ ⟨([] : List Int), (0 : Int), v477, S.sub ⟨rfl, rfl, rfl, rfl, trivial⟩, H, hit536⟩ ?_
   rintro n a w ⟨xs505, x507, v504, S, H, hit536⟩
   obtain ⟨m540, o541, rfl, hm, hc542⟩ := iter_step hit536
   rw [hf538] at hm
   refine wp_seq (wp_seq (region_plain ?_))
   refine lq (.int .i64 x507) S (q_move rfl) fun a S => ?_
   refine lq p0 S (q_move rfl) fun a S => ?_
   refine lq p0 S (q_nilCheck rfl ((hat33 0 _ rfl).isP)) fun a S => ?_
   refine lq (pAdd p0 0) S (q_fieldAddr' 0 2 rfl ((hat33 0 _ rfl).isP) Tryz.underlying30 rfl Tryz.sizeOf2) fun a S => ?_
   refine lx_e (.int .i64 a0.1) S trivial (by decide) rfl trivial (q_load1 rfl Tryz.isAgg2 (by rintro _ rfl; exact (At.of_add (m := 0) (j := 0) ((hat33 0 _ rfl).ext H.ext)))) (fun a S => ?_)
   refine lq (.bool (decide (x507 < a0.1))) S (q_lss rfl rfl) fun a S => ?_
   refine lx_nil (thenN ?_)
   refine cond_b S rfl (fun hc543 => ?_) (fun hc543 => ?_)
   ·have hm := ite_t hc543 hm
    refine wp_skip (thenN ?_)
    obtain ⟨K547, hK548, hm⟩ := join_elim hm
    refine seq_cut (fun a w => ∃ (xs545 : List Int) (v544 : Value), Slots a 82 [(0, p0), (3, v53), (6, v544), (7, (.int .i64 x507))] ∧ Heap w0 [oA (rList rBool) v53 xs471, oA (rList (rInt .i64)) v544 xs545] w ∧ K547 xs545 = some o541) ?_ ?_
    ·rintro a w ⟨xs545, v544, S, H, hm⟩
     subst hK548
     refine region_plain ?_
     refine lq (.int .i64 x507) S (q_move rfl) fun a S => ?_
     refine lq (.int .i64 (W (x507 + (1 : Int)))) S (q_add rfl rfl) fun a S => ?_
     refine lq (.int .i64 (W (x507 + (1 : Int)))) S (q_assign rfl) fun a S => ?_
     refine lx_nil ?_
     exact ⟨m540, Nat.lt_succ_self _, xs545, (W (x507 + (1 : Int))), v544, S.sub ⟨rfl, rfl, rfl, rfl, trivial⟩, H, it_cont hm hc542⟩
    ·skip
     refine wp_block ?_
     refine wp_seq (region_plain ?_)
     refine lq v53 S (q_move rfl) fun a S => ?_
     refine lq (.int .i64 x507) S (q_move rfl) fun a S => ?_
     obtain ⟨x549, e550, hm⟩ := bind_some hm
     have hlt := lt_of_idx (idx_some e550).2
     refine lq (ePtr v53 (x507.toNat * 1)) S (q_indexAddr rfl (H.isSl 0 rfl) rfl (idx_some e550).1 hlt Tryz.underlying93 Tryz.sizeOf4) fun a S => ?_
     obtain ⟨c551, h552, hat553⟩ := (H.rdAt 0 rfl).elem (idx_some e550).2
     obtain rfl := h552
     refine lx_e (.bool x549) S trivial (by decide) rfl trivial (q_load1 rfl Tryz.isAgg4 (by rintro _ rfl; exact (hat553 0 _ rfl))) (fun a S => ?_)
     refine lx_nil (thenN ?_)
     refine cond_b S rfl (fun hc554 => ?_) (fun hc554 => ?_)
     ·have hm := ite_t hc554 hm
      refine region_plain ?_
      refine lq v504 S (q_move rfl) fun a S => ?_
      refine lq (.int .i64 x507) S (q_move rfl) fun a S => ?_
      refine lx_buildSlice (r := (rInt .i64)) (xs := [x507]) (ps := [(0, [(.int .i64 x507)])]) (cs := [(.int .i64 x507)]) (parts := [(0, .tmp 78)]) S trivial (by decide) rfl (H.put0 (A := eA) rfl) rfl Tryz.underlying34 Tryz.sizeOf2 Tryz.zeroValue2 (by decide) ⟨rfl, rfl, Nat.le_of_ble_eq_true rfl, trivial⟩ (by intro zs hz; exact fill_dense hz ⟨rfl, trivial⟩ rfl rfl) rfl (by decide) (fun w F hA => by cases (show F = [] from hA); exact ⟨_, _, [(.int .i64 x507)], _, rfl, rfl, ⟨rfl, rfl⟩, ⟨rfl, rfl⟩⟩) (fun v555 w556 H => ⟨trivial, fun a S => ?_⟩)
      obtain ⟨x558, e559, hm⟩ := bind_some hm
      obtain ⟨hle, hap⟩ := app_some e559
      replace hap := hap.symm
      subst hap
      have H : Heap w0 [oA (rList (rInt .i64)) v555 [x507], oA (rList rBool) v53 xs471, oA (rList (rInt .i64)) v504 xs505] w556 := H.front 0 rfl
      have H : Heap w0 [oA (rList (rInt .i64)) v504 xs505, oA (rList (rInt .i64)) v555 [x507], oA (rList rBool) v53 xs471] w556 := H.front 2 rfl
      refine lx_appendOwn (r := (rInt .i64)) S trivial (by decide) rfl H rfl rfl Tryz.underlying34 Tryz.ti2 rfl rfl rfl (by decide) (by decide) hle (fun v560 w561 H => ⟨trivial, fun a S => ?_⟩)
      refine lq v560 S (q_assign rfl) fun a S => ?_
      refine lx_nil ?_
      refine inBlock_norm ?_
      have H : Heap w0 [oA (rList rBool) v53 xs471, oA (rList (rInt .i64)) v560 (xs505 ++ [x507])] w561 := H.front 1 rfl
      exact ⟨(xs505 ++ [x507]), v560, S.sub ⟨rfl, rfl, rfl, rfl, trivial⟩, H, hm⟩
     ·have hm := ite_f hc554 hm
      refine wp_skip ?_
      refine inBlock_norm ?_
      exact ⟨xs505, v504, S.sub ⟨rfl, rfl, rfl, rfl, trivial⟩, H, hm⟩
   ·have hm := ite_f hc543 hm
    refine wp_exit ?_
    refine then_exit ?_
    refine then_exit ?_
    refine inBlock_exit ?_
    obtain rfl := it_brk hm hc542
    have H : Heap w0 [oA (rList (rInt .i64)) v504 xs505] w := H.sel [1] (by decide)
    exact ⟨xs505, v504, S.sub ⟨rfl, trivial⟩, H, rfl⟩
 ·skip
  refine loop_ghost (fun n a w => ∃ (xs264 : List Bool) (x265 : Bool), Slots a 82 [(0, p0), (3, v53), (4, (.bool x265))] ∧ Heap w0 [oA (rList rBool) v53 xs264] w ∧ iter f474 n (xs264, x265) = some res472) _ ⟨((List.replicate m52 false).set a0.2.1.toNat true), true, S.sub ⟨rfl, rfl, rfl, trivial⟩, H, hit473⟩ ?_
  rintro n a w ⟨xs264, x265, S, H, hit473⟩
  obtain ⟨m563, o564, rfl, hm, hc565⟩ := iter_step hit473
  rw [hf475] at hm
  refine wp_seq (wp_seq (region_plain ?_))
  refine lq (.bool x265) S (q_move rfl) fun a S => ?_
  refine lx_nil (thenN ?_)
  refine cond_b S rfl (fun hc566 => ?_) (fun hc566 => ?_)
  ·have hm := ite_t hc566 hm
   refine wp_skip (thenN ?_)
   refine wp_block ?_
   refine wp_seq (region_plain ?_)
   refine lq (.bool false) S (q_assign rfl) fun a S => ?_
   refine lx_nil (thenN ?_)
   refine wp_seq (region_plain ?_)
   refine lq (.int .i64 (0 : Int)) S (q_assign rfl) fun a S => ?_
   refine lx_nil (thenN ?_)
   obtain ⟨res700, hit701, hk704⟩ := bind_some hm
   obtain ⟨f702, hf703, hit701⟩ := iter_name hit701
   refine block_loop (fun a w => ∃ (xs698 : List Bool) (x699 : Bool), Slots a 82 [(0, p0), (3, v53), (4, (.bool x699))] ∧ Heap w0 [oA (rList rBool) v53 xs698] w ∧ res700 = .inl (xs698, x699)) ?_ ?_
   ·rintro a w ⟨xs698, x699, S, H, rfl⟩
    have hm := ctl_inl hk704
    refine inBlock_norm ?_
    exact ⟨m563, Nat.lt_succ_self _, xs698, x699, S.sub ⟨rfl, rfl, rfl, trivial⟩, H, it_cont hm hc565⟩
   ·skip
    refine loop_ghost (fun n a w => ∃ (xs631 : List Bool) (x632 : Bool) (x633 : Int), Slots a 82 [(0, p0), (3, v53), (4, (.bool x632)), (5, (.int .i64 x633))] ∧ Heap w0 [oA (rList rBool) v53 xs631] w ∧ iter f702 n (xs631, x632, x633) = some res700) _ ⟨xs264, false, (0 : Int), S.sub ⟨rfl, rfl, rfl, rfl, trivial⟩, H, hit701⟩ ?_
    rintro n a w ⟨xs631, x632, x633, S, H, hit701⟩
    obtain ⟨m705, o706, rfl, hm, hc707⟩ := iter_step hit701
    rw [hf703] at hm
    refine wp_seq (wp_seq (region_plain ?_))
    refine lq (.int .i64 x633) S (q_move rfl) fun a S => ?_
    refine lq p0 S (q_move rfl) fun a S => ?_
    refine lq p0 S (q_nilCheck rfl ((hat33 0 _ rfl).isP)) fun a S => ?_
    refine lq (pAdd p0 3) S (q_fieldAddr' 3 28 rfl ((hat33 0 _ rfl).isP) Tryz.underlying30 rfl Tryz.sizeOf28) fun a S => ?_
    refine lx_e v36 S trivial (by decide) rfl trivial (q_load1 rfl Tryz.isAgg28 (by rintro _ rfl; exact (At.of_add (m := 3) (j := 0) ((hat33 3 _ rfl).ext H.ext)))) (fun a S => ?_)
    refine lq (.int .i64 (a0.2.2.2.length : Int)) S (q_lenSl rfl (h37).isSl rfl Tryz.underlying28) fun a S => ?_
    refine lq (.bool (decide (x633 < (a0.2.2.2.length : Int)))) S (q_lss rfl rfl) fun a S => ?_
    refine lx_nil (thenN ?_)
    refine cond_b S rfl (fun hc708 => ?_) (fun hc708 => ?_)
    ·have hm := ite_t hc708 hm
     refine wp_skip (thenN ?_)
     obtain ⟨K711, hK712, hm⟩ := join_elim hm
     refine seq_cut (fun a w => ∃ (xs709 : List Bool) (x710 : Bool), Slots a 82 [(0, p0), (3, v53), (4, (.bool x710)), (5, (.int .i64 x633))] ∧ Heap w0 [oA (rList rBool) v53 xs709] w ∧ K711 xs709 x710 = some o706) ?_ ?_
     ·rintro a w ⟨xs709, x710, S, H, hm⟩
      subst hK712
      refine region_plain ?_
      refine lq (.int .i64 x633) S (q_move rfl) fun a S => ?_
      refine lq (.int .i64 (W (x633 + (1 : Int)))) S (q_add rfl rfl) fun a S => ?_
      refine lq (.int .i64 (W (x633 + (1 : Int)))) S (q_assign rfl) fun a S => ?_
      refine lx_nil ?_
      exact ⟨m705, Nat.lt_succ_self _, xs709, x710, (W (x633 + (1 : Int))), S.sub ⟨rfl, rfl, rfl, rfl, trivial⟩, H, it_cont hm hc707⟩
     ·skip
      refine wp_block ?_
      refine wp_seq (region_plain ?_)
      refine lq v53 S (q_move rfl) fun a S => ?_
      refine lq p0 S (q_move rfl) fun a S => ?_
      refine lq p0 S (q_nilCheck rfl ((hat33 0 _ rfl).isP)) fun a S => ?_
      refine lq (pAdd p0 3) S (q_fieldAddr' 3 28 rfl ((hat33 0 _ rfl).isP) Tryz.underlying30 rfl Tryz.sizeOf28) fun a S => ?_
      refine lx_e v36 S trivial (by decide) rfl trivial (q_load1 rfl Tryz.isAgg28 (by rintro _ rfl; exact (At.of_add (m := 3) (j := 0) ((hat33 3 _ rfl).ext H.ext)))) (fun a S => ?_)
      refine lq (.int .i64 x633) S (q_move rfl) fun a S => ?_
      obtain ⟨x713, e714, hm⟩ := bind_some hm
      obtain ⟨c715, h716, hat717⟩ := (h37).elem (idx_some e714).2
      obtain ⟨c718, c719, rfl, h720, h721⟩ := h716
      obtain rfl := h720
      obtain ⟨c722, c723, rfl, h724, h725⟩ := h721
      obtain rfl := h724
      obtain rfl := h725
      have hlt := lt_of_idx (idx_some e714).2
      refine lq (ePtr v36 (x633.toNat * 3)) S (q_indexAddr rfl (h37).isSl rfl (idx_some e714).1 hlt Tryz.underlying28 Tryz.sizeOf72) fun a S => ?_
      refine lq (pAdd (ePtr v36 (x633.toNat * 3)) 0) S (q_fieldAddr' 0 2 rfl ((hat717 0 _ rfl).isP) Tryz.underlying72 rfl Tryz.sizeOf2) fun a S => ?_
      refine lx_e (.int .i64 x713.1) S trivial (by decide) rfl trivial (q_load1 rfl Tryz.isAgg2 (by rintro _ rfl; exact (At.of_add (m := 0) (j := 0) ((hat717 0 _ rfl).ext H.ext)))) (fun a S => ?_)
      obtain ⟨x726, e727, hm⟩ := bind_some hm
      have hlt := lt_of_idx (idx_some e727).2
      refine lq (ePtr v53 (x713.1.toNat * 1)) S (q_indexAddr rfl (H.isSl 0 rfl) rfl (idx_some e727).1 hlt Tryz.underlying93 Tryz.sizeOf4) fun a S => ?_
      obtain ⟨c728, h729, hat730⟩ := (H.rdAt 0 rfl).elem (idx_some e727).2
      obtain rfl := h729
      refine lx_e (.bool x726) S trivial (by decide) rfl trivial (q_load1 rfl Tryz.isAgg4 (by rintro _ rfl; exact (hat730 0 _ rfl))) (fun a S => ?_)
      refine lq (.bool x726) S (q_move rfl) fun a S => ?_
      obtain ⟨t731, e732, hm⟩ := bind_some hm
      refine lx_cut 13 (fun a w => Slots a 82 [(0, p0), (3, v53), (4, (.bool x632)), (5, (.int .i64 x633)), (53, (.bool t731))] ∧ Heap w0 [oA (rList rBool) v53 xs631] w) ?_ ?_
      ·by_cases hc733 : x726 = true
       ·have hm := ite_t hc733 e732
        refine lx_q v53 S (want_b rfl rfl hc733) (by decide) (q_move rfl) (fun a S => ?_)
        refine lx_q p0 S (want_b rfl rfl hc733) (by decide) (q_move rfl) (fun a S => ?_)
        refine lx_q p0 S (want_b rfl rfl hc733) (by decide) (q_nilCheck rfl ((hat33 0 _ rfl).isP)) (fun a S => ?_)
        refine lx_q (pAdd p0 3) S (want_b rfl rfl hc733) (by decide) (q_fieldAddr' 3 28 rfl ((hat33 0 _ rfl).isP) Tryz.underlying30 rfl Tryz.sizeOf28) (fun a S => ?_)
        refine lx_e v36 S (want_b rfl rfl hc733) (by decide) rfl trivial (q_load1 rfl Tryz.isAgg28 (by rintro _ rfl; exact (At.of_add (m := 3) (j := 0) ((hat33 3 _ rfl).ext H.ext)))) (fun a S => ?_)
        refine lx_q (.int .i64 x633) S (want_b rfl rfl hc733) (by decide) (q_move rfl) (fun a S => ?_)
        obtain ⟨x734, e735, hm⟩ := bind_some hm
        obtain ⟨c736, h737, hat738⟩ := (h37).elem (idx_some e735).2
        obtain ⟨c739, c740, rfl, h741, h742⟩ := h737
        obtain rfl := h741
        obtain ⟨c743, c744, rfl, h745, h746⟩ := h742
        obtain rfl := h745
        obtain rfl := h746
        have hlt := lt_of_idx (idx_some e735).2
        refine lx_q (ePtr v36 (x633.toNat * 3)) S (want_b rfl rfl hc733) (by decide) (q_indexAddr rfl (h37).isSl rfl (idx_some e735).1 hlt Tryz.underlying28 Tryz.sizeOf72) (fun a S => ?_)
        refine lx_q (pAdd (ePtr v36 (x633.toNat * 3)) 2) S (want_b rfl rfl hc733) (by decide) (q_fieldAddr' 2 2 rfl ((hat738 0 _ rfl).isP) Tryz.underlying72 rfl Tryz.sizeOf2) (fun a S => ?_)
        refine lx_e (.int .i64 x734.2.2) S (want_b rfl rfl hc733) (by decide) rfl trivial (q_load1 rfl Tryz.isAgg2 (by rintro _ rfl; exact (At.of_add (m := 2) (j := 0) ((hat738 2 _ rfl).ext H.ext)))) (fun a S => ?_)
        obtain ⟨x747, e748, hm⟩ := bind_some hm
        have hlt := lt_of_idx (idx_some e748).2
        refine lx_q (ePtr v53 (x734.2.2.toNat * 1)) S (want_b rfl rfl hc733) (by decide) (q_indexAddr rfl (H.isSl 0 rfl) rfl (idx_some e748).1 hlt Tryz.underlying93 Tryz.sizeOf4) (fun a S => ?_)
        obtain ⟨c749, h750, hat751⟩ := (H.rdAt 0 rfl).elem (idx_some e748).2
        obtain rfl := h750
        refine lx_e (.bool x747) S (want_b rfl rfl hc733) (by decide) rfl trivial (q_load1 rfl Tryz.isAgg4 (by rintro _ rfl; exact (hat751 0 _ rfl))) (fun a S => ?_)
        refine lx_q (.bool (!x747)) S (want_b rfl rfl hc733) (by decide) (q_not rfl) (fun a S => ?_)
        refine lq (.bool (!x747)) S (q_pickT' rfl hc733 rfl) fun a S => ?_
        refine lx_nil ?_
        obtain rfl := Option.some.inj hm
        exact ⟨S.sub ⟨rfl, rfl, rfl, rfl, rfl, trivial⟩, H⟩
       ·have hm := ite_f (eq_false_of_ne_true hc733) e732
        have hc733 : x726 = false := eq_false_of_ne_true hc733
        refine lx_skip S rfl rfl (isB_ne hc733) (by decide) (fun a S => ?_)
        refine lx_skip S rfl rfl (isB_ne hc733) (by decide) (fun a S => ?_)
        refine lx_skip S rfl rfl (isB_ne hc733) (by decide) (fun a S => ?_)
        refine lx_skip S rfl rfl (isB_ne hc733) (by decide) (fun a S => ?_)
        refine lx_skip S rfl rfl (isB_ne hc733) (by decide) (fun a S => ?_)
        refine lx_skip S rfl rfl (isB_ne hc733) (by decide) (fun a S => ?_)
        refine lx_skip S rfl rfl (isB_ne hc733) (by decide) (fun a S => ?_)
        refine lx_skip S rfl rfl (isB_ne hc733) (by decide) (fun a S => ?_)
        refine lx_skip S rfl rfl (isB_ne hc733) (by decide) (fun a S => ?_)
        refine lx_skip S rfl rfl (isB_ne hc733) (by decide) (fun a S => ?_)
        refine lx_skip S rfl rfl (isB_ne hc733) (by decide) (fun a S => ?_)
        refine lx_skip S rfl rfl (isB_ne hc733) (by decide) (fun a S => ?_)
        refine lq (.bool false) S (q_pickF' rfl hc733 rfl) fun a S => ?_
        refine lx_nil ?_
        obtain rfl := Option.some.inj hm
        exact ⟨S.sub ⟨rfl, rfl, rfl, rfl, rfl, trivial⟩, H⟩
      ·rintro a w ⟨S, H⟩
       refine lx_nil (thenN ?_)
       refine cond_b S rfl (fun hc752 => ?_) (fun hc752 => ?_)
       ·have hm := ite_t hc752 hm
        refine wp_seq (region_plain ?_)
        refine lq v53 S (q_move rfl) fun a S => ?_
        refine lq p0 S (q_move rfl) fun a S => ?_
        refine lq p0 S (q_nilCheck rfl ((hat33 0 _ rfl).isP)) fun a S => ?_
        refine lq (pAdd p0 3) S (q_fieldAddr' 3 28 rfl ((hat33 0 _ rfl).isP) Tryz.underlying30 rfl Tryz.sizeOf28) fun a S => ?_
        refine lx_e v36 S trivial (by decide) rfl trivial (q_load1 rfl Tryz.isAgg28 (by rintro _ rfl; exact (At.of_add (m := 3) (j := 0) ((hat33 3 _ rfl).ext H.ext)))) (fun a S => ?_)
        refine lq (.int .i64 x633) S (q_move rfl) fun a S => ?_
        obtain ⟨x753, e754, hm⟩ := bind_some hm
        obtain ⟨c755, h756, hat757⟩ := (h37).elem (idx_some e754).2
        obtain ⟨c758, c759, rfl, h760, h761⟩ := h756
        obtain rfl := h760
        obtain ⟨c762, c763, rfl, h764, h765⟩ := h761
        obtain rfl := h764
        obtain rfl := h765
        have hlt := lt_of_idx (idx_some e754).2
        refine lq (ePtr v36 (x633.toNat * 3)) S (q_indexAddr rfl (h37).isSl rfl (idx_some e754).1 hlt Tryz.underlying28 Tryz.sizeOf72) fun a S => ?_
        refine lq (pAdd (ePtr v36 (x633.toNat * 3)) 2) S (q_fieldAddr' 2 2 rfl ((hat757 0 _ rfl).isP) Tryz.underlying72 rfl Tryz.sizeOf2) fun a S => ?_
        refine lx_e (.int .i64 x753.2.2) S trivial (by decide) rfl trivial (q_load1 rfl Tryz.isAgg2 (by rintro _ rfl; exact (At.of_add (m := 2) (j := 0) ((hat757 2 _ rfl).ext H.ext)))) (fun a S => ?_)
        obtain ⟨x766, e767, hm⟩ := bind_some hm
        have hlt := lt_of_idx (idx_some e767).2
        refine lq (ePtr v53 (x753.2.2.toNat * 1)) S (q_indexAddr rfl (H.isSl 0 rfl) rfl (idx_some e767).1 hlt Tryz.underlying93 Tryz.sizeOf4) fun a S => ?_
        refine lx_storeElem (r := rBool) (us := [(.bool true)]) (off := 0) (e' := true) S trivial rfl H.putE (ev_zero rfl) rfl (idx_some e767).2 rfl Tryz.sizeOf4 (Nat.le_of_ble_eq_true rfl) (List.forall_mem_cons.2 ⟨rfl, (fun _ h => nomatch h)⟩) (Upd.full rfl (fun w G hG => by cases (show G = [] from hG); exact ⟨rfl, rfl⟩)) (fun w768 H => ⟨trivial, fun a S => ?_⟩)
        refine lx_nil (thenN ?_)
        refine region_plain ?_
        refine lq (.bool true) S (q_assign rfl) fun a S => ?_
        refine lx_nil ?_
        refine inBlock_norm ?_
        exact ⟨(xs631.set x753.2.2.toNat true), true, S.sub ⟨rfl, rfl, rfl, rfl, trivial⟩, H, hm⟩
       ·have hm := ite_f hc752 hm
        refine wp_skip ?_
        refine inBlock_norm ?_
        exact ⟨xs631, x632, S.sub ⟨rfl, rfl, rfl, rfl, trivial⟩, H, hm⟩
    ·have hm := ite_f hc708 hm
     refine wp_exit ?_
     refine then_exit ?_
     refine then_exit ?_
     refine inBlock_exit ?_
     obtain rfl := it_brk hm hc707
     exact ⟨xs631, x632, S.sub ⟨rfl, rfl, rfl, trivial⟩, H, rfl⟩
  ·have hm := ite_f hc566 hm
   refine wp_exit ?_
   refine then_exit ?_
   refine then_exit ?_
   refine inBlock_exit ?_
   obtain rfl := it_brk hm hc565
   exact ⟨xs264, S.sub ⟨rfl, rfl, trivial⟩, H, rfl⟩

/-- (impl.Lts).reachable$1 -/
def impl_Lts_reachable_1_m (_ : Nat) (a0 : Int) (a1 : (List Int)) : Option (Bool) :=
  (idx a1 a0).bind fun x36 => some ((decide (x36 < (0 : Int))))
set_option maxRecDepth 20000 in
theorem impl_Lts_reachable_1_ok {w0 : World} {fuel : Nat} {p1 : Value} {a0 : Int} {a1 : (List Int)} {r : Bool} (h1 : Rd (rPtr (rList (rInt .i64))) w0 p1 a1) (hm : impl_Lts_reachable_1_m fuel a0 a1 = some r) :
  Calls Tryz.prog 141 #[.int .i64 a0, p1] w0 fun e w => e = .returned (.bool r) ∧ Heap w0 [] w := by
 unfold impl_Lts_reachable_1_m at hm
 have H := Heap.start w0
 obtain ⟨c31, h32, hat33⟩ := h1.ptr
 obtain ⟨v34, rfl, h35⟩ := rd_list h32
 refine enter (args := [.int .i64 a0, p1]) Tryz.func141 rfl 9 rfl (Nat.le_of_ble_eq_true rfl) (fun a S => ?_)
 refine wp_seq (region_plain ?_)
 refine lq (.bool false) S (q_assign rfl) fun a S => ?_
 refine lx_nil (thenN ?_)
 refine wp_seq (region_plain ?_)
 refine lx_e v34 S trivial (by decide) rfl trivial (q_load1 rfl Tryz.isAgg34 (by rintro _ rfl; exact ((hat33 0 _ rfl).ext H.ext))) (fun a S => ?_)
 refine lq (.int .i64 a0) S (q_move rfl) fun a S => ?_
 obtain ⟨x36, e37, hm⟩ := bind_some hm
 obtain ⟨c38, h39, hat40⟩ := (h35).elem (idx_some e37).2
 obtain rfl := h39
 have hlt := lt_of_idx (idx_some e37).2
 refine lq (ePtr v34 (a0.toNat * 1)) S (q_indexAddr rfl (h35).isSl rfl (idx_some e37).1 hlt Tryz.underlying34 Tryz.sizeOf2) fun a S => ?_
 refine lx_e (.int .i64 x36) S trivial (by decide) rfl trivial (q_load1 rfl Tryz.isAgg2 (by rintro _ rfl; exact ((hat40 0 _ rfl).ext H.ext))) (fun a S => ?_)
 refine lq (.bool (decide (x36 < (0 : Int)))) S (q_lss rfl rfl) fun a S => ?_
 refine lq (.bool (decide (x36 < (0 : Int)))) S (q_assign rfl) fun a S => ?_
 refine lx_nil (thenN ?_)
 refine wp_ret ?_
 obtain rfl := Option.some.inj hm
 exact leave1 S rfl rfl ⟨rfl, H⟩

/-- (impl.Lts).reachable -/
def impl_Lts_reachable_m (fuel : Nat) (a0 : Timpl_Lts) : Option ((List Int)) :=
  (impl_Lts_distances_m fuel (a0.1, a0.2.1, a0.2.2.1, a0.2.2.2) [a0.2.1] true).bind fun x57 => (impl_upTo_m fuel a0.1).bind fun x68 => (slices_DeleteFunc__int64_int64_m fuel x68 (fun (z0 : Int) => impl_Lts_reachable_1_m fuel z0 x57)).bind fun x75 => some (x75)
set_option maxRecDepth 20000 in
theorem impl_Lts_reachable_ok {w0 : World} {fuel : Nat} {p0 : Value} {a0 : Timpl_Lts} {r : (List Int)} (h0 : Rd Rimpl_Lts w0 p0 a0) (hm : impl_Lts_reachable_m fuel a0 = some r) :
  Calls Tryz.prog 99 #[p0] w0 fun e w => ∃ (v0 : Value), e = .returned (v0) ∧ Heap w0 [oA (rList (rInt .i64)) v0 r] w := by
 unfold impl_Lts_reachable_m at hm
 have H := Heap.start w0
 obtain ⟨c31, rfl, h32⟩ := h0
 obtain ⟨c37, c38, rfl, h39, h40⟩ := h32
 obtain rfl := h39
 obtain ⟨c41, c42, rfl, h43, h44⟩ := h40
 obtain rfl := h43
 obtain ⟨c45, c46, rfl, h47, h48⟩ := h44
 obtain ⟨v33, rfl, h34⟩ := rd_list h47
 obtain ⟨v35, rfl, h36⟩ := rd_list h48
 refine enter (args := [(.agg #[(.int .i64 a0.1), (.int .i64 a0.2.1), v33, v35])]) Tryz.func99 rfl 14 rfl (Nat.le_of_ble_eq_true rfl) (fun a S => ?_)
 refine wp_seq (region_plain ?_)
 refine lx_box S trivial (by decide) rfl H rfl rfl (fun b49 w50 H => ⟨trivial, fun a S => ?_⟩)
 refine lq (.slice none 0 0) S (q_assign rfl) fun a S => ?_
 refine lx_nil (thenN ?_)
 refine wp_seq (region_plain ?_)
 refine lx_e (.agg #[(.int .i64 a0.1), (.int .i64 a0.2.1), v33, v35]) S trivial (by decide) rfl trivial (q_loadA (cs := [(.int .i64 a0.1), (.int .i64 a0.2.1), v33, v35]) rfl (isP_bp _) Tryz.isAgg30 Tryz.sizeOf30 (by rintro _ rfl; exact (fun j u hu => boxAt (i := 0) H rfl hu))) (fun a S => ?_)
 refine lq (pAdd (bp b49) 1) S (q_fieldAddr' 1 2 rfl (isP_bp _) Tryz.underlying30 rfl Tryz.sizeOf2) fun a S => ?_
 refine lx_e (.int .i64 a0.2.1) S trivial (by decide) rfl trivial (q_load1 rfl Tryz.isAgg2 (by rintro _ rfl; exact (At.of_add (m := 1) (j := 0) (boxAt (i := 0) H rfl (j := 1) rfl)))) (fun a S => ?_)
 refine lx_buildSlice (r := (rInt .i64)) (xs := [a0.2.1]) (ps := [(0, [(.int .i64 a0.2.1)])]) (cs := [(.int .i64 a0.2.1)]) (parts := [(0, .tmp 6)]) S trivial (by decide) rfl (H.put0 (A := eA) rfl) rfl Tryz.underlying34 Tryz.sizeOf2 Tryz.zeroValue2 (by decide) ⟨rfl, rfl, Nat.le_of_ble_eq_true rfl, trivial⟩ (by intro zs hz; exact fill_dense hz ⟨rfl, trivial⟩ rfl rfl) rfl (by decide) (fun w F hA => by cases (show F = [] from hA); exact ⟨_, _, [(.int .i64 a0.2.1)], _, rfl, rfl, ⟨rfl, rfl⟩, ⟨rfl, rfl⟩⟩) (fun v52 w53 H => ⟨trivial, fun a S => ?_⟩)
 obtain ⟨x57, e58, hm⟩ := bind_some hm
 refine lx_call (xs := [.tmp 4, .tmp 7, .const (.bool true)]) S trivial (by decide) rfl rfl Tryz.call89 ((impl_Lts_distances_ok ⟨[(.int .i64 a0.1), (.int .i64 a0.2.1), v33, v35], rfl, ⟨[(.int .i64 a0.1)], [(.int .i64 a0.2.1), v33, v35], rfl, rfl, ⟨[(.int .i64 a0.2.1)], [v33, v35], rfl, rfl, ⟨[v33], [v35], rfl, ((H.arg h34)).list_rd, ((H.arg h36)).list_rd⟩⟩⟩⟩ (H.rdAt 0 rfl)  e58).mono ?_)
 rintro e w55 ⟨v59, rfl, Hc56⟩
 have H := H.call1 Hc56
 refine ⟨_, rfl, trivial, fun a S => ?_⟩
 refine lx_alloc S trivial (by decide) rfl H Tryz.zeroValue34 rfl (fun b62 w63 H => ⟨trivial, fun a S => ?_⟩)
 refine lx_storeBox (o := 0) (i := 0) (us := [v59]) (cs' := [v59]) S trivial rfl H rfl rfl rfl (cells_sl (H.isSl 1 rfl)) Tryz.sizeOf34 (Nat.le_of_ble_eq_true rfl) (List.forall_mem_cons.2 ⟨one_sl (H.isSl 1 rfl), (fun _ h => nomatch h)⟩) rfl (fun w65 H => ⟨trivial, fun a S => ?_⟩)
 change Heap w0 [bA b62 [v59] 34, oA (rList (rInt .i64)) v59 x57, oA (rList (rInt .i64)) v52 [a0.2.1], bA b49 [(.int .i64 a0.1), (.int .i64 a0.2.1), v33, v35] 30] w65 at H
 refine lx_nil (thenN ?_)
 refine wp_seq (region_plain ?_)
 refine lq (pAdd (bp b49) 0) S (q_fieldAddr' 0 2 rfl (isP_bp _) Tryz.underlying30 rfl Tryz.sizeOf2) fun a S => ?_
 refine lx_e (.int .i64 a0.1) S trivial (by decide) rfl trivial (q_load1 rfl Tryz.isAgg2 (by rintro _ rfl; exact (At.of_add (m := 0) (j := 0) (boxAt (i := 3) H rfl (j := 0) rfl)))) (fun a S => ?_)
 obtain ⟨x68, e69, hm⟩ := bind_some hm
 refine lx_call (xs := [.tmp 10]) S trivial (by decide) rfl rfl Tryz.call117 ((impl_upTo_ok  e69).mono ?_)
 rintro e w66 ⟨v70, rfl, Hc67⟩
 have H := H.call1 Hc67
 refine ⟨_, rfl, trivial, fun a S => ?_⟩
 refine lq (.func (.func 141) #[] #[(bp b62)]) S (q_makeFunc (xs := []) (ys := [.tmp 3]) rfl rfl) fun a S => ?_
 obtain ⟨x75, e76, hm⟩ := bind_some hm
 refine lx_call (xs := [.tmp 11, .tmp 12]) S trivial (by decide) rfl rfl Tryz.call100 ((slices_DeleteFunc__int64_int64_ok (f1 := 141) (fs1 := ([] : List Value)) (cp1 := ([(bp b62)] : List Value)) (a1 := (fun (z0 : Int) => impl_Lts_reachable_1_m fuel z0 x57)) H Tryz.call141 (fun H  hm => impl_Lts_reachable_1_ok  (rdPtr_box H 0 rfl ((H.rdAt 1 rfl)).list_rd) hm) e76).mono ?_)
 rintro e w73 ⟨v77, rfl, H⟩
 refine ⟨_, rfl, trivial, fun a S => ?_⟩
 refine lq v77 S (q_assign rfl) fun a S => ?_
 refine lx_nil (thenN ?_)
 refine wp_ret ?_
 obtain rfl := Option.some.inj hm
 have H : Heap w0 [oA (rList (rInt .i64)) v77 x75] w73 := H.sel [0] (by decide)
 exact leave1 S rfl rfl ⟨v77, rfl, H⟩
end Go.Proofs.YtkgkfbmcnchdbaaGreatDoor
