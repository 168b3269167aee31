/- The models of some functions and their walks (printed by a program of this repo). -/
import Derived.Test.YtkgkfbmcnchdbaaGreatDoorF0
import Derived.Test.YtkgkfbmcnchdbaaGreatDoorF1
import Derived.Test.YtkgkfbmcnchdbaaGreatDoorF2
import Derived.Test.YtkgkfbmcnchdbaaGreatDoorF3
import Derived.Test.YtkgkfbmcnchdbaaGreatDoorF4
import Derived.Test.YtkgkfbmcnchdbaaGreatDoorGxT
import Derived.Test.YtkgkfbmcnchdbaaGreatDoorGxY
namespace Go.Proofs.YtkgkfbmcnchdbaaGreatDoor
open Go.RowKit Go.Gx

/-- spec.l11State -/
def spec_l11State_m (fuel : Nat) (a0 : Timpl_Lts) (a1 : Int) : Option (Bool) :=
  (spec_l00In_m fuel a1 (0 : Int) (W (a0.1 - (1 : Int)))).bind fun x52 => some (x52)
set_option maxRecDepth 20000 in
theorem spec_l11State_ok {w0 : World} {fuel : Nat} {p0 : Value} {a0 : Timpl_Lts} {a1 : Int} {r : Bool} (h0 : Rd (rPtr Rimpl_Lts) w0 p0 a0) (hm : spec_l11State_m fuel a0 a1 = some r) :
  Calls Tryz.prog 80 #[p0, .int .i64 a1] w0 fun e w => e = .returned (.bool r) ∧ Heap w0 [] w := by
 unfold spec_l11State_m at hm
 have H := Heap.start w0
 obtain ⟨c31, h32, hat33⟩ := h0.ptr
 obtain ⟨c38, c39, rfl, h40, h41⟩ := h32
 obtain rfl := h40
 obtain ⟨c42, c43, rfl, h44, h45⟩ := h41
 obtain rfl := h44
 obtain ⟨c46, c47, rfl, h48, h49⟩ := h45
 obtain ⟨v34, rfl, h35⟩ := rd_list h48
 obtain ⟨v36, rfl, h37⟩ := rd_list h49
 refine enter (args := [p0, .int .i64 a1]) Tryz.func80 rfl 12 rfl (Nat.le_of_ble_eq_true rfl) (fun a S => ?_)
 refine wp_seq (region_plain ?_)
 refine lq (.bool false) S (q_assign rfl) fun a S => ?_
 refine lx_nil (thenN ?_)
 refine wp_seq (region_plain ?_)
 refine lq (.int .i64 a1) S (q_move rfl) fun a S => ?_
 refine lq p0 S (q_move rfl) fun a S => ?_
 refine lq p0 S (q_nilCheck rfl ((hat33 0 _ rfl).isP)) fun a S => ?_
 refine lq (pAdd p0 0) S (q_fieldAddr' 0 2 rfl ((hat33 0 _ rfl).isP) Tryz.underlying30 rfl Tryz.sizeOf2) fun a S => ?_
 refine lx_e (.int .i64 a0.1) S trivial (by decide) rfl trivial (q_load1 rfl Tryz.isAgg2 (by rintro _ rfl; exact (At.of_add (m := 0) (j := 0) ((hat33 0 _ rfl).ext H.ext)))) (fun a S => ?_)
 refine lq (.int .i64 (W (a0.1 - (1 : Int)))) S (q_sub rfl rfl) fun a S => ?_
 obtain ⟨x52, e53, hm⟩ := bind_some hm
 refine lx_call (xs := [.tmp 5, .const (.int .i64 (0)), .tmp 10]) S trivial (by decide) rfl rfl Tryz.call125 ((spec_l00In_ok    e53).mono ?_)
 rintro e w50 ⟨rfl, Hc51⟩
 have H := H.call0 Hc51
 refine ⟨_, rfl, trivial, fun a S => ?_⟩
 refine lq (.bool x52) S (q_assign rfl) fun a S => ?_
 refine lx_nil (thenN ?_)
 refine wp_ret ?_
 obtain rfl := Option.some.inj hm
 exact leave1 S rfl rfl ⟨rfl, H⟩

/-- impl.ltsCode -/
def impl_ltsCode_m (fuel : Nat) (a0 : Timpl_Lts) (a1 : Int) : Option (Int) :=
  (impl_ValidLts_m fuel (a0.1, a0.2.1, a0.2.2.1, a0.2.2.2)).bind fun x54 => (if (!x54) = true then some ((1 : Int)) else (impl_Lts_isState_m fuel (a0.1, a0.2.1, a0.2.2.1, a0.2.2.2) a1).bind fun x60 => (if (!x60) = true then some ((2 : Int)) else some ((0 : Int))))
set_option maxRecDepth 20000 in
theorem impl_ltsCode_ok {w0 : World} {fuel : Nat} {p0 : Value} {a0 : Timpl_Lts} {a1 : Int} {r : Int} (hG : Glob Tryz.prog w0) (h0 : Rd Rimpl_Lts w0 p0 a0) (hm : impl_ltsCode_m fuel a0 a1 = some r) :
  Calls Tryz.prog 82 #[p0, .int .i64 a1] w0 fun e w => e = .returned (.int .i64 r) ∧ Heap w0 [] w := by
 unfold impl_ltsCode_m at hm
 have H := Heap.start w0
 obtain ⟨c31, rfl, h32⟩ := h0
 obtain ⟨c37, c38, rfl, h39, h40⟩ := h32
 obtain rfl := h39
 obtain ⟨c41, c42, rfl, h43, h44⟩ := h40
 obtain rfl := h43
 obtain ⟨c45, c46, rfl, h47, h48⟩ := h44
 obtain ⟨v33, rfl, h34⟩ := rd_list h47
 obtain ⟨v35, rfl, h36⟩ := rd_list h48
 refine enter (args := [(.agg #[(.int .i64 a0.1), (.int .i64 a0.2.1), v33, v35]), .int .i64 a1]) Tryz.func82 rfl 14 rfl (Nat.le_of_ble_eq_true rfl) (fun a S => ?_)
 refine wp_seq (region_plain ?_)
 refine lx_box S trivial (by decide) rfl H rfl rfl (fun b49 w50 H => ⟨trivial, fun a S => ?_⟩)
 refine lq (.int .i64 (0 : Int)) S (q_assign rfl) fun a S => ?_
 refine lx_nil (thenN ?_)
 refine wp_seq ?_
 refine wp_block ?_
 refine wp_seq (region_plain ?_)
 refine lx_e (.agg #[(.int .i64 a0.1), (.int .i64 a0.2.1), v33, v35]) S trivial (by decide) rfl trivial (q_loadA (cs := [(.int .i64 a0.1), (.int .i64 a0.2.1), v33, v35]) rfl (isP_bp _) Tryz.isAgg30 Tryz.sizeOf30 (by rintro _ rfl; exact (fun j u hu => boxAt (i := 0) H rfl hu))) (fun a S => ?_)
 obtain ⟨x54, e55, hm⟩ := bind_some hm
 refine lx_call (xs := [.tmp 6]) S trivial (by decide) rfl rfl Tryz.call22 ((impl_ValidLts_ok (hG.ext H.ext) ⟨[(.int .i64 a0.1), (.int .i64 a0.2.1), v33, v35], rfl, ⟨[(.int .i64 a0.1)], [(.int .i64 a0.2.1), v33, v35], rfl, rfl, ⟨[(.int .i64 a0.2.1)], [v33, v35], rfl, rfl, ⟨[v33], [v35], rfl, ((H.arg h34)).list_rd, ((H.arg h36)).list_rd⟩⟩⟩⟩ e55).mono ?_)
 rintro e w52 ⟨rfl, Hc53⟩
 have H := H.call0 Hc53
 refine ⟨_, rfl, trivial, fun a S => ?_⟩
 refine lq (.bool (!x54)) S (q_not rfl) fun a S => ?_
 refine lq (.bool (!x54)) S (q_assign rfl) fun a S => ?_
 refine lx_nil (thenN ?_)
 refine cond_b S rfl (fun hc57 => ?_) (fun hc57 => ?_)
 ·have hm := ite_t hc57 hm
  refine wp_seq (region_plain ?_)
  refine lq (.int .i64 (1 : Int)) S (q_assign rfl) fun a S => ?_
  refine lx_nil (thenN ?_)
  refine wp_ret (inBlock_ret ?_)
  refine then_ret ?_
  obtain rfl := Option.some.inj hm
  have H : Heap w0 [] w52 := H.sel [] (by decide)
  exact leave1 S rfl rfl ⟨rfl, H⟩
 ·have hm := ite_f hc57 hm
  refine wp_seq (region_plain ?_)
  refine lx_e (.agg #[(.int .i64 a0.1), (.int .i64 a0.2.1), v33, v35]) S trivial (by decide) rfl trivial (q_loadA (cs := [(.int .i64 a0.1), (.int .i64 a0.2.1), v33, v35]) rfl (isP_bp _) Tryz.isAgg30 Tryz.sizeOf30 (by rintro _ rfl; exact (fun j u hu => boxAt (i := 0) H rfl hu))) (fun a S => ?_)
  refine lq (.int .i64 a1) S (q_move rfl) fun a S => ?_
  obtain ⟨x60, e61, hm⟩ := bind_some hm
  refine lx_call (xs := [.tmp 10, .tmp 11]) S trivial (by decide) rfl rfl Tryz.call72 ((impl_Lts_isState_ok ⟨[(.int .i64 a0.1), (.int .i64 a0.2.1), v33, v35], rfl, ⟨[(.int .i64 a0.1)], [(.int .i64 a0.2.1), v33, v35], rfl, rfl, ⟨[(.int .i64 a0.2.1)], [v33, v35], rfl, rfl, ⟨[v33], [v35], rfl, ((H.arg h34)).list_rd, ((H.arg h36)).list_rd⟩⟩⟩⟩  e61).mono ?_)
  rintro e w58 ⟨rfl, Hc59⟩
  have H := H.call0 Hc59
  refine ⟨_, rfl, trivial, fun a S => ?_⟩
  refine lq (.bool (!x60)) S (q_not rfl) fun a S => ?_
  refine lq (.bool (!x60)) S (q_assign rfl) fun a S => ?_
  refine lx_nil (thenN ?_)
  refine cond_b S rfl (fun hc63 => ?_) (fun hc63 => ?_)
  ·have hm := ite_t hc63 hm
   refine wp_seq (region_plain ?_)
   refine lq (.int .i64 (2 : Int)) S (q_assign rfl) fun a S => ?_
   refine lx_nil (thenN ?_)
   refine wp_ret (inBlock_ret ?_)
   refine then_ret ?_
   obtain rfl := Option.some.inj hm
   have H : Heap w0 [] w58 := H.sel [] (by decide)
   exact leave1 S rfl rfl ⟨rfl, H⟩
  ·have hm := ite_f hc63 hm
   refine wp_skip ?_
   refine inBlock_norm ?_
   refine thenN ?_
   refine wp_seq (region_plain ?_)
   refine lq (.int .i64 (0 : Int)) S (q_assign rfl) fun a S => ?_
   refine lx_nil (thenN ?_)
   refine wp_ret ?_
   obtain rfl := Option.some.inj hm
   have H : Heap w0 [] w58 := H.sel [] (by decide)
   exact leave1 S rfl rfl ⟨rfl, H⟩

/-- laws.heldStringS -/
def laws_heldStringS_m (fuel : Nat) (a0 : (List Str)) (a1 : Int) : Option (Int) :=
  (iter (fun (s : (Int) × (Int)) => (match s with | (x47, x48) => (if (decide (x48 < (a0.length : Int))) = true then (idx a0 x48).bind fun x77 => (laws_markText_m fuel x47).bind fun x84 => (if (x77 != x84) = true then some (.inr (.inr (-1 : Int))) else some (.inl ((W (x47 + (1 : Int))), (W (x48 + (1 : Int)))))) else some (.inr (.inl (x47)))) : Option (((Int) × (Int)) ⊕ ((Int) ⊕ (Int))))) fuel (a1, (0 : Int))).bind fun res66 => ctl (β := Int) (ρ := Int) (τ := Int) res66 (fun (x65) => some (x65)) (fun q => some (q))
set_option maxRecDepth 20000 in
theorem laws_heldStringS_ok {w0 : World} {fuel : Nat} {p0 : Value} {a0 : (List Str)} {a1 : Int} {r : Int} (h0 : Rd (rList rStr) w0 p0 a0) (hm : laws_heldStringS_m fuel a0 a1 = some r) :
  Calls Tryz.prog 41 #[p0, .int .i64 a1] w0 fun e w => e = .returned (.int .i64 r) ∧ Heap w0 [] w := by
 unfold laws_heldStringS_m at hm
 have H := Heap.start w0
 refine enter (args := [p0, .int .i64 a1]) Tryz.func41 rfl 22 rfl (Nat.le_of_ble_eq_true rfl) (fun a S => ?_)
 refine wp_seq (region_plain ?_)
 refine lq (.int .i64 (0 : Int)) S (q_assign rfl) fun a S => ?_
 refine lx_nil (thenN ?_)
 refine wp_seq (wp_seq (region_plain ?_))
 refine lq (.int .i64 (0 : Int)) S (q_assign rfl) fun a S => ?_
 refine lx_nil (thenN ?_)
 obtain ⟨res66, hit67, hk70⟩ := bind_some hm
 obtain ⟨f68, hf69, hit67⟩ := iter_name hit67
 refine block_loop (fun a w => ∃ (x65 : Int), Slots a 22 [(1, (.int .i64 x65))] ∧ Heap w0 [] w ∧ res66 = .inl (x65)) ?_ ?_
 ·rintro a w ⟨x65, S, H, rfl⟩
  have hm := ctl_inl hk70
  refine thenN ?_
  refine wp_seq (region_plain ?_)
  refine lq (.int .i64 x65) S (q_move rfl) fun a S => ?_
  refine lq (.int .i64 x65) S (q_assign rfl) fun a S => ?_
  refine lx_nil (thenN ?_)
  refine wp_ret ?_
  obtain rfl := Option.some.inj hm
  exact leave1 S rfl rfl ⟨rfl, H⟩
 ·skip
  refine loop_ghost (fun n a w => ∃ (x47 : Int) (x48 : Int), Slots a 22 [(0, p0), (1, (.int .i64 x47)), (5, (.int .i64 x48))] ∧ Heap w0 [] w ∧ iter f68 n (x47, x48) = some res66) _ ⟨a1, (0 : Int), S.sub ⟨rfl, rfl, rfl, trivial⟩, H, hit67⟩ ?_
  rintro n a w ⟨x47, x48, S, H, hit67⟩
  obtain ⟨m71, o72, rfl, hm, hc73⟩ := iter_step hit67
  rw [hf69] at hm
  refine wp_seq (wp_seq (region_plain ?_))
  refine lq (.int .i64 x48) S (q_move rfl) fun a S => ?_
  refine lq p0 S (q_move rfl) fun a S => ?_
  refine lq (.int .i64 (a0.length : Int)) S (q_lenSl rfl (h0).isSl rfl Tryz.underlying22) fun a S => ?_
  refine lq (.bool (decide (x48 < (a0.length : Int)))) S (q_lss rfl rfl) fun a S => ?_
  refine lx_nil (thenN ?_)
  refine cond_b S rfl (fun hc74 => ?_) (fun hc74 => ?_)
  ·have hm := ite_t hc74 hm
   refine wp_skip (thenN ?_)
   refine wp_seq ?_
   refine wp_block ?_
   refine wp_seq ?_
   refine wp_seq ?_
   refine region_drawG (fun w1 => Heap w0 [] w1) (fun i => [5].contains i) mixed (by kernel_rfl) (fun w76 he75 => ?_)
   have H := H.later he75
   refine ⟨H.sel [] (by decide), ?_⟩
   refine lq p0 S (q_move rfl) fun a S => ?_
   refine lq (.int .i64 x48) S (q_move rfl) fun a S => ?_
   obtain ⟨x77, e78, hm⟩ := bind_some hm
   obtain ⟨c79, h80, hat81⟩ := (h0).elem (idx_some e78).2
   obtain rfl := h80
   have hlt := lt_of_idx (idx_some e78).2
   refine lq (ePtr p0 (x48.toNat * 1)) S (q_indexAddr rfl (h0).isSl rfl (idx_some e78).1 hlt Tryz.underlying22 Tryz.sizeOf9) fun a S => ?_
   refine lq (sv x77) S (q_load1 rfl Tryz.isAgg9 (fun w1 hC => ((hat81 0 _ rfl).ext hC.ext))) fun a S => ?_
   refine lq (.int .i64 x47) S (q_move rfl) fun a S => ?_
   obtain ⟨x84, e85, hm⟩ := bind_some hm
   refine lx_call (xs := [.tmp 16]) S trivial (by decide) rfl rfl Tryz.call87 ((laws_markText_ok  e85).mono ?_)
   rintro e w82 ⟨rfl, Hc83⟩
   have H := H.call0 Hc83
   refine ⟨_, rfl, H.sel [] (by decide), fun a S => ?_⟩
   refine lq (.bool (x77 != x84)) S (q_sneq rfl rfl) fun a S => ?_
   refine lx_nil (thenN ?_)
   refine cond_b S rfl (fun hc87 => ?_) (fun hc87 => ?_)
   ·have hm := ite_t hc87 hm
    refine wp_seq (region_plain ?_)
    refine lq (.int .i64 (-1 : Int)) S (q_assign rfl) fun a S => ?_
    refine lx_nil (thenN ?_)
    refine wp_ret (then_ret ?_)
    refine inBlock_ret ?_
    refine then_ret ?_
    refine then_ret ?_
    refine inBlock_ret ?_
    refine then_ret ?_
    refine then_ret ?_
    obtain rfl := it_brk hm hc73
    have hm := ctl_inr hk70
    obtain rfl := Option.some.inj hm
    exact leave1 S rfl rfl ⟨rfl, H⟩
   ·have hm := ite_f hc87 hm
    refine wp_skip (thenN ?_)
    refine region_plain ?_
    refine lq (.int .i64 x47) S (q_move rfl) fun a S => ?_
    refine lq (.int .i64 (W (x47 + (1 : Int)))) S (q_add rfl rfl) fun a S => ?_
    refine lq (.int .i64 (W (x47 + (1 : Int)))) S (q_assign rfl) fun a S => ?_
    refine lx_nil ?_
    refine inBlock_norm ?_
    refine thenN ?_
    refine region_plain ?_
    refine lq (.int .i64 x48) S (q_move rfl) fun a S => ?_
    refine lq (.int .i64 (W (x48 + (1 : Int)))) S (q_add rfl rfl) fun a S => ?_
    refine lq (.int .i64 (W (x48 + (1 : Int)))) S (q_assign rfl) fun a S => ?_
    refine lx_nil ?_
    exact ⟨m71, Nat.lt_succ_self _, (W (x47 + (1 : Int))), (W (x48 + (1 : Int))), S.sub ⟨rfl, rfl, rfl, trivial⟩, H, it_cont hm hc73⟩
  ·have hm := ite_f hc74 hm
   refine wp_exit ?_
   refine then_exit ?_
   refine then_exit ?_
   refine inBlock_exit ?_
   obtain rfl := it_brk hm hc73
   exact ⟨x47, S.sub ⟨rfl, trivial⟩, H, rfl⟩

/-- spec.l10Far -/
def spec_l10Far_m (fuel : Nat) (a0 : Timpl_Lts) (a1 : (List Int)) (a2 : Bool) : Option ((List Int)) :=
  (mks a0.1 (0 : Int)).bind fun x50 => (iter (fun (s : (List Int) × (Int)) => (match s with | (xs62, x63) => (if (decide (x63 < a0.1)) = true then (idx xs62 x63).bind fun _ => some (.inl ((xs62.set x63.toNat (-1 : Int)), (W (x63 + (1 : Int))))) else some (.inr (.inl (xs62)))) : Option (((List Int) × (Int)) ⊕ (((List Int)) ⊕ ((List Int)))))) fuel (x50, (0 : Int))).bind fun res71 => ctl (β := (List Int)) (ρ := (List Int)) (τ := (List Int)) res71 (fun (xs70) => (iter (fun (s : (List Int) × (Int)) => (match s with | (xs87, x88) => (if (decide (x88 < (a1.length : Int))) = true then (idx a1 x88).bind fun x875 => (idx xs87 x875).bind fun _ => some (.inl ((xs87.set x875.toNat (0 : Int)), (W (x88 + (1 : Int))))) else some (.inr (.inl (xs87)))) : Option (((List Int) × (Int)) ⊕ (((List Int)) ⊕ ((List Int)))))) fuel (xs70, (0 : Int))).bind fun res101 => ctl (β := (List Int)) (ρ := (List Int)) (τ := (List Int)) res101 (fun (xs100) => (iter (fun (s : (List Int) × (Int)) => (match s with | (xs358, x359) => (if (decide (x359 < a0.1)) = true then (iter (fun (s : (List Int) × (Int)) => (match s with | (xs702, x703) => (if (decide (x703 < (a0.2.2.2.length : Int))) = true then join (κ := List Int → Option (((List Int) × (Int)) ⊕ (((List Int)) ⊕ ((List Int))))) (fun (xs794 : List Int) => some (.inl (xs794, (W (x703 + (1 : Int)))))) (fun K795 => (idx a0.2.2.2 x703).bind fun x797 => (idx a0.2.2.2 x703).bind fun x810 => join (κ := Int → Int → Option (((List Int) × (Int)) ⊕ (((List Int)) ⊕ ((List Int))))) (fun (x823 : Int) (x824 : Int) => (idx xs702 x823).bind fun x827 => (if (x827 == x359) = true then (idx xs702 x824).bind fun x835 => some (decide (x835 < (0 : Int))) else some false).bind fun t832 => (if t832 = true then (idx xs702 x824).bind fun _ => (K795 (xs702.set x824.toNat (W (x359 + (1 : Int))))) else (K795 xs702))) (fun K825 => (if a2 = true then (idx a0.2.2.2 x703).bind fun x845 => (idx a0.2.2.2 x703).bind fun x858 => (K825 x845.2.2 x858.1) else (K825 x797.1 x810.2.2)))) else some (.inr (.inl (xs702)))) : Option (((List Int) × (Int)) ⊕ (((List Int)) ⊕ ((List Int)))))) fuel (xs358, (0 : Int))).bind fun res785 => ctl (β := (List Int)) (ρ := (List Int)) (τ := (((List Int) × (Int)) ⊕ (((List Int)) ⊕ ((List Int))))) res785 (fun (xs784) => some (.inl (xs784, (W (x359 + (1 : Int)))))) (fun q => some (.inr (.inr q))) else some (.inr (.inl (xs358)))) : Option (((List Int) × (Int)) ⊕ (((List Int)) ⊕ ((List Int)))))) fuel (xs100, (0 : Int))).bind fun res613 => ctl (β := (List Int)) (ρ := (List Int)) (τ := (List Int)) res613 (fun (xs612) => some (xs612)) (fun q => some (q))) (fun q => some (q))) (fun q => some (q))
set_option maxRecDepth 20000 in
theorem spec_l10Far_ok {w0 : World} {fuel : Nat} {p0 p1 : Value} {a0 : Timpl_Lts} {a1 : (List Int)} {a2 : Bool} {r : (List Int)} (h0 : Rd (rPtr Rimpl_Lts) w0 p0 a0) (h1 : Rd (rList (rInt .i64)) w0 p1 a1) (hm : spec_l10Far_m fuel a0 a1 a2 = some r) :
  Calls Tryz.prog 88 #[p0, p1, .bool a2] w0 fun e w => ∃ (v0 : Value), e = .returned (v0) ∧ Heap w0 [oA (rList (rInt .i64)) v0 r] w := by
 unfold spec_l10Far_m at hm
 have H := Heap.start w0
 obtain ⟨c31, h32, hat33⟩ := h0.ptr
 obtain ⟨c38, c39, rfl, h40, h41⟩ := h32
 obtain rfl := h40
 obtain ⟨c42, c43, rfl, h44, h45⟩ := h41
 obtain rfl := h44
 obtain ⟨c46, c47, rfl, h48, h49⟩ := h45
 obtain ⟨v34, rfl, h35⟩ := rd_list h48
 obtain ⟨v36, rfl, h37⟩ := rd_list h49
 refine enter (args := [p0, p1, .bool a2]) Tryz.func88 rfl 111 rfl (Nat.le_of_ble_eq_true rfl) (fun a S => ?_)
 refine wp_seq (region_plain ?_)
 refine lq (.slice none 0 0) S (q_assign rfl) fun a S => ?_
 refine lx_nil (thenN ?_)
 refine wp_seq (region_plain ?_)
 refine lq p0 S (q_move rfl) fun a S => ?_
 refine lq p0 S (q_nilCheck rfl ((hat33 0 _ rfl).isP)) fun a S => ?_
 refine lq (pAdd p0 0) S (q_fieldAddr' 0 2 rfl ((hat33 0 _ rfl).isP) Tryz.underlying30 rfl Tryz.sizeOf2) fun a S => ?_
 refine lx_e (.int .i64 a0.1) S trivial (by decide) rfl trivial (q_load1 rfl Tryz.isAgg2 (by rintro _ rfl; exact (At.of_add (m := 0) (j := 0) ((hat33 0 _ rfl).ext H.ext)))) (fun a S => ?_)
 obtain ⟨x50, e51, hm⟩ := bind_some hm
 obtain ⟨m52, hn, hn2, rfl⟩ := mks_some e51
 refine lx_make (r := (rInt .i64)) (z0 := (0 : Int)) (n := m52) S trivial (by decide) rfl H (by rw [← hn]; rfl) (by rw [← hn]; rfl) Tryz.underlying34 (Tryz.ti2) rfl rfl (by decide) (fun w => ⟨rfl, rfl⟩) hn2 (by decide) (fun v53 w54 H => ⟨trivial, fun a S => ?_⟩)
 refine lq v53 S (q_assign rfl) fun a S => ?_
 refine lx_nil (thenN ?_)
 refine wp_seq (wp_seq (region_plain ?_))
 refine lq (.int .i64 (0 : Int)) S (q_assign rfl) fun a S => ?_
 refine lx_nil (thenN ?_)
 obtain ⟨res71, hit72, hk75⟩ := bind_some hm
 obtain ⟨f73, hf74, hit72⟩ := iter_name hit72
 refine block_loop (fun a w => ∃ (xs70 : List Int), Slots a 111 [(0, p0), (1, p1), (2, (.bool a2)), (7, v53)] ∧ Heap w0 [oA (rList (rInt .i64)) v53 xs70] w ∧ res71 = .inl (xs70)) ?_ ?_
 ·rintro a w ⟨xs70, S, H, rfl⟩
  have hm := ctl_inl hk75
  refine thenN ?_
  refine wp_seq (wp_seq (region_plain ?_))
  refine lq (.int .i64 (0 : Int)) S (q_assign rfl) fun a S => ?_
  refine lx_nil (thenN ?_)
  obtain ⟨res101, hit102, hk105⟩ := bind_some hm
  obtain ⟨f103, hf104, hit102⟩ := iter_name hit102
  refine block_loop (fun a w => ∃ (xs100 : List Int), Slots a 111 [(0, p0), (2, (.bool a2)), (7, v53)] ∧ Heap w0 [oA (rList (rInt .i64)) v53 xs100] w ∧ res101 = .inl (xs100)) ?_ ?_
  ·rintro a w ⟨xs100, S, H, rfl⟩
   have hm := ctl_inl hk105
   refine thenN ?_
   refine wp_seq (wp_seq (region_plain ?_))
   refine lq (.int .i64 (0 : Int)) S (q_assign rfl) fun a S => ?_
   refine lx_nil (thenN ?_)
   obtain ⟨res613, hit614, hk617⟩ := bind_some hm
   obtain ⟨f615, hf616, hit614⟩ := iter_name hit614
   refine block_loop (fun a w => ∃ (xs612 : List Int), Slots a 111 [(7, v53)] ∧ Heap w0 [oA (rList (rInt .i64)) v53 xs612] w ∧ res613 = .inl (xs612)) ?_ ?_
   ·rintro a w ⟨xs612, S, H, rfl⟩
    have hm := ctl_inl hk617
    refine thenN ?_
    refine wp_seq (region_plain ?_)
    refine lq v53 S (q_move rfl) fun a S => ?_
    refine lq v53 S (q_assign rfl) fun a S => ?_
    refine lx_nil (thenN ?_)
    refine wp_ret ?_
    obtain rfl := Option.some.inj hm
    exact leave1 S rfl rfl ⟨v53, rfl, H⟩
   ·skip
    refine loop_ghost (fun n a w => ∃ (xs358 : List Int) (x359 : Int), Slots a 111 [(0, p0), (2, (.bool a2)), (7, v53), (10, (.int .i64 x359))] ∧ Heap w0 [oA (rList (rInt .i64)) v53 xs358] w ∧ iter f615 n (xs358, x359) = some res613) _ ⟨xs100, (0 : Int), S.sub ⟨rfl, rfl, rfl, rfl, trivial⟩, H, hit614⟩ ?_
    rintro n a w ⟨xs358, x359, S, H, hit614⟩
    obtain ⟨m618, o619, rfl, hm, hc620⟩ := iter_step hit614
    rw [hf616] at hm
    refine wp_seq (wp_seq (region_plain ?_))
    refine lq (.int .i64 x359) S (q_move rfl) fun a S => ?_
    refine lq p0 S (q_move rfl) fun a S => ?_
    refine lq p0 S (q_nilCheck rfl ((hat33 0 _ rfl).isP)) fun a S => ?_
    refine lq (pAdd p0 0) S (q_fieldAddr' 0 2 rfl ((hat33 0 _ rfl).isP) Tryz.underlying30 rfl Tryz.sizeOf2) fun a S => ?_
    refine lx_e (.int .i64 a0.1) S trivial (by decide) rfl trivial (q_load1 rfl Tryz.isAgg2 (by rintro _ rfl; exact (At.of_add (m := 0) (j := 0) ((hat33 0 _ rfl).ext H.ext)))) (fun a S => ?_)
    refine lq (.bool (decide (x359 < a0.1))) S (q_lss rfl rfl) fun a S => ?_
    refine lx_nil (thenN ?_)
    refine cond_b S rfl (fun hc621 => ?_) (fun hc621 => ?_)
    ·have hm := ite_t hc621 hm
     refine wp_skip (thenN ?_)
     refine wp_seq ?_
     refine wp_block ?_
     refine wp_seq (region_plain ?_)
     refine lq (.int .i64 (0 : Int)) S (q_assign rfl) fun a S => ?_
     refine lx_nil (thenN ?_)
     obtain ⟨res785, hit786, hk789⟩ := bind_some hm
     obtain ⟨f787, hf788, hit786⟩ := iter_name hit786
     refine block_loop (fun a w => ∃ (xs784 : List Int), Slots a 111 [(0, p0), (2, (.bool a2)), (7, v53), (10, (.int .i64 x359))] ∧ Heap w0 [oA (rList (rInt .i64)) v53 xs784] w ∧ res785 = .inl (xs784)) ?_ ?_
     ·rintro a w ⟨xs784, S, H, rfl⟩
      have hm := ctl_inl hk789
      refine inBlock_norm ?_
      refine thenN ?_
      refine region_plain ?_
      refine lq (.int .i64 x359) S (q_move rfl) fun a S => ?_
      refine lq (.int .i64 (W (x359 + (1 : Int)))) S (q_add rfl rfl) fun a S => ?_
      refine lq (.int .i64 (W (x359 + (1 : Int)))) S (q_assign rfl) fun a S => ?_
      refine lx_nil ?_
      exact ⟨m618, Nat.lt_succ_self _, xs784, (W (x359 + (1 : Int))), S.sub ⟨rfl, rfl, rfl, rfl, trivial⟩, H, it_cont hm hc620⟩
     ·skip
      refine loop_ghost (fun n a w => ∃ (xs702 : List Int) (x703 : Int), Slots a 111 [(0, p0), (2, (.bool a2)), (7, v53), (10, (.int .i64 x359)), (11, (.int .i64 x703))] ∧ Heap w0 [oA (rList (rInt .i64)) v53 xs702] w ∧ iter f787 n (xs702, x703) = some res785) _ ⟨xs358, (0 : Int), S.sub ⟨rfl, rfl, rfl, rfl, rfl, trivial⟩, H, hit786⟩ ?_
      rintro n a w ⟨xs702, x703, S, H, hit786⟩
      obtain ⟨m790, o791, rfl, hm, hc792⟩ := iter_step hit786
      rw [hf788] at hm
      refine wp_seq (wp_seq (region_plain ?_))
      refine lq (.int .i64 x703) S (q_move rfl) fun a S => ?_
      refine lq p0 S (q_move rfl) fun a S => ?_
      refine lq p0 S (q_nilCheck rfl ((hat33 0 _ rfl).isP)) fun a S => ?_
      refine lq (pAdd p0 3) S (q_fieldAddr' 3 28 rfl ((hat33 0 _ rfl).isP) Tryz.underlying30 rfl Tryz.sizeOf28) fun a S => ?_
      refine lx_e v36 S trivial (by decide) rfl trivial (q_load1 rfl Tryz.isAgg28 (by rintro _ rfl; exact (At.of_add (m := 3) (j := 0) ((hat33 3 _ rfl).ext H.ext)))) (fun a S => ?_)
      refine lq (.int .i64 (a0.2.2.2.length : Int)) S (q_lenSl rfl (h37).isSl rfl Tryz.underlying28) fun a S => ?_
      refine lq (.bool (decide (x703 < (a0.2.2.2.length : Int)))) S (q_lss rfl rfl) fun a S => ?_
      refine lx_nil (thenN ?_)
      refine cond_b S rfl (fun hc793 => ?_) (fun hc793 => ?_)
      ·have hm := ite_t hc793 hm
       refine wp_skip (thenN ?_)
       obtain ⟨K795, hK796, hm⟩ := join_elim hm
       refine seq_cut (fun a w => ∃ (xs794 : List Int), Slots a 111 [(0, p0), (2, (.bool a2)), (7, v53), (10, (.int .i64 x359)), (11, (.int .i64 x703))] ∧ Heap w0 [oA (rList (rInt .i64)) v53 xs794] w ∧ K795 xs794 = some o791) ?_ ?_
       ·rintro a w ⟨xs794, S, H, hm⟩
        subst hK796
        refine region_plain ?_
        refine lq (.int .i64 x703) S (q_move rfl) fun a S => ?_
        refine lq (.int .i64 (W (x703 + (1 : Int)))) S (q_add rfl rfl) fun a S => ?_
        refine lq (.int .i64 (W (x703 + (1 : Int)))) S (q_assign rfl) fun a S => ?_
        refine lx_nil ?_
        exact ⟨m790, Nat.lt_succ_self _, xs794, (W (x703 + (1 : Int))), S.sub ⟨rfl, rfl, rfl, rfl, rfl, trivial⟩, H, it_cont hm hc792⟩
       ·skip
        refine wp_block ?_
        refine wp_seq (region_plain ?_)
        refine lq p0 S (q_move rfl) fun a S => ?_
        refine lq p0 S (q_nilCheck rfl ((hat33 0 _ rfl).isP)) fun a S => ?_
        refine lq (pAdd p0 3) S (q_fieldAddr' 3 28 rfl ((hat33 0 _ rfl).isP) Tryz.underlying30 rfl Tryz.sizeOf28) fun a S => ?_
        refine lx_e v36 S trivial (by decide) rfl trivial (q_load1 rfl Tryz.isAgg28 (by rintro _ rfl; exact (At.of_add (m := 3) (j := 0) ((hat33 3 _ rfl).ext H.ext)))) (fun a S => ?_)
        refine lq (.int .i64 x703) S (q_move rfl) fun a S => ?_
        obtain ⟨x797, e798, hm⟩ := bind_some hm
        obtain ⟨c799, h800, hat801⟩ := (h37).elem (idx_some e798).2
        obtain ⟨c802, c803, rfl, h804, h805⟩ := h800
        obtain rfl := h804
        obtain ⟨c806, c807, rfl, h808, h809⟩ := h805
        obtain rfl := h808
        obtain rfl := h809
        have hlt := lt_of_idx (idx_some e798).2
        refine lq (ePtr v36 (x703.toNat * 3)) S (q_indexAddr rfl (h37).isSl rfl (idx_some e798).1 hlt Tryz.underlying28 Tryz.sizeOf72) fun a S => ?_
        refine lq (pAdd (ePtr v36 (x703.toNat * 3)) 0) S (q_fieldAddr' 0 2 rfl ((hat801 0 _ rfl).isP) Tryz.underlying72 rfl Tryz.sizeOf2) fun a S => ?_
        refine lx_e (.int .i64 x797.1) S trivial (by decide) rfl trivial (q_load1 rfl Tryz.isAgg2 (by rintro _ rfl; exact (At.of_add (m := 0) (j := 0) ((hat801 0 _ rfl).ext H.ext)))) (fun a S => ?_)
        refine lq (.int .i64 x797.1) S (q_assign rfl) fun a S => ?_
        refine lx_nil (thenN ?_)
        refine wp_seq (region_plain ?_)
        refine lq p0 S (q_move rfl) fun a S => ?_
        refine lq p0 S (q_nilCheck rfl ((hat33 0 _ rfl).isP)) fun a S => ?_
        refine lq (pAdd p0 3) S (q_fieldAddr' 3 28 rfl ((hat33 0 _ rfl).isP) Tryz.underlying30 rfl Tryz.sizeOf28) fun a S => ?_
        refine lx_e v36 S trivial (by decide) rfl trivial (q_load1 rfl Tryz.isAgg28 (by rintro _ rfl; exact (At.of_add (m := 3) (j := 0) ((hat33 3 _ rfl).ext H.ext)))) (fun a S => ?_)
        refine lq (.int .i64 x703) S (q_move rfl) fun a S => ?_
        obtain ⟨x810, e811, hm⟩ := bind_some hm
        obtain ⟨c812, h813, hat814⟩ := (h37).elem (idx_some e811).2
        obtain ⟨c815, c816, rfl, h817, h818⟩ := h813
        obtain rfl := h817
        obtain ⟨c819, c820, rfl, h821, h822⟩ := h818
        obtain rfl := h821
        obtain rfl := h822
        have hlt := lt_of_idx (idx_some e811).2
        refine lq (ePtr v36 (x703.toNat * 3)) S (q_indexAddr rfl (h37).isSl rfl (idx_some e811).1 hlt Tryz.underlying28 Tryz.sizeOf72) fun a S => ?_
        refine lq (pAdd (ePtr v36 (x703.toNat * 3)) 2) S (q_fieldAddr' 2 2 rfl ((hat814 0 _ rfl).isP) Tryz.underlying72 rfl Tryz.sizeOf2) fun a S => ?_
        refine lx_e (.int .i64 x810.2.2) S trivial (by decide) rfl trivial (q_load1 rfl Tryz.isAgg2 (by rintro _ rfl; exact (At.of_add (m := 2) (j := 0) ((hat814 2 _ rfl).ext H.ext)))) (fun a S => ?_)
        refine lq (.int .i64 x810.2.2) S (q_assign rfl) fun a S => ?_
        refine lx_nil (thenN ?_)
        obtain ⟨K825, hK826, hm⟩ := join_elim hm
        refine seq_cut (fun a w => ∃ (x823 : Int) (x824 : Int), Slots a 111 [(0, p0), (2, (.bool a2)), (7, v53), (10, (.int .i64 x359)), (11, (.int .i64 x703)), (12, (.int .i64 x823)), (13, (.int .i64 x824))] ∧ Heap w0 [oA (rList (rInt .i64)) v53 xs702] w ∧ K825 x823 x824 = some o791) ?_ ?_
        ·rintro a w ⟨x823, x824, S, H, hm⟩
         subst hK826
         refine wp_seq (region_plain ?_)
         refine lq v53 S (q_move rfl) fun a S => ?_
         refine lq (.int .i64 x823) S (q_move rfl) fun a S => ?_
         obtain ⟨x827, e828, hm⟩ := bind_some hm
         have hlt := lt_of_idx (idx_some e828).2
         refine lq (ePtr v53 (x823.toNat * 1)) S (q_indexAddr rfl (H.isSl 0 rfl) rfl (idx_some e828).1 hlt Tryz.underlying34 Tryz.sizeOf2) fun a S => ?_
         obtain ⟨c829, h830, hat831⟩ := (H.rdAt 0 rfl).elem (idx_some e828).2
         obtain rfl := h830
         refine lx_e (.int .i64 x827) S trivial (by decide) rfl trivial (q_load1 rfl Tryz.isAgg2 (by rintro _ rfl; exact (hat831 0 _ rfl))) (fun a S => ?_)
         refine lq (.int .i64 x359) S (q_move rfl) fun a S => ?_
         refine lq (.bool (x827 == x359)) S (q_eql rfl rfl) fun a S => ?_
         refine lq (.bool (x827 == x359)) S (q_move rfl) fun a S => ?_
         obtain ⟨t832, e833, hm⟩ := bind_some hm
         refine lx_cut 6 (fun a w => Slots a 111 [(0, p0), (2, (.bool a2)), (7, v53), (10, (.int .i64 x359)), (11, (.int .i64 x703)), (13, (.int .i64 x824)), (104, (.bool t832))] ∧ Heap w0 [oA (rList (rInt .i64)) v53 xs702] w) ?_ ?_
         ·by_cases hc834 : (x827 == x359) = true
          ·have hm := ite_t hc834 e833
           refine lx_q v53 S (want_b rfl rfl hc834) (by decide) (q_move rfl) (fun a S => ?_)
           refine lx_q (.int .i64 x824) S (want_b rfl rfl hc834) (by decide) (q_move rfl) (fun a S => ?_)
           obtain ⟨x835, e836, hm⟩ := bind_some hm
           have hlt := lt_of_idx (idx_some e836).2
           refine lx_q (ePtr v53 (x824.toNat * 1)) S (want_b rfl rfl hc834) (by decide) (q_indexAddr rfl (H.isSl 0 rfl) rfl (idx_some e836).1 hlt Tryz.underlying34 Tryz.sizeOf2) (fun a S => ?_)
           obtain ⟨c837, h838, hat839⟩ := (H.rdAt 0 rfl).elem (idx_some e836).2
           obtain rfl := h838
           refine lx_e (.int .i64 x835) S (want_b rfl rfl hc834) (by decide) rfl trivial (q_load1 rfl Tryz.isAgg2 (by rintro _ rfl; exact (hat839 0 _ rfl))) (fun a S => ?_)
           refine lx_q (.bool (decide (x835 < (0 : Int)))) S (want_b rfl rfl hc834) (by decide) (q_lss rfl rfl) (fun a S => ?_)
           refine lq (.bool (decide (x835 < (0 : Int)))) S (q_pickT' rfl hc834 rfl) fun a S => ?_
           refine lx_nil ?_
           obtain rfl := Option.some.inj hm
           exact ⟨S.sub ⟨rfl, rfl, rfl, rfl, rfl, rfl, rfl, trivial⟩, H⟩
          ·have hm := ite_f (eq_false_of_ne_true hc834) e833
           have hc834 : (x827 == x359) = false := eq_false_of_ne_true hc834
           refine lx_skip S rfl rfl (isB_ne hc834) (by decide) (fun a S => ?_)
           refine lx_skip S rfl rfl (isB_ne hc834) (by decide) (fun a S => ?_)
           refine lx_skip S rfl rfl (isB_ne hc834) (by decide) (fun a S => ?_)
           refine lx_skip S rfl rfl (isB_ne hc834) (by decide) (fun a S => ?_)
           refine lx_skip S rfl rfl (isB_ne hc834) (by decide) (fun a S => ?_)
           refine lq (.bool false) S (q_pickF' rfl hc834 rfl) fun a S => ?_
           refine lx_nil ?_
           obtain rfl := Option.some.inj hm
           exact ⟨S.sub ⟨rfl, rfl, rfl, rfl, rfl, rfl, rfl, trivial⟩, H⟩
         ·rintro a w ⟨S, H⟩
          refine lx_nil (thenN ?_)
          refine cond_b S rfl (fun hc840 => ?_) (fun hc840 => ?_)
          ·have hm := ite_t hc840 hm
           refine region_plain ?_
           refine lq v53 S (q_move rfl) fun a S => ?_
           refine lq (.int .i64 x824) S (q_move rfl) fun a S => ?_
           refine lq (.int .i64 x359) S (q_move rfl) fun a S => ?_
           refine lq (.int .i64 (W (x359 + (1 : Int)))) S (q_add rfl rfl) fun a S => ?_
           obtain ⟨x841, e842, hm⟩ := bind_some hm
           have hlt := lt_of_idx (idx_some e842).2
           refine lq (ePtr v53 (x824.toNat * 1)) S (q_indexAddr rfl (H.isSl 0 rfl) rfl (idx_some e842).1 hlt Tryz.underlying34 Tryz.sizeOf2) fun a S => ?_
           refine lx_storeElem (r := (rInt .i64)) (us := [(.int .i64 (W (x359 + (1 : Int))))]) (off := 0) (e' := (W (x359 + (1 : Int)))) S trivial rfl H.putE (ev_zero rfl) rfl (idx_some e842).2 rfl Tryz.sizeOf2 (Nat.le_of_ble_eq_true rfl) (List.forall_mem_cons.2 ⟨rfl, (fun _ h => nomatch h)⟩) (Upd.full rfl (fun w G hG => by cases (show G = [] from hG); exact ⟨rfl, rfl⟩)) (fun w843 H => ⟨trivial, fun a S => ?_⟩)
           refine lx_nil ?_
           refine inBlock_norm ?_
           exact ⟨(xs702.set x824.toNat (W (x359 + (1 : Int)))), S.sub ⟨rfl, rfl, rfl, rfl, rfl, trivial⟩, H, hm⟩
          ·have hm := ite_f hc840 hm
           refine wp_skip ?_
           refine inBlock_norm ?_
           exact ⟨xs702, S.sub ⟨rfl, rfl, rfl, rfl, rfl, trivial⟩, H, hm⟩
        ·skip
         refine wp_seq (region_plain ?_)
         refine lq (.bool a2) S (q_move rfl) fun a S => ?_
         refine lx_nil (thenN ?_)
         refine cond_b S rfl (fun hc844 => ?_) (fun hc844 => ?_)
         ·have hm := ite_t hc844 hm
          refine wp_seq (region_plain ?_)
          refine lq p0 S (q_move rfl) fun a S => ?_
          refine lq p0 S (q_nilCheck rfl ((hat33 0 _ rfl).isP)) fun a S => ?_
          refine lq (pAdd p0 3) S (q_fieldAddr' 3 28 rfl ((hat33 0 _ rfl).isP) Tryz.underlying30 rfl Tryz.sizeOf28) fun a S => ?_
          refine lx_e v36 S trivial (by decide) rfl trivial (q_load1 rfl Tryz.isAgg28 (by rintro _ rfl; exact (At.of_add (m := 3) (j := 0) ((hat33 3 _ rfl).ext H.ext)))) (fun a S => ?_)
          refine lq (.int .i64 x703) S (q_move rfl) fun a S => ?_
          obtain ⟨x845, e846, hm⟩ := bind_some hm
          obtain ⟨c847, h848, hat849⟩ := (h37).elem (idx_some e846).2
          obtain ⟨c850, c851, rfl, h852, h853⟩ := h848
          obtain rfl := h852
          obtain ⟨c854, c855, rfl, h856, h857⟩ := h853
          obtain rfl := h856
          obtain rfl := h857
          have hlt := lt_of_idx (idx_some e846).2
          refine lq (ePtr v36 (x703.toNat * 3)) S (q_indexAddr rfl (h37).isSl rfl (idx_some e846).1 hlt Tryz.underlying28 Tryz.sizeOf72) fun a S => ?_
          refine lq (pAdd (ePtr v36 (x703.toNat * 3)) 2) S (q_fieldAddr' 2 2 rfl ((hat849 0 _ rfl).isP) Tryz.underlying72 rfl Tryz.sizeOf2) fun a S => ?_
          refine lx_e (.int .i64 x845.2.2) S trivial (by decide) rfl trivial (q_load1 rfl Tryz.isAgg2 (by rintro _ rfl; exact (At.of_add (m := 2) (j := 0) ((hat849 2 _ rfl).ext H.ext)))) (fun a S => ?_)
          refine lq (.int .i64 x845.2.2) S (q_assign rfl) fun a S => ?_
          refine lx_nil (thenN ?_)
          refine region_plain ?_
          refine lq p0 S (q_move rfl) fun a S => ?_
          refine lq p0 S (q_nilCheck rfl ((hat33 0 _ rfl).isP)) fun a S => ?_
          refine lq (pAdd p0 3) S (q_fieldAddr' 3 28 rfl ((hat33 0 _ rfl).isP) Tryz.underlying30 rfl Tryz.sizeOf28) fun a S => ?_
          refine lx_e v36 S trivial (by decide) rfl trivial (q_load1 rfl Tryz.isAgg28 (by rintro _ rfl; exact (At.of_add (m := 3) (j := 0) ((hat33 3 _ rfl).ext H.ext)))) (fun a S => ?_)
          refine lq (.int .i64 x703) S (q_move rfl) fun a S => ?_
          obtain ⟨x858, e859, hm⟩ := bind_some hm
          obtain ⟨c860, h861, hat862⟩ := (h37).elem (idx_some e859).2
          obtain ⟨c863, c864, rfl, h865, h866⟩ := h861
          obtain rfl := h865
          obtain ⟨c867, c868, rfl, h869, h870⟩ := h866
          obtain rfl := h869
          obtain rfl := h870
          have hlt := lt_of_idx (idx_some e859).2
          refine lq (ePtr v36 (x703.toNat * 3)) S (q_indexAddr rfl (h37).isSl rfl (idx_some e859).1 hlt Tryz.underlying28 Tryz.sizeOf72) fun a S => ?_
          refine lq (pAdd (ePtr v36 (x703.toNat * 3)) 0) S (q_fieldAddr' 0 2 rfl ((hat862 0 _ rfl).isP) Tryz.underlying72 rfl Tryz.sizeOf2) fun a S => ?_
          refine lx_e (.int .i64 x858.1) S trivial (by decide) rfl trivial (q_load1 rfl Tryz.isAgg2 (by rintro _ rfl; exact (At.of_add (m := 0) (j := 0) ((hat862 0 _ rfl).ext H.ext)))) (fun a S => ?_)
          refine lq (.int .i64 x858.1) S (q_assign rfl) fun a S => ?_
          refine lx_nil ?_
          exact ⟨x845.2.2, x858.1, S.sub ⟨rfl, rfl, rfl, rfl, rfl, rfl, rfl, trivial⟩, H, hm⟩
         ·have hm := ite_f hc844 hm
          refine wp_skip ?_
          exact ⟨x797.1, x810.2.2, S.sub ⟨rfl, rfl, rfl, rfl, rfl, rfl, rfl, trivial⟩, H, hm⟩
      ·have hm := ite_f hc793 hm
       refine wp_exit ?_
       refine then_exit ?_
       refine then_exit ?_
       refine inBlock_exit ?_
       obtain rfl := it_brk hm hc792
       exact ⟨xs702, S.sub ⟨rfl, rfl, rfl, rfl, trivial⟩, H, rfl⟩
    ·have hm := ite_f hc621 hm
     refine wp_exit ?_
     refine then_exit ?_
     refine then_exit ?_
     refine inBlock_exit ?_
     obtain rfl := it_brk hm hc620
     exact ⟨xs358, S.sub ⟨rfl, trivial⟩, H, rfl⟩
  ·skip
   refine loop_ghost (fun n a w => ∃ (xs87 : List Int) (x88 : Int), Slots a 111 [(0, p0), (1, p1), (2, (.bool a2)), (7, v53), (9, (.int .i64 x88))] ∧ Heap w0 [oA (rList (rInt .i64)) v53 xs87] w ∧ iter f103 n (xs87, x88) = some res101) _ ⟨xs70, (0 : Int), S.sub ⟨rfl, rfl, rfl, rfl, rfl, trivial⟩, H, hit102⟩ ?_
   rintro n a w ⟨xs87, x88, S, H, hit102⟩
   obtain ⟨m871, o872, rfl, hm, hc873⟩ := iter_step hit102
   rw [hf104] at hm
   refine wp_seq (wp_seq (region_plain ?_))
   refine lq (.int .i64 x88) S (q_move rfl) fun a S => ?_
   refine lq p1 S (q_move rfl) fun a S => ?_
   refine lq (.int .i64 (a1.length : Int)) S (q_lenSl rfl (h1).isSl rfl Tryz.underlying34) fun a S => ?_
   refine lq (.bool (decide (x88 < (a1.length : Int)))) S (q_lss rfl rfl) fun a S => ?_
   refine lx_nil (thenN ?_)
   refine cond_b S rfl (fun hc874 => ?_) (fun hc874 => ?_)
   ·have hm := ite_t hc874 hm
    refine wp_skip (thenN ?_)
    refine wp_seq ?_
    refine wp_block ?_
    refine region_plain ?_
    refine lq v53 S (q_move rfl) fun a S => ?_
    refine lq p1 S (q_move rfl) fun a S => ?_
    refine lq (.int .i64 x88) S (q_move rfl) fun a S => ?_
    obtain ⟨x875, e876, hm⟩ := bind_some hm
    obtain ⟨c877, h878, hat879⟩ := (h1).elem (idx_some e876).2
    obtain rfl := h878
    have hlt := lt_of_idx (idx_some e876).2
    refine lq (ePtr p1 (x88.toNat * 1)) S (q_indexAddr rfl (h1).isSl rfl (idx_some e876).1 hlt Tryz.underlying34 Tryz.sizeOf2) fun a S => ?_
    refine lx_e (.int .i64 x875) S trivial (by decide) rfl trivial (q_load1 rfl Tryz.isAgg2 (by rintro _ rfl; exact ((hat879 0 _ rfl).ext H.ext))) (fun a S => ?_)
    obtain ⟨x880, e881, hm⟩ := bind_some hm
    have hlt := lt_of_idx (idx_some e881).2
    refine lq (ePtr v53 (x875.toNat * 1)) S (q_indexAddr rfl (H.isSl 0 rfl) rfl (idx_some e881).1 hlt Tryz.underlying34 Tryz.sizeOf2) fun a S => ?_
    refine lx_storeElem (r := (rInt .i64)) (us := [(.int .i64 (0 : Int))]) (off := 0) (e' := (0 : Int)) S trivial rfl H.putE (ev_zero rfl) rfl (idx_some e881).2 rfl Tryz.sizeOf2 (Nat.le_of_ble_eq_true rfl) (List.forall_mem_cons.2 ⟨rfl, (fun _ h => nomatch h)⟩) (Upd.full rfl (fun w G hG => by cases (show G = [] from hG); exact ⟨rfl, rfl⟩)) (fun w882 H => ⟨trivial, fun a S => ?_⟩)
    refine lx_nil ?_
    refine inBlock_norm ?_
    refine thenN ?_
    refine region_plain ?_
    refine lq (.int .i64 x88) S (q_move rfl) fun a S => ?_
    refine lq (.int .i64 (W (x88 + (1 : Int)))) S (q_add rfl rfl) fun a S => ?_
    refine lq (.int .i64 (W (x88 + (1 : Int)))) S (q_assign rfl) fun a S => ?_
    refine lx_nil ?_
    exact ⟨m871, Nat.lt_succ_self _, (xs87.set x875.toNat (0 : Int)), (W (x88 + (1 : Int))), S.sub ⟨rfl, rfl, rfl, rfl, rfl, trivial⟩, H, it_cont hm hc873⟩
   ·have hm := ite_f hc874 hm
    refine wp_exit ?_
    refine then_exit ?_
    refine then_exit ?_
    refine inBlock_exit ?_
    obtain rfl := it_brk hm hc873
    exact ⟨xs87, S.sub ⟨rfl, rfl, rfl, trivial⟩, H, rfl⟩
 ·skip
  refine loop_ghost (fun n a w => ∃ (xs62 : List Int) (x63 : Int), Slots a 111 [(0, p0), (1, p1), (2, (.bool a2)), (7, v53), (8, (.int .i64 x63))] ∧ Heap w0 [oA (rList (rInt .i64)) v53 xs62] w ∧ iter f73 n (xs62, x63) = some res71) _ ⟨(List.replicate m52 (0 : Int)), (0 : Int), S.sub ⟨rfl, rfl, rfl, rfl, rfl, trivial⟩, H, hit72⟩ ?_
  rintro n a w ⟨xs62, x63, S, H, hit72⟩
  obtain ⟨m883, o884, rfl, hm, hc885⟩ := iter_step hit72
  rw [hf74] at hm
  refine wp_seq (wp_seq (region_plain ?_))
  refine lq (.int .i64 x63) S (q_move rfl) fun a S => ?_
  refine lq p0 S (q_move rfl) fun a S => ?_
  refine lq p0 S (q_nilCheck rfl ((hat33 0 _ rfl).isP)) fun a S => ?_
  refine lq (pAdd p0 0) S (q_fieldAddr' 0 2 rfl ((hat33 0 _ rfl).isP) Tryz.underlying30 rfl Tryz.sizeOf2) fun a S => ?_
  refine lx_e (.int .i64 a0.1) S trivial (by decide) rfl trivial (q_load1 rfl Tryz.isAgg2 (by rintro _ rfl; exact (At.of_add (m := 0) (j := 0) ((hat33 0 _ rfl).ext H.ext)))) (fun a S => ?_)
  refine lq (.bool (decide (x63 < a0.1))) S (q_lss rfl rfl) fun a S => ?_
  refine lx_nil (thenN ?_)
  refine cond_b S rfl (fun hc886 => ?_) (fun hc886 => ?_)
  ·have hm := ite_t hc886 hm
   refine wp_skip (thenN ?_)
   refine wp_seq ?_
   refine wp_block ?_
   refine region_plain ?_
   refine lq v53 S (q_move rfl) fun a S => ?_
   refine lq (.int .i64 x63) S (q_move rfl) fun a S => ?_
   obtain ⟨x887, e888, hm⟩ := bind_some hm
   have hlt := lt_of_idx (idx_some e888).2
   refine lq (ePtr v53 (x63.toNat * 1)) S (q_indexAddr rfl (H.isSl 0 rfl) rfl (idx_some e888).1 hlt Tryz.underlying34 Tryz.sizeOf2) fun a S => ?_
   refine lx_storeElem (r := (rInt .i64)) (us := [(.int .i64 (-1 : Int))]) (off := 0) (e' := (-1 : Int)) S trivial rfl H.putE (ev_zero rfl) rfl (idx_some e888).2 rfl Tryz.sizeOf2 (Nat.le_of_ble_eq_true rfl) (List.forall_mem_cons.2 ⟨rfl, (fun _ h => nomatch h)⟩) (Upd.full rfl (fun w G hG => by cases (show G = [] from hG); exact ⟨rfl, rfl⟩)) (fun w889 H => ⟨trivial, fun a S => ?_⟩)
   refine lx_nil ?_
   refine inBlock_norm ?_
   refine thenN ?_
   refine region_plain ?_
   refine lq (.int .i64 x63) S (q_move rfl) fun a S => ?_
   refine lq (.int .i64 (W (x63 + (1 : Int)))) S (q_add rfl rfl) fun a S => ?_
   refine lq (.int .i64 (W (x63 + (1 : Int)))) S (q_assign rfl) fun a S => ?_
   refine lx_nil ?_
   exact ⟨m883, Nat.lt_succ_self _, (xs62.set x63.toNat (-1 : Int)), (W (x63 + (1 : Int))), S.sub ⟨rfl, rfl, rfl, rfl, rfl, trivial⟩, H, it_cont hm hc885⟩
  ·have hm := ite_f hc886 hm
   refine wp_exit ?_
   refine then_exit ?_
   refine then_exit ?_
   refine inBlock_exit ?_
   obtain rfl := it_brk hm hc885
   exact ⟨xs62, S.sub ⟨rfl, rfl, rfl, rfl, trivial⟩, H, rfl⟩
end Go.Proofs.YtkgkfbmcnchdbaaGreatDoor
