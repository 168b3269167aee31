/- The models of some functions and their walks (printed by a program of this repo). -/
import Derived.Test.YtepcckhcocjgaaaDoorF0
import Derived.Test.YtepcckhcocjgaaaDoorF1
import Derived.Test.YtepcckhcocjgaaaDoorFS
import Derived.Test.YtepcckhcocjgaaaDoorGxT
import Derived.Test.YtepcckhcocjgaaaDoorGxY
namespace Go.Proofs.YtepcckhcocjgaaaDoor
open Go.RowKit Go.Gx

/-- laws.szInt64S -/
def laws_szInt64S_m (_ : Nat) (a0 : (List Int)) (a1 : Int) : Option (Int) :=
  (if (decide ((W (a1 - (a0.length : Int))) < (0 : Int))) = true then some ((-1 : Int)) else some ((W (a1 - (a0.length : Int)))))
set_option maxRecDepth 20000 in
theorem laws_szInt64S_ok {w0 : World} {fuel : Nat} {p0 : Value} {a0 : (List Int)} {a1 : Int} {r : Int} (h0 : Rd (rList (rInt .i64)) w0 p0 a0) (hm : laws_szInt64S_m fuel a0 a1 = some r) :
  Calls Tryd.prog 45 #[p0, .int .i64 a1] w0 fun e w => e = .returned (.int .i64 r) ∧ Heap w0 [] w := by
 unfold laws_szInt64S_m at hm
 have H := Heap.start w0
 refine enter (args := [p0, .int .i64 a1]) Tryd.func45 rfl 12 rfl (Nat.le_of_ble_eq_true rfl) (fun a S => ?_)
 refine wp_seq (region_plain ?_)
 refine lq (.int .i64 (0 : Int)) S (q_assign rfl) fun a S => ?_
 refine lx_nil (thenN ?_)
 refine wp_seq (region_plain ?_)
 refine lq (.int .i64 a1) S (q_move rfl) fun a S => ?_
 refine lq p0 S (q_move rfl) fun a S => ?_
 refine lq (.int .i64 (a0.length : Int)) S (q_lenSl rfl (h0).isSl rfl Tryd.underlying48) fun a S => ?_
 refine lq (.int .i64 (W (a1 - (a0.length : Int)))) S (q_sub rfl rfl) fun a S => ?_
 refine lq (.int .i64 (W (a1 - (a0.length : Int)))) S (q_assign rfl) fun a S => ?_
 refine lx_nil (thenN ?_)
 refine wp_seq (wp_seq (region_plain ?_))
 refine lq (.int .i64 (W (a1 - (a0.length : Int)))) S (q_move rfl) fun a S => ?_
 refine lq (.bool (decide ((W (a1 - (a0.length : Int))) < (0 : Int)))) S (q_lss rfl rfl) fun a S => ?_
 refine lx_nil (thenN ?_)
 refine cond_b S rfl (fun hc31 => ?_) (fun hc31 => ?_)
 ·have hm := ite_t hc31 hm
  refine wp_seq (region_plain ?_)
  refine lq (.int .i64 (-1 : Int)) S (q_assign rfl) fun a S => ?_
  refine lx_nil (thenN ?_)
  refine wp_ret (then_ret ?_)
  obtain rfl := Option.some.inj hm
  exact leave1 S rfl rfl ⟨rfl, H⟩
 ·have hm := ite_f hc31 hm
  refine wp_skip (thenN ?_)
  refine wp_seq (region_plain ?_)
  refine lq (.int .i64 (W (a1 - (a0.length : Int)))) S (q_move rfl) fun a S => ?_
  refine lq (.int .i64 (W (a1 - (a0.length : Int)))) S (q_assign rfl) fun a S => ?_
  refine lx_nil (thenN ?_)
  refine wp_ret ?_
  obtain rfl := Option.some.inj hm
  exact leave1 S rfl rfl ⟨rfl, H⟩

/-- laws.toInt64S -/
def laws_toInt64S_m (fuel : Nat) (a0 : (List Int)) : Option ((List Int)) :=
  (mks (a0.length : Int) (0 : Int)).bind fun x31 => (iter (fun (s : (List Int) × (Int)) => (match s with | (xs48, x49) => (if (decide (x49 < (a0.length : Int))) = true then (idx a0 x49).bind fun x71 => (idx xs48 x49).bind fun _ => some (.inl ((xs48.set x49.toNat x71), (W (x49 + (1 : Int))))) else some (.inr (.inl (xs48)))) : Option (((List Int) × (Int)) ⊕ (((List Int)) ⊕ ((List Int)))))) fuel (x31, (0 : Int))).bind fun res62 => ctl (β := (List Int)) (ρ := (List Int)) (τ := (List Int)) res62 (fun (xs61) => some (xs61)) (fun q => some (q))
set_option maxRecDepth 20000 in
theorem laws_toInt64S_ok {w0 : World} {fuel : Nat} {p0 : Value} {a0 : (List Int)} {r : (List Int)} (h0 : Rd (rList (rInt .i64)) w0 p0 a0) (hm : laws_toInt64S_m fuel a0 = some r) :
  Calls Tryd.prog 48 #[p0] w0 fun e w => ∃ (v0 : Value), e = .returned (v0) ∧ Heap w0 [oA (rList (rInt .i64)) v0 r] w := by
 unfold laws_toInt64S_m at hm
 have H := Heap.start w0
 refine enter (args := [p0]) Tryd.func48 rfl 22 rfl (Nat.le_of_ble_eq_true rfl) (fun a S => ?_)
 refine wp_seq (region_plain ?_)
 refine lq (.slice none 0 0) S (q_assign rfl) fun a S => ?_
 refine lx_nil (thenN ?_)
 refine wp_seq (region_plain ?_)
 refine lq p0 S (q_move rfl) fun a S => ?_
 refine lq (.int .i64 (a0.length : Int)) S (q_lenSl rfl (h0).isSl rfl Tryd.underlying48) fun a S => ?_
 obtain ⟨x31, e32, hm⟩ := bind_some hm
 obtain ⟨m33, hn, hn2, rfl⟩ := mks_some e32
 refine lx_make (r := (rInt .i64)) (z0 := (0 : Int)) (n := m33) S trivial (by decide) rfl H (by rw [← hn]; rfl) (by rw [← hn]; rfl) Tryd.underlying48 (Tryd.ti2) rfl rfl (Nat.le_of_ble_eq_true rfl) (fun w => ⟨rfl, rfl⟩) hn2 (by decide) (fun v34 w35 H => ⟨trivial, fun a S => ?_⟩)
 refine lq v34 S (q_assign rfl) fun a S => ?_
 refine lx_nil (thenN ?_)
 refine wp_seq (wp_seq (region_plain ?_))
 refine lq (.int .i64 (0 : Int)) S (q_assign rfl) fun a S => ?_
 refine lx_nil (thenN ?_)
 obtain ⟨res62, hit63, hk66⟩ := bind_some hm
 obtain ⟨f64, hf65, hit63⟩ := iter_name hit63
 refine block_loop (fun a w => ∃ (xs61 : List Int), Slots a 22 [(3, v34)] ∧ Heap w0 [oA (rList (rInt .i64)) v34 xs61] w ∧ res62 = .inl (xs61)) ?_ ?_
 ·rintro a w ⟨xs61, S, H, rfl⟩
  have hm := ctl_inl hk66
  refine thenN ?_
  refine wp_seq (region_plain ?_)
  refine lq v34 S (q_move rfl) fun a S => ?_
  refine lq v34 S (q_assign rfl) fun a S => ?_
  refine lx_nil (thenN ?_)
  refine wp_ret ?_
  obtain rfl := Option.some.inj hm
  exact leave1 S rfl rfl ⟨v34, rfl, H⟩
 ·skip
  refine loop_ghost (fun n a w => ∃ (xs48 : List Int) (x49 : Int), Slots a 22 [(0, p0), (3, v34), (4, (.int .i64 x49))] ∧ Heap w0 [oA (rList (rInt .i64)) v34 xs48] w ∧ iter f64 n (xs48, x49) = some res62) _ ⟨(List.replicate m33 (0 : Int)), (0 : Int), S.sub ⟨rfl, rfl, rfl, trivial⟩, H, hit63⟩ ?_
  rintro n a w ⟨xs48, x49, S, H, hit63⟩
  obtain ⟨m67, o68, rfl, hm, hc69⟩ := iter_step hit63
  rw [hf65] at hm
  refine wp_seq (wp_seq (region_plain ?_))
  refine lq (.int .i64 x49) S (q_move rfl) fun a S => ?_
  refine lq p0 S (q_move rfl) fun a S => ?_
  refine lq (.int .i64 (a0.length : Int)) S (q_lenSl rfl (h0).isSl rfl Tryd.underlying48) fun a S => ?_
  refine lq (.bool (decide (x49 < (a0.length : Int)))) S (q_lss rfl rfl) fun a S => ?_
  refine lx_nil (thenN ?_)
  refine cond_b S rfl (fun hc70 => ?_) (fun hc70 => ?_)
  ·have hm := ite_t hc70 hm
   refine wp_skip (thenN ?_)
   refine wp_seq ?_
   refine wp_block ?_
   refine region_plain ?_
   refine lq v34 S (q_move rfl) fun a S => ?_
   refine lq (.int .i64 x49) S (q_move rfl) fun a S => ?_
   refine lq p0 S (q_move rfl) fun a S => ?_
   refine lq (.int .i64 x49) S (q_move rfl) fun a S => ?_
   obtain ⟨x71, e72, hm⟩ := bind_some hm
   obtain ⟨c73, h74, hat75⟩ := (h0).elem (idx_some e72).2
   obtain rfl := h74
   have hlt := lt_of_idx (idx_some e72).2
   refine lq (ePtr p0 (x49.toNat * 1)) S (q_indexAddr rfl (h0).isSl rfl (idx_some e72).1 hlt Tryd.underlying48 Tryd.sizeOf2) fun a S => ?_
   refine lx_e (.int .i64 x71) S trivial (by decide) rfl trivial (q_load1 rfl Tryd.isAgg2 (by rintro _ rfl; exact ((hat75 0 _ rfl).ext H.ext))) (fun a S => ?_)
   obtain ⟨x76, e77, hm⟩ := bind_some hm
   have hlt := lt_of_idx (idx_some e77).2
   refine lq (ePtr v34 (x49.toNat * 1)) S (q_indexAddr rfl (H.isSl 0 rfl) rfl (idx_some e77).1 hlt Tryd.underlying48 Tryd.sizeOf2) fun a S => ?_
   refine lx_storeElem (r := (rInt .i64)) (us := [(.int .i64 x71)]) (off := 0) (e' := x71) S trivial rfl H.putE (ev_zero rfl) rfl (idx_some e77).2 rfl Tryd.sizeOf2 (Nat.le_of_ble_eq_true rfl) (List.forall_mem_cons.2 ⟨rfl, (fun _ h => nomatch h)⟩) (Upd.full rfl (fun w G hG => by cases (show G = [] from hG); exact ⟨rfl, rfl⟩)) (fun w78 H => ⟨trivial, fun a S => ?_⟩)
   refine lx_nil ?_
   refine inBlock_norm ?_
   refine thenN ?_
   refine region_plain ?_
   refine lq (.int .i64 x49) S (q_move rfl) fun a S => ?_
   refine lq (.int .i64 (W (x49 + (1 : Int)))) S (q_add rfl rfl) fun a S => ?_
   refine lq (.int .i64 (W (x49 + (1 : Int)))) S (q_assign rfl) fun a S => ?_
   refine lx_nil ?_
   exact ⟨m67, Nat.lt_succ_self _, (xs48.set x49.toNat x71), (W (x49 + (1 : Int))), S.sub ⟨rfl, rfl, rfl, trivial⟩, H, it_cont hm hc69⟩
  ·have hm := ite_f hc70 hm
   refine wp_exit ?_
   refine then_exit ?_
   refine then_exit ?_
   refine inBlock_exit ?_
   obtain rfl := it_brk hm hc69
   exact ⟨xs48, S.sub ⟨rfl, trivial⟩, H, rfl⟩

/-- spec.l24Fits -/
def spec_l24Fits_m (fuel : Nat) (a0 : Timpl_Proof) : Option (Bool) :=
  (iter (fun (s : (Int)) => (match s with | (x149) => (if (decide (x149 < (a0.2.length : Int))) = true then (idx a0.2 x149).bind fun x268 => (if ((x268.length : Int) != (2 : Int)) = true then (idx a0.2 x149).bind fun x278 => some ((x278.length : Int) != (4 : Int)) else some false).bind fun t275 => (if t275 = true then some (.inr (.inr false)) else (iter (fun (s : (Int)) => (match s with | (x313) => (idx a0.2 x149).bind fun x349 => (if (decide (x313 < (x349.length : Int))) = true then (idx a0.2 x149).bind fun x357 => (idx x357 x313).bind fun x364 => (spec_l00In_m fuel x364 (0 : Int) (120 : Int)).bind fun x371 => (if (!x371) = true then some (.inr (.inr false)) else some (.inl ((W (x313 + (1 : Int)))))) else some (.inr (.inl ()))) : Option (((Int)) ⊕ ((Unit) ⊕ (Bool))))) fuel ((0 : Int))).bind fun res341 => ctl (β := Unit) (ρ := Bool) (τ := (((Int)) ⊕ ((Unit) ⊕ (Bool)))) res341 (fun _ => some (.inl ((W (x149 + (1 : Int)))))) (fun q => some (.inr (.inr q)))) else some (.inr (.inl ()))) : Option (((Int)) ⊕ ((Unit) ⊕ (Bool))))) fuel ((0 : Int))).bind fun res259 => ctl (β := Unit) (ρ := Bool) (τ := Bool) res259 (fun _ => some ((decide ((a0.2.length : Int) ≤ (120 : Int))))) (fun q => some (q))
set_option maxRecDepth 20000 in
theorem spec_l24Fits_ok {w0 : World} {fuel : Nat} {p0 : Value} {a0 : Timpl_Proof} {r : Bool} (h0 : Rd (rPtr Rimpl_Proof) w0 p0 a0) (hm : spec_l24Fits_m fuel a0 = some r) :
  Calls Tryd.prog 21 #[p0] w0 fun e w => e = .returned (.bool r) ∧ Heap w0 [] w := by
 unfold spec_l24Fits_m at hm
 have H := Heap.start w0
 obtain ⟨c31, h32, hat33⟩ := h0.ptr
 obtain ⟨c36, c37, rfl, h38, h39⟩ := h32
 obtain rfl := h38
 obtain ⟨v34, rfl, h35⟩ := rd_list h39
 refine enter (args := [p0]) Tryd.func21 rfl 64 rfl (Nat.le_of_ble_eq_true rfl) (fun a S => ?_)
 refine wp_seq (region_plain ?_)
 refine lq (.bool false) S (q_assign rfl) fun a S => ?_
 refine lx_nil (thenN ?_)
 refine wp_seq (wp_seq (region_plain ?_))
 refine lq (.int .i64 (0 : Int)) S (q_assign rfl) fun a S => ?_
 refine lx_nil (thenN ?_)
 obtain ⟨res259, hit260, hk263⟩ := bind_some hm
 obtain ⟨f261, hf262, hit260⟩ := iter_name hit260
 refine block_loop (fun a w => Slots a 64 [(0, p0)] ∧ Heap w0 [] w ∧ res259 = .inl ()) ?_ ?_
 ·rintro a w ⟨S, H, rfl⟩
  have hm := ctl_inl hk263
  refine thenN ?_
  refine wp_seq (region_plain ?_)
  refine lq p0 S (q_move rfl) fun a S => ?_
  refine lq p0 S (q_nilCheck rfl ((hat33 0 _ rfl).isP)) fun a S => ?_
  refine lq (pAdd p0 1) S (q_fieldAddr' 1 22 rfl ((hat33 0 _ rfl).isP) Tryd.underlying27 rfl Tryd.sizeOf22) fun a S => ?_
  refine lx_e v34 S trivial (by decide) rfl trivial (q_load1 rfl Tryd.isAgg22 (by rintro _ rfl; exact (At.of_add (m := 1) (j := 0) ((hat33 1 _ rfl).ext H.ext)))) (fun a S => ?_)
  refine lq (.int .i64 (a0.2.length : Int)) S (q_lenSl rfl (h35).isSl rfl Tryd.underlying22) fun a S => ?_
  refine lq (.bool (decide ((a0.2.length : Int) ≤ (120 : Int)))) S (q_leq rfl rfl) fun a S => ?_
  refine lq (.bool (decide ((a0.2.length : Int) ≤ (120 : Int)))) S (q_assign rfl) fun a S => ?_
  refine lx_nil (thenN ?_)
  refine wp_ret ?_
  obtain rfl := Option.some.inj hm
  exact leave1 S rfl rfl ⟨rfl, H⟩
 ·skip
  refine loop_ghost (fun n a w => ∃ (x149 : Int), Slots a 64 [(0, p0), (3, (.int .i64 x149))] ∧ Heap w0 [] w ∧ iter f261 n (x149) = some res259) _ ⟨(0 : Int), S.sub ⟨rfl, rfl, trivial⟩, H, hit260⟩ ?_
  rintro n a w ⟨x149, S, H, hit260⟩
  obtain ⟨m264, o265, rfl, hm, hc266⟩ := iter_step hit260
  rw [hf262] at hm
  refine wp_seq (wp_seq (region_plain ?_))
  refine lq (.int .i64 x149) S (q_move rfl) fun a S => ?_
  refine lq p0 S (q_move rfl) fun a S => ?_
  refine lq p0 S (q_nilCheck rfl ((hat33 0 _ rfl).isP)) fun a S => ?_
  refine lq (pAdd p0 1) S (q_fieldAddr' 1 22 rfl ((hat33 0 _ rfl).isP) Tryd.underlying27 rfl Tryd.sizeOf22) fun a S => ?_
  refine lx_e v34 S trivial (by decide) rfl trivial (q_load1 rfl Tryd.isAgg22 (by rintro _ rfl; exact (At.of_add (m := 1) (j := 0) ((hat33 1 _ rfl).ext H.ext)))) (fun a S => ?_)
  refine lq (.int .i64 (a0.2.length : Int)) S (q_lenSl rfl (h35).isSl rfl Tryd.underlying22) fun a S => ?_
  refine lq (.bool (decide (x149 < (a0.2.length : Int)))) S (q_lss rfl rfl) fun a S => ?_
  refine lx_nil (thenN ?_)
  refine cond_b S rfl (fun hc267 => ?_) (fun hc267 => ?_)
  ·have hm := ite_t hc267 hm
   refine wp_skip (thenN ?_)
   refine wp_seq ?_
   refine wp_block ?_
   refine wp_seq (wp_seq (region_plain ?_))
   refine lq p0 S (q_move rfl) fun a S => ?_
   refine lq p0 S (q_nilCheck rfl ((hat33 0 _ rfl).isP)) fun a S => ?_
   refine lq (pAdd p0 1) S (q_fieldAddr' 1 22 rfl ((hat33 0 _ rfl).isP) Tryd.underlying27 rfl Tryd.sizeOf22) fun a S => ?_
   refine lx_e v34 S trivial (by decide) rfl trivial (q_load1 rfl Tryd.isAgg22 (by rintro _ rfl; exact (At.of_add (m := 1) (j := 0) ((hat33 1 _ rfl).ext H.ext)))) (fun a S => ?_)
   refine lq (.int .i64 x149) S (q_move rfl) fun a S => ?_
   obtain ⟨x268, e269, hm⟩ := bind_some hm
   obtain ⟨c270, h271, hat272⟩ := (h35).elem (idx_some e269).2
   obtain ⟨v273, rfl, h274⟩ := rd_list h271
   have hlt := lt_of_idx (idx_some e269).2
   refine lq (ePtr v34 (x149.toNat * 1)) S (q_indexAddr rfl (h35).isSl rfl (idx_some e269).1 hlt Tryd.underlying22 Tryd.sizeOf48) fun a S => ?_
   refine lx_e v273 S trivial (by decide) rfl trivial (q_load1 rfl Tryd.isAgg48 (by rintro _ rfl; exact ((hat272 0 _ rfl).ext H.ext))) (fun a S => ?_)
   refine lq (.int .i64 (x268.length : Int)) S (q_lenSl rfl (h274).isSl rfl Tryd.underlying48) fun a S => ?_
   refine lq (.bool ((x268.length : Int) != (2 : Int))) S (q_neq rfl rfl) fun a S => ?_
   refine lq (.bool ((x268.length : Int) != (2 : Int))) S (q_move rfl) fun a S => ?_
   obtain ⟨t275, e276, hm⟩ := bind_some hm
   refine lx_cut 10 (fun a w => Slots a 64 [(0, p0), (3, (.int .i64 x149)), (33, (.bool t275))] ∧ Heap w0 [] w) ?_ ?_
   ·by_cases hc277 : ((x268.length : Int) != (2 : Int)) = true
    ·have hm := ite_t hc277 e276
     refine lx_q p0 S (want_b rfl rfl hc277) (by decide) (q_move rfl) (fun a S => ?_)
     refine lx_q p0 S (want_b rfl rfl hc277) (by decide) (q_nilCheck rfl ((hat33 0 _ rfl).isP)) (fun a S => ?_)
     refine lx_q (pAdd p0 1) S (want_b rfl rfl hc277) (by decide) (q_fieldAddr' 1 22 rfl ((hat33 0 _ rfl).isP) Tryd.underlying27 rfl Tryd.sizeOf22) (fun a S => ?_)
     refine lx_e v34 S (want_b rfl rfl hc277) (by decide) rfl trivial (q_load1 rfl Tryd.isAgg22 (by rintro _ rfl; exact (At.of_add (m := 1) (j := 0) ((hat33 1 _ rfl).ext H.ext)))) (fun a S => ?_)
     refine lx_q (.int .i64 x149) S (want_b rfl rfl hc277) (by decide) (q_move rfl) (fun a S => ?_)
     obtain ⟨x278, e279, hm⟩ := bind_some hm
     obtain ⟨c280, h281, hat282⟩ := (h35).elem (idx_some e279).2
     obtain ⟨v283, rfl, h284⟩ := rd_list h281
     have hlt := lt_of_idx (idx_some e279).2
     refine lx_q (ePtr v34 (x149.toNat * 1)) S (want_b rfl rfl hc277) (by decide) (q_indexAddr rfl (h35).isSl rfl (idx_some e279).1 hlt Tryd.underlying22 Tryd.sizeOf48) (fun a S => ?_)
     refine lx_e v283 S (want_b rfl rfl hc277) (by decide) rfl trivial (q_load1 rfl Tryd.isAgg48 (by rintro _ rfl; exact ((hat282 0 _ rfl).ext H.ext))) (fun a S => ?_)
     refine lx_q (.int .i64 (x278.length : Int)) S (want_b rfl rfl hc277) (by decide) (q_lenSl rfl (h284).isSl rfl Tryd.underlying48) (fun a S => ?_)
     refine lx_q (.bool ((x278.length : Int) != (4 : Int))) S (want_b rfl rfl hc277) (by decide) (q_neq rfl rfl) (fun a S => ?_)
     refine lq (.bool ((x278.length : Int) != (4 : Int))) S (q_pickT' rfl hc277 rfl) fun a S => ?_
     refine lx_nil ?_
     obtain rfl := Option.some.inj hm
     exact ⟨S.sub ⟨rfl, rfl, rfl, trivial⟩, H⟩
    ·have hm := ite_f (eq_false_of_ne_true hc277) e276
     have hc277 : ((x268.length : Int) != (2 : Int)) = false := eq_false_of_ne_true hc277
     refine lx_skip S rfl rfl (isB_ne hc277) (by decide) (fun a S => ?_)
     refine lx_skip S rfl rfl (isB_ne hc277) (by decide) (fun a S => ?_)
     refine lx_skip S rfl rfl (isB_ne hc277) (by decide) (fun a S => ?_)
     refine lx_skip S rfl rfl (isB_ne hc277) (by decide) (fun a S => ?_)
     refine lx_skip S rfl rfl (isB_ne hc277) (by decide) (fun a S => ?_)
     refine lx_skip S rfl rfl (isB_ne hc277) (by decide) (fun a S => ?_)
     refine lx_skip S rfl rfl (isB_ne hc277) (by decide) (fun a S => ?_)
     refine lx_skip S rfl rfl (isB_ne hc277) (by decide) (fun a S => ?_)
     refine lx_skip S rfl rfl (isB_ne hc277) (by decide) (fun a S => ?_)
     refine lq (.bool false) S (q_pickF' rfl hc277 rfl) fun a S => ?_
     refine lx_nil ?_
     obtain rfl := Option.some.inj hm
     exact ⟨S.sub ⟨rfl, rfl, rfl, trivial⟩, H⟩
   ·rintro a w ⟨S, H⟩
    refine lx_nil (thenN ?_)
    refine cond_b S rfl (fun hc285 => ?_) (fun hc285 => ?_)
    ·have hm := ite_t hc285 hm
     refine wp_seq (region_plain ?_)
     refine lq (.bool false) S (q_assign rfl) fun a S => ?_
     refine lx_nil (thenN ?_)
     refine wp_ret (then_ret ?_)
     refine inBlock_ret ?_
     refine then_ret ?_
     refine then_ret ?_
     refine inBlock_ret ?_
     refine then_ret ?_
     refine then_ret ?_
     obtain rfl := it_brk hm hc266
     have hm := ctl_inr hk263
     obtain rfl := Option.some.inj hm
     exact leave1 S rfl rfl ⟨rfl, H⟩
    ·have hm := ite_f hc285 hm
     refine wp_skip (thenN ?_)
     refine wp_seq (region_plain ?_)
     refine lq (.int .i64 (0 : Int)) S (q_assign rfl) fun a S => ?_
     refine lx_nil (thenN ?_)
     obtain ⟨res341, hit342, hk345⟩ := bind_some hm
     obtain ⟨f343, hf344, hit342⟩ := iter_name hit342
     refine block_loop (fun a w => Slots a 64 [(0, p0), (3, (.int .i64 x149))] ∧ Heap w0 [] w ∧ res341 = .inl ()) ?_ ?_
     ·rintro a w ⟨S, H, rfl⟩
      have hm := ctl_inl hk345
      refine inBlock_norm ?_
      refine thenN ?_
      refine region_plain ?_
      refine lq (.int .i64 x149) S (q_move rfl) fun a S => ?_
      refine lq (.int .i64 (W (x149 + (1 : Int)))) S (q_add rfl rfl) fun a S => ?_
      refine lq (.int .i64 (W (x149 + (1 : Int)))) S (q_assign rfl) fun a S => ?_
      refine lx_nil ?_
      exact ⟨m264, Nat.lt_succ_self _, (W (x149 + (1 : Int))), S.sub ⟨rfl, rfl, trivial⟩, H, it_cont hm hc266⟩
     ·skip
      refine loop_ghost (fun n a w => ∃ (x313 : Int), Slots a 64 [(0, p0), (3, (.int .i64 x149)), (4, (.int .i64 x313))] ∧ Heap w0 [] w ∧ iter f343 n (x313) = some res341) _ ⟨(0 : Int), S.sub ⟨rfl, rfl, rfl, trivial⟩, H, hit342⟩ ?_
      rintro n a w ⟨x313, S, H, hit342⟩
      obtain ⟨m346, o347, rfl, hm, hc348⟩ := iter_step hit342
      rw [hf344] at hm
      refine wp_seq (wp_seq (region_plain ?_))
      refine lq (.int .i64 x313) S (q_move rfl) fun a S => ?_
      refine lq p0 S (q_move rfl) fun a S => ?_
      refine lq p0 S (q_nilCheck rfl ((hat33 0 _ rfl).isP)) fun a S => ?_
      refine lq (pAdd p0 1) S (q_fieldAddr' 1 22 rfl ((hat33 0 _ rfl).isP) Tryd.underlying27 rfl Tryd.sizeOf22) fun a S => ?_
      refine lx_e v34 S trivial (by decide) rfl trivial (q_load1 rfl Tryd.isAgg22 (by rintro _ rfl; exact (At.of_add (m := 1) (j := 0) ((hat33 1 _ rfl).ext H.ext)))) (fun a S => ?_)
      refine lq (.int .i64 x149) S (q_move rfl) fun a S => ?_
      obtain ⟨x349, e350, hm⟩ := bind_some hm
      obtain ⟨c351, h352, hat353⟩ := (h35).elem (idx_some e350).2
      obtain ⟨v354, rfl, h355⟩ := rd_list h352
      have hlt := lt_of_idx (idx_some e350).2
      refine lq (ePtr v34 (x149.toNat * 1)) S (q_indexAddr rfl (h35).isSl rfl (idx_some e350).1 hlt Tryd.underlying22 Tryd.sizeOf48) fun a S => ?_
      refine lx_e v354 S trivial (by decide) rfl trivial (q_load1 rfl Tryd.isAgg48 (by rintro _ rfl; exact ((hat353 0 _ rfl).ext H.ext))) (fun a S => ?_)
      refine lq (.int .i64 (x349.length : Int)) S (q_lenSl rfl (h355).isSl rfl Tryd.underlying48) fun a S => ?_
      refine lq (.bool (decide (x313 < (x349.length : Int)))) S (q_lss rfl rfl) fun a S => ?_
      refine lx_nil (thenN ?_)
      refine cond_b S rfl (fun hc356 => ?_) (fun hc356 => ?_)
      ·have hm := ite_t hc356 hm
       refine wp_skip (thenN ?_)
       refine wp_seq ?_
       refine wp_block ?_
       refine wp_seq (region_plain ?_)
       refine lq p0 S (q_move rfl) fun a S => ?_
       refine lq p0 S (q_nilCheck rfl ((hat33 0 _ rfl).isP)) fun a S => ?_
       refine lq (pAdd p0 1) S (q_fieldAddr' 1 22 rfl ((hat33 0 _ rfl).isP) Tryd.underlying27 rfl Tryd.sizeOf22) fun a S => ?_
       refine lx_e v34 S trivial (by decide) rfl trivial (q_load1 rfl Tryd.isAgg22 (by rintro _ rfl; exact (At.of_add (m := 1) (j := 0) ((hat33 1 _ rfl).ext H.ext)))) (fun a S => ?_)
       refine lq (.int .i64 x149) S (q_move rfl) fun a S => ?_
       obtain ⟨x357, e358, hm⟩ := bind_some hm
       obtain ⟨c359, h360, hat361⟩ := (h35).elem (idx_some e358).2
       obtain ⟨v362, rfl, h363⟩ := rd_list h360
       have hlt := lt_of_idx (idx_some e358).2
       refine lq (ePtr v34 (x149.toNat * 1)) S (q_indexAddr rfl (h35).isSl rfl (idx_some e358).1 hlt Tryd.underlying22 Tryd.sizeOf48) fun a S => ?_
       refine lx_e v362 S trivial (by decide) rfl trivial (q_load1 rfl Tryd.isAgg48 (by rintro _ rfl; exact ((hat361 0 _ rfl).ext H.ext))) (fun a S => ?_)
       refine lq (.int .i64 x313) S (q_move rfl) fun a S => ?_
       obtain ⟨x364, e365, hm⟩ := bind_some hm
       obtain ⟨c366, h367, hat368⟩ := (h363).elem (idx_some e365).2
       obtain rfl := h367
       have hlt := lt_of_idx (idx_some e365).2
       refine lq (ePtr v362 (x313.toNat * 1)) S (q_indexAddr rfl (h363).isSl rfl (idx_some e365).1 hlt Tryd.underlying48 Tryd.sizeOf2) fun a S => ?_
       refine lx_e (.int .i64 x364) S trivial (by decide) rfl trivial (q_load1 rfl Tryd.isAgg2 (by rintro _ rfl; exact ((hat368 0 _ rfl).ext H.ext))) (fun a S => ?_)
       obtain ⟨x371, e372, hm⟩ := bind_some hm
       refine lx_call (xs := [.tmp 55, .const (.int .i64 (0)), .const (.int .i64 (120))]) S trivial (by decide) rfl rfl Tryd.call46 ((spec_l00In_ok    e372).mono ?_)
       rintro e w369 ⟨rfl, Hc370⟩
       have H := H.call0 Hc370
       refine ⟨_, rfl, trivial, fun a S => ?_⟩
       refine lq (.bool (!x371)) S (q_not rfl) fun a S => ?_
       refine lx_nil (thenN ?_)
       refine cond_b S rfl (fun hc374 => ?_) (fun hc374 => ?_)
       ·have hm := ite_t hc374 hm
        refine wp_seq (region_plain ?_)
        refine lq (.bool false) S (q_assign rfl) fun a S => ?_
        refine lx_nil (thenN ?_)
        refine wp_ret (inBlock_ret ?_)
        refine then_ret ?_
        refine then_ret ?_
        refine inBlock_ret ?_
        refine then_ret ?_
        refine inBlock_ret ?_
        refine then_ret ?_
        refine then_ret ?_
        refine inBlock_ret ?_
        refine then_ret ?_
        refine then_ret ?_
        obtain rfl := it_brk hm hc348
        have hm := ctl_inr hk345
        obtain rfl := it_brk hm hc266
        have hm := ctl_inr hk263
        obtain rfl := Option.some.inj hm
        exact leave1 S rfl rfl ⟨rfl, H⟩
       ·have hm := ite_f hc374 hm
        refine wp_skip ?_
        refine inBlock_norm ?_
        refine thenN ?_
        refine region_plain ?_
        refine lq (.int .i64 x313) S (q_move rfl) fun a S => ?_
        refine lq (.int .i64 (W (x313 + (1 : Int)))) S (q_add rfl rfl) fun a S => ?_
        refine lq (.int .i64 (W (x313 + (1 : Int)))) S (q_assign rfl) fun a S => ?_
        refine lx_nil ?_
        exact ⟨m346, Nat.lt_succ_self _, (W (x313 + (1 : Int))), S.sub ⟨rfl, rfl, rfl, trivial⟩, H, it_cont hm hc348⟩
      ·have hm := ite_f hc356 hm
       refine wp_exit ?_
       refine then_exit ?_
       refine then_exit ?_
       refine inBlock_exit ?_
       obtain rfl := it_brk hm hc348
       exact ⟨S.sub ⟨rfl, rfl, trivial⟩, H, rfl⟩
  ·have hm := ite_f hc267 hm
   refine wp_exit ?_
   refine then_exit ?_
   refine then_exit ?_
   refine inBlock_exit ?_
   obtain rfl := it_brk hm hc266
   exact ⟨S.sub ⟨rfl, trivial⟩, H, rfl⟩

/-- spec.l24Text -/
def spec_l24Text_m (fuel : Nat) (a0 : Timpl_Proof) : Option (Str) :=
  join (κ := Str → Option Str) (fun (x40 : Str) => (iter (fun (s : (Str) × (Int)) => (match s with | (x62, x63) => (if (decide (x63 < (a0.2.length : Int))) = true then (idx a0.2 x63).bind fun x93 => (spec_l01List_m fuel x93).bind fun x102 => (cat ([10] : Str) x102).bind fun x105 => (cat x62 x105).bind fun x107 => some (.inl (x107, (W (x63 + (1 : Int))))) else some (.inr (.inl (x62)))) : Option (((Str) × (Int)) ⊕ ((Str) ⊕ (Str))))) fuel (x40, (0 : Int))).bind fun res84 => ctl (β := Str) (ρ := Str) (τ := Str) res84 (fun (x83) => some (x83)) (fun q => some (q))) (fun K41 => (if a0.1 = true then (K41 ([116, 114, 117, 101] : Str)) else (K41 ([102, 97, 108, 115, 101] : Str))))
set_option maxRecDepth 20000 in
theorem spec_l24Text_ok {w0 : World} {fuel : Nat} {p0 : Value} {a0 : Timpl_Proof} {r : Str} (h0 : Rd (rPtr Rimpl_Proof) w0 p0 a0) (hm : spec_l24Text_m fuel a0 = some r) :
  Calls Tryd.prog 22 #[p0] w0 fun e w => e = .returned (sv r) ∧ Heap w0 [] w := by
 unfold spec_l24Text_m at hm
 have H := Heap.start w0
 obtain ⟨c31, h32, hat33⟩ := h0.ptr
 obtain ⟨c36, c37, rfl, h38, h39⟩ := h32
 obtain rfl := h38
 obtain ⟨v34, rfl, h35⟩ := rd_list h39
 refine enter (args := [p0]) Tryd.func22 rfl 30 rfl (Nat.le_of_ble_eq_true rfl) (fun a S => ?_)
 refine wp_seq (region_plain ?_)
 refine lq (sv ([] : Str)) S (q_assign rfl) fun a S => ?_
 refine lx_nil (thenN ?_)
 refine wp_seq (region_plain ?_)
 refine lq (sv ([102, 97, 108, 115, 101] : Str)) S (q_assign rfl) fun a S => ?_
 refine lx_nil (thenN ?_)
 obtain ⟨K41, hK42, hm⟩ := join_elim hm
 refine seq_cut (fun a w => ∃ (x40 : Str), Slots a 30 [(0, p0), (3, (sv x40))] ∧ Heap w0 [] w ∧ K41 x40 = some r) ?_ ?_
 ·rintro a w ⟨x40, S, H, hm⟩
  subst hK42
  refine wp_seq (wp_seq (region_plain ?_))
  refine lq (.int .i64 (0 : Int)) S (q_assign rfl) fun a S => ?_
  refine lx_nil (thenN ?_)
  obtain ⟨res84, hit85, hk88⟩ := bind_some hm
  obtain ⟨f86, hf87, hit85⟩ := iter_name hit85
  refine block_loop (fun a w => ∃ (x83 : Str), Slots a 30 [(3, (sv x83))] ∧ Heap w0 [] w ∧ res84 = .inl (x83)) ?_ ?_
  ·rintro a w ⟨x83, S, H, rfl⟩
   have hm := ctl_inl hk88
   refine thenN ?_
   refine wp_seq (region_plain ?_)
   refine lq (sv x83) S (q_move rfl) fun a S => ?_
   refine lq (sv x83) S (q_assign rfl) fun a S => ?_
   refine lx_nil (thenN ?_)
   refine wp_ret ?_
   obtain rfl := Option.some.inj hm
   exact leave1 S rfl rfl ⟨rfl, H⟩
  ·skip
   refine loop_ghost (fun n a w => ∃ (x62 : Str) (x63 : Int), Slots a 30 [(0, p0), (3, (sv x62)), (4, (.int .i64 x63))] ∧ Heap w0 [] w ∧ iter f86 n (x62, x63) = some res84) _ ⟨x40, (0 : Int), S.sub ⟨rfl, rfl, rfl, trivial⟩, H, hit85⟩ ?_
   rintro n a w ⟨x62, x63, S, H, hit85⟩
   obtain ⟨m89, o90, rfl, hm, hc91⟩ := iter_step hit85
   rw [hf87] at hm
   refine wp_seq (wp_seq (region_plain ?_))
   refine lq (.int .i64 x63) S (q_move rfl) fun a S => ?_
   refine lq p0 S (q_move rfl) fun a S => ?_
   refine lq p0 S (q_nilCheck rfl ((hat33 0 _ rfl).isP)) fun a S => ?_
   refine lq (pAdd p0 1) S (q_fieldAddr' 1 22 rfl ((hat33 0 _ rfl).isP) Tryd.underlying27 rfl Tryd.sizeOf22) fun a S => ?_
   refine lx_e v34 S trivial (by decide) rfl trivial (q_load1 rfl Tryd.isAgg22 (by rintro _ rfl; exact (At.of_add (m := 1) (j := 0) ((hat33 1 _ rfl).ext H.ext)))) (fun a S => ?_)
   refine lq (.int .i64 (a0.2.length : Int)) S (q_lenSl rfl (h35).isSl rfl Tryd.underlying22) fun a S => ?_
   refine lq (.bool (decide (x63 < (a0.2.length : Int)))) S (q_lss rfl rfl) fun a S => ?_
   refine lx_nil (thenN ?_)
   refine cond_b S rfl (fun hc92 => ?_) (fun hc92 => ?_)
   ·have hm := ite_t hc92 hm
    refine wp_skip (thenN ?_)
    refine wp_seq ?_
    refine wp_block ?_
    refine region_plain ?_
    refine lq (sv x62) S (q_move rfl) fun a S => ?_
    refine lq p0 S (q_move rfl) fun a S => ?_
    refine lq p0 S (q_nilCheck rfl ((hat33 0 _ rfl).isP)) fun a S => ?_
    refine lq (pAdd p0 1) S (q_fieldAddr' 1 22 rfl ((hat33 0 _ rfl).isP) Tryd.underlying27 rfl Tryd.sizeOf22) fun a S => ?_
    refine lx_e v34 S trivial (by decide) rfl trivial (q_load1 rfl Tryd.isAgg22 (by rintro _ rfl; exact (At.of_add (m := 1) (j := 0) ((hat33 1 _ rfl).ext H.ext)))) (fun a S => ?_)
    refine lq (.int .i64 x63) S (q_move rfl) fun a S => ?_
    obtain ⟨x93, e94, hm⟩ := bind_some hm
    obtain ⟨c95, h96, hat97⟩ := (h35).elem (idx_some e94).2
    obtain ⟨v98, rfl, h99⟩ := rd_list h96
    have hlt := lt_of_idx (idx_some e94).2
    refine lq (ePtr v34 (x63.toNat * 1)) S (q_indexAddr rfl (h35).isSl rfl (idx_some e94).1 hlt Tryd.underlying22 Tryd.sizeOf48) fun a S => ?_
    refine lx_e v98 S trivial (by decide) rfl trivial (q_load1 rfl Tryd.isAgg48 (by rintro _ rfl; exact ((hat97 0 _ rfl).ext H.ext))) (fun a S => ?_)
    obtain ⟨x102, e103, hm⟩ := bind_some hm
    refine lx_call (xs := [.tmp 25]) S trivial (by decide) rfl rfl Tryd.call47 ((spec_l01List_ok (H.arg h99) e103).mono ?_)
    rintro e w100 ⟨rfl, Hc101⟩
    have H := H.call0 Hc101
    refine ⟨_, rfl, trivial, fun a S => ?_⟩
    obtain ⟨x105, e106, hm⟩ := bind_some hm
    obtain ⟨hle, hcat⟩ := cat_some e106
    subst hcat
    refine lq (sv (([10] : Str) ++ x102)) S (q_cat rfl rfl hle) fun a S => ?_
    obtain ⟨x107, e108, hm⟩ := bind_some hm
    obtain ⟨hle, hcat⟩ := cat_some e108
    subst hcat
    refine lq (sv (x62 ++ (([10] : Str) ++ x102))) S (q_cat rfl rfl hle) fun a S => ?_
    refine lq (sv (x62 ++ (([10] : Str) ++ x102))) S (q_assign rfl) fun a S => ?_
    refine lx_nil ?_
    refine inBlock_norm ?_
    refine thenN ?_
    refine region_plain ?_
    refine lq (.int .i64 x63) S (q_move rfl) fun a S => ?_
    refine lq (.int .i64 (W (x63 + (1 : Int)))) S (q_add rfl rfl) fun a S => ?_
    refine lq (.int .i64 (W (x63 + (1 : Int)))) S (q_assign rfl) fun a S => ?_
    refine lx_nil ?_
    exact ⟨m89, Nat.lt_succ_self _, (x62 ++ (([10] : Str) ++ x102)), (W (x63 + (1 : Int))), S.sub ⟨rfl, rfl, rfl, trivial⟩, H, it_cont hm hc91⟩
   ·have hm := ite_f hc92 hm
    refine wp_exit ?_
    refine then_exit ?_
    refine then_exit ?_
    refine inBlock_exit ?_
    obtain rfl := it_brk hm hc91
    exact ⟨x62, S.sub ⟨rfl, trivial⟩, H, rfl⟩
 ·skip
  refine wp_seq (region_plain ?_)
  refine lq p0 S (q_move rfl) fun a S => ?_
  refine lq p0 S (q_nilCheck rfl ((hat33 0 _ rfl).isP)) fun a S => ?_
  refine lq (pAdd p0 0) S (q_fieldAddr' 0 4 rfl ((hat33 0 _ rfl).isP) Tryd.underlying27 rfl Tryd.sizeOf4) fun a S => ?_
  refine lx_e (.bool a0.1) S trivial (by decide) rfl trivial (q_load1 rfl Tryd.isAgg4 (by rintro _ rfl; exact (At.of_add (m := 0) (j := 0) ((hat33 0 _ rfl).ext H.ext)))) (fun a S => ?_)
  refine lx_nil (thenN ?_)
  refine cond_b S rfl (fun hc109 => ?_) (fun hc109 => ?_)
  ·have hm := ite_t hc109 hm
   refine region_plain ?_
   refine lq (sv ([116, 114, 117, 101] : Str)) S (q_assign rfl) fun a S => ?_
   refine lx_nil ?_
   exact ⟨([116, 114, 117, 101] : Str), S.sub ⟨rfl, rfl, trivial⟩, H, hm⟩
  ·have hm := ite_f hc109 hm
   refine wp_skip ?_
   exact ⟨([102, 97, 108, 115, 101] : Str), S.sub ⟨rfl, rfl, trivial⟩, H, hm⟩

/-- impl.ProofText$1 -/
def impl_ProofText_1_m (fuel : Nat) (a0 : Int) : Option (Bool) :=
  (impl_within_m fuel a0 (0 : Int) (120 : Int)).bind fun x33 => some ((!x33))
set_option maxRecDepth 20000 in
theorem impl_ProofText_1_ok {w0 : World} {fuel : Nat} {a0 : Int} {r : Bool} (hm : impl_ProofText_1_m fuel a0 = some r) :
  Calls Tryd.prog 24 #[.int .i64 a0] w0 fun e w => e = .returned (.bool r) ∧ Heap w0 [] w := by
 unfold impl_ProofText_1_m at hm
 have H := Heap.start w0
 refine enter (args := [.int .i64 a0]) Tryd.func24 rfl 6 rfl (Nat.le_of_ble_eq_true rfl) (fun a S => ?_)
 refine wp_seq (region_plain ?_)
 refine lq (.bool false) S (q_assign rfl) fun a S => ?_
 refine lx_nil (thenN ?_)
 refine wp_seq (region_plain ?_)
 refine lq (.int .i64 a0) S (q_move rfl) fun a S => ?_
 obtain ⟨x33, e34, hm⟩ := bind_some hm
 refine lx_call (xs := [.tmp 3, .const (.int .i64 (0)), .const (.int .i64 (120))]) S trivial (by decide) rfl rfl Tryd.call25 ((impl_within_ok    e34).mono ?_)
 rintro e w31 ⟨rfl, Hc32⟩
 have H := H.call0 Hc32
 refine ⟨_, rfl, trivial, fun a S => ?_⟩
 refine lq (.bool (!x33)) S (q_not rfl) fun a S => ?_
 refine lq (.bool (!x33)) S (q_assign rfl) fun a S => ?_
 refine lx_nil (thenN ?_)
 refine wp_ret ?_
 obtain rfl := Option.some.inj hm
 exact leave1 S rfl rfl ⟨rfl, H⟩

/-- impl.ProofText -/
def impl_ProofText_m (fuel : Nat) (a0 : Timpl_Proof) : Option (Str) :=
  (if (decide ((120 : Int) < (a0.2.length : Int))) = true then some (([] : Str)) else join (κ := List Str → Option Str) (fun (xs46 : List Str) => (iter (fun (s : (List Str) × (Int)) => (match s with | (xs87, x89) => (if (decide (x89 < (a0.2.length : Int))) = true then (idx a0.2 x89).bind fun x144 => (if ((x144.length : Int) != (2 : Int)) = true then some ((x144.length : Int) != (4 : Int)) else some false).bind fun t151 => (if t151 = true then some true else (slices_ContainsFunc__int64_int64_m fuel x144 (fun (z0 : Int) => impl_ProofText_1_m fuel z0)).bind fun x159 => some x159).bind fun t154 => (if t154 = true then some (.inr (.inr ([] : Str))) else (impl_ListText_m fuel x144).bind fun x165 => (app xs87 [x165]).bind fun x171 => some (.inl (x171, (W (x89 + (1 : Int)))))) else some (.inr (.inl (xs87)))) : Option (((List Str) × (Int)) ⊕ (((List Str)) ⊕ (Str))))) fuel (xs46, (0 : Int))).bind fun res130 => ctl (β := (List Str)) (ρ := Str) (τ := Str) res130 (fun (xs128) => (strings_Join_m fuel xs128 ([10] : Str)).bind fun x137 => some (x137)) (fun q => some (q))) (fun K47 => (if a0.1 = true then (idx [([102, 97, 108, 115, 101] : Str)] (0 : Int)).bind fun _ => (K47 ([([102, 97, 108, 115, 101] : Str)].set (0 : Int).toNat ([116, 114, 117, 101] : Str))) else (K47 [([102, 97, 108, 115, 101] : Str)]))))
set_option maxRecDepth 20000 in
theorem impl_ProofText_ok {w0 : World} {fuel : Nat} {p0 : Value} {a0 : Timpl_Proof} {r : Str} (hG : Glob Tryd.prog w0) (h0 : Rd Rimpl_Proof w0 p0 a0) (hm : impl_ProofText_m fuel a0 = some r) :
  Calls Tryd.prog 9 #[p0] w0 fun e w => e = .returned (sv r) ∧ Heap w0 [] w := by
 unfold impl_ProofText_m at hm
 have H := Heap.start w0
 obtain ⟨c31, rfl, h32⟩ := h0
 obtain ⟨c35, c36, rfl, h37, h38⟩ := h32
 obtain rfl := h37
 obtain ⟨v33, rfl, h34⟩ := rd_list h38
 refine enter (args := [(.agg #[(.bool a0.1), v33])]) Tryd.func9 rfl 44 rfl (Nat.le_of_ble_eq_true rfl) (fun a S => ?_)
 refine wp_seq (region_plain ?_)
 refine lx_box S trivial (by decide) rfl H rfl rfl (fun b39 w40 H => ⟨trivial, fun a S => ?_⟩)
 refine lq (sv ([] : Str)) S (q_assign rfl) fun a S => ?_
 refine lx_nil (thenN ?_)
 refine wp_seq (wp_seq (region_plain ?_))
 refine lq (pAdd (bp b39) 1) S (q_fieldAddr' 1 22 rfl (isP_bp _) Tryd.underlying27 rfl Tryd.sizeOf22) fun a S => ?_
 refine lx_e v33 S trivial (by decide) rfl trivial (q_load1 rfl Tryd.isAgg22 (by rintro _ rfl; exact (At.of_add (m := 1) (j := 0) (boxAt (i := 0) H rfl (j := 1) rfl)))) (fun a S => ?_)
 refine lq (.int .i64 (a0.2.length : Int)) S (q_lenSl rfl (h34).isSl rfl Tryd.underlying22) fun a S => ?_
 refine lq (.bool (decide ((120 : Int) < (a0.2.length : Int)))) S (q_gtr rfl rfl) fun a S => ?_
 refine lx_nil (thenN ?_)
 refine cond_b S rfl (fun hc42 => ?_) (fun hc42 => ?_)
 ·have hm := ite_t hc42 hm
  refine wp_seq (region_plain ?_)
  refine lq (sv ([] : Str)) S (q_assign rfl) fun a S => ?_
  refine lx_nil (thenN ?_)
  refine wp_ret (then_ret ?_)
  obtain rfl := Option.some.inj hm
  have H : Heap w0 [] w40 := H.sel [] (by decide)
  exact leave1 S rfl rfl ⟨rfl, H⟩
 ·have hm := ite_f hc42 hm
  refine wp_skip (thenN ?_)
  refine wp_seq (region_plain ?_)
  refine lx_buildSlice (r := rStr) (xs := [([102, 97, 108, 115, 101] : Str)]) (ps := [(0, [(sv ([102, 97, 108, 115, 101] : Str))])]) (cs := [(sv ([102, 97, 108, 115, 101] : Str))]) (parts := [(0, .const (sv [102, 97, 108, 115, 101]))]) S trivial (by decide) rfl (H.put0 (A := eA) rfl) rfl Tryd.underlying47 Tryd.sizeOf9 Tryd.zeroValue9 (by decide) ⟨rfl, rfl, Nat.le_of_ble_eq_true rfl, trivial⟩ (by intro zs hz; exact fill_dense hz ⟨rfl, trivial⟩ rfl rfl) rfl (by decide) (fun w F hA => by cases (show F = [] from hA); exact ⟨_, _, [(sv ([102, 97, 108, 115, 101] : Str))], _, rfl, rfl, ⟨rfl, rfl⟩, ⟨rfl, rfl⟩⟩) (fun v43 w44 H => ⟨trivial, fun a S => ?_⟩)
  refine lq v43 S (q_assign rfl) fun a S => ?_
  refine lx_nil (thenN ?_)
  obtain ⟨K47, hK48, hm⟩ := join_elim hm
  refine seq_cut (fun a w => ∃ (xs46 : List Str), Slots a 44 [(1, (bp b39)), (3, v43)] ∧ Heap w0 [bA b39 [(.bool a0.1), v33] 27, oA (rList rStr) v43 xs46] w ∧ K47 xs46 = some r) ?_ ?_
  ·rintro a w ⟨xs46, S, H, hm⟩
   subst hK48
   refine wp_seq (wp_seq (region_plain ?_))
   refine lq (pAdd (bp b39) 1) S (q_fieldAddr' 1 22 rfl (isP_bp _) Tryd.underlying27 rfl Tryd.sizeOf22) fun a S => ?_
   refine lx_e v33 S trivial (by decide) rfl trivial (q_load1 rfl Tryd.isAgg22 (by rintro _ rfl; exact (At.of_add (m := 1) (j := 0) (boxAt (i := 0) H rfl (j := 1) rfl)))) (fun a S => ?_)
   refine lq (.int .i64 (a0.2.length : Int)) S (q_lenSl rfl (h34).isSl rfl Tryd.underlying22) fun a S => ?_
   refine lq (.int .i64 (0 : Int)) S (q_move rfl) fun a S => ?_
   refine lx_nil (thenN ?_)
   obtain ⟨res130, hit131, hk134⟩ := bind_some hm
   obtain ⟨f132, hf133, hit131⟩ := iter_name hit131
   refine block_loop (fun a w => ∃ (xs128 : List Str) (v127 : Value), Slots a 44 [(3, v127)] ∧ Heap w0 [oA (rList rStr) v127 xs128] w ∧ res130 = .inl (xs128)) ?_ ?_
   ·rintro a w ⟨xs128, v127, S, H, rfl⟩
    have hm := ctl_inl hk134
    refine thenN ?_
    refine wp_seq (region_plain ?_)
    refine lq v127 S (q_move rfl) fun a S => ?_
    obtain ⟨x137, e138, hm⟩ := bind_some hm
    refine lx_call (xs := [.tmp 42, .const (sv [10])]) S trivial (by decide) rfl rfl Tryd.call28 ((strings_Join_ok (H.rdAt 0 rfl)  e138).mono ?_)
    rintro e w135 ⟨rfl, Hc136⟩
    have H := H.call0 Hc136
    refine ⟨_, rfl, trivial, fun a S => ?_⟩
    refine lq (sv x137) S (q_assign rfl) fun a S => ?_
    refine lx_nil (thenN ?_)
    refine wp_ret ?_
    obtain rfl := Option.some.inj hm
    have H : Heap w0 [] w135 := H.sel [] (by decide)
    exact leave1 S rfl rfl ⟨rfl, H⟩
   ·skip
    have H : Heap w0 [oA (rList rStr) v43 xs46] w := H.sel [1] (by decide)
    refine loop_ghost (fun n a w => ∃ (xs87 : List Str) (x89 : Int) (v86 : Value), Slots a 44 [(3, v86), (17, v33), (18, (.int .i64 (a0.2.length : Int))), (19, (.int .i64 x89))] ∧ Heap w0 [oA (rList rStr) v86 xs87] w ∧ iter f132 n (xs87, x89) = some res130) _ ⟨xs46, (0 : Int), v43, S.sub ⟨rfl, rfl, rfl, rfl, trivial⟩, H, hit131⟩ ?_
    rintro n a w ⟨xs87, x89, v86, S, H, hit131⟩
    obtain ⟨m140, o141, rfl, hm, hc142⟩ := iter_step hit131
    rw [hf133] at hm
    refine wp_seq (region_plain ?_)
    refine lq (.bool (decide (x89 < (a0.2.length : Int)))) S (q_lss rfl rfl) fun a S => ?_
    refine lx_nil (thenN ?_)
    refine wp_seq ?_
    refine cond_b S rfl (fun hc143 => ?_) (fun hc143 => ?_)
    ·have hm := ite_t hc143 hm
     refine wp_skip (thenN ?_)
     refine wp_seq ?_
     refine wp_block ?_
     refine wp_seq (region_plain ?_)
     obtain ⟨x144, e145, hm⟩ := bind_some hm
     obtain ⟨c146, h147, hat148⟩ := (h34).elem (idx_some e145).2
     obtain ⟨v149, rfl, h150⟩ := rd_list h147
     have hlt := lt_of_idx (idx_some e145).2
     refine lq (ePtr v33 (x89.toNat * 1)) S (q_indexAddr rfl (h34).isSl rfl (idx_some e145).1 hlt Tryd.underlying22 Tryd.sizeOf48) fun a S => ?_
     refine lx_e v149 S trivial (by decide) rfl trivial (q_load1 rfl Tryd.isAgg48 (by rintro _ rfl; exact ((hat148 0 _ rfl).ext H.ext))) (fun a S => ?_)
     refine lq v149 S (q_assign rfl) fun a S => ?_
     refine lx_nil (thenN ?_)
     refine wp_seq (region_plain ?_)
     refine lq (.func (.func 24) #[] #[]) S (q_assign rfl) fun a S => ?_
     refine lx_nil (thenN ?_)
     refine wp_seq (wp_seq (region_plain ?_))
     refine lq v149 S (q_move rfl) fun a S => ?_
     refine lq (.int .i64 (x144.length : Int)) S (q_lenSl rfl (h150).isSl rfl Tryd.underlying48) fun a S => ?_
     refine lq (.bool ((x144.length : Int) != (2 : Int))) S (q_neq rfl rfl) fun a S => ?_
     refine lq (.bool ((x144.length : Int) != (2 : Int))) S (q_move rfl) fun a S => ?_
     obtain ⟨t151, e152, hm⟩ := bind_some hm
     refine lx_cut 4 (fun a w => Slots a 44 [(3, v86), (5, v149), (6, (.func (.func 24) #[] #[])), (17, v33), (18, (.int .i64 (a0.2.length : Int))), (19, (.int .i64 x89)), (30, (.bool t151))] ∧ Heap w0 [oA (rList rStr) v86 xs87] w) ?_ ?_
     ·by_cases hc153 : ((x144.length : Int) != (2 : Int)) = true
      ·have hm := ite_t hc153 e152
       refine lx_q v149 S (want_b rfl rfl hc153) (by decide) (q_move rfl) (fun a S => ?_)
       refine lx_q (.int .i64 (x144.length : Int)) S (want_b rfl rfl hc153) (by decide) (q_lenSl rfl (h150).isSl rfl Tryd.underlying48) (fun a S => ?_)
       refine lx_q (.bool ((x144.length : Int) != (4 : Int))) S (want_b rfl rfl hc153) (by decide) (q_neq rfl rfl) (fun a S => ?_)
       refine lq (.bool ((x144.length : Int) != (4 : Int))) S (q_pickT' rfl hc153 rfl) fun a S => ?_
       refine lx_nil ?_
       obtain rfl := Option.some.inj hm
       exact ⟨S.sub ⟨rfl, rfl, rfl, rfl, rfl, rfl, rfl, trivial⟩, H⟩
      ·have hm := ite_f (eq_false_of_ne_true hc153) e152
       have hc153 : ((x144.length : Int) != (2 : Int)) = false := eq_false_of_ne_true hc153
       refine lx_skip S rfl rfl (isB_ne hc153) (by decide) (fun a S => ?_)
       refine lx_skip S rfl rfl (isB_ne hc153) (by decide) (fun a S => ?_)
       refine lx_skip S rfl rfl (isB_ne hc153) (by decide) (fun a S => ?_)
       refine lq (.bool false) S (q_pickF' rfl hc153 rfl) fun a S => ?_
       refine lx_nil ?_
       obtain rfl := Option.some.inj hm
       exact ⟨S.sub ⟨rfl, rfl, rfl, rfl, rfl, rfl, rfl, trivial⟩, H⟩
     ·rintro a w ⟨S, H⟩
      refine lq (.bool t151) S (q_move rfl) fun a S => ?_
      obtain ⟨t154, e155, hm⟩ := bind_some hm
      refine lx_cut 4 (fun a w => Slots a 44 [(3, v86), (5, v149), (17, v33), (18, (.int .i64 (a0.2.length : Int))), (19, (.int .i64 x89)), (35, (.bool t154))] ∧ Heap w0 [oA (rList rStr) v86 xs87] w) ?_ ?_
      ·by_cases hc156 : t151 = true
       ·have hm := ite_t hc156 e155
        refine lx_skip S rfl rfl (isB_ne hc156) (by decide) (fun a S => ?_)
        refine lx_skip S rfl rfl (isB_ne hc156) (by decide) (fun a S => ?_)
        refine lx_skip S rfl rfl (isB_ne hc156) (by decide) (fun a S => ?_)
        refine lq (.bool true) S (q_pickT' rfl hc156 rfl) fun a S => ?_
        refine lx_nil ?_
        obtain rfl := Option.some.inj hm
        exact ⟨S.sub ⟨rfl, rfl, rfl, rfl, rfl, rfl, trivial⟩, H⟩
       ·have hm := ite_f (eq_false_of_ne_true hc156) e155
        have hc156 : t151 = false := eq_false_of_ne_true hc156
        refine lx_q v149 S (want_b rfl rfl hc156) (by decide) (q_move rfl) (fun a S => ?_)
        refine lx_q (.func (.func 24) #[] #[]) S (want_b rfl rfl hc156) (by decide) (q_move rfl) (fun a S => ?_)
        obtain ⟨x159, e160, hm⟩ := bind_some hm
        refine lx_call (xs := [.tmp 32, .tmp 33]) S (want_b rfl rfl hc156) (by decide) rfl rfl Tryd.call26 ((slices_ContainsFunc__int64_int64_ok (f1 := 24) (fs1 := ([] : List Value)) (cp1 := ([] : List Value)) (a1 := (fun (z0 : Int) => impl_ProofText_1_m fuel z0)) (H.arg h150) Tryd.call24 (fun he  hm => impl_ProofText_1_ok    hm) e160).mono ?_)
        rintro e w157 ⟨rfl, Hc158⟩
        have H := H.call0 Hc158
        refine ⟨_, rfl, trivial, fun a S => ?_⟩
        refine lq (.bool x159) S (q_pickF' rfl hc156 rfl) fun a S => ?_
        refine lx_nil ?_
        obtain rfl := Option.some.inj hm
        exact ⟨S.sub ⟨rfl, rfl, rfl, rfl, rfl, rfl, trivial⟩, H⟩
      ·rintro a w ⟨S, H⟩
       refine lx_nil (thenN ?_)
       refine cond_b S rfl (fun hc162 => ?_) (fun hc162 => ?_)
       ·have hm := ite_t hc162 hm
        refine wp_seq (region_plain ?_)
        refine lq (sv ([] : Str)) S (q_assign rfl) fun a S => ?_
        refine lx_nil (thenN ?_)
        refine wp_ret (then_ret ?_)
        refine inBlock_ret ?_
        refine then_ret ?_
        refine then_ret ?_
        refine inBlock_ret ?_
        refine then_ret ?_
        refine then_ret ?_
        obtain rfl := it_brk hm hc142
        have hm := ctl_inr hk134
        obtain rfl := Option.some.inj hm
        have H : Heap w0 [] w := H.sel [] (by decide)
        exact leave1 S rfl rfl ⟨rfl, H⟩
       ·have hm := ite_f hc162 hm
        refine wp_skip (thenN ?_)
        refine region_plain ?_
        refine lq v86 S (q_move rfl) fun a S => ?_
        refine lq v149 S (q_move rfl) fun a S => ?_
        obtain ⟨x165, e166, hm⟩ := bind_some hm
        refine lx_call (xs := [.tmp 37]) S trivial (by decide) rfl rfl Tryd.call27 ((impl_ListText_ok (hG.ext H.ext) (H.arg h150) e166).mono ?_)
        rintro e w163 ⟨rfl, Hc164⟩
        have H := H.call0 Hc164
        refine ⟨_, rfl, trivial, fun a S => ?_⟩
        refine lx_buildSlice (r := rStr) (xs := [x165]) (ps := [(0, [(sv x165)])]) (cs := [(sv x165)]) (parts := [(0, .tmp 38)]) S trivial (by decide) rfl (H.put0 (A := eA) rfl) rfl Tryd.underlying47 Tryd.sizeOf9 Tryd.zeroValue9 (by decide) ⟨rfl, rfl, Nat.le_of_ble_eq_true rfl, trivial⟩ (by intro zs hz; exact fill_dense hz ⟨rfl, trivial⟩ rfl rfl) rfl (by decide) (fun w F hA => by cases (show F = [] from hA); exact ⟨_, _, [(sv x165)], _, rfl, rfl, ⟨rfl, rfl⟩, ⟨rfl, rfl⟩⟩) (fun v168 w169 H => ⟨trivial, fun a S => ?_⟩)
        obtain ⟨x171, e172, hm⟩ := bind_some hm
        obtain ⟨hle, hap⟩ := app_some e172
        replace hap := hap.symm
        subst hap
        have H : Heap w0 [oA (rList rStr) v168 [x165], oA (rList rStr) v86 xs87] w169 := H.front 0 rfl
        have H : Heap w0 [oA (rList rStr) v86 xs87, oA (rList rStr) v168 [x165]] w169 := H.front 1 rfl
        refine lx_appendOwn (r := rStr) S trivial (by decide) rfl H rfl rfl Tryd.underlying47 Tryd.ti9 rfl rfl rfl (Nat.le_of_ble_eq_true rfl) (by decide) hle (fun v173 w174 H => ⟨trivial, fun a S => ?_⟩)
        refine lq v173 S (q_assign rfl) fun a S => ?_
        refine lx_nil ?_
        refine inBlock_norm ?_
        refine thenN ?_
        refine region_plain ?_
        refine lq (.int .i64 (W (x89 + (1 : Int)))) S (q_add rfl rfl) fun a S => ?_
        refine lq (.int .i64 (W (x89 + (1 : Int)))) S (q_move rfl) fun a S => ?_
        refine lx_nil ?_
        exact ⟨m140, Nat.lt_succ_self _, (xs87 ++ [x165]), (W (x89 + (1 : Int))), v173, S.sub ⟨rfl, rfl, rfl, rfl, trivial⟩, H, it_cont hm hc142⟩
    ·have hm := ite_f hc143 hm
     refine wp_exit ?_
     refine then_exit ?_
     refine then_exit ?_
     refine inBlock_exit ?_
     obtain rfl := it_brk hm hc142
     exact ⟨xs87, v86, S.sub ⟨rfl, trivial⟩, H, rfl⟩
  ·skip
   refine wp_seq (region_plain ?_)
   refine lq (pAdd (bp b39) 0) S (q_fieldAddr' 0 4 rfl (isP_bp _) Tryd.underlying27 rfl Tryd.sizeOf4) fun a S => ?_
   refine lx_e (.bool a0.1) S trivial (by decide) rfl trivial (q_load1 rfl Tryd.isAgg4 (by rintro _ rfl; exact (At.of_add (m := 0) (j := 0) (boxAt (i := 1) H rfl (j := 0) rfl)))) (fun a S => ?_)
   refine lx_nil (thenN ?_)
   refine cond_b S rfl (fun hc176 => ?_) (fun hc176 => ?_)
   ·have hm := ite_t hc176 hm
    refine region_plain ?_
    refine lq v43 S (q_move rfl) fun a S => ?_
    obtain ⟨x177, e178, hm⟩ := bind_some hm
    have hlt := lt_of_idx (idx_some e178).2
    refine lq (ePtr v43 ((0 : Int).toNat * 1)) S (q_indexAddr rfl (H.isSl 0 rfl) rfl (idx_some e178).1 hlt Tryd.underlying47 Tryd.sizeOf9) fun a S => ?_
    refine lx_storeElem (r := rStr) (us := [(sv ([116, 114, 117, 101] : Str))]) (off := 0) (e' := ([116, 114, 117, 101] : Str)) S trivial rfl H.putE (ev_zero rfl) rfl (idx_some e178).2 rfl Tryd.sizeOf9 (Nat.le_of_ble_eq_true rfl) (List.forall_mem_cons.2 ⟨rfl, (fun _ h => nomatch h)⟩) (Upd.full rfl (fun w G hG => by cases (show G = [] from hG); exact ⟨rfl, rfl⟩)) (fun w179 H => ⟨trivial, fun a S => ?_⟩)
    refine lx_nil ?_
    have H : Heap w0 [bA b39 [(.bool a0.1), v33] 27, oA (rList rStr) v43 ([([102, 97, 108, 115, 101] : Str)].set (0 : Int).toNat ([116, 114, 117, 101] : Str))] w179 := H.front 1 rfl
    exact ⟨([([102, 97, 108, 115, 101] : Str)].set (0 : Int).toNat ([116, 114, 117, 101] : Str)), S.sub ⟨rfl, rfl, trivial⟩, H, hm⟩
   ·have hm := ite_f hc176 hm
    refine wp_skip ?_
    have H : Heap w0 [bA b39 [(.bool a0.1), v33] 27, oA (rList rStr) v43 [([102, 97, 108, 115, 101] : Str)]] w44 := H.front 1 rfl
    exact ⟨[([102, 97, 108, 115, 101] : Str)], S.sub ⟨rfl, rfl, trivial⟩, H, hm⟩

/-- laws.eqInt64SS -/
def laws_eqInt64SS_m (fuel : Nat) (a0 : (List (List Int))) (a1 : (List (List Int))) : Option (Bool) :=
  (if ((a0.length : Int) != (a1.length : Int)) = true then some (false) else (iter (fun (s : (Int)) => (match s with | (x56) => (if (decide (x56 < (a0.length : Int))) = true then (idx a0 x56).bind fun x92 => (idx a1 x56).bind fun x99 => (laws_eqInt64S_m fuel x92 x99).bind fun x108 => (if (!x108) = true then some (.inr (.inr false)) else some (.inl ((W (x56 + (1 : Int)))))) else some (.inr (.inl ()))) : Option (((Int)) ⊕ ((Unit) ⊕ (Bool))))) fuel ((0 : Int))).bind fun res81 => ctl (β := Unit) (ρ := Bool) (τ := Bool) res81 (fun _ => some (true)) (fun q => some (q)))
set_option maxRecDepth 20000 in
theorem laws_eqInt64SS_ok {w0 : World} {fuel : Nat} {p0 p1 : Value} {a0 : (List (List Int))} {a1 : (List (List Int))} {r : Bool} (h0 : Rd (rList (rList (rInt .i64))) w0 p0 a0) (h1 : Rd (rList (rList (rInt .i64))) w0 p1 a1) (hm : laws_eqInt64SS_m fuel a0 a1 = some r) :
  Calls Tryd.prog 29 #[p0, p1] w0 fun e w => e = .returned (.bool r) ∧ Heap w0 [] w := by
 unfold laws_eqInt64SS_m at hm
 have H := Heap.start w0
 refine enter (args := [p0, p1]) Tryd.func29 rfl 27 rfl (Nat.le_of_ble_eq_true rfl) (fun a S => ?_)
 refine wp_seq (region_plain ?_)
 refine lq (.bool false) S (q_assign rfl) fun a S => ?_
 refine lx_nil (thenN ?_)
 refine wp_seq (wp_seq (region_plain ?_))
 refine lq p0 S (q_move rfl) fun a S => ?_
 refine lq (.int .i64 (a0.length : Int)) S (q_lenSl rfl (h0).isSl rfl Tryd.underlying22) fun a S => ?_
 refine lq p1 S (q_move rfl) fun a S => ?_
 refine lq (.int .i64 (a1.length : Int)) S (q_lenSl rfl (h1).isSl rfl Tryd.underlying22) fun a S => ?_
 refine lq (.bool ((a0.length : Int) != (a1.length : Int))) S (q_neq rfl rfl) fun a S => ?_
 refine lx_nil (thenN ?_)
 refine cond_b S rfl (fun hc31 => ?_) (fun hc31 => ?_)
 ·have hm := ite_t hc31 hm
  refine wp_seq (region_plain ?_)
  refine lq (.bool false) S (q_assign rfl) fun a S => ?_
  refine lx_nil (thenN ?_)
  refine wp_ret (then_ret ?_)
  obtain rfl := Option.some.inj hm
  exact leave1 S rfl rfl ⟨rfl, H⟩
 ·have hm := ite_f hc31 hm
  refine wp_skip (thenN ?_)
  refine wp_seq (wp_seq (region_plain ?_))
  refine lq (.int .i64 (0 : Int)) S (q_assign rfl) fun a S => ?_
  refine lx_nil (thenN ?_)
  obtain ⟨res81, hit82, hk85⟩ := bind_some hm
  obtain ⟨f83, hf84, hit82⟩ := iter_name hit82
  refine block_loop (fun a w => Slots a 27 [] ∧ Heap w0 [] w ∧ res81 = .inl ()) ?_ ?_
  ·rintro a w ⟨S, H, rfl⟩
   have hm := ctl_inl hk85
   refine thenN ?_
   refine wp_seq (region_plain ?_)
   refine lq (.bool true) S (q_assign rfl) fun a S => ?_
   refine lx_nil (thenN ?_)
   refine wp_ret ?_
   obtain rfl := Option.some.inj hm
   exact leave1 S rfl rfl ⟨rfl, H⟩
  ·skip
   refine loop_ghost (fun n a w => ∃ (x56 : Int), Slots a 27 [(0, p0), (1, p1), (5, (.int .i64 x56))] ∧ Heap w0 [] w ∧ iter f83 n (x56) = some res81) _ ⟨(0 : Int), S.sub ⟨rfl, rfl, rfl, trivial⟩, H, hit82⟩ ?_
   rintro n a w ⟨x56, S, H, hit82⟩
   obtain ⟨m86, o87, rfl, hm, hc88⟩ := iter_step hit82
   rw [hf84] at hm
   refine wp_seq (wp_seq (region_plain ?_))
   refine lq (.int .i64 x56) S (q_move rfl) fun a S => ?_
   refine lq p0 S (q_move rfl) fun a S => ?_
   refine lq (.int .i64 (a0.length : Int)) S (q_lenSl rfl (h0).isSl rfl Tryd.underlying22) fun a S => ?_
   refine lq (.bool (decide (x56 < (a0.length : Int)))) S (q_lss rfl rfl) fun a S => ?_
   refine lx_nil (thenN ?_)
   refine cond_b S rfl (fun hc89 => ?_) (fun hc89 => ?_)
   ·have hm := ite_t hc89 hm
    refine wp_skip (thenN ?_)
    refine wp_seq ?_
    refine wp_block ?_
    refine wp_seq ?_
    refine region_drawG (fun w1 => Heap w0 [] w1) (fun i => [8].contains i) mixed (by kernel_rfl) (fun w91 he90 => ?_)
    have H := H.later he90
    refine ⟨H.sel [] (by decide), ?_⟩
    refine lq p0 S (q_move rfl) fun a S => ?_
    refine lq (.int .i64 x56) S (q_move rfl) fun a S => ?_
    obtain ⟨x92, e93, hm⟩ := bind_some hm
    obtain ⟨c94, h95, hat96⟩ := (h0).elem (idx_some e93).2
    obtain ⟨v97, rfl, h98⟩ := rd_list h95
    have hlt := lt_of_idx (idx_some e93).2
    refine lq (ePtr p0 (x56.toNat * 1)) S (q_indexAddr rfl (h0).isSl rfl (idx_some e93).1 hlt Tryd.underlying22 Tryd.sizeOf48) fun a S => ?_
    refine lq v97 S (q_load1 rfl Tryd.isAgg48 (fun w1 hC => ((hat96 0 _ rfl).ext hC.ext))) fun a S => ?_
    refine lq p1 S (q_move rfl) fun a S => ?_
    refine lq (.int .i64 x56) S (q_move rfl) fun a S => ?_
    obtain ⟨x99, e100, hm⟩ := bind_some hm
    obtain ⟨c101, h102, hat103⟩ := (h1).elem (idx_some e100).2
    obtain ⟨v104, rfl, h105⟩ := rd_list h102
    have hlt := lt_of_idx (idx_some e100).2
    refine lq (ePtr p1 (x56.toNat * 1)) S (q_indexAddr rfl (h1).isSl rfl (idx_some e100).1 hlt Tryd.underlying22 Tryd.sizeOf48) fun a S => ?_
    refine lq v104 S (q_load1 rfl Tryd.isAgg48 (fun w1 hC => ((hat103 0 _ rfl).ext hC.ext))) fun a S => ?_
    obtain ⟨x108, e109, hm⟩ := bind_some hm
    refine lx_call (xs := [.tmp 20, .tmp 24]) S trivial (by decide) rfl rfl Tryd.call55 ((laws_eqInt64S_ok (H.arg h98) (H.arg h105) e109).mono ?_)
    rintro e w106 ⟨rfl, Hc107⟩
    have H := H.call0 Hc107
    refine ⟨_, rfl, H.sel [] (by decide), fun a S => ?_⟩
    refine lq (.bool (!x108)) S (q_not rfl) fun a S => ?_
    refine lx_nil (thenN ?_)
    refine cond_b S rfl (fun hc111 => ?_) (fun hc111 => ?_)
    ·have hm := ite_t hc111 hm
     refine wp_seq (region_plain ?_)
     refine lq (.bool false) S (q_assign rfl) fun a S => ?_
     refine lx_nil (thenN ?_)
     refine wp_ret (inBlock_ret ?_)
     refine then_ret ?_
     refine then_ret ?_
     refine inBlock_ret ?_
     refine then_ret ?_
     refine then_ret ?_
     obtain rfl := it_brk hm hc88
     have hm := ctl_inr hk85
     obtain rfl := Option.some.inj hm
     exact leave1 S rfl rfl ⟨rfl, H⟩
    ·have hm := ite_f hc111 hm
     refine wp_skip ?_
     refine inBlock_norm ?_
     refine thenN ?_
     refine region_plain ?_
     refine lq (.int .i64 x56) S (q_move rfl) fun a S => ?_
     refine lq (.int .i64 (W (x56 + (1 : Int)))) S (q_add rfl rfl) fun a S => ?_
     refine lq (.int .i64 (W (x56 + (1 : Int)))) S (q_assign rfl) fun a S => ?_
     refine lx_nil ?_
     exact ⟨m86, Nat.lt_succ_self _, (W (x56 + (1 : Int))), S.sub ⟨rfl, rfl, rfl, trivial⟩, H, it_cont hm hc88⟩
   ·have hm := ite_f hc89 hm
    refine wp_exit ?_
    refine then_exit ?_
    refine then_exit ?_
    refine inBlock_exit ?_
    obtain rfl := it_brk hm hc88
    exact ⟨S.sub trivial, H, rfl⟩

/-- laws.eqProof -/
def laws_eqProof_m (fuel : Nat) (a0 : Timpl_Proof) (a1 : Timpl_Proof) : Option (Bool) :=
  (if (a0.1 != a1.1) = true then some (false) else (laws_eqInt64SS_m fuel a0.2 a1.2).bind fun x56 => (if (!x56) = true then some (false) else some (true)))
set_option maxRecDepth 20000 in
theorem laws_eqProof_ok {w0 : World} {fuel : Nat} {p0 p1 : Value} {a0 : Timpl_Proof} {a1 : Timpl_Proof} {r : Bool} (h0 : Rd Rimpl_Proof w0 p0 a0) (h1 : Rd Rimpl_Proof w0 p1 a1) (hm : laws_eqProof_m fuel a0 a1 = some r) :
  Calls Tryd.prog 10 #[p0, p1] w0 fun e w => e = .returned (.bool r) ∧ Heap w0 [] w := by
 unfold laws_eqProof_m at hm
 have H := Heap.start w0
 obtain ⟨c31, rfl, h32⟩ := h0
 obtain ⟨c35, c36, rfl, h37, h38⟩ := h32
 obtain rfl := h37
 obtain ⟨v33, rfl, h34⟩ := rd_list h38
 obtain ⟨c39, rfl, h40⟩ := h1
 obtain ⟨c43, c44, rfl, h45, h46⟩ := h40
 obtain rfl := h45
 obtain ⟨v41, rfl, h42⟩ := rd_list h46
 refine enter (args := [(.agg #[(.bool a0.1), v33]), (.agg #[(.bool a1.1), v41])]) Tryd.func10 rfl 16 rfl (Nat.le_of_ble_eq_true rfl) (fun a S => ?_)
 refine wp_seq (region_plain ?_)
 refine lx_box S trivial (by decide) rfl H rfl rfl (fun b47 w48 H => ⟨trivial, fun a S => ?_⟩)
 refine lx_box S trivial (by decide) rfl H rfl rfl (fun b50 w51 H => ⟨trivial, fun a S => ?_⟩)
 refine lq (.bool false) S (q_assign rfl) fun a S => ?_
 refine lx_nil (thenN ?_)
 refine wp_seq (wp_seq (region_plain ?_))
 refine lq (pAdd (bp b47) 0) S (q_fieldAddr' 0 4 rfl (isP_bp _) Tryd.underlying27 rfl Tryd.sizeOf4) fun a S => ?_
 refine lx_e (.bool a0.1) S trivial (by decide) rfl trivial (q_load1 rfl Tryd.isAgg4 (by rintro _ rfl; exact (At.of_add (m := 0) (j := 0) (boxAt (i := 1) H rfl (j := 0) rfl)))) (fun a S => ?_)
 refine lq (pAdd (bp b50) 0) S (q_fieldAddr' 0 4 rfl (isP_bp _) Tryd.underlying27 rfl Tryd.sizeOf4) fun a S => ?_
 refine lx_e (.bool a1.1) S trivial (by decide) rfl trivial (q_load1 rfl Tryd.isAgg4 (by rintro _ rfl; exact (At.of_add (m := 0) (j := 0) (boxAt (i := 0) H rfl (j := 0) rfl)))) (fun a S => ?_)
 refine lq (.bool (a0.1 != a1.1)) S (q_bneq rfl rfl Tryd.underlying4) fun a S => ?_
 refine lx_nil (thenN ?_)
 refine cond_b S rfl (fun hc53 => ?_) (fun hc53 => ?_)
 ·have hm := ite_t hc53 hm
  refine wp_seq (region_plain ?_)
  refine lq (.bool false) S (q_assign rfl) fun a S => ?_
  refine lx_nil (thenN ?_)
  refine wp_ret (then_ret ?_)
  obtain rfl := Option.some.inj hm
  have H : Heap w0 [] w51 := H.sel [] (by decide)
  exact leave1 S rfl rfl ⟨rfl, H⟩
 ·have hm := ite_f hc53 hm
  refine wp_skip (thenN ?_)
  refine wp_seq (wp_seq (region_plain ?_))
  refine lq (pAdd (bp b47) 1) S (q_fieldAddr' 1 22 rfl (isP_bp _) Tryd.underlying27 rfl Tryd.sizeOf22) fun a S => ?_
  refine lx_e v33 S trivial (by decide) rfl trivial (q_load1 rfl Tryd.isAgg22 (by rintro _ rfl; exact (At.of_add (m := 1) (j := 0) (boxAt (i := 1) H rfl (j := 1) rfl)))) (fun a S => ?_)
  refine lq (pAdd (bp b50) 1) S (q_fieldAddr' 1 22 rfl (isP_bp _) Tryd.underlying27 rfl Tryd.sizeOf22) fun a S => ?_
  refine lx_e v41 S trivial (by decide) rfl trivial (q_load1 rfl Tryd.isAgg22 (by rintro _ rfl; exact (At.of_add (m := 1) (j := 0) (boxAt (i := 0) H rfl (j := 1) rfl)))) (fun a S => ?_)
  obtain ⟨x56, e57, hm⟩ := bind_some hm
  refine lx_call (xs := [.tmp 11, .tmp 13]) S trivial (by decide) rfl rfl Tryd.call29 ((laws_eqInt64SS_ok (H.arg h34) (H.arg h42) e57).mono ?_)
  rintro e w54 ⟨rfl, Hc55⟩
  have H := H.call0 Hc55
  refine ⟨_, rfl, trivial, fun a S => ?_⟩
  refine lq (.bool (!x56)) S (q_not rfl) fun a S => ?_
  refine lx_nil (thenN ?_)
  refine cond_b S rfl (fun hc59 => ?_) (fun hc59 => ?_)
  ·have hm := ite_t hc59 hm
   refine wp_seq (region_plain ?_)
   refine lq (.bool false) S (q_assign rfl) fun a S => ?_
   refine lx_nil (thenN ?_)
   refine wp_ret (then_ret ?_)
   obtain rfl := Option.some.inj hm
   have H : Heap w0 [] w54 := H.sel [] (by decide)
   exact leave1 S rfl rfl ⟨rfl, H⟩
  ·have hm := ite_f hc59 hm
   refine wp_skip (thenN ?_)
   refine wp_seq (region_plain ?_)
   refine lq (.bool true) S (q_assign rfl) fun a S => ?_
   refine lx_nil (thenN ?_)
   refine wp_ret ?_
   obtain rfl := Option.some.inj hm
   have H : Heap w0 [] w54 := H.sel [] (by decide)
   exact leave1 S rfl rfl ⟨rfl, H⟩
end Go.Proofs.YtepcckhcocjgaaaDoor
