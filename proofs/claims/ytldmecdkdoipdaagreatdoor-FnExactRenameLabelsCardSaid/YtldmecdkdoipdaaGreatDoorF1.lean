/- The models of some functions and their walks (printed by a program of this repo). -/
import Derived.Test.YtldmecdkdoipdaaGreatDoorF0
import Derived.Test.YtldmecdkdoipdaaGreatDoorGxT
import Derived.Test.YtldmecdkdoipdaaGreatDoorGxY
namespace Go.Proofs.YtldmecdkdoipdaaGreatDoor
open Go.RowKit Go.Gx

/-- laws.szStringS -/
def laws_szStringS_m (fuel : Nat) (a0 : (List Str)) (a1 : Int) : Option (Int) :=
  (if (decide ((W (a1 - (a0.length : Int))) < (0 : Int))) = true then some ((-1 : Int)) else (iter (fun (s : (Int) × (Int)) => (match s with | (x41, x42) => (if (decide (x42 < (a0.length : Int))) = true then (idx a0 x42).bind fun x62 => (if (decide ((W (x41 - (x62.length : Int))) < (0 : Int))) = true then some (.inr (.inr (-1 : Int))) else some (.inl ((W (x41 - (x62.length : Int))), (W (x42 + (1 : Int)))))) else some (.inr (.inl (x41)))) : Option (((Int) × (Int)) ⊕ ((Int) ⊕ (Int))))) fuel ((W (a1 - (a0.length : Int))), (0 : Int))).bind fun res53 => ctl (β := Int) (ρ := Int) (τ := Int) res53 (fun (x52) => some (x52)) (fun q => some (q)))
set_option maxRecDepth 20000 in
theorem laws_szStringS_ok [dr : Dr] {w0 : World} {fuel : Nat} {p0 : Value} {a0 : (List Str)} {a1 : Int} {r : Int} (h0 : Rd (rList rStr) w0 p0 a0) (hm : laws_szStringS_m fuel a0 a1 = some r) :
  Calls Tryz.prog 17 #[p0, .int .i64 a1] w0 fun e w => e = .returned (.int .i64 r) ∧ Heap w0 [] w := by
 unfold laws_szStringS_m at hm
 have H := Heap.start w0
 refine enter (args := [p0, .int .i64 a1]) Tryz.func17 rfl 28 rfl (Nat.le_of_ble_eq_true rfl) (fun a S => ?_)
 refine wp_seq (region_plain ?_)
 refine lq (.int .i64 (0 : Int)) S (q_assign rfl) fun a S => ?_
 refine lx_nil (thenN ?_)
 refine wp_seq (region_plain ?_)
 refine lq (.int .i64 a1) S (q_move rfl) fun a S => ?_
 refine lq p0 S (q_move rfl) fun a S => ?_
 refine lq (.int .i64 (a0.length : Int)) S (q_lenSl rfl (h0).isSl rfl Tryz.underlying22) fun a S => ?_
 refine lq (.int .i64 (W (a1 - (a0.length : Int)))) S (q_sub rfl rfl) fun a S => ?_
 refine lq (.int .i64 (W (a1 - (a0.length : Int)))) S (q_assign rfl) fun a S => ?_
 refine lx_nil (thenN ?_)
 refine wp_seq (wp_seq (region_plain ?_))
 refine lq (.int .i64 (W (a1 - (a0.length : Int)))) S (q_move rfl) fun a S => ?_
 refine lq (.bool (decide ((W (a1 - (a0.length : Int))) < (0 : Int)))) S (q_lss rfl rfl) fun a S => ?_
 refine lx_nil (thenN ?_)
 refine cond_b S rfl (fun hc31 => ?_) (fun hc31 => ?_)
 ·have hm := ite_t hc31 hm
  refine wp_seq (region_plain ?_)
  refine lq (.int .i64 (-1 : Int)) S (q_assign rfl) fun a S => ?_
  refine lx_nil (thenN ?_)
  refine wp_ret (then_ret ?_)
  obtain rfl := Option.some.inj hm
  exact leave1 S rfl rfl ⟨rfl, H⟩
 ·have hm := ite_f hc31 hm
  refine wp_skip (thenN ?_)
  refine wp_seq (wp_seq (region_plain ?_))
  refine lq (.int .i64 (0 : Int)) S (q_assign rfl) fun a S => ?_
  refine lx_nil (thenN ?_)
  obtain ⟨res53, hit54, hk57⟩ := bind_some hm
  obtain ⟨f55, hf56, hit54⟩ := iter_name hit54
  refine block_loop (fun a w => ∃ (x52 : Int), Slots a 28 [(1, (.int .i64 x52))] ∧ Heap w0 [] w ∧ res53 = .inl (x52)) ?_ ?_
  ·rintro a w ⟨x52, S, H, rfl⟩
   have hm := ctl_inl hk57
   refine thenN ?_
   refine wp_seq (region_plain ?_)
   refine lq (.int .i64 x52) S (q_move rfl) fun a S => ?_
   refine lq (.int .i64 x52) S (q_assign rfl) fun a S => ?_
   refine lx_nil (thenN ?_)
   refine wp_ret ?_
   obtain rfl := Option.some.inj hm
   exact leave1 S rfl rfl ⟨rfl, H⟩
  ·skip
   refine loop_ghost (fun n a w => ∃ (x41 : Int) (x42 : Int), Slots a 28 [(0, p0), (1, (.int .i64 x41)), (5, (.int .i64 x42))] ∧ Heap w0 [] w ∧ iter f55 n (x41, x42) = some res53) _ ⟨(W (a1 - (a0.length : Int))), (0 : Int), S.sub ⟨rfl, rfl, rfl, trivial⟩, H, hit54⟩ ?_
   rintro n a w ⟨x41, x42, S, H, hit54⟩
   obtain ⟨m58, o59, rfl, hm, hc60⟩ := iter_step hit54
   rw [hf56] at hm
   refine wp_seq (wp_seq (region_plain ?_))
   refine lq (.int .i64 x42) S (q_move rfl) fun a S => ?_
   refine lq p0 S (q_move rfl) fun a S => ?_
   refine lq (.int .i64 (a0.length : Int)) S (q_lenSl rfl (h0).isSl rfl Tryz.underlying22) fun a S => ?_
   refine lq (.bool (decide (x42 < (a0.length : Int)))) S (q_lss rfl rfl) fun a S => ?_
   refine lx_nil (thenN ?_)
   refine cond_b S rfl (fun hc61 => ?_) (fun hc61 => ?_)
   ·have hm := ite_t hc61 hm
    refine wp_skip (thenN ?_)
    refine wp_seq ?_
    refine wp_block ?_
    refine wp_seq (region_plain ?_)
    refine lq (.int .i64 x41) S (q_move rfl) fun a S => ?_
    refine lq p0 S (q_move rfl) fun a S => ?_
    refine lq (.int .i64 x42) S (q_move rfl) fun a S => ?_
    obtain ⟨x62, e63, hm⟩ := bind_some hm
    obtain ⟨c64, h65, hat66⟩ := (h0).elem (idx_some e63).2
    obtain rfl := h65
    have hlt := lt_of_idx (idx_some e63).2
    refine lq (ePtr p0 (x42.toNat * 1)) S (q_indexAddr rfl (h0).isSl rfl (idx_some e63).1 hlt Tryz.underlying22 Tryz.sizeOf9) fun a S => ?_
    refine lx_e (sv x62) S trivial (by decide) rfl trivial (q_load1 rfl Tryz.isAgg9 (by rintro _ rfl; exact ((hat66 0 _ rfl).ext H.ext))) (fun a S => ?_)
    refine lq (.int .i64 (x62.length : Int)) S (q_lenStr rfl rfl Tryz.underlying9) fun a S => ?_
    refine lq (.int .i64 (W (x41 - (x62.length : Int)))) S (q_sub rfl rfl) fun a S => ?_
    refine lq (.int .i64 (W (x41 - (x62.length : Int)))) S (q_assign rfl) fun a S => ?_
    refine lx_nil (thenN ?_)
    refine wp_seq (region_plain ?_)
    refine lq (.int .i64 (W (x41 - (x62.length : Int)))) S (q_move rfl) fun a S => ?_
    refine lq (.bool (decide ((W (x41 - (x62.length : Int))) < (0 : Int)))) S (q_lss rfl rfl) fun a S => ?_
    refine lx_nil (thenN ?_)
    refine cond_b S rfl (fun hc67 => ?_) (fun hc67 => ?_)
    ·have hm := ite_t hc67 hm
     refine wp_seq (region_plain ?_)
     refine lq (.int .i64 (-1 : Int)) S (q_assign rfl) fun a S => ?_
     refine lx_nil (thenN ?_)
     refine wp_ret (inBlock_ret ?_)
     refine then_ret ?_
     refine then_ret ?_
     refine inBlock_ret ?_
     refine then_ret ?_
     refine then_ret ?_
     obtain rfl := it_brk hm hc60
     have hm := ctl_inr hk57
     obtain rfl := Option.some.inj hm
     exact leave1 S rfl rfl ⟨rfl, H⟩
    ·have hm := ite_f hc67 hm
     refine wp_skip ?_
     refine inBlock_norm ?_
     refine thenN ?_
     refine region_plain ?_
     refine lq (.int .i64 x42) S (q_move rfl) fun a S => ?_
     refine lq (.int .i64 (W (x42 + (1 : Int)))) S (q_add rfl rfl) fun a S => ?_
     refine lq (.int .i64 (W (x42 + (1 : Int)))) S (q_assign rfl) fun a S => ?_
     refine lx_nil ?_
     exact ⟨m58, Nat.lt_succ_self _, (W (x41 - (x62.length : Int))), (W (x42 + (1 : Int))), S.sub ⟨rfl, rfl, rfl, trivial⟩, H, it_cont hm hc60⟩
   ·have hm := ite_f hc61 hm
    refine wp_exit ?_
    refine then_exit ?_
    refine then_exit ?_
    refine inBlock_exit ?_
    obtain rfl := it_brk hm hc60
    exact ⟨x41, S.sub ⟨rfl, trivial⟩, H, rfl⟩

/-- laws.szEdgeS -/
def laws_szEdgeS_m (_ : Nat) (a0 : (List Tlaws_Edge)) (a1 : Int) : Option (Int) :=
  (if (decide ((W (a1 - (a0.length : Int))) < (0 : Int))) = true then some ((-1 : Int)) else some ((W (a1 - (a0.length : Int)))))
set_option maxRecDepth 20000 in
theorem laws_szEdgeS_ok [dr : Dr] {w0 : World} {fuel : Nat} {p0 : Value} {a0 : (List Tlaws_Edge)} {a1 : Int} {r : Int} (h0 : Rd (rList Rlaws_Edge) w0 p0 a0) (hm : laws_szEdgeS_m fuel a0 a1 = some r) :
  Calls Tryz.prog 18 #[p0, .int .i64 a1] w0 fun e w => e = .returned (.int .i64 r) ∧ Heap w0 [] w := by
 unfold laws_szEdgeS_m at hm
 have H := Heap.start w0
 refine enter (args := [p0, .int .i64 a1]) Tryz.func18 rfl 12 rfl (Nat.le_of_ble_eq_true rfl) (fun a S => ?_)
 refine wp_seq (region_plain ?_)
 refine lq (.int .i64 (0 : Int)) S (q_assign rfl) fun a S => ?_
 refine lx_nil (thenN ?_)
 refine wp_seq (region_plain ?_)
 refine lq (.int .i64 a1) S (q_move rfl) fun a S => ?_
 refine lq p0 S (q_move rfl) fun a S => ?_
 refine lq (.int .i64 (a0.length : Int)) S (q_lenSl rfl (h0).isSl rfl Tryz.underlying23) fun a S => ?_
 refine lq (.int .i64 (W (a1 - (a0.length : Int)))) S (q_sub rfl rfl) fun a S => ?_
 refine lq (.int .i64 (W (a1 - (a0.length : Int)))) S (q_assign rfl) fun a S => ?_
 refine lx_nil (thenN ?_)
 refine wp_seq (wp_seq (region_plain ?_))
 refine lq (.int .i64 (W (a1 - (a0.length : Int)))) S (q_move rfl) fun a S => ?_
 refine lq (.bool (decide ((W (a1 - (a0.length : Int))) < (0 : Int)))) S (q_lss rfl rfl) fun a S => ?_
 refine lx_nil (thenN ?_)
 refine cond_b S rfl (fun hc31 => ?_) (fun hc31 => ?_)
 ·have hm := ite_t hc31 hm
  refine wp_seq (region_plain ?_)
  refine lq (.int .i64 (-1 : Int)) S (q_assign rfl) fun a S => ?_
  refine lx_nil (thenN ?_)
  refine wp_ret (then_ret ?_)
  obtain rfl := Option.some.inj hm
  exact leave1 S rfl rfl ⟨rfl, H⟩
 ·have hm := ite_f hc31 hm
  refine wp_skip (thenN ?_)
  refine wp_seq (region_plain ?_)
  refine lq (.int .i64 (W (a1 - (a0.length : Int)))) S (q_move rfl) fun a S => ?_
  refine lq (.int .i64 (W (a1 - (a0.length : Int)))) S (q_assign rfl) fun a S => ?_
  refine lx_nil (thenN ?_)
  refine wp_ret ?_
  obtain rfl := Option.some.inj hm
  exact leave1 S rfl rfl ⟨rfl, H⟩

/-- laws.szLts -/
def laws_szLts_m (fuel : Nat) (a0 : Tlaws_Lts) (a1 : Int) : Option (Int) :=
  (laws_szStringS_m fuel a0.2.2.1 a1).bind fun x54 => (if (decide (x54 < (0 : Int))) = true then some ((-1 : Int)) else (laws_szEdgeS_m fuel a0.2.2.2 x54).bind fun x60 => (if (decide (x60 < (0 : Int))) = true then some ((-1 : Int)) else some (x60)))
set_option maxRecDepth 20000 in
theorem laws_szLts_ok [dr : Dr] {w0 : World} {fuel : Nat} {p0 : Value} {a0 : Tlaws_Lts} {a1 : Int} {r : Int} (h0 : Rd Rlaws_Lts w0 p0 a0) (hm : laws_szLts_m fuel a0 a1 = some r) :
  Calls Tryz.prog 6 #[p0, .int .i64 a1] w0 fun e w => e = .returned (.int .i64 r) ∧ Heap w0 [] w := by
 unfold laws_szLts_m at hm
 have H := Heap.start w0
 obtain ⟨c31, rfl, h32⟩ := h0
 obtain ⟨c37, c38, rfl, h39, h40⟩ := h32
 obtain rfl := h39
 obtain ⟨c41, c42, rfl, h43, h44⟩ := h40
 obtain rfl := h43
 obtain ⟨c45, c46, rfl, h47, h48⟩ := h44
 obtain ⟨v33, rfl, h34⟩ := rd_list h47
 obtain ⟨v35, rfl, h36⟩ := rd_list h48
 refine enter (args := [(.agg #[(.int .i64 a0.1), (.int .i64 a0.2.1), v33, v35]), .int .i64 a1]) Tryz.func6 rfl 18 rfl (Nat.le_of_ble_eq_true rfl) (fun a S => ?_)
 refine wp_seq (region_plain ?_)
 refine lx_box S trivial (by decide) rfl H rfl rfl (fun b49 w50 H => ⟨trivial, fun a S => ?_⟩)
 refine lq (.int .i64 (0 : Int)) S (q_assign rfl) fun a S => ?_
 refine lx_nil (thenN ?_)
 refine wp_seq (region_plain ?_)
 refine lq (pAdd (bp b49) 2) S (q_fieldAddr' 2 22 rfl (isP_bp _) Tryz.underlying25 rfl Tryz.sizeOf22) fun a S => ?_
 refine lx_e v33 S trivial (by decide) rfl trivial (q_load1 rfl Tryz.isAgg22 (by rintro _ rfl; exact (At.of_add (m := 2) (j := 0) (boxAt (i := 0) H rfl (j := 2) rfl)))) (fun a S => ?_)
 refine lq (.int .i64 a1) S (q_move rfl) fun a S => ?_
 obtain ⟨x54, e55, hm⟩ := bind_some hm
 refine lx_call (xs := [.tmp 6, .tmp 7]) S trivial (by decide) rfl rfl Tryz.call17 ((laws_szStringS_ok (H.arg h34)  e55).mono ?_)
 rintro e w52 ⟨rfl, Hc53⟩
 have H := H.call0 Hc53
 refine ⟨_, rfl, trivial, fun a S => ?_⟩
 refine lq (.int .i64 x54) S (q_assign rfl) fun a S => ?_
 refine lx_nil (thenN ?_)
 refine wp_seq (wp_seq (region_plain ?_))
 refine lq (.int .i64 x54) S (q_move rfl) fun a S => ?_
 refine lq (.bool (decide (x54 < (0 : Int)))) S (q_lss rfl rfl) fun a S => ?_
 refine lx_nil (thenN ?_)
 refine cond_b S rfl (fun hc57 => ?_) (fun hc57 => ?_)
 ·have hm := ite_t hc57 hm
  refine wp_seq (region_plain ?_)
  refine lq (.int .i64 (-1 : Int)) S (q_assign rfl) fun a S => ?_
  refine lx_nil (thenN ?_)
  refine wp_ret (then_ret ?_)
  obtain rfl := Option.some.inj hm
  have H : Heap w0 [] w52 := H.sel [] (by decide)
  exact leave1 S rfl rfl ⟨rfl, H⟩
 ·have hm := ite_f hc57 hm
  refine wp_skip (thenN ?_)
  refine wp_seq (region_plain ?_)
  refine lq (pAdd (bp b49) 3) S (q_fieldAddr' 3 23 rfl (isP_bp _) Tryz.underlying25 rfl Tryz.sizeOf23) fun a S => ?_
  refine lx_e v35 S trivial (by decide) rfl trivial (q_load1 rfl Tryz.isAgg23 (by rintro _ rfl; exact (At.of_add (m := 3) (j := 0) (boxAt (i := 0) H rfl (j := 3) rfl)))) (fun a S => ?_)
  refine lq (.int .i64 x54) S (q_move rfl) fun a S => ?_
  obtain ⟨x60, e61, hm⟩ := bind_some hm
  refine lx_call (xs := [.tmp 12, .tmp 13]) S trivial (by decide) rfl rfl Tryz.call18 ((laws_szEdgeS_ok (H.arg h36)  e61).mono ?_)
  rintro e w58 ⟨rfl, Hc59⟩
  have H := H.call0 Hc59
  refine ⟨_, rfl, trivial, fun a S => ?_⟩
  refine lq (.int .i64 x60) S (q_assign rfl) fun a S => ?_
  refine lx_nil (thenN ?_)
  refine wp_seq (wp_seq (region_plain ?_))
  refine lq (.int .i64 x60) S (q_move rfl) fun a S => ?_
  refine lq (.bool (decide (x60 < (0 : Int)))) S (q_lss rfl rfl) fun a S => ?_
  refine lx_nil (thenN ?_)
  refine cond_b S rfl (fun hc63 => ?_) (fun hc63 => ?_)
  ·have hm := ite_t hc63 hm
   refine wp_seq (region_plain ?_)
   refine lq (.int .i64 (-1 : Int)) S (q_assign rfl) fun a S => ?_
   refine lx_nil (thenN ?_)
   refine wp_ret (then_ret ?_)
   obtain rfl := Option.some.inj hm
   have H : Heap w0 [] w58 := H.sel [] (by decide)
   exact leave1 S rfl rfl ⟨rfl, H⟩
  ·have hm := ite_f hc63 hm
   refine wp_skip (thenN ?_)
   refine wp_seq (region_plain ?_)
   refine lq (.int .i64 x60) S (q_move rfl) fun a S => ?_
   refine lq (.int .i64 x60) S (q_assign rfl) fun a S => ?_
   refine lx_nil (thenN ?_)
   refine wp_ret ?_
   obtain rfl := Option.some.inj hm
   have H : Heap w0 [] w58 := H.sel [] (by decide)
   exact leave1 S rfl rfl ⟨rfl, H⟩

/-- laws.toStringS -/
def laws_toStringS_m (fuel : Nat) (a0 : (List Str)) : Option ((List Str)) :=
  (mks (a0.length : Int) ([] : Str)).bind fun x31 => (iter (fun (s : (List Str) × (Int)) => (match s with | (xs48, x49) => (if (decide (x49 < (a0.length : Int))) = true then (idx a0 x49).bind fun x71 => (idx xs48 x49).bind fun _ => some (.inl ((xs48.set x49.toNat x71), (W (x49 + (1 : Int))))) else some (.inr (.inl (xs48)))) : Option (((List Str) × (Int)) ⊕ (((List Str)) ⊕ ((List Str)))))) fuel (x31, (0 : Int))).bind fun res62 => ctl (β := (List Str)) (ρ := (List Str)) (τ := (List Str)) res62 (fun (xs61) => some (xs61)) (fun q => some (q))
set_option maxRecDepth 20000 in
theorem laws_toStringS_ok [dr : Dr] {w0 : World} {fuel : Nat} {p0 : Value} {a0 : (List Str)} {r : (List Str)} (h0 : Rd (rList rStr) w0 p0 a0) (hm : laws_toStringS_m fuel a0 = some r) :
  Calls Tryz.prog 23 #[p0] w0 fun e w => ∃ (v0 : Value), e = .returned (v0) ∧ Heap w0 [oA (rList rStr) v0 r] w := by
 unfold laws_toStringS_m at hm
 have H := Heap.start w0
 refine enter (args := [p0]) Tryz.func23 rfl 22 rfl (Nat.le_of_ble_eq_true rfl) (fun a S => ?_)
 refine wp_seq (region_plain ?_)
 refine lq (.slice none 0 0) S (q_assign rfl) fun a S => ?_
 refine lx_nil (thenN ?_)
 refine wp_seq (region_plain ?_)
 refine lq p0 S (q_move rfl) fun a S => ?_
 refine lq (.int .i64 (a0.length : Int)) S (q_lenSl rfl (h0).isSl rfl Tryz.underlying22) fun a S => ?_
 obtain ⟨x31, e32, hm⟩ := bind_some hm
 obtain ⟨m33, hn, hn2, rfl⟩ := mks_some e32
 refine lx_make (r := rStr) (z0 := ([] : Str)) (n := m33) S trivial (by decide) rfl H (by rw [← hn]; rfl) (by rw [← hn]; rfl) Tryz.underlying22 (Tryz.ti9) rfl rfl (Nat.le_of_ble_eq_true rfl) (fun w => ⟨rfl, rfl⟩) hn2 (by decide) (fun v34 w35 H => ⟨trivial, fun a S => ?_⟩)
 refine lq v34 S (q_assign rfl) fun a S => ?_
 refine lx_nil (thenN ?_)
 refine wp_seq (wp_seq (region_plain ?_))
 refine lq (.int .i64 (0 : Int)) S (q_assign rfl) fun a S => ?_
 refine lx_nil (thenN ?_)
 obtain ⟨res62, hit63, hk66⟩ := bind_some hm
 obtain ⟨f64, hf65, hit63⟩ := iter_name hit63
 refine block_loop (fun a w => ∃ (xs61 : List Str), Slots a 22 [(3, v34)] ∧ Heap w0 [oA (rList rStr) v34 xs61] w ∧ res62 = .inl (xs61)) ?_ ?_
 ·rintro a w ⟨xs61, S, H, rfl⟩
  have hm := ctl_inl hk66
  refine thenN ?_
  refine wp_seq (region_plain ?_)
  refine lq v34 S (q_move rfl) fun a S => ?_
  refine lq v34 S (q_assign rfl) fun a S => ?_
  refine lx_nil (thenN ?_)
  refine wp_ret ?_
  obtain rfl := Option.some.inj hm
  exact leave1 S rfl rfl ⟨v34, rfl, H⟩
 ·skip
  refine loop_ghost (fun n a w => ∃ (xs48 : List Str) (x49 : Int), Slots a 22 [(0, p0), (3, v34), (4, (.int .i64 x49))] ∧ Heap w0 [oA (rList rStr) v34 xs48] w ∧ iter f64 n (xs48, x49) = some res62) _ ⟨(List.replicate m33 ([] : Str)), (0 : Int), S.sub ⟨rfl, rfl, rfl, trivial⟩, H, hit63⟩ ?_
  rintro n a w ⟨xs48, x49, S, H, hit63⟩
  obtain ⟨m67, o68, rfl, hm, hc69⟩ := iter_step hit63
  rw [hf65] at hm
  refine wp_seq (wp_seq (region_plain ?_))
  refine lq (.int .i64 x49) S (q_move rfl) fun a S => ?_
  refine lq p0 S (q_move rfl) fun a S => ?_
  refine lq (.int .i64 (a0.length : Int)) S (q_lenSl rfl (h0).isSl rfl Tryz.underlying22) fun a S => ?_
  refine lq (.bool (decide (x49 < (a0.length : Int)))) S (q_lss rfl rfl) fun a S => ?_
  refine lx_nil (thenN ?_)
  refine cond_b S rfl (fun hc70 => ?_) (fun hc70 => ?_)
  ·have hm := ite_t hc70 hm
   refine wp_skip (thenN ?_)
   refine wp_seq ?_
   refine wp_block ?_
   refine region_plain ?_
   refine lq v34 S (q_move rfl) fun a S => ?_
   refine lq (.int .i64 x49) S (q_move rfl) fun a S => ?_
   refine lq p0 S (q_move rfl) fun a S => ?_
   refine lq (.int .i64 x49) S (q_move rfl) fun a S => ?_
   obtain ⟨x71, e72, hm⟩ := bind_some hm
   obtain ⟨c73, h74, hat75⟩ := (h0).elem (idx_some e72).2
   obtain rfl := h74
   have hlt := lt_of_idx (idx_some e72).2
   refine lq (ePtr p0 (x49.toNat * 1)) S (q_indexAddr rfl (h0).isSl rfl (idx_some e72).1 hlt Tryz.underlying22 Tryz.sizeOf9) fun a S => ?_
   refine lx_e (sv x71) S trivial (by decide) rfl trivial (q_load1 rfl Tryz.isAgg9 (by rintro _ rfl; exact ((hat75 0 _ rfl).ext H.ext))) (fun a S => ?_)
   obtain ⟨x76, e77, hm⟩ := bind_some hm
   have hlt := lt_of_idx (idx_some e77).2
   refine lq (ePtr v34 (x49.toNat * 1)) S (q_indexAddr rfl (H.isSl 0 rfl) rfl (idx_some e77).1 hlt Tryz.underlying22 Tryz.sizeOf9) fun a S => ?_
   refine lx_storeElem (r := rStr) (us := [(sv x71)]) (off := 0) (e' := x71) S trivial rfl H.putE (ev_zero rfl) rfl (idx_some e77).2 rfl Tryz.sizeOf9 (Nat.le_of_ble_eq_true rfl) (List.forall_mem_cons.2 ⟨rfl, (List.forall_mem_nil _)⟩) (Upd.full rfl (fun w G hG => by cases (show G = [] from hG); exact ⟨rfl, rfl⟩)) (fun w78 H => ⟨trivial, fun a S => ?_⟩)
   refine lx_nil ?_
   refine inBlock_norm ?_
   refine thenN ?_
   refine region_plain ?_
   refine lq (.int .i64 x49) S (q_move rfl) fun a S => ?_
   refine lq (.int .i64 (W (x49 + (1 : Int)))) S (q_add rfl rfl) fun a S => ?_
   refine lq (.int .i64 (W (x49 + (1 : Int)))) S (q_assign rfl) fun a S => ?_
   refine lx_nil ?_
   exact ⟨m67, Nat.lt_succ_self _, (xs48.set x49.toNat x71), (W (x49 + (1 : Int))), S.sub ⟨rfl, rfl, rfl, trivial⟩, H, it_cont hm hc69⟩
  ·have hm := ite_f hc70 hm
   refine wp_exit ?_
   refine then_exit ?_
   refine then_exit ?_
   refine inBlock_exit ?_
   obtain rfl := it_brk hm hc69
   exact ⟨xs48, S.sub ⟨rfl, trivial⟩, H, rfl⟩

/-- laws.toEdge -/
def laws_toEdge_m (_ : Nat) (a0 : Tlaws_Edge) : Option (Timpl_Edge) :=
  some ((a0.1, a0.2.1, a0.2.2))
set_option maxRecDepth 20000 in
theorem laws_toEdge_ok [dr : Dr] {w0 : World} {fuel : Nat} {p0 : Value} {a0 : Tlaws_Edge} {r : Timpl_Edge} (h0 : Rd Rlaws_Edge w0 p0 a0) (hm : laws_toEdge_m fuel a0 = some r) :
  Calls Tryz.prog 48 #[p0] w0 fun e w => e = .returned (.agg #[.int .i64 r.1, .int .i64 r.2.1, .int .i64 r.2.2]) ∧ Heap w0 [] w := by
 unfold laws_toEdge_m at hm
 have H := Heap.start w0
 obtain ⟨c31, rfl, h32⟩ := h0
 obtain ⟨c33, c34, rfl, h35, h36⟩ := h32
 obtain rfl := h35
 obtain ⟨c37, c38, rfl, h39, h40⟩ := h36
 obtain rfl := h39
 obtain rfl := h40
 refine enter (args := [(.agg #[(.int .i64 a0.1), (.int .i64 a0.2.1), (.int .i64 a0.2.2)])]) Tryz.func48 rfl 14 rfl (Nat.le_of_ble_eq_true rfl) (fun a S => ?_)
 refine wp_seq (region_plain ?_)
 refine lx_box S trivial (by decide) rfl H rfl rfl (fun b41 w42 H => ⟨trivial, fun a S => ?_⟩)
 refine lx_alloc S trivial (by decide) rfl H Tryz.zeroValue68 rfl (fun b44 w45 H => ⟨trivial, fun a S => ?_⟩)
 refine lx_nil (thenN ?_)
 refine wp_seq (region_plain ?_)
 refine lx_alloc S trivial (by decide) rfl H Tryz.zeroValue68 rfl (fun b47 w48 H => ⟨trivial, fun a S => ?_⟩)
 refine lx_nil (thenN ?_)
 refine wp_seq (region_plain ?_)
 refine lq (pAdd (bp b41) 0) S (q_fieldAddr' 0 2 rfl (isP_bp _) Tryz.underlying74 rfl Tryz.sizeOf2) fun a S => ?_
 refine lx_e (.int .i64 a0.1) S trivial (by decide) rfl trivial (q_load1 rfl Tryz.isAgg2 (by rintro _ rfl; exact (At.of_add (m := 0) (j := 0) (boxAt (i := 2) H rfl (j := 0) rfl)))) (fun a S => ?_)
 refine lq (pAdd (bp b47) 0) S (q_fieldAddr' 0 2 rfl (isP_bp _) Tryz.underlying68 rfl Tryz.sizeOf2) fun a S => ?_
 refine lx_storeBox (o := 0) (i := 0) (us := [(.int .i64 a0.1)]) (cs' := [(.int .i64 a0.1), (.int .i64 (0 : Int)), (.int .i64 (0 : Int))]) S trivial rfl H rfl rfl rfl rfl Tryz.sizeOf2 (Nat.le_of_ble_eq_true rfl) (List.forall_mem_cons.2 ⟨rfl, (List.forall_mem_nil _)⟩) rfl (fun w50 H => ⟨trivial, fun a S => ?_⟩)
 change Heap w0 [bA b47 [(.int .i64 a0.1), (.int .i64 (0 : Int)), (.int .i64 (0 : Int))] 68, bA b44 [(.int .i64 (0 : Int)), (.int .i64 (0 : Int)), (.int .i64 (0 : Int))] 68, bA b41 [(.int .i64 a0.1), (.int .i64 a0.2.1), (.int .i64 a0.2.2)] 74] w50 at H
 refine lx_nil (thenN ?_)
 refine wp_seq (region_plain ?_)
 refine lq (pAdd (bp b41) 1) S (q_fieldAddr' 1 2 rfl (isP_bp _) Tryz.underlying74 rfl Tryz.sizeOf2) fun a S => ?_
 refine lx_e (.int .i64 a0.2.1) S trivial (by decide) rfl trivial (q_load1 rfl Tryz.isAgg2 (by rintro _ rfl; exact (At.of_add (m := 1) (j := 0) (boxAt (i := 2) H rfl (j := 1) rfl)))) (fun a S => ?_)
 refine lq (pAdd (bp b47) 1) S (q_fieldAddr' 1 2 rfl (isP_bp _) Tryz.underlying68 rfl Tryz.sizeOf2) fun a S => ?_
 refine lx_storeBox (o := 1) (i := 0) (us := [(.int .i64 a0.2.1)]) (cs' := [(.int .i64 a0.1), (.int .i64 a0.2.1), (.int .i64 (0 : Int))]) S trivial rfl H rfl rfl rfl rfl Tryz.sizeOf2 (Nat.le_of_ble_eq_true rfl) (List.forall_mem_cons.2 ⟨rfl, (List.forall_mem_nil _)⟩) rfl (fun w51 H => ⟨trivial, fun a S => ?_⟩)
 change Heap w0 [bA b47 [(.int .i64 a0.1), (.int .i64 a0.2.1), (.int .i64 (0 : Int))] 68, bA b44 [(.int .i64 (0 : Int)), (.int .i64 (0 : Int)), (.int .i64 (0 : Int))] 68, bA b41 [(.int .i64 a0.1), (.int .i64 a0.2.1), (.int .i64 a0.2.2)] 74] w51 at H
 refine lx_nil (thenN ?_)
 refine wp_seq (region_plain ?_)
 refine lq (pAdd (bp b41) 2) S (q_fieldAddr' 2 2 rfl (isP_bp _) Tryz.underlying74 rfl Tryz.sizeOf2) fun a S => ?_
 refine lx_e (.int .i64 a0.2.2) S trivial (by decide) rfl trivial (q_load1 rfl Tryz.isAgg2 (by rintro _ rfl; exact (At.of_add (m := 2) (j := 0) (boxAt (i := 2) H rfl (j := 2) rfl)))) (fun a S => ?_)
 refine lq (pAdd (bp b47) 2) S (q_fieldAddr' 2 2 rfl (isP_bp _) Tryz.underlying68 rfl Tryz.sizeOf2) fun a S => ?_
 refine lx_storeBox (o := 2) (i := 0) (us := [(.int .i64 a0.2.2)]) (cs' := [(.int .i64 a0.1), (.int .i64 a0.2.1), (.int .i64 a0.2.2)]) S trivial rfl H rfl rfl rfl rfl Tryz.sizeOf2 (Nat.le_of_ble_eq_true rfl) (List.forall_mem_cons.2 ⟨rfl, (List.forall_mem_nil _)⟩) rfl (fun w52 H => ⟨trivial, fun a S => ?_⟩)
 change Heap w0 [bA b47 [(.int .i64 a0.1), (.int .i64 a0.2.1), (.int .i64 a0.2.2)] 68, bA b44 [(.int .i64 (0 : Int)), (.int .i64 (0 : Int)), (.int .i64 (0 : Int))] 68, bA b41 [(.int .i64 a0.1), (.int .i64 a0.2.1), (.int .i64 a0.2.2)] 74] w52 at H
 refine lx_nil (thenN ?_)
 refine wp_seq (region_plain ?_)
 refine lx_e (.agg #[(.int .i64 a0.1), (.int .i64 a0.2.1), (.int .i64 a0.2.2)]) S trivial (by decide) rfl trivial (q_loadA (cs := [(.int .i64 a0.1), (.int .i64 a0.2.1), (.int .i64 a0.2.2)]) rfl (isP_bp _) Tryz.isAgg68 Tryz.sizeOf68 (by rintro _ rfl; exact (fun j u hu => boxAt (i := 0) H rfl hu))) (fun a S => ?_)
 refine lx_storeBox (o := 0) (i := 1) (us := [(.int .i64 a0.1), (.int .i64 a0.2.1), (.int .i64 a0.2.2)]) (cs' := [(.int .i64 a0.1), (.int .i64 a0.2.1), (.int .i64 a0.2.2)]) S trivial rfl H rfl rfl rfl rfl Tryz.sizeOf68 (Nat.le_of_ble_eq_true rfl) (List.forall_mem_cons.2 ⟨rfl, (List.forall_mem_cons.2 ⟨rfl, (List.forall_mem_cons.2 ⟨rfl, (List.forall_mem_nil _)⟩)⟩)⟩) rfl (fun w53 H => ⟨trivial, fun a S => ?_⟩)
 change Heap w0 [bA b47 [(.int .i64 a0.1), (.int .i64 a0.2.1), (.int .i64 a0.2.2)] 68, bA b44 [(.int .i64 a0.1), (.int .i64 a0.2.1), (.int .i64 a0.2.2)] 68, bA b41 [(.int .i64 a0.1), (.int .i64 a0.2.1), (.int .i64 a0.2.2)] 74] w53 at H
 refine lx_nil (thenN ?_)
 refine wp_ret ?_
 have hrv0 := RV.cellA (t := 68) (q := 2) (env := [(0, (.agg #[(.int .i64 a0.1), (.int .i64 a0.2.1), (.int .i64 a0.2.2)])), (1, (bp b41)), (2, (bp b44)), (3, (bp b47)), (4, (pAdd (bp b41) 0)), (5, (.int .i64 a0.1)), (6, (pAdd (bp b47) 0)), (7, (pAdd (bp b41) 1)), (8, (.int .i64 a0.2.1)), (9, (pAdd (bp b47) 1)), (10, (pAdd (bp b41) 2)), (11, (.int .i64 a0.2.2)), (12, (pAdd (bp b47) 2)), (13, (.agg #[(.int .i64 a0.1), (.int .i64 a0.2.1), (.int .i64 a0.2.2)]))]) H (i := 1) rfl rfl Tryz.isAgg68 Tryz.sizeOf68
 obtain rfl := Option.some.inj hm
 have H : Heap w0 [] w53 := H.sel [] (by decide)
 exact leaveR1 S rfl hrv0 ⟨rfl, H⟩

/-- laws.toEdgeS -/
def laws_toEdgeS_m (fuel : Nat) (a0 : (List Tlaws_Edge)) : Option ((List Timpl_Edge)) :=
  (mks (a0.length : Int) ((0 : Int), (0 : Int), (0 : Int))).bind fun x31 => (iter (fun (s : (List Timpl_Edge) × (Int)) => (match s with | (xs61, x62) => (if (decide (x62 < (a0.length : Int))) = true then (idx a0 x62).bind fun x97 => (laws_toEdge_m fuel (x97.1, x97.2.1, x97.2.2)).bind fun x112 => (idx xs61 x62).bind fun _ => some (.inl ((xs61.set x62.toNat (x112.1, x112.2.1, x112.2.2)), (W (x62 + (1 : Int))))) else some (.inr (.inl (xs61)))) : Option (((List Timpl_Edge) × (Int)) ⊕ (((List Timpl_Edge)) ⊕ ((List Timpl_Edge)))))) fuel (x31, (0 : Int))).bind fun res88 => ctl (β := (List Timpl_Edge)) (ρ := (List Timpl_Edge)) (τ := (List Timpl_Edge)) res88 (fun (xs87) => some (xs87)) (fun q => some (q))
set_option maxRecDepth 20000 in
theorem laws_toEdgeS_ok [dr : Dr] {w0 : World} {fuel : Nat} {p0 : Value} {a0 : (List Tlaws_Edge)} {r : (List Timpl_Edge)} (h0 : Rd (rList Rlaws_Edge) w0 p0 a0) (hm : laws_toEdgeS_m fuel a0 = some r) :
  Calls Tryz.prog 24 #[p0] w0 fun e w => ∃ (v0 : Value), e = .returned (v0) ∧ Heap w0 [oA (rList Rimpl_Edge) v0 r] w := by
 unfold laws_toEdgeS_m at hm
 have H := Heap.start w0
 refine enter (args := [p0]) Tryz.func24 rfl 23 rfl (Nat.le_of_ble_eq_true rfl) (fun a S => ?_)
 refine wp_seq (region_plain ?_)
 refine lq (.slice none 0 0) S (q_assign rfl) fun a S => ?_
 refine lx_nil (thenN ?_)
 refine wp_seq (region_plain ?_)
 refine lq p0 S (q_move rfl) fun a S => ?_
 refine lq (.int .i64 (a0.length : Int)) S (q_lenSl rfl (h0).isSl rfl Tryz.underlying23) fun a S => ?_
 obtain ⟨x31, e32, hm⟩ := bind_some hm
 obtain ⟨m33, hn, hn2, rfl⟩ := mks_some e32
 refine lx_make (r := Rimpl_Edge) (z0 := ((0 : Int), (0 : Int), (0 : Int))) (n := m33) S trivial (by decide) rfl H (by rw [← hn]; rfl) (by rw [← hn]; rfl) Tryz.underlying29 (Tryz.ti68) rfl rfl (Nat.le_of_ble_eq_true rfl) (fun w => ⟨_, _, [(.int .i64 (0 : Int))], [(.int .i64 (0 : Int)), (.int .i64 (0 : Int))], rfl, rfl, ⟨rfl, rfl⟩, ⟨_, _, [(.int .i64 (0 : Int))], [(.int .i64 (0 : Int))], rfl, rfl, ⟨rfl, rfl⟩, ⟨rfl, rfl⟩⟩⟩) hn2 (by decide) (fun v34 w35 H => ⟨trivial, fun a S => ?_⟩)
 refine lq v34 S (q_assign rfl) fun a S => ?_
 refine lx_nil (thenN ?_)
 refine wp_seq (wp_seq (region_plain ?_))
 refine lq (.int .i64 (0 : Int)) S (q_assign rfl) fun a S => ?_
 refine lx_nil (thenN ?_)
 obtain ⟨res88, hit89, hk92⟩ := bind_some hm
 obtain ⟨f90, hf91, hit89⟩ := iter_name hit89
 refine block_loop (fun a w => ∃ (xs87 : List Timpl_Edge), Slots a 23 [(3, v34)] ∧ Heap w0 [oA (rList Rimpl_Edge) v34 xs87] w ∧ res88 = .inl (xs87)) ?_ ?_
 ·rintro a w ⟨xs87, S, H, rfl⟩
  have hm := ctl_inl hk92
  refine thenN ?_
  refine wp_seq (region_plain ?_)
  refine lq v34 S (q_move rfl) fun a S => ?_
  refine lq v34 S (q_assign rfl) fun a S => ?_
  refine lx_nil (thenN ?_)
  refine wp_ret ?_
  obtain rfl := Option.some.inj hm
  exact leave1 S rfl rfl ⟨v34, rfl, H⟩
 ·skip
  refine loop_ghost (fun n a w => ∃ (xs61 : List Timpl_Edge) (x62 : Int), Slots a 23 [(0, p0), (3, v34), (4, (.int .i64 x62))] ∧ Heap w0 [oA (rList Rimpl_Edge) v34 xs61] w ∧ iter f90 n (xs61, x62) = some res88) _ ⟨(List.replicate m33 ((0 : Int), (0 : Int), (0 : Int))), (0 : Int), S.sub ⟨rfl, rfl, rfl, trivial⟩, H, hit89⟩ ?_
  rintro n a w ⟨xs61, x62, S, H, hit89⟩
  obtain ⟨m93, o94, rfl, hm, hc95⟩ := iter_step hit89
  rw [hf91] at hm
  refine wp_seq (wp_seq (region_plain ?_))
  refine lq (.int .i64 x62) S (q_move rfl) fun a S => ?_
  refine lq p0 S (q_move rfl) fun a S => ?_
  refine lq (.int .i64 (a0.length : Int)) S (q_lenSl rfl (h0).isSl rfl Tryz.underlying23) fun a S => ?_
  refine lq (.bool (decide (x62 < (a0.length : Int)))) S (q_lss rfl rfl) fun a S => ?_
  refine lx_nil (thenN ?_)
  refine cond_b S rfl (fun hc96 => ?_) (fun hc96 => ?_)
  ·have hm := ite_t hc96 hm
   refine wp_skip (thenN ?_)
   refine wp_seq ?_
   refine wp_block ?_
   refine region_plain ?_
   refine lq v34 S (q_move rfl) fun a S => ?_
   refine lq (.int .i64 x62) S (q_move rfl) fun a S => ?_
   refine lq p0 S (q_move rfl) fun a S => ?_
   refine lq (.int .i64 x62) S (q_move rfl) fun a S => ?_
   obtain ⟨x97, e98, hm⟩ := bind_some hm
   obtain ⟨c99, h100, hat101⟩ := (h0).elem (idx_some e98).2
   obtain ⟨c102, c103, rfl, h104, h105⟩ := h100
   obtain rfl := h104
   obtain ⟨c106, c107, rfl, h108, h109⟩ := h105
   obtain rfl := h108
   obtain rfl := h109
   have hlt := lt_of_idx (idx_some e98).2
   refine lq (ePtr p0 (x62.toNat * 3)) S (q_indexAddr rfl (h0).isSl rfl (idx_some e98).1 hlt Tryz.underlying23 Tryz.sizeOf74) fun a S => ?_
   refine lx_e (.agg #[(.int .i64 x97.1), (.int .i64 x97.2.1), (.int .i64 x97.2.2)]) S trivial (by decide) rfl trivial (q_loadA (cs := [(.int .i64 x97.1), (.int .i64 x97.2.1), (.int .i64 x97.2.2)]) rfl ((hat101 0 _ rfl).isP) Tryz.isAgg74 Tryz.sizeOf74 (by rintro _ rfl; exact (fun j u hu => (hat101 j u hu).ext H.ext))) (fun a S => ?_)
   obtain ⟨x112, e113, hm⟩ := bind_some hm
   refine lx_call (xs := [.tmp 19]) S trivial (by decide) rfl rfl Tryz.call48 ((laws_toEdge_ok ⟨[(.int .i64 x97.1), (.int .i64 x97.2.1), (.int .i64 x97.2.2)], rfl, ⟨[(.int .i64 x97.1)], [(.int .i64 x97.2.1), (.int .i64 x97.2.2)], rfl, rfl, ⟨[(.int .i64 x97.2.1)], [(.int .i64 x97.2.2)], rfl, rfl, rfl⟩⟩⟩ e113).mono ?_)
   rintro e w110 ⟨rfl, Hc111⟩
   have H := H.call0 Hc111
   refine ⟨_, rfl, trivial, fun a S => ?_⟩
   obtain ⟨x115, e116, hm⟩ := bind_some hm
   have hlt := lt_of_idx (idx_some e116).2
   refine lq (ePtr v34 (x62.toNat * 3)) S (q_indexAddr rfl (H.isSl 0 rfl) rfl (idx_some e116).1 hlt Tryz.underlying29 Tryz.sizeOf68) fun a S => ?_
   refine lx_storeElem (r := Rimpl_Edge) (us := [(.int .i64 x112.1), (.int .i64 x112.2.1), (.int .i64 x112.2.2)]) (off := 0) (e' := (x112.1, x112.2.1, x112.2.2)) S trivial rfl H.putE (ev_zero rfl) rfl (idx_some e116).2 rfl Tryz.sizeOf68 (Nat.le_of_ble_eq_true rfl) (List.forall_mem_cons.2 ⟨rfl, (List.forall_mem_cons.2 ⟨rfl, (List.forall_mem_cons.2 ⟨rfl, (List.forall_mem_nil _)⟩)⟩)⟩) (Upd.full rfl (fun w G hG => by cases (show G = [] from hG); exact ⟨_, _, [(.int .i64 x112.1)], [(.int .i64 x112.2.1), (.int .i64 x112.2.2)], rfl, rfl, ⟨rfl, rfl⟩, ⟨_, _, [(.int .i64 x112.2.1)], [(.int .i64 x112.2.2)], rfl, rfl, ⟨rfl, rfl⟩, ⟨rfl, rfl⟩⟩⟩)) (fun w117 H => ⟨trivial, fun a S => ?_⟩)
   refine lx_nil ?_
   refine inBlock_norm ?_
   refine thenN ?_
   refine region_plain ?_
   refine lq (.int .i64 x62) S (q_move rfl) fun a S => ?_
   refine lq (.int .i64 (W (x62 + (1 : Int)))) S (q_add rfl rfl) fun a S => ?_
   refine lq (.int .i64 (W (x62 + (1 : Int)))) S (q_assign rfl) fun a S => ?_
   refine lx_nil ?_
   exact ⟨m93, Nat.lt_succ_self _, (xs61.set x62.toNat (x112.1, x112.2.1, x112.2.2)), (W (x62 + (1 : Int))), S.sub ⟨rfl, rfl, rfl, trivial⟩, H, it_cont hm hc95⟩
  ·have hm := ite_f hc96 hm
   refine wp_exit ?_
   refine then_exit ?_
   refine then_exit ?_
   refine inBlock_exit ?_
   obtain rfl := it_brk hm hc95
   exact ⟨xs61, S.sub ⟨rfl, trivial⟩, H, rfl⟩

/-- laws.toLts -/
def laws_toLts_m (fuel : Nat) (a0 : Tlaws_Lts) : Option (Timpl_Lts) :=
  (laws_toStringS_m fuel a0.2.2.1).bind fun x62 => (laws_toEdgeS_m fuel a0.2.2.2).bind fun x70 => some ((a0.1, a0.2.1, x62, x70))
set_option maxRecDepth 20000 in
theorem laws_toLts_ok [dr : Dr] {w0 : World} {fuel : Nat} {p0 : Value} {a0 : Tlaws_Lts} {r : Timpl_Lts} (h0 : Rd Rlaws_Lts w0 p0 a0) (hm : laws_toLts_m fuel a0 = some r) :
  Calls Tryz.prog 8 #[p0] w0 fun e w => ∃ (v0 : Value) (v1 : Value), e = .returned (.agg #[.int .i64 r.1, .int .i64 r.2.1, v0, v1]) ∧ Heap w0 [oA (rList rStr) v0 r.2.2.1, oA (rList Rimpl_Edge) v1 r.2.2.2] w := by
 unfold laws_toLts_m at hm
 have H := Heap.start w0
 obtain ⟨c31, rfl, h32⟩ := h0
 obtain ⟨c37, c38, rfl, h39, h40⟩ := h32
 obtain rfl := h39
 obtain ⟨c41, c42, rfl, h43, h44⟩ := h40
 obtain rfl := h43
 obtain ⟨c45, c46, rfl, h47, h48⟩ := h44
 obtain ⟨v33, rfl, h34⟩ := rd_list h47
 obtain ⟨v35, rfl, h36⟩ := rd_list h48
 refine enter (args := [(.agg #[(.int .i64 a0.1), (.int .i64 a0.2.1), v33, v35])]) Tryz.func8 rfl 19 rfl (Nat.le_of_ble_eq_true rfl) (fun a S => ?_)
 refine wp_seq (region_plain ?_)
 refine lx_box S trivial (by decide) rfl H rfl rfl (fun b49 w50 H => ⟨trivial, fun a S => ?_⟩)
 refine lx_alloc S trivial (by decide) rfl H Tryz.zeroValue31 rfl (fun b52 w53 H => ⟨trivial, fun a S => ?_⟩)
 refine lx_nil (thenN ?_)
 refine wp_seq (region_plain ?_)
 refine lx_alloc S trivial (by decide) rfl H Tryz.zeroValue31 rfl (fun b55 w56 H => ⟨trivial, fun a S => ?_⟩)
 refine lx_nil (thenN ?_)
 refine wp_seq (region_plain ?_)
 refine lq (pAdd (bp b49) 0) S (q_fieldAddr' 0 2 rfl (isP_bp _) Tryz.underlying25 rfl Tryz.sizeOf2) fun a S => ?_
 refine lx_e (.int .i64 a0.1) S trivial (by decide) rfl trivial (q_load1 rfl Tryz.isAgg2 (by rintro _ rfl; exact (At.of_add (m := 0) (j := 0) (boxAt (i := 2) H rfl (j := 0) rfl)))) (fun a S => ?_)
 refine lq (pAdd (bp b55) 0) S (q_fieldAddr' 0 2 rfl (isP_bp _) Tryz.underlying31 rfl Tryz.sizeOf2) fun a S => ?_
 refine lx_storeBox (o := 0) (i := 0) (us := [(.int .i64 a0.1)]) (cs' := [(.int .i64 a0.1), (.int .i64 (0 : Int)), (.slice none 0 0), (.slice none 0 0)]) S trivial rfl H rfl rfl rfl rfl Tryz.sizeOf2 (Nat.le_of_ble_eq_true rfl) (List.forall_mem_cons.2 ⟨rfl, (List.forall_mem_nil _)⟩) rfl (fun w58 H => ⟨trivial, fun a S => ?_⟩)
 change Heap w0 [bA b55 [(.int .i64 a0.1), (.int .i64 (0 : Int)), (.slice none 0 0), (.slice none 0 0)] 31, bA b52 [(.int .i64 (0 : Int)), (.int .i64 (0 : Int)), (.slice none 0 0), (.slice none 0 0)] 31, bA b49 [(.int .i64 a0.1), (.int .i64 a0.2.1), v33, v35] 25] w58 at H
 refine lx_nil (thenN ?_)
 refine wp_seq (region_plain ?_)
 refine lq (pAdd (bp b49) 1) S (q_fieldAddr' 1 2 rfl (isP_bp _) Tryz.underlying25 rfl Tryz.sizeOf2) fun a S => ?_
 refine lx_e (.int .i64 a0.2.1) S trivial (by decide) rfl trivial (q_load1 rfl Tryz.isAgg2 (by rintro _ rfl; exact (At.of_add (m := 1) (j := 0) (boxAt (i := 2) H rfl (j := 1) rfl)))) (fun a S => ?_)
 refine lq (pAdd (bp b55) 1) S (q_fieldAddr' 1 2 rfl (isP_bp _) Tryz.underlying31 rfl Tryz.sizeOf2) fun a S => ?_
 refine lx_storeBox (o := 1) (i := 0) (us := [(.int .i64 a0.2.1)]) (cs' := [(.int .i64 a0.1), (.int .i64 a0.2.1), (.slice none 0 0), (.slice none 0 0)]) S trivial rfl H rfl rfl rfl rfl Tryz.sizeOf2 (Nat.le_of_ble_eq_true rfl) (List.forall_mem_cons.2 ⟨rfl, (List.forall_mem_nil _)⟩) rfl (fun w59 H => ⟨trivial, fun a S => ?_⟩)
 change Heap w0 [bA b55 [(.int .i64 a0.1), (.int .i64 a0.2.1), (.slice none 0 0), (.slice none 0 0)] 31, bA b52 [(.int .i64 (0 : Int)), (.int .i64 (0 : Int)), (.slice none 0 0), (.slice none 0 0)] 31, bA b49 [(.int .i64 a0.1), (.int .i64 a0.2.1), v33, v35] 25] w59 at H
 refine lx_nil (thenN ?_)
 refine wp_seq (region_plain ?_)
 refine lq (pAdd (bp b49) 2) S (q_fieldAddr' 2 22 rfl (isP_bp _) Tryz.underlying25 rfl Tryz.sizeOf22) fun a S => ?_
 refine lx_e v33 S trivial (by decide) rfl trivial (q_load1 rfl Tryz.isAgg22 (by rintro _ rfl; exact (At.of_add (m := 2) (j := 0) (boxAt (i := 2) H rfl (j := 2) rfl)))) (fun a S => ?_)
 obtain ⟨x62, e63, hm⟩ := bind_some hm
 refine lx_call (xs := [.tmp 11]) S trivial (by decide) rfl rfl Tryz.call23 ((laws_toStringS_ok (H.arg h34) e63).mono ?_)
 rintro e w60 ⟨v64, rfl, Hc61⟩
 have H := H.call1 Hc61
 refine ⟨_, rfl, trivial, fun a S => ?_⟩
 refine lq (pAdd (bp b55) 2) S (q_fieldAddr' 2 22 rfl (isP_bp _) Tryz.underlying31 rfl Tryz.sizeOf22) fun a S => ?_
 refine lx_storeBox (o := 2) (i := 1) (us := [v64]) (cs' := [(.int .i64 a0.1), (.int .i64 a0.2.1), v64, (.slice none 0 0)]) S trivial rfl H rfl rfl rfl (cells_sl (H.isSl 0 rfl)) Tryz.sizeOf22 (Nat.le_of_ble_eq_true rfl) (List.forall_mem_cons.2 ⟨one_sl (H.isSl 0 rfl), (List.forall_mem_nil _)⟩) rfl (fun w67 H => ⟨trivial, fun a S => ?_⟩)
 change Heap w0 [oA (rList rStr) v64 x62, bA b55 [(.int .i64 a0.1), (.int .i64 a0.2.1), v64, (.slice none 0 0)] 31, bA b52 [(.int .i64 (0 : Int)), (.int .i64 (0 : Int)), (.slice none 0 0), (.slice none 0 0)] 31, bA b49 [(.int .i64 a0.1), (.int .i64 a0.2.1), v33, v35] 25] w67 at H
 refine lx_nil (thenN ?_)
 refine wp_seq (region_plain ?_)
 refine lq (pAdd (bp b49) 3) S (q_fieldAddr' 3 23 rfl (isP_bp _) Tryz.underlying25 rfl Tryz.sizeOf23) fun a S => ?_
 refine lx_e v35 S trivial (by decide) rfl trivial (q_load1 rfl Tryz.isAgg23 (by rintro _ rfl; exact (At.of_add (m := 3) (j := 0) (boxAt (i := 3) H rfl (j := 3) rfl)))) (fun a S => ?_)
 obtain ⟨x70, e71, hm⟩ := bind_some hm
 refine lx_call (xs := [.tmp 15]) S trivial (by decide) rfl rfl Tryz.call24 ((laws_toEdgeS_ok (H.arg h36) e71).mono ?_)
 rintro e w68 ⟨v72, rfl, Hc69⟩
 have H := H.call1 Hc69
 refine ⟨_, rfl, trivial, fun a S => ?_⟩
 refine lq (pAdd (bp b55) 3) S (q_fieldAddr' 3 29 rfl (isP_bp _) Tryz.underlying31 rfl Tryz.sizeOf29) fun a S => ?_
 refine lx_storeBox (o := 3) (i := 2) (us := [v72]) (cs' := [(.int .i64 a0.1), (.int .i64 a0.2.1), v64, v72]) S trivial rfl H rfl rfl rfl (cells_sl (H.isSl 0 rfl)) Tryz.sizeOf29 (Nat.le_of_ble_eq_true rfl) (List.forall_mem_cons.2 ⟨one_sl (H.isSl 0 rfl), (List.forall_mem_nil _)⟩) rfl (fun w75 H => ⟨trivial, fun a S => ?_⟩)
 change Heap w0 [oA (rList Rimpl_Edge) v72 x70, oA (rList rStr) v64 x62, bA b55 [(.int .i64 a0.1), (.int .i64 a0.2.1), v64, v72] 31, bA b52 [(.int .i64 (0 : Int)), (.int .i64 (0 : Int)), (.slice none 0 0), (.slice none 0 0)] 31, bA b49 [(.int .i64 a0.1), (.int .i64 a0.2.1), v33, v35] 25] w75 at H
 refine lx_nil (thenN ?_)
 refine wp_seq (region_plain ?_)
 refine lx_e (.agg #[(.int .i64 a0.1), (.int .i64 a0.2.1), v64, v72]) S trivial (by decide) rfl trivial (q_loadA (cs := [(.int .i64 a0.1), (.int .i64 a0.2.1), v64, v72]) rfl (isP_bp _) Tryz.isAgg31 Tryz.sizeOf31 (by rintro _ rfl; exact (fun j u hu => boxAt (i := 2) H rfl hu))) (fun a S => ?_)
 refine lx_storeBox (o := 0) (i := 3) (us := [(.int .i64 a0.1), (.int .i64 a0.2.1), v64, v72]) (cs' := [(.int .i64 a0.1), (.int .i64 a0.2.1), v64, v72]) S trivial rfl H rfl rfl rfl rfl Tryz.sizeOf31 (Nat.le_of_ble_eq_true rfl) (List.forall_mem_cons.2 ⟨rfl, (List.forall_mem_cons.2 ⟨rfl, (List.forall_mem_cons.2 ⟨one_sl (H.isSl 1 rfl), (List.forall_mem_cons.2 ⟨one_sl (H.isSl 0 rfl), (List.forall_mem_nil _)⟩)⟩)⟩)⟩) rfl (fun w76 H => ⟨trivial, fun a S => ?_⟩)
 change Heap w0 [oA (rList Rimpl_Edge) v72 x70, oA (rList rStr) v64 x62, bA b55 [(.int .i64 a0.1), (.int .i64 a0.2.1), v64, v72] 31, bA b52 [(.int .i64 a0.1), (.int .i64 a0.2.1), v64, v72] 31, bA b49 [(.int .i64 a0.1), (.int .i64 a0.2.1), v33, v35] 25] w76 at H
 refine lx_nil (thenN ?_)
 refine wp_ret ?_
 have hrv0 := RV.cellA (t := 31) (q := 2) (env := [(0, (.agg #[(.int .i64 a0.1), (.int .i64 a0.2.1), v33, v35])), (1, (bp b49)), (2, (bp b52)), (3, (bp b55)), (4, (pAdd (bp b49) 0)), (5, (.int .i64 a0.1)), (6, (pAdd (bp b55) 0)), (7, (pAdd (bp b49) 1)), (8, (.int .i64 a0.2.1)), (9, (pAdd (bp b55) 1)), (10, (pAdd (bp b49) 2)), (11, v33), (12, v64), (13, (pAdd (bp b55) 2)), (14, (pAdd (bp b49) 3)), (15, v35), (16, v72), (17, (pAdd (bp b55) 3)), (18, (.agg #[(.int .i64 a0.1), (.int .i64 a0.2.1), v64, v72]))]) H (i := 3) rfl rfl Tryz.isAgg31 Tryz.sizeOf31
 obtain rfl := Option.some.inj hm
 have H : Heap w0 [oA (rList rStr) v64 x62, oA (rList Rimpl_Edge) v72 x70, bA b55 [(.int .i64 a0.1), (.int .i64 a0.2.1), v64, v72] 31, bA b52 [(.int .i64 a0.1), (.int .i64 a0.2.1), v64, v72] 31, bA b49 [(.int .i64 a0.1), (.int .i64 a0.2.1), v33, v35] 25] w76 := H.front 1 rfl
 have H : Heap w0 [oA (rList rStr) v64 x62, oA (rList Rimpl_Edge) v72 x70] w76 := H.sel [0, 1] (by decide)
 exact leaveR1 S rfl hrv0 ⟨v64, v72, rfl, H⟩

/-- spec.l00In -/
def spec_l00In_m (_ : Nat) (a0 : Int) (a1 : Int) (a2 : Int) : Option (Bool) :=
  (if (decide (a1 ≤ a0)) = true then some (decide (a0 ≤ a2)) else some false).bind fun t31 => some (t31)
set_option maxRecDepth 20000 in
theorem spec_l00In_ok [dr : Dr] {w0 : World} {fuel : Nat} {a0 : Int} {a1 : Int} {a2 : Int} {r : Bool} (hm : spec_l00In_m fuel a0 a1 a2 = some r) :
  Calls Tryz.prog 43 #[.int .i64 a0, .int .i64 a1, .int .i64 a2] w0 fun e w => e = .returned (.bool r) ∧ Heap w0 [] w := by
 unfold spec_l00In_m at hm
 have H := Heap.start w0
 refine enter (args := [.int .i64 a0, .int .i64 a1, .int .i64 a2]) Tryz.func43 rfl 15 rfl (Nat.le_of_ble_eq_true rfl) (fun a S => ?_)
 refine wp_seq (region_plain ?_)
 refine lq (.bool false) S (q_assign rfl) fun a S => ?_
 refine lx_nil (thenN ?_)
 refine wp_seq (region_plain ?_)
 refine lq (.int .i64 a0) S (q_move rfl) fun a S => ?_
 refine lq (.int .i64 a1) S (q_move rfl) fun a S => ?_
 refine lq (.bool (decide (a1 ≤ a0))) S (q_geq rfl rfl) fun a S => ?_
 refine lq (.bool (decide (a1 ≤ a0))) S (q_move rfl) fun a S => ?_
 obtain ⟨t31, e32, hm⟩ := bind_some hm
 refine lx_cut 4 (fun a w => Slots a 15 [(14, (.bool t31))] ∧ Heap w0 [] w) ?_ ?_
 ·by_cases hc33 : (decide (a1 ≤ a0)) = true
  ·have hm := ite_t hc33 e32
   refine lx_q (.int .i64 a0) S (want_b rfl rfl hc33) (by decide) (q_move rfl) (fun a S => ?_)
   refine lx_q (.int .i64 a2) S (want_b rfl rfl hc33) (by decide) (q_move rfl) (fun a S => ?_)
   refine lx_q (.bool (decide (a0 ≤ a2))) S (want_b rfl rfl hc33) (by decide) (q_leq rfl rfl) (fun a S => ?_)
   refine lq (.bool (decide (a0 ≤ a2))) S (q_pickT' rfl hc33 rfl) fun a S => ?_
   refine lx_nil ?_
   obtain rfl := Option.some.inj hm
   exact ⟨S.sub ⟨rfl, trivial⟩, H⟩
  ·have hm := ite_f (eq_false_of_ne_true hc33) e32
   have hc33 : (decide (a1 ≤ a0)) = false := eq_false_of_ne_true hc33
   refine lx_skip S rfl rfl (isB_ne hc33) (by decide) (fun a S => ?_)
   refine lx_skip S rfl rfl (isB_ne hc33) (by decide) (fun a S => ?_)
   refine lx_skip S rfl rfl (isB_ne hc33) (by decide) (fun a S => ?_)
   refine lq (.bool false) S (q_pickF' rfl hc33 rfl) fun a S => ?_
   refine lx_nil ?_
   obtain rfl := Option.some.inj hm
   exact ⟨S.sub ⟨rfl, trivial⟩, H⟩
 ·rintro a w ⟨S, H⟩
  refine lq (.bool t31) S (q_assign rfl) fun a S => ?_
  refine lx_nil (thenN ?_)
  refine wp_ret ?_
  obtain rfl := Option.some.inj hm
  exact leave1 S rfl rfl ⟨rfl, H⟩

/-- spec.l01Open -/
def spec_l01Open_m (fuel : Nat) (a0 : Str) : Option (Int) :=
  (iter (fun (s : (Int)) => (match s with | (x36) => (if (decide (x36 < (a0.length : Int))) = true then (idx a0 x36).bind fun b51 => (if ((b51.toNat : Int) == (40 : Int)) = true then some (.inr (.inr x36)) else some (.inl ((W (x36 + (1 : Int)))))) else some (.inr (.inl ()))) : Option (((Int)) ⊕ ((Unit) ⊕ (Int))))) fuel ((0 : Int))).bind fun res42 => ctl (β := Unit) (ρ := Int) (τ := Int) res42 (fun _ => some ((a0.length : Int))) (fun q => some (q))
set_option maxRecDepth 20000 in
theorem spec_l01Open_ok [dr : Dr] {w0 : World} {fuel : Nat} {a0 : Str} {r : Int} (hm : spec_l01Open_m fuel a0 = some r) :
  Calls Tryz.prog 62 #[sv a0] w0 fun e w => e = .returned (.int .i64 r) ∧ Heap w0 [] w := by
 unfold spec_l01Open_m at hm
 have H := Heap.start w0
 refine enter (args := [sv a0]) Tryz.func62 rfl 17 rfl (Nat.le_of_ble_eq_true rfl) (fun a S => ?_)
 refine wp_seq (region_plain ?_)
 refine lq (.int .i64 (0 : Int)) S (q_assign rfl) fun a S => ?_
 refine lx_nil (thenN ?_)
 refine wp_seq (wp_seq (region_plain ?_))
 refine lq (.int .i64 (0 : Int)) S (q_assign rfl) fun a S => ?_
 refine lx_nil (thenN ?_)
 obtain ⟨res42, hit43, hk46⟩ := bind_some hm
 obtain ⟨f44, hf45, hit43⟩ := iter_name hit43
 refine block_loop (fun a w => Slots a 17 [(0, (sv a0))] ∧ Heap w0 [] w ∧ res42 = .inl ()) ?_ ?_
 ·rintro a w ⟨S, H, rfl⟩
  have hm := ctl_inl hk46
  refine thenN ?_
  refine wp_seq (region_plain ?_)
  refine lq (sv a0) S (q_move rfl) fun a S => ?_
  refine lq (.int .i64 (a0.length : Int)) S (q_lenStr rfl rfl Tryz.underlying9) fun a S => ?_
  refine lq (.int .i64 (a0.length : Int)) S (q_assign rfl) fun a S => ?_
  refine lx_nil (thenN ?_)
  refine wp_ret ?_
  obtain rfl := Option.some.inj hm
  exact leave1 S rfl rfl ⟨rfl, H⟩
 ·skip
  refine loop_ghost (fun n a w => ∃ (x36 : Int), Slots a 17 [(0, (sv a0)), (3, (.int .i64 x36))] ∧ Heap w0 [] w ∧ iter f44 n (x36) = some res42) _ ⟨(0 : Int), S.sub ⟨rfl, rfl, trivial⟩, H, hit43⟩ ?_
  rintro n a w ⟨x36, S, H, hit43⟩
  obtain ⟨m47, o48, rfl, hm, hc49⟩ := iter_step hit43
  rw [hf45] at hm
  refine wp_seq (wp_seq (region_plain ?_))
  refine lq (.int .i64 x36) S (q_move rfl) fun a S => ?_
  refine lq (sv a0) S (q_move rfl) fun a S => ?_
  refine lq (.int .i64 (a0.length : Int)) S (q_lenStr rfl rfl Tryz.underlying9) fun a S => ?_
  refine lq (.bool (decide (x36 < (a0.length : Int)))) S (q_lss rfl rfl) fun a S => ?_
  refine lx_nil (thenN ?_)
  refine cond_b S rfl (fun hc50 => ?_) (fun hc50 => ?_)
  ·have hm := ite_t hc50 hm
   refine wp_skip (thenN ?_)
   refine wp_seq ?_
   refine wp_block ?_
   refine wp_seq (region_plain ?_)
   refine lq (sv a0) S (q_move rfl) fun a S => ?_
   refine lq (.int .i64 x36) S (q_move rfl) fun a S => ?_
   obtain ⟨b51, e52, hm⟩ := bind_some hm
   refine lq (.int .u8 (b51.toNat : Int)) S (q_sidx rfl rfl Tryz.underlying9 e52) fun a S => ?_
   refine lq (.bool ((b51.toNat : Int) == (40 : Int))) S (q_eql rfl rfl) fun a S => ?_
   refine lx_nil (thenN ?_)
   refine cond_b S rfl (fun hc53 => ?_) (fun hc53 => ?_)
   ·have hm := ite_t hc53 hm
    refine wp_seq (region_plain ?_)
    refine lq (.int .i64 x36) S (q_move rfl) fun a S => ?_
    refine lq (.int .i64 x36) S (q_assign rfl) fun a S => ?_
    refine lx_nil (thenN ?_)
    refine wp_ret (inBlock_ret ?_)
    refine then_ret ?_
    refine then_ret ?_
    refine inBlock_ret ?_
    refine then_ret ?_
    refine then_ret ?_
    obtain rfl := it_brk hm hc49
    have hm := ctl_inr hk46
    obtain rfl := Option.some.inj hm
    exact leave1 S rfl rfl ⟨rfl, H⟩
   ·have hm := ite_f hc53 hm
    refine wp_skip ?_
    refine inBlock_norm ?_
    refine thenN ?_
    refine region_plain ?_
    refine lq (.int .i64 x36) S (q_move rfl) fun a S => ?_
    refine lq (.int .i64 (W (x36 + (1 : Int)))) S (q_add rfl rfl) fun a S => ?_
    refine lq (.int .i64 (W (x36 + (1 : Int)))) S (q_assign rfl) fun a S => ?_
    refine lx_nil ?_
    exact ⟨m47, Nat.lt_succ_self _, (W (x36 + (1 : Int))), S.sub ⟨rfl, rfl, trivial⟩, H, it_cont hm hc49⟩
  ·have hm := ite_f hc50 hm
   refine wp_exit ?_
   refine then_exit ?_
   refine then_exit ?_
   refine inBlock_exit ?_
   obtain rfl := it_brk hm hc49
   exact ⟨S.sub ⟨rfl, trivial⟩, H, rfl⟩

/-- spec.l01Small -/
def spec_l01Small_m (_ : Nat) (a0 : Int) : Option (Bool) :=
  (if (decide ((97 : Int) ≤ a0)) = true then some (decide (a0 ≤ (122 : Int))) else some false).bind fun t31 => some (t31)
set_option maxRecDepth 20000 in
theorem spec_l01Small_ok [dr : Dr] {w0 : World} {fuel : Nat} {a0 : Int} {r : Bool} (hm : spec_l01Small_m fuel a0 = some r) :
  Calls Tryz.prog 89 #[.int .u8 a0] w0 fun e w => e = .returned (.bool r) ∧ Heap w0 [] w := by
 unfold spec_l01Small_m at hm
 have H := Heap.start w0
 refine enter (args := [.int .u8 a0]) Tryz.func89 rfl 9 rfl (Nat.le_of_ble_eq_true rfl) (fun a S => ?_)
 refine wp_seq (region_plain ?_)
 refine lq (.bool false) S (q_assign rfl) fun a S => ?_
 refine lx_nil (thenN ?_)
 refine wp_seq (region_plain ?_)
 refine lq (.int .u8 a0) S (q_move rfl) fun a S => ?_
 refine lq (.bool (decide ((97 : Int) ≤ a0))) S (q_geq rfl rfl) fun a S => ?_
 refine lq (.bool (decide ((97 : Int) ≤ a0))) S (q_move rfl) fun a S => ?_
 obtain ⟨t31, e32, hm⟩ := bind_some hm
 refine lx_cut 3 (fun a w => Slots a 9 [(8, (.bool t31))] ∧ Heap w0 [] w) ?_ ?_
 ·by_cases hc33 : (decide ((97 : Int) ≤ a0)) = true
  ·have hm := ite_t hc33 e32
   refine lx_q (.int .u8 a0) S (want_b rfl rfl hc33) (by decide) (q_move rfl) (fun a S => ?_)
   refine lx_q (.bool (decide (a0 ≤ (122 : Int)))) S (want_b rfl rfl hc33) (by decide) (q_leq rfl rfl) (fun a S => ?_)
   refine lq (.bool (decide (a0 ≤ (122 : Int)))) S (q_pickT' rfl hc33 rfl) fun a S => ?_
   refine lx_nil ?_
   obtain rfl := Option.some.inj hm
   exact ⟨S.sub ⟨rfl, trivial⟩, H⟩
  ·have hm := ite_f (eq_false_of_ne_true hc33) e32
   have hc33 : (decide ((97 : Int) ≤ a0)) = false := eq_false_of_ne_true hc33
   refine lx_skip S rfl rfl (isB_ne hc33) (by decide) (fun a S => ?_)
   refine lx_skip S rfl rfl (isB_ne hc33) (by decide) (fun a S => ?_)
   refine lq (.bool false) S (q_pickF' rfl hc33 rfl) fun a S => ?_
   refine lx_nil ?_
   obtain rfl := Option.some.inj hm
   exact ⟨S.sub ⟨rfl, trivial⟩, H⟩
 ·rintro a w ⟨S, H⟩
  refine lq (.bool t31) S (q_assign rfl) fun a S => ?_
  refine lx_nil (thenN ?_)
  refine wp_ret ?_
  obtain rfl := Option.some.inj hm
  exact leave1 S rfl rfl ⟨rfl, H⟩

/-- spec.l01Digit -/
def spec_l01Digit_m (_ : Nat) (a0 : Int) : Option (Bool) :=
  (if (decide ((48 : Int) ≤ a0)) = true then some (decide (a0 ≤ (57 : Int))) else some false).bind fun t31 => some (t31)
set_option maxRecDepth 20000 in
theorem spec_l01Digit_ok [dr : Dr] {w0 : World} {fuel : Nat} {a0 : Int} {r : Bool} (hm : spec_l01Digit_m fuel a0 = some r) :
  Calls Tryz.prog 90 #[.int .u8 a0] w0 fun e w => e = .returned (.bool r) ∧ Heap w0 [] w := by
 unfold spec_l01Digit_m at hm
 have H := Heap.start w0
 refine enter (args := [.int .u8 a0]) Tryz.func90 rfl 9 rfl (Nat.le_of_ble_eq_true rfl) (fun a S => ?_)
 refine wp_seq (region_plain ?_)
 refine lq (.bool false) S (q_assign rfl) fun a S => ?_
 refine lx_nil (thenN ?_)
 refine wp_seq (region_plain ?_)
 refine lq (.int .u8 a0) S (q_move rfl) fun a S => ?_
 refine lq (.bool (decide ((48 : Int) ≤ a0))) S (q_geq rfl rfl) fun a S => ?_
 refine lq (.bool (decide ((48 : Int) ≤ a0))) S (q_move rfl) fun a S => ?_
 obtain ⟨t31, e32, hm⟩ := bind_some hm
 refine lx_cut 3 (fun a w => Slots a 9 [(8, (.bool t31))] ∧ Heap w0 [] w) ?_ ?_
 ·by_cases hc33 : (decide ((48 : Int) ≤ a0)) = true
  ·have hm := ite_t hc33 e32
   refine lx_q (.int .u8 a0) S (want_b rfl rfl hc33) (by decide) (q_move rfl) (fun a S => ?_)
   refine lx_q (.bool (decide (a0 ≤ (57 : Int)))) S (want_b rfl rfl hc33) (by decide) (q_leq rfl rfl) (fun a S => ?_)
   refine lq (.bool (decide (a0 ≤ (57 : Int)))) S (q_pickT' rfl hc33 rfl) fun a S => ?_
   refine lx_nil ?_
   obtain rfl := Option.some.inj hm
   exact ⟨S.sub ⟨rfl, trivial⟩, H⟩
  ·have hm := ite_f (eq_false_of_ne_true hc33) e32
   have hc33 : (decide ((48 : Int) ≤ a0)) = false := eq_false_of_ne_true hc33
   refine lx_skip S rfl rfl (isB_ne hc33) (by decide) (fun a S => ?_)
   refine lx_skip S rfl rfl (isB_ne hc33) (by decide) (fun a S => ?_)
   refine lq (.bool false) S (q_pickF' rfl hc33 rfl) fun a S => ?_
   refine lx_nil ?_
   obtain rfl := Option.some.inj hm
   exact ⟨S.sub ⟨rfl, trivial⟩, H⟩
 ·rintro a w ⟨S, H⟩
  refine lq (.bool t31) S (q_assign rfl) fun a S => ?_
  refine lx_nil (thenN ?_)
  refine wp_ret ?_
  obtain rfl := Option.some.inj hm
  exact leave1 S rfl rfl ⟨rfl, H⟩

/-- spec.l01Name -/
def spec_l01Name_m (fuel : Nat) (a0 : Str) : Option (Bool) :=
  (if (a0 == ([] : Str)) = true then some true else some (decide ((10 : Int) < (a0.length : Int)))).bind fun t31 => (if t31 = true then some true else (idx a0 (0 : Int)).bind fun b37 => (spec_l01Small_m fuel (b37.toNat : Int)).bind fun x41 => some (!x41)).bind fun t34 => (if t34 = true then some (false) else (iter (fun (s : (Int)) => (match s with | (x65) => (if (decide (x65 < (a0.length : Int))) = true then (idx a0 x65).bind fun b95 => (spec_l01Small_m fuel (b95.toNat : Int)).bind fun x99 => (if (!x99) = true then (idx a0 x65).bind fun b105 => (spec_l01Digit_m fuel (b105.toNat : Int)).bind fun x109 => some (!x109) else some false).bind fun t102 => (if t102 = true then some (.inr (.inr false)) else some (.inl ((W (x65 + (1 : Int)))))) else some (.inr (.inl ()))) : Option (((Int)) ⊕ ((Unit) ⊕ (Bool))))) fuel ((0 : Int))).bind fun res86 => ctl (β := Unit) (ρ := Bool) (τ := Bool) res86 (fun _ => some (true)) (fun q => some (q)))
set_option maxRecDepth 20000 in
theorem spec_l01Name_ok [dr : Dr] {w0 : World} {fuel : Nat} {a0 : Str} {r : Bool} (hm : spec_l01Name_m fuel a0 = some r) :
  Calls Tryz.prog 61 #[sv a0] w0 fun e w => e = .returned (.bool r) ∧ Heap w0 [] w := by
 unfold spec_l01Name_m at hm
 have H := Heap.start w0
 refine enter (args := [sv a0]) Tryz.func61 rfl 35 rfl (Nat.le_of_ble_eq_true rfl) (fun a S => ?_)
 refine wp_seq (region_plain ?_)
 refine lq (.bool false) S (q_assign rfl) fun a S => ?_
 refine lx_nil (thenN ?_)
 refine wp_seq (wp_seq (region_plain ?_))
 refine lq (sv a0) S (q_move rfl) fun a S => ?_
 refine lq (.bool (a0 == ([] : Str))) S (q_seql rfl rfl) fun a S => ?_
 refine lq (.bool (a0 == ([] : Str))) S (q_move rfl) fun a S => ?_
 obtain ⟨t31, e32, hm⟩ := bind_some hm
 refine lx_cut 4 (fun a w => Slots a 35 [(0, (sv a0)), (10, (.bool t31))] ∧ Heap w0 [] w) ?_ ?_
 ·by_cases hc33 : (a0 == ([] : Str)) = true
  ·have hm := ite_t hc33 e32
   refine lx_skip S rfl rfl (isB_ne hc33) (by decide) (fun a S => ?_)
   refine lx_skip S rfl rfl (isB_ne hc33) (by decide) (fun a S => ?_)
   refine lx_skip S rfl rfl (isB_ne hc33) (by decide) (fun a S => ?_)
   refine lq (.bool true) S (q_pickT' rfl hc33 rfl) fun a S => ?_
   refine lx_nil ?_
   obtain rfl := Option.some.inj hm
   exact ⟨S.sub ⟨rfl, rfl, trivial⟩, H⟩
  ·have hm := ite_f (eq_false_of_ne_true hc33) e32
   have hc33 : (a0 == ([] : Str)) = false := eq_false_of_ne_true hc33
   refine lx_q (sv a0) S (want_b rfl rfl hc33) (by decide) (q_move rfl) (fun a S => ?_)
   refine lx_q (.int .i64 (a0.length : Int)) S (want_b rfl rfl hc33) (by decide) (q_lenStr rfl rfl Tryz.underlying9) (fun a S => ?_)
   refine lx_q (.bool (decide ((10 : Int) < (a0.length : Int)))) S (want_b rfl rfl hc33) (by decide) (q_gtr rfl rfl) (fun a S => ?_)
   refine lq (.bool (decide ((10 : Int) < (a0.length : Int)))) S (q_pickF' rfl hc33 rfl) fun a S => ?_
   refine lx_nil ?_
   obtain rfl := Option.some.inj hm
   exact ⟨S.sub ⟨rfl, rfl, trivial⟩, H⟩
 ·rintro a w ⟨S, H⟩
  refine lq (.bool t31) S (q_move rfl) fun a S => ?_
  obtain ⟨t34, e35, hm⟩ := bind_some hm
  refine lx_cut 5 (fun a w => Slots a 35 [(0, (sv a0)), (16, (.bool t34))] ∧ Heap w0 [] w) ?_ ?_
  ·by_cases hc36 : t31 = true
   ·have hm := ite_t hc36 e35
    refine lx_skip S rfl rfl (isB_ne hc36) (by decide) (fun a S => ?_)
    refine lx_skip S rfl rfl (isB_ne hc36) (by decide) (fun a S => ?_)
    refine lx_skip S rfl rfl (isB_ne hc36) (by decide) (fun a S => ?_)
    refine lx_skip S rfl rfl (isB_ne hc36) (by decide) (fun a S => ?_)
    refine lq (.bool true) S (q_pickT' rfl hc36 rfl) fun a S => ?_
    refine lx_nil ?_
    obtain rfl := Option.some.inj hm
    exact ⟨S.sub ⟨rfl, rfl, trivial⟩, H⟩
   ·have hm := ite_f (eq_false_of_ne_true hc36) e35
    have hc36 : t31 = false := eq_false_of_ne_true hc36
    refine lx_q (sv a0) S (want_b rfl rfl hc36) (by decide) (q_move rfl) (fun a S => ?_)
    obtain ⟨b37, e38, hm⟩ := bind_some hm
    refine lx_q (.int .u8 (b37.toNat : Int)) S (want_b rfl rfl hc36) (by decide) (q_sidx rfl rfl Tryz.underlying9 e38) (fun a S => ?_)
    obtain ⟨x41, e42, hm⟩ := bind_some hm
    refine lx_call (xs := [.tmp 13]) S (want_b rfl rfl hc36) (by decide) rfl rfl Tryz.call89 ((spec_l01Small_ok  e42).mono ?_)
    rintro e w39 ⟨rfl, Hc40⟩
    have H := H.call0 Hc40
    refine ⟨_, rfl, trivial, fun a S => ?_⟩
    refine lx_q (.bool (!x41)) S (want_b rfl rfl hc36) (by decide) (q_not rfl) (fun a S => ?_)
    refine lq (.bool (!x41)) S (q_pickF' rfl hc36 rfl) fun a S => ?_
    refine lx_nil ?_
    obtain rfl := Option.some.inj hm
    exact ⟨S.sub ⟨rfl, rfl, trivial⟩, H⟩
  ·rintro a w ⟨S, H⟩
   refine lx_nil (thenN ?_)
   refine cond_b S rfl (fun hc44 => ?_) (fun hc44 => ?_)
   ·have hm := ite_t hc44 hm
    refine wp_seq (region_plain ?_)
    refine lq (.bool false) S (q_assign rfl) fun a S => ?_
    refine lx_nil (thenN ?_)
    refine wp_ret (then_ret ?_)
    obtain rfl := Option.some.inj hm
    exact leave1 S rfl rfl ⟨rfl, H⟩
   ·have hm := ite_f hc44 hm
    refine wp_skip (thenN ?_)
    refine wp_seq (wp_seq (region_plain ?_))
    refine lq (.int .i64 (0 : Int)) S (q_assign rfl) fun a S => ?_
    refine lx_nil (thenN ?_)
    obtain ⟨res86, hit87, hk90⟩ := bind_some hm
    obtain ⟨f88, hf89, hit87⟩ := iter_name hit87
    refine block_loop (fun a w => Slots a 35 [] ∧ Heap w0 [] w ∧ res86 = .inl ()) ?_ ?_
    ·rintro a w ⟨S, H, rfl⟩
     have hm := ctl_inl hk90
     refine thenN ?_
     refine wp_seq (region_plain ?_)
     refine lq (.bool true) S (q_assign rfl) fun a S => ?_
     refine lx_nil (thenN ?_)
     refine wp_ret ?_
     obtain rfl := Option.some.inj hm
     exact leave1 S rfl rfl ⟨rfl, H⟩
    ·skip
     refine loop_ghost (fun n a w => ∃ (x65 : Int), Slots a 35 [(0, (sv a0)), (3, (.int .i64 x65))] ∧ Heap w0 [] w ∧ iter f88 n (x65) = some res86) _ ⟨(0 : Int), S.sub ⟨rfl, rfl, trivial⟩, H, hit87⟩ ?_
     rintro n a w ⟨x65, S, H, hit87⟩
     obtain ⟨m91, o92, rfl, hm, hc93⟩ := iter_step hit87
     rw [hf89] at hm
     refine wp_seq (wp_seq (region_plain ?_))
     refine lq (.int .i64 x65) S (q_move rfl) fun a S => ?_
     refine lq (sv a0) S (q_move rfl) fun a S => ?_
     refine lq (.int .i64 (a0.length : Int)) S (q_lenStr rfl rfl Tryz.underlying9) fun a S => ?_
     refine lq (.bool (decide (x65 < (a0.length : Int)))) S (q_lss rfl rfl) fun a S => ?_
     refine lx_nil (thenN ?_)
     refine cond_b S rfl (fun hc94 => ?_) (fun hc94 => ?_)
     ·have hm := ite_t hc94 hm
      refine wp_skip (thenN ?_)
      refine wp_seq ?_
      refine wp_block ?_
      refine wp_seq (region_plain ?_)
      refine lq (sv a0) S (q_move rfl) fun a S => ?_
      refine lq (.int .i64 x65) S (q_move rfl) fun a S => ?_
      obtain ⟨b95, e96, hm⟩ := bind_some hm
      refine lq (.int .u8 (b95.toNat : Int)) S (q_sidx rfl rfl Tryz.underlying9 e96) fun a S => ?_
      obtain ⟨x99, e100, hm⟩ := bind_some hm
      refine lx_call (xs := [.tmp 25]) S trivial (by decide) rfl rfl Tryz.call89 ((spec_l01Small_ok  e100).mono ?_)
      rintro e w97 ⟨rfl, Hc98⟩
      have H := H.call0 Hc98
      refine ⟨_, rfl, trivial, fun a S => ?_⟩
      refine lq (.bool (!x99)) S (q_not rfl) fun a S => ?_
      refine lq (.bool (!x99)) S (q_move rfl) fun a S => ?_
      obtain ⟨t102, e103, hm⟩ := bind_some hm
      refine lx_cut 6 (fun a w => Slots a 35 [(0, (sv a0)), (3, (.int .i64 x65)), (34, (.bool t102))] ∧ Heap w0 [] w) ?_ ?_
      ·by_cases hc104 : (!x99) = true
       ·have hm := ite_t hc104 e103
        refine lx_q (sv a0) S (want_b rfl rfl hc104) (by decide) (q_move rfl) (fun a S => ?_)
        refine lx_q (.int .i64 x65) S (want_b rfl rfl hc104) (by decide) (q_move rfl) (fun a S => ?_)
        obtain ⟨b105, e106, hm⟩ := bind_some hm
        refine lx_q (.int .u8 (b105.toNat : Int)) S (want_b rfl rfl hc104) (by decide) (q_sidx rfl rfl Tryz.underlying9 e106) (fun a S => ?_)
        obtain ⟨x109, e110, hm⟩ := bind_some hm
        refine lx_call (xs := [.tmp 31]) S (want_b rfl rfl hc104) (by decide) rfl rfl Tryz.call90 ((spec_l01Digit_ok  e110).mono ?_)
        rintro e w107 ⟨rfl, Hc108⟩
        have H := H.call0 Hc108
        refine ⟨_, rfl, trivial, fun a S => ?_⟩
        refine lx_q (.bool (!x109)) S (want_b rfl rfl hc104) (by decide) (q_not rfl) (fun a S => ?_)
        refine lq (.bool (!x109)) S (q_pickT' rfl hc104 rfl) fun a S => ?_
        refine lx_nil ?_
        obtain rfl := Option.some.inj hm
        exact ⟨S.sub ⟨rfl, rfl, rfl, trivial⟩, H⟩
       ·have hm := ite_f (eq_false_of_ne_true hc104) e103
        have hc104 : (!x99) = false := eq_false_of_ne_true hc104
        refine lx_skip S rfl rfl (isB_ne hc104) (by decide) (fun a S => ?_)
        refine lx_skip S rfl rfl (isB_ne hc104) (by decide) (fun a S => ?_)
        refine lx_skip S rfl rfl (isB_ne hc104) (by decide) (fun a S => ?_)
        refine lx_skip S rfl rfl (isB_ne hc104) (by decide) (fun a S => ?_)
        refine lx_skip S rfl rfl (isB_ne hc104) (by decide) (fun a S => ?_)
        refine lq (.bool false) S (q_pickF' rfl hc104 rfl) fun a S => ?_
        refine lx_nil ?_
        obtain rfl := Option.some.inj hm
        exact ⟨S.sub ⟨rfl, rfl, rfl, trivial⟩, H⟩
      ·rintro a w ⟨S, H⟩
       refine lx_nil (thenN ?_)
       refine cond_b S rfl (fun hc112 => ?_) (fun hc112 => ?_)
       ·have hm := ite_t hc112 hm
        refine wp_seq (region_plain ?_)
        refine lq (.bool false) S (q_assign rfl) fun a S => ?_
        refine lx_nil (thenN ?_)
        refine wp_ret (inBlock_ret ?_)
        refine then_ret ?_
        refine then_ret ?_
        refine inBlock_ret ?_
        refine then_ret ?_
        refine then_ret ?_
        obtain rfl := it_brk hm hc93
        have hm := ctl_inr hk90
        obtain rfl := Option.some.inj hm
        exact leave1 S rfl rfl ⟨rfl, H⟩
       ·have hm := ite_f hc112 hm
        refine wp_skip ?_
        refine inBlock_norm ?_
        refine thenN ?_
        refine region_plain ?_
        refine lq (.int .i64 x65) S (q_move rfl) fun a S => ?_
        refine lq (.int .i64 (W (x65 + (1 : Int)))) S (q_add rfl rfl) fun a S => ?_
        refine lq (.int .i64 (W (x65 + (1 : Int)))) S (q_assign rfl) fun a S => ?_
        refine lx_nil ?_
        exact ⟨m91, Nat.lt_succ_self _, (W (x65 + (1 : Int))), S.sub ⟨rfl, rfl, trivial⟩, H, it_cont hm hc93⟩
     ·have hm := ite_f hc94 hm
      refine wp_exit ?_
      refine then_exit ?_
      refine then_exit ?_
      refine inBlock_exit ?_
      obtain rfl := it_brk hm hc93
      exact ⟨S.sub trivial, H, rfl⟩

/-- spec.l01Action -/
def spec_l01Action_m (fuel : Nat) (a0 : Str) : Option (Bool) :=
  (spec_l01Name_m fuel a0).bind fun x33 => (if x33 = true then some (a0 != ([116, 97, 117] : Str)) else some false).bind fun t36 => some (t36)
set_option maxRecDepth 20000 in
theorem spec_l01Action_ok [dr : Dr] {w0 : World} {fuel : Nat} {a0 : Str} {r : Bool} (hm : spec_l01Action_m fuel a0 = some r) :
  Calls Tryz.prog 35 #[sv a0] w0 fun e w => e = .returned (.bool r) ∧ Heap w0 [] w := by
 unfold spec_l01Action_m at hm
 have H := Heap.start w0
 refine enter (args := [sv a0]) Tryz.func35 rfl 9 rfl (Nat.le_of_ble_eq_true rfl) (fun a S => ?_)
 refine wp_seq (region_plain ?_)
 refine lq (.bool false) S (q_assign rfl) fun a S => ?_
 refine lx_nil (thenN ?_)
 refine wp_seq (region_plain ?_)
 refine lq (sv a0) S (q_move rfl) fun a S => ?_
 obtain ⟨x33, e34, hm⟩ := bind_some hm
 refine lx_call (xs := [.tmp 3]) S trivial (by decide) rfl rfl Tryz.call61 ((spec_l01Name_ok  e34).mono ?_)
 rintro e w31 ⟨rfl, Hc32⟩
 have H := H.call0 Hc32
 refine ⟨_, rfl, trivial, fun a S => ?_⟩
 refine lq (.bool x33) S (q_move rfl) fun a S => ?_
 obtain ⟨t36, e37, hm⟩ := bind_some hm
 refine lx_cut 3 (fun a w => Slots a 9 [(8, (.bool t36))] ∧ Heap w0 [] w) ?_ ?_
 ·by_cases hc38 : x33 = true
  ·have hm := ite_t hc38 e37
   refine lx_q (sv a0) S (want_b rfl rfl hc38) (by decide) (q_move rfl) (fun a S => ?_)
   refine lx_q (.bool (a0 != ([116, 97, 117] : Str))) S (want_b rfl rfl hc38) (by decide) (q_sneq rfl rfl) (fun a S => ?_)
   refine lq (.bool (a0 != ([116, 97, 117] : Str))) S (q_pickT' rfl hc38 rfl) fun a S => ?_
   refine lx_nil ?_
   obtain rfl := Option.some.inj hm
   exact ⟨S.sub ⟨rfl, trivial⟩, H⟩
  ·have hm := ite_f (eq_false_of_ne_true hc38) e37
   have hc38 : x33 = false := eq_false_of_ne_true hc38
   refine lx_skip S rfl rfl (isB_ne hc38) (by decide) (fun a S => ?_)
   refine lx_skip S rfl rfl (isB_ne hc38) (by decide) (fun a S => ?_)
   refine lq (.bool false) S (q_pickF' rfl hc38 rfl) fun a S => ?_
   refine lx_nil ?_
   obtain rfl := Option.some.inj hm
   exact ⟨S.sub ⟨rfl, trivial⟩, H⟩
 ·rintro a w ⟨S, H⟩
  refine lq (.bool t36) S (q_assign rfl) fun a S => ?_
  refine lx_nil (thenN ?_)
  refine wp_ret ?_
  obtain rfl := Option.some.inj hm
  exact leave1 S rfl rfl ⟨rfl, H⟩

/-- spec.l01Split -/
def spec_l01Split_m (fuel : Nat) (a0 : Str) (a1 : Int) : Option ((List Str)) :=
  (iter (fun (s : (List Str) × (Int) × (Int)) => (match s with | (xs60, x62, x63) => (if (decide (x63 < (a0.length : Int))) = true then join (κ := List Str → Int → Option (((List Str) × (Int) × (Int)) ⊕ (((List Str) × Int) ⊕ ((List Str))))) (fun (xs113 : List Str) (x115 : Int) => some (.inl (xs113, x115, (W (x63 + (1 : Int)))))) (fun K116 => (idx a0 x63).bind fun b118 => (if ((b118.toNat : Int) == a1) = true then (sub a0 x62 x63).bind fun xs121 => (app xs60 [xs121]).bind fun x126 => (K116 x126 (W (x63 + (1 : Int)))) else (K116 xs60 x62))) else some (.inr (.inl (xs60, x62)))) : Option (((List Str) × (Int) × (Int)) ⊕ (((List Str) × Int) ⊕ ((List Str)))))) fuel (([] : List Str), (0 : Int), (0 : Int))).bind fun res93 => ctl (β := (List Str) × Int) (ρ := (List Str)) (τ := (List Str)) res93 (fun (xs90, x92) => (sub a0 x92 (a0.length : Int)).bind fun xs98 => (app xs90 [xs98]).bind fun x103 => some (x103)) (fun q => some (q))
set_option maxRecDepth 20000 in
theorem spec_l01Split_ok [dr : Dr] {w0 : World} {fuel : Nat} {a0 : Str} {a1 : Int} {r : (List Str)} (hm : spec_l01Split_m fuel a0 a1 = some r) :
  Calls Tryz.prog 121 #[sv a0, .int .u8 a1] w0 fun e w => ∃ (v0 : Value), e = .returned (v0) ∧ Heap w0 [oA (rList rStr) v0 r] w := by
 unfold spec_l01Split_m at hm
 have H := Heap.start w0
 refine enter (args := [sv a0, .int .u8 a1]) Tryz.func121 rfl 35 rfl (Nat.le_of_ble_eq_true rfl) (fun a S => ?_)
 refine wp_seq (region_plain ?_)
 refine lq (.slice none 0 0) S (q_assign rfl) fun a S => ?_
 refine lx_nil (thenN ?_)
 refine wp_seq (region_plain ?_)
 refine lx_buildSlice0 (r := rStr) S trivial (by decide) rfl H Tryz.underlying22 Tryz.sizeOf9 (fun v31 w32 H => ⟨trivial, fun a S => ?_⟩)
 refine lq v31 S (q_assign rfl) fun a S => ?_
 refine lx_nil (thenN ?_)
 refine wp_seq (region_plain ?_)
 refine lq (.int .i64 (0 : Int)) S (q_assign rfl) fun a S => ?_
 refine lx_nil (thenN ?_)
 refine wp_seq (wp_seq (region_plain ?_))
 refine lq (.int .i64 (0 : Int)) S (q_assign rfl) fun a S => ?_
 refine lx_nil (thenN ?_)
 obtain ⟨res93, hit94, hk97⟩ := bind_some hm
 obtain ⟨f95, hf96, hit94⟩ := iter_name hit94
 refine block_loop (fun a w => ∃ (xs90 : List Str) (x92 : Int) (v89 : Value), Slots a 35 [(0, (sv a0)), (5, v89), (6, (.int .i64 x92))] ∧ Heap w0 [oA (rList rStr) v89 xs90] w ∧ res93 = .inl (xs90, x92)) ?_ ?_
 ·rintro a w ⟨xs90, x92, v89, S, H, rfl⟩
  have hm := ctl_inl hk97
  refine thenN ?_
  refine wp_seq (region_plain ?_)
  refine lq v89 S (q_move rfl) fun a S => ?_
  refine lq (sv a0) S (q_move rfl) fun a S => ?_
  refine lq (.int .i64 x92) S (q_move rfl) fun a S => ?_
  obtain ⟨xs98, e99, hm⟩ := bind_some hm
  obtain ⟨hsb, hse⟩ := sub_some e99
  replace hse := hse.symm
  subst hse
  refine lq (sv ((a0.take ((a0.length : Int)).toNat).drop (x92).toNat)) S (q_ssub (lo := (some (.tmp 31))) (hi := none) (l := x92) (h := (a0.length : Int)) rfl Tryz.underlying9 rfl rfl hsb.1 hsb.2.1 hsb.2.2) fun a S => ?_
  refine lx_buildSlice (r := rStr) (xs := [((a0.take ((a0.length : Int)).toNat).drop (x92).toNat)]) (ps := [(0, [(sv ((a0.take ((a0.length : Int)).toNat).drop (x92).toNat))])]) (cs := [(sv ((a0.take ((a0.length : Int)).toNat).drop (x92).toNat))]) (parts := [(0, .tmp 32)]) S trivial (by decide) rfl (H.put0 (A := eA) rfl) rfl Tryz.underlying22 Tryz.sizeOf9 Tryz.zeroValue9 (by decide) ⟨rfl, rfl, Nat.le_of_ble_eq_true rfl, trivial⟩ (by intro zs hz; exact fill_dense hz ⟨rfl, trivial⟩ rfl rfl) rfl (by decide) (fun w F hA => by cases (show F = [] from hA); exact ⟨_, _, [(sv ((a0.take ((a0.length : Int)).toNat).drop (x92).toNat))], _, rfl, rfl, ⟨rfl, rfl⟩, ⟨rfl, rfl⟩⟩) (fun v100 w101 H => ⟨trivial, fun a S => ?_⟩)
  obtain ⟨x103, e104, hm⟩ := bind_some hm
  obtain ⟨hle, hap⟩ := app_some e104
  replace hap := hap.symm
  subst hap
  have H : Heap w0 [oA (rList rStr) v100 [((a0.take ((a0.length : Int)).toNat).drop (x92).toNat)], oA (rList rStr) v89 xs90] w101 := H.front 0 rfl
  have H : Heap w0 [oA (rList rStr) v89 xs90, oA (rList rStr) v100 [((a0.take ((a0.length : Int)).toNat).drop (x92).toNat)]] w101 := H.front 1 rfl
  refine lx_appendOwn (r := rStr) S trivial (by decide) rfl H rfl rfl Tryz.underlying22 Tryz.ti9 rfl rfl rfl (Nat.le_of_ble_eq_true rfl) (by decide) hle (fun v105 w106 H => ⟨trivial, fun a S => ?_⟩)
  refine lq v105 S (q_assign rfl) fun a S => ?_
  refine lx_nil (thenN ?_)
  refine wp_ret ?_
  obtain rfl := Option.some.inj hm
  exact leave1 S rfl rfl ⟨v105, rfl, H⟩
 ·skip
  refine loop_ghost (fun n a w => ∃ (xs60 : List Str) (x62 : Int) (x63 : Int) (v59 : Value), Slots a 35 [(0, (sv a0)), (1, (.int .u8 a1)), (5, v59), (6, (.int .i64 x62)), (7, (.int .i64 x63))] ∧ Heap w0 [oA (rList rStr) v59 xs60] w ∧ iter f95 n (xs60, x62, x63) = some res93) _ ⟨([] : List Str), (0 : Int), (0 : Int), v31, S.sub ⟨rfl, rfl, rfl, rfl, rfl, trivial⟩, H, hit94⟩ ?_
  rintro n a w ⟨xs60, x62, x63, v59, S, H, hit94⟩
  obtain ⟨m108, o109, rfl, hm, hc110⟩ := iter_step hit94
  rw [hf96] at hm
  refine wp_seq (wp_seq (region_plain ?_))
  refine lq (.int .i64 x63) S (q_move rfl) fun a S => ?_
  refine lq (sv a0) S (q_move rfl) fun a S => ?_
  refine lq (.int .i64 (a0.length : Int)) S (q_lenStr rfl rfl Tryz.underlying9) fun a S => ?_
  refine lq (.bool (decide (x63 < (a0.length : Int)))) S (q_lss rfl rfl) fun a S => ?_
  refine lx_nil (thenN ?_)
  refine cond_b S rfl (fun hc111 => ?_) (fun hc111 => ?_)
  ·have hm := ite_t hc111 hm
   refine wp_skip (thenN ?_)
   obtain ⟨K116, hK117, hm⟩ := join_elim hm
   refine seq_cut (fun a w => ∃ (xs113 : List Str) (x115 : Int) (v112 : Value), Slots a 35 [(0, (sv a0)), (1, (.int .u8 a1)), (5, v112), (6, (.int .i64 x115)), (7, (.int .i64 x63))] ∧ Heap w0 [oA (rList rStr) v112 xs113] w ∧ K116 xs113 x115 = some o109) ?_ ?_
   ·rintro a w ⟨xs113, x115, v112, S, H, hm⟩
    subst hK117
    refine region_plain ?_
    refine lq (.int .i64 x63) S (q_move rfl) fun a S => ?_
    refine lq (.int .i64 (W (x63 + (1 : Int)))) S (q_add rfl rfl) fun a S => ?_
    refine lq (.int .i64 (W (x63 + (1 : Int)))) S (q_assign rfl) fun a S => ?_
    refine lx_nil ?_
    exact ⟨m108, Nat.lt_succ_self _, xs113, x115, (W (x63 + (1 : Int))), v112, S.sub ⟨rfl, rfl, rfl, rfl, rfl, trivial⟩, H, it_cont hm hc110⟩
   ·skip
    refine wp_block ?_
    refine wp_seq (region_plain ?_)
    refine lq (sv a0) S (q_move rfl) fun a S => ?_
    refine lq (.int .i64 x63) S (q_move rfl) fun a S => ?_
    obtain ⟨b118, e119, hm⟩ := bind_some hm
    refine lq (.int .u8 (b118.toNat : Int)) S (q_sidx rfl rfl Tryz.underlying9 e119) fun a S => ?_
    refine lq (.int .u8 a1) S (q_move rfl) fun a S => ?_
    refine lq (.bool ((b118.toNat : Int) == a1)) S (q_eql rfl rfl) fun a S => ?_
    refine lx_nil (thenN ?_)
    refine cond_b S rfl (fun hc120 => ?_) (fun hc120 => ?_)
    ·have hm := ite_t hc120 hm
     refine wp_seq (region_plain ?_)
     refine lq v59 S (q_move rfl) fun a S => ?_
     refine lq (sv a0) S (q_move rfl) fun a S => ?_
     refine lq (.int .i64 x62) S (q_move rfl) fun a S => ?_
     refine lq (.int .i64 x63) S (q_move rfl) fun a S => ?_
     obtain ⟨xs121, e122, hm⟩ := bind_some hm
     obtain ⟨hsb, hse⟩ := sub_some e122
     replace hse := hse.symm
     subst hse
     refine lq (sv ((a0.take (x63).toNat).drop (x62).toNat)) S (q_ssub (lo := (some (.tmp 22))) (hi := (some (.tmp 23))) (l := x62) (h := x63) rfl Tryz.underlying9 rfl rfl hsb.1 hsb.2.1 hsb.2.2) fun a S => ?_
     refine lx_buildSlice (r := rStr) (xs := [((a0.take (x63).toNat).drop (x62).toNat)]) (ps := [(0, [(sv ((a0.take (x63).toNat).drop (x62).toNat))])]) (cs := [(sv ((a0.take (x63).toNat).drop (x62).toNat))]) (parts := [(0, .tmp 24)]) S trivial (by decide) rfl (H.put0 (A := eA) rfl) rfl Tryz.underlying22 Tryz.sizeOf9 Tryz.zeroValue9 (by decide) ⟨rfl, rfl, Nat.le_of_ble_eq_true rfl, trivial⟩ (by intro zs hz; exact fill_dense hz ⟨rfl, trivial⟩ rfl rfl) rfl (by decide) (fun w F hA => by cases (show F = [] from hA); exact ⟨_, _, [(sv ((a0.take (x63).toNat).drop (x62).toNat))], _, rfl, rfl, ⟨rfl, rfl⟩, ⟨rfl, rfl⟩⟩) (fun v123 w124 H => ⟨trivial, fun a S => ?_⟩)
     obtain ⟨x126, e127, hm⟩ := bind_some hm
     obtain ⟨hle, hap⟩ := app_some e127
     replace hap := hap.symm
     subst hap
     have H : Heap w0 [oA (rList rStr) v123 [((a0.take (x63).toNat).drop (x62).toNat)], oA (rList rStr) v59 xs60] w124 := H.front 0 rfl
     have H : Heap w0 [oA (rList rStr) v59 xs60, oA (rList rStr) v123 [((a0.take (x63).toNat).drop (x62).toNat)]] w124 := H.front 1 rfl
     refine lx_appendOwn (r := rStr) S trivial (by decide) rfl H rfl rfl Tryz.underlying22 Tryz.ti9 rfl rfl rfl (Nat.le_of_ble_eq_true rfl) (by decide) hle (fun v128 w129 H => ⟨trivial, fun a S => ?_⟩)
     refine lq v128 S (q_assign rfl) fun a S => ?_
     refine lx_nil (thenN ?_)
     refine region_plain ?_
     refine lq (.int .i64 x63) S (q_move rfl) fun a S => ?_
     refine lq (.int .i64 (W (x63 + (1 : Int)))) S (q_add rfl rfl) fun a S => ?_
     refine lq (.int .i64 (W (x63 + (1 : Int)))) S (q_assign rfl) fun a S => ?_
     refine lx_nil ?_
     refine inBlock_norm ?_
     exact ⟨(xs60 ++ [((a0.take (x63).toNat).drop (x62).toNat)]), (W (x63 + (1 : Int))), v128, S.sub ⟨rfl, rfl, rfl, rfl, rfl, trivial⟩, H, hm⟩
    ·have hm := ite_f hc120 hm
     refine wp_skip ?_
     refine inBlock_norm ?_
     exact ⟨xs60, x62, v59, S.sub ⟨rfl, rfl, rfl, rfl, rfl, trivial⟩, H, hm⟩
  ·have hm := ite_f hc111 hm
   refine wp_exit ?_
   refine then_exit ?_
   refine then_exit ?_
   refine inBlock_exit ?_
   obtain rfl := it_brk hm hc110
   exact ⟨xs60, x62, v59, S.sub ⟨rfl, rfl, rfl, trivial⟩, H, rfl⟩

/-- spec.l01Number -/
def spec_l01Number_m (fuel : Nat) (a0 : Str) : Option ((Int × Bool)) :=
  join (κ := Int → Option (Int × Bool)) (fun (x31 : Int) => (if ((a0.length : Int) == x31) = true then some true else some (decide ((18 : Int) < (W ((a0.length : Int) - x31))))).bind fun t34 => (if t34 = true then some true else (idx a0 x31).bind fun b40 => (if ((b40.toNat : Int) == (48 : Int)) = true then some (decide ((1 : Int) < (a0.length : Int))) else some false).bind fun t42 => some t42).bind fun t37 => (if t37 = true then some (((0 : Int), false)) else (iter (fun (s : (Int) × (Int)) => (match s with | (x59, x60) => (if (decide (x60 < (a0.length : Int))) = true then (idx a0 x60).bind fun b88 => (spec_l01Digit_m fuel (b88.toNat : Int)).bind fun x92 => (if (!x92) = true then some (.inr (.inr ((0 : Int), false))) else (idx a0 x60).bind fun b96 => some (.inl ((W ((W ((10 : Int) * x59)) + (W (IntKind.u8.wrap ((b96.toNat : Int) - (48 : Int)))))), (W (x60 + (1 : Int)))))) else some (.inr (.inl (x59)))) : Option (((Int) × (Int)) ⊕ ((Int) ⊕ ((Int × Bool)))))) fuel ((0 : Int), x31)).bind fun res75 => ctl (β := Int) (ρ := (Int × Bool)) (τ := (Int × Bool)) res75 (fun (x74) => join (κ := Int → Option (Int × Bool)) (fun (x80 : Int) => some ((x80, true))) (fun K81 => (if (x31 == (1 : Int)) = true then (K81 (W (0 - x74))) else (K81 x74)))) (fun q => some (q)))) (fun K32 => (if (decide ((0 : Int) < (a0.length : Int))) = true then (idx a0 (0 : Int)).bind fun b101 => some ((b101.toNat : Int) == (45 : Int)) else some false).bind fun t98 => (if t98 = true then (K32 (1 : Int)) else (K32 (0 : Int))))
set_option maxRecDepth 20000 in
theorem spec_l01Number_ok [dr : Dr] {w0 : World} {fuel : Nat} {a0 : Str} {r : (Int × Bool)} (hm : spec_l01Number_m fuel a0 = some r) :
  Calls Tryz.prog 122 #[sv a0] w0 fun e w => e = .returned (.tuple #[.int .i64 r.1, .bool r.2]) ∧ Heap w0 [] w := by
 unfold spec_l01Number_m at hm
 have H := Heap.start w0
 refine enter (args := [sv a0]) Tryz.func122 rfl 62 rfl (Nat.le_of_ble_eq_true rfl) (fun a S => ?_)
 refine wp_seq (region_plain ?_)
 refine lq (.int .i64 (0 : Int)) S (q_assign rfl) fun a S => ?_
 refine lq (.bool false) S (q_assign rfl) fun a S => ?_
 refine lx_nil (thenN ?_)
 refine wp_seq (region_plain ?_)
 refine lq (.int .i64 (0 : Int)) S (q_assign rfl) fun a S => ?_
 refine lx_nil (thenN ?_)
 obtain ⟨K32, hK33, hm⟩ := join_elim hm
 refine seq_cut (fun a w => ∃ (x31 : Int), Slots a 62 [(0, (sv a0)), (4, (.int .i64 x31))] ∧ Heap w0 [] w ∧ K32 x31 = some r) ?_ ?_
 ·rintro a w ⟨x31, S, H, hm⟩
  subst hK33
  refine wp_seq (wp_seq (region_plain ?_))
  refine lq (sv a0) S (q_move rfl) fun a S => ?_
  refine lq (.int .i64 (a0.length : Int)) S (q_lenStr rfl rfl Tryz.underlying9) fun a S => ?_
  refine lq (.int .i64 x31) S (q_move rfl) fun a S => ?_
  refine lq (.bool ((a0.length : Int) == x31)) S (q_eql rfl rfl) fun a S => ?_
  refine lq (.bool ((a0.length : Int) == x31)) S (q_move rfl) fun a S => ?_
  obtain ⟨t34, e35, hm⟩ := bind_some hm
  refine lx_cut 6 (fun a w => Slots a 62 [(0, (sv a0)), (4, (.int .i64 x31)), (25, (.bool t34))] ∧ Heap w0 [] w) ?_ ?_
  ·by_cases hc36 : ((a0.length : Int) == x31) = true
   ·have hm := ite_t hc36 e35
    refine lx_skip S rfl rfl (isB_ne hc36) (by decide) (fun a S => ?_)
    refine lx_skip S rfl rfl (isB_ne hc36) (by decide) (fun a S => ?_)
    refine lx_skip S rfl rfl (isB_ne hc36) (by decide) (fun a S => ?_)
    refine lx_skip S rfl rfl (isB_ne hc36) (by decide) (fun a S => ?_)
    refine lx_skip S rfl rfl (isB_ne hc36) (by decide) (fun a S => ?_)
    refine lq (.bool true) S (q_pickT' rfl hc36 rfl) fun a S => ?_
    refine lx_nil ?_
    obtain rfl := Option.some.inj hm
    exact ⟨S.sub ⟨rfl, rfl, rfl, trivial⟩, H⟩
   ·have hm := ite_f (eq_false_of_ne_true hc36) e35
    have hc36 : ((a0.length : Int) == x31) = false := eq_false_of_ne_true hc36
    refine lx_q (sv a0) S (want_b rfl rfl hc36) (by decide) (q_move rfl) (fun a S => ?_)
    refine lx_q (.int .i64 (a0.length : Int)) S (want_b rfl rfl hc36) (by decide) (q_lenStr rfl rfl Tryz.underlying9) (fun a S => ?_)
    refine lx_q (.int .i64 x31) S (want_b rfl rfl hc36) (by decide) (q_move rfl) (fun a S => ?_)
    refine lx_q (.int .i64 (W ((a0.length : Int) - x31))) S (want_b rfl rfl hc36) (by decide) (q_sub rfl rfl) (fun a S => ?_)
    refine lx_q (.bool (decide ((18 : Int) < (W ((a0.length : Int) - x31))))) S (want_b rfl rfl hc36) (by decide) (q_gtr rfl rfl) (fun a S => ?_)
    refine lq (.bool (decide ((18 : Int) < (W ((a0.length : Int) - x31))))) S (q_pickF' rfl hc36 rfl) fun a S => ?_
    refine lx_nil ?_
    obtain rfl := Option.some.inj hm
    exact ⟨S.sub ⟨rfl, rfl, rfl, trivial⟩, H⟩
  ·rintro a w ⟨S, H⟩
   refine lq (.bool t34) S (q_move rfl) fun a S => ?_
   obtain ⟨t37, e38, hm⟩ := bind_some hm
   refine lx_cut 10 (fun a w => Slots a 62 [(0, (sv a0)), (4, (.int .i64 x31)), (36, (.bool t37))] ∧ Heap w0 [] w) ?_ ?_
   ·by_cases hc39 : t34 = true
    ·have hm := ite_t hc39 e38
     refine lx_skip S rfl rfl (isB_ne hc39) (by decide) (fun a S => ?_)
     refine lx_skip S rfl rfl (isB_ne hc39) (by decide) (fun a S => ?_)
     refine lx_skip S rfl rfl (isB_ne hc39) (by decide) (fun a S => ?_)
     refine lx_skip S rfl rfl (isB_ne hc39) (by decide) (fun a S => ?_)
     refine lx_skip S rfl rfl (isB_ne hc39) (by decide) (fun a S => ?_)
     refine lx_skip S rfl rfl rfl (by decide) (fun a S => ?_)
     refine lx_skip S rfl rfl rfl (by decide) (fun a S => ?_)
     refine lx_skip S rfl rfl rfl (by decide) (fun a S => ?_)
     refine lx_skip S rfl rfl (isB_ne hc39) (by decide) (fun a S => ?_)
     refine lq (.bool true) S (q_pickT' rfl hc39 rfl) fun a S => ?_
     refine lx_nil ?_
     obtain rfl := Option.some.inj hm
     exact ⟨S.sub ⟨rfl, rfl, rfl, trivial⟩, H⟩
    ·have hm := ite_f (eq_false_of_ne_true hc39) e38
     have hc39 : t34 = false := eq_false_of_ne_true hc39
     refine lx_q (sv a0) S (want_b rfl rfl hc39) (by decide) (q_move rfl) (fun a S => ?_)
     refine lx_q (.int .i64 x31) S (want_b rfl rfl hc39) (by decide) (q_move rfl) (fun a S => ?_)
     obtain ⟨b40, e41, hm⟩ := bind_some hm
     refine lx_q (.int .u8 (b40.toNat : Int)) S (want_b rfl rfl hc39) (by decide) (q_sidx rfl rfl Tryz.underlying9 e41) (fun a S => ?_)
     refine lx_q (.bool ((b40.toNat : Int) == (48 : Int))) S (want_b rfl rfl hc39) (by decide) (q_eql rfl rfl) (fun a S => ?_)
     refine lx_q (.bool ((b40.toNat : Int) == (48 : Int))) S (want_b rfl rfl hc39) (by decide) (q_move rfl) (fun a S => ?_)
     obtain ⟨t42, e43, hm⟩ := bind_some hm
     refine lx_cut 4 (fun a w => Slots a 62 [(0, (sv a0)), (4, (.int .i64 x31)), (26, (.bool t34)), (35, (.bool t42))] ∧ Heap w0 [] w) ?_ ?_
     ·by_cases hc44 : ((b40.toNat : Int) == (48 : Int)) = true
      ·have hm := ite_t hc44 e43
       refine lx_q (sv a0) S (want_b rfl rfl hc44) (by decide) (q_move rfl) (fun a S => ?_)
       refine lx_q (.int .i64 (a0.length : Int)) S (want_b rfl rfl hc44) (by decide) (q_lenStr rfl rfl Tryz.underlying9) (fun a S => ?_)
       refine lx_q (.bool (decide ((1 : Int) < (a0.length : Int)))) S (want_b rfl rfl hc44) (by decide) (q_gtr rfl rfl) (fun a S => ?_)
       refine lx_q (.bool (decide ((1 : Int) < (a0.length : Int)))) S (want_b rfl rfl hc39) (by decide) (q_pickT' rfl hc44 rfl) (fun a S => ?_)
       refine lx_nil ?_
       obtain rfl := Option.some.inj hm
       exact ⟨S.sub ⟨rfl, rfl, rfl, rfl, trivial⟩, H⟩
      ·have hm := ite_f (eq_false_of_ne_true hc44) e43
       have hc44 : ((b40.toNat : Int) == (48 : Int)) = false := eq_false_of_ne_true hc44
       refine lx_skip S rfl rfl (isB_ne hc44) (by decide) (fun a S => ?_)
       refine lx_skip S rfl rfl (isB_ne hc44) (by decide) (fun a S => ?_)
       refine lx_skip S rfl rfl (isB_ne hc44) (by decide) (fun a S => ?_)
       refine lx_q (.bool false) S (want_b rfl rfl hc39) (by decide) (q_pickF' rfl hc44 rfl) (fun a S => ?_)
       refine lx_nil ?_
       obtain rfl := Option.some.inj hm
       exact ⟨S.sub ⟨rfl, rfl, rfl, rfl, trivial⟩, H⟩
     ·rintro a w ⟨S, H⟩
      refine lq (.bool t42) S (q_pickF' rfl hc39 rfl) fun a S => ?_
      refine lx_nil ?_
      obtain rfl := Option.some.inj hm
      exact ⟨S.sub ⟨rfl, rfl, rfl, trivial⟩, H⟩
   ·rintro a w ⟨S, H⟩
    refine lx_nil (thenN ?_)
    refine cond_b S rfl (fun hc45 => ?_) (fun hc45 => ?_)
    ·have hm := ite_t hc45 hm
     refine wp_seq (region_plain ?_)
     refine lq (.int .i64 (0 : Int)) S (q_assign rfl) fun a S => ?_
     refine lq (.bool false) S (q_assign rfl) fun a S => ?_
     refine lx_nil (thenN ?_)
     refine wp_ret (then_ret ?_)
     obtain rfl := Option.some.inj hm
     exact leave2 S rfl rfl rfl ⟨rfl, H⟩
    ·have hm := ite_f hc45 hm
     refine wp_skip (thenN ?_)
     refine wp_seq (region_plain ?_)
     refine lq (.int .i64 (0 : Int)) S (q_assign rfl) fun a S => ?_
     refine lx_nil (thenN ?_)
     refine wp_seq (wp_seq (region_plain ?_))
     refine lq (.int .i64 x31) S (q_move rfl) fun a S => ?_
     refine lq (.int .i64 x31) S (q_assign rfl) fun a S => ?_
     refine lx_nil (thenN ?_)
     obtain ⟨res75, hit76, hk79⟩ := bind_some hm
     obtain ⟨f77, hf78, hit76⟩ := iter_name hit76
     refine block_loop (fun a w => ∃ (x74 : Int), Slots a 62 [(4, (.int .i64 x31)), (5, (.int .i64 x74))] ∧ Heap w0 [] w ∧ res75 = .inl (x74)) ?_ ?_
     ·rintro a w ⟨x74, S, H, rfl⟩
      have hm := ctl_inl hk79
      refine thenN ?_
      obtain ⟨K81, hK82, hm⟩ := join_elim hm
      refine seq_cut (fun a w => ∃ (x80 : Int), Slots a 62 [(5, (.int .i64 x80))] ∧ Heap w0 [] w ∧ K81 x80 = some r) ?_ ?_
      ·rintro a w ⟨x80, S, H, hm⟩
       subst hK82
       refine wp_seq (region_plain ?_)
       refine lq (.int .i64 x80) S (q_move rfl) fun a S => ?_
       refine lq (.int .i64 x80) S (q_assign rfl) fun a S => ?_
       refine lq (.bool true) S (q_assign rfl) fun a S => ?_
       refine lx_nil (thenN ?_)
       refine wp_ret ?_
       obtain rfl := Option.some.inj hm
       exact leave2 S rfl rfl rfl ⟨rfl, H⟩
      ·skip
       refine wp_seq (region_plain ?_)
       refine lq (.int .i64 x31) S (q_move rfl) fun a S => ?_
       refine lq (.bool (x31 == (1 : Int))) S (q_eql rfl rfl) fun a S => ?_
       refine lx_nil (thenN ?_)
       refine cond_b S rfl (fun hc83 => ?_) (fun hc83 => ?_)
       ·have hm := ite_t hc83 hm
        refine region_plain ?_
        refine lq (.int .i64 x74) S (q_move rfl) fun a S => ?_
        refine lq (.int .i64 (W (0 - x74))) S (q_neg rfl) fun a S => ?_
        refine lq (.int .i64 (W (0 - x74))) S (q_assign rfl) fun a S => ?_
        refine lx_nil ?_
        exact ⟨(W (0 - x74)), S.sub ⟨rfl, trivial⟩, H, hm⟩
       ·have hm := ite_f hc83 hm
        refine wp_skip ?_
        exact ⟨x74, S.sub ⟨rfl, trivial⟩, H, hm⟩
     ·skip
      refine loop_ghost (fun n a w => ∃ (x59 : Int) (x60 : Int), Slots a 62 [(0, (sv a0)), (4, (.int .i64 x31)), (5, (.int .i64 x59)), (6, (.int .i64 x60))] ∧ Heap w0 [] w ∧ iter f77 n (x59, x60) = some res75) _ ⟨(0 : Int), x31, S.sub ⟨rfl, rfl, rfl, rfl, trivial⟩, H, hit76⟩ ?_
      rintro n a w ⟨x59, x60, S, H, hit76⟩
      obtain ⟨m84, o85, rfl, hm, hc86⟩ := iter_step hit76
      rw [hf78] at hm
      refine wp_seq (wp_seq (region_plain ?_))
      refine lq (.int .i64 x60) S (q_move rfl) fun a S => ?_
      refine lq (sv a0) S (q_move rfl) fun a S => ?_
      refine lq (.int .i64 (a0.length : Int)) S (q_lenStr rfl rfl Tryz.underlying9) fun a S => ?_
      refine lq (.bool (decide (x60 < (a0.length : Int)))) S (q_lss rfl rfl) fun a S => ?_
      refine lx_nil (thenN ?_)
      refine cond_b S rfl (fun hc87 => ?_) (fun hc87 => ?_)
      ·have hm := ite_t hc87 hm
       refine wp_skip (thenN ?_)
       refine wp_seq ?_
       refine wp_block ?_
       refine wp_seq (wp_seq (region_plain ?_))
       refine lq (sv a0) S (q_move rfl) fun a S => ?_
       refine lq (.int .i64 x60) S (q_move rfl) fun a S => ?_
       obtain ⟨b88, e89, hm⟩ := bind_some hm
       refine lq (.int .u8 (b88.toNat : Int)) S (q_sidx rfl rfl Tryz.underlying9 e89) fun a S => ?_
       obtain ⟨x92, e93, hm⟩ := bind_some hm
       refine lx_call (xs := [.tmp 46]) S trivial (by decide) rfl rfl Tryz.call90 ((spec_l01Digit_ok  e93).mono ?_)
       rintro e w90 ⟨rfl, Hc91⟩
       have H := H.call0 Hc91
       refine ⟨_, rfl, trivial, fun a S => ?_⟩
       refine lq (.bool (!x92)) S (q_not rfl) fun a S => ?_
       refine lx_nil (thenN ?_)
       refine cond_b S rfl (fun hc95 => ?_) (fun hc95 => ?_)
       ·have hm := ite_t hc95 hm
        refine wp_seq (region_plain ?_)
        refine lq (.int .i64 (0 : Int)) S (q_assign rfl) fun a S => ?_
        refine lq (.bool false) S (q_assign rfl) fun a S => ?_
        refine lx_nil (thenN ?_)
        refine wp_ret (then_ret ?_)
        refine inBlock_ret ?_
        refine then_ret ?_
        refine then_ret ?_
        refine inBlock_ret ?_
        refine then_ret ?_
        refine then_ret ?_
        obtain rfl := it_brk hm hc86
        have hm := ctl_inr hk79
        obtain rfl := Option.some.inj hm
        exact leave2 S rfl rfl rfl ⟨rfl, H⟩
       ·have hm := ite_f hc95 hm
        refine wp_skip (thenN ?_)
        refine region_plain ?_
        refine lq (.int .i64 x59) S (q_move rfl) fun a S => ?_
        refine lq (.int .i64 (W ((10 : Int) * x59))) S (q_mul rfl rfl) fun a S => ?_
        refine lq (sv a0) S (q_move rfl) fun a S => ?_
        refine lq (.int .i64 x60) S (q_move rfl) fun a S => ?_
        obtain ⟨b96, e97, hm⟩ := bind_some hm
        refine lq (.int .u8 (b96.toNat : Int)) S (q_sidx rfl rfl Tryz.underlying9 e97) fun a S => ?_
        refine lq (.int .u8 (IntKind.u8.wrap ((b96.toNat : Int) - (48 : Int)))) S (q_sub rfl rfl) fun a S => ?_
        refine lq (.int .i64 (W (IntKind.u8.wrap ((b96.toNat : Int) - (48 : Int))))) S (q_convInt rfl Tryz.underlying5 Tryz.underlying2) fun a S => ?_
        refine lq (.int .i64 (W ((W ((10 : Int) * x59)) + (W (IntKind.u8.wrap ((b96.toNat : Int) - (48 : Int))))))) S (q_add rfl rfl) fun a S => ?_
        refine lq (.int .i64 (W ((W ((10 : Int) * x59)) + (W (IntKind.u8.wrap ((b96.toNat : Int) - (48 : Int))))))) S (q_assign rfl) fun a S => ?_
        refine lx_nil ?_
        refine inBlock_norm ?_
        refine thenN ?_
        refine region_plain ?_
        refine lq (.int .i64 x60) S (q_move rfl) fun a S => ?_
        refine lq (.int .i64 (W (x60 + (1 : Int)))) S (q_add rfl rfl) fun a S => ?_
        refine lq (.int .i64 (W (x60 + (1 : Int)))) S (q_assign rfl) fun a S => ?_
        refine lx_nil ?_
        exact ⟨m84, Nat.lt_succ_self _, (W ((W ((10 : Int) * x59)) + (W (IntKind.u8.wrap ((b96.toNat : Int) - (48 : Int)))))), (W (x60 + (1 : Int))), S.sub ⟨rfl, rfl, rfl, rfl, trivial⟩, H, it_cont hm hc86⟩
      ·have hm := ite_f hc87 hm
       refine wp_exit ?_
       refine then_exit ?_
       refine then_exit ?_
       refine inBlock_exit ?_
       obtain rfl := it_brk hm hc86
       exact ⟨x59, S.sub ⟨rfl, rfl, trivial⟩, H, rfl⟩
 ·skip
  refine wp_seq (region_plain ?_)
  refine lq (sv a0) S (q_move rfl) fun a S => ?_
  refine lq (.int .i64 (a0.length : Int)) S (q_lenStr rfl rfl Tryz.underlying9) fun a S => ?_
  refine lq (.bool (decide ((0 : Int) < (a0.length : Int)))) S (q_gtr rfl rfl) fun a S => ?_
  refine lq (.bool (decide ((0 : Int) < (a0.length : Int)))) S (q_move rfl) fun a S => ?_
  obtain ⟨t98, e99, hm⟩ := bind_some hm
  refine lx_cut 4 (fun a w => Slots a 62 [(0, (sv a0)), (4, (.int .i64 (0 : Int))), (14, (.bool t98))] ∧ Heap w0 [] w) ?_ ?_
  ·by_cases hc100 : (decide ((0 : Int) < (a0.length : Int))) = true
   ·have hm := ite_t hc100 e99
    refine lx_q (sv a0) S (want_b rfl rfl hc100) (by decide) (q_move rfl) (fun a S => ?_)
    obtain ⟨b101, e102, hm⟩ := bind_some hm
    refine lx_q (.int .u8 (b101.toNat : Int)) S (want_b rfl rfl hc100) (by decide) (q_sidx rfl rfl Tryz.underlying9 e102) (fun a S => ?_)
    refine lx_q (.bool ((b101.toNat : Int) == (45 : Int))) S (want_b rfl rfl hc100) (by decide) (q_eql rfl rfl) (fun a S => ?_)
    refine lq (.bool ((b101.toNat : Int) == (45 : Int))) S (q_pickT' rfl hc100 rfl) fun a S => ?_
    refine lx_nil ?_
    obtain rfl := Option.some.inj hm
    exact ⟨S.sub ⟨rfl, rfl, rfl, trivial⟩, H⟩
   ·have hm := ite_f (eq_false_of_ne_true hc100) e99
    have hc100 : (decide ((0 : Int) < (a0.length : Int))) = false := eq_false_of_ne_true hc100
    refine lx_skip S rfl rfl (isB_ne hc100) (by decide) (fun a S => ?_)
    refine lx_skip S rfl rfl (isB_ne hc100) (by decide) (fun a S => ?_)
    refine lx_skip S rfl rfl (isB_ne hc100) (by decide) (fun a S => ?_)
    refine lq (.bool false) S (q_pickF' rfl hc100 rfl) fun a S => ?_
    refine lx_nil ?_
    obtain rfl := Option.some.inj hm
    exact ⟨S.sub ⟨rfl, rfl, rfl, trivial⟩, H⟩
  ·rintro a w ⟨S, H⟩
   refine lx_nil (thenN ?_)
   refine cond_b S rfl (fun hc103 => ?_) (fun hc103 => ?_)
   ·have hm := ite_t hc103 hm
    refine region_plain ?_
    refine lq (.int .i64 (1 : Int)) S (q_assign rfl) fun a S => ?_
    refine lx_nil ?_
    exact ⟨(1 : Int), S.sub ⟨rfl, rfl, trivial⟩, H, hm⟩
   ·have hm := ite_f hc103 hm
    refine wp_skip ?_
    exact ⟨(0 : Int), S.sub ⟨rfl, rfl, trivial⟩, H, hm⟩
end Go.Proofs.YtldmecdkdoipdaaGreatDoor
