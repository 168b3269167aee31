/- The model of a statement and its walk (printed by a program of this repo). -/
import Derived.Test.YtepcckhcocjgaaaGreatDoorF0
import Derived.Test.YtepcckhcocjgaaaGreatDoorF2
import Derived.Test.YtepcckhcocjgaaaGreatDoorF4
import Derived.Test.YtepcckhcocjgaaaGreatDoorGxT
import Derived.Test.YtepcckhcocjgaaaGreatDoorGxY
namespace Go.Proofs.YtepcckhcocjgaaaGreatDoor
open Go.RowKit Go.Gx

/-- laws.szStringS -/
def laws_szStringS_m (fuel : Nat) (a0 : (List Str)) (a1 : Int) : Option (Int) :=
  (if (decide ((W (a1 - (a0.length : Int))) < (0 : Int))) = true then some ((-1 : Int)) else (iter (fun (s : (Int) × (Int)) => (match s with | (x41, x42) => (if (decide (x42 < (a0.length : Int))) = true then (idx a0 x42).bind fun x62 => (if (decide ((W (x41 - (x62.length : Int))) < (0 : Int))) = true then some (.inr (.inr (-1 : Int))) else some (.inl ((W (x41 - (x62.length : Int))), (W (x42 + (1 : Int)))))) else some (.inr (.inl (x41)))) : Option (((Int) × (Int)) ⊕ ((Int) ⊕ (Int))))) fuel ((W (a1 - (a0.length : Int))), (0 : Int))).bind fun res53 => ctl (β := Int) (ρ := Int) (τ := Int) res53 (fun (x52) => some (x52)) (fun q => some (q)))
set_option maxRecDepth 20000 in
theorem laws_szStringS_ok {w0 : World} {fuel : Nat} {p0 : Value} {a0 : (List Str)} {a1 : Int} {r : Int} (h0 : Rd (rList rStr) w0 p0 a0) (hm : laws_szStringS_m fuel a0 a1 = some r) :
  Calls Tryz.prog 31 #[p0, .int .i64 a1] w0 fun e w => e = .returned (.int .i64 r) ∧ Heap w0 [] w := by
 unfold laws_szStringS_m at hm
 have H := Heap.start w0
 refine enter (args := [p0, .int .i64 a1]) Tryz.func31 rfl 28 rfl (Nat.le_of_ble_eq_true rfl) (fun a S => ?_)
 refine wp_seq (region_plain ?_)
 refine lq (.int .i64 (0 : Int)) S (q_assign rfl) fun a S => ?_
 refine lx_nil (thenN ?_)
 refine wp_seq (region_plain ?_)
 refine lq (.int .i64 a1) S (q_move rfl) fun a S => ?_
 refine lq p0 S (q_move rfl) fun a S => ?_
 refine lq (.int .i64 (a0.length : Int)) S (q_lenSl rfl (h0).isSl rfl Tryz.underlying28) fun a S => ?_
 refine lq (.int .i64 (W (a1 - (a0.length : Int)))) S (q_sub rfl rfl) fun a S => ?_
 refine lq (.int .i64 (W (a1 - (a0.length : Int)))) S (q_assign rfl) fun a S => ?_
 refine lx_nil (thenN ?_)
 refine wp_seq (wp_seq (region_plain ?_))
 refine lq (.int .i64 (W (a1 - (a0.length : Int)))) S (q_move rfl) fun a S => ?_
 refine lq (.bool (decide ((W (a1 - (a0.length : Int))) < (0 : Int)))) S (q_lss rfl rfl) fun a S => ?_
 refine lx_nil (thenN ?_)
 refine cond_b S rfl (fun hc31 => ?_) (fun hc31 => ?_)
 ·have hm := ite_t hc31 hm
  refine wp_seq (region_plain ?_)
  refine lq (.int .i64 (-1 : Int)) S (q_assign rfl) fun a S => ?_
  refine lx_nil (thenN ?_)
  refine wp_ret (then_ret ?_)
  obtain rfl := Option.some.inj hm
  exact leave1 S rfl rfl ⟨rfl, H⟩
 ·have hm := ite_f hc31 hm
  refine wp_skip (thenN ?_)
  refine wp_seq (wp_seq (region_plain ?_))
  refine lq (.int .i64 (0 : Int)) S (q_assign rfl) fun a S => ?_
  refine lx_nil (thenN ?_)
  obtain ⟨res53, hit54, hk57⟩ := bind_some hm
  obtain ⟨f55, hf56, hit54⟩ := iter_name hit54
  refine block_loop (fun a w => ∃ (x52 : Int), Slots a 28 [(1, (.int .i64 x52))] ∧ Heap w0 [] w ∧ res53 = .inl (x52)) ?_ ?_
  ·rintro a w ⟨x52, S, H, rfl⟩
   have hm := ctl_inl hk57
   refine thenN ?_
   refine wp_seq (region_plain ?_)
   refine lq (.int .i64 x52) S (q_move rfl) fun a S => ?_
   refine lq (.int .i64 x52) S (q_assign rfl) fun a S => ?_
   refine lx_nil (thenN ?_)
   refine wp_ret ?_
   obtain rfl := Option.some.inj hm
   exact leave1 S rfl rfl ⟨rfl, H⟩
  ·skip
   refine loop_ghost (fun n a w => ∃ (x41 : Int) (x42 : Int), Slots a 28 [(0, p0), (1, (.int .i64 x41)), (5, (.int .i64 x42))] ∧ Heap w0 [] w ∧ iter f55 n (x41, x42) = some res53) _ ⟨(W (a1 - (a0.length : Int))), (0 : Int), S.sub ⟨rfl, rfl, rfl, trivial⟩, H, hit54⟩ ?_
   rintro n a w ⟨x41, x42, S, H, hit54⟩
   obtain ⟨m58, o59, rfl, hm, hc60⟩ := iter_step hit54
   rw [hf56] at hm
   refine wp_seq (wp_seq (region_plain ?_))
   refine lq (.int .i64 x42) S (q_move rfl) fun a S => ?_
   refine lq p0 S (q_move rfl) fun a S => ?_
   refine lq (.int .i64 (a0.length : Int)) S (q_lenSl rfl (h0).isSl rfl Tryz.underlying28) fun a S => ?_
   refine lq (.bool (decide (x42 < (a0.length : Int)))) S (q_lss rfl rfl) fun a S => ?_
   refine lx_nil (thenN ?_)
   refine cond_b S rfl (fun hc61 => ?_) (fun hc61 => ?_)
   ·have hm := ite_t hc61 hm
    refine wp_skip (thenN ?_)
    refine wp_seq ?_
    refine wp_block ?_
    refine wp_seq (region_plain ?_)
    refine lq (.int .i64 x41) S (q_move rfl) fun a S => ?_
    refine lq p0 S (q_move rfl) fun a S => ?_
    refine lq (.int .i64 x42) S (q_move rfl) fun a S => ?_
    obtain ⟨x62, e63, hm⟩ := bind_some hm
    obtain ⟨c64, h65, hat66⟩ := (h0).elem (idx_some e63).2
    obtain rfl := h65
    have hlt := lt_of_idx (idx_some e63).2
    refine lq (ePtr p0 (x42.toNat * 1)) S (q_indexAddr rfl (h0).isSl rfl (idx_some e63).1 hlt Tryz.underlying28 Tryz.sizeOf9) fun a S => ?_
    refine lx_e (sv x62) S trivial (by decide) rfl trivial (q_load1 rfl Tryz.isAgg9 (by rintro _ rfl; exact ((hat66 0 _ rfl).ext H.ext))) (fun a S => ?_)
    refine lq (.int .i64 (x62.length : Int)) S (q_lenStr rfl rfl Tryz.underlying9) fun a S => ?_
    refine lq (.int .i64 (W (x41 - (x62.length : Int)))) S (q_sub rfl rfl) fun a S => ?_
    refine lq (.int .i64 (W (x41 - (x62.length : Int)))) S (q_assign rfl) fun a S => ?_
    refine lx_nil (thenN ?_)
    refine wp_seq (region_plain ?_)
    refine lq (.int .i64 (W (x41 - (x62.length : Int)))) S (q_move rfl) fun a S => ?_
    refine lq (.bool (decide ((W (x41 - (x62.length : Int))) < (0 : Int)))) S (q_lss rfl rfl) fun a S => ?_
    refine lx_nil (thenN ?_)
    refine cond_b S rfl (fun hc67 => ?_) (fun hc67 => ?_)
    ·have hm := ite_t hc67 hm
     refine wp_seq (region_plain ?_)
     refine lq (.int .i64 (-1 : Int)) S (q_assign rfl) fun a S => ?_
     refine lx_nil (thenN ?_)
     refine wp_ret (inBlock_ret ?_)
     refine then_ret ?_
     refine then_ret ?_
     refine inBlock_ret ?_
     refine then_ret ?_
     refine then_ret ?_
     obtain rfl := it_brk hm hc60
     have hm := ctl_inr hk57
     obtain rfl := Option.some.inj hm
     exact leave1 S rfl rfl ⟨rfl, H⟩
    ·have hm := ite_f hc67 hm
     refine wp_skip ?_
     refine inBlock_norm ?_
     refine thenN ?_
     refine region_plain ?_
     refine lq (.int .i64 x42) S (q_move rfl) fun a S => ?_
     refine lq (.int .i64 (W (x42 + (1 : Int)))) S (q_add rfl rfl) fun a S => ?_
     refine lq (.int .i64 (W (x42 + (1 : Int)))) S (q_assign rfl) fun a S => ?_
     refine lx_nil ?_
     exact ⟨m58, Nat.lt_succ_self _, (W (x41 - (x62.length : Int))), (W (x42 + (1 : Int))), S.sub ⟨rfl, rfl, rfl, trivial⟩, H, it_cont hm hc60⟩
   ·have hm := ite_f hc61 hm
    refine wp_exit ?_
    refine then_exit ?_
    refine then_exit ?_
    refine inBlock_exit ?_
    obtain rfl := it_brk hm hc60
    exact ⟨x41, S.sub ⟨rfl, trivial⟩, H, rfl⟩

/-- laws.szEdgeS -/
def laws_szEdgeS_m (_ : Nat) (a0 : (List Tlaws_Edge)) (a1 : Int) : Option (Int) :=
  (if (decide ((W (a1 - (a0.length : Int))) < (0 : Int))) = true then some ((-1 : Int)) else some ((W (a1 - (a0.length : Int)))))
set_option maxRecDepth 20000 in
theorem laws_szEdgeS_ok {w0 : World} {fuel : Nat} {p0 : Value} {a0 : (List Tlaws_Edge)} {a1 : Int} {r : Int} (h0 : Rd (rList Rlaws_Edge) w0 p0 a0) (hm : laws_szEdgeS_m fuel a0 a1 = some r) :
  Calls Tryz.prog 32 #[p0, .int .i64 a1] w0 fun e w => e = .returned (.int .i64 r) ∧ Heap w0 [] w := by
 unfold laws_szEdgeS_m at hm
 have H := Heap.start w0
 refine enter (args := [p0, .int .i64 a1]) Tryz.func32 rfl 12 rfl (Nat.le_of_ble_eq_true rfl) (fun a S => ?_)
 refine wp_seq (region_plain ?_)
 refine lq (.int .i64 (0 : Int)) S (q_assign rfl) fun a S => ?_
 refine lx_nil (thenN ?_)
 refine wp_seq (region_plain ?_)
 refine lq (.int .i64 a1) S (q_move rfl) fun a S => ?_
 refine lq p0 S (q_move rfl) fun a S => ?_
 refine lq (.int .i64 (a0.length : Int)) S (q_lenSl rfl (h0).isSl rfl Tryz.underlying29) fun a S => ?_
 refine lq (.int .i64 (W (a1 - (a0.length : Int)))) S (q_sub rfl rfl) fun a S => ?_
 refine lq (.int .i64 (W (a1 - (a0.length : Int)))) S (q_assign rfl) fun a S => ?_
 refine lx_nil (thenN ?_)
 refine wp_seq (wp_seq (region_plain ?_))
 refine lq (.int .i64 (W (a1 - (a0.length : Int)))) S (q_move rfl) fun a S => ?_
 refine lq (.bool (decide ((W (a1 - (a0.length : Int))) < (0 : Int)))) S (q_lss rfl rfl) fun a S => ?_
 refine lx_nil (thenN ?_)
 refine cond_b S rfl (fun hc31 => ?_) (fun hc31 => ?_)
 ·have hm := ite_t hc31 hm
  refine wp_seq (region_plain ?_)
  refine lq (.int .i64 (-1 : Int)) S (q_assign rfl) fun a S => ?_
  refine lx_nil (thenN ?_)
  refine wp_ret (then_ret ?_)
  obtain rfl := Option.some.inj hm
  exact leave1 S rfl rfl ⟨rfl, H⟩
 ·have hm := ite_f hc31 hm
  refine wp_skip (thenN ?_)
  refine wp_seq (region_plain ?_)
  refine lq (.int .i64 (W (a1 - (a0.length : Int)))) S (q_move rfl) fun a S => ?_
  refine lq (.int .i64 (W (a1 - (a0.length : Int)))) S (q_assign rfl) fun a S => ?_
  refine lx_nil (thenN ?_)
  refine wp_ret ?_
  obtain rfl := Option.some.inj hm
  exact leave1 S rfl rfl ⟨rfl, H⟩

/-- laws.szLts -/
def laws_szLts_m (fuel : Nat) (a0 : Tlaws_Lts) (a1 : Int) : Option (Int) :=
  (laws_szStringS_m fuel a0.2.2.1 a1).bind fun x54 => (if (decide (x54 < (0 : Int))) = true then some ((-1 : Int)) else (laws_szEdgeS_m fuel a0.2.2.2 x54).bind fun x60 => (if (decide (x60 < (0 : Int))) = true then some ((-1 : Int)) else some (x60)))
set_option maxRecDepth 20000 in
theorem laws_szLts_ok {w0 : World} {fuel : Nat} {p0 : Value} {a0 : Tlaws_Lts} {a1 : Int} {r : Int} (h0 : Rd Rlaws_Lts w0 p0 a0) (hm : laws_szLts_m fuel a0 a1 = some r) :
  Calls Tryz.prog 11 #[p0, .int .i64 a1] w0 fun e w => e = .returned (.int .i64 r) ∧ Heap w0 [] w := by
 unfold laws_szLts_m at hm
 have H := Heap.start w0
 obtain ⟨c31, rfl, h32⟩ := h0
 obtain ⟨c37, c38, rfl, h39, h40⟩ := h32
 obtain rfl := h39
 obtain ⟨c41, c42, rfl, h43, h44⟩ := h40
 obtain rfl := h43
 obtain ⟨c45, c46, rfl, h47, h48⟩ := h44
 obtain ⟨v33, rfl, h34⟩ := rd_list h47
 obtain ⟨v35, rfl, h36⟩ := rd_list h48
 refine enter (args := [(.agg #[(.int .i64 a0.1), (.int .i64 a0.2.1), v33, v35]), .int .i64 a1]) Tryz.func11 rfl 18 rfl (Nat.le_of_ble_eq_true rfl) (fun a S => ?_)
 refine wp_seq (region_plain ?_)
 refine lx_box S trivial (by decide) rfl H rfl rfl (fun b49 w50 H => ⟨trivial, fun a S => ?_⟩)
 refine lq (.int .i64 (0 : Int)) S (q_assign rfl) fun a S => ?_
 refine lx_nil (thenN ?_)
 refine wp_seq (region_plain ?_)
 refine lq (pAdd (bp b49) 2) S (q_fieldAddr' 2 28 rfl (isP_bp _) Tryz.underlying31 rfl Tryz.sizeOf28) fun a S => ?_
 refine lx_e v33 S trivial (by decide) rfl trivial (q_load1 rfl Tryz.isAgg28 (by rintro _ rfl; exact (At.of_add (m := 2) (j := 0) (boxAt (i := 0) H rfl (j := 2) rfl)))) (fun a S => ?_)
 refine lq (.int .i64 a1) S (q_move rfl) fun a S => ?_
 obtain ⟨x54, e55, hm⟩ := bind_some hm
 refine lx_call (xs := [.tmp 6, .tmp 7]) S trivial (by decide) rfl rfl Tryz.call31 ((laws_szStringS_ok (H.arg h34)  e55).mono ?_)
 rintro e w52 ⟨rfl, Hc53⟩
 have H := H.call0 Hc53
 refine ⟨_, rfl, trivial, fun a S => ?_⟩
 refine lq (.int .i64 x54) S (q_assign rfl) fun a S => ?_
 refine lx_nil (thenN ?_)
 refine wp_seq (wp_seq (region_plain ?_))
 refine lq (.int .i64 x54) S (q_move rfl) fun a S => ?_
 refine lq (.bool (decide (x54 < (0 : Int)))) S (q_lss rfl rfl) fun a S => ?_
 refine lx_nil (thenN ?_)
 refine cond_b S rfl (fun hc57 => ?_) (fun hc57 => ?_)
 ·have hm := ite_t hc57 hm
  refine wp_seq (region_plain ?_)
  refine lq (.int .i64 (-1 : Int)) S (q_assign rfl) fun a S => ?_
  refine lx_nil (thenN ?_)
  refine wp_ret (then_ret ?_)
  obtain rfl := Option.some.inj hm
  have H : Heap w0 [] w52 := H.sel [] (by decide)
  exact leave1 S rfl rfl ⟨rfl, H⟩
 ·have hm := ite_f hc57 hm
  refine wp_skip (thenN ?_)
  refine wp_seq (region_plain ?_)
  refine lq (pAdd (bp b49) 3) S (q_fieldAddr' 3 29 rfl (isP_bp _) Tryz.underlying31 rfl Tryz.sizeOf29) fun a S => ?_
  refine lx_e v35 S trivial (by decide) rfl trivial (q_load1 rfl Tryz.isAgg29 (by rintro _ rfl; exact (At.of_add (m := 3) (j := 0) (boxAt (i := 0) H rfl (j := 3) rfl)))) (fun a S => ?_)
  refine lq (.int .i64 x54) S (q_move rfl) fun a S => ?_
  obtain ⟨x60, e61, hm⟩ := bind_some hm
  refine lx_call (xs := [.tmp 12, .tmp 13]) S trivial (by decide) rfl rfl Tryz.call32 ((laws_szEdgeS_ok (H.arg h36)  e61).mono ?_)
  rintro e w58 ⟨rfl, Hc59⟩
  have H := H.call0 Hc59
  refine ⟨_, rfl, trivial, fun a S => ?_⟩
  refine lq (.int .i64 x60) S (q_assign rfl) fun a S => ?_
  refine lx_nil (thenN ?_)
  refine wp_seq (wp_seq (region_plain ?_))
  refine lq (.int .i64 x60) S (q_move rfl) fun a S => ?_
  refine lq (.bool (decide (x60 < (0 : Int)))) S (q_lss rfl rfl) fun a S => ?_
  refine lx_nil (thenN ?_)
  refine cond_b S rfl (fun hc63 => ?_) (fun hc63 => ?_)
  ·have hm := ite_t hc63 hm
   refine wp_seq (region_plain ?_)
   refine lq (.int .i64 (-1 : Int)) S (q_assign rfl) fun a S => ?_
   refine lx_nil (thenN ?_)
   refine wp_ret (then_ret ?_)
   obtain rfl := Option.some.inj hm
   have H : Heap w0 [] w58 := H.sel [] (by decide)
   exact leave1 S rfl rfl ⟨rfl, H⟩
  ·have hm := ite_f hc63 hm
   refine wp_skip (thenN ?_)
   refine wp_seq (region_plain ?_)
   refine lq (.int .i64 x60) S (q_move rfl) fun a S => ?_
   refine lq (.int .i64 x60) S (q_assign rfl) fun a S => ?_
   refine lx_nil (thenN ?_)
   refine wp_ret ?_
   obtain rfl := Option.some.inj hm
   have H : Heap w0 [] w58 := H.sel [] (by decide)
   exact leave1 S rfl rfl ⟨rfl, H⟩

/-- laws.toStringS -/
def laws_toStringS_m (fuel : Nat) (a0 : (List Str)) : Option ((List Str)) :=
  (mks (a0.length : Int) ([] : Str)).bind fun x31 => (iter (fun (s : (List Str) × (Int)) => (match s with | (xs48, x49) => (if (decide (x49 < (a0.length : Int))) = true then (idx a0 x49).bind fun x71 => (idx xs48 x49).bind fun _ => some (.inl ((xs48.set x49.toNat x71), (W (x49 + (1 : Int))))) else some (.inr (.inl (xs48)))) : Option (((List Str) × (Int)) ⊕ (((List Str)) ⊕ ((List Str)))))) fuel (x31, (0 : Int))).bind fun res62 => ctl (β := (List Str)) (ρ := (List Str)) (τ := (List Str)) res62 (fun (xs61) => some (xs61)) (fun q => some (q))
set_option maxRecDepth 20000 in
theorem laws_toStringS_ok {w0 : World} {fuel : Nat} {p0 : Value} {a0 : (List Str)} {r : (List Str)} (h0 : Rd (rList rStr) w0 p0 a0) (hm : laws_toStringS_m fuel a0 = some r) :
  Calls Tryz.prog 35 #[p0] w0 fun e w => ∃ (v0 : Value), e = .returned (v0) ∧ Heap w0 [oA (rList rStr) v0 r] w := by
 unfold laws_toStringS_m at hm
 have H := Heap.start w0
 refine enter (args := [p0]) Tryz.func35 rfl 22 rfl (Nat.le_of_ble_eq_true rfl) (fun a S => ?_)
 refine wp_seq (region_plain ?_)
 refine lq (.slice none 0 0) S (q_assign rfl) fun a S => ?_
 refine lx_nil (thenN ?_)
 refine wp_seq (region_plain ?_)
 refine lq p0 S (q_move rfl) fun a S => ?_
 refine lq (.int .i64 (a0.length : Int)) S (q_lenSl rfl (h0).isSl rfl Tryz.underlying28) fun a S => ?_
 obtain ⟨x31, e32, hm⟩ := bind_some hm
 obtain ⟨m33, hn, hn2, rfl⟩ := mks_some e32
 refine lx_make (r := rStr) (z0 := ([] : Str)) (n := m33) S trivial (by decide) rfl H (by rw [← hn]; rfl) (by rw [← hn]; rfl) Tryz.underlying28 (Tryz.ti9) rfl rfl (Nat.le_of_ble_eq_true rfl) (fun w => ⟨rfl, rfl⟩) hn2 (by decide) (fun v34 w35 H => ⟨trivial, fun a S => ?_⟩)
 refine lq v34 S (q_assign rfl) fun a S => ?_
 refine lx_nil (thenN ?_)
 refine wp_seq (wp_seq (region_plain ?_))
 refine lq (.int .i64 (0 : Int)) S (q_assign rfl) fun a S => ?_
 refine lx_nil (thenN ?_)
 obtain ⟨res62, hit63, hk66⟩ := bind_some hm
 obtain ⟨f64, hf65, hit63⟩ := iter_name hit63
 refine block_loop (fun a w => ∃ (xs61 : List Str), Slots a 22 [(3, v34)] ∧ Heap w0 [oA (rList rStr) v34 xs61] w ∧ res62 = .inl (xs61)) ?_ ?_
 ·rintro a w ⟨xs61, S, H, rfl⟩
  have hm := ctl_inl hk66
  refine thenN ?_
  refine wp_seq (region_plain ?_)
  refine lq v34 S (q_move rfl) fun a S => ?_
  refine lq v34 S (q_assign rfl) fun a S => ?_
  refine lx_nil (thenN ?_)
  refine wp_ret ?_
  obtain rfl := Option.some.inj hm
  exact leave1 S rfl rfl ⟨v34, rfl, H⟩
 ·skip
  refine loop_ghost (fun n a w => ∃ (xs48 : List Str) (x49 : Int), Slots a 22 [(0, p0), (3, v34), (4, (.int .i64 x49))] ∧ Heap w0 [oA (rList rStr) v34 xs48] w ∧ iter f64 n (xs48, x49) = some res62) _ ⟨(List.replicate m33 ([] : Str)), (0 : Int), S.sub ⟨rfl, rfl, rfl, trivial⟩, H, hit63⟩ ?_
  rintro n a w ⟨xs48, x49, S, H, hit63⟩
  obtain ⟨m67, o68, rfl, hm, hc69⟩ := iter_step hit63
  rw [hf65] at hm
  refine wp_seq (wp_seq (region_plain ?_))
  refine lq (.int .i64 x49) S (q_move rfl) fun a S => ?_
  refine lq p0 S (q_move rfl) fun a S => ?_
  refine lq (.int .i64 (a0.length : Int)) S (q_lenSl rfl (h0).isSl rfl Tryz.underlying28) fun a S => ?_
  refine lq (.bool (decide (x49 < (a0.length : Int)))) S (q_lss rfl rfl) fun a S => ?_
  refine lx_nil (thenN ?_)
  refine cond_b S rfl (fun hc70 => ?_) (fun hc70 => ?_)
  ·have hm := ite_t hc70 hm
   refine wp_skip (thenN ?_)
   refine wp_seq ?_
   refine wp_block ?_
   refine region_plain ?_
   refine lq v34 S (q_move rfl) fun a S => ?_
   refine lq (.int .i64 x49) S (q_move rfl) fun a S => ?_
   refine lq p0 S (q_move rfl) fun a S => ?_
   refine lq (.int .i64 x49) S (q_move rfl) fun a S => ?_
   obtain ⟨x71, e72, hm⟩ := bind_some hm
   obtain ⟨c73, h74, hat75⟩ := (h0).elem (idx_some e72).2
   obtain rfl := h74
   have hlt := lt_of_idx (idx_some e72).2
   refine lq (ePtr p0 (x49.toNat * 1)) S (q_indexAddr rfl (h0).isSl rfl (idx_some e72).1 hlt Tryz.underlying28 Tryz.sizeOf9) fun a S => ?_
   refine lx_e (sv x71) S trivial (by decide) rfl trivial (q_load1 rfl Tryz.isAgg9 (by rintro _ rfl; exact ((hat75 0 _ rfl).ext H.ext))) (fun a S => ?_)
   obtain ⟨x76, e77, hm⟩ := bind_some hm
   have hlt := lt_of_idx (idx_some e77).2
   refine lq (ePtr v34 (x49.toNat * 1)) S (q_indexAddr rfl (H.isSl 0 rfl) rfl (idx_some e77).1 hlt Tryz.underlying28 Tryz.sizeOf9) fun a S => ?_
   refine lx_storeElem (r := rStr) (us := [(sv x71)]) (off := 0) (e' := x71) S trivial rfl H.putE (ev_zero rfl) rfl (idx_some e77).2 rfl Tryz.sizeOf9 (Nat.le_of_ble_eq_true rfl) (List.forall_mem_cons.2 ⟨rfl, (fun _ h => nomatch h)⟩) (Upd.full rfl (fun w G hG => by cases (show G = [] from hG); exact ⟨rfl, rfl⟩)) (fun w78 H => ⟨trivial, fun a S => ?_⟩)
   refine lx_nil ?_
   refine inBlock_norm ?_
   refine thenN ?_
   refine region_plain ?_
   refine lq (.int .i64 x49) S (q_move rfl) fun a S => ?_
   refine lq (.int .i64 (W (x49 + (1 : Int)))) S (q_add rfl rfl) fun a S => ?_
   refine lq (.int .i64 (W (x49 + (1 : Int)))) S (q_assign rfl) fun a S => ?_
   refine lx_nil ?_
   exact ⟨m67, Nat.lt_succ_self _, (xs48.set x49.toNat x71), (W (x49 + (1 : Int))), S.sub ⟨rfl, rfl, rfl, trivial⟩, H, it_cont hm hc69⟩
  ·have hm := ite_f hc70 hm
   refine wp_exit ?_
   refine then_exit ?_
   refine then_exit ?_
   refine inBlock_exit ?_
   obtain rfl := it_brk hm hc69
   exact ⟨xs48, S.sub ⟨rfl, trivial⟩, H, rfl⟩

/-- laws.toEdge -/
def laws_toEdge_m (_ : Nat) (a0 : Tlaws_Edge) : Option (Timpl_Edge) :=
  some ((a0.1, a0.2.1, a0.2.2))
set_option maxRecDepth 20000 in
theorem laws_toEdge_ok {w0 : World} {fuel : Nat} {p0 : Value} {a0 : Tlaws_Edge} {r : Timpl_Edge} (h0 : Rd Rlaws_Edge w0 p0 a0) (hm : laws_toEdge_m fuel a0 = some r) :
  Calls Tryz.prog 67 #[p0] w0 fun e w => e = .returned (.agg #[.int .i64 r.1, .int .i64 r.2.1, .int .i64 r.2.2]) ∧ Heap w0 [] w := by
 unfold laws_toEdge_m at hm
 have H := Heap.start w0
 obtain ⟨c31, rfl, h32⟩ := h0
 obtain ⟨c33, c34, rfl, h35, h36⟩ := h32
 obtain rfl := h35
 obtain ⟨c37, c38, rfl, h39, h40⟩ := h36
 obtain rfl := h39
 obtain rfl := h40
 refine enter (args := [(.agg #[(.int .i64 a0.1), (.int .i64 a0.2.1), (.int .i64 a0.2.2)])]) Tryz.func67 rfl 14 rfl (Nat.le_of_ble_eq_true rfl) (fun a S => ?_)
 refine wp_seq (region_plain ?_)
 refine lx_box S trivial (by decide) rfl H rfl rfl (fun b41 w42 H => ⟨trivial, fun a S => ?_⟩)
 refine lx_alloc S trivial (by decide) rfl H Tryz.zeroValue63 rfl (fun b44 w45 H => ⟨trivial, fun a S => ?_⟩)
 refine lx_nil (thenN ?_)
 refine wp_seq (region_plain ?_)
 refine lx_alloc S trivial (by decide) rfl H Tryz.zeroValue63 rfl (fun b47 w48 H => ⟨trivial, fun a S => ?_⟩)
 refine lx_nil (thenN ?_)
 refine wp_seq (region_plain ?_)
 refine lq (pAdd (bp b41) 0) S (q_fieldAddr' 0 2 rfl (isP_bp _) Tryz.underlying90 rfl Tryz.sizeOf2) fun a S => ?_
 refine lx_e (.int .i64 a0.1) S trivial (by decide) rfl trivial (q_load1 rfl Tryz.isAgg2 (by rintro _ rfl; exact (At.of_add (m := 0) (j := 0) (boxAt (i := 2) H rfl (j := 0) rfl)))) (fun a S => ?_)
 refine lq (pAdd (bp b47) 0) S (q_fieldAddr' 0 2 rfl (isP_bp _) Tryz.underlying63 rfl Tryz.sizeOf2) fun a S => ?_
 refine lx_storeBox (o := 0) (i := 0) (us := [(.int .i64 a0.1)]) (cs' := [(.int .i64 a0.1), (.int .i64 (0 : Int)), (.int .i64 (0 : Int))]) S trivial rfl H rfl rfl rfl rfl Tryz.sizeOf2 (Nat.le_of_ble_eq_true rfl) (List.forall_mem_cons.2 ⟨rfl, (fun _ h => nomatch h)⟩) rfl (fun w50 H => ⟨trivial, fun a S => ?_⟩)
 change Heap w0 [bA b47 [(.int .i64 a0.1), (.int .i64 (0 : Int)), (.int .i64 (0 : Int))] 63, bA b44 [(.int .i64 (0 : Int)), (.int .i64 (0 : Int)), (.int .i64 (0 : Int))] 63, bA b41 [(.int .i64 a0.1), (.int .i64 a0.2.1), (.int .i64 a0.2.2)] 90] w50 at H
 refine lx_nil (thenN ?_)
 refine wp_seq (region_plain ?_)
 refine lq (pAdd (bp b41) 1) S (q_fieldAddr' 1 2 rfl (isP_bp _) Tryz.underlying90 rfl Tryz.sizeOf2) fun a S => ?_
 refine lx_e (.int .i64 a0.2.1) S trivial (by decide) rfl trivial (q_load1 rfl Tryz.isAgg2 (by rintro _ rfl; exact (At.of_add (m := 1) (j := 0) (boxAt (i := 2) H rfl (j := 1) rfl)))) (fun a S => ?_)
 refine lq (pAdd (bp b47) 1) S (q_fieldAddr' 1 2 rfl (isP_bp _) Tryz.underlying63 rfl Tryz.sizeOf2) fun a S => ?_
 refine lx_storeBox (o := 1) (i := 0) (us := [(.int .i64 a0.2.1)]) (cs' := [(.int .i64 a0.1), (.int .i64 a0.2.1), (.int .i64 (0 : Int))]) S trivial rfl H rfl rfl rfl rfl Tryz.sizeOf2 (Nat.le_of_ble_eq_true rfl) (List.forall_mem_cons.2 ⟨rfl, (fun _ h => nomatch h)⟩) rfl (fun w51 H => ⟨trivial, fun a S => ?_⟩)
 change Heap w0 [bA b47 [(.int .i64 a0.1), (.int .i64 a0.2.1), (.int .i64 (0 : Int))] 63, bA b44 [(.int .i64 (0 : Int)), (.int .i64 (0 : Int)), (.int .i64 (0 : Int))] 63, bA b41 [(.int .i64 a0.1), (.int .i64 a0.2.1), (.int .i64 a0.2.2)] 90] w51 at H
 refine lx_nil (thenN ?_)
 refine wp_seq (region_plain ?_)
 refine lq (pAdd (bp b41) 2) S (q_fieldAddr' 2 2 rfl (isP_bp _) Tryz.underlying90 rfl Tryz.sizeOf2) fun a S => ?_
 refine lx_e (.int .i64 a0.2.2) S trivial (by decide) rfl trivial (q_load1 rfl Tryz.isAgg2 (by rintro _ rfl; exact (At.of_add (m := 2) (j := 0) (boxAt (i := 2) H rfl (j := 2) rfl)))) (fun a S => ?_)
 refine lq (pAdd (bp b47) 2) S (q_fieldAddr' 2 2 rfl (isP_bp _) Tryz.underlying63 rfl Tryz.sizeOf2) fun a S => ?_
 refine lx_storeBox (o := 2) (i := 0) (us := [(.int .i64 a0.2.2)]) (cs' := [(.int .i64 a0.1), (.int .i64 a0.2.1), (.int .i64 a0.2.2)]) S trivial rfl H rfl rfl rfl rfl Tryz.sizeOf2 (Nat.le_of_ble_eq_true rfl) (List.forall_mem_cons.2 ⟨rfl, (fun _ h => nomatch h)⟩) rfl (fun w52 H => ⟨trivial, fun a S => ?_⟩)
 change Heap w0 [bA b47 [(.int .i64 a0.1), (.int .i64 a0.2.1), (.int .i64 a0.2.2)] 63, bA b44 [(.int .i64 (0 : Int)), (.int .i64 (0 : Int)), (.int .i64 (0 : Int))] 63, bA b41 [(.int .i64 a0.1), (.int .i64 a0.2.1), (.int .i64 a0.2.2)] 90] w52 at H
 refine lx_nil (thenN ?_)
 refine wp_seq (region_plain ?_)
 refine lx_e (.agg #[(.int .i64 a0.1), (.int .i64 a0.2.1), (.int .i64 a0.2.2)]) S trivial (by decide) rfl trivial (q_loadA (cs := [(.int .i64 a0.1), (.int .i64 a0.2.1), (.int .i64 a0.2.2)]) rfl (isP_bp _) Tryz.isAgg63 Tryz.sizeOf63 (by rintro _ rfl; exact (fun j u hu => boxAt (i := 0) H rfl hu))) (fun a S => ?_)
 refine lx_storeBox (o := 0) (i := 1) (us := [(.int .i64 a0.1), (.int .i64 a0.2.1), (.int .i64 a0.2.2)]) (cs' := [(.int .i64 a0.1), (.int .i64 a0.2.1), (.int .i64 a0.2.2)]) S trivial rfl H rfl rfl rfl rfl Tryz.sizeOf63 (Nat.le_of_ble_eq_true rfl) (List.forall_mem_cons.2 ⟨rfl, (List.forall_mem_cons.2 ⟨rfl, (List.forall_mem_cons.2 ⟨rfl, (fun _ h => nomatch h)⟩)⟩)⟩) rfl (fun w53 H => ⟨trivial, fun a S => ?_⟩)
 change Heap w0 [bA b47 [(.int .i64 a0.1), (.int .i64 a0.2.1), (.int .i64 a0.2.2)] 63, bA b44 [(.int .i64 a0.1), (.int .i64 a0.2.1), (.int .i64 a0.2.2)] 63, bA b41 [(.int .i64 a0.1), (.int .i64 a0.2.1), (.int .i64 a0.2.2)] 90] w53 at H
 refine lx_nil (thenN ?_)
 refine wp_ret ?_
 have hrv0 := RV.cellA (t := 63) (q := 2) (env := [(0, (.agg #[(.int .i64 a0.1), (.int .i64 a0.2.1), (.int .i64 a0.2.2)])), (1, (bp b41)), (2, (bp b44)), (3, (bp b47)), (4, (pAdd (bp b41) 0)), (5, (.int .i64 a0.1)), (6, (pAdd (bp b47) 0)), (7, (pAdd (bp b41) 1)), (8, (.int .i64 a0.2.1)), (9, (pAdd (bp b47) 1)), (10, (pAdd (bp b41) 2)), (11, (.int .i64 a0.2.2)), (12, (pAdd (bp b47) 2)), (13, (.agg #[(.int .i64 a0.1), (.int .i64 a0.2.1), (.int .i64 a0.2.2)]))]) H (i := 1) rfl rfl Tryz.isAgg63 Tryz.sizeOf63
 obtain rfl := Option.some.inj hm
 have H : Heap w0 [] w53 := H.sel [] (by decide)
 exact leaveR1 S rfl hrv0 ⟨rfl, H⟩

/-- laws.toEdgeS -/
def laws_toEdgeS_m (fuel : Nat) (a0 : (List Tlaws_Edge)) : Option ((List Timpl_Edge)) :=
  (mks (a0.length : Int) ((0 : Int), (0 : Int), (0 : Int))).bind fun x31 => (iter (fun (s : (List Timpl_Edge) × (Int)) => (match s with | (xs61, x62) => (if (decide (x62 < (a0.length : Int))) = true then (idx a0 x62).bind fun x97 => (laws_toEdge_m fuel (x97.1, x97.2.1, x97.2.2)).bind fun x112 => (idx xs61 x62).bind fun _ => some (.inl ((xs61.set x62.toNat (x112.1, x112.2.1, x112.2.2)), (W (x62 + (1 : Int))))) else some (.inr (.inl (xs61)))) : Option (((List Timpl_Edge) × (Int)) ⊕ (((List Timpl_Edge)) ⊕ ((List Timpl_Edge)))))) fuel (x31, (0 : Int))).bind fun res88 => ctl (β := (List Timpl_Edge)) (ρ := (List Timpl_Edge)) (τ := (List Timpl_Edge)) res88 (fun (xs87) => some (xs87)) (fun q => some (q))
set_option maxRecDepth 20000 in
theorem laws_toEdgeS_ok {w0 : World} {fuel : Nat} {p0 : Value} {a0 : (List Tlaws_Edge)} {r : (List Timpl_Edge)} (h0 : Rd (rList Rlaws_Edge) w0 p0 a0) (hm : laws_toEdgeS_m fuel a0 = some r) :
  Calls Tryz.prog 36 #[p0] w0 fun e w => ∃ (v0 : Value), e = .returned (v0) ∧ Heap w0 [oA (rList Rimpl_Edge) v0 r] w := by
 unfold laws_toEdgeS_m at hm
 have H := Heap.start w0
 refine enter (args := [p0]) Tryz.func36 rfl 23 rfl (Nat.le_of_ble_eq_true rfl) (fun a S => ?_)
 refine wp_seq (region_plain ?_)
 refine lq (.slice none 0 0) S (q_assign rfl) fun a S => ?_
 refine lx_nil (thenN ?_)
 refine wp_seq (region_plain ?_)
 refine lq p0 S (q_move rfl) fun a S => ?_
 refine lq (.int .i64 (a0.length : Int)) S (q_lenSl rfl (h0).isSl rfl Tryz.underlying29) fun a S => ?_
 obtain ⟨x31, e32, hm⟩ := bind_some hm
 obtain ⟨m33, hn, hn2, rfl⟩ := mks_some e32
 refine lx_make (r := Rimpl_Edge) (z0 := ((0 : Int), (0 : Int), (0 : Int))) (n := m33) S trivial (by decide) rfl H (by rw [← hn]; rfl) (by rw [← hn]; rfl) Tryz.underlying34 (Tryz.ti63) rfl rfl (Nat.le_of_ble_eq_true rfl) (fun w => ⟨_, _, [(.int .i64 (0 : Int))], [(.int .i64 (0 : Int)), (.int .i64 (0 : Int))], rfl, rfl, ⟨rfl, rfl⟩, ⟨_, _, [(.int .i64 (0 : Int))], [(.int .i64 (0 : Int))], rfl, rfl, ⟨rfl, rfl⟩, ⟨rfl, rfl⟩⟩⟩) hn2 (by decide) (fun v34 w35 H => ⟨trivial, fun a S => ?_⟩)
 refine lq v34 S (q_assign rfl) fun a S => ?_
 refine lx_nil (thenN ?_)
 refine wp_seq (wp_seq (region_plain ?_))
 refine lq (.int .i64 (0 : Int)) S (q_assign rfl) fun a S => ?_
 refine lx_nil (thenN ?_)
 obtain ⟨res88, hit89, hk92⟩ := bind_some hm
 obtain ⟨f90, hf91, hit89⟩ := iter_name hit89
 refine block_loop (fun a w => ∃ (xs87 : List Timpl_Edge), Slots a 23 [(3, v34)] ∧ Heap w0 [oA (rList Rimpl_Edge) v34 xs87] w ∧ res88 = .inl (xs87)) ?_ ?_
 ·rintro a w ⟨xs87, S, H, rfl⟩
  have hm := ctl_inl hk92
  refine thenN ?_
  refine wp_seq (region_plain ?_)
  refine lq v34 S (q_move rfl) fun a S => ?_
  refine lq v34 S (q_assign rfl) fun a S => ?_
  refine lx_nil (thenN ?_)
  refine wp_ret ?_
  obtain rfl := Option.some.inj hm
  exact leave1 S rfl rfl ⟨v34, rfl, H⟩
 ·skip
  refine loop_ghost (fun n a w => ∃ (xs61 : List Timpl_Edge) (x62 : Int), Slots a 23 [(0, p0), (3, v34), (4, (.int .i64 x62))] ∧ Heap w0 [oA (rList Rimpl_Edge) v34 xs61] w ∧ iter f90 n (xs61, x62) = some res88) _ ⟨(List.replicate m33 ((0 : Int), (0 : Int), (0 : Int))), (0 : Int), S.sub ⟨rfl, rfl, rfl, trivial⟩, H, hit89⟩ ?_
  rintro n a w ⟨xs61, x62, S, H, hit89⟩
  obtain ⟨m93, o94, rfl, hm, hc95⟩ := iter_step hit89
  rw [hf91] at hm
  refine wp_seq (wp_seq (region_plain ?_))
  refine lq (.int .i64 x62) S (q_move rfl) fun a S => ?_
  refine lq p0 S (q_move rfl) fun a S => ?_
  refine lq (.int .i64 (a0.length : Int)) S (q_lenSl rfl (h0).isSl rfl Tryz.underlying29) fun a S => ?_
  refine lq (.bool (decide (x62 < (a0.length : Int)))) S (q_lss rfl rfl) fun a S => ?_
  refine lx_nil (thenN ?_)
  refine cond_b S rfl (fun hc96 => ?_) (fun hc96 => ?_)
  ·have hm := ite_t hc96 hm
   refine wp_skip (thenN ?_)
   refine wp_seq ?_
   refine wp_block ?_
   refine region_plain ?_
   refine lq v34 S (q_move rfl) fun a S => ?_
   refine lq (.int .i64 x62) S (q_move rfl) fun a S => ?_
   refine lq p0 S (q_move rfl) fun a S => ?_
   refine lq (.int .i64 x62) S (q_move rfl) fun a S => ?_
   obtain ⟨x97, e98, hm⟩ := bind_some hm
   obtain ⟨c99, h100, hat101⟩ := (h0).elem (idx_some e98).2
   obtain ⟨c102, c103, rfl, h104, h105⟩ := h100
   obtain rfl := h104
   obtain ⟨c106, c107, rfl, h108, h109⟩ := h105
   obtain rfl := h108
   obtain rfl := h109
   have hlt := lt_of_idx (idx_some e98).2
   refine lq (ePtr p0 (x62.toNat * 3)) S (q_indexAddr rfl (h0).isSl rfl (idx_some e98).1 hlt Tryz.underlying29 Tryz.sizeOf90) fun a S => ?_
   refine lx_e (.agg #[(.int .i64 x97.1), (.int .i64 x97.2.1), (.int .i64 x97.2.2)]) S trivial (by decide) rfl trivial (q_loadA (cs := [(.int .i64 x97.1), (.int .i64 x97.2.1), (.int .i64 x97.2.2)]) rfl ((hat101 0 _ rfl).isP) Tryz.isAgg90 Tryz.sizeOf90 (by rintro _ rfl; exact (fun j u hu => (hat101 j u hu).ext H.ext))) (fun a S => ?_)
   obtain ⟨x112, e113, hm⟩ := bind_some hm
   refine lx_call (xs := [.tmp 19]) S trivial (by decide) rfl rfl Tryz.call67 ((laws_toEdge_ok ⟨[(.int .i64 x97.1), (.int .i64 x97.2.1), (.int .i64 x97.2.2)], rfl, ⟨[(.int .i64 x97.1)], [(.int .i64 x97.2.1), (.int .i64 x97.2.2)], rfl, rfl, ⟨[(.int .i64 x97.2.1)], [(.int .i64 x97.2.2)], rfl, rfl, rfl⟩⟩⟩ e113).mono ?_)
   rintro e w110 ⟨rfl, Hc111⟩
   have H := H.call0 Hc111
   refine ⟨_, rfl, trivial, fun a S => ?_⟩
   obtain ⟨x115, e116, hm⟩ := bind_some hm
   have hlt := lt_of_idx (idx_some e116).2
   refine lq (ePtr v34 (x62.toNat * 3)) S (q_indexAddr rfl (H.isSl 0 rfl) rfl (idx_some e116).1 hlt Tryz.underlying34 Tryz.sizeOf63) fun a S => ?_
   refine lx_storeElem (r := Rimpl_Edge) (us := [(.int .i64 x112.1), (.int .i64 x112.2.1), (.int .i64 x112.2.2)]) (off := 0) (e' := (x112.1, x112.2.1, x112.2.2)) S trivial rfl H.putE (ev_zero rfl) rfl (idx_some e116).2 rfl Tryz.sizeOf63 (Nat.le_of_ble_eq_true rfl) (List.forall_mem_cons.2 ⟨rfl, (List.forall_mem_cons.2 ⟨rfl, (List.forall_mem_cons.2 ⟨rfl, (fun _ h => nomatch h)⟩)⟩)⟩) (Upd.full rfl (fun w G hG => by cases (show G = [] from hG); exact ⟨_, _, [(.int .i64 x112.1)], [(.int .i64 x112.2.1), (.int .i64 x112.2.2)], rfl, rfl, ⟨rfl, rfl⟩, ⟨_, _, [(.int .i64 x112.2.1)], [(.int .i64 x112.2.2)], rfl, rfl, ⟨rfl, rfl⟩, ⟨rfl, rfl⟩⟩⟩)) (fun w117 H => ⟨trivial, fun a S => ?_⟩)
   refine lx_nil ?_
   refine inBlock_norm ?_
   refine thenN ?_
   refine region_plain ?_
   refine lq (.int .i64 x62) S (q_move rfl) fun a S => ?_
   refine lq (.int .i64 (W (x62 + (1 : Int)))) S (q_add rfl rfl) fun a S => ?_
   refine lq (.int .i64 (W (x62 + (1 : Int)))) S (q_assign rfl) fun a S => ?_
   refine lx_nil ?_
   exact ⟨m93, Nat.lt_succ_self _, (xs61.set x62.toNat (x112.1, x112.2.1, x112.2.2)), (W (x62 + (1 : Int))), S.sub ⟨rfl, rfl, rfl, trivial⟩, H, it_cont hm hc95⟩
  ·have hm := ite_f hc96 hm
   refine wp_exit ?_
   refine then_exit ?_
   refine then_exit ?_
   refine inBlock_exit ?_
   obtain rfl := it_brk hm hc95
   exact ⟨xs61, S.sub ⟨rfl, trivial⟩, H, rfl⟩

/-- laws.toLts -/
def laws_toLts_m (fuel : Nat) (a0 : Tlaws_Lts) : Option (Timpl_Lts) :=
  (laws_toStringS_m fuel a0.2.2.1).bind fun x62 => (laws_toEdgeS_m fuel a0.2.2.2).bind fun x70 => some ((a0.1, a0.2.1, x62, x70))
set_option maxRecDepth 20000 in
theorem laws_toLts_ok {w0 : World} {fuel : Nat} {p0 : Value} {a0 : Tlaws_Lts} {r : Timpl_Lts} (h0 : Rd Rlaws_Lts w0 p0 a0) (hm : laws_toLts_m fuel a0 = some r) :
  Calls Tryz.prog 13 #[p0] w0 fun e w => ∃ (v0 : Value) (v1 : Value), e = .returned (.agg #[.int .i64 r.1, .int .i64 r.2.1, v0, v1]) ∧ Heap w0 [oA (rList rStr) v0 r.2.2.1, oA (rList Rimpl_Edge) v1 r.2.2.2] w := by
 unfold laws_toLts_m at hm
 have H := Heap.start w0
 obtain ⟨c31, rfl, h32⟩ := h0
 obtain ⟨c37, c38, rfl, h39, h40⟩ := h32
 obtain rfl := h39
 obtain ⟨c41, c42, rfl, h43, h44⟩ := h40
 obtain rfl := h43
 obtain ⟨c45, c46, rfl, h47, h48⟩ := h44
 obtain ⟨v33, rfl, h34⟩ := rd_list h47
 obtain ⟨v35, rfl, h36⟩ := rd_list h48
 refine enter (args := [(.agg #[(.int .i64 a0.1), (.int .i64 a0.2.1), v33, v35])]) Tryz.func13 rfl 19 rfl (Nat.le_of_ble_eq_true rfl) (fun a S => ?_)
 refine wp_seq (region_plain ?_)
 refine lx_box S trivial (by decide) rfl H rfl rfl (fun b49 w50 H => ⟨trivial, fun a S => ?_⟩)
 refine lx_alloc S trivial (by decide) rfl H Tryz.zeroValue36 rfl (fun b52 w53 H => ⟨trivial, fun a S => ?_⟩)
 refine lx_nil (thenN ?_)
 refine wp_seq (region_plain ?_)
 refine lx_alloc S trivial (by decide) rfl H Tryz.zeroValue36 rfl (fun b55 w56 H => ⟨trivial, fun a S => ?_⟩)
 refine lx_nil (thenN ?_)
 refine wp_seq (region_plain ?_)
 refine lq (pAdd (bp b49) 0) S (q_fieldAddr' 0 2 rfl (isP_bp _) Tryz.underlying31 rfl Tryz.sizeOf2) fun a S => ?_
 refine lx_e (.int .i64 a0.1) S trivial (by decide) rfl trivial (q_load1 rfl Tryz.isAgg2 (by rintro _ rfl; exact (At.of_add (m := 0) (j := 0) (boxAt (i := 2) H rfl (j := 0) rfl)))) (fun a S => ?_)
 refine lq (pAdd (bp b55) 0) S (q_fieldAddr' 0 2 rfl (isP_bp _) Tryz.underlying36 rfl Tryz.sizeOf2) fun a S => ?_
 refine lx_storeBox (o := 0) (i := 0) (us := [(.int .i64 a0.1)]) (cs' := [(.int .i64 a0.1), (.int .i64 (0 : Int)), (.slice none 0 0), (.slice none 0 0)]) S trivial rfl H rfl rfl rfl rfl Tryz.sizeOf2 (Nat.le_of_ble_eq_true rfl) (List.forall_mem_cons.2 ⟨rfl, (fun _ h => nomatch h)⟩) rfl (fun w58 H => ⟨trivial, fun a S => ?_⟩)
 change Heap w0 [bA b55 [(.int .i64 a0.1), (.int .i64 (0 : Int)), (.slice none 0 0), (.slice none 0 0)] 36, bA b52 [(.int .i64 (0 : Int)), (.int .i64 (0 : Int)), (.slice none 0 0), (.slice none 0 0)] 36, bA b49 [(.int .i64 a0.1), (.int .i64 a0.2.1), v33, v35] 31] w58 at H
 refine lx_nil (thenN ?_)
 refine wp_seq (region_plain ?_)
 refine lq (pAdd (bp b49) 1) S (q_fieldAddr' 1 2 rfl (isP_bp _) Tryz.underlying31 rfl Tryz.sizeOf2) fun a S => ?_
 refine lx_e (.int .i64 a0.2.1) S trivial (by decide) rfl trivial (q_load1 rfl Tryz.isAgg2 (by rintro _ rfl; exact (At.of_add (m := 1) (j := 0) (boxAt (i := 2) H rfl (j := 1) rfl)))) (fun a S => ?_)
 refine lq (pAdd (bp b55) 1) S (q_fieldAddr' 1 2 rfl (isP_bp _) Tryz.underlying36 rfl Tryz.sizeOf2) fun a S => ?_
 refine lx_storeBox (o := 1) (i := 0) (us := [(.int .i64 a0.2.1)]) (cs' := [(.int .i64 a0.1), (.int .i64 a0.2.1), (.slice none 0 0), (.slice none 0 0)]) S trivial rfl H rfl rfl rfl rfl Tryz.sizeOf2 (Nat.le_of_ble_eq_true rfl) (List.forall_mem_cons.2 ⟨rfl, (fun _ h => nomatch h)⟩) rfl (fun w59 H => ⟨trivial, fun a S => ?_⟩)
 change Heap w0 [bA b55 [(.int .i64 a0.1), (.int .i64 a0.2.1), (.slice none 0 0), (.slice none 0 0)] 36, bA b52 [(.int .i64 (0 : Int)), (.int .i64 (0 : Int)), (.slice none 0 0), (.slice none 0 0)] 36, bA b49 [(.int .i64 a0.1), (.int .i64 a0.2.1), v33, v35] 31] w59 at H
 refine lx_nil (thenN ?_)
 refine wp_seq (region_plain ?_)
 refine lq (pAdd (bp b49) 2) S (q_fieldAddr' 2 28 rfl (isP_bp _) Tryz.underlying31 rfl Tryz.sizeOf28) fun a S => ?_
 refine lx_e v33 S trivial (by decide) rfl trivial (q_load1 rfl Tryz.isAgg28 (by rintro _ rfl; exact (At.of_add (m := 2) (j := 0) (boxAt (i := 2) H rfl (j := 2) rfl)))) (fun a S => ?_)
 obtain ⟨x62, e63, hm⟩ := bind_some hm
 refine lx_call (xs := [.tmp 11]) S trivial (by decide) rfl rfl Tryz.call35 ((laws_toStringS_ok (H.arg h34) e63).mono ?_)
 rintro e w60 ⟨v64, rfl, Hc61⟩
 have H := H.call1 Hc61
 refine ⟨_, rfl, trivial, fun a S => ?_⟩
 refine lq (pAdd (bp b55) 2) S (q_fieldAddr' 2 28 rfl (isP_bp _) Tryz.underlying36 rfl Tryz.sizeOf28) fun a S => ?_
 refine lx_storeBox (o := 2) (i := 1) (us := [v64]) (cs' := [(.int .i64 a0.1), (.int .i64 a0.2.1), v64, (.slice none 0 0)]) S trivial rfl H rfl rfl rfl (cells_sl (H.isSl 0 rfl)) Tryz.sizeOf28 (Nat.le_of_ble_eq_true rfl) (List.forall_mem_cons.2 ⟨one_sl (H.isSl 0 rfl), (fun _ h => nomatch h)⟩) rfl (fun w67 H => ⟨trivial, fun a S => ?_⟩)
 change Heap w0 [oA (rList rStr) v64 x62, bA b55 [(.int .i64 a0.1), (.int .i64 a0.2.1), v64, (.slice none 0 0)] 36, bA b52 [(.int .i64 (0 : Int)), (.int .i64 (0 : Int)), (.slice none 0 0), (.slice none 0 0)] 36, bA b49 [(.int .i64 a0.1), (.int .i64 a0.2.1), v33, v35] 31] w67 at H
 refine lx_nil (thenN ?_)
 refine wp_seq (region_plain ?_)
 refine lq (pAdd (bp b49) 3) S (q_fieldAddr' 3 29 rfl (isP_bp _) Tryz.underlying31 rfl Tryz.sizeOf29) fun a S => ?_
 refine lx_e v35 S trivial (by decide) rfl trivial (q_load1 rfl Tryz.isAgg29 (by rintro _ rfl; exact (At.of_add (m := 3) (j := 0) (boxAt (i := 3) H rfl (j := 3) rfl)))) (fun a S => ?_)
 obtain ⟨x70, e71, hm⟩ := bind_some hm
 refine lx_call (xs := [.tmp 15]) S trivial (by decide) rfl rfl Tryz.call36 ((laws_toEdgeS_ok (H.arg h36) e71).mono ?_)
 rintro e w68 ⟨v72, rfl, Hc69⟩
 have H := H.call1 Hc69
 refine ⟨_, rfl, trivial, fun a S => ?_⟩
 refine lq (pAdd (bp b55) 3) S (q_fieldAddr' 3 34 rfl (isP_bp _) Tryz.underlying36 rfl Tryz.sizeOf34) fun a S => ?_
 refine lx_storeBox (o := 3) (i := 2) (us := [v72]) (cs' := [(.int .i64 a0.1), (.int .i64 a0.2.1), v64, v72]) S trivial rfl H rfl rfl rfl (cells_sl (H.isSl 0 rfl)) Tryz.sizeOf34 (Nat.le_of_ble_eq_true rfl) (List.forall_mem_cons.2 ⟨one_sl (H.isSl 0 rfl), (fun _ h => nomatch h)⟩) rfl (fun w75 H => ⟨trivial, fun a S => ?_⟩)
 change Heap w0 [oA (rList Rimpl_Edge) v72 x70, oA (rList rStr) v64 x62, bA b55 [(.int .i64 a0.1), (.int .i64 a0.2.1), v64, v72] 36, bA b52 [(.int .i64 (0 : Int)), (.int .i64 (0 : Int)), (.slice none 0 0), (.slice none 0 0)] 36, bA b49 [(.int .i64 a0.1), (.int .i64 a0.2.1), v33, v35] 31] w75 at H
 refine lx_nil (thenN ?_)
 refine wp_seq (region_plain ?_)
 refine lx_e (.agg #[(.int .i64 a0.1), (.int .i64 a0.2.1), v64, v72]) S trivial (by decide) rfl trivial (q_loadA (cs := [(.int .i64 a0.1), (.int .i64 a0.2.1), v64, v72]) rfl (isP_bp _) Tryz.isAgg36 Tryz.sizeOf36 (by rintro _ rfl; exact (fun j u hu => boxAt (i := 2) H rfl hu))) (fun a S => ?_)
 refine lx_storeBox (o := 0) (i := 3) (us := [(.int .i64 a0.1), (.int .i64 a0.2.1), v64, v72]) (cs' := [(.int .i64 a0.1), (.int .i64 a0.2.1), v64, v72]) S trivial rfl H rfl rfl rfl rfl Tryz.sizeOf36 (Nat.le_of_ble_eq_true rfl) (List.forall_mem_cons.2 ⟨rfl, (List.forall_mem_cons.2 ⟨rfl, (List.forall_mem_cons.2 ⟨one_sl (H.isSl 1 rfl), (List.forall_mem_cons.2 ⟨one_sl (H.isSl 0 rfl), (fun _ h => nomatch h)⟩)⟩)⟩)⟩) rfl (fun w76 H => ⟨trivial, fun a S => ?_⟩)
 change Heap w0 [oA (rList Rimpl_Edge) v72 x70, oA (rList rStr) v64 x62, bA b55 [(.int .i64 a0.1), (.int .i64 a0.2.1), v64, v72] 36, bA b52 [(.int .i64 a0.1), (.int .i64 a0.2.1), v64, v72] 36, bA b49 [(.int .i64 a0.1), (.int .i64 a0.2.1), v33, v35] 31] w76 at H
 refine lx_nil (thenN ?_)
 refine wp_ret ?_
 have hrv0 := RV.cellA (t := 36) (q := 2) (env := [(0, (.agg #[(.int .i64 a0.1), (.int .i64 a0.2.1), v33, v35])), (1, (bp b49)), (2, (bp b52)), (3, (bp b55)), (4, (pAdd (bp b49) 0)), (5, (.int .i64 a0.1)), (6, (pAdd (bp b55) 0)), (7, (pAdd (bp b49) 1)), (8, (.int .i64 a0.2.1)), (9, (pAdd (bp b55) 1)), (10, (pAdd (bp b49) 2)), (11, v33), (12, v64), (13, (pAdd (bp b55) 2)), (14, (pAdd (bp b49) 3)), (15, v35), (16, v72), (17, (pAdd (bp b55) 3)), (18, (.agg #[(.int .i64 a0.1), (.int .i64 a0.2.1), v64, v72]))]) H (i := 3) rfl rfl Tryz.isAgg36 Tryz.sizeOf36
 obtain rfl := Option.some.inj hm
 have H : Heap w0 [oA (rList rStr) v64 x62, oA (rList Rimpl_Edge) v72 x70, bA b55 [(.int .i64 a0.1), (.int .i64 a0.2.1), v64, v72] 36, bA b52 [(.int .i64 a0.1), (.int .i64 a0.2.1), v64, v72] 36, bA b49 [(.int .i64 a0.1), (.int .i64 a0.2.1), v33, v35] 31] w76 := H.front 1 rfl
 have H : Heap w0 [oA (rList rStr) v64 x62, oA (rList Rimpl_Edge) v72 x70] w76 := H.sel [0, 1] (by decide)
 exact leaveR1 S rfl hrv0 ⟨v64, v72, rfl, H⟩

/-- spec.l11Text -/
def spec_l11Text_m (fuel : Nat) (a0 : Timpl_Lts) : Option (Str) :=
  (spec_l01Dec_m fuel a0.1).bind fun x54 => (cat x54 ([32] : Str)).bind fun x57 => (spec_l01Dec_m fuel a0.2.1).bind fun x61 => (cat x57 x61).bind fun x64 => (cat x64 ([124] : Str)).bind fun x66 => (iter (fun (s : (Str) × (Int)) => (match s with | (x84, x85) => (if (decide (x85 < (a0.2.2.1.length : Int))) = true then join (κ := Str → Option (((Str) × (Int)) ⊕ ((Str) ⊕ (Str)))) (fun (x360 : Str) => (idx a0.2.2.1 x85).bind fun x363 => (cat x360 x363).bind fun x368 => some (.inl (x368, (W (x85 + (1 : Int)))))) (fun K361 => (if (decide ((1 : Int) < x85)) = true then (cat x84 ([32] : Str)).bind fun x371 => (K361 x371) else (K361 x84))) else some (.inr (.inl (x84)))) : Option (((Str) × (Int)) ⊕ ((Str) ⊕ (Str))))) fuel (x66, (1 : Int))).bind fun res103 => ctl (β := Str) (ρ := Str) (τ := Str) res103 (fun (x102) => join (κ := Str → Option Str) (fun (x108 : Str) => (cat x108 ([124] : Str)).bind fun x111 => (iter (fun (s : (Str) × (Int)) => (match s with | (x188, x189) => (if (decide (x189 < (a0.2.2.2.length : Int))) = true then join (κ := Str → Option (((Str) × (Int)) ⊕ ((Str) ⊕ (Str)))) (fun (x281 : Str) => (idx a0.2.2.2 x189).bind fun x286 => (spec_l01Dec_m fuel x286.1).bind fun x301 => (cat x301 ([58] : Str)).bind fun x304 => (idx a0.2.2.2 x189).bind fun x306 => (spec_l01Dec_m fuel x306.2.1).bind fun x321 => (cat x304 x321).bind fun x324 => (cat x324 ([58] : Str)).bind fun x326 => (idx a0.2.2.2 x189).bind fun x328 => (spec_l01Dec_m fuel x328.2.2).bind fun x343 => (cat x326 x343).bind fun x346 => (cat x281 x346).bind fun x348 => some (.inl (x348, (W (x189 + (1 : Int)))))) (fun K282 => (if (decide ((0 : Int) < x189)) = true then (cat x188 ([32] : Str)).bind fun x351 => (K282 x351) else (K282 x188))) else some (.inr (.inl (x188)))) : Option (((Str) × (Int)) ⊕ ((Str) ⊕ (Str))))) fuel (x111, (0 : Int))).bind fun res266 => ctl (β := Str) (ρ := Str) (τ := Str) res266 (fun (x265) => join (κ := Str → Option Str) (fun (x271 : Str) => some (x271)) (fun K272 => (if ((a0.2.2.2.length : Int) == (0 : Int)) = true then (cat x265 ([45] : Str)).bind fun x275 => (K272 x275) else (K272 x265)))) (fun q => some (q))) (fun K109 => (if ((a0.2.2.1.length : Int) == (1 : Int)) = true then (cat x102 ([45] : Str)).bind fun x354 => (K109 x354) else (K109 x102)))) (fun q => some (q))
set_option maxRecDepth 20000 in
theorem spec_l11Text_ok {w0 : World} {fuel : Nat} {p0 : Value} {a0 : Timpl_Lts} {r : Str} (h0 : Rd (rPtr Rimpl_Lts) w0 p0 a0) (hm : spec_l11Text_m fuel a0 = some r) :
  Calls Tryz.prog 34 #[p0] w0 fun e w => e = .returned (sv r) ∧ Heap w0 [] w := by
 unfold spec_l11Text_m at hm
 have H := Heap.start w0
 obtain ⟨c31, h32, hat33⟩ := h0.ptr
 obtain ⟨c38, c39, rfl, h40, h41⟩ := h32
 obtain rfl := h40
 obtain ⟨c42, c43, rfl, h44, h45⟩ := h41
 obtain rfl := h44
 obtain ⟨c46, c47, rfl, h48, h49⟩ := h45
 obtain ⟨v34, rfl, h35⟩ := rd_list h48
 obtain ⟨v36, rfl, h37⟩ := rd_list h49
 refine enter (args := [p0]) Tryz.func34 rfl 106 rfl (Nat.le_of_ble_eq_true rfl) (fun a S => ?_)
 refine wp_seq (region_plain ?_)
 refine lq (sv ([] : Str)) S (q_assign rfl) fun a S => ?_
 refine lx_nil (thenN ?_)
 refine wp_seq ?_
 refine region_drawG (fun w1 => Heap w0 [] w1) (fun i => [4, 10].contains i) mixed (by kernel_rfl) (fun w51 he50 => ?_)
 have H := H.later he50
 refine ⟨H.sel [] (by decide), ?_⟩
 refine lq p0 S (q_move rfl) fun a S => ?_
 refine lq p0 S (q_nilCheck rfl ((hat33 0 _ rfl).isP)) fun a S => ?_
 refine lq (pAdd p0 0) S (q_fieldAddr' 0 2 rfl ((hat33 0 _ rfl).isP) Tryz.underlying36 rfl Tryz.sizeOf2) fun a S => ?_
 refine lq (.int .i64 a0.1) S (q_load1 rfl Tryz.isAgg2 (fun w1 hC => (At.of_add (m := 0) (j := 0) ((hat33 0 _ rfl).ext hC.ext)))) fun a S => ?_
 obtain ⟨x54, e55, hm⟩ := bind_some hm
 refine lx_call (xs := [.tmp 9]) S trivial (by decide) rfl rfl Tryz.call66 ((spec_l01Dec_ok  e55).mono ?_)
 rintro e w52 ⟨rfl, Hc53⟩
 have H := H.call0 Hc53
 refine ⟨_, rfl, H.sel [] (by decide), fun a S => ?_⟩
 obtain ⟨x57, e58, hm⟩ := bind_some hm
 obtain ⟨hle, hcat⟩ := cat_some e58
 subst hcat
 refine lq (sv (x54 ++ ([32] : Str))) S (q_cat rfl rfl hle) fun a S => ?_
 refine lq p0 S (q_move rfl) fun a S => ?_
 refine lq p0 S (q_nilCheck rfl ((hat33 0 _ rfl).isP)) fun a S => ?_
 refine lq (pAdd p0 1) S (q_fieldAddr' 1 2 rfl ((hat33 0 _ rfl).isP) Tryz.underlying36 rfl Tryz.sizeOf2) fun a S => ?_
 refine lq (.int .i64 a0.2.1) S (q_load1 rfl Tryz.isAgg2 (fun w1 hC => (At.of_add (m := 1) (j := 0) ((hat33 1 _ rfl).ext hC.ext)))) fun a S => ?_
 obtain ⟨x61, e62, hm⟩ := bind_some hm
 refine lx_call (xs := [.tmp 15]) S trivial (by decide) rfl rfl Tryz.call66 ((spec_l01Dec_ok  e62).mono ?_)
 rintro e w59 ⟨rfl, Hc60⟩
 have H := H.call0 Hc60
 refine ⟨_, rfl, H.sel [] (by decide), fun a S => ?_⟩
 obtain ⟨x64, e65, hm⟩ := bind_some hm
 obtain ⟨hle, hcat⟩ := cat_some e65
 subst hcat
 refine lq (sv ((x54 ++ ([32] : Str)) ++ x61)) S (q_cat rfl rfl hle) fun a S => ?_
 obtain ⟨x66, e67, hm⟩ := bind_some hm
 obtain ⟨hle, hcat⟩ := cat_some e67
 subst hcat
 refine lq (sv (((x54 ++ ([32] : Str)) ++ x61) ++ ([124] : Str))) S (q_cat rfl rfl hle) fun a S => ?_
 refine lq (sv (((x54 ++ ([32] : Str)) ++ x61) ++ ([124] : Str))) S (q_assign rfl) fun a S => ?_
 refine lx_nil (thenN ?_)
 refine wp_seq (wp_seq (region_plain ?_))
 refine lq (.int .i64 (1 : Int)) S (q_assign rfl) fun a S => ?_
 refine lx_nil (thenN ?_)
 obtain ⟨res103, hit104, hk107⟩ := bind_some hm
 obtain ⟨f105, hf106, hit104⟩ := iter_name hit104
 refine block_loop (fun a w => ∃ (x102 : Str), Slots a 106 [(0, p0), (3, (sv x102))] ∧ Heap w0 [] w ∧ res103 = .inl (x102)) ?_ ?_
 ·rintro a w ⟨x102, S, H, rfl⟩
  have hm := ctl_inl hk107
  refine thenN ?_
  obtain ⟨K109, hK110, hm⟩ := join_elim hm
  refine seq_cut (fun a w => ∃ (x108 : Str), Slots a 106 [(0, p0), (3, (sv x108))] ∧ Heap w0 [] w ∧ K109 x108 = some r) ?_ ?_
  ·rintro a w ⟨x108, S, H, hm⟩
   subst hK110
   refine wp_seq (region_plain ?_)
   refine lq (sv x108) S (q_move rfl) fun a S => ?_
   obtain ⟨x111, e112, hm⟩ := bind_some hm
   obtain ⟨hle, hcat⟩ := cat_some e112
   subst hcat
   refine lq (sv (x108 ++ ([124] : Str))) S (q_cat rfl rfl hle) fun a S => ?_
   refine lq (sv (x108 ++ ([124] : Str))) S (q_assign rfl) fun a S => ?_
   refine lx_nil (thenN ?_)
   refine wp_seq (wp_seq (region_plain ?_))
   refine lq (.int .i64 (0 : Int)) S (q_assign rfl) fun a S => ?_
   refine lx_nil (thenN ?_)
   obtain ⟨res266, hit267, hk270⟩ := bind_some hm
   obtain ⟨f268, hf269, hit267⟩ := iter_name hit267
   refine block_loop (fun a w => ∃ (x265 : Str), Slots a 106 [(0, p0), (3, (sv x265))] ∧ Heap w0 [] w ∧ res266 = .inl (x265)) ?_ ?_
   ·rintro a w ⟨x265, S, H, rfl⟩
    have hm := ctl_inl hk270
    refine thenN ?_
    obtain ⟨K272, hK273, hm⟩ := join_elim hm
    refine seq_cut (fun a w => ∃ (x271 : Str), Slots a 106 [(3, (sv x271))] ∧ Heap w0 [] w ∧ K272 x271 = some r) ?_ ?_
    ·rintro a w ⟨x271, S, H, hm⟩
     subst hK273
     refine wp_seq (region_plain ?_)
     refine lq (sv x271) S (q_move rfl) fun a S => ?_
     refine lq (sv x271) S (q_assign rfl) fun a S => ?_
     refine lx_nil (thenN ?_)
     refine wp_ret ?_
     obtain rfl := Option.some.inj hm
     exact leave1 S rfl rfl ⟨rfl, H⟩
    ·skip
     refine wp_seq (region_plain ?_)
     refine lq p0 S (q_move rfl) fun a S => ?_
     refine lq p0 S (q_nilCheck rfl ((hat33 0 _ rfl).isP)) fun a S => ?_
     refine lq (pAdd p0 3) S (q_fieldAddr' 3 34 rfl ((hat33 0 _ rfl).isP) Tryz.underlying36 rfl Tryz.sizeOf34) fun a S => ?_
     refine lx_e v36 S trivial (by decide) rfl trivial (q_load1 rfl Tryz.isAgg34 (by rintro _ rfl; exact (At.of_add (m := 3) (j := 0) ((hat33 3 _ rfl).ext H.ext)))) (fun a S => ?_)
     refine lq (.int .i64 (a0.2.2.2.length : Int)) S (q_lenSl rfl (h37).isSl rfl Tryz.underlying34) fun a S => ?_
     refine lq (.bool ((a0.2.2.2.length : Int) == (0 : Int))) S (q_eql rfl rfl) fun a S => ?_
     refine lx_nil (thenN ?_)
     refine cond_b S rfl (fun hc274 => ?_) (fun hc274 => ?_)
     ·have hm := ite_t hc274 hm
      refine region_plain ?_
      refine lq (sv x265) S (q_move rfl) fun a S => ?_
      obtain ⟨x275, e276, hm⟩ := bind_some hm
      obtain ⟨hle, hcat⟩ := cat_some e276
      subst hcat
      refine lq (sv (x265 ++ ([45] : Str))) S (q_cat rfl rfl hle) fun a S => ?_
      refine lq (sv (x265 ++ ([45] : Str))) S (q_assign rfl) fun a S => ?_
      refine lx_nil ?_
      exact ⟨(x265 ++ ([45] : Str)), S.sub ⟨rfl, trivial⟩, H, hm⟩
     ·have hm := ite_f hc274 hm
      refine wp_skip ?_
      exact ⟨x265, S.sub ⟨rfl, trivial⟩, H, hm⟩
   ·skip
    refine loop_ghost (fun n a w => ∃ (x188 : Str) (x189 : Int), Slots a 106 [(0, p0), (3, (sv x188)), (5, (.int .i64 x189))] ∧ Heap w0 [] w ∧ iter f268 n (x188, x189) = some res266) _ ⟨(x108 ++ ([124] : Str)), (0 : Int), S.sub ⟨rfl, rfl, rfl, trivial⟩, H, hit267⟩ ?_
    rintro n a w ⟨x188, x189, S, H, hit267⟩
    obtain ⟨m277, o278, rfl, hm, hc279⟩ := iter_step hit267
    rw [hf269] at hm
    refine wp_seq (wp_seq (region_plain ?_))
    refine lq (.int .i64 x189) S (q_move rfl) fun a S => ?_
    refine lq p0 S (q_move rfl) fun a S => ?_
    refine lq p0 S (q_nilCheck rfl ((hat33 0 _ rfl).isP)) fun a S => ?_
    refine lq (pAdd p0 3) S (q_fieldAddr' 3 34 rfl ((hat33 0 _ rfl).isP) Tryz.underlying36 rfl Tryz.sizeOf34) fun a S => ?_
    refine lx_e v36 S trivial (by decide) rfl trivial (q_load1 rfl Tryz.isAgg34 (by rintro _ rfl; exact (At.of_add (m := 3) (j := 0) ((hat33 3 _ rfl).ext H.ext)))) (fun a S => ?_)
    refine lq (.int .i64 (a0.2.2.2.length : Int)) S (q_lenSl rfl (h37).isSl rfl Tryz.underlying34) fun a S => ?_
    refine lq (.bool (decide (x189 < (a0.2.2.2.length : Int)))) S (q_lss rfl rfl) fun a S => ?_
    refine lx_nil (thenN ?_)
    refine cond_b S rfl (fun hc280 => ?_) (fun hc280 => ?_)
    ·have hm := ite_t hc280 hm
     refine wp_skip (thenN ?_)
     refine wp_seq ?_
     refine wp_block ?_
     obtain ⟨K282, hK283, hm⟩ := join_elim hm
     refine seq_cut (fun a w => ∃ (x281 : Str), Slots a 106 [(0, p0), (3, (sv x281)), (5, (.int .i64 x189))] ∧ Heap w0 [] w ∧ K282 x281 = some o278) ?_ ?_
     ·rintro a w ⟨x281, S, H, hm⟩
      subst hK283
      refine region_drawG (fun w1 => Heap w0 [] w1) (fun i => [9, 19, 30].contains i) mixed (by kernel_rfl) (fun w285 he284 => ?_)
      have H := H.later he284
      refine ⟨H.sel [] (by decide), ?_⟩
      refine lq (sv x281) S (q_move rfl) fun a S => ?_
      refine lq p0 S (q_move rfl) fun a S => ?_
      refine lq p0 S (q_nilCheck rfl ((hat33 0 _ rfl).isP)) fun a S => ?_
      refine lq (pAdd p0 3) S (q_fieldAddr' 3 34 rfl ((hat33 0 _ rfl).isP) Tryz.underlying36 rfl Tryz.sizeOf34) fun a S => ?_
      refine lq v36 S (q_load1 rfl Tryz.isAgg34 (fun w1 hC => (At.of_add (m := 3) (j := 0) ((hat33 3 _ rfl).ext hC.ext)))) fun a S => ?_
      refine lq (.int .i64 x189) S (q_move rfl) fun a S => ?_
      obtain ⟨x286, e287, hm⟩ := bind_some hm
      obtain ⟨c288, h289, hat290⟩ := (h37).elem (idx_some e287).2
      obtain ⟨c291, c292, rfl, h293, h294⟩ := h289
      obtain rfl := h293
      obtain ⟨c295, c296, rfl, h297, h298⟩ := h294
      obtain rfl := h297
      obtain rfl := h298
      have hlt := lt_of_idx (idx_some e287).2
      refine lq (ePtr v36 (x189.toNat * 3)) S (q_indexAddr rfl (h37).isSl rfl (idx_some e287).1 hlt Tryz.underlying34 Tryz.sizeOf63) fun a S => ?_
      refine lq (pAdd (ePtr v36 (x189.toNat * 3)) 0) S (q_fieldAddr' 0 2 rfl ((hat290 0 _ rfl).isP) Tryz.underlying63 rfl Tryz.sizeOf2) fun a S => ?_
      refine lq (.int .i64 x286.1) S (q_load1 rfl Tryz.isAgg2 (fun w1 hC => (At.of_add (m := 0) (j := 0) ((hat290 0 _ rfl).ext hC.ext)))) fun a S => ?_
      obtain ⟨x301, e302, hm⟩ := bind_some hm
      refine lx_call (xs := [.tmp 72]) S trivial (by decide) rfl rfl Tryz.call66 ((spec_l01Dec_ok  e302).mono ?_)
      rintro e w299 ⟨rfl, Hc300⟩
      have H := H.call0 Hc300
      refine ⟨_, rfl, H.sel [] (by decide), fun a S => ?_⟩
      obtain ⟨x304, e305, hm⟩ := bind_some hm
      obtain ⟨hle, hcat⟩ := cat_some e305
      subst hcat
      refine lq (sv (x301 ++ ([58] : Str))) S (q_cat rfl rfl hle) fun a S => ?_
      refine lq p0 S (q_move rfl) fun a S => ?_
      refine lq p0 S (q_nilCheck rfl ((hat33 0 _ rfl).isP)) fun a S => ?_
      refine lq (pAdd p0 3) S (q_fieldAddr' 3 34 rfl ((hat33 0 _ rfl).isP) Tryz.underlying36 rfl Tryz.sizeOf34) fun a S => ?_
      refine lq v36 S (q_load1 rfl Tryz.isAgg34 (fun w1 hC => (At.of_add (m := 3) (j := 0) ((hat33 3 _ rfl).ext hC.ext)))) fun a S => ?_
      refine lq (.int .i64 x189) S (q_move rfl) fun a S => ?_
      obtain ⟨x306, e307, hm⟩ := bind_some hm
      obtain ⟨c308, h309, hat310⟩ := (h37).elem (idx_some e307).2
      obtain ⟨c311, c312, rfl, h313, h314⟩ := h309
      obtain rfl := h313
      obtain ⟨c315, c316, rfl, h317, h318⟩ := h314
      obtain rfl := h317
      obtain rfl := h318
      have hlt := lt_of_idx (idx_some e307).2
      refine lq (ePtr v36 (x189.toNat * 3)) S (q_indexAddr rfl (h37).isSl rfl (idx_some e307).1 hlt Tryz.underlying34 Tryz.sizeOf63) fun a S => ?_
      refine lq (pAdd (ePtr v36 (x189.toNat * 3)) 1) S (q_fieldAddr' 1 2 rfl ((hat310 0 _ rfl).isP) Tryz.underlying63 rfl Tryz.sizeOf2) fun a S => ?_
      refine lq (.int .i64 x306.2.1) S (q_load1 rfl Tryz.isAgg2 (fun w1 hC => (At.of_add (m := 1) (j := 0) ((hat310 1 _ rfl).ext hC.ext)))) fun a S => ?_
      obtain ⟨x321, e322, hm⟩ := bind_some hm
      refine lx_call (xs := [.tmp 82]) S trivial (by decide) rfl rfl Tryz.call66 ((spec_l01Dec_ok  e322).mono ?_)
      rintro e w319 ⟨rfl, Hc320⟩
      have H := H.call0 Hc320
      refine ⟨_, rfl, H.sel [] (by decide), fun a S => ?_⟩
      obtain ⟨x324, e325, hm⟩ := bind_some hm
      obtain ⟨hle, hcat⟩ := cat_some e325
      subst hcat
      refine lq (sv ((x301 ++ ([58] : Str)) ++ x321)) S (q_cat rfl rfl hle) fun a S => ?_
      obtain ⟨x326, e327, hm⟩ := bind_some hm
      obtain ⟨hle, hcat⟩ := cat_some e327
      subst hcat
      refine lq (sv (((x301 ++ ([58] : Str)) ++ x321) ++ ([58] : Str))) S (q_cat rfl rfl hle) fun a S => ?_
      refine lq p0 S (q_move rfl) fun a S => ?_
      refine lq p0 S (q_nilCheck rfl ((hat33 0 _ rfl).isP)) fun a S => ?_
      refine lq (pAdd p0 3) S (q_fieldAddr' 3 34 rfl ((hat33 0 _ rfl).isP) Tryz.underlying36 rfl Tryz.sizeOf34) fun a S => ?_
      refine lq v36 S (q_load1 rfl Tryz.isAgg34 (fun w1 hC => (At.of_add (m := 3) (j := 0) ((hat33 3 _ rfl).ext hC.ext)))) fun a S => ?_
      refine lq (.int .i64 x189) S (q_move rfl) fun a S => ?_
      obtain ⟨x328, e329, hm⟩ := bind_some hm
      obtain ⟨c330, h331, hat332⟩ := (h37).elem (idx_some e329).2
      obtain ⟨c333, c334, rfl, h335, h336⟩ := h331
      obtain rfl := h335
      obtain ⟨c337, c338, rfl, h339, h340⟩ := h336
      obtain rfl := h339
      obtain rfl := h340
      have hlt := lt_of_idx (idx_some e329).2
      refine lq (ePtr v36 (x189.toNat * 3)) S (q_indexAddr rfl (h37).isSl rfl (idx_some e329).1 hlt Tryz.underlying34 Tryz.sizeOf63) fun a S => ?_
      refine lq (pAdd (ePtr v36 (x189.toNat * 3)) 2) S (q_fieldAddr' 2 2 rfl ((hat332 0 _ rfl).isP) Tryz.underlying63 rfl Tryz.sizeOf2) fun a S => ?_
      refine lq (.int .i64 x328.2.2) S (q_load1 rfl Tryz.isAgg2 (fun w1 hC => (At.of_add (m := 2) (j := 0) ((hat332 2 _ rfl).ext hC.ext)))) fun a S => ?_
      obtain ⟨x343, e344, hm⟩ := bind_some hm
      refine lx_call (xs := [.tmp 93]) S trivial (by decide) rfl rfl Tryz.call66 ((spec_l01Dec_ok  e344).mono ?_)
      rintro e w341 ⟨rfl, Hc342⟩
      have H := H.call0 Hc342
      refine ⟨_, rfl, H.sel [] (by decide), fun a S => ?_⟩
      obtain ⟨x346, e347, hm⟩ := bind_some hm
      obtain ⟨hle, hcat⟩ := cat_some e347
      subst hcat
      refine lq (sv ((((x301 ++ ([58] : Str)) ++ x321) ++ ([58] : Str)) ++ x343)) S (q_cat rfl rfl hle) fun a S => ?_
      obtain ⟨x348, e349, hm⟩ := bind_some hm
      obtain ⟨hle, hcat⟩ := cat_some e349
      subst hcat
      refine lq (sv (x281 ++ ((((x301 ++ ([58] : Str)) ++ x321) ++ ([58] : Str)) ++ x343))) S (q_cat rfl rfl hle) fun a S => ?_
      refine lq (sv (x281 ++ ((((x301 ++ ([58] : Str)) ++ x321) ++ ([58] : Str)) ++ x343))) S (q_assign rfl) fun a S => ?_
      refine lx_nil ?_
      refine inBlock_norm ?_
      refine thenN ?_
      refine region_plain ?_
      refine lq (.int .i64 x189) S (q_move rfl) fun a S => ?_
      refine lq (.int .i64 (W (x189 + (1 : Int)))) S (q_add rfl rfl) fun a S => ?_
      refine lq (.int .i64 (W (x189 + (1 : Int)))) S (q_assign rfl) fun a S => ?_
      refine lx_nil ?_
      exact ⟨m277, Nat.lt_succ_self _, (x281 ++ ((((x301 ++ ([58] : Str)) ++ x321) ++ ([58] : Str)) ++ x343)), (W (x189 + (1 : Int))), S.sub ⟨rfl, rfl, rfl, trivial⟩, H, it_cont hm hc279⟩
     ·skip
      refine wp_seq (region_plain ?_)
      refine lq (.int .i64 x189) S (q_move rfl) fun a S => ?_
      refine lq (.bool (decide ((0 : Int) < x189))) S (q_gtr rfl rfl) fun a S => ?_
      refine lx_nil (thenN ?_)
      refine cond_b S rfl (fun hc350 => ?_) (fun hc350 => ?_)
      ·have hm := ite_t hc350 hm
       refine region_plain ?_
       refine lq (sv x188) S (q_move rfl) fun a S => ?_
       obtain ⟨x351, e352, hm⟩ := bind_some hm
       obtain ⟨hle, hcat⟩ := cat_some e352
       subst hcat
       refine lq (sv (x188 ++ ([32] : Str))) S (q_cat rfl rfl hle) fun a S => ?_
       refine lq (sv (x188 ++ ([32] : Str))) S (q_assign rfl) fun a S => ?_
       refine lx_nil ?_
       exact ⟨(x188 ++ ([32] : Str)), S.sub ⟨rfl, rfl, rfl, trivial⟩, H, hm⟩
      ·have hm := ite_f hc350 hm
       refine wp_skip ?_
       exact ⟨x188, S.sub ⟨rfl, rfl, rfl, trivial⟩, H, hm⟩
    ·have hm := ite_f hc280 hm
     refine wp_exit ?_
     refine then_exit ?_
     refine then_exit ?_
     refine inBlock_exit ?_
     obtain rfl := it_brk hm hc279
     exact ⟨x188, S.sub ⟨rfl, rfl, trivial⟩, H, rfl⟩
  ·skip
   refine wp_seq (region_plain ?_)
   refine lq p0 S (q_move rfl) fun a S => ?_
   refine lq p0 S (q_nilCheck rfl ((hat33 0 _ rfl).isP)) fun a S => ?_
   refine lq (pAdd p0 2) S (q_fieldAddr' 2 28 rfl ((hat33 0 _ rfl).isP) Tryz.underlying36 rfl Tryz.sizeOf28) fun a S => ?_
   refine lx_e v34 S trivial (by decide) rfl trivial (q_load1 rfl Tryz.isAgg28 (by rintro _ rfl; exact (At.of_add (m := 2) (j := 0) ((hat33 2 _ rfl).ext H.ext)))) (fun a S => ?_)
   refine lq (.int .i64 (a0.2.2.1.length : Int)) S (q_lenSl rfl (h35).isSl rfl Tryz.underlying28) fun a S => ?_
   refine lq (.bool ((a0.2.2.1.length : Int) == (1 : Int))) S (q_eql rfl rfl) fun a S => ?_
   refine lx_nil (thenN ?_)
   refine cond_b S rfl (fun hc353 => ?_) (fun hc353 => ?_)
   ·have hm := ite_t hc353 hm
    refine region_plain ?_
    refine lq (sv x102) S (q_move rfl) fun a S => ?_
    obtain ⟨x354, e355, hm⟩ := bind_some hm
    obtain ⟨hle, hcat⟩ := cat_some e355
    subst hcat
    refine lq (sv (x102 ++ ([45] : Str))) S (q_cat rfl rfl hle) fun a S => ?_
    refine lq (sv (x102 ++ ([45] : Str))) S (q_assign rfl) fun a S => ?_
    refine lx_nil ?_
    exact ⟨(x102 ++ ([45] : Str)), S.sub ⟨rfl, rfl, trivial⟩, H, hm⟩
   ·have hm := ite_f hc353 hm
    refine wp_skip ?_
    exact ⟨x102, S.sub ⟨rfl, rfl, trivial⟩, H, hm⟩
 ·skip
  refine loop_ghost (fun n a w => ∃ (x84 : Str) (x85 : Int), Slots a 106 [(0, p0), (3, (sv x84)), (4, (.int .i64 x85))] ∧ Heap w0 [] w ∧ iter f105 n (x84, x85) = some res103) _ ⟨(((x54 ++ ([32] : Str)) ++ x61) ++ ([124] : Str)), (1 : Int), S.sub ⟨rfl, rfl, rfl, trivial⟩, H, hit104⟩ ?_
  rintro n a w ⟨x84, x85, S, H, hit104⟩
  obtain ⟨m356, o357, rfl, hm, hc358⟩ := iter_step hit104
  rw [hf106] at hm
  refine wp_seq (wp_seq (region_plain ?_))
  refine lq (.int .i64 x85) S (q_move rfl) fun a S => ?_
  refine lq p0 S (q_move rfl) fun a S => ?_
  refine lq p0 S (q_nilCheck rfl ((hat33 0 _ rfl).isP)) fun a S => ?_
  refine lq (pAdd p0 2) S (q_fieldAddr' 2 28 rfl ((hat33 0 _ rfl).isP) Tryz.underlying36 rfl Tryz.sizeOf28) fun a S => ?_
  refine lx_e v34 S trivial (by decide) rfl trivial (q_load1 rfl Tryz.isAgg28 (by rintro _ rfl; exact (At.of_add (m := 2) (j := 0) ((hat33 2 _ rfl).ext H.ext)))) (fun a S => ?_)
  refine lq (.int .i64 (a0.2.2.1.length : Int)) S (q_lenSl rfl (h35).isSl rfl Tryz.underlying28) fun a S => ?_
  refine lq (.bool (decide (x85 < (a0.2.2.1.length : Int)))) S (q_lss rfl rfl) fun a S => ?_
  refine lx_nil (thenN ?_)
  refine cond_b S rfl (fun hc359 => ?_) (fun hc359 => ?_)
  ·have hm := ite_t hc359 hm
   refine wp_skip (thenN ?_)
   refine wp_seq ?_
   refine wp_block ?_
   obtain ⟨K361, hK362, hm⟩ := join_elim hm
   refine seq_cut (fun a w => ∃ (x360 : Str), Slots a 106 [(0, p0), (3, (sv x360)), (4, (.int .i64 x85))] ∧ Heap w0 [] w ∧ K361 x360 = some o357) ?_ ?_
   ·rintro a w ⟨x360, S, H, hm⟩
    subst hK362
    refine region_plain ?_
    refine lq (sv x360) S (q_move rfl) fun a S => ?_
    refine lq p0 S (q_move rfl) fun a S => ?_
    refine lq p0 S (q_nilCheck rfl ((hat33 0 _ rfl).isP)) fun a S => ?_
    refine lq (pAdd p0 2) S (q_fieldAddr' 2 28 rfl ((hat33 0 _ rfl).isP) Tryz.underlying36 rfl Tryz.sizeOf28) fun a S => ?_
    refine lx_e v34 S trivial (by decide) rfl trivial (q_load1 rfl Tryz.isAgg28 (by rintro _ rfl; exact (At.of_add (m := 2) (j := 0) ((hat33 2 _ rfl).ext H.ext)))) (fun a S => ?_)
    refine lq (.int .i64 x85) S (q_move rfl) fun a S => ?_
    obtain ⟨x363, e364, hm⟩ := bind_some hm
    obtain ⟨c365, h366, hat367⟩ := (h35).elem (idx_some e364).2
    obtain rfl := h366
    have hlt := lt_of_idx (idx_some e364).2
    refine lq (ePtr v34 (x85.toNat * 1)) S (q_indexAddr rfl (h35).isSl rfl (idx_some e364).1 hlt Tryz.underlying28 Tryz.sizeOf9) fun a S => ?_
    refine lx_e (sv x363) S trivial (by decide) rfl trivial (q_load1 rfl Tryz.isAgg9 (by rintro _ rfl; exact ((hat367 0 _ rfl).ext H.ext))) (fun a S => ?_)
    obtain ⟨x368, e369, hm⟩ := bind_some hm
    obtain ⟨hle, hcat⟩ := cat_some e369
    subst hcat
    refine lq (sv (x360 ++ x363)) S (q_cat rfl rfl hle) fun a S => ?_
    refine lq (sv (x360 ++ x363)) S (q_assign rfl) fun a S => ?_
    refine lx_nil ?_
    refine inBlock_norm ?_
    refine thenN ?_
    refine region_plain ?_
    refine lq (.int .i64 x85) S (q_move rfl) fun a S => ?_
    refine lq (.int .i64 (W (x85 + (1 : Int)))) S (q_add rfl rfl) fun a S => ?_
    refine lq (.int .i64 (W (x85 + (1 : Int)))) S (q_assign rfl) fun a S => ?_
    refine lx_nil ?_
    exact ⟨m356, Nat.lt_succ_self _, (x360 ++ x363), (W (x85 + (1 : Int))), S.sub ⟨rfl, rfl, rfl, trivial⟩, H, it_cont hm hc358⟩
   ·skip
    refine wp_seq (region_plain ?_)
    refine lq (.int .i64 x85) S (q_move rfl) fun a S => ?_
    refine lq (.bool (decide ((1 : Int) < x85))) S (q_gtr rfl rfl) fun a S => ?_
    refine lx_nil (thenN ?_)
    refine cond_b S rfl (fun hc370 => ?_) (fun hc370 => ?_)
    ·have hm := ite_t hc370 hm
     refine region_plain ?_
     refine lq (sv x84) S (q_move rfl) fun a S => ?_
     obtain ⟨x371, e372, hm⟩ := bind_some hm
     obtain ⟨hle, hcat⟩ := cat_some e372
     subst hcat
     refine lq (sv (x84 ++ ([32] : Str))) S (q_cat rfl rfl hle) fun a S => ?_
     refine lq (sv (x84 ++ ([32] : Str))) S (q_assign rfl) fun a S => ?_
     refine lx_nil ?_
     exact ⟨(x84 ++ ([32] : Str)), S.sub ⟨rfl, rfl, rfl, trivial⟩, H, hm⟩
    ·have hm := ite_f hc370 hm
     refine wp_skip ?_
     exact ⟨x84, S.sub ⟨rfl, rfl, rfl, trivial⟩, H, hm⟩
  ·have hm := ite_f hc359 hm
   refine wp_exit ?_
   refine then_exit ?_
   refine then_exit ?_
   refine inBlock_exit ?_
   obtain rfl := it_brk hm hc358
   exact ⟨x84, S.sub ⟨rfl, rfl, trivial⟩, H, rfl⟩

/-- spec.LtsText -/
def spec_LtsText_m (fuel : Nat) (a0 : Timpl_Lts) : Option (Str) :=
  (spec_l11Is_m fuel (a0.1, a0.2.1, a0.2.2.1, a0.2.2.2)).bind fun x54 => (if (!x54) = true then some (([] : Str)) else (spec_l11Text_m fuel (a0.1, a0.2.1, a0.2.2.1, a0.2.2.2)).bind fun x60 => some (x60))
set_option maxRecDepth 20000 in
theorem spec_LtsText_ok {w0 : World} {fuel : Nat} {p0 : Value} {a0 : Timpl_Lts} {r : Str} (h0 : Rd Rimpl_Lts w0 p0 a0) (hm : spec_LtsText_m fuel a0 = some r) :
  Calls Tryz.prog 12 #[p0] w0 fun e w => e = .returned (sv r) ∧ Heap w0 [] w := by
 unfold spec_LtsText_m at hm
 have H := Heap.start w0
 obtain ⟨c31, rfl, h32⟩ := h0
 obtain ⟨c37, c38, rfl, h39, h40⟩ := h32
 obtain rfl := h39
 obtain ⟨c41, c42, rfl, h43, h44⟩ := h40
 obtain rfl := h43
 obtain ⟨c45, c46, rfl, h47, h48⟩ := h44
 obtain ⟨v33, rfl, h34⟩ := rd_list h47
 obtain ⟨v35, rfl, h36⟩ := rd_list h48
 refine enter (args := [(.agg #[(.int .i64 a0.1), (.int .i64 a0.2.1), v33, v35])]) Tryz.func12 rfl 6 rfl (Nat.le_of_ble_eq_true rfl) (fun a S => ?_)
 refine wp_seq (region_plain ?_)
 refine lx_box S trivial (by decide) rfl H rfl rfl (fun b49 w50 H => ⟨trivial, fun a S => ?_⟩)
 refine lq (sv ([] : Str)) S (q_assign rfl) fun a S => ?_
 refine lx_nil (thenN ?_)
 refine wp_seq (wp_seq (region_plain ?_))
 obtain ⟨x54, e55, hm⟩ := bind_some hm
 refine lx_call (xs := [.tmp 1]) S trivial (by decide) rfl rfl Tryz.call33 ((spec_l11Is_ok (rdPtr_box H 0 rfl ⟨[(.int .i64 a0.1)], [(.int .i64 a0.2.1), v33, v35], rfl, rfl, ⟨[(.int .i64 a0.2.1)], [v33, v35], rfl, rfl, ⟨[v33], [v35], rfl, ((H.arg h34)).list_rd, ((H.arg h36)).list_rd⟩⟩⟩) e55).mono ?_)
 rintro e w52 ⟨rfl, Hc53⟩
 have H := H.call0 Hc53
 refine ⟨_, rfl, trivial, fun a S => ?_⟩
 refine lq (.bool (!x54)) S (q_not rfl) fun a S => ?_
 refine lx_nil (thenN ?_)
 refine cond_b S rfl (fun hc57 => ?_) (fun hc57 => ?_)
 ·have hm := ite_t hc57 hm
  refine wp_seq (region_plain ?_)
  refine lq (sv ([] : Str)) S (q_assign rfl) fun a S => ?_
  refine lx_nil (thenN ?_)
  refine wp_ret (then_ret ?_)
  obtain rfl := Option.some.inj hm
  have H : Heap w0 [] w52 := H.sel [] (by decide)
  exact leave1 S rfl rfl ⟨rfl, H⟩
 ·have hm := ite_f hc57 hm
  refine wp_skip (thenN ?_)
  refine wp_seq (region_plain ?_)
  obtain ⟨x60, e61, hm⟩ := bind_some hm
  refine lx_call (xs := [.tmp 1]) S trivial (by decide) rfl rfl Tryz.call34 ((spec_l11Text_ok (rdPtr_box H 0 rfl ⟨[(.int .i64 a0.1)], [(.int .i64 a0.2.1), v33, v35], rfl, rfl, ⟨[(.int .i64 a0.2.1)], [v33, v35], rfl, rfl, ⟨[v33], [v35], rfl, ((H.arg h34)).list_rd, ((H.arg h36)).list_rd⟩⟩⟩) e61).mono ?_)
  rintro e w58 ⟨rfl, Hc59⟩
  have H := H.call0 Hc59
  refine ⟨_, rfl, trivial, fun a S => ?_⟩
  refine lq (sv x60) S (q_assign rfl) fun a S => ?_
  refine lx_nil (thenN ?_)
  refine wp_ret ?_
  obtain rfl := Option.some.inj hm
  have H : Heap w0 [] w58 := H.sel [] (by decide)
  exact leave1 S rfl rfl ⟨rfl, H⟩

/-- laws.FnExactLtsText -/
def laws_FnExactLtsText_m (fuel : Nat) (a0 : Tlaws_Lts) : Option (Bool) :=
  (laws_szLts_m fuel (a0.1, a0.2.1, a0.2.2.1, a0.2.2.2) (1048576 : Int)).bind fun x54 => (if (decide (x54 < (0 : Int))) = true then some (true) else (laws_toLts_m fuel (a0.1, a0.2.1, a0.2.2.1, a0.2.2.2)).bind fun x60 => (spec_LtsText_m fuel (x60.1, x60.2.1, x60.2.2.1, x60.2.2.2)).bind fun x69 => (laws_toLts_m fuel (a0.1, a0.2.1, a0.2.2.1, a0.2.2.2)).bind fun x74 => (impl_LtsText_m fuel (x74.1, x74.2.1, x74.2.2.1, x74.2.2.2)).bind fun x87 => (if (x87 != x69) = true then some (false) else (laws_toLts_m fuel (a0.1, a0.2.1, a0.2.2.1, a0.2.2.2)).bind fun x95 => (laws_eqLts_m fuel (x74.1, x74.2.1, x74.2.2.1, x74.2.2.2) (x95.1, x95.2.1, x95.2.2.1, x95.2.2.2)).bind fun x104 => (if (!x104) = true then some (false) else some (true))))
set_option maxRecDepth 20000 in
theorem laws_FnExactLtsText_ok {w0 : World} {fuel : Nat} {p0 : Value} {a0 : Tlaws_Lts} {r : Bool} (hG : GlobE Tryz.prog w0) (h0 : Rd Rlaws_Lts w0 p0 a0) (hm : laws_FnExactLtsText_m fuel a0 = some r) :
  Calls Tryz.prog 4 #[p0] w0 fun e w => e = .returned (.bool r) ∧ Heap w0 [] w := by
 unfold laws_FnExactLtsText_m at hm
 have H := Heap.start w0
 obtain ⟨c31, rfl, h32⟩ := h0
 obtain ⟨c37, c38, rfl, h39, h40⟩ := h32
 obtain rfl := h39
 obtain ⟨c41, c42, rfl, h43, h44⟩ := h40
 obtain rfl := h43
 obtain ⟨c45, c46, rfl, h47, h48⟩ := h44
 obtain ⟨v33, rfl, h34⟩ := rd_list h47
 obtain ⟨v35, rfl, h36⟩ := rd_list h48
 refine enter (args := [(.agg #[(.int .i64 a0.1), (.int .i64 a0.2.1), v33, v35])]) Tryz.func4 rfl 27 rfl (Nat.le_of_ble_eq_true rfl) (fun a S => ?_)
 refine wp_seq (region_plain ?_)
 refine lx_box S trivial (by decide) rfl H rfl rfl (fun b49 w50 H => ⟨trivial, fun a S => ?_⟩)
 refine lq (.bool false) S (q_assign rfl) fun a S => ?_
 refine lx_nil (thenN ?_)
 refine wp_seq (region_plain ?_)
 refine lq (.int .i64 (1048576 : Int)) S (q_assign rfl) fun a S => ?_
 refine lx_nil (thenN ?_)
 refine wp_seq (region_plain ?_)
 refine lx_e (.agg #[(.int .i64 a0.1), (.int .i64 a0.2.1), v33, v35]) S trivial (by decide) rfl trivial (q_loadA (cs := [(.int .i64 a0.1), (.int .i64 a0.2.1), v33, v35]) rfl (isP_bp _) Tryz.isAgg31 Tryz.sizeOf31 (by rintro _ rfl; exact (fun j u hu => boxAt (i := 0) H rfl hu))) (fun a S => ?_)
 refine lq (.int .i64 (1048576 : Int)) S (q_move rfl) fun a S => ?_
 obtain ⟨x54, e55, hm⟩ := bind_some hm
 refine lx_call (xs := [.tmp 7, .tmp 8]) S trivial (by decide) rfl rfl Tryz.call11 ((laws_szLts_ok ⟨[(.int .i64 a0.1), (.int .i64 a0.2.1), v33, v35], rfl, ⟨[(.int .i64 a0.1)], [(.int .i64 a0.2.1), v33, v35], rfl, rfl, ⟨[(.int .i64 a0.2.1)], [v33, v35], rfl, rfl, ⟨[v33], [v35], rfl, ((H.arg h34)).list_rd, ((H.arg h36)).list_rd⟩⟩⟩⟩  e55).mono ?_)
 rintro e w52 ⟨rfl, Hc53⟩
 have H := H.call0 Hc53
 refine ⟨_, rfl, trivial, fun a S => ?_⟩
 refine lq (.int .i64 x54) S (q_assign rfl) fun a S => ?_
 refine lx_nil (thenN ?_)
 refine wp_seq (wp_seq (region_plain ?_))
 refine lq (.int .i64 x54) S (q_move rfl) fun a S => ?_
 refine lq (.bool (decide (x54 < (0 : Int)))) S (q_lss rfl rfl) fun a S => ?_
 refine lx_nil (thenN ?_)
 refine cond_b S rfl (fun hc57 => ?_) (fun hc57 => ?_)
 ·have hm := ite_t hc57 hm
  refine wp_seq (region_plain ?_)
  refine lq (.bool true) S (q_assign rfl) fun a S => ?_
  refine lx_nil (thenN ?_)
  refine wp_ret (then_ret ?_)
  obtain rfl := Option.some.inj hm
  have H : Heap w0 [] w52 := H.sel [] (by decide)
  exact leave1 S rfl rfl ⟨rfl, H⟩
 ·have hm := ite_f hc57 hm
  refine wp_skip (thenN ?_)
  refine wp_seq (region_plain ?_)
  refine lx_e (.agg #[(.int .i64 a0.1), (.int .i64 a0.2.1), v33, v35]) S trivial (by decide) rfl trivial (q_loadA (cs := [(.int .i64 a0.1), (.int .i64 a0.2.1), v33, v35]) rfl (isP_bp _) Tryz.isAgg31 Tryz.sizeOf31 (by rintro _ rfl; exact (fun j u hu => boxAt (i := 0) H rfl hu))) (fun a S => ?_)
  obtain ⟨x60, e61, hm⟩ := bind_some hm
  refine lx_call (xs := [.tmp 12]) S trivial (by decide) rfl rfl Tryz.call13 ((laws_toLts_ok ⟨[(.int .i64 a0.1), (.int .i64 a0.2.1), v33, v35], rfl, ⟨[(.int .i64 a0.1)], [(.int .i64 a0.2.1), v33, v35], rfl, rfl, ⟨[(.int .i64 a0.2.1)], [v33, v35], rfl, rfl, ⟨[v33], [v35], rfl, ((H.arg h34)).list_rd, ((H.arg h36)).list_rd⟩⟩⟩⟩ e61).mono ?_)
  rintro e w58 ⟨v62, v63, rfl, Hc59⟩
  have H := H.call2 Hc59
  refine ⟨_, rfl, trivial, fun a S => ?_⟩
  obtain ⟨x69, e70, hm⟩ := bind_some hm
  refine lx_call (xs := [.tmp 13]) S trivial (by decide) rfl rfl Tryz.call12 ((spec_LtsText_ok ⟨[(.int .i64 x60.1), (.int .i64 x60.2.1), v62, v63], rfl, ⟨[(.int .i64 x60.1)], [(.int .i64 x60.2.1), v62, v63], rfl, rfl, ⟨[(.int .i64 x60.2.1)], [v62, v63], rfl, rfl, ⟨[v62], [v63], rfl, ((H.rdAt 0 rfl)).list_rd, ((H.rdAt 1 rfl)).list_rd⟩⟩⟩⟩ e70).mono ?_)
  rintro e w67 ⟨rfl, Hc68⟩
  have H := H.call0 Hc68
  refine ⟨_, rfl, trivial, fun a S => ?_⟩
  refine lq (sv x69) S (q_assign rfl) fun a S => ?_
  refine lx_nil (thenN ?_)
  refine wp_seq (region_plain ?_)
  refine lx_e (.agg #[(.int .i64 a0.1), (.int .i64 a0.2.1), v33, v35]) S trivial (by decide) rfl trivial (q_loadA (cs := [(.int .i64 a0.1), (.int .i64 a0.2.1), v33, v35]) rfl (isP_bp _) Tryz.isAgg31 Tryz.sizeOf31 (by rintro _ rfl; exact (fun j u hu => boxAt (i := 2) H rfl hu))) (fun a S => ?_)
  obtain ⟨x74, e75, hm⟩ := bind_some hm
  refine lx_call (xs := [.tmp 15]) S trivial (by decide) rfl rfl Tryz.call13 ((laws_toLts_ok ⟨[(.int .i64 a0.1), (.int .i64 a0.2.1), v33, v35], rfl, ⟨[(.int .i64 a0.1)], [(.int .i64 a0.2.1), v33, v35], rfl, rfl, ⟨[(.int .i64 a0.2.1)], [v33, v35], rfl, rfl, ⟨[v33], [v35], rfl, ((H.arg h34)).list_rd, ((H.arg h36)).list_rd⟩⟩⟩⟩ e75).mono ?_)
  rintro e w72 ⟨v76, v77, rfl, Hc73⟩
  have H := H.call2 Hc73
  refine ⟨_, rfl, trivial, fun a S => ?_⟩
  refine lx_alloc S trivial (by decide) rfl H Tryz.zeroValue36 rfl (fun b81 w82 H => ⟨trivial, fun a S => ?_⟩)
  refine lx_storeBox (o := 0) (i := 0) (us := [(.int .i64 x74.1), (.int .i64 x74.2.1), v76, v77]) (cs' := [(.int .i64 x74.1), (.int .i64 x74.2.1), v76, v77]) S trivial rfl H rfl rfl rfl rfl Tryz.sizeOf36 (Nat.le_of_ble_eq_true rfl) (List.forall_mem_cons.2 ⟨rfl, (List.forall_mem_cons.2 ⟨rfl, (List.forall_mem_cons.2 ⟨one_sl (H.isSl 1 rfl), (List.forall_mem_cons.2 ⟨one_sl (H.isSl 2 rfl), (fun _ h => nomatch h)⟩)⟩)⟩)⟩) rfl (fun w84 H => ⟨trivial, fun a S => ?_⟩)
  change Heap w0 [bA b81 [(.int .i64 x74.1), (.int .i64 x74.2.1), v76, v77] 36, oA (rList rStr) v76 x74.2.2.1, oA (rList Rimpl_Edge) v77 x74.2.2.2, oA (rList rStr) v62 x60.2.2.1, oA (rList Rimpl_Edge) v63 x60.2.2.2, bA b49 [(.int .i64 a0.1), (.int .i64 a0.2.1), v33, v35] 31] w84 at H
  refine lx_nil (thenN ?_)
  refine wp_seq (region_plain ?_)
  refine lx_e (.agg #[(.int .i64 x74.1), (.int .i64 x74.2.1), v76, v77]) S trivial (by decide) rfl trivial (q_loadA (cs := [(.int .i64 x74.1), (.int .i64 x74.2.1), v76, v77]) rfl (isP_bp _) Tryz.isAgg36 Tryz.sizeOf36 (by rintro _ rfl; exact (fun j u hu => boxAt (i := 0) H rfl hu))) (fun a S => ?_)
  obtain ⟨x87, e88, hm⟩ := bind_some hm
  refine lx_call (xs := [.tmp 17]) S trivial (by decide) rfl rfl Tryz.call14 ((impl_LtsText_ok (hG.ext H.ext) ⟨[(.int .i64 x74.1), (.int .i64 x74.2.1), v76, v77], rfl, ⟨[(.int .i64 x74.1)], [(.int .i64 x74.2.1), v76, v77], rfl, rfl, ⟨[(.int .i64 x74.2.1)], [v76, v77], rfl, rfl, ⟨[v76], [v77], rfl, ((H.rdAt 1 rfl)).list_rd, ((H.rdAt 2 rfl)).list_rd⟩⟩⟩⟩ e88).mono ?_)
  rintro e w85 ⟨rfl, Hc86⟩
  have H := H.call0 Hc86
  refine ⟨_, rfl, trivial, fun a S => ?_⟩
  refine lq (sv x87) S (q_assign rfl) fun a S => ?_
  refine lx_nil (thenN ?_)
  refine wp_seq (wp_seq (region_plain ?_))
  refine lq (sv x87) S (q_move rfl) fun a S => ?_
  refine lq (sv x69) S (q_move rfl) fun a S => ?_
  refine lq (.bool (x87 != x69)) S (q_sneq rfl rfl) fun a S => ?_
  refine lx_nil (thenN ?_)
  refine cond_b S rfl (fun hc90 => ?_) (fun hc90 => ?_)
  ·have hm := ite_t hc90 hm
   refine wp_seq (region_plain ?_)
   refine lq (.bool false) S (q_assign rfl) fun a S => ?_
   refine lx_nil (thenN ?_)
   refine wp_ret (then_ret ?_)
   obtain rfl := Option.some.inj hm
   have H : Heap w0 [] w85 := H.sel [] (by decide)
   exact leave1 S rfl rfl ⟨rfl, H⟩
  ·have hm := ite_f hc90 hm
   refine wp_skip (thenN ?_)
   refine wp_seq ?_
   refine wp_seq ?_
   refine region_drawG (fun w1 => Heap w0 [bA b81 [(.int .i64 x74.1), (.int .i64 x74.2.1), v76, v77] 36, bA b49 [(.int .i64 a0.1), (.int .i64 a0.2.1), v33, v35] 31] w1) (fun i => [2, 3].contains i) mixed (by kernel_rfl) (fun w92 he91 => ?_)
   have H := H.later he91
   refine ⟨H.sel [0, 5] (by decide), ?_⟩
   refine lq (.agg #[(.int .i64 x74.1), (.int .i64 x74.2.1), v76, v77]) S (q_loadA (cs := [(.int .i64 x74.1), (.int .i64 x74.2.1), v76, v77]) rfl (isP_bp _) Tryz.isAgg36 Tryz.sizeOf36 (fun w1 hC => (fun j u hu => boxAt (i := 0) hC rfl hu))) fun a S => ?_
   refine lq (.agg #[(.int .i64 a0.1), (.int .i64 a0.2.1), v33, v35]) S (q_loadA (cs := [(.int .i64 a0.1), (.int .i64 a0.2.1), v33, v35]) rfl (isP_bp _) Tryz.isAgg31 Tryz.sizeOf31 (fun w1 hC => (fun j u hu => boxAt (i := 1) hC rfl hu))) fun a S => ?_
   obtain ⟨x95, e96, hm⟩ := bind_some hm
   refine lx_call (xs := [.tmp 23]) S trivial (by decide) rfl rfl Tryz.call13 ((laws_toLts_ok ⟨[(.int .i64 a0.1), (.int .i64 a0.2.1), v33, v35], rfl, ⟨[(.int .i64 a0.1)], [(.int .i64 a0.2.1), v33, v35], rfl, rfl, ⟨[(.int .i64 a0.2.1)], [v33, v35], rfl, rfl, ⟨[v33], [v35], rfl, ((H.arg h34)).list_rd, ((H.arg h36)).list_rd⟩⟩⟩⟩ e96).mono ?_)
   rintro e w93 ⟨v97, v98, rfl, Hc94⟩
   have H := H.call2 Hc94
   refine ⟨_, rfl, H.sel [2, 7] (by decide), fun a S => ?_⟩
   obtain ⟨x104, e105, hm⟩ := bind_some hm
   refine lx_call (xs := [.tmp 22, .tmp 24]) S trivial (by decide) rfl rfl Tryz.call15 ((laws_eqLts_ok ⟨[(.int .i64 x74.1), (.int .i64 x74.2.1), v76, v77], rfl, ⟨[(.int .i64 x74.1)], [(.int .i64 x74.2.1), v76, v77], rfl, rfl, ⟨[(.int .i64 x74.2.1)], [v76, v77], rfl, rfl, ⟨[v76], [v77], rfl, ((H.rdAt 3 rfl)).list_rd, ((H.rdAt 4 rfl)).list_rd⟩⟩⟩⟩ ⟨[(.int .i64 x95.1), (.int .i64 x95.2.1), v97, v98], rfl, ⟨[(.int .i64 x95.1)], [(.int .i64 x95.2.1), v97, v98], rfl, rfl, ⟨[(.int .i64 x95.2.1)], [v97, v98], rfl, rfl, ⟨[v97], [v98], rfl, ((H.rdAt 0 rfl)).list_rd, ((H.rdAt 1 rfl)).list_rd⟩⟩⟩⟩ e105).mono ?_)
   rintro e w102 ⟨rfl, Hc103⟩
   have H := H.call0 Hc103
   refine ⟨_, rfl, H.sel [2, 7] (by decide), fun a S => ?_⟩
   refine lq (.bool (!x104)) S (q_not rfl) fun a S => ?_
   refine lx_nil (thenN ?_)
   refine cond_b S rfl (fun hc107 => ?_) (fun hc107 => ?_)
   ·have hm := ite_t hc107 hm
    refine wp_seq (region_plain ?_)
    refine lq (.bool false) S (q_assign rfl) fun a S => ?_
    refine lx_nil (thenN ?_)
    refine wp_ret (then_ret ?_)
    obtain rfl := Option.some.inj hm
    have H : Heap w0 [] w102 := H.sel [] (by decide)
    exact leave1 S rfl rfl ⟨rfl, H⟩
   ·have hm := ite_f hc107 hm
    refine wp_skip (thenN ?_)
    refine wp_seq (region_plain ?_)
    refine lq (.bool true) S (q_assign rfl) fun a S => ?_
    refine lx_nil (thenN ?_)
    refine wp_ret ?_
    obtain rfl := Option.some.inj hm
    have H : Heap w0 [] w102 := H.sel [] (by decide)
    exact leave1 S rfl rfl ⟨rfl, H⟩
end Go.Proofs.YtepcckhcocjgaaaGreatDoor
