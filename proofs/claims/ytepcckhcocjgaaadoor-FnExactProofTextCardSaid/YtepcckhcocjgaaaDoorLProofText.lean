/- The model of a statement and its walk (printed by a program of this repo). -/
import Derived.Test.YtepcckhcocjgaaaDoorF0
import Derived.Test.YtepcckhcocjgaaaDoorF2
import Derived.Test.YtepcckhcocjgaaaDoorGxT
import Derived.Test.YtepcckhcocjgaaaDoorGxY
namespace Go.Proofs.YtepcckhcocjgaaaDoor
open Go.RowKit Go.Gx

/-- laws.szInt64SS -/
def laws_szInt64SS_m (fuel : Nat) (a0 : (List (List Int))) (a1 : Int) : Option (Int) :=
  (if (decide ((W (a1 - (a0.length : Int))) < (0 : Int))) = true then some ((-1 : Int)) else (iter (fun (s : (Int) × (Int)) => (match s with | (x48, x49) => (if (decide (x49 < (a0.length : Int))) = true then (idx a0 x49).bind fun x76 => (laws_szInt64S_m fuel x76 x48).bind fun x85 => (if (decide (x85 < (0 : Int))) = true then some (.inr (.inr (-1 : Int))) else some (.inl (x85, (W (x49 + (1 : Int)))))) else some (.inr (.inl (x48)))) : Option (((Int) × (Int)) ⊕ ((Int) ⊕ (Int))))) fuel ((W (a1 - (a0.length : Int))), (0 : Int))).bind fun res67 => ctl (β := Int) (ρ := Int) (τ := Int) res67 (fun (x66) => some (x66)) (fun q => some (q)))
set_option maxRecDepth 20000 in
theorem laws_szInt64SS_ok {w0 : World} {fuel : Nat} {p0 : Value} {a0 : (List (List Int))} {a1 : Int} {r : Int} (h0 : Rd (rList (rList (rInt .i64))) w0 p0 a0) (hm : laws_szInt64SS_m fuel a0 a1 = some r) :
  Calls Tryd.prog 20 #[p0, .int .i64 a1] w0 fun e w => e = .returned (.int .i64 r) ∧ Heap w0 [] w := by
 unfold laws_szInt64SS_m at hm
 have H := Heap.start w0
 refine enter (args := [p0, .int .i64 a1]) Tryd.func20 rfl 27 rfl (Nat.le_of_ble_eq_true rfl) (fun a S => ?_)
 refine wp_seq (region_plain ?_)
 refine lq (.int .i64 (0 : Int)) S (q_assign rfl) fun a S => ?_
 refine lx_nil (thenN ?_)
 refine wp_seq (region_plain ?_)
 refine lq (.int .i64 a1) S (q_move rfl) fun a S => ?_
 refine lq p0 S (q_move rfl) fun a S => ?_
 refine lq (.int .i64 (a0.length : Int)) S (q_lenSl rfl (h0).isSl rfl Tryd.underlying22) fun a S => ?_
 refine lq (.int .i64 (W (a1 - (a0.length : Int)))) S (q_sub rfl rfl) fun a S => ?_
 refine lq (.int .i64 (W (a1 - (a0.length : Int)))) S (q_assign rfl) fun a S => ?_
 refine lx_nil (thenN ?_)
 refine wp_seq (wp_seq (region_plain ?_))
 refine lq (.int .i64 (W (a1 - (a0.length : Int)))) S (q_move rfl) fun a S => ?_
 refine lq (.bool (decide ((W (a1 - (a0.length : Int))) < (0 : Int)))) S (q_lss rfl rfl) fun a S => ?_
 refine lx_nil (thenN ?_)
 refine cond_b S rfl (fun hc31 => ?_) (fun hc31 => ?_)
 ·have hm := ite_t hc31 hm
  refine wp_seq (region_plain ?_)
  refine lq (.int .i64 (-1 : Int)) S (q_assign rfl) fun a S => ?_
  refine lx_nil (thenN ?_)
  refine wp_ret (then_ret ?_)
  obtain rfl := Option.some.inj hm
  exact leave1 S rfl rfl ⟨rfl, H⟩
 ·have hm := ite_f hc31 hm
  refine wp_skip (thenN ?_)
  refine wp_seq (wp_seq (region_plain ?_))
  refine lq (.int .i64 (0 : Int)) S (q_assign rfl) fun a S => ?_
  refine lx_nil (thenN ?_)
  obtain ⟨res67, hit68, hk71⟩ := bind_some hm
  obtain ⟨f69, hf70, hit68⟩ := iter_name hit68
  refine block_loop (fun a w => ∃ (x66 : Int), Slots a 27 [(1, (.int .i64 x66))] ∧ Heap w0 [] w ∧ res67 = .inl (x66)) ?_ ?_
  ·rintro a w ⟨x66, S, H, rfl⟩
   have hm := ctl_inl hk71
   refine thenN ?_
   refine wp_seq (region_plain ?_)
   refine lq (.int .i64 x66) S (q_move rfl) fun a S => ?_
   refine lq (.int .i64 x66) S (q_assign rfl) fun a S => ?_
   refine lx_nil (thenN ?_)
   refine wp_ret ?_
   obtain rfl := Option.some.inj hm
   exact leave1 S rfl rfl ⟨rfl, H⟩
  ·skip
   refine loop_ghost (fun n a w => ∃ (x48 : Int) (x49 : Int), Slots a 27 [(0, p0), (1, (.int .i64 x48)), (5, (.int .i64 x49))] ∧ Heap w0 [] w ∧ iter f69 n (x48, x49) = some res67) _ ⟨(W (a1 - (a0.length : Int))), (0 : Int), S.sub ⟨rfl, rfl, rfl, trivial⟩, H, hit68⟩ ?_
   rintro n a w ⟨x48, x49, S, H, hit68⟩
   obtain ⟨m72, o73, rfl, hm, hc74⟩ := iter_step hit68
   rw [hf70] at hm
   refine wp_seq (wp_seq (region_plain ?_))
   refine lq (.int .i64 x49) S (q_move rfl) fun a S => ?_
   refine lq p0 S (q_move rfl) fun a S => ?_
   refine lq (.int .i64 (a0.length : Int)) S (q_lenSl rfl (h0).isSl rfl Tryd.underlying22) fun a S => ?_
   refine lq (.bool (decide (x49 < (a0.length : Int)))) S (q_lss rfl rfl) fun a S => ?_
   refine lx_nil (thenN ?_)
   refine cond_b S rfl (fun hc75 => ?_) (fun hc75 => ?_)
   ·have hm := ite_t hc75 hm
    refine wp_skip (thenN ?_)
    refine wp_seq ?_
    refine wp_block ?_
    refine wp_seq (region_plain ?_)
    refine lq p0 S (q_move rfl) fun a S => ?_
    refine lq (.int .i64 x49) S (q_move rfl) fun a S => ?_
    obtain ⟨x76, e77, hm⟩ := bind_some hm
    obtain ⟨c78, h79, hat80⟩ := (h0).elem (idx_some e77).2
    obtain ⟨v81, rfl, h82⟩ := rd_list h79
    have hlt := lt_of_idx (idx_some e77).2
    refine lq (ePtr p0 (x49.toNat * 1)) S (q_indexAddr rfl (h0).isSl rfl (idx_some e77).1 hlt Tryd.underlying22 Tryd.sizeOf48) fun a S => ?_
    refine lx_e v81 S trivial (by decide) rfl trivial (q_load1 rfl Tryd.isAgg48 (by rintro _ rfl; exact ((hat80 0 _ rfl).ext H.ext))) (fun a S => ?_)
    refine lq (.int .i64 x48) S (q_move rfl) fun a S => ?_
    obtain ⟨x85, e86, hm⟩ := bind_some hm
    refine lx_call (xs := [.tmp 21, .tmp 22]) S trivial (by decide) rfl rfl Tryd.call45 ((laws_szInt64S_ok (H.arg h82)  e86).mono ?_)
    rintro e w83 ⟨rfl, Hc84⟩
    have H := H.call0 Hc84
    refine ⟨_, rfl, trivial, fun a S => ?_⟩
    refine lq (.int .i64 x85) S (q_assign rfl) fun a S => ?_
    refine lx_nil (thenN ?_)
    refine wp_seq (region_plain ?_)
    refine lq (.int .i64 x85) S (q_move rfl) fun a S => ?_
    refine lq (.bool (decide (x85 < (0 : Int)))) S (q_lss rfl rfl) fun a S => ?_
    refine lx_nil (thenN ?_)
    refine cond_b S rfl (fun hc88 => ?_) (fun hc88 => ?_)
    ·have hm := ite_t hc88 hm
     refine wp_seq (region_plain ?_)
     refine lq (.int .i64 (-1 : Int)) S (q_assign rfl) fun a S => ?_
     refine lx_nil (thenN ?_)
     refine wp_ret (inBlock_ret ?_)
     refine then_ret ?_
     refine then_ret ?_
     refine inBlock_ret ?_
     refine then_ret ?_
     refine then_ret ?_
     obtain rfl := it_brk hm hc74
     have hm := ctl_inr hk71
     obtain rfl := Option.some.inj hm
     exact leave1 S rfl rfl ⟨rfl, H⟩
    ·have hm := ite_f hc88 hm
     refine wp_skip ?_
     refine inBlock_norm ?_
     refine thenN ?_
     refine region_plain ?_
     refine lq (.int .i64 x49) S (q_move rfl) fun a S => ?_
     refine lq (.int .i64 (W (x49 + (1 : Int)))) S (q_add rfl rfl) fun a S => ?_
     refine lq (.int .i64 (W (x49 + (1 : Int)))) S (q_assign rfl) fun a S => ?_
     refine lx_nil ?_
     exact ⟨m72, Nat.lt_succ_self _, x85, (W (x49 + (1 : Int))), S.sub ⟨rfl, rfl, rfl, trivial⟩, H, it_cont hm hc74⟩
   ·have hm := ite_f hc75 hm
    refine wp_exit ?_
    refine then_exit ?_
    refine then_exit ?_
    refine inBlock_exit ?_
    obtain rfl := it_brk hm hc74
    exact ⟨x48, S.sub ⟨rfl, trivial⟩, H, rfl⟩

/-- laws.szProof -/
def laws_szProof_m (fuel : Nat) (a0 : Tlaws_Proof) (a1 : Int) : Option (Int) :=
  (laws_szInt64SS_m fuel a0.2 a1).bind fun x44 => (if (decide (x44 < (0 : Int))) = true then some ((-1 : Int)) else some (x44))
set_option maxRecDepth 20000 in
theorem laws_szProof_ok {w0 : World} {fuel : Nat} {p0 : Value} {a0 : Tlaws_Proof} {a1 : Int} {r : Int} (h0 : Rd Rlaws_Proof w0 p0 a0) (hm : laws_szProof_m fuel a0 a1 = some r) :
  Calls Tryd.prog 6 #[p0, .int .i64 a1] w0 fun e w => e = .returned (.int .i64 r) ∧ Heap w0 [] w := by
 unfold laws_szProof_m at hm
 have H := Heap.start w0
 obtain ⟨c31, rfl, h32⟩ := h0
 obtain ⟨c35, c36, rfl, h37, h38⟩ := h32
 obtain rfl := h37
 obtain ⟨v33, rfl, h34⟩ := rd_list h38
 refine enter (args := [(.agg #[(.bool a0.1), v33]), .int .i64 a1]) Tryd.func6 rfl 12 rfl (Nat.le_of_ble_eq_true rfl) (fun a S => ?_)
 refine wp_seq (region_plain ?_)
 refine lx_box S trivial (by decide) rfl H rfl rfl (fun b39 w40 H => ⟨trivial, fun a S => ?_⟩)
 refine lq (.int .i64 (0 : Int)) S (q_assign rfl) fun a S => ?_
 refine lx_nil (thenN ?_)
 refine wp_seq (region_plain ?_)
 refine lq (pAdd (bp b39) 1) S (q_fieldAddr' 1 22 rfl (isP_bp _) Tryd.underlying24 rfl Tryd.sizeOf22) fun a S => ?_
 refine lx_e v33 S trivial (by decide) rfl trivial (q_load1 rfl Tryd.isAgg22 (by rintro _ rfl; exact (At.of_add (m := 1) (j := 0) (boxAt (i := 0) H rfl (j := 1) rfl)))) (fun a S => ?_)
 refine lq (.int .i64 a1) S (q_move rfl) fun a S => ?_
 obtain ⟨x44, e45, hm⟩ := bind_some hm
 refine lx_call (xs := [.tmp 6, .tmp 7]) S trivial (by decide) rfl rfl Tryd.call20 ((laws_szInt64SS_ok (H.arg h34)  e45).mono ?_)
 rintro e w42 ⟨rfl, Hc43⟩
 have H := H.call0 Hc43
 refine ⟨_, rfl, trivial, fun a S => ?_⟩
 refine lq (.int .i64 x44) S (q_assign rfl) fun a S => ?_
 refine lx_nil (thenN ?_)
 refine wp_seq (wp_seq (region_plain ?_))
 refine lq (.int .i64 x44) S (q_move rfl) fun a S => ?_
 refine lq (.bool (decide (x44 < (0 : Int)))) S (q_lss rfl rfl) fun a S => ?_
 refine lx_nil (thenN ?_)
 refine cond_b S rfl (fun hc47 => ?_) (fun hc47 => ?_)
 ·have hm := ite_t hc47 hm
  refine wp_seq (region_plain ?_)
  refine lq (.int .i64 (-1 : Int)) S (q_assign rfl) fun a S => ?_
  refine lx_nil (thenN ?_)
  refine wp_ret (then_ret ?_)
  obtain rfl := Option.some.inj hm
  have H : Heap w0 [] w42 := H.sel [] (by decide)
  exact leave1 S rfl rfl ⟨rfl, H⟩
 ·have hm := ite_f hc47 hm
  refine wp_skip (thenN ?_)
  refine wp_seq (region_plain ?_)
  refine lq (.int .i64 x44) S (q_move rfl) fun a S => ?_
  refine lq (.int .i64 x44) S (q_assign rfl) fun a S => ?_
  refine lx_nil (thenN ?_)
  refine wp_ret ?_
  obtain rfl := Option.some.inj hm
  have H : Heap w0 [] w42 := H.sel [] (by decide)
  exact leave1 S rfl rfl ⟨rfl, H⟩

/-- laws.toInt64SS -/
def laws_toInt64SS_m (fuel : Nat) (a0 : (List (List Int))) : Option ((List (List Int))) :=
  (mks (a0.length : Int) []).bind fun x31 => (iter (fun (s : (List (List Int)) × (Int)) => (match s with | (xs57, x58) => (if (decide (x58 < (a0.length : Int))) = true then (idx a0 x58).bind fun x89 => (laws_toInt64S_m fuel x89).bind fun x98 => (idx xs57 x58).bind fun _ => some (.inl ((xs57.set x58.toNat x98), (W (x58 + (1 : Int))))) else some (.inr (.inl (xs57)))) : Option (((List (List Int)) × (Int)) ⊕ (((List (List Int))) ⊕ ((List (List Int))))))) fuel (x31, (0 : Int))).bind fun res80 => ctl (β := (List (List Int))) (ρ := (List (List Int))) (τ := (List (List Int))) res80 (fun (xs79) => some (xs79)) (fun q => some (q))
set_option maxRecDepth 20000 in
theorem laws_toInt64SS_ok {w0 : World} {fuel : Nat} {p0 : Value} {a0 : (List (List Int))} {r : (List (List Int))} (h0 : Rd (rList (rList (rInt .i64))) w0 p0 a0) (hm : laws_toInt64SS_m fuel a0 = some r) :
  Calls Tryd.prog 23 #[p0] w0 fun e w => ∃ (v0 : Value), e = .returned (v0) ∧ Heap w0 [oA (rList (rList (rInt .i64))) v0 r] w := by
 unfold laws_toInt64SS_m at hm
 have H := Heap.start w0
 refine enter (args := [p0]) Tryd.func23 rfl 23 rfl (Nat.le_of_ble_eq_true rfl) (fun a S => ?_)
 refine wp_seq (region_plain ?_)
 refine lq (.slice none 0 0) S (q_assign rfl) fun a S => ?_
 refine lx_nil (thenN ?_)
 refine wp_seq (region_plain ?_)
 refine lq p0 S (q_move rfl) fun a S => ?_
 refine lq (.int .i64 (a0.length : Int)) S (q_lenSl rfl (h0).isSl rfl Tryd.underlying22) fun a S => ?_
 obtain ⟨x31, e32, hm⟩ := bind_some hm
 obtain ⟨m33, hn, hn2, rfl⟩ := mks_some e32
 refine lx_make (r := (rList (rInt .i64))) (z0 := []) (n := m33) S trivial (by decide) rfl H (by rw [← hn]; rfl) (by rw [← hn]; rfl) Tryd.underlying22 (Tryd.ti48) rfl rfl (Nat.le_of_ble_eq_true rfl) (fun w => (oA_list.1 drop_nil_own)) hn2 (by decide) (fun v34 w35 H => ⟨trivial, fun a S => ?_⟩)
 refine lq v34 S (q_assign rfl) fun a S => ?_
 refine lx_nil (thenN ?_)
 refine wp_seq (wp_seq (region_plain ?_))
 refine lq (.int .i64 (0 : Int)) S (q_assign rfl) fun a S => ?_
 refine lx_nil (thenN ?_)
 obtain ⟨res80, hit81, hk84⟩ := bind_some hm
 obtain ⟨f82, hf83, hit81⟩ := iter_name hit81
 refine block_loop (fun a w => ∃ (xs79 : List (List Int)), Slots a 23 [(3, v34)] ∧ Heap w0 [oA (rList (rList (rInt .i64))) v34 xs79] w ∧ res80 = .inl (xs79)) ?_ ?_
 ·rintro a w ⟨xs79, S, H, rfl⟩
  have hm := ctl_inl hk84
  refine thenN ?_
  refine wp_seq (region_plain ?_)
  refine lq v34 S (q_move rfl) fun a S => ?_
  refine lq v34 S (q_assign rfl) fun a S => ?_
  refine lx_nil (thenN ?_)
  refine wp_ret ?_
  obtain rfl := Option.some.inj hm
  exact leave1 S rfl rfl ⟨v34, rfl, H⟩
 ·skip
  refine loop_ghost (fun n a w => ∃ (xs57 : List (List Int)) (x58 : Int), Slots a 23 [(0, p0), (3, v34), (4, (.int .i64 x58))] ∧ Heap w0 [oA (rList (rList (rInt .i64))) v34 xs57] w ∧ iter f82 n (xs57, x58) = some res80) _ ⟨(List.replicate m33 []), (0 : Int), S.sub ⟨rfl, rfl, rfl, trivial⟩, H, hit81⟩ ?_
  rintro n a w ⟨xs57, x58, S, H, hit81⟩
  obtain ⟨m85, o86, rfl, hm, hc87⟩ := iter_step hit81
  rw [hf83] at hm
  refine wp_seq (wp_seq (region_plain ?_))
  refine lq (.int .i64 x58) S (q_move rfl) fun a S => ?_
  refine lq p0 S (q_move rfl) fun a S => ?_
  refine lq (.int .i64 (a0.length : Int)) S (q_lenSl rfl (h0).isSl rfl Tryd.underlying22) fun a S => ?_
  refine lq (.bool (decide (x58 < (a0.length : Int)))) S (q_lss rfl rfl) fun a S => ?_
  refine lx_nil (thenN ?_)
  refine cond_b S rfl (fun hc88 => ?_) (fun hc88 => ?_)
  ·have hm := ite_t hc88 hm
   refine wp_skip (thenN ?_)
   refine wp_seq ?_
   refine wp_block ?_
   refine region_plain ?_
   refine lq v34 S (q_move rfl) fun a S => ?_
   refine lq (.int .i64 x58) S (q_move rfl) fun a S => ?_
   refine lq p0 S (q_move rfl) fun a S => ?_
   refine lq (.int .i64 x58) S (q_move rfl) fun a S => ?_
   obtain ⟨x89, e90, hm⟩ := bind_some hm
   obtain ⟨c91, h92, hat93⟩ := (h0).elem (idx_some e90).2
   obtain ⟨v94, rfl, h95⟩ := rd_list h92
   have hlt := lt_of_idx (idx_some e90).2
   refine lq (ePtr p0 (x58.toNat * 1)) S (q_indexAddr rfl (h0).isSl rfl (idx_some e90).1 hlt Tryd.underlying22 Tryd.sizeOf48) fun a S => ?_
   refine lx_e v94 S trivial (by decide) rfl trivial (q_load1 rfl Tryd.isAgg48 (by rintro _ rfl; exact ((hat93 0 _ rfl).ext H.ext))) (fun a S => ?_)
   obtain ⟨x98, e99, hm⟩ := bind_some hm
   refine lx_call (xs := [.tmp 19]) S trivial (by decide) rfl rfl Tryd.call48 ((laws_toInt64S_ok (H.arg h95) e99).mono ?_)
   rintro e w96 ⟨v100, rfl, Hc97⟩
   have H := H.call1 Hc97
   refine ⟨_, rfl, trivial, fun a S => ?_⟩
   obtain ⟨x103, e104, hm⟩ := bind_some hm
   have hlt := lt_of_idx (idx_some e104).2
   refine lq (ePtr v34 (x58.toNat * 1)) S (q_indexAddr rfl (H.isSl 1 rfl) rfl (idx_some e104).1 hlt Tryd.underlying22 Tryd.sizeOf48) fun a S => ?_
   have hcl : Value.cells v100 = List.toArray [v100] := (cells_sl (H.isSl 0 rfl))
   have hon : ∀ c ∈ ([v100] : List Value), c.oneCell' = true := (List.forall_mem_cons.2 ⟨one_sl (H.isSl 0 rfl), (fun _ h => nomatch h)⟩)
   have H : Heap w0 [oA (rList (rList (rInt .i64))) v34 xs57, oA (rList (rInt .i64)) v100 x98] w96 := H.front 1 rfl
   refine lx_storeElem (r := (rList (rInt .i64))) (us := [v100]) (off := 0) (e' := x98) S trivial rfl H (ev_zero rfl) rfl (idx_some e104).2 hcl Tryd.sizeOf48 (Nat.le_of_ble_eq_true rfl) hon (Upd.full rfl (fun w G hG => oA_list.1 hG)) (fun w105 H => ⟨trivial, fun a S => ?_⟩)
   refine lx_nil ?_
   refine inBlock_norm ?_
   refine thenN ?_
   refine region_plain ?_
   refine lq (.int .i64 x58) S (q_move rfl) fun a S => ?_
   refine lq (.int .i64 (W (x58 + (1 : Int)))) S (q_add rfl rfl) fun a S => ?_
   refine lq (.int .i64 (W (x58 + (1 : Int)))) S (q_assign rfl) fun a S => ?_
   refine lx_nil ?_
   exact ⟨m85, Nat.lt_succ_self _, (xs57.set x58.toNat x98), (W (x58 + (1 : Int))), S.sub ⟨rfl, rfl, rfl, trivial⟩, H, it_cont hm hc87⟩
  ·have hm := ite_f hc88 hm
   refine wp_exit ?_
   refine then_exit ?_
   refine then_exit ?_
   refine inBlock_exit ?_
   obtain rfl := it_brk hm hc87
   exact ⟨xs57, S.sub ⟨rfl, trivial⟩, H, rfl⟩

/-- laws.toProof -/
def laws_toProof_m (fuel : Nat) (a0 : Tlaws_Proof) : Option (Timpl_Proof) :=
  (laws_toInt64SS_m fuel a0.2).bind fun x51 => some ((a0.1, x51))
set_option maxRecDepth 20000 in
theorem laws_toProof_ok {w0 : World} {fuel : Nat} {p0 : Value} {a0 : Tlaws_Proof} {r : Timpl_Proof} (h0 : Rd Rlaws_Proof w0 p0 a0) (hm : laws_toProof_m fuel a0 = some r) :
  Calls Tryd.prog 8 #[p0] w0 fun e w => ∃ (v0 : Value), e = .returned (.agg #[.bool r.1, v0]) ∧ Heap w0 [oA (rList (rList (rInt .i64))) v0 r.2] w := by
 unfold laws_toProof_m at hm
 have H := Heap.start w0
 obtain ⟨c31, rfl, h32⟩ := h0
 obtain ⟨c35, c36, rfl, h37, h38⟩ := h32
 obtain rfl := h37
 obtain ⟨v33, rfl, h34⟩ := rd_list h38
 refine enter (args := [(.agg #[(.bool a0.1), v33])]) Tryd.func8 rfl 12 rfl (Nat.le_of_ble_eq_true rfl) (fun a S => ?_)
 refine wp_seq (region_plain ?_)
 refine lx_box S trivial (by decide) rfl H rfl rfl (fun b39 w40 H => ⟨trivial, fun a S => ?_⟩)
 refine lx_alloc S trivial (by decide) rfl H Tryd.zeroValue27 rfl (fun b42 w43 H => ⟨trivial, fun a S => ?_⟩)
 refine lx_nil (thenN ?_)
 refine wp_seq (region_plain ?_)
 refine lx_alloc S trivial (by decide) rfl H Tryd.zeroValue27 rfl (fun b45 w46 H => ⟨trivial, fun a S => ?_⟩)
 refine lx_nil (thenN ?_)
 refine wp_seq (region_plain ?_)
 refine lq (pAdd (bp b39) 0) S (q_fieldAddr' 0 4 rfl (isP_bp _) Tryd.underlying24 rfl Tryd.sizeOf4) fun a S => ?_
 refine lx_e (.bool a0.1) S trivial (by decide) rfl trivial (q_load1 rfl Tryd.isAgg4 (by rintro _ rfl; exact (At.of_add (m := 0) (j := 0) (boxAt (i := 2) H rfl (j := 0) rfl)))) (fun a S => ?_)
 refine lq (pAdd (bp b45) 0) S (q_fieldAddr' 0 4 rfl (isP_bp _) Tryd.underlying27 rfl Tryd.sizeOf4) fun a S => ?_
 refine lx_storeBox (o := 0) (i := 0) (us := [(.bool a0.1)]) (cs' := [(.bool a0.1), (.slice none 0 0)]) S trivial rfl H rfl rfl rfl rfl Tryd.sizeOf4 (Nat.le_of_ble_eq_true rfl) (List.forall_mem_cons.2 ⟨rfl, (fun _ h => nomatch h)⟩) rfl (fun w48 H => ⟨trivial, fun a S => ?_⟩)
 change Heap w0 [bA b45 [(.bool a0.1), (.slice none 0 0)] 27, bA b42 [(.bool false), (.slice none 0 0)] 27, bA b39 [(.bool a0.1), v33] 24] w48 at H
 refine lx_nil (thenN ?_)
 refine wp_seq (region_plain ?_)
 refine lq (pAdd (bp b39) 1) S (q_fieldAddr' 1 22 rfl (isP_bp _) Tryd.underlying24 rfl Tryd.sizeOf22) fun a S => ?_
 refine lx_e v33 S trivial (by decide) rfl trivial (q_load1 rfl Tryd.isAgg22 (by rintro _ rfl; exact (At.of_add (m := 1) (j := 0) (boxAt (i := 2) H rfl (j := 1) rfl)))) (fun a S => ?_)
 obtain ⟨x51, e52, hm⟩ := bind_some hm
 refine lx_call (xs := [.tmp 8]) S trivial (by decide) rfl rfl Tryd.call23 ((laws_toInt64SS_ok (H.arg h34) e52).mono ?_)
 rintro e w49 ⟨v53, rfl, Hc50⟩
 have H := H.call1 Hc50
 refine ⟨_, rfl, trivial, fun a S => ?_⟩
 refine lq (pAdd (bp b45) 1) S (q_fieldAddr' 1 22 rfl (isP_bp _) Tryd.underlying27 rfl Tryd.sizeOf22) fun a S => ?_
 refine lx_storeBox (o := 1) (i := 1) (us := [v53]) (cs' := [(.bool a0.1), v53]) S trivial rfl H rfl rfl rfl (cells_sl (H.isSl 0 rfl)) Tryd.sizeOf22 (Nat.le_of_ble_eq_true rfl) (List.forall_mem_cons.2 ⟨one_sl (H.isSl 0 rfl), (fun _ h => nomatch h)⟩) rfl (fun w56 H => ⟨trivial, fun a S => ?_⟩)
 change Heap w0 [oA (rList (rList (rInt .i64))) v53 x51, bA b45 [(.bool a0.1), v53] 27, bA b42 [(.bool false), (.slice none 0 0)] 27, bA b39 [(.bool a0.1), v33] 24] w56 at H
 refine lx_nil (thenN ?_)
 refine wp_seq (region_plain ?_)
 refine lx_e (.agg #[(.bool a0.1), v53]) S trivial (by decide) rfl trivial (q_loadA (cs := [(.bool a0.1), v53]) rfl (isP_bp _) Tryd.isAgg27 Tryd.sizeOf27 (by rintro _ rfl; exact (fun j u hu => boxAt (i := 1) H rfl hu))) (fun a S => ?_)
 refine lx_storeBox (o := 0) (i := 2) (us := [(.bool a0.1), v53]) (cs' := [(.bool a0.1), v53]) S trivial rfl H rfl rfl rfl rfl Tryd.sizeOf27 (Nat.le_of_ble_eq_true rfl) (List.forall_mem_cons.2 ⟨rfl, (List.forall_mem_cons.2 ⟨one_sl (H.isSl 0 rfl), (fun _ h => nomatch h)⟩)⟩) rfl (fun w57 H => ⟨trivial, fun a S => ?_⟩)
 change Heap w0 [oA (rList (rList (rInt .i64))) v53 x51, bA b45 [(.bool a0.1), v53] 27, bA b42 [(.bool a0.1), v53] 27, bA b39 [(.bool a0.1), v33] 24] w57 at H
 refine lx_nil (thenN ?_)
 refine wp_ret ?_
 have hrv0 := RV.cellA (t := 27) (q := 2) (env := [(0, (.agg #[(.bool a0.1), v33])), (1, (bp b39)), (2, (bp b42)), (3, (bp b45)), (4, (pAdd (bp b39) 0)), (5, (.bool a0.1)), (6, (pAdd (bp b45) 0)), (7, (pAdd (bp b39) 1)), (8, v33), (9, v53), (10, (pAdd (bp b45) 1)), (11, (.agg #[(.bool a0.1), v53]))]) H (i := 2) rfl rfl Tryd.isAgg27 Tryd.sizeOf27
 obtain rfl := Option.some.inj hm
 have H : Heap w0 [oA (rList (rList (rInt .i64))) v53 x51] w57 := H.sel [0] (by decide)
 exact leaveR1 S rfl hrv0 ⟨v53, rfl, H⟩

/-- spec.ProofText -/
def spec_ProofText_m (fuel : Nat) (a0 : Timpl_Proof) : Option (Str) :=
  (spec_l24Fits_m fuel (a0.1, a0.2)).bind fun x44 => (if (!x44) = true then some (([] : Str)) else (spec_l24Text_m fuel (a0.1, a0.2)).bind fun x50 => some (x50))
set_option maxRecDepth 20000 in
theorem spec_ProofText_ok {w0 : World} {fuel : Nat} {p0 : Value} {a0 : Timpl_Proof} {r : Str} (h0 : Rd Rimpl_Proof w0 p0 a0) (hm : spec_ProofText_m fuel a0 = some r) :
  Calls Tryd.prog 7 #[p0] w0 fun e w => e = .returned (sv r) ∧ Heap w0 [] w := by
 unfold spec_ProofText_m at hm
 have H := Heap.start w0
 obtain ⟨c31, rfl, h32⟩ := h0
 obtain ⟨c35, c36, rfl, h37, h38⟩ := h32
 obtain rfl := h37
 obtain ⟨v33, rfl, h34⟩ := rd_list h38
 refine enter (args := [(.agg #[(.bool a0.1), v33])]) Tryd.func7 rfl 6 rfl (Nat.le_of_ble_eq_true rfl) (fun a S => ?_)
 refine wp_seq (region_plain ?_)
 refine lx_box S trivial (by decide) rfl H rfl rfl (fun b39 w40 H => ⟨trivial, fun a S => ?_⟩)
 refine lq (sv ([] : Str)) S (q_assign rfl) fun a S => ?_
 refine lx_nil (thenN ?_)
 refine wp_seq (wp_seq (region_plain ?_))
 obtain ⟨x44, e45, hm⟩ := bind_some hm
 refine lx_call (xs := [.tmp 1]) S trivial (by decide) rfl rfl Tryd.call21 ((spec_l24Fits_ok (rdPtr_box H 0 rfl ⟨[(.bool a0.1)], [v33], rfl, rfl, ((H.arg h34)).list_rd⟩) e45).mono ?_)
 rintro e w42 ⟨rfl, Hc43⟩
 have H := H.call0 Hc43
 refine ⟨_, rfl, trivial, fun a S => ?_⟩
 refine lq (.bool (!x44)) S (q_not rfl) fun a S => ?_
 refine lx_nil (thenN ?_)
 refine cond_b S rfl (fun hc47 => ?_) (fun hc47 => ?_)
 ·have hm := ite_t hc47 hm
  refine wp_seq (region_plain ?_)
  refine lq (sv ([] : Str)) S (q_assign rfl) fun a S => ?_
  refine lx_nil (thenN ?_)
  refine wp_ret (then_ret ?_)
  obtain rfl := Option.some.inj hm
  have H : Heap w0 [] w42 := H.sel [] (by decide)
  exact leave1 S rfl rfl ⟨rfl, H⟩
 ·have hm := ite_f hc47 hm
  refine wp_skip (thenN ?_)
  refine wp_seq (region_plain ?_)
  obtain ⟨x50, e51, hm⟩ := bind_some hm
  refine lx_call (xs := [.tmp 1]) S trivial (by decide) rfl rfl Tryd.call22 ((spec_l24Text_ok (rdPtr_box H 0 rfl ⟨[(.bool a0.1)], [v33], rfl, rfl, ((H.arg h34)).list_rd⟩) e51).mono ?_)
  rintro e w48 ⟨rfl, Hc49⟩
  have H := H.call0 Hc49
  refine ⟨_, rfl, trivial, fun a S => ?_⟩
  refine lq (sv x50) S (q_assign rfl) fun a S => ?_
  refine lx_nil (thenN ?_)
  refine wp_ret ?_
  obtain rfl := Option.some.inj hm
  have H : Heap w0 [] w48 := H.sel [] (by decide)
  exact leave1 S rfl rfl ⟨rfl, H⟩

/-- laws.FnExactProofText -/
def laws_FnExactProofText_m (fuel : Nat) (a0 : Tlaws_Proof) : Option (Bool) :=
  (laws_szProof_m fuel (a0.1, a0.2) (1048576 : Int)).bind fun x44 => (if (decide (x44 < (0 : Int))) = true then some (true) else (laws_toProof_m fuel (a0.1, a0.2)).bind fun x50 => (spec_ProofText_m fuel (x50.1, x50.2)).bind fun x57 => (laws_toProof_m fuel (a0.1, a0.2)).bind fun x62 => (impl_ProofText_m fuel (x62.1, x62.2)).bind fun x73 => (if (x73 != x57) = true then some (false) else (laws_toProof_m fuel (a0.1, a0.2)).bind fun x81 => (laws_eqProof_m fuel (x62.1, x62.2) (x81.1, x81.2)).bind fun x88 => (if (!x88) = true then some (false) else some (true))))
set_option maxRecDepth 20000 in
theorem laws_FnExactProofText_ok {w0 : World} {fuel : Nat} {p0 : Value} {a0 : Tlaws_Proof} {r : Bool} (hG : Glob Tryd.prog w0) (h0 : Rd Rlaws_Proof w0 p0 a0) (hm : laws_FnExactProofText_m fuel a0 = some r) :
  Calls Tryd.prog 3 #[p0] w0 fun e w => e = .returned (.bool r) ∧ Heap w0 [] w := by
 unfold laws_FnExactProofText_m at hm
 have H := Heap.start w0
 obtain ⟨c31, rfl, h32⟩ := h0
 obtain ⟨c35, c36, rfl, h37, h38⟩ := h32
 obtain rfl := h37
 obtain ⟨v33, rfl, h34⟩ := rd_list h38
 refine enter (args := [(.agg #[(.bool a0.1), v33])]) Tryd.func3 rfl 27 rfl (Nat.le_of_ble_eq_true rfl) (fun a S => ?_)
 refine wp_seq (region_plain ?_)
 refine lx_box S trivial (by decide) rfl H rfl rfl (fun b39 w40 H => ⟨trivial, fun a S => ?_⟩)
 refine lq (.bool false) S (q_assign rfl) fun a S => ?_
 refine lx_nil (thenN ?_)
 refine wp_seq (region_plain ?_)
 refine lq (.int .i64 (1048576 : Int)) S (q_assign rfl) fun a S => ?_
 refine lx_nil (thenN ?_)
 refine wp_seq (region_plain ?_)
 refine lx_e (.agg #[(.bool a0.1), v33]) S trivial (by decide) rfl trivial (q_loadA (cs := [(.bool a0.1), v33]) rfl (isP_bp _) Tryd.isAgg24 Tryd.sizeOf24 (by rintro _ rfl; exact (fun j u hu => boxAt (i := 0) H rfl hu))) (fun a S => ?_)
 refine lq (.int .i64 (1048576 : Int)) S (q_move rfl) fun a S => ?_
 obtain ⟨x44, e45, hm⟩ := bind_some hm
 refine lx_call (xs := [.tmp 7, .tmp 8]) S trivial (by decide) rfl rfl Tryd.call6 ((laws_szProof_ok ⟨[(.bool a0.1), v33], rfl, ⟨[(.bool a0.1)], [v33], rfl, rfl, ((H.arg h34)).list_rd⟩⟩  e45).mono ?_)
 rintro e w42 ⟨rfl, Hc43⟩
 have H := H.call0 Hc43
 refine ⟨_, rfl, trivial, fun a S => ?_⟩
 refine lq (.int .i64 x44) S (q_assign rfl) fun a S => ?_
 refine lx_nil (thenN ?_)
 refine wp_seq (wp_seq (region_plain ?_))
 refine lq (.int .i64 x44) S (q_move rfl) fun a S => ?_
 refine lq (.bool (decide (x44 < (0 : Int)))) S (q_lss rfl rfl) fun a S => ?_
 refine lx_nil (thenN ?_)
 refine cond_b S rfl (fun hc47 => ?_) (fun hc47 => ?_)
 ·have hm := ite_t hc47 hm
  refine wp_seq (region_plain ?_)
  refine lq (.bool true) S (q_assign rfl) fun a S => ?_
  refine lx_nil (thenN ?_)
  refine wp_ret (then_ret ?_)
  obtain rfl := Option.some.inj hm
  have H : Heap w0 [] w42 := H.sel [] (by decide)
  exact leave1 S rfl rfl ⟨rfl, H⟩
 ·have hm := ite_f hc47 hm
  refine wp_skip (thenN ?_)
  refine wp_seq (region_plain ?_)
  refine lx_e (.agg #[(.bool a0.1), v33]) S trivial (by decide) rfl trivial (q_loadA (cs := [(.bool a0.1), v33]) rfl (isP_bp _) Tryd.isAgg24 Tryd.sizeOf24 (by rintro _ rfl; exact (fun j u hu => boxAt (i := 0) H rfl hu))) (fun a S => ?_)
  obtain ⟨x50, e51, hm⟩ := bind_some hm
  refine lx_call (xs := [.tmp 12]) S trivial (by decide) rfl rfl Tryd.call8 ((laws_toProof_ok ⟨[(.bool a0.1), v33], rfl, ⟨[(.bool a0.1)], [v33], rfl, rfl, ((H.arg h34)).list_rd⟩⟩ e51).mono ?_)
  rintro e w48 ⟨v52, rfl, Hc49⟩
  have H := H.call1 Hc49
  refine ⟨_, rfl, trivial, fun a S => ?_⟩
  obtain ⟨x57, e58, hm⟩ := bind_some hm
  refine lx_call (xs := [.tmp 13]) S trivial (by decide) rfl rfl Tryd.call7 ((spec_ProofText_ok ⟨[(.bool x50.1), v52], rfl, ⟨[(.bool x50.1)], [v52], rfl, rfl, ((H.rdAt 0 rfl)).list_rd⟩⟩ e58).mono ?_)
  rintro e w55 ⟨rfl, Hc56⟩
  have H := H.call0 Hc56
  refine ⟨_, rfl, trivial, fun a S => ?_⟩
  refine lq (sv x57) S (q_assign rfl) fun a S => ?_
  refine lx_nil (thenN ?_)
  refine wp_seq (region_plain ?_)
  refine lx_e (.agg #[(.bool a0.1), v33]) S trivial (by decide) rfl trivial (q_loadA (cs := [(.bool a0.1), v33]) rfl (isP_bp _) Tryd.isAgg24 Tryd.sizeOf24 (by rintro _ rfl; exact (fun j u hu => boxAt (i := 1) H rfl hu))) (fun a S => ?_)
  obtain ⟨x62, e63, hm⟩ := bind_some hm
  refine lx_call (xs := [.tmp 15]) S trivial (by decide) rfl rfl Tryd.call8 ((laws_toProof_ok ⟨[(.bool a0.1), v33], rfl, ⟨[(.bool a0.1)], [v33], rfl, rfl, ((H.arg h34)).list_rd⟩⟩ e63).mono ?_)
  rintro e w60 ⟨v64, rfl, Hc61⟩
  have H := H.call1 Hc61
  refine ⟨_, rfl, trivial, fun a S => ?_⟩
  refine lx_alloc S trivial (by decide) rfl H Tryd.zeroValue27 rfl (fun b67 w68 H => ⟨trivial, fun a S => ?_⟩)
  refine lx_storeBox (o := 0) (i := 0) (us := [(.bool x62.1), v64]) (cs' := [(.bool x62.1), v64]) S trivial rfl H rfl rfl rfl rfl Tryd.sizeOf27 (Nat.le_of_ble_eq_true rfl) (List.forall_mem_cons.2 ⟨rfl, (List.forall_mem_cons.2 ⟨one_sl (H.isSl 1 rfl), (fun _ h => nomatch h)⟩)⟩) rfl (fun w70 H => ⟨trivial, fun a S => ?_⟩)
  change Heap w0 [bA b67 [(.bool x62.1), v64] 27, oA (rList (rList (rInt .i64))) v64 x62.2, oA (rList (rList (rInt .i64))) v52 x50.2, bA b39 [(.bool a0.1), v33] 24] w70 at H
  refine lx_nil (thenN ?_)
  refine wp_seq (region_plain ?_)
  refine lx_e (.agg #[(.bool x62.1), v64]) S trivial (by decide) rfl trivial (q_loadA (cs := [(.bool x62.1), v64]) rfl (isP_bp _) Tryd.isAgg27 Tryd.sizeOf27 (by rintro _ rfl; exact (fun j u hu => boxAt (i := 0) H rfl hu))) (fun a S => ?_)
  obtain ⟨x73, e74, hm⟩ := bind_some hm
  refine lx_call (xs := [.tmp 17]) S trivial (by decide) rfl rfl Tryd.call9 ((impl_ProofText_ok (hG.ext H.ext) ⟨[(.bool x62.1), v64], rfl, ⟨[(.bool x62.1)], [v64], rfl, rfl, ((H.rdAt 1 rfl)).list_rd⟩⟩ e74).mono ?_)
  rintro e w71 ⟨rfl, Hc72⟩
  have H := H.call0 Hc72
  refine ⟨_, rfl, trivial, fun a S => ?_⟩
  refine lq (sv x73) S (q_assign rfl) fun a S => ?_
  refine lx_nil (thenN ?_)
  refine wp_seq (wp_seq (region_plain ?_))
  refine lq (sv x73) S (q_move rfl) fun a S => ?_
  refine lq (sv x57) S (q_move rfl) fun a S => ?_
  refine lq (.bool (x73 != x57)) S (q_sneq rfl rfl) fun a S => ?_
  refine lx_nil (thenN ?_)
  refine cond_b S rfl (fun hc76 => ?_) (fun hc76 => ?_)
  ·have hm := ite_t hc76 hm
   refine wp_seq (region_plain ?_)
   refine lq (.bool false) S (q_assign rfl) fun a S => ?_
   refine lx_nil (thenN ?_)
   refine wp_ret (then_ret ?_)
   obtain rfl := Option.some.inj hm
   have H : Heap w0 [] w71 := H.sel [] (by decide)
   exact leave1 S rfl rfl ⟨rfl, H⟩
  ·have hm := ite_f hc76 hm
   refine wp_skip (thenN ?_)
   refine wp_seq ?_
   refine wp_seq ?_
   refine region_drawG (fun w1 => Heap w0 [bA b67 [(.bool x62.1), v64] 27, bA b39 [(.bool a0.1), v33] 24] w1) (fun i => [2, 3].contains i) mixed (by kernel_rfl) (fun w78 he77 => ?_)
   have H := H.later he77
   refine ⟨H.sel [0, 3] (by decide), ?_⟩
   refine lq (.agg #[(.bool x62.1), v64]) S (q_loadA (cs := [(.bool x62.1), v64]) rfl (isP_bp _) Tryd.isAgg27 Tryd.sizeOf27 (fun w1 hC => (fun j u hu => boxAt (i := 0) hC rfl hu))) fun a S => ?_
   refine lq (.agg #[(.bool a0.1), v33]) S (q_loadA (cs := [(.bool a0.1), v33]) rfl (isP_bp _) Tryd.isAgg24 Tryd.sizeOf24 (fun w1 hC => (fun j u hu => boxAt (i := 1) hC rfl hu))) fun a S => ?_
   obtain ⟨x81, e82, hm⟩ := bind_some hm
   refine lx_call (xs := [.tmp 23]) S trivial (by decide) rfl rfl Tryd.call8 ((laws_toProof_ok ⟨[(.bool a0.1), v33], rfl, ⟨[(.bool a0.1)], [v33], rfl, rfl, ((H.arg h34)).list_rd⟩⟩ e82).mono ?_)
   rintro e w79 ⟨v83, rfl, Hc80⟩
   have H := H.call1 Hc80
   refine ⟨_, rfl, H.sel [1, 4] (by decide), fun a S => ?_⟩
   obtain ⟨x88, e89, hm⟩ := bind_some hm
   refine lx_call (xs := [.tmp 22, .tmp 24]) S trivial (by decide) rfl rfl Tryd.call10 ((laws_eqProof_ok ⟨[(.bool x62.1), v64], rfl, ⟨[(.bool x62.1)], [v64], rfl, rfl, ((H.rdAt 2 rfl)).list_rd⟩⟩ ⟨[(.bool x81.1), v83], rfl, ⟨[(.bool x81.1)], [v83], rfl, rfl, ((H.rdAt 0 rfl)).list_rd⟩⟩ e89).mono ?_)
   rintro e w86 ⟨rfl, Hc87⟩
   have H := H.call0 Hc87
   refine ⟨_, rfl, H.sel [1, 4] (by decide), fun a S => ?_⟩
   refine lq (.bool (!x88)) S (q_not rfl) fun a S => ?_
   refine lx_nil (thenN ?_)
   refine cond_b S rfl (fun hc91 => ?_) (fun hc91 => ?_)
   ·have hm := ite_t hc91 hm
    refine wp_seq (region_plain ?_)
    refine lq (.bool false) S (q_assign rfl) fun a S => ?_
    refine lx_nil (thenN ?_)
    refine wp_ret (then_ret ?_)
    obtain rfl := Option.some.inj hm
    have H : Heap w0 [] w86 := H.sel [] (by decide)
    exact leave1 S rfl rfl ⟨rfl, H⟩
   ·have hm := ite_f hc91 hm
    refine wp_skip (thenN ?_)
    refine wp_seq (region_plain ?_)
    refine lq (.bool true) S (q_assign rfl) fun a S => ?_
    refine lx_nil (thenN ?_)
    refine wp_ret ?_
    obtain rfl := Option.some.inj hm
    have H : Heap w0 [] w86 := H.sel [] (by decide)
    exact leave1 S rfl rfl ⟨rfl, H⟩
end Go.Proofs.YtepcckhcocjgaaaDoor
