/- The models of some functions and their walks (printed by a program of this repo). -/
import Derived.Test.YtcddkipbedfhkaaF0
import Derived.Test.YtcddkipbedfhkaaF1
import Derived.Test.YtcddkipbedfhkaaF2
import Derived.Test.YtcddkipbedfhkaaGxAr
import Derived.Test.YtcddkipbedfhkaaGxT
import Derived.Test.YtcddkipbedfhkaaGxY
namespace Go.Proofs.Ytcddkipbedfhkaa
open Go.RowKit Go.Gx

/-- laws.szInt64SS -/
def laws_szInt64SS_m (fuel : Nat) (a0 : (List (List Int))) (a1 : Int) : Option (Int) :=
  (if (decide ((W (a1 - (a0.length : Int))) < (0 : Int))) = true then some ((-1 : Int)) else (iter (fun (s : (Int) × (Int)) => (match s with | (x48, x49) => (if (decide (x49 < (a0.length : Int))) = true then (idx a0 x49).bind fun x76 => (laws_szInt64S_m fuel x76 x48).bind fun x85 => (if (decide (x85 < (0 : Int))) = true then some (.inr (.inr (-1 : Int))) else some (.inl (x85, (W (x49 + (1 : Int)))))) else some (.inr (.inl (x48)))) : Option (((Int) × (Int)) ⊕ ((Int) ⊕ (Int))))) fuel ((W (a1 - (a0.length : Int))), (0 : Int))).bind fun res67 => ctl (β := Int) (ρ := Int) (τ := Int) res67 (fun (x66) => some (x66)) (fun q => some (q)))
set_option maxRecDepth 20000 in
theorem laws_szInt64SS_ok [dr : Dr] {w0 : World} {fuel : Nat} {p0 : Value} {a0 : (List (List Int))} {a1 : Int} {r : Int} (h0 : Rd (rList (rList (rInt .i64))) w0 p0 a0) (hm : laws_szInt64SS_m fuel a0 a1 = some r) :
  Calls Try.prog 7 #[p0, .int .i64 a1] w0 fun e w => e = .returned (.int .i64 r) ∧ Heap w0 [] w := by
 unfold laws_szInt64SS_m at hm
 have H := Heap.start w0
 refine enter (args := [p0, .int .i64 a1]) Try.func7 rfl 27 rfl (Nat.le_of_ble_eq_true rfl) (fun a S => ?_)
 refine wp_seq (region_plain ?_)
 refine lq (.int .i64 (0 : Int)) S (q_assign rfl) fun a S => ?_
 refine lx_nil (thenN ?_)
 refine wp_seq (region_plain ?_)
 refine lq (.int .i64 a1) S (q_move rfl) fun a S => ?_
 refine lq p0 S (q_move rfl) fun a S => ?_
 refine lq (.int .i64 (a0.length : Int)) S (q_lenSl rfl (h0).isSl rfl Try.underlying23) fun a S => ?_
 refine lq (.int .i64 (W (a1 - (a0.length : Int)))) S (q_sub rfl rfl) fun a S => ?_
 refine lq (.int .i64 (W (a1 - (a0.length : Int)))) S (q_assign rfl) fun a S => ?_
 refine lx_nil (thenN ?_)
 refine wp_seq (wp_seq (region_plain ?_))
 refine lq (.int .i64 (W (a1 - (a0.length : Int)))) S (q_move rfl) fun a S => ?_
 refine lq (.bool (decide ((W (a1 - (a0.length : Int))) < (0 : Int)))) S (q_lss rfl rfl) fun a S => ?_
 refine lx_nil (thenN ?_)
 refine cond_b S rfl (fun hc31 => ?_) (fun hc31 => ?_)
 ·have hm := ite_t hc31 hm
  refine wp_seq (region_plain ?_)
  refine lq (.int .i64 (-1 : Int)) S (q_assign rfl) fun a S => ?_
  refine lx_nil (thenN ?_)
  refine wp_ret (then_ret ?_)
  obtain rfl := Option.some.inj hm
  exact leave1 S rfl rfl ⟨rfl, H⟩
 ·have hm := ite_f hc31 hm
  refine wp_skip (thenN ?_)
  refine wp_seq (wp_seq (region_plain ?_))
  refine lq (.int .i64 (0 : Int)) S (q_assign rfl) fun a S => ?_
  refine lx_nil (thenN ?_)
  obtain ⟨res67, hit68, hk71⟩ := bind_some hm
  obtain ⟨f69, hf70, hit68⟩ := iter_name hit68
  refine block_loop (fun a w => ∃ (x66 : Int), Slots a 27 [(1, (.int .i64 x66))] ∧ Heap w0 [] w ∧ res67 = .inl (x66)) ?_ ?_
  ·rintro a w ⟨x66, S, H, rfl⟩
   have hm := ctl_inl hk71
   refine thenN ?_
   refine wp_seq (region_plain ?_)
   refine lq (.int .i64 x66) S (q_move rfl) fun a S => ?_
   refine lq (.int .i64 x66) S (q_assign rfl) fun a S => ?_
   refine lx_nil (thenN ?_)
   refine wp_ret ?_
   obtain rfl := Option.some.inj hm
   exact leave1 S rfl rfl ⟨rfl, H⟩
  ·skip
   refine loop_ghost (fun n a w => ∃ (x48 : Int) (x49 : Int), Slots a 27 [(0, p0), (1, (.int .i64 x48)), (5, (.int .i64 x49))] ∧ Heap w0 [] w ∧ iter f69 n (x48, x49) = some res67) _ ⟨(W (a1 - (a0.length : Int))), (0 : Int), S.sub ⟨rfl, rfl, rfl, trivial⟩, H, hit68⟩ ?_
   rintro n a w ⟨x48, x49, S, H, hit68⟩
   obtain ⟨m72, o73, rfl, hm, hc74⟩ := iter_step hit68
   rw [hf70] at hm
   refine wp_seq (wp_seq (region_plain ?_))
   refine lq (.int .i64 x49) S (q_move rfl) fun a S => ?_
   refine lq p0 S (q_move rfl) fun a S => ?_
   refine lq (.int .i64 (a0.length : Int)) S (q_lenSl rfl (h0).isSl rfl Try.underlying23) fun a S => ?_
   refine lq (.bool (decide (x49 < (a0.length : Int)))) S (q_lss rfl rfl) fun a S => ?_
   refine lx_nil (thenN ?_)
   refine cond_b S rfl (fun hc75 => ?_) (fun hc75 => ?_)
   ·have hm := ite_t hc75 hm
    refine wp_skip (thenN ?_)
    refine wp_seq ?_
    refine wp_block ?_
    refine wp_seq (region_plain ?_)
    refine lq p0 S (q_move rfl) fun a S => ?_
    refine lq (.int .i64 x49) S (q_move rfl) fun a S => ?_
    obtain ⟨x76, e77, hm⟩ := bind_some hm
    obtain ⟨c78, h79, hat80⟩ := (h0).elem (idx_some e77).2
    obtain ⟨v81, rfl, h82⟩ := rd_list h79
    have hlt := lt_of_idx (idx_some e77).2
    refine lq (ePtr p0 (x49.toNat * 1)) S (q_indexAddr rfl (h0).isSl rfl (idx_some e77).1 hlt Try.underlying23 Try.sizeOf38) fun a S => ?_
    refine lx_e v81 S trivial (by decide) rfl trivial (q_load1 rfl Try.isAgg38 (by rintro _ rfl; exact ((hat80 0 _ rfl).ext H.ext))) (fun a S => ?_)
    refine lq (.int .i64 x48) S (q_move rfl) fun a S => ?_
    obtain ⟨x85, e86, hm⟩ := bind_some hm
    refine lx_call (xs := [.tmp 21, .tmp 22]) S trivial (by decide) rfl rfl Try.call28 ((laws_szInt64S_ok (H.arg h82)  e86).mono ?_)
    rintro e w83 ⟨rfl, Hc84⟩
    have H := H.call0 Hc84
    refine ⟨_, rfl, trivial, fun a S => ?_⟩
    refine lq (.int .i64 x85) S (q_assign rfl) fun a S => ?_
    refine lx_nil (thenN ?_)
    refine wp_seq (region_plain ?_)
    refine lq (.int .i64 x85) S (q_move rfl) fun a S => ?_
    refine lq (.bool (decide (x85 < (0 : Int)))) S (q_lss rfl rfl) fun a S => ?_
    refine lx_nil (thenN ?_)
    refine cond_b S rfl (fun hc88 => ?_) (fun hc88 => ?_)
    ·have hm := ite_t hc88 hm
     refine wp_seq (region_plain ?_)
     refine lq (.int .i64 (-1 : Int)) S (q_assign rfl) fun a S => ?_
     refine lx_nil (thenN ?_)
     refine wp_ret (inBlock_ret ?_)
     refine then_ret ?_
     refine then_ret ?_
     refine inBlock_ret ?_
     refine then_ret ?_
     refine then_ret ?_
     obtain rfl := it_brk hm hc74
     have hm := ctl_inr hk71
     obtain rfl := Option.some.inj hm
     exact leave1 S rfl rfl ⟨rfl, H⟩
    ·have hm := ite_f hc88 hm
     refine wp_skip ?_
     refine inBlock_norm ?_
     refine thenN ?_
     refine region_plain ?_
     refine lq (.int .i64 x49) S (q_move rfl) fun a S => ?_
     refine lq (.int .i64 (W (x49 + (1 : Int)))) S (q_add rfl rfl) fun a S => ?_
     refine lq (.int .i64 (W (x49 + (1 : Int)))) S (q_assign rfl) fun a S => ?_
     refine lx_nil ?_
     exact ⟨m72, Nat.lt_succ_self _, x85, (W (x49 + (1 : Int))), S.sub ⟨rfl, rfl, rfl, trivial⟩, H, it_cont hm hc74⟩
   ·have hm := ite_f hc75 hm
    refine wp_exit ?_
    refine then_exit ?_
    refine then_exit ?_
    refine inBlock_exit ?_
    obtain rfl := it_brk hm hc74
    exact ⟨x48, S.sub ⟨rfl, trivial⟩, H, rfl⟩

/-- laws.toInt64SS -/
def laws_toInt64SS_m (fuel : Nat) (a0 : (List (List Int))) : Option ((List (List Int))) :=
  (mks (a0.length : Int) []).bind fun x31 => (iter (fun (s : (List (List Int)) × (Int)) => (match s with | (xs57, x58) => (if (decide (x58 < (a0.length : Int))) = true then (idx a0 x58).bind fun x89 => (laws_toInt64S_m fuel x89).bind fun x98 => (idx xs57 x58).bind fun _ => some (.inl ((xs57.set x58.toNat x98), (W (x58 + (1 : Int))))) else some (.inr (.inl (xs57)))) : Option (((List (List Int)) × (Int)) ⊕ (((List (List Int))) ⊕ ((List (List Int))))))) fuel (x31, (0 : Int))).bind fun res80 => ctl (β := (List (List Int))) (ρ := (List (List Int))) (τ := (List (List Int))) res80 (fun (xs79) => some (xs79)) (fun q => some (q))
set_option maxRecDepth 20000 in
theorem laws_toInt64SS_ok [dr : Dr] {w0 : World} {fuel : Nat} {p0 : Value} {a0 : (List (List Int))} {r : (List (List Int))} (h0 : Rd (rList (rList (rInt .i64))) w0 p0 a0) (hm : laws_toInt64SS_m fuel a0 = some r) :
  Calls Try.prog 10 #[p0] w0 fun e w => ∃ (v0 : Value), e = .returned (v0) ∧ Heap w0 [oA (rList (rList (rInt .i64))) v0 r] w := by
 unfold laws_toInt64SS_m at hm
 have H := Heap.start w0
 refine enter (args := [p0]) Try.func10 rfl 23 rfl (Nat.le_of_ble_eq_true rfl) (fun a S => ?_)
 refine wp_seq (region_plain ?_)
 refine lq (.slice none 0 0) S (q_assign rfl) fun a S => ?_
 refine lx_nil (thenN ?_)
 refine wp_seq (region_plain ?_)
 refine lq p0 S (q_move rfl) fun a S => ?_
 refine lq (.int .i64 (a0.length : Int)) S (q_lenSl rfl (h0).isSl rfl Try.underlying23) fun a S => ?_
 obtain ⟨x31, e32, hm⟩ := bind_some hm
 obtain ⟨m33, hn, hn2, rfl⟩ := mks_some e32
 refine lx_make (r := (rList (rInt .i64))) (z0 := []) (n := m33) S trivial (by decide) rfl H (by rw [← hn]; rfl) (by rw [← hn]; rfl) Try.underlying23 (Try.ti38) rfl rfl (Nat.le_of_ble_eq_true rfl) (fun w => (oA_list.1 drop_nil_own)) hn2 (by decide) (fun v34 w35 H => ⟨trivial, fun a S => ?_⟩)
 refine lq v34 S (q_assign rfl) fun a S => ?_
 refine lx_nil (thenN ?_)
 refine wp_seq (wp_seq (region_plain ?_))
 refine lq (.int .i64 (0 : Int)) S (q_assign rfl) fun a S => ?_
 refine lx_nil (thenN ?_)
 obtain ⟨res80, hit81, hk84⟩ := bind_some hm
 obtain ⟨f82, hf83, hit81⟩ := iter_name hit81
 refine block_loop (fun a w => ∃ (xs79 : List (List Int)), Slots a 23 [(3, v34)] ∧ Heap w0 [oA (rList (rList (rInt .i64))) v34 xs79] w ∧ res80 = .inl (xs79)) ?_ ?_
 ·rintro a w ⟨xs79, S, H, rfl⟩
  have hm := ctl_inl hk84
  refine thenN ?_
  refine wp_seq (region_plain ?_)
  refine lq v34 S (q_move rfl) fun a S => ?_
  refine lq v34 S (q_assign rfl) fun a S => ?_
  refine lx_nil (thenN ?_)
  refine wp_ret ?_
  obtain rfl := Option.some.inj hm
  exact leave1 S rfl rfl ⟨v34, rfl, H⟩
 ·skip
  refine loop_ghost (fun n a w => ∃ (xs57 : List (List Int)) (x58 : Int), Slots a 23 [(0, p0), (3, v34), (4, (.int .i64 x58))] ∧ Heap w0 [oA (rList (rList (rInt .i64))) v34 xs57] w ∧ iter f82 n (xs57, x58) = some res80) _ ⟨(List.replicate m33 []), (0 : Int), S.sub ⟨rfl, rfl, rfl, trivial⟩, H, hit81⟩ ?_
  rintro n a w ⟨xs57, x58, S, H, hit81⟩
  obtain ⟨m85, o86, rfl, hm, hc87⟩ := iter_step hit81
  rw [hf83] at hm
  refine wp_seq (wp_seq (region_plain ?_))
  refine lq (.int .i64 x58) S (q_move rfl) fun a S => ?_
  refine lq p0 S (q_move rfl) fun a S => ?_
  refine lq (.int .i64 (a0.length : Int)) S (q_lenSl rfl (h0).isSl rfl Try.underlying23) fun a S => ?_
  refine lq (.bool (decide (x58 < (a0.length : Int)))) S (q_lss rfl rfl) fun a S => ?_
  refine lx_nil (thenN ?_)
  refine cond_b S rfl (fun hc88 => ?_) (fun hc88 => ?_)
  ·have hm := ite_t hc88 hm
   refine wp_skip (thenN ?_)
   refine wp_seq ?_
   refine wp_block ?_
   refine region_plain ?_
   refine lq v34 S (q_move rfl) fun a S => ?_
   refine lq (.int .i64 x58) S (q_move rfl) fun a S => ?_
   refine lq p0 S (q_move rfl) fun a S => ?_
   refine lq (.int .i64 x58) S (q_move rfl) fun a S => ?_
   obtain ⟨x89, e90, hm⟩ := bind_some hm
   obtain ⟨c91, h92, hat93⟩ := (h0).elem (idx_some e90).2
   obtain ⟨v94, rfl, h95⟩ := rd_list h92
   have hlt := lt_of_idx (idx_some e90).2
   refine lq (ePtr p0 (x58.toNat * 1)) S (q_indexAddr rfl (h0).isSl rfl (idx_some e90).1 hlt Try.underlying23 Try.sizeOf38) fun a S => ?_
   refine lx_e v94 S trivial (by decide) rfl trivial (q_load1 rfl Try.isAgg38 (by rintro _ rfl; exact ((hat93 0 _ rfl).ext H.ext))) (fun a S => ?_)
   obtain ⟨x98, e99, hm⟩ := bind_some hm
   refine lx_call (xs := [.tmp 19]) S trivial (by decide) rfl rfl Try.call34 ((laws_toInt64S_ok (H.arg h95) e99).mono ?_)
   rintro e w96 ⟨v100, rfl, Hc97⟩
   have H := H.call1 Hc97
   refine ⟨_, rfl, trivial, fun a S => ?_⟩
   obtain ⟨x103, e104, hm⟩ := bind_some hm
   have hlt := lt_of_idx (idx_some e104).2
   refine lq (ePtr v34 (x58.toNat * 1)) S (q_indexAddr rfl (H.isSl 1 rfl) rfl (idx_some e104).1 hlt Try.underlying23 Try.sizeOf38) fun a S => ?_
   have hcl : Value.cells v100 = List.toArray [v100] := (cells_sl (H.isSl 0 rfl))
   have hon : ∀ c ∈ ([v100] : List Value), c.oneCell' = true := (List.forall_mem_cons.2 ⟨one_sl (H.isSl 0 rfl), (List.forall_mem_nil _)⟩)
   have H : Heap w0 [oA (rList (rList (rInt .i64))) v34 xs57, oA (rList (rInt .i64)) v100 x98] w96 := H.front 1 rfl
   refine lx_storeElem (r := (rList (rInt .i64))) (us := [v100]) (off := 0) (e' := x98) S trivial rfl H (ev_zero rfl) rfl (idx_some e104).2 hcl Try.sizeOf38 (Nat.le_of_ble_eq_true rfl) hon (Upd.full rfl (fun w G hG => oA_list.1 hG)) (fun w105 H => ⟨trivial, fun a S => ?_⟩)
   refine lx_nil ?_
   refine inBlock_norm ?_
   refine thenN ?_
   refine region_plain ?_
   refine lq (.int .i64 x58) S (q_move rfl) fun a S => ?_
   refine lq (.int .i64 (W (x58 + (1 : Int)))) S (q_add rfl rfl) fun a S => ?_
   refine lq (.int .i64 (W (x58 + (1 : Int)))) S (q_assign rfl) fun a S => ?_
   refine lx_nil ?_
   exact ⟨m85, Nat.lt_succ_self _, (xs57.set x58.toNat x98), (W (x58 + (1 : Int))), S.sub ⟨rfl, rfl, rfl, trivial⟩, H, it_cont hm hc87⟩
  ·have hm := ite_f hc88 hm
   refine wp_exit ?_
   refine then_exit ?_
   refine then_exit ?_
   refine inBlock_exit ?_
   obtain rfl := it_brk hm hc87
   exact ⟨xs57, S.sub ⟨rfl, trivial⟩, H, rfl⟩

/-- spec.l23Enough -/
def spec_l23Enough_m (fuel : Nat) (a0 : (List Int)) (a1 : (List Int)) (a2 : Int) (a3 : Int) : Option (Bool) :=
  (if ((a0.length : Int) == (0 : Int)) = true then some (true) else (if ((a1.length : Int) == (0 : Int)) = true then some (false) else (spec_l23Places_m fuel a2 a3).bind fun x35 => (sub a0 (0 : Int) x35).bind fun xs40 => (sub a1 (0 : Int) x35).bind fun xs42 => (spec_l01Compare_m fuel xs40 xs42).bind fun x46 => (if (decide ((0 : Int) < x46)) = true then some true else (if (x46 == (0 : Int)) = true then (spec_l23Bad_m fuel a2 a3).bind fun x57 => some (decide (x57 < (0 : Int))) else some false).bind fun t52 => some t52).bind fun t49 => some (t49)))
set_option maxRecDepth 20000 in
theorem spec_l23Enough_ok [dr : Dr] {w0 : World} {fuel : Nat} {p0 p1 : Value} {a0 : (List Int)} {a1 : (List Int)} {a2 : Int} {a3 : Int} {r : Bool} (h0 : Rd (rList (rInt .i64)) w0 p0 a0) (h1 : Rd (rList (rInt .i64)) w0 p1 a1) (hm : spec_l23Enough_m fuel a0 a1 a2 a3 = some r) :
  Calls Try.prog 62 #[p0, p1, .int .i64 a2, .int .i64 a3] w0 fun e w => e = .returned (.bool r) ∧ Heap w0 [] w := by
 unfold spec_l23Enough_m at hm
 have H := Heap.start w0
 refine enter (args := [p0, p1, .int .i64 a2, .int .i64 a3]) Try.func62 rfl 39 rfl (Nat.le_of_ble_eq_true rfl) (fun a S => ?_)
 refine wp_seq (region_plain ?_)
 refine lq (.bool false) S (q_assign rfl) fun a S => ?_
 refine lx_nil (thenN ?_)
 refine wp_seq (wp_seq (region_plain ?_))
 refine lq p0 S (q_move rfl) fun a S => ?_
 refine lq (.int .i64 (a0.length : Int)) S (q_lenSl rfl (h0).isSl rfl Try.underlying38) fun a S => ?_
 refine lq (.bool ((a0.length : Int) == (0 : Int))) S (q_eql rfl rfl) fun a S => ?_
 refine lx_nil (thenN ?_)
 refine cond_b S rfl (fun hc31 => ?_) (fun hc31 => ?_)
 ·have hm := ite_t hc31 hm
  refine wp_seq (region_plain ?_)
  refine lq (.bool true) S (q_assign rfl) fun a S => ?_
  refine lx_nil (thenN ?_)
  refine wp_ret (then_ret ?_)
  obtain rfl := Option.some.inj hm
  exact leave1 S rfl rfl ⟨rfl, H⟩
 ·have hm := ite_f hc31 hm
  refine wp_skip (thenN ?_)
  refine wp_seq (wp_seq (region_plain ?_))
  refine lq p1 S (q_move rfl) fun a S => ?_
  refine lq (.int .i64 (a1.length : Int)) S (q_lenSl rfl (h1).isSl rfl Try.underlying38) fun a S => ?_
  refine lq (.bool ((a1.length : Int) == (0 : Int))) S (q_eql rfl rfl) fun a S => ?_
  refine lx_nil (thenN ?_)
  refine cond_b S rfl (fun hc32 => ?_) (fun hc32 => ?_)
  ·have hm := ite_t hc32 hm
   refine wp_seq (region_plain ?_)
   refine lq (.bool false) S (q_assign rfl) fun a S => ?_
   refine lx_nil (thenN ?_)
   refine wp_ret (then_ret ?_)
   obtain rfl := Option.some.inj hm
   exact leave1 S rfl rfl ⟨rfl, H⟩
  ·have hm := ite_f hc32 hm
   refine wp_skip (thenN ?_)
   refine wp_seq (region_plain ?_)
   refine lq (.int .i64 a2) S (q_move rfl) fun a S => ?_
   refine lq (.int .i64 a3) S (q_move rfl) fun a S => ?_
   obtain ⟨x35, e36, hm⟩ := bind_some hm
   refine lx_call (xs := [.tmp 17, .tmp 18]) S trivial (by decide) rfl rfl Try.call82 ((spec_l23Places_ok   e36).mono ?_)
   rintro e w33 ⟨rfl, Hc34⟩
   have H := H.call0 Hc34
   refine ⟨_, rfl, trivial, fun a S => ?_⟩
   refine lq (.int .i64 x35) S (q_assign rfl) fun a S => ?_
   refine lx_nil (thenN ?_)
   refine wp_seq ?_
   refine region_drawG (fun w1 => Heap w0 [] w1) (fun i => [6].contains i) mixed (by kernel_rfl) (fun w39 he38 => ?_)
   have H := H.later he38
   refine ⟨H.sel [] (by decide), ?_⟩
   refine lq p0 S (q_move rfl) fun a S => ?_
   refine lq (.int .i64 x35) S (q_move rfl) fun a S => ?_
   obtain ⟨xs40, e41, hm⟩ := bind_some hm
   have hsb := (sub_some e41).1
   refine lq (subV p0 ((0 : Int)).toNat (x35).toNat 1) S (q_slice (lo := none) (hi := (some (.tmp 21))) (l := (0 : Int)) (h := x35) (size := 1) rfl (h0).isSl Try.underlying38 Try.sizeOf2 rfl rfl hsb.1 hsb.2.1 hsb.2.2) fun a S => ?_
   refine lq p1 S (q_move rfl) fun a S => ?_
   refine lq (.int .i64 x35) S (q_move rfl) fun a S => ?_
   obtain ⟨xs42, e43, hm⟩ := bind_some hm
   have hsb := (sub_some e43).1
   refine lq (subV p1 ((0 : Int)).toNat (x35).toNat 1) S (q_slice (lo := none) (hi := (some (.tmp 24))) (l := (0 : Int)) (h := x35) (size := 1) rfl (h1).isSl Try.underlying38 Try.sizeOf2 rfl rfl hsb.1 hsb.2.1 hsb.2.2) fun a S => ?_
   obtain ⟨x46, e47, hm⟩ := bind_some hm
   refine lx_call (xs := [.tmp 22, .tmp 25]) S trivial (by decide) rfl rfl Try.call83 ((spec_l01Compare_ok (H.arg (h0.sub e41)) (H.arg (h1.sub e43)) e47).mono ?_)
   rintro e w44 ⟨rfl, Hc45⟩
   have H := H.call0 Hc45
   refine ⟨_, rfl, H.sel [] (by decide), fun a S => ?_⟩
   refine lq (.int .i64 x46) S (q_assign rfl) fun a S => ?_
   refine lx_nil (thenN ?_)
   refine wp_seq (region_plain ?_)
   refine lq (.int .i64 x46) S (q_move rfl) fun a S => ?_
   refine lq (.bool (decide ((0 : Int) < x46))) S (q_gtr rfl rfl) fun a S => ?_
   refine lq (.bool (decide ((0 : Int) < x46))) S (q_move rfl) fun a S => ?_
   obtain ⟨t49, e50, hm⟩ := bind_some hm
   refine lx_cut 9 (fun a w => Slots a 39 [(38, (.bool t49))] ∧ Heap w0 [] w) ?_ ?_
   ·by_cases hc51 : (decide ((0 : Int) < x46)) = true
    ·have hm := ite_t hc51 e50
     refine lx_skip S rfl rfl (isB_ne hc51) (by decide) (fun a S => ?_)
     refine lx_skip S rfl rfl (isB_ne hc51) (by decide) (fun a S => ?_)
     refine lx_skip S rfl rfl (isB_ne hc51) (by decide) (fun a S => ?_)
     refine lx_skip S rfl rfl rfl (by decide) (fun a S => ?_)
     refine lx_skip S rfl rfl rfl (by decide) (fun a S => ?_)
     refine lx_skip S rfl rfl rfl (by decide) (fun a S => ?_)
     refine lx_skip S rfl rfl rfl (by decide) (fun a S => ?_)
     refine lx_skip S rfl rfl (isB_ne hc51) (by decide) (fun a S => ?_)
     refine lq (.bool true) S (q_pickT' rfl hc51 rfl) fun a S => ?_
     refine lx_nil ?_
     obtain rfl := Option.some.inj hm
     exact ⟨S.sub ⟨rfl, trivial⟩, H⟩
    ·have hm := ite_f (eq_false_of_ne_true hc51) e50
     have hc51 : (decide ((0 : Int) < x46)) = false := eq_false_of_ne_true hc51
     refine lx_q (.int .i64 x46) S (want_b rfl rfl hc51) (by decide) (q_move rfl) (fun a S => ?_)
     refine lx_q (.bool (x46 == (0 : Int))) S (want_b rfl rfl hc51) (by decide) (q_eql rfl rfl) (fun a S => ?_)
     refine lx_q (.bool (x46 == (0 : Int))) S (want_b rfl rfl hc51) (by decide) (q_move rfl) (fun a S => ?_)
     obtain ⟨t52, e53, hm⟩ := bind_some hm
     refine lx_cut 5 (fun a w => Slots a 39 [(29, (.bool (decide ((0 : Int) < x46)))), (37, (.bool t52))] ∧ Heap w0 [] w) ?_ ?_
     ·by_cases hc54 : (x46 == (0 : Int)) = true
      ·have hm := ite_t hc54 e53
       refine lx_q (.int .i64 a2) S (want_b rfl rfl hc54) (by decide) (q_move rfl) (fun a S => ?_)
       refine lx_q (.int .i64 a3) S (want_b rfl rfl hc54) (by decide) (q_move rfl) (fun a S => ?_)
       obtain ⟨x57, e58, hm⟩ := bind_some hm
       refine lx_call (xs := [.tmp 33, .tmp 34]) S (want_b rfl rfl hc54) (by decide) rfl rfl Try.call61 ((spec_l23Bad_ok   e58).mono ?_)
       rintro e w55 ⟨rfl, Hc56⟩
       have H := H.call0 Hc56
       refine ⟨_, rfl, trivial, fun a S => ?_⟩
       refine lx_q (.bool (decide (x57 < (0 : Int)))) S (want_b rfl rfl hc54) (by decide) (q_lss rfl rfl) (fun a S => ?_)
       refine lx_q (.bool (decide (x57 < (0 : Int)))) S (want_b rfl rfl hc51) (by decide) (q_pickT' rfl hc54 rfl) (fun a S => ?_)
       refine lx_nil ?_
       obtain rfl := Option.some.inj hm
       exact ⟨S.sub ⟨rfl, rfl, trivial⟩, H⟩
      ·have hm := ite_f (eq_false_of_ne_true hc54) e53
       have hc54 : (x46 == (0 : Int)) = false := eq_false_of_ne_true hc54
       refine lx_skip S rfl rfl (isB_ne hc54) (by decide) (fun a S => ?_)
       refine lx_skip S rfl rfl (isB_ne hc54) (by decide) (fun a S => ?_)
       refine lx_skip S rfl rfl (isB_ne hc54) (by decide) (fun a S => ?_)
       refine lx_skip S rfl rfl (isB_ne hc54) (by decide) (fun a S => ?_)
       refine lx_q (.bool false) S (want_b rfl rfl hc51) (by decide) (q_pickF' rfl hc54 rfl) (fun a S => ?_)
       refine lx_nil ?_
       obtain rfl := Option.some.inj hm
       exact ⟨S.sub ⟨rfl, rfl, trivial⟩, H⟩
     ·rintro a w ⟨S, H⟩
      refine lq (.bool t52) S (q_pickF' rfl hc51 rfl) fun a S => ?_
      refine lx_nil ?_
      obtain rfl := Option.some.inj hm
      exact ⟨S.sub ⟨rfl, trivial⟩, H⟩
   ·rintro a w ⟨S, H⟩
    refine lq (.bool t49) S (q_assign rfl) fun a S => ?_
    refine lx_nil (thenN ?_)
    refine wp_ret ?_
    obtain rfl := Option.some.inj hm
    exact leave1 S rfl rfl ⟨rfl, H⟩

/-- spec.l23Right -/
def spec_l23Right_m (fuel : Nat) (a0 : (List Timpl_Vertex)) (a1 : Int) (a2 : (List (List Int))) (a3 : Int) : Option (Bool) :=
  (idx a2 a3).bind fun x31 => (if ((x31.length : Int) == (0 : Int)) = true then some (true) else (iter (fun (s : (Bool) × (Int)) => (match s with | (x135, x136) => (idx a0 a3).bind fun x260 => (if (decide (x136 < (x260.2.2.length : Int))) = true then (idx a2 a3).bind fun x278 => (idx a0 a3).bind fun x285 => (idx x285.2.2 x136).bind fun x300 => (idx a2 x300).bind fun x305 => (idx a0 a3).bind fun x312 => (spec_l23Enough_m fuel x278 x305 a1 x312.2.1).bind fun x329 => (idx a0 a3).bind fun x332 => (if (x332.1 != a1) = true then some (!x329) else some false).bind fun t347 => (if t347 = true then some (.inr (.inr false)) else (if x135 = true then some true else some x329).bind fun t351 => some (.inl (t351, (W (x136 + (1 : Int)))))) else some (.inr (.inl (x135)))) : Option (((Bool) × (Int)) ⊕ ((Bool) ⊕ (Bool))))) fuel (false, (0 : Int))).bind fun res234 => ctl (β := Bool) (ρ := Bool) (τ := Bool) res234 (fun (x233) => (if x233 = true then some true else (idx a0 a3).bind fun x242 => some (x242.1 != a1)).bind fun t239 => some (t239)) (fun q => some (q)))
set_option maxRecDepth 20000 in
theorem spec_l23Right_ok [dr : Dr] {w0 : World} {fuel : Nat} {p0 p2 : Value} {a0 : (List Timpl_Vertex)} {a1 : Int} {a2 : (List (List Int))} {a3 : Int} {r : Bool} (h0 : Rd (rList Rimpl_Vertex) w0 p0 a0) (h2 : Rd (rList (rList (rInt .i64))) w0 p2 a2) (hm : spec_l23Right_m fuel a0 a1 a2 a3 = some r) :
  Calls Try.prog 32 #[p0, .int .i64 a1, p2, .int .i64 a3] w0 fun e w => e = .returned (.bool r) ∧ Heap w0 [] w := by
 unfold spec_l23Right_m at hm
 have H := Heap.start w0
 refine enter (args := [p0, .int .i64 a1, p2, .int .i64 a3]) Try.func32 rfl 75 rfl (Nat.le_of_ble_eq_true rfl) (fun a S => ?_)
 refine wp_seq (region_plain ?_)
 refine lq (.bool false) S (q_assign rfl) fun a S => ?_
 refine lx_nil (thenN ?_)
 refine wp_seq (wp_seq (region_plain ?_))
 refine lq p2 S (q_move rfl) fun a S => ?_
 refine lq (.int .i64 a3) S (q_move rfl) fun a S => ?_
 obtain ⟨x31, e32, hm⟩ := bind_some hm
 obtain ⟨c33, h34, hat35⟩ := (h2).elem (idx_some e32).2
 obtain ⟨v36, rfl, h37⟩ := rd_list h34
 have hlt := lt_of_idx (idx_some e32).2
 refine lq (ePtr p2 (a3.toNat * 1)) S (q_indexAddr rfl (h2).isSl rfl (idx_some e32).1 hlt Try.underlying23 Try.sizeOf38) fun a S => ?_
 refine lx_e v36 S trivial (by decide) rfl trivial (q_load1 rfl Try.isAgg38 (by rintro _ rfl; exact ((hat35 0 _ rfl).ext H.ext))) (fun a S => ?_)
 refine lq (.int .i64 (x31.length : Int)) S (q_lenSl rfl (h37).isSl rfl Try.underlying38) fun a S => ?_
 refine lq (.bool ((x31.length : Int) == (0 : Int))) S (q_eql rfl rfl) fun a S => ?_
 refine lx_nil (thenN ?_)
 refine cond_b S rfl (fun hc38 => ?_) (fun hc38 => ?_)
 ·have hm := ite_t hc38 hm
  refine wp_seq (region_plain ?_)
  refine lq (.bool true) S (q_assign rfl) fun a S => ?_
  refine lx_nil (thenN ?_)
  refine wp_ret (then_ret ?_)
  obtain rfl := Option.some.inj hm
  exact leave1 S rfl rfl ⟨rfl, H⟩
 ·have hm := ite_f hc38 hm
  refine wp_skip (thenN ?_)
  refine wp_seq (region_plain ?_)
  refine lq (.bool false) S (q_assign rfl) fun a S => ?_
  refine lx_nil (thenN ?_)
  refine wp_seq (wp_seq (region_plain ?_))
  refine lq (.int .i64 (0 : Int)) S (q_assign rfl) fun a S => ?_
  refine lx_nil (thenN ?_)
  obtain ⟨res234, hit235, hk238⟩ := bind_some hm
  obtain ⟨f236, hf237, hit235⟩ := iter_name hit235
  refine block_loop (fun a w => ∃ (x233 : Bool), Slots a 75 [(0, p0), (1, (.int .i64 a1)), (3, (.int .i64 a3)), (9, (.bool x233))] ∧ Heap w0 [] w ∧ res234 = .inl (x233)) ?_ ?_
  ·rintro a w ⟨x233, S, H, rfl⟩
   have hm := ctl_inl hk238
   refine thenN ?_
   refine wp_seq (region_plain ?_)
   refine lq (.bool x233) S (q_move rfl) fun a S => ?_
   refine lq (.bool x233) S (q_move rfl) fun a S => ?_
   obtain ⟨t239, e240, hm⟩ := bind_some hm
   refine lx_cut 8 (fun a w => Slots a 75 [(74, (.bool t239))] ∧ Heap w0 [] w) ?_ ?_
   ·by_cases hc241 : x233 = true
    ·have hm := ite_t hc241 e240
     refine lx_skip S rfl rfl (isB_ne hc241) (by decide) (fun a S => ?_)
     refine lx_skip S rfl rfl (isB_ne hc241) (by decide) (fun a S => ?_)
     refine lx_skip S rfl rfl (isB_ne hc241) (by decide) (fun a S => ?_)
     refine lx_skip S rfl rfl (isB_ne hc241) (by decide) (fun a S => ?_)
     refine lx_skip S rfl rfl (isB_ne hc241) (by decide) (fun a S => ?_)
     refine lx_skip S rfl rfl (isB_ne hc241) (by decide) (fun a S => ?_)
     refine lx_skip S rfl rfl (isB_ne hc241) (by decide) (fun a S => ?_)
     refine lq (.bool true) S (q_pickT' rfl hc241 rfl) fun a S => ?_
     refine lx_nil ?_
     obtain rfl := Option.some.inj hm
     exact ⟨S.sub ⟨rfl, trivial⟩, H⟩
    ·have hm := ite_f (eq_false_of_ne_true hc241) e240
     have hc241 : x233 = false := eq_false_of_ne_true hc241
     refine lx_q p0 S (want_b rfl rfl hc241) (by decide) (q_move rfl) (fun a S => ?_)
     refine lx_q (.int .i64 a3) S (want_b rfl rfl hc241) (by decide) (q_move rfl) (fun a S => ?_)
     obtain ⟨x242, e243, hm⟩ := bind_some hm
     obtain ⟨c244, h245, hat246⟩ := (h0).elem (idx_some e243).2
     obtain ⟨c249, c250, rfl, h251, h252⟩ := h245
     obtain rfl := h251
     obtain ⟨c253, c254, rfl, h255, h256⟩ := h252
     obtain rfl := h255
     obtain ⟨v247, rfl, h248⟩ := rd_list h256
     have hlt := lt_of_idx (idx_some e243).2
     refine lx_q (ePtr p0 (a3.toNat * 3)) S (want_b rfl rfl hc241) (by decide) (q_indexAddr rfl (h0).isSl rfl (idx_some e243).1 hlt Try.underlying27 Try.sizeOf53) (fun a S => ?_)
     refine lx_q (pAdd (ePtr p0 (a3.toNat * 3)) 0) S (want_b rfl rfl hc241) (by decide) (q_fieldAddr' 0 2 rfl ((hat246 0 _ rfl).isP) Try.underlying53 rfl Try.sizeOf2) (fun a S => ?_)
     refine lx_e (.int .i64 x242.1) S (want_b rfl rfl hc241) (by decide) rfl trivial (q_load1 rfl Try.isAgg2 (by rintro _ rfl; exact (At.of_add (m := 0) (j := 0) ((hat246 0 _ rfl).ext H.ext)))) (fun a S => ?_)
     refine lx_q (.int .i64 a1) S (want_b rfl rfl hc241) (by decide) (q_move rfl) (fun a S => ?_)
     refine lx_q (.bool (x242.1 != a1)) S (want_b rfl rfl hc241) (by decide) (q_neq rfl rfl) (fun a S => ?_)
     refine lq (.bool (x242.1 != a1)) S (q_pickF' rfl hc241 rfl) fun a S => ?_
     refine lx_nil ?_
     obtain rfl := Option.some.inj hm
     exact ⟨S.sub ⟨rfl, trivial⟩, H⟩
   ·rintro a w ⟨S, H⟩
    refine lq (.bool t239) S (q_assign rfl) fun a S => ?_
    refine lx_nil (thenN ?_)
    refine wp_ret ?_
    obtain rfl := Option.some.inj hm
    exact leave1 S rfl rfl ⟨rfl, H⟩
  ·skip
   refine loop_ghost (fun n a w => ∃ (x135 : Bool) (x136 : Int), Slots a 75 [(0, p0), (1, (.int .i64 a1)), (2, p2), (3, (.int .i64 a3)), (9, (.bool x135)), (10, (.int .i64 x136))] ∧ Heap w0 [] w ∧ iter f236 n (x135, x136) = some res234) _ ⟨false, (0 : Int), S.sub ⟨rfl, rfl, rfl, rfl, rfl, rfl, trivial⟩, H, hit235⟩ ?_
   rintro n a w ⟨x135, x136, S, H, hit235⟩
   obtain ⟨m257, o258, rfl, hm, hc259⟩ := iter_step hit235
   rw [hf237] at hm
   refine wp_seq (wp_seq (region_plain ?_))
   refine lq (.int .i64 x136) S (q_move rfl) fun a S => ?_
   refine lq p0 S (q_move rfl) fun a S => ?_
   refine lq (.int .i64 a3) S (q_move rfl) fun a S => ?_
   obtain ⟨x260, e261, hm⟩ := bind_some hm
   obtain ⟨c262, h263, hat264⟩ := (h0).elem (idx_some e261).2
   obtain ⟨c267, c268, rfl, h269, h270⟩ := h263
   obtain rfl := h269
   obtain ⟨c271, c272, rfl, h273, h274⟩ := h270
   obtain rfl := h273
   obtain ⟨v265, rfl, h266⟩ := rd_list h274
   have hlt := lt_of_idx (idx_some e261).2
   refine lq (ePtr p0 (a3.toNat * 3)) S (q_indexAddr rfl (h0).isSl rfl (idx_some e261).1 hlt Try.underlying27 Try.sizeOf53) fun a S => ?_
   refine lq (pAdd (ePtr p0 (a3.toNat * 3)) 2) S (q_fieldAddr' 2 38 rfl ((hat264 0 _ rfl).isP) Try.underlying53 rfl Try.sizeOf38) fun a S => ?_
   refine lx_e v265 S trivial (by decide) rfl trivial (q_load1 rfl Try.isAgg38 (by rintro _ rfl; exact (At.of_add (m := 2) (j := 0) ((hat264 2 _ rfl).ext H.ext)))) (fun a S => ?_)
   refine lq (.int .i64 (x260.2.2.length : Int)) S (q_lenSl rfl (h266).isSl rfl Try.underlying38) fun a S => ?_
   refine lq (.bool (decide (x136 < (x260.2.2.length : Int)))) S (q_lss rfl rfl) fun a S => ?_
   refine lx_nil (thenN ?_)
   refine cond_b S rfl (fun hc275 => ?_) (fun hc275 => ?_)
   ·have hm := ite_t hc275 hm
    refine wp_skip (thenN ?_)
    refine wp_seq ?_
    refine wp_block ?_
    refine wp_seq ?_
    refine region_drawG (fun w1 => Heap w0 [] w1) (fun i => [21].contains i) mixed (by kernel_rfl) (fun w277 he276 => ?_)
    have H := H.later he276
    refine ⟨H.sel [] (by decide), ?_⟩
    refine lq p2 S (q_move rfl) fun a S => ?_
    refine lq (.int .i64 a3) S (q_move rfl) fun a S => ?_
    obtain ⟨x278, e279, hm⟩ := bind_some hm
    obtain ⟨c280, h281, hat282⟩ := (h2).elem (idx_some e279).2
    obtain ⟨v283, rfl, h284⟩ := rd_list h281
    have hlt := lt_of_idx (idx_some e279).2
    refine lq (ePtr p2 (a3.toNat * 1)) S (q_indexAddr rfl (h2).isSl rfl (idx_some e279).1 hlt Try.underlying23 Try.sizeOf38) fun a S => ?_
    refine lq v283 S (q_load1 rfl Try.isAgg38 (fun w1 hC => ((hat282 0 _ rfl).ext hC.ext))) fun a S => ?_
    refine lq p2 S (q_move rfl) fun a S => ?_
    refine lq p0 S (q_move rfl) fun a S => ?_
    refine lq (.int .i64 a3) S (q_move rfl) fun a S => ?_
    obtain ⟨x285, e286, hm⟩ := bind_some hm
    obtain ⟨c287, h288, hat289⟩ := (h0).elem (idx_some e286).2
    obtain ⟨c292, c293, rfl, h294, h295⟩ := h288
    obtain rfl := h294
    obtain ⟨c296, c297, rfl, h298, h299⟩ := h295
    obtain rfl := h298
    obtain ⟨v290, rfl, h291⟩ := rd_list h299
    have hlt := lt_of_idx (idx_some e286).2
    refine lq (ePtr p0 (a3.toNat * 3)) S (q_indexAddr rfl (h0).isSl rfl (idx_some e286).1 hlt Try.underlying27 Try.sizeOf53) fun a S => ?_
    refine lq (pAdd (ePtr p0 (a3.toNat * 3)) 2) S (q_fieldAddr' 2 38 rfl ((hat289 0 _ rfl).isP) Try.underlying53 rfl Try.sizeOf38) fun a S => ?_
    refine lq v290 S (q_load1 rfl Try.isAgg38 (fun w1 hC => (At.of_add (m := 2) (j := 0) ((hat289 2 _ rfl).ext hC.ext)))) fun a S => ?_
    refine lq (.int .i64 x136) S (q_move rfl) fun a S => ?_
    obtain ⟨x300, e301, hm⟩ := bind_some hm
    obtain ⟨c302, h303, hat304⟩ := (h291).elem (idx_some e301).2
    obtain rfl := h303
    have hlt := lt_of_idx (idx_some e301).2
    refine lq (ePtr v290 (x136.toNat * 1)) S (q_indexAddr rfl (h291).isSl rfl (idx_some e301).1 hlt Try.underlying38 Try.sizeOf2) fun a S => ?_
    refine lq (.int .i64 x300) S (q_load1 rfl Try.isAgg2 (fun w1 hC => ((hat304 0 _ rfl).ext hC.ext))) fun a S => ?_
    obtain ⟨x305, e306, hm⟩ := bind_some hm
    obtain ⟨c307, h308, hat309⟩ := (h2).elem (idx_some e306).2
    obtain ⟨v310, rfl, h311⟩ := rd_list h308
    have hlt := lt_of_idx (idx_some e306).2
    refine lq (ePtr p2 (x300.toNat * 1)) S (q_indexAddr rfl (h2).isSl rfl (idx_some e306).1 hlt Try.underlying23 Try.sizeOf38) fun a S => ?_
    refine lq v310 S (q_load1 rfl Try.isAgg38 (fun w1 hC => ((hat309 0 _ rfl).ext hC.ext))) fun a S => ?_
    refine lq (.int .i64 a1) S (q_move rfl) fun a S => ?_
    refine lq p0 S (q_move rfl) fun a S => ?_
    refine lq (.int .i64 a3) S (q_move rfl) fun a S => ?_
    obtain ⟨x312, e313, hm⟩ := bind_some hm
    obtain ⟨c314, h315, hat316⟩ := (h0).elem (idx_some e313).2
    obtain ⟨c319, c320, rfl, h321, h322⟩ := h315
    obtain rfl := h321
    obtain ⟨c323, c324, rfl, h325, h326⟩ := h322
    obtain rfl := h325
    obtain ⟨v317, rfl, h318⟩ := rd_list h326
    have hlt := lt_of_idx (idx_some e313).2
    refine lq (ePtr p0 (a3.toNat * 3)) S (q_indexAddr rfl (h0).isSl rfl (idx_some e313).1 hlt Try.underlying27 Try.sizeOf53) fun a S => ?_
    refine lq (pAdd (ePtr p0 (a3.toNat * 3)) 1) S (q_fieldAddr' 1 2 rfl ((hat316 0 _ rfl).isP) Try.underlying53 rfl Try.sizeOf2) fun a S => ?_
    refine lq (.int .i64 x312.2.1) S (q_load1 rfl Try.isAgg2 (fun w1 hC => (At.of_add (m := 1) (j := 0) ((hat316 1 _ rfl).ext hC.ext)))) fun a S => ?_
    obtain ⟨x329, e330, hm⟩ := bind_some hm
    refine lx_call (xs := [.tmp 31, .tmp 42, .tmp 43, .tmp 48]) S trivial (by decide) rfl rfl Try.call62 ((spec_l23Enough_ok (H.arg h284) (H.arg h311)   e330).mono ?_)
    rintro e w327 ⟨rfl, Hc328⟩
    have H := H.call0 Hc328
    refine ⟨_, rfl, H.sel [] (by decide), fun a S => ?_⟩
    refine lq (.bool x329) S (q_assign rfl) fun a S => ?_
    refine lx_nil (thenN ?_)
    refine wp_seq (wp_seq (region_plain ?_))
    refine lq p0 S (q_move rfl) fun a S => ?_
    refine lq (.int .i64 a3) S (q_move rfl) fun a S => ?_
    obtain ⟨x332, e333, hm⟩ := bind_some hm
    obtain ⟨c334, h335, hat336⟩ := (h0).elem (idx_some e333).2
    obtain ⟨c339, c340, rfl, h341, h342⟩ := h335
    obtain rfl := h341
    obtain ⟨c343, c344, rfl, h345, h346⟩ := h342
    obtain rfl := h345
    obtain ⟨v337, rfl, h338⟩ := rd_list h346
    have hlt := lt_of_idx (idx_some e333).2
    refine lq (ePtr p0 (a3.toNat * 3)) S (q_indexAddr rfl (h0).isSl rfl (idx_some e333).1 hlt Try.underlying27 Try.sizeOf53) fun a S => ?_
    refine lq (pAdd (ePtr p0 (a3.toNat * 3)) 0) S (q_fieldAddr' 0 2 rfl ((hat336 0 _ rfl).isP) Try.underlying53 rfl Try.sizeOf2) fun a S => ?_
    refine lx_e (.int .i64 x332.1) S trivial (by decide) rfl trivial (q_load1 rfl Try.isAgg2 (by rintro _ rfl; exact (At.of_add (m := 0) (j := 0) ((hat336 0 _ rfl).ext H.ext)))) (fun a S => ?_)
    refine lq (.int .i64 a1) S (q_move rfl) fun a S => ?_
    refine lq (.bool (x332.1 != a1)) S (q_neq rfl rfl) fun a S => ?_
    refine lq (.bool (x332.1 != a1)) S (q_move rfl) fun a S => ?_
    obtain ⟨t347, e348, hm⟩ := bind_some hm
    refine lx_cut 3 (fun a w => Slots a 75 [(0, p0), (1, (.int .i64 a1)), (2, p2), (3, (.int .i64 a3)), (9, (.bool x135)), (10, (.int .i64 x136)), (11, (.bool x329)), (60, (.bool t347))] ∧ Heap w0 [] w) ?_ ?_
    ·by_cases hc349 : (x332.1 != a1) = true
     ·have hm := ite_t hc349 e348
      refine lx_q (.bool x329) S (want_b rfl rfl hc349) (by decide) (q_move rfl) (fun a S => ?_)
      refine lx_q (.bool (!x329)) S (want_b rfl rfl hc349) (by decide) (q_not rfl) (fun a S => ?_)
      refine lq (.bool (!x329)) S (q_pickT' rfl hc349 rfl) fun a S => ?_
      refine lx_nil ?_
      obtain rfl := Option.some.inj hm
      exact ⟨S.sub ⟨rfl, rfl, rfl, rfl, rfl, rfl, rfl, rfl, trivial⟩, H⟩
     ·have hm := ite_f (eq_false_of_ne_true hc349) e348
      have hc349 : (x332.1 != a1) = false := eq_false_of_ne_true hc349
      refine lx_skip S rfl rfl (isB_ne hc349) (by decide) (fun a S => ?_)
      refine lx_skip S rfl rfl (isB_ne hc349) (by decide) (fun a S => ?_)
      refine lq (.bool false) S (q_pickF' rfl hc349 rfl) fun a S => ?_
      refine lx_nil ?_
      obtain rfl := Option.some.inj hm
      exact ⟨S.sub ⟨rfl, rfl, rfl, rfl, rfl, rfl, rfl, rfl, trivial⟩, H⟩
    ·rintro a w ⟨S, H⟩
     refine lx_nil (thenN ?_)
     refine cond_b S rfl (fun hc350 => ?_) (fun hc350 => ?_)
     ·have hm := ite_t hc350 hm
      refine wp_seq (region_plain ?_)
      refine lq (.bool false) S (q_assign rfl) fun a S => ?_
      refine lx_nil (thenN ?_)
      refine wp_ret (then_ret ?_)
      refine inBlock_ret ?_
      refine then_ret ?_
      refine then_ret ?_
      refine inBlock_ret ?_
      refine then_ret ?_
      refine then_ret ?_
      obtain rfl := it_brk hm hc259
      have hm := ctl_inr hk238
      obtain rfl := Option.some.inj hm
      exact leave1 S rfl rfl ⟨rfl, H⟩
     ·have hm := ite_f hc350 hm
      refine wp_skip (thenN ?_)
      refine region_plain ?_
      refine lq (.bool x135) S (q_move rfl) fun a S => ?_
      refine lq (.bool x135) S (q_move rfl) fun a S => ?_
      obtain ⟨t351, e352, hm⟩ := bind_some hm
      refine lx_cut 2 (fun a w => Slots a 75 [(0, p0), (1, (.int .i64 a1)), (2, p2), (3, (.int .i64 a3)), (10, (.int .i64 x136)), (64, (.bool t351))] ∧ Heap w0 [] w) ?_ ?_
      ·by_cases hc353 : x135 = true
       ·have hm := ite_t hc353 e352
        refine lx_skip S rfl rfl (isB_ne hc353) (by decide) (fun a S => ?_)
        refine lq (.bool true) S (q_pickT' rfl hc353 rfl) fun a S => ?_
        refine lx_nil ?_
        obtain rfl := Option.some.inj hm
        exact ⟨S.sub ⟨rfl, rfl, rfl, rfl, rfl, rfl, trivial⟩, H⟩
       ·have hm := ite_f (eq_false_of_ne_true hc353) e352
        have hc353 : x135 = false := eq_false_of_ne_true hc353
        refine lx_q (.bool x329) S (want_b rfl rfl hc353) (by decide) (q_move rfl) (fun a S => ?_)
        refine lq (.bool x329) S (q_pickF' rfl hc353 rfl) fun a S => ?_
        refine lx_nil ?_
        obtain rfl := Option.some.inj hm
        exact ⟨S.sub ⟨rfl, rfl, rfl, rfl, rfl, rfl, trivial⟩, H⟩
      ·rintro a w ⟨S, H⟩
       refine lq (.bool t351) S (q_assign rfl) fun a S => ?_
       refine lx_nil ?_
       refine inBlock_norm ?_
       refine thenN ?_
       refine region_plain ?_
       refine lq (.int .i64 x136) S (q_move rfl) fun a S => ?_
       refine lq (.int .i64 (W (x136 + (1 : Int)))) S (q_add rfl rfl) fun a S => ?_
       refine lq (.int .i64 (W (x136 + (1 : Int)))) S (q_assign rfl) fun a S => ?_
       refine lx_nil ?_
       exact ⟨m257, Nat.lt_succ_self _, t351, (W (x136 + (1 : Int))), S.sub ⟨rfl, rfl, rfl, rfl, rfl, rfl, trivial⟩, H, it_cont hm hc259⟩
   ·have hm := ite_f hc275 hm
    refine wp_exit ?_
    refine then_exit ?_
    refine then_exit ?_
    refine inBlock_exit ?_
    obtain rfl := it_brk hm hc259
    exact ⟨x135, S.sub ⟨rfl, rfl, rfl, rfl, trivial⟩, H, rfl⟩

/-- spec.IsMeasure -/
def spec_IsMeasure_m (fuel : Nat) (a0 : (List Timpl_Vertex)) (a1 : Int) (a2 : (List (List Int))) : Option (Bool) :=
  (spec_l23Is_m fuel a0).bind fun x33 => (if (!x33) = true then some true else (spec_l00In_m fuel a1 (0 : Int) (1 : Int)).bind fun x41 => some (!x41)).bind fun t36 => (if t36 = true then some true else some ((a2.length : Int) != (a0.length : Int))).bind fun t44 => (if t44 = true then some (false) else (spec_l23Tops_m fuel a0 a1).bind fun x50 => (iter (fun (s : (Int)) => (match s with | (x155) => (if (decide (x155 < (a2.length : Int))) = true then join (κ := Option (((Int)) ⊕ ((Unit) ⊕ (Bool)))) (some (.inl ((W (x155 + (1 : Int)))))) (fun K297 => (idx a2 x155).bind fun x299 => (if ((x299.length : Int) == (0 : Int)) = true then K297 else (idx a2 x155).bind fun x307 => (if ((x307.length : Int) != (5 : Int)) = true then some (.inr (.inr false)) else (iter (fun (s : (Int)) => (match s with | (x339) => (if (decide (x339 < (5 : Int))) = true then (idx a2 x155).bind fun x375 => (idx x375 x339).bind fun x382 => (idx x50 x339).bind fun x387 => (spec_l00In_m fuel x382 (0 : Int) x387).bind fun x391 => (if (!x391) = true then some (.inr (.inr false)) else some (.inl ((W (x339 + (1 : Int)))))) else some (.inr (.inl ()))) : Option (((Int)) ⊕ ((Unit) ⊕ (Bool))))) fuel ((0 : Int))).bind fun res364 => ctl (β := Unit) (ρ := Bool) (τ := (((Int)) ⊕ ((Unit) ⊕ (Bool)))) res364 (fun _ => K297) (fun q => some (.inr (.inr q)))))) else some (.inr (.inl ()))) : Option (((Int)) ⊕ ((Unit) ⊕ (Bool))))) fuel ((0 : Int))).bind fun res256 => ctl (β := Unit) (ρ := Bool) (τ := Bool) res256 (fun _ => (iter (fun (s : (Int)) => (match s with | (x269) => (if (decide (x269 < (a2.length : Int))) = true then (spec_l23Right_m fuel a0 a1 a2 x269).bind fun x289 => (if (!x289) = true then some (.inr (.inr false)) else some (.inl ((W (x269 + (1 : Int)))))) else some (.inr (.inl ()))) : Option (((Int)) ⊕ ((Unit) ⊕ (Bool))))) fuel ((0 : Int))).bind fun res278 => ctl (β := Unit) (ρ := Bool) (τ := Bool) res278 (fun _ => some (true)) (fun q => some (q))) (fun q => some (q)))
set_option maxRecDepth 20000 in
theorem spec_IsMeasure_ok [dr : Dr] {w0 : World} {fuel : Nat} {p0 p2 : Value} {a0 : (List Timpl_Vertex)} {a1 : Int} {a2 : (List (List Int))} {r : Bool} (h0 : Rd (rList Rimpl_Vertex) w0 p0 a0) (h2 : Rd (rList (rList (rInt .i64))) w0 p2 a2) (hm : spec_IsMeasure_m fuel a0 a1 a2 = some r) :
  Calls Try.prog 8 #[p0, .int .i64 a1, p2] w0 fun e w => e = .returned (.bool r) ∧ Heap w0 [] w := by
 unfold spec_IsMeasure_m at hm
 have H := Heap.start w0
 refine enter (args := [p0, .int .i64 a1, p2]) Try.func8 rfl 76 rfl (Nat.le_of_ble_eq_true rfl) (fun a S => ?_)
 refine wp_seq (region_plain ?_)
 refine lq (.bool false) S (q_assign rfl) fun a S => ?_
 refine lx_nil (thenN ?_)
 refine wp_seq (wp_seq (region_plain ?_))
 refine lq p0 S (q_move rfl) fun a S => ?_
 obtain ⟨x33, e34, hm⟩ := bind_some hm
 refine lx_call (xs := [.tmp 11]) S trivial (by decide) rfl rfl Try.call29 ((spec_l23Is_ok (H.arg h0) e34).mono ?_)
 rintro e w31 ⟨rfl, Hc32⟩
 have H := H.call0 Hc32
 refine ⟨_, rfl, trivial, fun a S => ?_⟩
 refine lq (.bool (!x33)) S (q_not rfl) fun a S => ?_
 refine lq (.bool (!x33)) S (q_move rfl) fun a S => ?_
 obtain ⟨t36, e37, hm⟩ := bind_some hm
 refine lx_cut 4 (fun a w => Slots a 76 [(0, p0), (1, (.int .i64 a1)), (2, p2), (18, (.bool t36))] ∧ Heap w0 [] w) ?_ ?_
 ·by_cases hc38 : (!x33) = true
  ·have hm := ite_t hc38 e37
   refine lx_skip S rfl rfl (isB_ne hc38) (by decide) (fun a S => ?_)
   refine lx_skip S rfl rfl (isB_ne hc38) (by decide) (fun a S => ?_)
   refine lx_skip S rfl rfl (isB_ne hc38) (by decide) (fun a S => ?_)
   refine lq (.bool true) S (q_pickT' rfl hc38 rfl) fun a S => ?_
   refine lx_nil ?_
   obtain rfl := Option.some.inj hm
   exact ⟨S.sub ⟨rfl, rfl, rfl, rfl, trivial⟩, H⟩
  ·have hm := ite_f (eq_false_of_ne_true hc38) e37
   have hc38 : (!x33) = false := eq_false_of_ne_true hc38
   refine lx_q (.int .i64 a1) S (want_b rfl rfl hc38) (by decide) (q_move rfl) (fun a S => ?_)
   obtain ⟨x41, e42, hm⟩ := bind_some hm
   refine lx_call (xs := [.tmp 15, .const (.int .i64 (0)), .const (.int .i64 (1))]) S (want_b rfl rfl hc38) (by decide) rfl rfl Try.call30 ((spec_l00In_ok    e42).mono ?_)
   rintro e w39 ⟨rfl, Hc40⟩
   have H := H.call0 Hc40
   refine ⟨_, rfl, trivial, fun a S => ?_⟩
   refine lx_q (.bool (!x41)) S (want_b rfl rfl hc38) (by decide) (q_not rfl) (fun a S => ?_)
   refine lq (.bool (!x41)) S (q_pickF' rfl hc38 rfl) fun a S => ?_
   refine lx_nil ?_
   obtain rfl := Option.some.inj hm
   exact ⟨S.sub ⟨rfl, rfl, rfl, rfl, trivial⟩, H⟩
 ·rintro a w ⟨S, H⟩
  refine lq (.bool t36) S (q_move rfl) fun a S => ?_
  obtain ⟨t44, e45, hm⟩ := bind_some hm
  refine lx_cut 6 (fun a w => Slots a 76 [(0, p0), (1, (.int .i64 a1)), (2, p2), (25, (.bool t44))] ∧ Heap w0 [] w) ?_ ?_
  ·by_cases hc46 : t36 = true
   ·have hm := ite_t hc46 e45
    refine lx_skip S rfl rfl (isB_ne hc46) (by decide) (fun a S => ?_)
    refine lx_skip S rfl rfl (isB_ne hc46) (by decide) (fun a S => ?_)
    refine lx_skip S rfl rfl (isB_ne hc46) (by decide) (fun a S => ?_)
    refine lx_skip S rfl rfl (isB_ne hc46) (by decide) (fun a S => ?_)
    refine lx_skip S rfl rfl (isB_ne hc46) (by decide) (fun a S => ?_)
    refine lq (.bool true) S (q_pickT' rfl hc46 rfl) fun a S => ?_
    refine lx_nil ?_
    obtain rfl := Option.some.inj hm
    exact ⟨S.sub ⟨rfl, rfl, rfl, rfl, trivial⟩, H⟩
   ·have hm := ite_f (eq_false_of_ne_true hc46) e45
    have hc46 : t36 = false := eq_false_of_ne_true hc46
    refine lx_q p2 S (want_b rfl rfl hc46) (by decide) (q_move rfl) (fun a S => ?_)
    refine lx_q (.int .i64 (a2.length : Int)) S (want_b rfl rfl hc46) (by decide) (q_lenSl rfl (h2).isSl rfl Try.underlying23) (fun a S => ?_)
    refine lx_q p0 S (want_b rfl rfl hc46) (by decide) (q_move rfl) (fun a S => ?_)
    refine lx_q (.int .i64 (a0.length : Int)) S (want_b rfl rfl hc46) (by decide) (q_lenSl rfl (h0).isSl rfl Try.underlying27) (fun a S => ?_)
    refine lx_q (.bool ((a2.length : Int) != (a0.length : Int))) S (want_b rfl rfl hc46) (by decide) (q_neq rfl rfl) (fun a S => ?_)
    refine lq (.bool ((a2.length : Int) != (a0.length : Int))) S (q_pickF' rfl hc46 rfl) fun a S => ?_
    refine lx_nil ?_
    obtain rfl := Option.some.inj hm
    exact ⟨S.sub ⟨rfl, rfl, rfl, rfl, trivial⟩, H⟩
  ·rintro a w ⟨S, H⟩
   refine lx_nil (thenN ?_)
   refine cond_b S rfl (fun hc47 => ?_) (fun hc47 => ?_)
   ·have hm := ite_t hc47 hm
    refine wp_seq (region_plain ?_)
    refine lq (.bool false) S (q_assign rfl) fun a S => ?_
    refine lx_nil (thenN ?_)
    refine wp_ret (then_ret ?_)
    obtain rfl := Option.some.inj hm
    exact leave1 S rfl rfl ⟨rfl, H⟩
   ·have hm := ite_f hc47 hm
    refine wp_skip (thenN ?_)
    refine wp_seq (region_plain ?_)
    refine lq p0 S (q_move rfl) fun a S => ?_
    refine lq (.int .i64 a1) S (q_move rfl) fun a S => ?_
    obtain ⟨x50, e51, hm⟩ := bind_some hm
    refine lx_call (xs := [.tmp 26, .tmp 27]) S trivial (by decide) rfl rfl Try.call31 ((spec_l23Tops_ok (H.arg h0)  e51).mono ?_)
    rintro e w48 ⟨v52, rfl, Hc49⟩
    have H := H.call1 Hc49
    refine ⟨_, rfl, trivial, fun a S => ?_⟩
    refine lq v52 S (q_assign rfl) fun a S => ?_
    refine lx_nil (thenN ?_)
    refine wp_seq (wp_seq (region_plain ?_))
    refine lq (.int .i64 (0 : Int)) S (q_assign rfl) fun a S => ?_
    refine lx_nil (thenN ?_)
    obtain ⟨res256, hit257, hk260⟩ := bind_some hm
    obtain ⟨f258, hf259, hit257⟩ := iter_name hit257
    refine block_loop (fun a w => Slots a 76 [(0, p0), (1, (.int .i64 a1)), (2, p2)] ∧ Heap w0 [] w ∧ res256 = .inl ()) ?_ ?_
    ·rintro a w ⟨S, H, rfl⟩
     have hm := ctl_inl hk260
     refine thenN ?_
     refine wp_seq (wp_seq (region_plain ?_))
     refine lq (.int .i64 (0 : Int)) S (q_assign rfl) fun a S => ?_
     refine lx_nil (thenN ?_)
     obtain ⟨res278, hit279, hk282⟩ := bind_some hm
     obtain ⟨f280, hf281, hit279⟩ := iter_name hit279
     refine block_loop (fun a w => Slots a 76 [] ∧ Heap w0 [] w ∧ res278 = .inl ()) ?_ ?_
     ·rintro a w ⟨S, H, rfl⟩
      have hm := ctl_inl hk282
      refine thenN ?_
      refine wp_seq (region_plain ?_)
      refine lq (.bool true) S (q_assign rfl) fun a S => ?_
      refine lx_nil (thenN ?_)
      refine wp_ret ?_
      obtain rfl := Option.some.inj hm
      exact leave1 S rfl rfl ⟨rfl, H⟩
     ·skip
      refine loop_ghost (fun n a w => ∃ (x269 : Int), Slots a 76 [(0, p0), (1, (.int .i64 a1)), (2, p2), (10, (.int .i64 x269))] ∧ Heap w0 [] w ∧ iter f280 n (x269) = some res278) _ ⟨(0 : Int), S.sub ⟨rfl, rfl, rfl, rfl, trivial⟩, H, hit279⟩ ?_
      rintro n a w ⟨x269, S, H, hit279⟩
      obtain ⟨m283, o284, rfl, hm, hc285⟩ := iter_step hit279
      rw [hf281] at hm
      refine wp_seq (wp_seq (region_plain ?_))
      refine lq (.int .i64 x269) S (q_move rfl) fun a S => ?_
      refine lq p2 S (q_move rfl) fun a S => ?_
      refine lq (.int .i64 (a2.length : Int)) S (q_lenSl rfl (h2).isSl rfl Try.underlying23) fun a S => ?_
      refine lq (.bool (decide (x269 < (a2.length : Int)))) S (q_lss rfl rfl) fun a S => ?_
      refine lx_nil (thenN ?_)
      refine cond_b S rfl (fun hc286 => ?_) (fun hc286 => ?_)
      ·have hm := ite_t hc286 hm
       refine wp_skip (thenN ?_)
       refine wp_seq ?_
       refine wp_block ?_
       refine wp_seq (region_plain ?_)
       refine lq p0 S (q_move rfl) fun a S => ?_
       refine lq (.int .i64 a1) S (q_move rfl) fun a S => ?_
       refine lq p2 S (q_move rfl) fun a S => ?_
       refine lq (.int .i64 x269) S (q_move rfl) fun a S => ?_
       obtain ⟨x289, e290, hm⟩ := bind_some hm
       refine lx_call (xs := [.tmp 70, .tmp 71, .tmp 72, .tmp 73]) S trivial (by decide) rfl rfl Try.call32 ((spec_l23Right_ok (H.arg h0)  (H.arg h2)  e290).mono ?_)
       rintro e w287 ⟨rfl, Hc288⟩
       have H := H.call0 Hc288
       refine ⟨_, rfl, trivial, fun a S => ?_⟩
       refine lq (.bool (!x289)) S (q_not rfl) fun a S => ?_
       refine lx_nil (thenN ?_)
       refine cond_b S rfl (fun hc292 => ?_) (fun hc292 => ?_)
       ·have hm := ite_t hc292 hm
        refine wp_seq (region_plain ?_)
        refine lq (.bool false) S (q_assign rfl) fun a S => ?_
        refine lx_nil (thenN ?_)
        refine wp_ret (inBlock_ret ?_)
        refine then_ret ?_
        refine then_ret ?_
        refine inBlock_ret ?_
        refine then_ret ?_
        refine then_ret ?_
        obtain rfl := it_brk hm hc285
        have hm := ctl_inr hk282
        obtain rfl := Option.some.inj hm
        exact leave1 S rfl rfl ⟨rfl, H⟩
       ·have hm := ite_f hc292 hm
        refine wp_skip ?_
        refine inBlock_norm ?_
        refine thenN ?_
        refine region_plain ?_
        refine lq (.int .i64 x269) S (q_move rfl) fun a S => ?_
        refine lq (.int .i64 (W (x269 + (1 : Int)))) S (q_add rfl rfl) fun a S => ?_
        refine lq (.int .i64 (W (x269 + (1 : Int)))) S (q_assign rfl) fun a S => ?_
        refine lx_nil ?_
        exact ⟨m283, Nat.lt_succ_self _, (W (x269 + (1 : Int))), S.sub ⟨rfl, rfl, rfl, rfl, trivial⟩, H, it_cont hm hc285⟩
      ·have hm := ite_f hc286 hm
       refine wp_exit ?_
       refine then_exit ?_
       refine then_exit ?_
       refine inBlock_exit ?_
       obtain rfl := it_brk hm hc285
       exact ⟨S.sub trivial, H, rfl⟩
    ·skip
     refine loop_ghost (fun n a w => ∃ (x155 : Int), Slots a 76 [(0, p0), (1, (.int .i64 a1)), (2, p2), (7, v52), (8, (.int .i64 x155))] ∧ Heap w0 [oA (rList (rInt .i64)) v52 x50] w ∧ iter f258 n (x155) = some res256) _ ⟨(0 : Int), S.sub ⟨rfl, rfl, rfl, rfl, rfl, trivial⟩, H, hit257⟩ ?_
     rintro n a w ⟨x155, S, H, hit257⟩
     obtain ⟨m293, o294, rfl, hm, hc295⟩ := iter_step hit257
     rw [hf259] at hm
     refine wp_seq (wp_seq (region_plain ?_))
     refine lq (.int .i64 x155) S (q_move rfl) fun a S => ?_
     refine lq p2 S (q_move rfl) fun a S => ?_
     refine lq (.int .i64 (a2.length : Int)) S (q_lenSl rfl (h2).isSl rfl Try.underlying23) fun a S => ?_
     refine lq (.bool (decide (x155 < (a2.length : Int)))) S (q_lss rfl rfl) fun a S => ?_
     refine lx_nil (thenN ?_)
     refine cond_b S rfl (fun hc296 => ?_) (fun hc296 => ?_)
     ·have hm := ite_t hc296 hm
      refine wp_skip (thenN ?_)
      obtain ⟨K297, hK298, hm⟩ := join_elim hm
      refine seq_cut (fun a w => Slots a 76 [(0, p0), (1, (.int .i64 a1)), (2, p2), (7, v52), (8, (.int .i64 x155))] ∧ Heap w0 [oA (rList (rInt .i64)) v52 x50] w ∧ K297 = some o294) ?_ ?_
      ·rintro a w ⟨S, H, hm⟩
       subst hK298
       refine region_plain ?_
       refine lq (.int .i64 x155) S (q_move rfl) fun a S => ?_
       refine lq (.int .i64 (W (x155 + (1 : Int)))) S (q_add rfl rfl) fun a S => ?_
       refine lq (.int .i64 (W (x155 + (1 : Int)))) S (q_assign rfl) fun a S => ?_
       refine lx_nil ?_
       exact ⟨m293, Nat.lt_succ_self _, (W (x155 + (1 : Int))), S.sub ⟨rfl, rfl, rfl, rfl, rfl, trivial⟩, H, it_cont hm hc295⟩
      ·skip
       refine wp_block ?_
       refine wp_seq (wp_seq (region_plain ?_))
       refine lq p2 S (q_move rfl) fun a S => ?_
       refine lq (.int .i64 x155) S (q_move rfl) fun a S => ?_
       obtain ⟨x299, e300, hm⟩ := bind_some hm
       obtain ⟨c301, h302, hat303⟩ := (h2).elem (idx_some e300).2
       obtain ⟨v304, rfl, h305⟩ := rd_list h302
       have hlt := lt_of_idx (idx_some e300).2
       refine lq (ePtr p2 (x155.toNat * 1)) S (q_indexAddr rfl (h2).isSl rfl (idx_some e300).1 hlt Try.underlying23 Try.sizeOf38) fun a S => ?_
       refine lx_e v304 S trivial (by decide) rfl trivial (q_load1 rfl Try.isAgg38 (by rintro _ rfl; exact ((hat303 0 _ rfl).ext H.ext))) (fun a S => ?_)
       refine lq (.int .i64 (x299.length : Int)) S (q_lenSl rfl (h305).isSl rfl Try.underlying38) fun a S => ?_
       refine lq (.bool ((x299.length : Int) == (0 : Int))) S (q_eql rfl rfl) fun a S => ?_
       refine lx_nil (thenN ?_)
       refine cond_b S rfl (fun hc306 => ?_) (fun hc306 => ?_)
       ·have hm := ite_t hc306 hm
        refine wp_exit ?_
        refine then_exit ?_
        refine inBlock_exit ?_
        exact ⟨S.sub ⟨rfl, rfl, rfl, rfl, rfl, trivial⟩, H, hm⟩
       ·have hm := ite_f hc306 hm
        refine wp_skip (thenN ?_)
        refine wp_seq (wp_seq (region_plain ?_))
        refine lq p2 S (q_move rfl) fun a S => ?_
        refine lq (.int .i64 x155) S (q_move rfl) fun a S => ?_
        obtain ⟨x307, e308, hm⟩ := bind_some hm
        obtain ⟨c309, h310, hat311⟩ := (h2).elem (idx_some e308).2
        obtain ⟨v312, rfl, h313⟩ := rd_list h310
        have hlt := lt_of_idx (idx_some e308).2
        refine lq (ePtr p2 (x155.toNat * 1)) S (q_indexAddr rfl (h2).isSl rfl (idx_some e308).1 hlt Try.underlying23 Try.sizeOf38) fun a S => ?_
        refine lx_e v312 S trivial (by decide) rfl trivial (q_load1 rfl Try.isAgg38 (by rintro _ rfl; exact ((hat311 0 _ rfl).ext H.ext))) (fun a S => ?_)
        refine lq (.int .i64 (x307.length : Int)) S (q_lenSl rfl (h313).isSl rfl Try.underlying38) fun a S => ?_
        refine lq (.bool ((x307.length : Int) != (5 : Int))) S (q_neq rfl rfl) fun a S => ?_
        refine lx_nil (thenN ?_)
        refine cond_b S rfl (fun hc314 => ?_) (fun hc314 => ?_)
        ·have hm := ite_t hc314 hm
         refine wp_seq (region_plain ?_)
         refine lq (.bool false) S (q_assign rfl) fun a S => ?_
         refine lx_nil (thenN ?_)
         refine wp_ret (then_ret ?_)
         refine inBlock_ret ?_
         refine then_ret ?_
         refine then_ret ?_
         refine inBlock_ret ?_
         refine then_ret ?_
         refine then_ret ?_
         obtain rfl := it_brk hm hc295
         have hm := ctl_inr hk260
         obtain rfl := Option.some.inj hm
         have H : Heap w0 [] w := H.sel [] (by decide)
         exact leave1 S rfl rfl ⟨rfl, H⟩
        ·have hm := ite_f hc314 hm
         refine wp_skip (thenN ?_)
         refine wp_seq (region_plain ?_)
         refine lq (.int .i64 (0 : Int)) S (q_assign rfl) fun a S => ?_
         refine lx_nil (thenN ?_)
         obtain ⟨res364, hit365, hk368⟩ := bind_some hm
         obtain ⟨f366, hf367, hit365⟩ := iter_name hit365
         refine block_loop (fun a w => Slots a 76 [(0, p0), (1, (.int .i64 a1)), (2, p2), (7, v52), (8, (.int .i64 x155))] ∧ Heap w0 [oA (rList (rInt .i64)) v52 x50] w ∧ res364 = .inl ()) ?_ ?_
         ·rintro a w ⟨S, H, rfl⟩
          have hm := ctl_inl hk368
          refine inBlock_norm ?_
          exact ⟨S.sub ⟨rfl, rfl, rfl, rfl, rfl, trivial⟩, H, hm⟩
         ·skip
          refine loop_ghost (fun n a w => ∃ (x339 : Int), Slots a 76 [(0, p0), (1, (.int .i64 a1)), (2, p2), (7, v52), (8, (.int .i64 x155)), (9, (.int .i64 x339))] ∧ Heap w0 [oA (rList (rInt .i64)) v52 x50] w ∧ iter f366 n (x339) = some res364) _ ⟨(0 : Int), S.sub ⟨rfl, rfl, rfl, rfl, rfl, rfl, trivial⟩, H, hit365⟩ ?_
          rintro n a w ⟨x339, S, H, hit365⟩
          obtain ⟨m369, o370, rfl, hm, hc371⟩ := iter_step hit365
          rw [hf367] at hm
          refine wp_seq (wp_seq (region_plain ?_))
          refine lq (.int .i64 x339) S (q_move rfl) fun a S => ?_
          refine lq (.bool (decide (x339 < (5 : Int)))) S (q_lss rfl rfl) fun a S => ?_
          refine lx_nil (thenN ?_)
          refine cond_b S rfl (fun hc372 => ?_) (fun hc372 => ?_)
          ·have hm := ite_t hc372 hm
           refine wp_skip (thenN ?_)
           refine wp_seq ?_
           refine wp_block ?_
           refine wp_seq ?_
           refine region_drawG (fun w1 => Heap w0 [oA (rList (rInt .i64)) v52 x50] w1) (fun i => [11].contains i) mixed (by kernel_rfl) (fun w374 he373 => ?_)
           have H := H.later he373
           refine ⟨H.sel [0] (by decide), ?_⟩
           refine lq p2 S (q_move rfl) fun a S => ?_
           refine lq (.int .i64 x155) S (q_move rfl) fun a S => ?_
           obtain ⟨x375, e376, hm⟩ := bind_some hm
           obtain ⟨c377, h378, hat379⟩ := (h2).elem (idx_some e376).2
           obtain ⟨v380, rfl, h381⟩ := rd_list h378
           have hlt := lt_of_idx (idx_some e376).2
           refine lq (ePtr p2 (x155.toNat * 1)) S (q_indexAddr rfl (h2).isSl rfl (idx_some e376).1 hlt Try.underlying23 Try.sizeOf38) fun a S => ?_
           refine lq v380 S (q_load1 rfl Try.isAgg38 (fun w1 hC => ((hat379 0 _ rfl).ext hC.ext))) fun a S => ?_
           refine lq (.int .i64 x339) S (q_move rfl) fun a S => ?_
           obtain ⟨x382, e383, hm⟩ := bind_some hm
           obtain ⟨c384, h385, hat386⟩ := (h381).elem (idx_some e383).2
           obtain rfl := h385
           have hlt := lt_of_idx (idx_some e383).2
           refine lq (ePtr v380 (x339.toNat * 1)) S (q_indexAddr rfl (h381).isSl rfl (idx_some e383).1 hlt Try.underlying38 Try.sizeOf2) fun a S => ?_
           refine lq (.int .i64 x382) S (q_load1 rfl Try.isAgg2 (fun w1 hC => ((hat386 0 _ rfl).ext hC.ext))) fun a S => ?_
           refine lq v52 S (q_move rfl) fun a S => ?_
           refine lq (.int .i64 x339) S (q_move rfl) fun a S => ?_
           obtain ⟨x387, e388, hm⟩ := bind_some hm
           have hlt := lt_of_idx (idx_some e388).2
           refine lq (ePtr v52 (x339.toNat * 1)) S (q_indexAddr rfl (H.isSl 0 rfl) rfl (idx_some e388).1 hlt Try.underlying38 Try.sizeOf2) fun a S => ?_
           refine lq (.int .i64 x387) S (q_load1 rfl Try.isAgg2 (fun w1 hC => ((hC.rdAt 0 rfl).elemAt (j := 0) (idx_some e388).2 (by intro B w cs h; obtain rfl := h; rfl)))) fun a S => ?_
           obtain ⟨x391, e392, hm⟩ := bind_some hm
           refine lx_call (xs := [.tmp 57, .const (.int .i64 (0)), .tmp 61]) S trivial (by decide) rfl rfl Try.call30 ((spec_l00In_ok    e392).mono ?_)
           rintro e w389 ⟨rfl, Hc390⟩
           have H := H.call0 Hc390
           refine ⟨_, rfl, H.sel [0] (by decide), fun a S => ?_⟩
           refine lq (.bool (!x391)) S (q_not rfl) fun a S => ?_
           refine lx_nil (thenN ?_)
           refine cond_b S rfl (fun hc394 => ?_) (fun hc394 => ?_)
           ·have hm := ite_t hc394 hm
            refine wp_seq (region_plain ?_)
            refine lq (.bool false) S (q_assign rfl) fun a S => ?_
            refine lx_nil (thenN ?_)
            refine wp_ret (inBlock_ret ?_)
            refine then_ret ?_
            refine then_ret ?_
            refine inBlock_ret ?_
            refine then_ret ?_
            refine inBlock_ret ?_
            refine then_ret ?_
            refine then_ret ?_
            refine inBlock_ret ?_
            refine then_ret ?_
            refine then_ret ?_
            obtain rfl := it_brk hm hc371
            have hm := ctl_inr hk368
            obtain rfl := it_brk hm hc295
            have hm := ctl_inr hk260
            obtain rfl := Option.some.inj hm
            have H : Heap w0 [] w389 := H.sel [] (by decide)
            exact leave1 S rfl rfl ⟨rfl, H⟩
           ·have hm := ite_f hc394 hm
            refine wp_skip ?_
            refine inBlock_norm ?_
            refine thenN ?_
            refine region_plain ?_
            refine lq (.int .i64 x339) S (q_move rfl) fun a S => ?_
            refine lq (.int .i64 (W (x339 + (1 : Int)))) S (q_add rfl rfl) fun a S => ?_
            refine lq (.int .i64 (W (x339 + (1 : Int)))) S (q_assign rfl) fun a S => ?_
            refine lx_nil ?_
            exact ⟨m369, Nat.lt_succ_self _, (W (x339 + (1 : Int))), S.sub ⟨rfl, rfl, rfl, rfl, rfl, rfl, trivial⟩, H, it_cont hm hc371⟩
          ·have hm := ite_f hc372 hm
           refine wp_exit ?_
           refine then_exit ?_
           refine then_exit ?_
           refine inBlock_exit ?_
           obtain rfl := it_brk hm hc371
           exact ⟨S.sub ⟨rfl, rfl, rfl, rfl, rfl, trivial⟩, H, rfl⟩
     ·have hm := ite_f hc296 hm
      refine wp_exit ?_
      refine then_exit ?_
      refine then_exit ?_
      refine inBlock_exit ?_
      obtain rfl := it_brk hm hc295
      have H : Heap w0 [] w := H.sel [] (by decide)
      exact ⟨S.sub ⟨rfl, rfl, rfl, trivial⟩, H, rfl⟩

/-- (*impl.measured).rowOk -/
def Pimpl_measured_rowOk_m (fuel : Nat) (a0 : Timpl_measured) (a1 : (List Int)) : Option (Bool) :=
  (if ((a1.length : Int) == (0 : Int)) = true then some (true) else (if ((a1.length : Int) != (5 : Int)) = true then some (false) else (iter (fun (s : (Int)) => (match s with | (x77) => (if (decide (x77 < (a1.length : Int))) = true then (idx a1 x77).bind fun x102 => (idx [a0.2.2.1, a0.2.2.2.1, a0.2.2.2.2.1, a0.2.2.2.2.2.1, a0.2.2.2.2.2.2] x77).bind fun x107 => (impl_within_m fuel x102 (0 : Int) x107).bind fun x111 => (if (!x111) = true then some (.inr (.inr false)) else some (.inl ((W (x77 + (1 : Int)))))) else some (.inr (.inl ()))) : Option (((Int)) ⊕ ((Unit) ⊕ (Bool))))) fuel ((0 : Int))).bind fun res93 => ctl (β := Unit) (ρ := Bool) (τ := Bool) res93 (fun _ => some (true)) (fun q => some (q))))
set_option maxRecDepth 20000 in
theorem Pimpl_measured_rowOk_ok [dr : Dr] {w0 : World} {fuel : Nat} {p0 p1 : Value} {a0 : Timpl_measured} {a1 : (List Int)} {r : Bool} (h0 : Rd (rPtr Rimpl_measured) w0 p0 a0) (h1 : Rd (rList (rInt .i64)) w0 p1 a1) (hm : Pimpl_measured_rowOk_m fuel a0 a1 = some r) :
  Calls Try.prog 40 #[p0, p1] w0 fun e w => e = .returned (.bool r) ∧ Heap w0 [] w := by
 unfold Pimpl_measured_rowOk_m at hm
 have H := Heap.start w0
 obtain ⟨c31, h32, hat33⟩ := h0.ptr
 obtain ⟨c36, c37, rfl, h38, h39⟩ := h32
 obtain ⟨v34, rfl, h35⟩ := rd_list h38
 obtain ⟨c40, c41, rfl, h42, h43⟩ := h39
 obtain rfl := h42
 obtain ⟨c44, c45, rfl, h46, h47⟩ := h43
 obtain rfl := h46
 obtain ⟨c48, c49, rfl, h50, h51⟩ := h47
 obtain rfl := h50
 obtain ⟨c52, c53, rfl, h54, h55⟩ := h51
 obtain rfl := h54
 obtain ⟨c56, c57, rfl, h58, h59⟩ := h55
 obtain rfl := h58
 obtain rfl := h59
 refine enter (args := [p0, p1]) Try.func40 rfl 30 rfl (Nat.le_of_ble_eq_true rfl) (fun a S => ?_)
 refine wp_seq (region_plain ?_)
 refine lq (.bool false) S (q_assign rfl) fun a S => ?_
 refine lx_nil (thenN ?_)
 refine wp_seq (wp_seq (region_plain ?_))
 refine lq p1 S (q_move rfl) fun a S => ?_
 refine lq (.int .i64 (a1.length : Int)) S (q_lenSl rfl (h1).isSl rfl Try.underlying38) fun a S => ?_
 refine lq (.bool ((a1.length : Int) == (0 : Int))) S (q_eql rfl rfl) fun a S => ?_
 refine lx_nil (thenN ?_)
 refine cond_b S rfl (fun hc60 => ?_) (fun hc60 => ?_)
 ·have hm := ite_t hc60 hm
  refine wp_seq (region_plain ?_)
  refine lq (.bool true) S (q_assign rfl) fun a S => ?_
  refine lx_nil (thenN ?_)
  refine wp_ret (then_ret ?_)
  obtain rfl := Option.some.inj hm
  exact leave1 S rfl rfl ⟨rfl, H⟩
 ·have hm := ite_f hc60 hm
  refine wp_skip (thenN ?_)
  refine wp_seq (wp_seq (region_plain ?_))
  refine lq p1 S (q_move rfl) fun a S => ?_
  refine lq (.int .i64 (a1.length : Int)) S (q_lenSl rfl (h1).isSl rfl Try.underlying38) fun a S => ?_
  refine lq (.bool ((a1.length : Int) != (5 : Int))) S (q_neq rfl rfl) fun a S => ?_
  refine lx_nil (thenN ?_)
  refine cond_b S rfl (fun hc61 => ?_) (fun hc61 => ?_)
  ·have hm := ite_t hc61 hm
   refine wp_seq (region_plain ?_)
   refine lq (.bool false) S (q_assign rfl) fun a S => ?_
   refine lx_nil (thenN ?_)
   refine wp_ret (then_ret ?_)
   obtain rfl := Option.some.inj hm
   exact leave1 S rfl rfl ⟨rfl, H⟩
  ·have hm := ite_f hc61 hm
   refine wp_skip (thenN ?_)
   refine wp_seq (wp_seq (region_plain ?_))
   refine lq p1 S (q_move rfl) fun a S => ?_
   refine lq (.int .i64 (a1.length : Int)) S (q_lenSl rfl (h1).isSl rfl Try.underlying38) fun a S => ?_
   refine lq (.int .i64 (0 : Int)) S (q_move rfl) fun a S => ?_
   refine lx_nil (thenN ?_)
   obtain ⟨res93, hit94, hk97⟩ := bind_some hm
   obtain ⟨f95, hf96, hit94⟩ := iter_name hit94
   refine block_loop (fun a w => Slots a 30 [] ∧ Heap w0 [] w ∧ res93 = .inl ()) ?_ ?_
   ·rintro a w ⟨S, H, rfl⟩
    have hm := ctl_inl hk97
    refine thenN ?_
    refine wp_seq (region_plain ?_)
    refine lq (.bool true) S (q_assign rfl) fun a S => ?_
    refine lx_nil (thenN ?_)
    refine wp_ret ?_
    obtain rfl := Option.some.inj hm
    exact leave1 S rfl rfl ⟨rfl, H⟩
   ·skip
    refine loop_ghost (fun n a w => ∃ (x77 : Int), Slots a 30 [(0, p0), (13, p1), (14, (.int .i64 (a1.length : Int))), (15, (.int .i64 x77))] ∧ Heap w0 [] w ∧ iter f95 n (x77) = some res93) _ ⟨(0 : Int), S.sub ⟨rfl, rfl, rfl, rfl, trivial⟩, H, hit94⟩ ?_
    rintro n a w ⟨x77, S, H, hit94⟩
    obtain ⟨m98, o99, rfl, hm, hc100⟩ := iter_step hit94
    rw [hf96] at hm
    refine wp_seq (region_plain ?_)
    refine lq (.bool (decide (x77 < (a1.length : Int)))) S (q_lss rfl rfl) fun a S => ?_
    refine lx_nil (thenN ?_)
    refine wp_seq ?_
    refine cond_b S rfl (fun hc101 => ?_) (fun hc101 => ?_)
    ·have hm := ite_t hc101 hm
     refine wp_skip (thenN ?_)
     refine wp_seq ?_
     refine wp_block ?_
     refine wp_seq (region_plain ?_)
     refine lq (.int .i64 x77) S (q_move rfl) fun a S => ?_
     obtain ⟨x102, e103, hm⟩ := bind_some hm
     obtain ⟨c104, h105, hat106⟩ := (h1).elem (idx_some e103).2
     obtain rfl := h105
     have hlt := lt_of_idx (idx_some e103).2
     refine lq (ePtr p1 (x77.toNat * 1)) S (q_indexAddr rfl (h1).isSl rfl (idx_some e103).1 hlt Try.underlying38 Try.sizeOf2) fun a S => ?_
     refine lx_e (.int .i64 x102) S trivial (by decide) rfl trivial (q_load1 rfl Try.isAgg2 (by rintro _ rfl; exact ((hat106 0 _ rfl).ext H.ext))) (fun a S => ?_)
     refine lq (.int .i64 x77) S (q_assign rfl) fun a S => ?_
     refine lq (.int .i64 x102) S (q_assign rfl) fun a S => ?_
     refine lx_nil (thenN ?_)
     refine wp_seq (region_plain ?_)
     refine lq (.int .i64 x102) S (q_move rfl) fun a S => ?_
     refine lq p0 S (q_move rfl) fun a S => ?_
     refine lq (.int .i64 x77) S (q_move rfl) fun a S => ?_
     refine lq p0 S (q_nilCheck rfl ((hat33 0 _ rfl).isP)) fun a S => ?_
     refine lq (pAdd p0 2) S (q_fieldAddr' 2 85 rfl ((hat33 0 _ rfl).isP) Try.underlying87 rfl Try.sizeOf85) fun a S => ?_
     obtain ⟨x107, e108, hm⟩ := bind_some hm
     refine lq (pAdd (pAdd p0 2) (x77.toNat * 1)) S (q_indexArr rfl (((hat33 0 _ rfl).isP).add 2) rfl (idx_some e108).1 (lt_of_idx (idx_some e108).2) Try.underlying85 Try.sizeOf2) fun a S => ?_
     refine lx_e (.int .i64 x107) S trivial (by decide) rfl trivial (q_load1 rfl Try.isAgg2 (by rintro _ rfl; exact (at_idx (At.of_add (m := 2) (j := x77.toNat) ((hat33 (2 + x77.toNat) _ (arr_at (ms := [a0.2.2.1, a0.2.2.2.1, a0.2.2.2.2.1, a0.2.2.2.2.2.1, a0.2.2.2.2.2.2]) rfl (idx_some e108).2)).ext H.ext))))) (fun a S => ?_)
     obtain ⟨x111, e112, hm⟩ := bind_some hm
     refine lx_call (xs := [.tmp 20, .const (.int .i64 (0)), .tmp 26]) S trivial (by decide) rfl rfl Try.call63 ((impl_within_ok    e112).mono ?_)
     rintro e w109 ⟨rfl, Hc110⟩
     have H := H.call0 Hc110
     refine ⟨_, rfl, trivial, fun a S => ?_⟩
     refine lq (.bool (!x111)) S (q_not rfl) fun a S => ?_
     refine lx_nil (thenN ?_)
     refine cond_b S rfl (fun hc114 => ?_) (fun hc114 => ?_)
     ·have hm := ite_t hc114 hm
      refine wp_seq (region_plain ?_)
      refine lq (.bool false) S (q_assign rfl) fun a S => ?_
      refine lx_nil (thenN ?_)
      refine wp_ret (inBlock_ret ?_)
      refine then_ret ?_
      refine then_ret ?_
      refine inBlock_ret ?_
      refine then_ret ?_
      refine then_ret ?_
      obtain rfl := it_brk hm hc100
      have hm := ctl_inr hk97
      obtain rfl := Option.some.inj hm
      exact leave1 S rfl rfl ⟨rfl, H⟩
     ·have hm := ite_f hc114 hm
      refine wp_skip ?_
      refine inBlock_norm ?_
      refine thenN ?_
      refine region_plain ?_
      refine lq (.int .i64 (W (x77 + (1 : Int)))) S (q_add rfl rfl) fun a S => ?_
      refine lq (.int .i64 (W (x77 + (1 : Int)))) S (q_move rfl) fun a S => ?_
      refine lx_nil ?_
      exact ⟨m98, Nat.lt_succ_self _, (W (x77 + (1 : Int))), S.sub ⟨rfl, rfl, rfl, rfl, trivial⟩, H, it_cont hm hc100⟩
    ·have hm := ite_f hc101 hm
     refine wp_exit ?_
     refine then_exit ?_
     refine then_exit ?_
     refine inBlock_exit ?_
     obtain rfl := it_brk hm hc100
     exact ⟨S.sub trivial, H, rfl⟩

/-- impl.IsMeasure$1 -/
def impl_IsMeasure_1_m (fuel : Nat) (a0 : (List Int)) (a1 : Timpl_measured) : Option (Bool) :=
  (Pimpl_measured_rowOk_m fuel a1 a0).bind fun x38 => some ((!x38))
set_option maxRecDepth 20000 in
theorem impl_IsMeasure_1_ok [dr : Dr] {w0 : World} {fuel : Nat} {p0 p1 : Value} {a0 : (List Int)} {a1 : Timpl_measured} {r : Bool} (h0 : Rd (rList (rInt .i64)) w0 p0 a0) (h1 : Rd (rPtr (rPtr Rimpl_measured)) w0 p1 a1) (hm : impl_IsMeasure_1_m fuel a0 a1 = some r) :
  Calls Try.prog 39 #[p0, p1] w0 fun e w => e = .returned (.bool r) ∧ Heap w0 [] w := by
 unfold impl_IsMeasure_1_m at hm
 have H := Heap.start w0
 obtain ⟨c31, h32, hat33⟩ := h1.ptr
 obtain ⟨v34, rfl, h35⟩ := rd_pp h32
 refine enter (args := [p0, p1]) Try.func39 rfl 8 rfl (Nat.le_of_ble_eq_true rfl) (fun a S => ?_)
 refine wp_seq (region_plain ?_)
 refine lq (.bool false) S (q_assign rfl) fun a S => ?_
 refine lx_nil (thenN ?_)
 refine wp_seq (region_plain ?_)
 refine lx_e v34 S trivial (by decide) rfl trivial (q_load1 rfl Try.isAgg57 (by rintro _ rfl; exact ((hat33 0 _ rfl).ext H.ext))) (fun a S => ?_)
 refine lq p0 S (q_move rfl) fun a S => ?_
 obtain ⟨x38, e39, hm⟩ := bind_some hm
 refine lx_call (xs := [.tmp 4, .tmp 5]) S trivial (by decide) rfl rfl Try.call40 ((Pimpl_measured_rowOk_ok (H.arg h35) (H.arg h0) e39).mono ?_)
 rintro e w36 ⟨rfl, Hc37⟩
 have H := H.call0 Hc37
 refine ⟨_, rfl, trivial, fun a S => ?_⟩
 refine lq (.bool (!x38)) S (q_not rfl) fun a S => ?_
 refine lq (.bool (!x38)) S (q_assign rfl) fun a S => ?_
 refine lx_nil (thenN ?_)
 refine wp_ret ?_
 obtain rfl := Option.some.inj hm
 exact leave1 S rfl rfl ⟨rfl, H⟩

/-- slices.IndexFunc[[][]int64,[]int64] -/
def slices_IndexFunc___int64__int64_m (fuel : Nat) (a0 : (List (List Int))) (a1 : ((List Int) → Option Bool)) : Option (Int) :=
  (iter (fun (s : (Int)) => (match s with | (x48) => (if (decide (x48 < (a0.length : Int))) = true then (idx a0 x48).bind fun x75 => (a1 x75).bind fun x86 => (if x86 = true then some (.inr (.inr x48)) else some (.inl ((W (x48 + (1 : Int)))))) else some (.inr (.inl ()))) : Option (((Int)) ⊕ ((Unit) ⊕ (Int))))) fuel ((0 : Int))).bind fun res66 => ctl (β := Unit) (ρ := Int) (τ := Int) res66 (fun _ => some ((-1 : Int))) (fun q => some (q))
set_option maxRecDepth 20000 in
theorem slices_IndexFunc___int64__int64_ok [dr : Dr] {w0 : World} {fuel : Nat} {p0 : Value} {a0 : (List (List Int))} {a1 : ((List Int) → Option Bool)} {f1 : Nat} {fs1 cp1 : List Value} {r : Int} (h0 : Rd (rList (rList (rInt .i64))) w0 p0 a0) (hcf1 : ∀ args w, (callFunc f1 args).run Try.prog w = .ok (.enter f1 args) w) (hf1 : ∀ {w : World} {x0_ : (List Int)} {v0_ : Value} {y : Bool}, Ext w0 w → Rd (rList (rInt .i64)) w v0_ x0_ → a1 x0_ = some y → Calls Try.prog f1 (fs1 ++ ([v0_] : List Value) ++ cp1).toArray w fun e w' => e = .returned (.bool y) ∧ Heap w [] w') (hm : slices_IndexFunc___int64__int64_m fuel a0 a1 = some r) :
  Calls Try.prog 67 #[p0, .func (.func f1) fs1.toArray cp1.toArray] w0 fun e w => e = .returned (.int .i64 r) ∧ Heap w0 [] w := by
 unfold slices_IndexFunc___int64__int64_m at hm
 have H := Heap.start w0
 refine enter (args := [p0, .func (.func f1) fs1.toArray cp1.toArray]) Try.func67 rfl 19 rfl (Nat.le_of_ble_eq_true rfl) (fun a S => ?_)
 refine wp_seq (region_plain ?_)
 refine lq (.int .i64 (0 : Int)) S (q_assign rfl) fun a S => ?_
 refine lx_nil (thenN ?_)
 refine wp_seq (wp_seq (region_plain ?_))
 refine lq p0 S (q_move rfl) fun a S => ?_
 refine lq (.int .i64 (a0.length : Int)) S (q_lenSl rfl (h0).isSl rfl Try.underlying23) fun a S => ?_
 refine lq (.int .i64 (0 : Int)) S (q_move rfl) fun a S => ?_
 refine lx_nil (thenN ?_)
 obtain ⟨res66, hit67, hk70⟩ := bind_some hm
 obtain ⟨f68, hf69, hit67⟩ := iter_name hit67
 refine block_loop (fun a w => Slots a 19 [] ∧ Heap w0 [] w ∧ res66 = .inl ()) ?_ ?_
 ·rintro a w ⟨S, H, rfl⟩
  have hm := ctl_inl hk70
  refine thenN ?_
  refine wp_seq (region_plain ?_)
  refine lq (.int .i64 (-1 : Int)) S (q_assign rfl) fun a S => ?_
  refine lx_nil (thenN ?_)
  refine wp_ret ?_
  obtain rfl := Option.some.inj hm
  exact leave1 S rfl rfl ⟨rfl, H⟩
 ·skip
  refine loop_ghost (fun n a w => ∃ (x48 : Int), Slots a 19 [(0, p0), (1, (.func (.func f1) fs1.toArray cp1.toArray)), (7, (.int .i64 (a0.length : Int))), (8, (.int .i64 x48))] ∧ Heap w0 [] w ∧ iter f68 n (x48) = some res66) _ ⟨(0 : Int), S.sub ⟨rfl, rfl, rfl, rfl, trivial⟩, H, hit67⟩ ?_
  rintro n a w ⟨x48, S, H, hit67⟩
  obtain ⟨m71, o72, rfl, hm, hc73⟩ := iter_step hit67
  rw [hf69] at hm
  refine wp_seq (region_plain ?_)
  refine lq (.bool (decide (x48 < (a0.length : Int)))) S (q_lss rfl rfl) fun a S => ?_
  refine lx_nil (thenN ?_)
  refine wp_seq ?_
  refine cond_b S rfl (fun hc74 => ?_) (fun hc74 => ?_)
  ·have hm := ite_t hc74 hm
   refine wp_skip (thenN ?_)
   refine wp_seq ?_
   refine wp_block ?_
   refine wp_seq (region_plain ?_)
   refine lq (.int .i64 x48) S (q_move rfl) fun a S => ?_
   refine lq (.int .i64 x48) S (q_assign rfl) fun a S => ?_
   refine lx_nil (thenN ?_)
   refine wp_seq (region_plain ?_)
   refine lq (.func (.func f1) fs1.toArray cp1.toArray) S (q_move rfl) fun a S => ?_
   refine lq p0 S (q_move rfl) fun a S => ?_
   refine lq (.int .i64 x48) S (q_move rfl) fun a S => ?_
   obtain ⟨x75, e76, hm⟩ := bind_some hm
   obtain ⟨c77, h78, hat79⟩ := (h0).elem (idx_some e76).2
   obtain ⟨v80, rfl, h81⟩ := rd_list h78
   have hlt := lt_of_idx (idx_some e76).2
   refine lq (ePtr p0 (x48.toNat * 1)) S (q_indexAddr rfl (h0).isSl rfl (idx_some e76).1 hlt Try.underlying23 Try.sizeOf38) fun a S => ?_
   refine lx_e v80 S trivial (by decide) rfl trivial (q_load1 rfl Try.isAgg38 (by rintro _ rfl; exact ((hat79 0 _ rfl).ext H.ext))) (fun a S => ?_)
   obtain ⟨x86, e87, hm⟩ := bind_some hm
   refine lx_callV (f := f1) (first := fs1) (cap := cp1) (xs := [.tmp 15]) S trivial (by decide) rfl rfl rfl hcf1 ((hf1 H.ext (H.arg h81) e87).mono ?_)
   rintro e w84 ⟨rfl, Hc85⟩
   have H := H.call0 Hc85
   refine ⟨_, rfl, trivial, fun a S => ?_⟩
   refine lx_nil (thenN ?_)
   refine cond_b S rfl (fun hc89 => ?_) (fun hc89 => ?_)
   ·have hm := ite_t hc89 hm
    refine wp_seq (region_plain ?_)
    refine lq (.int .i64 x48) S (q_move rfl) fun a S => ?_
    refine lq (.int .i64 x48) S (q_assign rfl) fun a S => ?_
    refine lx_nil (thenN ?_)
    refine wp_ret (inBlock_ret ?_)
    refine then_ret ?_
    refine then_ret ?_
    refine inBlock_ret ?_
    refine then_ret ?_
    refine then_ret ?_
    obtain rfl := it_brk hm hc73
    have hm := ctl_inr hk70
    obtain rfl := Option.some.inj hm
    exact leave1 S rfl rfl ⟨rfl, H⟩
   ·have hm := ite_f hc89 hm
    refine wp_skip ?_
    refine inBlock_norm ?_
    refine thenN ?_
    refine region_plain ?_
    refine lq (.int .i64 (W (x48 + (1 : Int)))) S (q_add rfl rfl) fun a S => ?_
    refine lq (.int .i64 (W (x48 + (1 : Int)))) S (q_move rfl) fun a S => ?_
    refine lx_nil ?_
    exact ⟨m71, Nat.lt_succ_self _, (W (x48 + (1 : Int))), S.sub ⟨rfl, rfl, rfl, rfl, trivial⟩, H, it_cont hm hc73⟩
  ·have hm := ite_f hc74 hm
   refine wp_exit ?_
   refine then_exit ?_
   refine then_exit ?_
   refine inBlock_exit ?_
   obtain rfl := it_brk hm hc73
   exact ⟨S.sub trivial, H, rfl⟩

/-- slices.ContainsFunc[[][]int64,[]int64] -/
def slices_ContainsFunc___int64__int64_m (fuel : Nat) (a0 : (List (List Int))) (a1 : ((List Int) → Option Bool)) : Option (Bool) :=
  (slices_IndexFunc___int64__int64_m fuel a0 a1).bind fun x33 => some ((decide ((0 : Int) ≤ x33)))
set_option maxRecDepth 20000 in
theorem slices_ContainsFunc___int64__int64_ok [dr : Dr] {w0 : World} {fuel : Nat} {p0 : Value} {a0 : (List (List Int))} {a1 : ((List Int) → Option Bool)} {f1 : Nat} {fs1 cp1 : List Value} {r : Bool} (h0 : Rd (rList (rList (rInt .i64))) w0 p0 a0) (hcf1 : ∀ args w, (callFunc f1 args).run Try.prog w = .ok (.enter f1 args) w) (hf1 : ∀ {w : World} {x0_ : (List Int)} {v0_ : Value} {y : Bool}, Ext w0 w → Rd (rList (rInt .i64)) w v0_ x0_ → a1 x0_ = some y → Calls Try.prog f1 (fs1 ++ ([v0_] : List Value) ++ cp1).toArray w fun e w' => e = .returned (.bool y) ∧ Heap w [] w') (hm : slices_ContainsFunc___int64__int64_m fuel a0 a1 = some r) :
  Calls Try.prog 38 #[p0, .func (.func f1) fs1.toArray cp1.toArray] w0 fun e w => e = .returned (.bool r) ∧ Heap w0 [] w := by
 unfold slices_ContainsFunc___int64__int64_m at hm
 have H := Heap.start w0
 refine enter (args := [p0, .func (.func f1) fs1.toArray cp1.toArray]) Try.func38 rfl 9 rfl (Nat.le_of_ble_eq_true rfl) (fun a S => ?_)
 refine wp_seq (region_plain ?_)
 refine lq (.bool false) S (q_assign rfl) fun a S => ?_
 refine lx_nil (thenN ?_)
 refine wp_seq (region_plain ?_)
 refine lq p0 S (q_move rfl) fun a S => ?_
 refine lq (.func (.func f1) fs1.toArray cp1.toArray) S (q_move rfl) fun a S => ?_
 obtain ⟨x33, e34, hm⟩ := bind_some hm
 refine lx_call (xs := [.tmp 5, .tmp 6]) S trivial (by decide) rfl rfl Try.call67 ((slices_IndexFunc___int64__int64_ok (f1 := f1) (fs1 := fs1) (cp1 := cp1) (a1 := a1) (H.arg h0) hcf1 (fun he h0_ hm => hf1 ((H.ext).trans he) h0_ hm) e34).mono ?_)
 rintro e w31 ⟨rfl, Hc32⟩
 have H := H.call0 Hc32
 refine ⟨_, rfl, trivial, fun a S => ?_⟩
 refine lq (.bool (decide ((0 : Int) ≤ x33))) S (q_geq rfl rfl) fun a S => ?_
 refine lq (.bool (decide ((0 : Int) ≤ x33))) S (q_assign rfl) fun a S => ?_
 refine lx_nil (thenN ?_)
 refine wp_ret ?_
 obtain rfl := Option.some.inj hm
 exact leave1 S rfl rfl ⟨rfl, H⟩

/-- (*impl.measured).enough -/
def Pimpl_measured_enough_m (fuel : Nat) (a0 : Timpl_measured) (a1 : (List Int)) (a2 : Int) (a3 : (List Int)) : Option (Bool) :=
  (if ((a1.length : Int) == (0 : Int)) = true then some (true) else (if ((a3.length : Int) == (0 : Int)) = true then some (false) else (Pimpl_measured_upTo_m fuel a0 a2).bind fun x64 => (sub a1 (0 : Int) x64).bind fun xs69 => (sub a3 (0 : Int) x64).bind fun xs71 => (slices_Compare__int64_int64_m fuel xs69 xs71).bind fun x75 => (if (decide ((0 : Int) < x75)) = true then some true else (if (x75 == (0 : Int)) = true then some ((a2.tmod (2 : Int)) == a0.2.1) else some false).bind fun t81 => some t81).bind fun t78 => some (t78)))
set_option maxRecDepth 20000 in
theorem Pimpl_measured_enough_ok [dr : Dr] {w0 : World} {fuel : Nat} {p0 p1 p3 : Value} {a0 : Timpl_measured} {a1 : (List Int)} {a2 : Int} {a3 : (List Int)} {r : Bool} (h0 : Rd (rPtr Rimpl_measured) w0 p0 a0) (h1 : Rd (rList (rInt .i64)) w0 p1 a1) (h3 : Rd (rList (rInt .i64)) w0 p3 a3) (hm : Pimpl_measured_enough_m fuel a0 a1 a2 a3 = some r) :
  Calls Try.prog 42 #[p0, p1, .int .i64 a2, p3] w0 fun e w => e = .returned (.bool r) ∧ Heap w0 [] w := by
 unfold Pimpl_measured_enough_m at hm
 have H := Heap.start w0
 obtain ⟨c31, h32, hat33⟩ := h0.ptr
 obtain ⟨c36, c37, rfl, h38, h39⟩ := h32
 obtain ⟨v34, rfl, h35⟩ := rd_list h38
 obtain ⟨c40, c41, rfl, h42, h43⟩ := h39
 obtain rfl := h42
 obtain ⟨c44, c45, rfl, h46, h47⟩ := h43
 obtain rfl := h46
 obtain ⟨c48, c49, rfl, h50, h51⟩ := h47
 obtain rfl := h50
 obtain ⟨c52, c53, rfl, h54, h55⟩ := h51
 obtain rfl := h54
 obtain ⟨c56, c57, rfl, h58, h59⟩ := h55
 obtain rfl := h58
 obtain rfl := h59
 refine enter (args := [p0, p1, .int .i64 a2, p3]) Try.func42 rfl 44 rfl (Nat.le_of_ble_eq_true rfl) (fun a S => ?_)
 refine wp_seq (region_plain ?_)
 refine lq (.bool false) S (q_assign rfl) fun a S => ?_
 refine lx_nil (thenN ?_)
 refine wp_seq ?_
 refine wp_block ?_
 refine wp_seq (region_plain ?_)
 refine lq p1 S (q_move rfl) fun a S => ?_
 refine lq (.int .i64 (a1.length : Int)) S (q_lenSl rfl (h1).isSl rfl Try.underlying38) fun a S => ?_
 refine lq (.bool ((a1.length : Int) == (0 : Int))) S (q_eql rfl rfl) fun a S => ?_
 refine lq (.bool ((a1.length : Int) == (0 : Int))) S (q_assign rfl) fun a S => ?_
 refine lx_nil (thenN ?_)
 refine cond_b S rfl (fun hc60 => ?_) (fun hc60 => ?_)
 ·have hm := ite_t hc60 hm
  refine wp_seq (region_plain ?_)
  refine lq (.bool true) S (q_assign rfl) fun a S => ?_
  refine lx_nil (thenN ?_)
  refine wp_ret (inBlock_ret ?_)
  refine then_ret ?_
  obtain rfl := Option.some.inj hm
  exact leave1 S rfl rfl ⟨rfl, H⟩
 ·have hm := ite_f hc60 hm
  refine wp_seq (region_plain ?_)
  refine lq p3 S (q_move rfl) fun a S => ?_
  refine lq (.int .i64 (a3.length : Int)) S (q_lenSl rfl (h3).isSl rfl Try.underlying38) fun a S => ?_
  refine lq (.bool ((a3.length : Int) == (0 : Int))) S (q_eql rfl rfl) fun a S => ?_
  refine lq (.bool ((a3.length : Int) == (0 : Int))) S (q_assign rfl) fun a S => ?_
  refine lx_nil (thenN ?_)
  refine cond_b S rfl (fun hc61 => ?_) (fun hc61 => ?_)
  ·have hm := ite_t hc61 hm
   refine wp_seq (region_plain ?_)
   refine lq (.bool false) S (q_assign rfl) fun a S => ?_
   refine lx_nil (thenN ?_)
   refine wp_ret (inBlock_ret ?_)
   refine then_ret ?_
   obtain rfl := Option.some.inj hm
   exact leave1 S rfl rfl ⟨rfl, H⟩
  ·have hm := ite_f hc61 hm
   refine wp_skip ?_
   refine inBlock_norm ?_
   refine thenN ?_
   refine wp_seq (region_plain ?_)
   refine lq p0 S (q_move rfl) fun a S => ?_
   refine lq (.int .i64 a2) S (q_move rfl) fun a S => ?_
   obtain ⟨x64, e65, hm⟩ := bind_some hm
   refine lx_call (xs := [.tmp 19, .tmp 20]) S trivial (by decide) rfl rfl Try.call68 ((Pimpl_measured_upTo_ok (H.arg h0)  e65).mono ?_)
   rintro e w62 ⟨rfl, Hc63⟩
   have H := H.call0 Hc63
   refine ⟨_, rfl, trivial, fun a S => ?_⟩
   refine lq (.int .i64 x64) S (q_assign rfl) fun a S => ?_
   refine lx_nil (thenN ?_)
   refine wp_seq ?_
   refine region_drawG (fun w1 => Heap w0 [] w1) (fun i => [6].contains i) mixed (by kernel_rfl) (fun w68 he67 => ?_)
   have H := H.later he67
   refine ⟨H.sel [] (by decide), ?_⟩
   refine lq p1 S (q_move rfl) fun a S => ?_
   refine lq (.int .i64 x64) S (q_move rfl) fun a S => ?_
   obtain ⟨xs69, e70, hm⟩ := bind_some hm
   have hsb := (sub_some e70).1
   refine lq (subV p1 ((0 : Int)).toNat (x64).toNat 1) S (q_slice (lo := none) (hi := (some (.tmp 23))) (l := (0 : Int)) (h := x64) (size := 1) rfl (h1).isSl Try.underlying38 Try.sizeOf2 rfl rfl hsb.1 hsb.2.1 hsb.2.2) fun a S => ?_
   refine lq p3 S (q_move rfl) fun a S => ?_
   refine lq (.int .i64 x64) S (q_move rfl) fun a S => ?_
   obtain ⟨xs71, e72, hm⟩ := bind_some hm
   have hsb := (sub_some e72).1
   refine lq (subV p3 ((0 : Int)).toNat (x64).toNat 1) S (q_slice (lo := none) (hi := (some (.tmp 26))) (l := (0 : Int)) (h := x64) (size := 1) rfl (h3).isSl Try.underlying38 Try.sizeOf2 rfl rfl hsb.1 hsb.2.1 hsb.2.2) fun a S => ?_
   obtain ⟨x75, e76, hm⟩ := bind_some hm
   refine lx_call (xs := [.tmp 24, .tmp 27]) S trivial (by decide) rfl rfl Try.call69 ((slices_Compare__int64_int64_ok (H.arg (h1.sub e70)) (H.arg (h3.sub e72)) e76).mono ?_)
   rintro e w73 ⟨rfl, Hc74⟩
   have H := H.call0 Hc74
   refine ⟨_, rfl, H.sel [] (by decide), fun a S => ?_⟩
   refine lq (.int .i64 x75) S (q_assign rfl) fun a S => ?_
   refine lx_nil (thenN ?_)
   refine wp_seq (region_plain ?_)
   refine lq (.int .i64 x75) S (q_move rfl) fun a S => ?_
   refine lq (.bool (decide ((0 : Int) < x75))) S (q_gtr rfl rfl) fun a S => ?_
   refine lq (.bool (decide ((0 : Int) < x75))) S (q_move rfl) fun a S => ?_
   obtain ⟨t78, e79, hm⟩ := bind_some hm
   refine lx_cut 12 (fun a w => Slots a 44 [(43, (.bool t78))] ∧ Heap w0 [] w) ?_ ?_
   ·by_cases hc80 : (decide ((0 : Int) < x75)) = true
    ·have hm := ite_t hc80 e79
     refine lx_skip S rfl rfl (isB_ne hc80) (by decide) (fun a S => ?_)
     refine lx_skip S rfl rfl (isB_ne hc80) (by decide) (fun a S => ?_)
     refine lx_skip S rfl rfl (isB_ne hc80) (by decide) (fun a S => ?_)
     refine lx_skip S rfl rfl rfl (by decide) (fun a S => ?_)
     refine lx_skip S rfl rfl rfl (by decide) (fun a S => ?_)
     refine lx_skip S rfl rfl rfl (by decide) (fun a S => ?_)
     refine lx_skip S rfl rfl rfl (by decide) (fun a S => ?_)
     refine lx_skip S rfl rfl rfl (by decide) (fun a S => ?_)
     refine lx_skip S rfl rfl rfl (by decide) (fun a S => ?_)
     refine lx_skip S rfl rfl rfl (by decide) (fun a S => ?_)
     refine lx_skip S rfl rfl (isB_ne hc80) (by decide) (fun a S => ?_)
     refine lq (.bool true) S (q_pickT' rfl hc80 rfl) fun a S => ?_
     refine lx_nil ?_
     obtain rfl := Option.some.inj hm
     exact ⟨S.sub ⟨rfl, trivial⟩, H⟩
    ·have hm := ite_f (eq_false_of_ne_true hc80) e79
     have hc80 : (decide ((0 : Int) < x75)) = false := eq_false_of_ne_true hc80
     refine lx_q (.int .i64 x75) S (want_b rfl rfl hc80) (by decide) (q_move rfl) (fun a S => ?_)
     refine lx_q (.bool (x75 == (0 : Int))) S (want_b rfl rfl hc80) (by decide) (q_eql rfl rfl) (fun a S => ?_)
     refine lx_q (.bool (x75 == (0 : Int))) S (want_b rfl rfl hc80) (by decide) (q_move rfl) (fun a S => ?_)
     obtain ⟨t81, e82, hm⟩ := bind_some hm
     refine lx_cut 8 (fun a w => Slots a 44 [(31, (.bool (decide ((0 : Int) < x75)))), (42, (.bool t81))] ∧ Heap w0 [] w) ?_ ?_
     ·by_cases hc83 : (x75 == (0 : Int)) = true
      ·have hm := ite_t hc83 e82
       refine lx_q (.int .i64 a2) S (want_b rfl rfl hc83) (by decide) (q_move rfl) (fun a S => ?_)
       refine lx_q (.int .i64 (a2.tmod (2 : Int))) S (want_b rfl rfl hc83) (by decide) (q_rem rfl rfl (show (2 : Int) ≠ 0 from by decide)) (fun a S => ?_)
       refine lx_q p0 S (want_b rfl rfl hc83) (by decide) (q_move rfl) (fun a S => ?_)
       refine lx_q p0 S (want_b rfl rfl hc83) (by decide) (q_nilCheck rfl ((hat33 0 _ rfl).isP)) (fun a S => ?_)
       refine lx_q (pAdd p0 1) S (want_b rfl rfl hc83) (by decide) (q_fieldAddr' 1 2 rfl ((hat33 0 _ rfl).isP) Try.underlying87 rfl Try.sizeOf2) (fun a S => ?_)
       refine lx_e (.int .i64 a0.2.1) S (want_b rfl rfl hc83) (by decide) rfl trivial (q_load1 rfl Try.isAgg2 (by rintro _ rfl; exact (At.of_add (m := 1) (j := 0) ((hat33 1 _ rfl).ext H.ext)))) (fun a S => ?_)
       refine lx_q (.bool ((a2.tmod (2 : Int)) == a0.2.1)) S (want_b rfl rfl hc83) (by decide) (q_eql rfl rfl) (fun a S => ?_)
       refine lx_q (.bool ((a2.tmod (2 : Int)) == a0.2.1)) S (want_b rfl rfl hc80) (by decide) (q_pickT' rfl hc83 rfl) (fun a S => ?_)
       refine lx_nil ?_
       obtain rfl := Option.some.inj hm
       exact ⟨S.sub ⟨rfl, rfl, trivial⟩, H⟩
      ·have hm := ite_f (eq_false_of_ne_true hc83) e82
       have hc83 : (x75 == (0 : Int)) = false := eq_false_of_ne_true hc83
       refine lx_skip S rfl rfl (isB_ne hc83) (by decide) (fun a S => ?_)
       refine lx_skip S rfl rfl (isB_ne hc83) (by decide) (fun a S => ?_)
       refine lx_skip S rfl rfl (isB_ne hc83) (by decide) (fun a S => ?_)
       refine lx_skip S rfl rfl (isB_ne hc83) (by decide) (fun a S => ?_)
       refine lx_skip S rfl rfl (isB_ne hc83) (by decide) (fun a S => ?_)
       refine lx_skip S rfl rfl (isB_ne hc83) (by decide) (fun a S => ?_)
       refine lx_skip S rfl rfl (isB_ne hc83) (by decide) (fun a S => ?_)
       refine lx_q (.bool false) S (want_b rfl rfl hc80) (by decide) (q_pickF' rfl hc83 rfl) (fun a S => ?_)
       refine lx_nil ?_
       obtain rfl := Option.some.inj hm
       exact ⟨S.sub ⟨rfl, rfl, trivial⟩, H⟩
     ·rintro a w ⟨S, H⟩
      refine lq (.bool t81) S (q_pickF' rfl hc80 rfl) fun a S => ?_
      refine lx_nil ?_
      obtain rfl := Option.some.inj hm
      exact ⟨S.sub ⟨rfl, trivial⟩, H⟩
   ·rintro a w ⟨S, H⟩
    refine lq (.bool t78) S (q_assign rfl) fun a S => ?_
    refine lx_nil (thenN ?_)
    refine wp_ret ?_
    obtain rfl := Option.some.inj hm
    exact leave1 S rfl rfl ⟨rfl, H⟩

/-- impl.IsMeasure$2 -/
def impl_IsMeasure_2_m (fuel : Nat) (a0 : Int) (a1 : Timpl_measured) (a2 : (List (List Int))) (a3 : Int) (a4 : Timpl_Vertex) : Option (Bool) :=
  (idx a2 a3).bind fun x59 => (idx a2 a0).bind fun x66 => (Pimpl_measured_enough_m fuel a1 x59 a4.2.1 x66).bind fun x75 => some (x75)
set_option maxRecDepth 20000 in
theorem impl_IsMeasure_2_ok [dr : Dr] {w0 : World} {fuel : Nat} {p1 p2 p3 p4 : Value} {a0 : Int} {a1 : Timpl_measured} {a2 : (List (List Int))} {a3 : Int} {a4 : Timpl_Vertex} {r : Bool} (h1 : Rd (rPtr (rPtr Rimpl_measured)) w0 p1 a1) (h2 : Rd (rPtr (rList (rList (rInt .i64)))) w0 p2 a2) (h3 : Rd (rPtr (rInt .i64)) w0 p3 a3) (h4 : Rd (rPtr Rimpl_Vertex) w0 p4 a4) (hm : impl_IsMeasure_2_m fuel a0 a1 a2 a3 a4 = some r) :
  Calls Try.prog 41 #[.int .i64 a0, p1, p2, p3, p4] w0 fun e w => e = .returned (.bool r) ∧ Heap w0 [] w := by
 unfold impl_IsMeasure_2_m at hm
 have H := Heap.start w0
 obtain ⟨c31, h32, hat33⟩ := h1.ptr
 obtain ⟨v34, rfl, h35⟩ := rd_pp h32
 obtain ⟨c36, h37, hat38⟩ := h2.ptr
 obtain ⟨v39, rfl, h40⟩ := rd_list h37
 obtain ⟨c41, h42, hat43⟩ := h3.ptr
 obtain rfl := h42
 obtain ⟨c44, h45, hat46⟩ := h4.ptr
 obtain ⟨c49, c50, rfl, h51, h52⟩ := h45
 obtain rfl := h51
 obtain ⟨c53, c54, rfl, h55, h56⟩ := h52
 obtain rfl := h55
 obtain ⟨v47, rfl, h48⟩ := rd_list h56
 refine enter (args := [.int .i64 a0, p1, p2, p3, p4]) Try.func41 rfl 19 rfl (Nat.le_of_ble_eq_true rfl) (fun a S => ?_)
 refine wp_seq (region_plain ?_)
 refine lq (.bool false) S (q_assign rfl) fun a S => ?_
 refine lx_nil (thenN ?_)
 refine wp_seq ?_
 refine region_drawG (fun w1 => Heap w0 [] w1) (fun i => [11].contains i) mixed (by kernel_rfl) (fun w58 he57 => ?_)
 have H := H.later he57
 refine ⟨H.sel [] (by decide), ?_⟩
 refine lq v34 S (q_load1 rfl Try.isAgg57 (fun w1 hC => ((hat33 0 _ rfl).ext hC.ext))) fun a S => ?_
 refine lq v39 S (q_load1 rfl Try.isAgg23 (fun w1 hC => ((hat38 0 _ rfl).ext hC.ext))) fun a S => ?_
 refine lq (.int .i64 a3) S (q_load1 rfl Try.isAgg3 (fun w1 hC => ((hat43 0 _ rfl).ext hC.ext))) fun a S => ?_
 obtain ⟨x59, e60, hm⟩ := bind_some hm
 obtain ⟨c61, h62, hat63⟩ := (h40).elem (idx_some e60).2
 obtain ⟨v64, rfl, h65⟩ := rd_list h62
 have hlt := lt_of_idx (idx_some e60).2
 refine lq (ePtr v39 (a3.toNat * 1)) S (q_indexAddr rfl (h40).isSl rfl (idx_some e60).1 hlt Try.underlying23 Try.sizeOf38) fun a S => ?_
 refine lq v64 S (q_load1 rfl Try.isAgg38 (fun w1 hC => ((hat63 0 _ rfl).ext hC.ext))) fun a S => ?_
 refine lq (pAdd p4 1) S (q_fieldAddr' 1 2 rfl ((hat46 0 _ rfl).isP) Try.underlying53 rfl Try.sizeOf2) fun a S => ?_
 refine lq (.int .i64 a4.2.1) S (q_load1 rfl Try.isAgg2 (fun w1 hC => (At.of_add (m := 1) (j := 0) ((hat46 1 _ rfl).ext hC.ext)))) fun a S => ?_
 refine lq v39 S (q_load1 rfl Try.isAgg23 (fun w1 hC => ((hat38 0 _ rfl).ext hC.ext))) fun a S => ?_
 refine lq (.int .i64 a0) S (q_move rfl) fun a S => ?_
 obtain ⟨x66, e67, hm⟩ := bind_some hm
 obtain ⟨c68, h69, hat70⟩ := (h40).elem (idx_some e67).2
 obtain ⟨v71, rfl, h72⟩ := rd_list h69
 have hlt := lt_of_idx (idx_some e67).2
 refine lq (ePtr v39 (a0.toNat * 1)) S (q_indexAddr rfl (h40).isSl rfl (idx_some e67).1 hlt Try.underlying23 Try.sizeOf38) fun a S => ?_
 refine lq v71 S (q_load1 rfl Try.isAgg38 (fun w1 hC => ((hat70 0 _ rfl).ext hC.ext))) fun a S => ?_
 obtain ⟨x75, e76, hm⟩ := bind_some hm
 refine lx_call (xs := [.tmp 7, .tmp 11, .tmp 13, .tmp 17]) S trivial (by decide) rfl rfl Try.call42 ((Pimpl_measured_enough_ok (H.arg h35) (H.arg h65)  (H.arg h72) e76).mono ?_)
 rintro e w73 ⟨rfl, Hc74⟩
 have H := H.call0 Hc74
 refine ⟨_, rfl, H.sel [] (by decide), fun a S => ?_⟩
 refine lq (.bool x75) S (q_assign rfl) fun a S => ?_
 refine lx_nil (thenN ?_)
 refine wp_ret ?_
 obtain rfl := Option.some.inj hm
 exact leave1 S rfl rfl ⟨rfl, H⟩

/-- slices.IndexFunc[[]int64,int64] -/
def slices_IndexFunc__int64_int64_m (fuel : Nat) (a0 : (List Int)) (a1 : (Int → Option Bool)) : Option (Int) :=
  (iter (fun (s : (Int)) => (match s with | (x46) => (if (decide (x46 < (a0.length : Int))) = true then (idx a0 x46).bind fun x71 => (a1 x71).bind fun x80 => (if x80 = true then some (.inr (.inr x46)) else some (.inl ((W (x46 + (1 : Int)))))) else some (.inr (.inl ()))) : Option (((Int)) ⊕ ((Unit) ⊕ (Int))))) fuel ((0 : Int))).bind fun res62 => ctl (β := Unit) (ρ := Int) (τ := Int) res62 (fun _ => some ((-1 : Int))) (fun q => some (q))
set_option maxRecDepth 20000 in
theorem slices_IndexFunc__int64_int64_ok [dr : Dr] {w0 : World} {fuel : Nat} {p0 : Value} {a0 : (List Int)} {a1 : (Int → Option Bool)} {f1 : Nat} {fs1 cp1 : List Value} {r : Int} (h0 : Rd (rList (rInt .i64)) w0 p0 a0) (hcf1 : ∀ args w, (callFunc f1 args).run Try.prog w = .ok (.enter f1 args) w) (hf1 : ∀ {w : World} {x0_ : Int} {y : Bool}, Ext w0 w → a1 x0_ = some y → Calls Try.prog f1 (fs1 ++ ([.int .i64 x0_] : List Value) ++ cp1).toArray w fun e w' => e = .returned (.bool y) ∧ Heap w [] w') (hm : slices_IndexFunc__int64_int64_m fuel a0 a1 = some r) :
  Calls Try.prog 70 #[p0, .func (.func f1) fs1.toArray cp1.toArray] w0 fun e w => e = .returned (.int .i64 r) ∧ Heap w0 [] w := by
 unfold slices_IndexFunc__int64_int64_m at hm
 have H := Heap.start w0
 refine enter (args := [p0, .func (.func f1) fs1.toArray cp1.toArray]) Try.func70 rfl 19 rfl (Nat.le_of_ble_eq_true rfl) (fun a S => ?_)
 refine wp_seq (region_plain ?_)
 refine lq (.int .i64 (0 : Int)) S (q_assign rfl) fun a S => ?_
 refine lx_nil (thenN ?_)
 refine wp_seq (wp_seq (region_plain ?_))
 refine lq p0 S (q_move rfl) fun a S => ?_
 refine lq (.int .i64 (a0.length : Int)) S (q_lenSl rfl (h0).isSl rfl Try.underlying38) fun a S => ?_
 refine lq (.int .i64 (0 : Int)) S (q_move rfl) fun a S => ?_
 refine lx_nil (thenN ?_)
 obtain ⟨res62, hit63, hk66⟩ := bind_some hm
 obtain ⟨f64, hf65, hit63⟩ := iter_name hit63
 refine block_loop (fun a w => Slots a 19 [] ∧ Heap w0 [] w ∧ res62 = .inl ()) ?_ ?_
 ·rintro a w ⟨S, H, rfl⟩
  have hm := ctl_inl hk66
  refine thenN ?_
  refine wp_seq (region_plain ?_)
  refine lq (.int .i64 (-1 : Int)) S (q_assign rfl) fun a S => ?_
  refine lx_nil (thenN ?_)
  refine wp_ret ?_
  obtain rfl := Option.some.inj hm
  exact leave1 S rfl rfl ⟨rfl, H⟩
 ·skip
  refine loop_ghost (fun n a w => ∃ (x46 : Int), Slots a 19 [(0, p0), (1, (.func (.func f1) fs1.toArray cp1.toArray)), (7, (.int .i64 (a0.length : Int))), (8, (.int .i64 x46))] ∧ Heap w0 [] w ∧ iter f64 n (x46) = some res62) _ ⟨(0 : Int), S.sub ⟨rfl, rfl, rfl, rfl, trivial⟩, H, hit63⟩ ?_
  rintro n a w ⟨x46, S, H, hit63⟩
  obtain ⟨m67, o68, rfl, hm, hc69⟩ := iter_step hit63
  rw [hf65] at hm
  refine wp_seq (region_plain ?_)
  refine lq (.bool (decide (x46 < (a0.length : Int)))) S (q_lss rfl rfl) fun a S => ?_
  refine lx_nil (thenN ?_)
  refine wp_seq ?_
  refine cond_b S rfl (fun hc70 => ?_) (fun hc70 => ?_)
  ·have hm := ite_t hc70 hm
   refine wp_skip (thenN ?_)
   refine wp_seq ?_
   refine wp_block ?_
   refine wp_seq (region_plain ?_)
   refine lq (.int .i64 x46) S (q_move rfl) fun a S => ?_
   refine lq (.int .i64 x46) S (q_assign rfl) fun a S => ?_
   refine lx_nil (thenN ?_)
   refine wp_seq (region_plain ?_)
   refine lq (.func (.func f1) fs1.toArray cp1.toArray) S (q_move rfl) fun a S => ?_
   refine lq p0 S (q_move rfl) fun a S => ?_
   refine lq (.int .i64 x46) S (q_move rfl) fun a S => ?_
   obtain ⟨x71, e72, hm⟩ := bind_some hm
   obtain ⟨c73, h74, hat75⟩ := (h0).elem (idx_some e72).2
   obtain rfl := h74
   have hlt := lt_of_idx (idx_some e72).2
   refine lq (ePtr p0 (x46.toNat * 1)) S (q_indexAddr rfl (h0).isSl rfl (idx_some e72).1 hlt Try.underlying38 Try.sizeOf2) fun a S => ?_
   refine lx_e (.int .i64 x71) S trivial (by decide) rfl trivial (q_load1 rfl Try.isAgg2 (by rintro _ rfl; exact ((hat75 0 _ rfl).ext H.ext))) (fun a S => ?_)
   obtain ⟨x80, e81, hm⟩ := bind_some hm
   refine lx_callV (f := f1) (first := fs1) (cap := cp1) (xs := [.tmp 15]) S trivial (by decide) rfl rfl rfl hcf1 ((hf1 H.ext  e81).mono ?_)
   rintro e w78 ⟨rfl, Hc79⟩
   have H := H.call0 Hc79
   refine ⟨_, rfl, trivial, fun a S => ?_⟩
   refine lx_nil (thenN ?_)
   refine cond_b S rfl (fun hc83 => ?_) (fun hc83 => ?_)
   ·have hm := ite_t hc83 hm
    refine wp_seq (region_plain ?_)
    refine lq (.int .i64 x46) S (q_move rfl) fun a S => ?_
    refine lq (.int .i64 x46) S (q_assign rfl) fun a S => ?_
    refine lx_nil (thenN ?_)
    refine wp_ret (inBlock_ret ?_)
    refine then_ret ?_
    refine then_ret ?_
    refine inBlock_ret ?_
    refine then_ret ?_
    refine then_ret ?_
    obtain rfl := it_brk hm hc69
    have hm := ctl_inr hk66
    obtain rfl := Option.some.inj hm
    exact leave1 S rfl rfl ⟨rfl, H⟩
   ·have hm := ite_f hc83 hm
    refine wp_skip ?_
    refine inBlock_norm ?_
    refine thenN ?_
    refine region_plain ?_
    refine lq (.int .i64 (W (x46 + (1 : Int)))) S (q_add rfl rfl) fun a S => ?_
    refine lq (.int .i64 (W (x46 + (1 : Int)))) S (q_move rfl) fun a S => ?_
    refine lx_nil ?_
    exact ⟨m67, Nat.lt_succ_self _, (W (x46 + (1 : Int))), S.sub ⟨rfl, rfl, rfl, rfl, trivial⟩, H, it_cont hm hc69⟩
  ·have hm := ite_f hc70 hm
   refine wp_exit ?_
   refine then_exit ?_
   refine then_exit ?_
   refine inBlock_exit ?_
   obtain rfl := it_brk hm hc69
   exact ⟨S.sub trivial, H, rfl⟩

/-- slices.ContainsFunc[[]int64,int64] -/
def slices_ContainsFunc__int64_int64_m (fuel : Nat) (a0 : (List Int)) (a1 : (Int → Option Bool)) : Option (Bool) :=
  (slices_IndexFunc__int64_int64_m fuel a0 a1).bind fun x33 => some ((decide ((0 : Int) ≤ x33)))
set_option maxRecDepth 20000 in
theorem slices_ContainsFunc__int64_int64_ok [dr : Dr] {w0 : World} {fuel : Nat} {p0 : Value} {a0 : (List Int)} {a1 : (Int → Option Bool)} {f1 : Nat} {fs1 cp1 : List Value} {r : Bool} (h0 : Rd (rList (rInt .i64)) w0 p0 a0) (hcf1 : ∀ args w, (callFunc f1 args).run Try.prog w = .ok (.enter f1 args) w) (hf1 : ∀ {w : World} {x0_ : Int} {y : Bool}, Ext w0 w → a1 x0_ = some y → Calls Try.prog f1 (fs1 ++ ([.int .i64 x0_] : List Value) ++ cp1).toArray w fun e w' => e = .returned (.bool y) ∧ Heap w [] w') (hm : slices_ContainsFunc__int64_int64_m fuel a0 a1 = some r) :
  Calls Try.prog 43 #[p0, .func (.func f1) fs1.toArray cp1.toArray] w0 fun e w => e = .returned (.bool r) ∧ Heap w0 [] w := by
 unfold slices_ContainsFunc__int64_int64_m at hm
 have H := Heap.start w0
 refine enter (args := [p0, .func (.func f1) fs1.toArray cp1.toArray]) Try.func43 rfl 9 rfl (Nat.le_of_ble_eq_true rfl) (fun a S => ?_)
 refine wp_seq (region_plain ?_)
 refine lq (.bool false) S (q_assign rfl) fun a S => ?_
 refine lx_nil (thenN ?_)
 refine wp_seq (region_plain ?_)
 refine lq p0 S (q_move rfl) fun a S => ?_
 refine lq (.func (.func f1) fs1.toArray cp1.toArray) S (q_move rfl) fun a S => ?_
 obtain ⟨x33, e34, hm⟩ := bind_some hm
 refine lx_call (xs := [.tmp 5, .tmp 6]) S trivial (by decide) rfl rfl Try.call70 ((slices_IndexFunc__int64_int64_ok (f1 := f1) (fs1 := fs1) (cp1 := cp1) (a1 := a1) (H.arg h0) hcf1 (fun he  hm => hf1 ((H.ext).trans he)  hm) e34).mono ?_)
 rintro e w31 ⟨rfl, Hc32⟩
 have H := H.call0 Hc32
 refine ⟨_, rfl, trivial, fun a S => ?_⟩
 refine lq (.bool (decide ((0 : Int) ≤ x33))) S (q_geq rfl rfl) fun a S => ?_
 refine lq (.bool (decide ((0 : Int) ≤ x33))) S (q_assign rfl) fun a S => ?_
 refine lx_nil (thenN ?_)
 refine wp_ret ?_
 obtain rfl := Option.some.inj hm
 exact leave1 S rfl rfl ⟨rfl, H⟩

/-- impl.IsMeasure$3 -/
def impl_IsMeasure_3_m (fuel : Nat) (a0 : Int) (b1 : Timpl_measured) (b2 : (List (List Int))) (b3 : Int) (b4 : Timpl_Vertex) : Option (Bool) :=
  (impl_IsMeasure_2_m fuel a0 b1 b2 b3 b4).bind fun x => some (!x)
set_option maxRecDepth 20000 in
theorem impl_IsMeasure_3_ok [dr : Dr] {w0 : World} {fuel : Nat} {p1 q1 q2 q3 q4 : Value} {a0 : Int} {b1 : Timpl_measured} {b2 : (List (List Int))} {b3 : Int} {b4 : Timpl_Vertex} {r : Bool} (hf : At w0 p1 0 (.func (.func 41) #[] #[q1, q2, q3, q4])) (h1 : Rd (rPtr (rPtr Rimpl_measured)) w0 q1 b1) (h2 : Rd (rPtr (rList (rList (rInt .i64)))) w0 q2 b2) (h3 : Rd (rPtr (rInt .i64)) w0 q3 b3) (h4 : Rd (rPtr Rimpl_Vertex) w0 q4 b4) (hm : impl_IsMeasure_3_m fuel a0 b1 b2 b3 b4 = some r) :
  Calls Try.prog 44 #[.int .i64 a0, p1] w0 fun e w => e = .returned (.bool r) ∧ Heap w0 [] w := by
 unfold impl_IsMeasure_3_m at hm
 have H := Heap.start w0
 refine enter (args := [.int .i64 a0, p1]) Try.func44 rfl 8 rfl (Nat.le_of_ble_eq_true rfl) (fun a S => ?_)
 refine wp_seq (region_plain ?_)
 refine lq (.bool false) S (q_assign rfl) fun a S => ?_
 refine lx_nil (thenN ?_)
 refine wp_seq (region_plain ?_)
 refine lx_e (.func (.func 41) #[] #[q1, q2, q3, q4]) S trivial (by decide) rfl trivial (q_load1 rfl Try.isAgg56 (by rintro _ rfl; exact hf)) (fun a S => ?_)
 refine lq (.int .i64 a0) S (q_move rfl) fun a S => ?_
 obtain ⟨x38, e39, hm⟩ := bind_some hm
 refine lx_callV (f := 41) (first := []) (cap := [q1, q2, q3, q4]) (xs := [.tmp 5]) S trivial (by decide) rfl rfl rfl Try.call41 ((impl_IsMeasure_2_ok h1 h2 h3 h4 e39).mono ?_)
 rintro e w36 ⟨rfl, Hc37⟩
 have H := H.call0 Hc37
 refine ⟨_, rfl, trivial, fun a S => ?_⟩
 refine lq (.bool (!x38)) S (q_not rfl) fun a S => ?_
 refine lq (.bool (!x38)) S (q_assign rfl) fun a S => ?_
 refine lx_nil (thenN ?_)
 refine wp_ret ?_
 obtain rfl := Option.some.inj hm
 exact leave1 S rfl rfl ⟨rfl, H⟩

end Go.Proofs.Ytcddkipbedfhkaa
