/- The models of some functions and their walks (printed by a program of this repo). -/
import Derived.Test.YtldmecdkdoipdaaGreatDoorF0
import Derived.Test.YtldmecdkdoipdaaGreatDoorF2
import Derived.Test.YtldmecdkdoipdaaGreatDoorFS
import Derived.Test.YtldmecdkdoipdaaGreatDoorGxT
import Derived.Test.YtldmecdkdoipdaaGreatDoorGxY
namespace Go.Proofs.YtldmecdkdoipdaaGreatDoor
open Go.RowKit Go.Gx

/-- spec.l11Find -/
def spec_l11Find_m (fuel : Nat) (a0 : (List Str)) (a1 : Str) : Option (Int) :=
  (iter (fun (s : (Int)) => (match s with | (x39) => (if (decide (x39 < (a0.length : Int))) = true then (idx a0 x39).bind fun x57 => (if (x57 == a1) = true then some (.inr (.inr x39)) else some (.inl ((W (x39 + (1 : Int)))))) else some (.inr (.inl ()))) : Option (((Int)) ⊕ ((Unit) ⊕ (Int))))) fuel ((0 : Int))).bind fun res48 => ctl (β := Unit) (ρ := Int) (τ := Int) res48 (fun _ => some ((-1 : Int))) (fun q => some (q))
set_option maxRecDepth 20000 in
theorem spec_l11Find_ok [dr : Dr] {w0 : World} {fuel : Nat} {p0 : Value} {a0 : (List Str)} {a1 : Str} {r : Int} (h0 : Rd (rList rStr) w0 p0 a0) (hm : spec_l11Find_m fuel a0 a1 = some r) :
  Calls Tryz.prog 64 #[p0, sv a1] w0 fun e w => e = .returned (.int .i64 r) ∧ Heap w0 [] w := by
 unfold spec_l11Find_m at hm
 have H := Heap.start w0
 refine enter (args := [p0, sv a1]) Tryz.func64 rfl 19 rfl (Nat.le_of_ble_eq_true rfl) (fun a S => ?_)
 refine wp_seq (region_plain ?_)
 refine lq (.int .i64 (0 : Int)) S (q_assign rfl) fun a S => ?_
 refine lx_nil (thenN ?_)
 refine wp_seq (wp_seq (region_plain ?_))
 refine lq (.int .i64 (0 : Int)) S (q_assign rfl) fun a S => ?_
 refine lx_nil (thenN ?_)
 obtain ⟨res48, hit49, hk52⟩ := bind_some hm
 obtain ⟨f50, hf51, hit49⟩ := iter_name hit49
 refine block_loop (fun a w => Slots a 19 [] ∧ Heap w0 [] w ∧ res48 = .inl ()) ?_ ?_
 ·rintro a w ⟨S, H, rfl⟩
  have hm := ctl_inl hk52
  refine thenN ?_
  refine wp_seq (region_plain ?_)
  refine lq (.int .i64 (-1 : Int)) S (q_assign rfl) fun a S => ?_
  refine lx_nil (thenN ?_)
  refine wp_ret ?_
  obtain rfl := Option.some.inj hm
  exact leave1 S rfl rfl ⟨rfl, H⟩
 ·skip
  refine loop_ghost (fun n a w => ∃ (x39 : Int), Slots a 19 [(0, p0), (1, (sv a1)), (5, (.int .i64 x39))] ∧ Heap w0 [] w ∧ iter f50 n (x39) = some res48) _ ⟨(0 : Int), S.sub ⟨rfl, rfl, rfl, trivial⟩, H, hit49⟩ ?_
  rintro n a w ⟨x39, S, H, hit49⟩
  obtain ⟨m53, o54, rfl, hm, hc55⟩ := iter_step hit49
  rw [hf51] at hm
  refine wp_seq (wp_seq (region_plain ?_))
  refine lq (.int .i64 x39) S (q_move rfl) fun a S => ?_
  refine lq p0 S (q_move rfl) fun a S => ?_
  refine lq (.int .i64 (a0.length : Int)) S (q_lenSl rfl (h0).isSl rfl Tryz.underlying22) fun a S => ?_
  refine lq (.bool (decide (x39 < (a0.length : Int)))) S (q_lss rfl rfl) fun a S => ?_
  refine lx_nil (thenN ?_)
  refine cond_b S rfl (fun hc56 => ?_) (fun hc56 => ?_)
  ·have hm := ite_t hc56 hm
   refine wp_skip (thenN ?_)
   refine wp_seq ?_
   refine wp_block ?_
   refine wp_seq (region_plain ?_)
   refine lq p0 S (q_move rfl) fun a S => ?_
   refine lq (.int .i64 x39) S (q_move rfl) fun a S => ?_
   obtain ⟨x57, e58, hm⟩ := bind_some hm
   obtain ⟨c59, h60, hat61⟩ := (h0).elem (idx_some e58).2
   obtain rfl := h60
   have hlt := lt_of_idx (idx_some e58).2
   refine lq (ePtr p0 (x39.toNat * 1)) S (q_indexAddr rfl (h0).isSl rfl (idx_some e58).1 hlt Tryz.underlying22 Tryz.sizeOf9) fun a S => ?_
   refine lx_e (sv x57) S trivial (by decide) rfl trivial (q_load1 rfl Tryz.isAgg9 (by rintro _ rfl; exact ((hat61 0 _ rfl).ext H.ext))) (fun a S => ?_)
   refine lq (sv a1) S (q_move rfl) fun a S => ?_
   refine lq (.bool (x57 == a1)) S (q_seql rfl rfl) fun a S => ?_
   refine lx_nil (thenN ?_)
   refine cond_b S rfl (fun hc62 => ?_) (fun hc62 => ?_)
   ·have hm := ite_t hc62 hm
    refine wp_seq (region_plain ?_)
    refine lq (.int .i64 x39) S (q_move rfl) fun a S => ?_
    refine lq (.int .i64 x39) S (q_assign rfl) fun a S => ?_
    refine lx_nil (thenN ?_)
    refine wp_ret (inBlock_ret ?_)
    refine then_ret ?_
    refine then_ret ?_
    refine inBlock_ret ?_
    refine then_ret ?_
    refine then_ret ?_
    obtain rfl := it_brk hm hc55
    have hm := ctl_inr hk52
    obtain rfl := Option.some.inj hm
    exact leave1 S rfl rfl ⟨rfl, H⟩
   ·have hm := ite_f hc62 hm
    refine wp_skip ?_
    refine inBlock_norm ?_
    refine thenN ?_
    refine region_plain ?_
    refine lq (.int .i64 x39) S (q_move rfl) fun a S => ?_
    refine lq (.int .i64 (W (x39 + (1 : Int)))) S (q_add rfl rfl) fun a S => ?_
    refine lq (.int .i64 (W (x39 + (1 : Int)))) S (q_assign rfl) fun a S => ?_
    refine lx_nil ?_
    exact ⟨m53, Nat.lt_succ_self _, (W (x39 + (1 : Int))), S.sub ⟨rfl, rfl, rfl, trivial⟩, H, it_cont hm hc55⟩
  ·have hm := ite_f hc56 hm
   refine wp_exit ?_
   refine then_exit ?_
   refine then_exit ?_
   refine inBlock_exit ?_
   obtain rfl := it_brk hm hc55
   exact ⟨S.sub trivial, H, rfl⟩

/-- spec.l11Join -/
def spec_l11Join_m (fuel : Nat) (a0 : (List Str)) : Option ((List Str)) :=
  (iter (fun (s : (List Str) × (Int)) => (match s with | (xs165, x167) => (if (decide (x167 < (a0.length : Int))) = true then join (κ := List Str → Option (((List Str) × (Int)) ⊕ (((List Str)) ⊕ ((List Str))))) (fun (xs311 : List Str) => some (.inl (xs311, (W (x167 + (1 : Int)))))) (fun K313 => (idx a0 x167).bind fun x315 => (spec_l11Find_m fuel xs165 x315).bind fun x322 => (if (decide ((0 : Int) ≤ x322)) = true then (K313 xs165) else (iter (fun (s : (Int)) => (match s with | (x340) => (if (decide (x340 < (xs165.length : Int))) = true then (idx xs165 x340).bind fun x427 => (idx a0 x167).bind fun x429 => some (Op.bytesLess x427 x429) else some false).bind fun t424 => (if t424 = true then some (.inl ((W (x340 + (1 : Int))))) else some (.inr (.inl (x340)))) : Option (((Int)) ⊕ ((Int) ⊕ ((List Str)))))) fuel ((1 : Int))).bind fun res356 => ctl (β := Int) (ρ := (List Str)) (τ := (((List Str) × (Int)) ⊕ (((List Str)) ⊕ ((List Str))))) res356 (fun (x355) => (app xs165 [([] : Str)]).bind fun x364 => (iter (fun (s : (List Str) × (Int)) => (match s with | (xs380, x381) => (if (decide (x355 < x381)) = true then (idx xs380 (W (x381 - (1 : Int)))).bind fun x411 => (idx xs380 x381).bind fun _ => some (.inl ((xs380.set x381.toNat x411), (W (x381 - (1 : Int))))) else some (.inr (.inl (xs380)))) : Option (((List Str) × (Int)) ⊕ (((List Str)) ⊕ ((List Str)))))) fuel (x364, (W ((x364.length : Int) - (1 : Int))))).bind fun res394 => ctl (β := (List Str)) (ρ := (List Str)) (τ := (((List Str) × (Int)) ⊕ (((List Str)) ⊕ ((List Str))))) res394 (fun (xs393) => (idx a0 x167).bind fun x399 => (idx xs393 x355).bind fun _ => (K313 (xs393.set x355.toNat x399))) (fun q => some (.inr (.inr q)))) (fun q => some (.inr (.inr q))))) else some (.inr (.inl (xs165)))) : Option (((List Str) × (Int)) ⊕ (((List Str)) ⊕ ((List Str)))))) fuel ([([116, 97, 117] : Str)], (0 : Int))).bind fun res301 => ctl (β := (List Str)) (ρ := (List Str)) (τ := (List Str)) res301 (fun (xs299) => some (xs299)) (fun q => some (q))
set_option maxRecDepth 20000 in
theorem spec_l11Join_ok [dr : Dr] {w0 : World} {fuel : Nat} {p0 : Value} {a0 : (List Str)} {r : (List Str)} (h0 : Rd (rList rStr) w0 p0 a0) (hm : spec_l11Join_m fuel a0 = some r) :
  Calls Tryz.prog 63 #[p0] w0 fun e w => ∃ (v0 : Value), e = .returned (v0) ∧ Heap w0 [oA (rList rStr) v0 r] w := by
 unfold spec_l11Join_m at hm
 have H := Heap.start w0
 refine enter (args := [p0]) Tryz.func63 rfl 65 rfl (Nat.le_of_ble_eq_true rfl) (fun a S => ?_)
 refine wp_seq (region_plain ?_)
 refine lq (.slice none 0 0) S (q_assign rfl) fun a S => ?_
 refine lx_nil (thenN ?_)
 refine wp_seq (region_plain ?_)
 refine lx_buildSlice (r := rStr) (xs := [([116, 97, 117] : Str)]) (ps := [(0, [(sv ([116, 97, 117] : Str))])]) (cs := [(sv ([116, 97, 117] : Str))]) (parts := [(0, .const (sv [116, 97, 117]))]) S trivial (by decide) rfl (H.put0 (A := eA) rfl) rfl Tryz.underlying22 Tryz.sizeOf9 Tryz.zeroValue9 (by decide) ⟨rfl, rfl, Nat.le_of_ble_eq_true rfl, trivial⟩ (by intro zs hz; exact fill_dense hz ⟨rfl, trivial⟩ rfl rfl) rfl (by decide) (fun w F hA => by cases (show F = [] from hA); exact ⟨_, _, [(sv ([116, 97, 117] : Str))], _, rfl, rfl, ⟨rfl, rfl⟩, ⟨rfl, rfl⟩⟩) (fun v31 w32 H => ⟨trivial, fun a S => ?_⟩)
 refine lq v31 S (q_assign rfl) fun a S => ?_
 refine lx_nil (thenN ?_)
 refine wp_seq (wp_seq (region_plain ?_))
 refine lq (.int .i64 (0 : Int)) S (q_assign rfl) fun a S => ?_
 refine lx_nil (thenN ?_)
 obtain ⟨res301, hit302, hk305⟩ := bind_some hm
 obtain ⟨f303, hf304, hit302⟩ := iter_name hit302
 refine block_loop (fun a w => ∃ (xs299 : List Str) (v298 : Value), Slots a 65 [(3, v298)] ∧ Heap w0 [oA (rList rStr) v298 xs299] w ∧ res301 = .inl (xs299)) ?_ ?_
 ·rintro a w ⟨xs299, v298, S, H, rfl⟩
  have hm := ctl_inl hk305
  refine thenN ?_
  refine wp_seq (region_plain ?_)
  refine lq v298 S (q_move rfl) fun a S => ?_
  refine lq v298 S (q_assign rfl) fun a S => ?_
  refine lx_nil (thenN ?_)
  refine wp_ret ?_
  obtain rfl := Option.some.inj hm
  exact leave1 S rfl rfl ⟨v298, rfl, H⟩
 ·skip
  refine loop_ghost (fun n a w => ∃ (xs165 : List Str) (x167 : Int) (v164 : Value), Slots a 65 [(0, p0), (3, v164), (4, (.int .i64 x167))] ∧ Heap w0 [oA (rList rStr) v164 xs165] w ∧ iter f303 n (xs165, x167) = some res301) _ ⟨[([116, 97, 117] : Str)], (0 : Int), v31, S.sub ⟨rfl, rfl, rfl, trivial⟩, H, hit302⟩ ?_
  rintro n a w ⟨xs165, x167, v164, S, H, hit302⟩
  obtain ⟨m306, o307, rfl, hm, hc308⟩ := iter_step hit302
  rw [hf304] at hm
  refine wp_seq (wp_seq (region_plain ?_))
  refine lq (.int .i64 x167) S (q_move rfl) fun a S => ?_
  refine lq p0 S (q_move rfl) fun a S => ?_
  refine lq (.int .i64 (a0.length : Int)) S (q_lenSl rfl (h0).isSl rfl Tryz.underlying22) fun a S => ?_
  refine lq (.bool (decide (x167 < (a0.length : Int)))) S (q_lss rfl rfl) fun a S => ?_
  refine lx_nil (thenN ?_)
  refine cond_b S rfl (fun hc309 => ?_) (fun hc309 => ?_)
  ·have hm := ite_t hc309 hm
   refine wp_skip (thenN ?_)
   obtain ⟨K313, hK314, hm⟩ := join_elim hm
   refine seq_cut (fun a w => ∃ (xs311 : List Str) (v310 : Value), Slots a 65 [(0, p0), (3, v310), (4, (.int .i64 x167))] ∧ Heap w0 [oA (rList rStr) v310 xs311] w ∧ K313 xs311 = some o307) ?_ ?_
   ·rintro a w ⟨xs311, v310, S, H, hm⟩
    subst hK314
    refine region_plain ?_
    refine lq (.int .i64 x167) S (q_move rfl) fun a S => ?_
    refine lq (.int .i64 (W (x167 + (1 : Int)))) S (q_add rfl rfl) fun a S => ?_
    refine lq (.int .i64 (W (x167 + (1 : Int)))) S (q_assign rfl) fun a S => ?_
    refine lx_nil ?_
    exact ⟨m306, Nat.lt_succ_self _, xs311, (W (x167 + (1 : Int))), v310, S.sub ⟨rfl, rfl, rfl, trivial⟩, H, it_cont hm hc308⟩
   ·skip
    refine wp_block ?_
    refine wp_seq (wp_seq (region_plain ?_))
    refine lq v164 S (q_move rfl) fun a S => ?_
    refine lq p0 S (q_move rfl) fun a S => ?_
    refine lq (.int .i64 x167) S (q_move rfl) fun a S => ?_
    obtain ⟨x315, e316, hm⟩ := bind_some hm
    obtain ⟨c317, h318, hat319⟩ := (h0).elem (idx_some e316).2
    obtain rfl := h318
    have hlt := lt_of_idx (idx_some e316).2
    refine lq (ePtr p0 (x167.toNat * 1)) S (q_indexAddr rfl (h0).isSl rfl (idx_some e316).1 hlt Tryz.underlying22 Tryz.sizeOf9) fun a S => ?_
    refine lx_e (sv x315) S trivial (by decide) rfl trivial (q_load1 rfl Tryz.isAgg9 (by rintro _ rfl; exact ((hat319 0 _ rfl).ext H.ext))) (fun a S => ?_)
    obtain ⟨x322, e323, hm⟩ := bind_some hm
    refine lx_call (xs := [.tmp 14, .tmp 18]) S trivial (by decide) rfl rfl Tryz.call64 ((spec_l11Find_ok (H.rdAt 0 rfl)  e323).mono ?_)
    rintro e w320 ⟨rfl, Hc321⟩
    have H := H.call0 Hc321
    refine ⟨_, rfl, trivial, fun a S => ?_⟩
    refine lq (.bool (decide ((0 : Int) ≤ x322))) S (q_geq rfl rfl) fun a S => ?_
    refine lx_nil (thenN ?_)
    refine cond_b S rfl (fun hc325 => ?_) (fun hc325 => ?_)
    ·have hm := ite_t hc325 hm
     refine wp_exit ?_
     refine then_exit ?_
     refine inBlock_exit ?_
     exact ⟨xs165, v164, S.sub ⟨rfl, rfl, rfl, trivial⟩, H, hm⟩
    ·have hm := ite_f hc325 hm
     refine wp_skip (thenN ?_)
     refine wp_seq (region_plain ?_)
     refine lq (.int .i64 (1 : Int)) S (q_assign rfl) fun a S => ?_
     refine lx_nil (thenN ?_)
     refine wp_seq ?_
     obtain ⟨res356, hit357, hk360⟩ := bind_some hm
     obtain ⟨f358, hf359, hit357⟩ := iter_name hit357
     refine block_loop (fun a w => ∃ (x355 : Int), Slots a 65 [(0, p0), (3, v164), (4, (.int .i64 x167)), (5, (.int .i64 x355))] ∧ Heap w0 [oA (rList rStr) v164 xs165] w ∧ res356 = .inl (x355)) ?_ ?_
     ·rintro a w ⟨x355, S, H, rfl⟩
      have hm := ctl_inl hk360
      refine thenN ?_
      refine wp_seq (region_plain ?_)
      refine lq v164 S (q_move rfl) fun a S => ?_
      refine lx_buildSlice (r := rStr) (xs := [([] : Str)]) (ps := [(0, [(sv ([] : Str))])]) (cs := [(sv ([] : Str))]) (parts := [(0, .const (sv []))]) S trivial (by decide) rfl (H.put0 (A := eA) rfl) rfl Tryz.underlying22 Tryz.sizeOf9 Tryz.zeroValue9 (by decide) ⟨rfl, rfl, Nat.le_of_ble_eq_true rfl, trivial⟩ (by intro zs hz; exact fill_dense hz ⟨rfl, trivial⟩ rfl rfl) rfl (by decide) (fun w F hA => by cases (show F = [] from hA); exact ⟨_, _, [(sv ([] : Str))], _, rfl, rfl, ⟨rfl, rfl⟩, ⟨rfl, rfl⟩⟩) (fun v361 w362 H => ⟨trivial, fun a S => ?_⟩)
      obtain ⟨x364, e365, hm⟩ := bind_some hm
      obtain ⟨hle, hap⟩ := app_some e365
      replace hap := hap.symm
      subst hap
      have H : Heap w0 [oA (rList rStr) v361 [([] : Str)], oA (rList rStr) v164 xs165] w362 := H.front 0 rfl
      have H : Heap w0 [oA (rList rStr) v164 xs165, oA (rList rStr) v361 [([] : Str)]] w362 := H.front 1 rfl
      refine lx_appendOwn (r := rStr) S trivial (by decide) rfl H rfl rfl Tryz.underlying22 Tryz.ti9 rfl rfl rfl (Nat.le_of_ble_eq_true rfl) (by decide) hle (fun v366 w367 H => ⟨trivial, fun a S => ?_⟩)
      refine lq v366 S (q_assign rfl) fun a S => ?_
      refine lx_nil (thenN ?_)
      refine wp_seq (wp_seq (region_plain ?_))
      refine lq v366 S (q_move rfl) fun a S => ?_
      refine lq (.int .i64 ((xs165 ++ [([] : Str)]).length : Int)) S (q_lenSl rfl (H.isSl 0 rfl) rfl Tryz.underlying22) fun a S => ?_
      refine lq (.int .i64 (W (((xs165 ++ [([] : Str)]).length : Int) - (1 : Int)))) S (q_sub rfl rfl) fun a S => ?_
      refine lq (.int .i64 (W (((xs165 ++ [([] : Str)]).length : Int) - (1 : Int)))) S (q_assign rfl) fun a S => ?_
      refine lx_nil (thenN ?_)
      obtain ⟨res394, hit395, hk398⟩ := bind_some hm
      obtain ⟨f396, hf397, hit395⟩ := iter_name hit395
      refine block_loop (fun a w => ∃ (xs393 : List Str), Slots a 65 [(0, p0), (3, v366), (4, (.int .i64 x167)), (5, (.int .i64 x355))] ∧ Heap w0 [oA (rList rStr) v366 xs393] w ∧ res394 = .inl (xs393)) ?_ ?_
      ·rintro a w ⟨xs393, S, H, rfl⟩
       have hm := ctl_inl hk398
       refine thenN ?_
       refine region_plain ?_
       refine lq v366 S (q_move rfl) fun a S => ?_
       refine lq (.int .i64 x355) S (q_move rfl) fun a S => ?_
       refine lq p0 S (q_move rfl) fun a S => ?_
       refine lq (.int .i64 x167) S (q_move rfl) fun a S => ?_
       obtain ⟨x399, e400, hm⟩ := bind_some hm
       obtain ⟨c401, h402, hat403⟩ := (h0).elem (idx_some e400).2
       obtain rfl := h402
       have hlt := lt_of_idx (idx_some e400).2
       refine lq (ePtr p0 (x167.toNat * 1)) S (q_indexAddr rfl (h0).isSl rfl (idx_some e400).1 hlt Tryz.underlying22 Tryz.sizeOf9) fun a S => ?_
       refine lx_e (sv x399) S trivial (by decide) rfl trivial (q_load1 rfl Tryz.isAgg9 (by rintro _ rfl; exact ((hat403 0 _ rfl).ext H.ext))) (fun a S => ?_)
       obtain ⟨x404, e405, hm⟩ := bind_some hm
       have hlt := lt_of_idx (idx_some e405).2
       refine lq (ePtr v366 (x355.toNat * 1)) S (q_indexAddr rfl (H.isSl 0 rfl) rfl (idx_some e405).1 hlt Tryz.underlying22 Tryz.sizeOf9) fun a S => ?_
       refine lx_storeElem (r := rStr) (us := [(sv x399)]) (off := 0) (e' := x399) S trivial rfl H.putE (ev_zero rfl) rfl (idx_some e405).2 rfl Tryz.sizeOf9 (Nat.le_of_ble_eq_true rfl) (List.forall_mem_cons.2 ⟨rfl, (List.forall_mem_nil _)⟩) (Upd.full rfl (fun w G hG => by cases (show G = [] from hG); exact ⟨rfl, rfl⟩)) (fun w406 H => ⟨trivial, fun a S => ?_⟩)
       refine lx_nil ?_
       refine inBlock_norm ?_
       exact ⟨(xs393.set x355.toNat x399), v366, S.sub ⟨rfl, rfl, rfl, trivial⟩, H, hm⟩
      ·skip
       refine loop_ghost (fun n a w => ∃ (xs380 : List Str) (x381 : Int), Slots a 65 [(0, p0), (3, v366), (4, (.int .i64 x167)), (5, (.int .i64 x355)), (6, (.int .i64 x381))] ∧ Heap w0 [oA (rList rStr) v366 xs380] w ∧ iter f396 n (xs380, x381) = some res394) _ ⟨(xs165 ++ [([] : Str)]), (W (((xs165 ++ [([] : Str)]).length : Int) - (1 : Int))), S.sub ⟨rfl, rfl, rfl, rfl, rfl, trivial⟩, H, hit395⟩ ?_
       rintro n a w ⟨xs380, x381, S, H, hit395⟩
       obtain ⟨m407, o408, rfl, hm, hc409⟩ := iter_step hit395
       rw [hf397] at hm
       refine wp_seq (wp_seq (region_plain ?_))
       refine lq (.int .i64 x381) S (q_move rfl) fun a S => ?_
       refine lq (.int .i64 x355) S (q_move rfl) fun a S => ?_
       refine lq (.bool (decide (x355 < x381))) S (q_gtr rfl rfl) fun a S => ?_
       refine lx_nil (thenN ?_)
       refine cond_b S rfl (fun hc410 => ?_) (fun hc410 => ?_)
       ·have hm := ite_t hc410 hm
        refine wp_skip (thenN ?_)
        refine wp_seq ?_
        refine wp_block ?_
        refine region_plain ?_
        refine lq v366 S (q_move rfl) fun a S => ?_
        refine lq (.int .i64 x381) S (q_move rfl) fun a S => ?_
        refine lq v366 S (q_move rfl) fun a S => ?_
        refine lq (.int .i64 x381) S (q_move rfl) fun a S => ?_
        refine lq (.int .i64 (W (x381 - (1 : Int)))) S (q_sub rfl rfl) fun a S => ?_
        obtain ⟨x411, e412, hm⟩ := bind_some hm
        have hlt := lt_of_idx (idx_some e412).2
        refine lq (ePtr v366 ((W (x381 - (1 : Int))).toNat * 1)) S (q_indexAddr rfl (H.isSl 0 rfl) rfl (idx_some e412).1 hlt Tryz.underlying22 Tryz.sizeOf9) fun a S => ?_
        obtain ⟨c413, h414, hat415⟩ := (H.rdAt 0 rfl).elem (idx_some e412).2
        obtain rfl := h414
        refine lx_e (sv x411) S trivial (by decide) rfl trivial (q_load1 rfl Tryz.isAgg9 (by rintro _ rfl; exact (hat415 0 _ rfl))) (fun a S => ?_)
        obtain ⟨x416, e417, hm⟩ := bind_some hm
        have hlt := lt_of_idx (idx_some e417).2
        refine lq (ePtr v366 (x381.toNat * 1)) S (q_indexAddr rfl (H.isSl 0 rfl) rfl (idx_some e417).1 hlt Tryz.underlying22 Tryz.sizeOf9) fun a S => ?_
        refine lx_storeElem (r := rStr) (us := [(sv x411)]) (off := 0) (e' := x411) S trivial rfl H.putE (ev_zero rfl) rfl (idx_some e417).2 rfl Tryz.sizeOf9 (Nat.le_of_ble_eq_true rfl) (List.forall_mem_cons.2 ⟨rfl, (List.forall_mem_nil _)⟩) (Upd.full rfl (fun w G hG => by cases (show G = [] from hG); exact ⟨rfl, rfl⟩)) (fun w418 H => ⟨trivial, fun a S => ?_⟩)
        refine lx_nil ?_
        refine inBlock_norm ?_
        refine thenN ?_
        refine region_plain ?_
        refine lq (.int .i64 x381) S (q_move rfl) fun a S => ?_
        refine lq (.int .i64 (W (x381 - (1 : Int)))) S (q_sub rfl rfl) fun a S => ?_
        refine lq (.int .i64 (W (x381 - (1 : Int)))) S (q_assign rfl) fun a S => ?_
        refine lx_nil ?_
        exact ⟨m407, Nat.lt_succ_self _, (xs380.set x381.toNat x411), (W (x381 - (1 : Int))), S.sub ⟨rfl, rfl, rfl, rfl, rfl, trivial⟩, H, it_cont hm hc409⟩
       ·have hm := ite_f hc410 hm
        refine wp_exit ?_
        refine then_exit ?_
        refine then_exit ?_
        refine inBlock_exit ?_
        obtain rfl := it_brk hm hc409
        exact ⟨xs380, S.sub ⟨rfl, rfl, rfl, rfl, trivial⟩, H, rfl⟩
     ·skip
      refine loop_ghost (fun n a w => ∃ (x340 : Int), Slots a 65 [(0, p0), (3, v164), (4, (.int .i64 x167)), (5, (.int .i64 x340))] ∧ Heap w0 [oA (rList rStr) v164 xs165] w ∧ iter f358 n (x340) = some res356) _ ⟨(1 : Int), S.sub ⟨rfl, rfl, rfl, rfl, trivial⟩, H, hit357⟩ ?_
      rintro n a w ⟨x340, S, H, hit357⟩
      obtain ⟨m419, o420, rfl, hm, hc421⟩ := iter_step hit357
      rw [hf359] at hm
      refine wp_seq ?_
      refine wp_seq ?_
      refine region_drawG (fun w1 => Heap w0 [oA (rList rStr) v164 xs165] w1) (fun i => [].contains i) mixed (by kernel_rfl) (fun w423 he422 => ?_)
      have H := H.later he422
      refine ⟨H.sel [0] (by decide), ?_⟩
      refine lq (.int .i64 x340) S (q_move rfl) fun a S => ?_
      refine lq v164 S (q_move rfl) fun a S => ?_
      refine lq (.int .i64 (xs165.length : Int)) S (q_lenSl rfl (H.isSl 0 rfl) rfl Tryz.underlying22) fun a S => ?_
      refine lq (.bool (decide (x340 < (xs165.length : Int)))) S (q_lss rfl rfl) fun a S => ?_
      refine lq (.bool (decide (x340 < (xs165.length : Int)))) S (q_move rfl) fun a S => ?_
      obtain ⟨t424, e425, hm⟩ := bind_some hm
      refine lx_cut 10 (fun a w => Slots a 65 [(0, p0), (3, v164), (4, (.int .i64 x167)), (5, (.int .i64 x340)), (35, (.bool t424))] ∧ Heap w0 [oA (rList rStr) v164 xs165] w) ?_ ?_
      ·by_cases hc426 : (decide (x340 < (xs165.length : Int))) = true
       ·have hm := ite_t hc426 e425
        refine lx_q v164 S (want_b rfl rfl hc426) (by decide) (q_move rfl) (fun a S => ?_)
        refine lx_q (.int .i64 x340) S (want_b rfl rfl hc426) (by decide) (q_move rfl) (fun a S => ?_)
        obtain ⟨x427, e428, hm⟩ := bind_some hm
        have hlt := lt_of_idx (idx_some e428).2
        refine lx_q (ePtr v164 (x340.toNat * 1)) S (want_b rfl rfl hc426) (by decide) (q_indexAddr rfl (H.isSl 0 rfl) rfl (idx_some e428).1 hlt Tryz.underlying22 Tryz.sizeOf9) (fun a S => ?_)
        refine lx_q (sv x427) S (want_b rfl rfl hc426) (by decide) (q_load1 rfl Tryz.isAgg9 (fun w1 hC => ((hC.rdAt 0 rfl).elemAt (j := 0) (idx_some e428).2 (by intro B w cs h; obtain rfl := h; rfl)))) (fun a S => ?_)
        refine lx_q p0 S (want_b rfl rfl hc426) (by decide) (q_move rfl) (fun a S => ?_)
        refine lx_q (.int .i64 x167) S (want_b rfl rfl hc426) (by decide) (q_move rfl) (fun a S => ?_)
        obtain ⟨x429, e430, hm⟩ := bind_some hm
        obtain ⟨c431, h432, hat433⟩ := (h0).elem (idx_some e430).2
        obtain rfl := h432
        have hlt := lt_of_idx (idx_some e430).2
        refine lx_q (ePtr p0 (x167.toNat * 1)) S (want_b rfl rfl hc426) (by decide) (q_indexAddr rfl (h0).isSl rfl (idx_some e430).1 hlt Tryz.underlying22 Tryz.sizeOf9) (fun a S => ?_)
        refine lx_q (sv x429) S (want_b rfl rfl hc426) (by decide) (q_load1 rfl Tryz.isAgg9 (fun w1 hC => ((hat433 0 _ rfl).ext hC.ext))) (fun a S => ?_)
        refine lx_q (.bool (Op.bytesLess x427 x429)) S (want_b rfl rfl hc426) (by decide) (q_slss rfl rfl) (fun a S => ?_)
        refine lq (.bool (Op.bytesLess x427 x429)) S (q_pickT' rfl hc426 rfl) fun a S => ?_
        refine lx_nil ?_
        obtain rfl := Option.some.inj hm
        exact ⟨S.sub ⟨rfl, rfl, rfl, rfl, rfl, trivial⟩, H⟩
       ·have hm := ite_f (eq_false_of_ne_true hc426) e425
        have hc426 : (decide (x340 < (xs165.length : Int))) = false := eq_false_of_ne_true hc426
        refine lx_skip S rfl rfl (isB_ne hc426) (by decide) (fun a S => ?_)
        refine lx_skip S rfl rfl (isB_ne hc426) (by decide) (fun a S => ?_)
        refine lx_skip S rfl rfl (isB_ne hc426) (by decide) (fun a S => ?_)
        refine lx_skip S rfl rfl (isB_ne hc426) (by decide) (fun a S => ?_)
        refine lx_skip S rfl rfl (isB_ne hc426) (by decide) (fun a S => ?_)
        refine lx_skip S rfl rfl (isB_ne hc426) (by decide) (fun a S => ?_)
        refine lx_skip S rfl rfl (isB_ne hc426) (by decide) (fun a S => ?_)
        refine lx_skip S rfl rfl (isB_ne hc426) (by decide) (fun a S => ?_)
        refine lx_skip S rfl rfl (isB_ne hc426) (by decide) (fun a S => ?_)
        refine lq (.bool false) S (q_pickF' rfl hc426 rfl) fun a S => ?_
        refine lx_nil ?_
        obtain rfl := Option.some.inj hm
        exact ⟨S.sub ⟨rfl, rfl, rfl, rfl, rfl, trivial⟩, H⟩
      ·rintro a w ⟨S, H⟩
       refine lx_nil (thenN ?_)
       refine cond_b S rfl (fun hc434 => ?_) (fun hc434 => ?_)
       ·have hm := ite_t hc434 hm
        refine wp_skip (thenN ?_)
        refine wp_block ?_
        refine region_plain ?_
        refine lq (.int .i64 x340) S (q_move rfl) fun a S => ?_
        refine lq (.int .i64 (W (x340 + (1 : Int)))) S (q_add rfl rfl) fun a S => ?_
        refine lq (.int .i64 (W (x340 + (1 : Int)))) S (q_assign rfl) fun a S => ?_
        refine lx_nil ?_
        refine inBlock_norm ?_
        exact ⟨m419, Nat.lt_succ_self _, (W (x340 + (1 : Int))), S.sub ⟨rfl, rfl, rfl, rfl, trivial⟩, H, it_cont hm hc421⟩
       ·have hm := ite_f hc434 hm
        refine wp_exit ?_
        refine then_exit ?_
        refine then_exit ?_
        refine inBlock_exit ?_
        obtain rfl := it_brk hm hc421
        exact ⟨x340, S.sub ⟨rfl, rfl, rfl, rfl, trivial⟩, H, rfl⟩
  ·have hm := ite_f hc309 hm
   refine wp_exit ?_
   refine then_exit ?_
   refine then_exit ?_
   refine inBlock_exit ?_
   obtain rfl := it_brk hm hc308
   exact ⟨xs165, v164, S.sub ⟨rfl, trivial⟩, H, rfl⟩

/-- spec.l11Put -/
def spec_l11Put_m (fuel : Nat) (a0 : (List Timpl_Edge)) (a1 : Timpl_Edge) : Option ((List Timpl_Edge)) :=
  (iter (fun (s : (Int)) => (match s with | (x56) => (if (decide ((0 : Int) < x56)) = true then (idx a0 (W (x56 - (1 : Int)))).bind fun x166 => (spec_l11Less_m fuel (a1.1, a1.2.1, a1.2.2) x166).bind fun x170 => some x170 else some false).bind fun t163 => (if t163 = true then some (.inl ((W (x56 - (1 : Int))))) else some (.inr (.inl (x56)))) : Option (((Int)) ⊕ ((Int) ⊕ ((List Timpl_Edge)))))) fuel ((a0.length : Int))).bind fun res70 => ctl (β := Int) (ρ := (List Timpl_Edge)) (τ := (List Timpl_Edge)) res70 (fun (x69) => (if (decide ((0 : Int) < x69)) = true then (idx a0 (W (x69 - (1 : Int)))).bind fun x80 => some ([x80.1, x80.2.1, x80.2.2] == [a1.1, a1.2.1, a1.2.2]) else some false).bind fun t77 => (if t77 = true then some (a0) else (app a0 [((0 : Int), (0 : Int), (0 : Int))]).bind fun x86 => (iter (fun (s : (List Timpl_Edge) × (Int)) => (match s with | (xs110, x111) => (if (decide (x69 < x111)) = true then (idx xs110 (W (x111 - (1 : Int)))).bind fun x144 => (idx xs110 x111).bind fun _ => some (.inl ((xs110.set x111.toNat (x144.1, x144.2.1, x144.2.2)), (W (x111 - (1 : Int))))) else some (.inr (.inl (xs110)))) : Option (((List Timpl_Edge) × (Int)) ⊕ (((List Timpl_Edge)) ⊕ ((List Timpl_Edge)))))) fuel (x86, (W ((x86.length : Int) - (1 : Int))))).bind fun res132 => ctl (β := (List Timpl_Edge)) (ρ := (List Timpl_Edge)) (τ := (List Timpl_Edge)) res132 (fun (xs131) => (idx xs131 x69).bind fun _ => some ((xs131.set x69.toNat (a1.1, a1.2.1, a1.2.2)))) (fun q => some (q)))) (fun q => some (q))
set_option maxRecDepth 20000 in
theorem spec_l11Put_ok [dr : Dr] {w0 : World} {fuel : Nat} {p0 p1 : Value} {a0 : (List Timpl_Edge)} {a1 : Timpl_Edge} {w00 : World} {L : List Asrt} {r : (List Timpl_Edge)} (H : Heap w00 (oA (rList Rimpl_Edge) p0 a0 :: L) w0) (h1 : Rd Rimpl_Edge w00 p1 a1) (hm : spec_l11Put_m fuel a0 a1 = some r) :
  Calls Tryz.prog 65 #[p0, p1] w0 fun e w => ∃ (v0 : Value), e = .returned (v0) ∧ Heap w00 (oA (rList Rimpl_Edge) v0 r :: L) w := by
 unfold spec_l11Put_m at hm
 obtain ⟨c31, rfl, h32⟩ := h1
 obtain ⟨c33, c34, rfl, h35, h36⟩ := h32
 obtain rfl := h35
 obtain ⟨c37, c38, rfl, h39, h40⟩ := h36
 obtain rfl := h39
 obtain rfl := h40
 refine enter (args := [p0, (.agg #[(.int .i64 a1.1), (.int .i64 a1.2.1), (.int .i64 a1.2.2)])]) Tryz.func65 rfl 57 rfl (Nat.le_of_ble_eq_true rfl) (fun a S => ?_)
 refine wp_seq (region_plain ?_)
 refine lx_box S trivial (by decide) rfl H rfl rfl (fun b41 w42 H => ⟨trivial, fun a S => ?_⟩)
 refine lq (.slice none 0 0) S (q_assign rfl) fun a S => ?_
 refine lx_nil (thenN ?_)
 refine wp_seq (region_plain ?_)
 refine lq p0 S (q_move rfl) fun a S => ?_
 refine lq (.int .i64 (a0.length : Int)) S (q_lenSl rfl (H.isSl 1 rfl) rfl Tryz.underlying29) fun a S => ?_
 refine lq (.int .i64 (a0.length : Int)) S (q_assign rfl) fun a S => ?_
 refine lx_nil (thenN ?_)
 refine wp_seq ?_
 obtain ⟨res70, hit71, hk74⟩ := bind_some hm
 obtain ⟨f72, hf73, hit71⟩ := iter_name hit71
 refine block_loop (fun a w => ∃ (x69 : Int), Slots a 57 [(0, p0), (3, (bp b41)), (5, (.int .i64 x69))] ∧ Heap w00 (oA (rList Rimpl_Edge) p0 a0 :: bA b41 [(.int .i64 a1.1), (.int .i64 a1.2.1), (.int .i64 a1.2.2)] 68 :: L) w ∧ res70 = .inl (x69)) ?_ ?_
 ·rintro a w ⟨x69, S, H, rfl⟩
  have hm := ctl_inl hk74
  refine thenN ?_
  refine wp_seq ?_
  refine wp_seq ?_
  refine region_drawG (fun w1 => Heap w00 [oA (rList Rimpl_Edge) p0 a0, bA b41 [(.int .i64 a1.1), (.int .i64 a1.2.1), (.int .i64 a1.2.2)] 68] w1) (fun i => [].contains i) mixed (by kernel_rfl) (fun w76 he75 => ?_)
  have H := H.later he75
  refine ⟨H.sel [0, 1] (by decide), ?_⟩
  refine lq (.int .i64 x69) S (q_move rfl) fun a S => ?_
  refine lq (.bool (decide ((0 : Int) < x69))) S (q_gtr rfl rfl) fun a S => ?_
  refine lq (.bool (decide ((0 : Int) < x69))) S (q_move rfl) fun a S => ?_
  obtain ⟨t77, e78, hm⟩ := bind_some hm
  refine lx_cut 8 (fun a w => Slots a 57 [(0, p0), (3, (bp b41)), (5, (.int .i64 x69)), (30, (.bool t77))] ∧ Heap w00 (oA (rList Rimpl_Edge) p0 a0 :: bA b41 [(.int .i64 a1.1), (.int .i64 a1.2.1), (.int .i64 a1.2.2)] 68 :: L) w) ?_ ?_
  ·by_cases hc79 : (decide ((0 : Int) < x69)) = true
   ·have hm := ite_t hc79 e78
    refine lx_q p0 S (want_b rfl rfl hc79) (by decide) (q_move rfl) (fun a S => ?_)
    refine lx_q (.int .i64 x69) S (want_b rfl rfl hc79) (by decide) (q_move rfl) (fun a S => ?_)
    refine lx_q (.int .i64 (W (x69 - (1 : Int)))) S (want_b rfl rfl hc79) (by decide) (q_sub rfl rfl) (fun a S => ?_)
    obtain ⟨x80, e81, hm⟩ := bind_some hm
    have hlt := lt_of_idx (idx_some e81).2
    refine lx_q (ePtr p0 ((W (x69 - (1 : Int))).toNat * 3)) S (want_b rfl rfl hc79) (by decide) (q_indexAddr rfl (H.isSl 0 rfl) rfl (idx_some e81).1 hlt Tryz.underlying29 Tryz.sizeOf68) (fun a S => ?_)
    refine lx_q (.agg #[(.int .i64 x80.1), (.int .i64 x80.2.1), (.int .i64 x80.2.2)]) S (want_b rfl rfl hc79) (by decide) (q_loadA (cs := [(.int .i64 x80.1), (.int .i64 x80.2.1), (.int .i64 x80.2.2)]) rfl (((H.isSl 0 rfl)).ptr (lt_of_idx (idx_some e81).2) _) Tryz.isAgg68 Tryz.sizeOf68 (fun w1 hC => (fun j u hu => (hC.rdAt 0 rfl).elemCells (idx_some e81).2 (by intro B w cs h; obtain ⟨_, _, rfl, ha1, hb1⟩ := h; obtain rfl := ha1; obtain ⟨_, _, rfl, ha2, hb2⟩ := hb1; obtain rfl := ha2; obtain rfl := hb2; rfl) j u hu))) (fun a S => ?_)
    refine lx_q (.agg #[(.int .i64 a1.1), (.int .i64 a1.2.1), (.int .i64 a1.2.2)]) S (want_b rfl rfl hc79) (by decide) (q_loadA (cs := [(.int .i64 a1.1), (.int .i64 a1.2.1), (.int .i64 a1.2.2)]) rfl (isP_bp _) Tryz.isAgg68 Tryz.sizeOf68 (fun w1 hC => (fun j u hu => boxAt (i := 1) hC rfl hu))) (fun a S => ?_)
    refine lx_q (.bool ([x80.1, x80.2.1, x80.2.2] == [a1.1, a1.2.1, a1.2.2])) S (want_b rfl rfl hc79) (by decide) (q_aeql (ms := [x80.1, x80.2.1, x80.2.2]) (ns := [a1.1, a1.2.1, a1.2.2]) rfl rfl Tryz.underlying68 (by kernel_rfl) (by kernel_rfl) ⟨by decide, Tryz.underlying2, rfl, ⟨by decide, Tryz.underlying2, rfl, ⟨by decide, Tryz.underlying2, rfl, trivial⟩⟩⟩ rfl rfl) (fun a S => ?_)
    refine lq (.bool ([x80.1, x80.2.1, x80.2.2] == [a1.1, a1.2.1, a1.2.2])) S (q_pickT' rfl hc79 rfl) fun a S => ?_
    refine lx_nil ?_
    obtain rfl := Option.some.inj hm
    exact ⟨S.sub ⟨rfl, rfl, rfl, rfl, trivial⟩, H⟩
   ·have hm := ite_f (eq_false_of_ne_true hc79) e78
    have hc79 : (decide ((0 : Int) < x69)) = false := eq_false_of_ne_true hc79
    refine lx_skip S rfl rfl (isB_ne hc79) (by decide) (fun a S => ?_)
    refine lx_skip S rfl rfl (isB_ne hc79) (by decide) (fun a S => ?_)
    refine lx_skip S rfl rfl (isB_ne hc79) (by decide) (fun a S => ?_)
    refine lx_skip S rfl rfl (isB_ne hc79) (by decide) (fun a S => ?_)
    refine lx_skip S rfl rfl (isB_ne hc79) (by decide) (fun a S => ?_)
    refine lx_skip S rfl rfl (isB_ne hc79) (by decide) (fun a S => ?_)
    refine lx_skip S rfl rfl (isB_ne hc79) (by decide) (fun a S => ?_)
    refine lq (.bool false) S (q_pickF' rfl hc79 rfl) fun a S => ?_
    refine lx_nil ?_
    obtain rfl := Option.some.inj hm
    exact ⟨S.sub ⟨rfl, rfl, rfl, rfl, trivial⟩, H⟩
  ·rintro a w ⟨S, H⟩
   refine lx_nil (thenN ?_)
   refine cond_b S rfl (fun hc82 => ?_) (fun hc82 => ?_)
   ·have hm := ite_t hc82 hm
    refine wp_seq (region_plain ?_)
    refine lq p0 S (q_move rfl) fun a S => ?_
    refine lq p0 S (q_assign rfl) fun a S => ?_
    refine lx_nil (thenN ?_)
    refine wp_ret (then_ret ?_)
    obtain rfl := Option.some.inj hm
    have H : Heap w00 (oA (rList Rimpl_Edge) p0 a0 :: L) w := H.selT 2 [0] (by decide)
    exact leave1 S rfl rfl ⟨p0, rfl, H⟩
   ·have hm := ite_f hc82 hm
    refine wp_skip (thenN ?_)
    refine wp_seq (region_plain ?_)
    refine lq p0 S (q_move rfl) fun a S => ?_
    refine lq (.agg #[(.int .i64 (0 : Int)), (.int .i64 (0 : Int)), (.int .i64 (0 : Int))]) S (q_build (zs := [(.int .i64 (0 : Int)), (.int .i64 (0 : Int)), (.int .i64 (0 : Int))]) (szs := [1, 1, 1]) (ps := []) (parts := []) rfl Tryz.underlying68 Tryz.zeroValue68 (fun w => by simp [Tryz.sizeOf2]) trivial rfl) fun a S => ?_
    refine lx_buildSlice (r := Rimpl_Edge) (xs := [((0 : Int), (0 : Int), (0 : Int))]) (ps := [(0, [(.int .i64 (0 : Int)), (.int .i64 (0 : Int)), (.int .i64 (0 : Int))])]) (cs := [(.int .i64 (0 : Int)), (.int .i64 (0 : Int)), (.int .i64 (0 : Int))]) (parts := [(0, .tmp 33)]) S trivial (by decide) rfl (H.put0 (A := eA) rfl) rfl Tryz.underlying29 Tryz.sizeOf68 Tryz.zeroValue68 (by decide) ⟨rfl, rfl, Nat.le_of_ble_eq_true rfl, trivial⟩ (by intro zs hz; exact fill_dense hz ⟨rfl, trivial⟩ rfl rfl) rfl (by decide) (fun w F hA => by cases (show F = [] from hA); exact ⟨_, _, [(.int .i64 (0 : Int)), (.int .i64 (0 : Int)), (.int .i64 (0 : Int))], _, rfl, rfl, ⟨_, _, [(.int .i64 (0 : Int))], [(.int .i64 (0 : Int)), (.int .i64 (0 : Int))], rfl, rfl, ⟨rfl, rfl⟩, ⟨_, _, [(.int .i64 (0 : Int))], [(.int .i64 (0 : Int))], rfl, rfl, ⟨rfl, rfl⟩, ⟨rfl, rfl⟩⟩⟩, ⟨rfl, rfl⟩⟩) (fun v83 w84 H => ⟨trivial, fun a S => ?_⟩)
    obtain ⟨x86, e87, hm⟩ := bind_some hm
    obtain ⟨hle, hap⟩ := app_some e87
    replace hap := hap.symm
    subst hap
    have H : Heap w00 (oA (rList Rimpl_Edge) v83 [((0 : Int), (0 : Int), (0 : Int))] :: oA (rList Rimpl_Edge) p0 a0 :: bA b41 [(.int .i64 a1.1), (.int .i64 a1.2.1), (.int .i64 a1.2.2)] 68 :: L) w84 := H.front 0 rfl
    have H : Heap w00 (oA (rList Rimpl_Edge) p0 a0 :: oA (rList Rimpl_Edge) v83 [((0 : Int), (0 : Int), (0 : Int))] :: bA b41 [(.int .i64 a1.1), (.int .i64 a1.2.1), (.int .i64 a1.2.2)] 68 :: L) w84 := H.front 1 rfl
    refine lx_appendOwn (r := Rimpl_Edge) S trivial (by decide) rfl H rfl rfl Tryz.underlying29 Tryz.ti68 rfl rfl rfl (Nat.le_of_ble_eq_true rfl) (by decide) hle (fun v88 w89 H => ⟨trivial, fun a S => ?_⟩)
    refine lq v88 S (q_assign rfl) fun a S => ?_
    refine lx_nil (thenN ?_)
    refine wp_seq (wp_seq (region_plain ?_))
    refine lq v88 S (q_move rfl) fun a S => ?_
    refine lq (.int .i64 ((a0 ++ [((0 : Int), (0 : Int), (0 : Int))]).length : Int)) S (q_lenSl rfl (H.isSl 0 rfl) rfl Tryz.underlying29) fun a S => ?_
    refine lq (.int .i64 (W (((a0 ++ [((0 : Int), (0 : Int), (0 : Int))]).length : Int) - (1 : Int)))) S (q_sub rfl rfl) fun a S => ?_
    refine lq (.int .i64 (W (((a0 ++ [((0 : Int), (0 : Int), (0 : Int))]).length : Int) - (1 : Int)))) S (q_assign rfl) fun a S => ?_
    refine lx_nil (thenN ?_)
    obtain ⟨res132, hit133, hk136⟩ := bind_some hm
    obtain ⟨f134, hf135, hit133⟩ := iter_name hit133
    refine block_loop (fun a w => ∃ (xs131 : List Timpl_Edge), Slots a 57 [(0, v88), (3, (bp b41)), (5, (.int .i64 x69))] ∧ Heap w00 (oA (rList Rimpl_Edge) v88 xs131 :: bA b41 [(.int .i64 a1.1), (.int .i64 a1.2.1), (.int .i64 a1.2.2)] 68 :: L) w ∧ res132 = .inl (xs131)) ?_ ?_
    ·rintro a w ⟨xs131, S, H, rfl⟩
     have hm := ctl_inl hk136
     refine thenN ?_
     refine wp_seq (region_plain ?_)
     refine lq v88 S (q_move rfl) fun a S => ?_
     refine lq (.int .i64 x69) S (q_move rfl) fun a S => ?_
     refine lx_e (.agg #[(.int .i64 a1.1), (.int .i64 a1.2.1), (.int .i64 a1.2.2)]) S trivial (by decide) rfl trivial (q_loadA (cs := [(.int .i64 a1.1), (.int .i64 a1.2.1), (.int .i64 a1.2.2)]) rfl (isP_bp _) Tryz.isAgg68 Tryz.sizeOf68 (by rintro _ rfl; exact (fun j u hu => boxAt (i := 1) H rfl hu))) (fun a S => ?_)
     obtain ⟨x137, e138, hm⟩ := bind_some hm
     have hlt := lt_of_idx (idx_some e138).2
     refine lq (ePtr v88 (x69.toNat * 3)) S (q_indexAddr rfl (H.isSl 0 rfl) rfl (idx_some e138).1 hlt Tryz.underlying29 Tryz.sizeOf68) fun a S => ?_
     refine lx_storeElem (r := Rimpl_Edge) (us := [(.int .i64 a1.1), (.int .i64 a1.2.1), (.int .i64 a1.2.2)]) (off := 0) (e' := (a1.1, a1.2.1, a1.2.2)) S trivial rfl H.putE (ev_zero rfl) rfl (idx_some e138).2 rfl Tryz.sizeOf68 (Nat.le_of_ble_eq_true rfl) (List.forall_mem_cons.2 ⟨rfl, (List.forall_mem_cons.2 ⟨rfl, (List.forall_mem_cons.2 ⟨rfl, (List.forall_mem_nil _)⟩)⟩)⟩) (Upd.full rfl (fun w G hG => by cases (show G = [] from hG); exact ⟨_, _, [(.int .i64 a1.1)], [(.int .i64 a1.2.1), (.int .i64 a1.2.2)], rfl, rfl, ⟨rfl, rfl⟩, ⟨_, _, [(.int .i64 a1.2.1)], [(.int .i64 a1.2.2)], rfl, rfl, ⟨rfl, rfl⟩, ⟨rfl, rfl⟩⟩⟩)) (fun w139 H => ⟨trivial, fun a S => ?_⟩)
     refine lx_nil (thenN ?_)
     refine wp_seq (region_plain ?_)
     refine lq v88 S (q_move rfl) fun a S => ?_
     refine lq v88 S (q_assign rfl) fun a S => ?_
     refine lx_nil (thenN ?_)
     refine wp_ret ?_
     obtain rfl := Option.some.inj hm
     have H : Heap w00 (oA (rList Rimpl_Edge) v88 (xs131.set x69.toNat (a1.1, a1.2.1, a1.2.2)) :: L) w139 := H.selT 2 [0] (by decide)
     exact leave1 S rfl rfl ⟨v88, rfl, H⟩
    ·skip
     refine loop_ghost (fun n a w => ∃ (xs110 : List Timpl_Edge) (x111 : Int), Slots a 57 [(0, v88), (3, (bp b41)), (5, (.int .i64 x69)), (6, (.int .i64 x111))] ∧ Heap w00 (oA (rList Rimpl_Edge) v88 xs110 :: bA b41 [(.int .i64 a1.1), (.int .i64 a1.2.1), (.int .i64 a1.2.2)] 68 :: L) w ∧ iter f134 n (xs110, x111) = some res132) _ ⟨(a0 ++ [((0 : Int), (0 : Int), (0 : Int))]), (W (((a0 ++ [((0 : Int), (0 : Int), (0 : Int))]).length : Int) - (1 : Int))), S.sub ⟨rfl, rfl, rfl, rfl, trivial⟩, H, hit133⟩ ?_
     rintro n a w ⟨xs110, x111, S, H, hit133⟩
     obtain ⟨m140, o141, rfl, hm, hc142⟩ := iter_step hit133
     rw [hf135] at hm
     refine wp_seq (wp_seq (region_plain ?_))
     refine lq (.int .i64 x111) S (q_move rfl) fun a S => ?_
     refine lq (.int .i64 x69) S (q_move rfl) fun a S => ?_
     refine lq (.bool (decide (x69 < x111))) S (q_gtr rfl rfl) fun a S => ?_
     refine lx_nil (thenN ?_)
     refine cond_b S rfl (fun hc143 => ?_) (fun hc143 => ?_)
     ·have hm := ite_t hc143 hm
      refine wp_skip (thenN ?_)
      refine wp_seq ?_
      refine wp_block ?_
      refine region_plain ?_
      refine lq v88 S (q_move rfl) fun a S => ?_
      refine lq (.int .i64 x111) S (q_move rfl) fun a S => ?_
      refine lq v88 S (q_move rfl) fun a S => ?_
      refine lq (.int .i64 x111) S (q_move rfl) fun a S => ?_
      refine lq (.int .i64 (W (x111 - (1 : Int)))) S (q_sub rfl rfl) fun a S => ?_
      obtain ⟨x144, e145, hm⟩ := bind_some hm
      have hlt := lt_of_idx (idx_some e145).2
      refine lq (ePtr v88 ((W (x111 - (1 : Int))).toNat * 3)) S (q_indexAddr rfl (H.isSl 0 rfl) rfl (idx_some e145).1 hlt Tryz.underlying29 Tryz.sizeOf68) fun a S => ?_
      obtain ⟨c146, h147, hat148⟩ := (H.rdAt 0 rfl).elem (idx_some e145).2
      obtain ⟨c149, c150, rfl, h151, h152⟩ := h147
      obtain rfl := h151
      obtain ⟨c153, c154, rfl, h155, h156⟩ := h152
      obtain rfl := h155
      obtain rfl := h156
      refine lx_e (.agg #[(.int .i64 x144.1), (.int .i64 x144.2.1), (.int .i64 x144.2.2)]) S trivial (by decide) rfl trivial (q_loadA (cs := [(.int .i64 x144.1), (.int .i64 x144.2.1), (.int .i64 x144.2.2)]) rfl (((H.isSl 0 rfl)).ptr (lt_of_idx (idx_some e145).2) _) Tryz.isAgg68 Tryz.sizeOf68 (by rintro _ rfl; exact (fun j u hu => hat148 j u hu))) (fun a S => ?_)
      obtain ⟨x157, e158, hm⟩ := bind_some hm
      have hlt := lt_of_idx (idx_some e158).2
      refine lq (ePtr v88 (x111.toNat * 3)) S (q_indexAddr rfl (H.isSl 0 rfl) rfl (idx_some e158).1 hlt Tryz.underlying29 Tryz.sizeOf68) fun a S => ?_
      refine lx_storeElem (r := Rimpl_Edge) (us := [(.int .i64 x144.1), (.int .i64 x144.2.1), (.int .i64 x144.2.2)]) (off := 0) (e' := (x144.1, x144.2.1, x144.2.2)) S trivial rfl H.putE (ev_zero rfl) rfl (idx_some e158).2 rfl Tryz.sizeOf68 (Nat.le_of_ble_eq_true rfl) (List.forall_mem_cons.2 ⟨rfl, (List.forall_mem_cons.2 ⟨rfl, (List.forall_mem_cons.2 ⟨rfl, (List.forall_mem_nil _)⟩)⟩)⟩) (Upd.full rfl (fun w G hG => by cases (show G = [] from hG); exact ⟨_, _, [(.int .i64 x144.1)], [(.int .i64 x144.2.1), (.int .i64 x144.2.2)], rfl, rfl, ⟨rfl, rfl⟩, ⟨_, _, [(.int .i64 x144.2.1)], [(.int .i64 x144.2.2)], rfl, rfl, ⟨rfl, rfl⟩, ⟨rfl, rfl⟩⟩⟩)) (fun w159 H => ⟨trivial, fun a S => ?_⟩)
      refine lx_nil ?_
      refine inBlock_norm ?_
      refine thenN ?_
      refine region_plain ?_
      refine lq (.int .i64 x111) S (q_move rfl) fun a S => ?_
      refine lq (.int .i64 (W (x111 - (1 : Int)))) S (q_sub rfl rfl) fun a S => ?_
      refine lq (.int .i64 (W (x111 - (1 : Int)))) S (q_assign rfl) fun a S => ?_
      refine lx_nil ?_
      exact ⟨m140, Nat.lt_succ_self _, (xs110.set x111.toNat (x144.1, x144.2.1, x144.2.2)), (W (x111 - (1 : Int))), S.sub ⟨rfl, rfl, rfl, rfl, trivial⟩, H, it_cont hm hc142⟩
     ·have hm := ite_f hc143 hm
      refine wp_exit ?_
      refine then_exit ?_
      refine then_exit ?_
      refine inBlock_exit ?_
      obtain rfl := it_brk hm hc142
      exact ⟨xs110, S.sub ⟨rfl, rfl, rfl, trivial⟩, H, rfl⟩
 ·skip
  have H : Heap w00 (oA (rList Rimpl_Edge) p0 a0 :: bA b41 [(.int .i64 a1.1), (.int .i64 a1.2.1), (.int .i64 a1.2.2)] 68 :: L) w42 := H.front 1 rfl
  refine loop_ghost (fun n a w => ∃ (x56 : Int), Slots a 57 [(0, p0), (3, (bp b41)), (5, (.int .i64 x56))] ∧ Heap w00 (oA (rList Rimpl_Edge) p0 a0 :: bA b41 [(.int .i64 a1.1), (.int .i64 a1.2.1), (.int .i64 a1.2.2)] 68 :: L) w ∧ iter f72 n (x56) = some res70) _ ⟨(a0.length : Int), S.sub ⟨rfl, rfl, rfl, trivial⟩, H, hit71⟩ ?_
  rintro n a w ⟨x56, S, H, hit71⟩
  obtain ⟨m160, o161, rfl, hm, hc162⟩ := iter_step hit71
  rw [hf73] at hm
  refine wp_seq (wp_seq (region_plain ?_))
  refine lq (.int .i64 x56) S (q_move rfl) fun a S => ?_
  refine lq (.bool (decide ((0 : Int) < x56))) S (q_gtr rfl rfl) fun a S => ?_
  refine lq (.bool (decide ((0 : Int) < x56))) S (q_move rfl) fun a S => ?_
  obtain ⟨t163, e164, hm⟩ := bind_some hm
  refine lx_cut 6 (fun a w => Slots a 57 [(0, p0), (3, (bp b41)), (5, (.int .i64 x56)), (17, (.bool t163))] ∧ Heap w00 (oA (rList Rimpl_Edge) p0 a0 :: bA b41 [(.int .i64 a1.1), (.int .i64 a1.2.1), (.int .i64 a1.2.2)] 68 :: L) w) ?_ ?_
  ·by_cases hc165 : (decide ((0 : Int) < x56)) = true
   ·have hm := ite_t hc165 e164
    refine lx_q p0 S (want_b rfl rfl hc165) (by decide) (q_move rfl) (fun a S => ?_)
    refine lx_q (.int .i64 x56) S (want_b rfl rfl hc165) (by decide) (q_move rfl) (fun a S => ?_)
    refine lx_q (.int .i64 (W (x56 - (1 : Int)))) S (want_b rfl rfl hc165) (by decide) (q_sub rfl rfl) (fun a S => ?_)
    obtain ⟨x166, e167, hm⟩ := bind_some hm
    have hlt := lt_of_idx (idx_some e167).2
    refine lx_q (ePtr p0 ((W (x56 - (1 : Int))).toNat * 3)) S (want_b rfl rfl hc165) (by decide) (q_indexAddr rfl (H.isSl 0 rfl) rfl (idx_some e167).1 hlt Tryz.underlying29 Tryz.sizeOf68) (fun a S => ?_)
    obtain ⟨x170, e171, hm⟩ := bind_some hm
    refine lx_call (xs := [.tmp 3, .tmp 15]) S (want_b rfl rfl hc165) (by decide) rfl rfl Tryz.call45 ((spec_l11Less_ok (rdPtr_box H 1 rfl ⟨[(.int .i64 a1.1)], [(.int .i64 a1.2.1), (.int .i64 a1.2.2)], rfl, rfl, ⟨[(.int .i64 a1.2.1)], [(.int .i64 a1.2.2)], rfl, rfl, rfl⟩⟩) ((H.rdAt 0 rfl).elemPtr (idx_some e167).2) e171).mono ?_)
    rintro e w168 ⟨rfl, Hc169⟩
    have H := H.call0 Hc169
    refine ⟨_, rfl, trivial, fun a S => ?_⟩
    refine lq (.bool x170) S (q_pickT' rfl hc165 rfl) fun a S => ?_
    refine lx_nil ?_
    obtain rfl := Option.some.inj hm
    exact ⟨S.sub ⟨rfl, rfl, rfl, rfl, trivial⟩, H⟩
   ·have hm := ite_f (eq_false_of_ne_true hc165) e164
    have hc165 : (decide ((0 : Int) < x56)) = false := eq_false_of_ne_true hc165
    refine lx_skip S rfl rfl (isB_ne hc165) (by decide) (fun a S => ?_)
    refine lx_skip S rfl rfl (isB_ne hc165) (by decide) (fun a S => ?_)
    refine lx_skip S rfl rfl (isB_ne hc165) (by decide) (fun a S => ?_)
    refine lx_skip S rfl rfl (isB_ne hc165) (by decide) (fun a S => ?_)
    refine lx_skip S rfl rfl (isB_ne hc165) (by decide) (fun a S => ?_)
    refine lq (.bool false) S (q_pickF' rfl hc165 rfl) fun a S => ?_
    refine lx_nil ?_
    obtain rfl := Option.some.inj hm
    exact ⟨S.sub ⟨rfl, rfl, rfl, rfl, trivial⟩, H⟩
  ·rintro a w ⟨S, H⟩
   refine lx_nil (thenN ?_)
   refine cond_b S rfl (fun hc173 => ?_) (fun hc173 => ?_)
   ·have hm := ite_t hc173 hm
    refine wp_skip (thenN ?_)
    refine wp_block ?_
    refine region_plain ?_
    refine lq (.int .i64 x56) S (q_move rfl) fun a S => ?_
    refine lq (.int .i64 (W (x56 - (1 : Int)))) S (q_sub rfl rfl) fun a S => ?_
    refine lq (.int .i64 (W (x56 - (1 : Int)))) S (q_assign rfl) fun a S => ?_
    refine lx_nil ?_
    refine inBlock_norm ?_
    exact ⟨m160, Nat.lt_succ_self _, (W (x56 - (1 : Int))), S.sub ⟨rfl, rfl, rfl, trivial⟩, H, it_cont hm hc162⟩
   ·have hm := ite_f hc173 hm
    refine wp_exit ?_
    refine then_exit ?_
    refine then_exit ?_
    refine inBlock_exit ?_
    obtain rfl := it_brk hm hc162
    exact ⟨x56, S.sub ⟨rfl, rfl, rfl, trivial⟩, H, rfl⟩

/-- spec.l11Make -/
def spec_l11Make_m (fuel : Nat) (a0 : Int) (a1 : Int) (a2 : (List Str)) (a3 : (List Timpl_Edge)) : Option (Timpl_Lts) :=
  (spec_l11Join_m fuel a2).bind fun x36 => (iter (fun (s : (List Timpl_Edge) × (Int)) => (match s with | (xs91, x93) => (if (decide (x93 < (a3.length : Int))) = true then (idx a3 x93).bind fun x149 => (idx a2 x149.2.1).bind fun x168 => (spec_l11Find_m fuel x36 x168).bind fun x175 => (spec_l11Put_m fuel xs91 (x149.1, x175, x149.2.2)).bind fun x181 => some (.inl (x181, (W (x93 + (1 : Int))))) else some (.inr (.inl (xs91)))) : Option (((List Timpl_Edge) × (Int)) ⊕ (((List Timpl_Edge)) ⊕ (Timpl_Lts))))) fuel (([] : List Timpl_Edge), (0 : Int))).bind fun res139 => ctl (β := (List Timpl_Edge)) (ρ := Timpl_Lts) (τ := Timpl_Lts) res139 (fun (xs137) => some ((a0, a1, x36, xs137))) (fun q => some (q))
set_option maxRecDepth 20000 in
theorem spec_l11Make_ok [dr : Dr] {w0 : World} {fuel : Nat} {p2 p3 : Value} {a0 : Int} {a1 : Int} {a2 : (List Str)} {a3 : (List Timpl_Edge)} {r : Timpl_Lts} (h2 : Rd (rList rStr) w0 p2 a2) (h3 : Rd (rList Rimpl_Edge) w0 p3 a3) (hm : spec_l11Make_m fuel a0 a1 a2 a3 = some r) :
  Calls Tryz.prog 37 #[.int .i64 a0, .int .i64 a1, p2, p3] w0 fun e w => ∃ (v0 : Value) (v1 : Value), e = .returned (.agg #[.int .i64 r.1, .int .i64 r.2.1, v0, v1]) ∧ Heap w0 [oA (rList rStr) v0 r.2.2.1, oA (rList Rimpl_Edge) v1 r.2.2.2] w := by
 unfold spec_l11Make_m at hm
 have H := Heap.start w0
 refine enter (args := [.int .i64 a0, .int .i64 a1, p2, p3]) Tryz.func37 rfl 43 rfl (Nat.le_of_ble_eq_true rfl) (fun a S => ?_)
 refine wp_seq (region_plain ?_)
 refine lx_alloc S trivial (by decide) rfl H Tryz.zeroValue31 rfl (fun b31 w32 H => ⟨trivial, fun a S => ?_⟩)
 refine lx_nil (thenN ?_)
 refine wp_seq (region_plain ?_)
 refine lq (.int .i64 a0) S (q_move rfl) fun a S => ?_
 refine lq (.int .i64 a1) S (q_move rfl) fun a S => ?_
 refine lq p2 S (q_move rfl) fun a S => ?_
 obtain ⟨x36, e37, hm⟩ := bind_some hm
 refine lx_call (xs := [.tmp 14]) S trivial (by decide) rfl rfl Tryz.call63 ((spec_l11Join_ok (H.arg h2) e37).mono ?_)
 rintro e w34 ⟨v38, rfl, Hc35⟩
 have H := H.call1 Hc35
 refine ⟨_, rfl, trivial, fun a S => ?_⟩
 refine lx_buildSlice0 (r := Rimpl_Edge) S trivial (by decide) rfl H Tryz.underlying29 Tryz.sizeOf68 (fun v41 w42 H => ⟨trivial, fun a S => ?_⟩)
 refine lq (.agg #[(.int .i64 a0), (.int .i64 a1), v38, v41]) S (q_build (zs := [(.int .i64 (0 : Int)), (.int .i64 (0 : Int)), (.slice none 0 0), (.slice none 0 0)]) (szs := [1, 1, 1, 1]) (ps := [(0, [(.int .i64 a0)]), (1, [(.int .i64 a1)]), (2, [v38]), (3, [v41])]) (parts := [(0, .tmp 12), (1, .tmp 13), (2, .tmp 15), (3, .tmp 16)]) rfl Tryz.underlying31 Tryz.zeroValue31 (fun w => by simp [Tryz.sizeOf2, Tryz.sizeOf22, Tryz.sizeOf29]) ⟨rfl, rfl, Nat.le_of_ble_eq_true rfl, ⟨rfl, rfl, Nat.le_of_ble_eq_true rfl, ⟨rfl, (cells_sl (H.isSl 1 rfl)), Nat.le_of_ble_eq_true rfl, ⟨rfl, (cells_sl (H.isSl 0 rfl)), Nat.le_of_ble_eq_true rfl, trivial⟩⟩⟩⟩ rfl) fun a S => ?_
 refine lx_alloc S trivial (by decide) rfl H Tryz.zeroValue31 rfl (fun b44 w45 H => ⟨trivial, fun a S => ?_⟩)
 refine lx_storeBox (o := 0) (i := 0) (us := [(.int .i64 a0), (.int .i64 a1), v38, v41]) (cs' := [(.int .i64 a0), (.int .i64 a1), v38, v41]) S trivial rfl H rfl rfl rfl rfl Tryz.sizeOf31 (Nat.le_of_ble_eq_true rfl) (List.forall_mem_cons.2 ⟨rfl, (List.forall_mem_cons.2 ⟨rfl, (List.forall_mem_cons.2 ⟨one_sl (H.isSl 2 rfl), (List.forall_mem_cons.2 ⟨one_sl (H.isSl 1 rfl), (List.forall_mem_nil _)⟩)⟩)⟩)⟩) rfl (fun w47 H => ⟨trivial, fun a S => ?_⟩)
 change Heap w0 [bA b44 [(.int .i64 a0), (.int .i64 a1), v38, v41] 31, oA (rList Rimpl_Edge) v41 ([] : List Timpl_Edge), oA (rList rStr) v38 x36, bA b31 [(.int .i64 (0 : Int)), (.int .i64 (0 : Int)), (.slice none 0 0), (.slice none 0 0)] 31] w47 at H
 refine lx_nil (thenN ?_)
 refine wp_seq (wp_seq (region_plain ?_))
 refine lq (.int .i64 (0 : Int)) S (q_assign rfl) fun a S => ?_
 refine lx_nil (thenN ?_)
 obtain ⟨res139, hit140, hk143⟩ := bind_some hm
 obtain ⟨f141, hf142, hit140⟩ := iter_name hit140
 refine block_loop (fun a w => ∃ (xs137 : List Timpl_Edge) (v136 : Value), Slots a 43 [(8, (bp b31)), (9, (bp b44))] ∧ Heap w0 [bA b31 [(.int .i64 (0 : Int)), (.int .i64 (0 : Int)), (.slice none 0 0), (.slice none 0 0)] 31, bA b44 [(.int .i64 a0), (.int .i64 a1), v38, v136] 31, oA (rList rStr) v38 x36, oA (rList Rimpl_Edge) v136 xs137] w ∧ res139 = .inl (xs137)) ?_ ?_
 ·rintro a w ⟨xs137, v136, S, H, rfl⟩
  have hm := ctl_inl hk143
  refine thenN ?_
  refine wp_seq (region_plain ?_)
  refine lx_e (.agg #[(.int .i64 a0), (.int .i64 a1), v38, v136]) S trivial (by decide) rfl trivial (q_loadA (cs := [(.int .i64 a0), (.int .i64 a1), v38, v136]) rfl (isP_bp _) Tryz.isAgg31 Tryz.sizeOf31 (by rintro _ rfl; exact (fun j u hu => boxAt (i := 1) H rfl hu))) (fun a S => ?_)
  refine lx_storeBox (o := 0) (i := 0) (us := [(.int .i64 a0), (.int .i64 a1), v38, v136]) (cs' := [(.int .i64 a0), (.int .i64 a1), v38, v136]) S trivial rfl H rfl rfl rfl rfl Tryz.sizeOf31 (Nat.le_of_ble_eq_true rfl) (List.forall_mem_cons.2 ⟨rfl, (List.forall_mem_cons.2 ⟨rfl, (List.forall_mem_cons.2 ⟨one_sl (H.isSl 2 rfl), (List.forall_mem_cons.2 ⟨one_sl (H.isSl 3 rfl), (List.forall_mem_nil _)⟩)⟩)⟩)⟩) rfl (fun w144 H => ⟨trivial, fun a S => ?_⟩)
  change Heap w0 [bA b31 [(.int .i64 a0), (.int .i64 a1), v38, v136] 31, bA b44 [(.int .i64 a0), (.int .i64 a1), v38, v136] 31, oA (rList rStr) v38 x36, oA (rList Rimpl_Edge) v136 xs137] w144 at H
  refine lx_nil (thenN ?_)
  refine wp_ret ?_
  have hrv0 := RV.cellA (t := 31) (q := 8) (env := [(8, (bp b31)), (9, (bp b44)), (42, (.agg #[(.int .i64 a0), (.int .i64 a1), v38, v136]))]) H (i := 0) rfl rfl Tryz.isAgg31 Tryz.sizeOf31
  obtain rfl := Option.some.inj hm
  have H : Heap w0 [oA (rList rStr) v38 x36, oA (rList Rimpl_Edge) v136 xs137] w144 := H.sel [2, 3] (by decide)
  exact leaveR1 S rfl hrv0 ⟨v38, v136, rfl, H⟩
 ·skip
  have H : Heap w0 [oA (rList Rimpl_Edge) v41 ([] : List Timpl_Edge), bA b44 [(.int .i64 a0), (.int .i64 a1), v38, v41] 31, oA (rList rStr) v38 x36, bA b31 [(.int .i64 (0 : Int)), (.int .i64 (0 : Int)), (.slice none 0 0), (.slice none 0 0)] 31] w47 := H.front 1 rfl
  have H : Heap w0 [oA (rList rStr) v38 x36, oA (rList Rimpl_Edge) v41 ([] : List Timpl_Edge), bA b44 [(.int .i64 a0), (.int .i64 a1), v38, v41] 31, bA b31 [(.int .i64 (0 : Int)), (.int .i64 (0 : Int)), (.slice none 0 0), (.slice none 0 0)] 31] w47 := H.front 2 rfl
  have H : Heap w0 [bA b44 [(.int .i64 a0), (.int .i64 a1), v38, v41] 31, oA (rList rStr) v38 x36, oA (rList Rimpl_Edge) v41 ([] : List Timpl_Edge), bA b31 [(.int .i64 (0 : Int)), (.int .i64 (0 : Int)), (.slice none 0 0), (.slice none 0 0)] 31] w47 := H.front 2 rfl
  have H : Heap w0 [bA b31 [(.int .i64 (0 : Int)), (.int .i64 (0 : Int)), (.slice none 0 0), (.slice none 0 0)] 31, bA b44 [(.int .i64 a0), (.int .i64 a1), v38, v41] 31, oA (rList rStr) v38 x36, oA (rList Rimpl_Edge) v41 ([] : List Timpl_Edge)] w47 := H.front 3 rfl
  refine loop_ghost (fun n a w => ∃ (xs91 : List Timpl_Edge) (x93 : Int) (v90 : Value), Slots a 43 [(2, p2), (3, p3), (8, (bp b31)), (9, (bp b44)), (10, (.int .i64 x93))] ∧ Heap w0 [bA b31 [(.int .i64 (0 : Int)), (.int .i64 (0 : Int)), (.slice none 0 0), (.slice none 0 0)] 31, bA b44 [(.int .i64 a0), (.int .i64 a1), v38, v90] 31, oA (rList rStr) v38 x36, oA (rList Rimpl_Edge) v90 xs91] w ∧ iter f141 n (xs91, x93) = some res139) _ ⟨([] : List Timpl_Edge), (0 : Int), v41, S.sub ⟨rfl, rfl, rfl, rfl, rfl, trivial⟩, H, hit140⟩ ?_
  rintro n a w ⟨xs91, x93, v90, S, H, hit140⟩
  obtain ⟨m145, o146, rfl, hm, hc147⟩ := iter_step hit140
  rw [hf142] at hm
  refine wp_seq (wp_seq (region_plain ?_))
  refine lq (.int .i64 x93) S (q_move rfl) fun a S => ?_
  refine lq p3 S (q_move rfl) fun a S => ?_
  refine lq (.int .i64 (a3.length : Int)) S (q_lenSl rfl (h3).isSl rfl Tryz.underlying29) fun a S => ?_
  refine lq (.bool (decide (x93 < (a3.length : Int)))) S (q_lss rfl rfl) fun a S => ?_
  refine lx_nil (thenN ?_)
  refine cond_b S rfl (fun hc148 => ?_) (fun hc148 => ?_)
  ·have hm := ite_t hc148 hm
   refine wp_skip (thenN ?_)
   refine wp_seq ?_
   refine wp_block ?_
   refine wp_seq (region_plain ?_)
   refine lq p3 S (q_move rfl) fun a S => ?_
   refine lq (.int .i64 x93) S (q_move rfl) fun a S => ?_
   obtain ⟨x149, e150, hm⟩ := bind_some hm
   obtain ⟨c151, h152, hat153⟩ := (h3).elem (idx_some e150).2
   obtain ⟨c154, c155, rfl, h156, h157⟩ := h152
   obtain rfl := h156
   obtain ⟨c158, c159, rfl, h160, h161⟩ := h157
   obtain rfl := h160
   obtain rfl := h161
   have hlt := lt_of_idx (idx_some e150).2
   refine lq (ePtr p3 (x93.toNat * 3)) S (q_indexAddr rfl (h3).isSl rfl (idx_some e150).1 hlt Tryz.underlying29 Tryz.sizeOf68) fun a S => ?_
   refine lx_e (.agg #[(.int .i64 x149.1), (.int .i64 x149.2.1), (.int .i64 x149.2.2)]) S trivial (by decide) rfl trivial (q_loadA (cs := [(.int .i64 x149.1), (.int .i64 x149.2.1), (.int .i64 x149.2.2)]) rfl ((hat153 0 _ rfl).isP) Tryz.isAgg68 Tryz.sizeOf68 (by rintro _ rfl; exact (fun j u hu => (hat153 j u hu).ext H.ext))) (fun a S => ?_)
   refine lx_alloc S trivial (by decide) rfl H Tryz.zeroValue68 rfl (fun b162 w163 H => ⟨trivial, fun a S => ?_⟩)
   refine lx_storeBox (o := 0) (i := 0) (us := [(.int .i64 x149.1), (.int .i64 x149.2.1), (.int .i64 x149.2.2)]) (cs' := [(.int .i64 x149.1), (.int .i64 x149.2.1), (.int .i64 x149.2.2)]) S trivial rfl H rfl rfl rfl rfl Tryz.sizeOf68 (Nat.le_of_ble_eq_true rfl) (List.forall_mem_cons.2 ⟨rfl, (List.forall_mem_cons.2 ⟨rfl, (List.forall_mem_cons.2 ⟨rfl, (List.forall_mem_nil _)⟩)⟩)⟩) rfl (fun w165 H => ⟨trivial, fun a S => ?_⟩)
   change Heap w0 [bA b162 [(.int .i64 x149.1), (.int .i64 x149.2.1), (.int .i64 x149.2.2)] 68, bA b31 [(.int .i64 (0 : Int)), (.int .i64 (0 : Int)), (.slice none 0 0), (.slice none 0 0)] 31, bA b44 [(.int .i64 a0), (.int .i64 a1), v38, v90] 31, oA (rList rStr) v38 x36, oA (rList Rimpl_Edge) v90 xs91] w165 at H
   refine lx_nil (thenN ?_)
   refine wp_seq ?_
   refine region_drawG (fun w1 => Heap w0 [bA b44 [(.int .i64 a0), (.int .i64 a1), v38, v90] 31] w1) (fun i => [4, 7, 9].contains i) mixed (by kernel_rfl) (fun w167 he166 => ?_)
   have H := H.later he166
   refine ⟨H.sel [2] (by decide), ?_⟩
   refine lq (pAdd (bp b44) 2) S (q_fieldAddr' 2 22 rfl (isP_bp _) Tryz.underlying31 rfl Tryz.sizeOf22) fun a S => ?_
   refine lq v38 S (q_load1 rfl Tryz.isAgg22 (fun w1 hC => (At.of_add (m := 2) (j := 0) (boxAt (i := 0) hC rfl (j := 2) rfl)))) fun a S => ?_
   refine lq p2 S (q_move rfl) fun a S => ?_
   refine lq (pAdd (bp b162) 1) S (q_fieldAddr' 1 2 rfl (isP_bp _) Tryz.underlying68 rfl Tryz.sizeOf2) fun a S => ?_
   refine lx_e (.int .i64 x149.2.1) S trivial (by decide) rfl (H.sel [2] (by decide)) (q_load1 rfl Tryz.isAgg2 (by rintro _ rfl; exact (At.of_add (m := 1) (j := 0) (boxAt (i := 0) H rfl (j := 1) rfl)))) (fun a S => ?_)
   obtain ⟨x168, e169, hm⟩ := bind_some hm
   obtain ⟨c170, h171, hat172⟩ := (h2).elem (idx_some e169).2
   obtain rfl := h171
   have hlt := lt_of_idx (idx_some e169).2
   refine lq (ePtr p2 (x149.2.1.toNat * 1)) S (q_indexAddr rfl (h2).isSl rfl (idx_some e169).1 hlt Tryz.underlying22 Tryz.sizeOf9) fun a S => ?_
   refine lq (sv x168) S (q_load1 rfl Tryz.isAgg9 (fun w1 hC => ((hat172 0 _ rfl).ext hC.ext))) fun a S => ?_
   obtain ⟨x175, e176, hm⟩ := bind_some hm
   refine lx_call (xs := [.tmp 29, .tmp 34]) S trivial (by decide) rfl rfl Tryz.call64 ((spec_l11Find_ok (H.rdAt 3 rfl)  e176).mono ?_)
   rintro e w173 ⟨rfl, Hc174⟩
   have H := H.call0 Hc174
   refine ⟨_, rfl, H.sel [2] (by decide), fun a S => ?_⟩
   refine lq (pAdd (bp b162) 1) S (q_fieldAddr' 1 2 rfl (isP_bp _) Tryz.underlying68 rfl Tryz.sizeOf2) fun a S => ?_
   refine lx_storeBox (o := 1) (i := 0) (us := [(.int .i64 x175)]) (cs' := [(.int .i64 x149.1), (.int .i64 x175), (.int .i64 x149.2.2)]) S trivial rfl H rfl rfl rfl rfl Tryz.sizeOf2 (Nat.le_of_ble_eq_true rfl) (List.forall_mem_cons.2 ⟨rfl, (List.forall_mem_nil _)⟩) rfl (fun w178 H => ⟨H.sel [2] (by decide), fun a S => ?_⟩)
   change Heap w0 [bA b162 [(.int .i64 x149.1), (.int .i64 x175), (.int .i64 x149.2.2)] 68, bA b31 [(.int .i64 (0 : Int)), (.int .i64 (0 : Int)), (.slice none 0 0), (.slice none 0 0)] 31, bA b44 [(.int .i64 a0), (.int .i64 a1), v38, v90] 31, oA (rList rStr) v38 x36, oA (rList Rimpl_Edge) v90 xs91] w178 at H
   refine lx_nil (thenN ?_)
   refine region_plain ?_
   refine lq (pAdd (bp b44) 3) S (q_fieldAddr' 3 29 rfl (isP_bp _) Tryz.underlying31 rfl Tryz.sizeOf29) fun a S => ?_
   refine lx_e v90 S trivial (by decide) rfl trivial (q_load1 rfl Tryz.isAgg29 (by rintro _ rfl; exact (At.of_add (m := 3) (j := 0) (boxAt (i := 2) H rfl (j := 3) rfl)))) (fun a S => ?_)
   refine lx_e (.agg #[(.int .i64 x149.1), (.int .i64 x175), (.int .i64 x149.2.2)]) S trivial (by decide) rfl trivial (q_loadA (cs := [(.int .i64 x149.1), (.int .i64 x175), (.int .i64 x149.2.2)]) rfl (isP_bp _) Tryz.isAgg68 Tryz.sizeOf68 (by rintro _ rfl; exact (fun j u hu => boxAt (i := 0) H rfl hu))) (fun a S => ?_)
   obtain ⟨x181, e182, hm⟩ := bind_some hm
   have H : Heap w0 [oA (rList Rimpl_Edge) v90 xs91, bA b162 [(.int .i64 x149.1), (.int .i64 x175), (.int .i64 x149.2.2)] 68, bA b31 [(.int .i64 (0 : Int)), (.int .i64 (0 : Int)), (.slice none 0 0), (.slice none 0 0)] 31, bA b44 [(.int .i64 a0), (.int .i64 a1), v38, v90] 31, oA (rList rStr) v38 x36] w178 := H.front 4 rfl
   refine lx_call (xs := [.tmp 38, .tmp 39]) S trivial (by decide) rfl rfl Tryz.call65 ((spec_l11Put_ok (a1 := (x149.1, x175, x149.2.2)) H ⟨[(.int .i64 x149.1), (.int .i64 x175), (.int .i64 x149.2.2)], rfl, ⟨[(.int .i64 x149.1)], [(.int .i64 x175), (.int .i64 x149.2.2)], rfl, rfl, ⟨[(.int .i64 x175)], [(.int .i64 x149.2.2)], rfl, rfl, rfl⟩⟩⟩ e182).mono ?_)
   rintro e w179 ⟨v183, rfl, H⟩
   refine ⟨_, rfl, trivial, fun a S => ?_⟩
   refine lq (pAdd (bp b44) 3) S (q_fieldAddr' 3 29 rfl (isP_bp _) Tryz.underlying31 rfl Tryz.sizeOf29) fun a S => ?_
   refine lx_storeBox (o := 3) (i := 3) (us := [v183]) (cs' := [(.int .i64 a0), (.int .i64 a1), v38, v183]) S trivial rfl H rfl rfl rfl (cells_sl (H.isSl 0 rfl)) Tryz.sizeOf29 (Nat.le_of_ble_eq_true rfl) (List.forall_mem_cons.2 ⟨one_sl (H.isSl 0 rfl), (List.forall_mem_nil _)⟩) rfl (fun w185 H => ⟨trivial, fun a S => ?_⟩)
   change Heap w0 [oA (rList Rimpl_Edge) v183 x181, bA b162 [(.int .i64 x149.1), (.int .i64 x175), (.int .i64 x149.2.2)] 68, bA b31 [(.int .i64 (0 : Int)), (.int .i64 (0 : Int)), (.slice none 0 0), (.slice none 0 0)] 31, bA b44 [(.int .i64 a0), (.int .i64 a1), v38, v183] 31, oA (rList rStr) v38 x36] w185 at H
   refine lx_nil ?_
   refine inBlock_norm ?_
   refine thenN ?_
   refine region_plain ?_
   refine lq (.int .i64 x93) S (q_move rfl) fun a S => ?_
   refine lq (.int .i64 (W (x93 + (1 : Int)))) S (q_add rfl rfl) fun a S => ?_
   refine lq (.int .i64 (W (x93 + (1 : Int)))) S (q_assign rfl) fun a S => ?_
   refine lx_nil ?_
   have H : Heap w0 [oA (rList rStr) v38 x36, oA (rList Rimpl_Edge) v183 x181, bA b162 [(.int .i64 x149.1), (.int .i64 x175), (.int .i64 x149.2.2)] 68, bA b31 [(.int .i64 (0 : Int)), (.int .i64 (0 : Int)), (.slice none 0 0), (.slice none 0 0)] 31, bA b44 [(.int .i64 a0), (.int .i64 a1), v38, v183] 31] w185 := H.front 4 rfl
   have H : Heap w0 [bA b44 [(.int .i64 a0), (.int .i64 a1), v38, v183] 31, oA (rList rStr) v38 x36, oA (rList Rimpl_Edge) v183 x181, bA b162 [(.int .i64 x149.1), (.int .i64 x175), (.int .i64 x149.2.2)] 68, bA b31 [(.int .i64 (0 : Int)), (.int .i64 (0 : Int)), (.slice none 0 0), (.slice none 0 0)] 31] w185 := H.front 4 rfl
   have H : Heap w0 [bA b31 [(.int .i64 (0 : Int)), (.int .i64 (0 : Int)), (.slice none 0 0), (.slice none 0 0)] 31, bA b44 [(.int .i64 a0), (.int .i64 a1), v38, v183] 31, oA (rList rStr) v38 x36, oA (rList Rimpl_Edge) v183 x181, bA b162 [(.int .i64 x149.1), (.int .i64 x175), (.int .i64 x149.2.2)] 68] w185 := H.front 4 rfl
   have H : Heap w0 [bA b31 [(.int .i64 (0 : Int)), (.int .i64 (0 : Int)), (.slice none 0 0), (.slice none 0 0)] 31, bA b44 [(.int .i64 a0), (.int .i64 a1), v38, v183] 31, oA (rList rStr) v38 x36, oA (rList Rimpl_Edge) v183 x181] w185 := H.sel [0, 1, 2, 3] (by decide)
   exact ⟨m145, Nat.lt_succ_self _, x181, (W (x93 + (1 : Int))), v183, S.sub ⟨rfl, rfl, rfl, rfl, rfl, trivial⟩, H, it_cont hm hc147⟩
  ·have hm := ite_f hc148 hm
   refine wp_exit ?_
   refine then_exit ?_
   refine then_exit ?_
   refine inBlock_exit ?_
   obtain rfl := it_brk hm hc147
   exact ⟨xs91, v90, S.sub ⟨rfl, rfl, trivial⟩, H, rfl⟩

/-- (impl.Lts).arcs -/
def impl_Lts_arcs_m (fuel : Nat) (a0 : Timpl_Lts) : Option ((List Timpl_arc)) :=
  (iter (fun (s : (List Timpl_arc) × (Int)) => (match s with | (xs91, x93) => (if (decide (x93 < (a0.2.2.2.length : Int))) = true then (idx a0.2.2.2 x93).bind fun x144 => (idx a0.2.2.1 x144.2.1).bind fun x163 => (app xs91 [(x144.1, x163, x144.2.2)]).bind fun x171 => some (.inl (x171, (W (x93 + (1 : Int))))) else some (.inr (.inl (xs91)))) : Option (((List Timpl_arc) × (Int)) ⊕ (((List Timpl_arc)) ⊕ ((List Timpl_arc)))))) fuel ([], (0 : Int))).bind fun res134 => ctl (β := (List Timpl_arc)) (ρ := (List Timpl_arc)) (τ := (List Timpl_arc)) res134 (fun (xs132) => some (xs132)) (fun q => some (q))
set_option maxRecDepth 20000 in
theorem impl_Lts_arcs_ok [dr : Dr] {w0 : World} {fuel : Nat} {p0 : Value} {a0 : Timpl_Lts} {r : (List Timpl_arc)} (h0 : Rd Rimpl_Lts w0 p0 a0) (hm : impl_Lts_arcs_m fuel a0 = some r) :
  Calls Tryz.prog 57 #[p0] w0 fun e w => ∃ (v0 : Value), e = .returned (v0) ∧ Heap w0 [oA (rList Rimpl_arc) v0 r] w := by
 unfold impl_Lts_arcs_m at hm
 have H := Heap.start w0
 obtain ⟨c31, rfl, h32⟩ := h0
 obtain ⟨c37, c38, rfl, h39, h40⟩ := h32
 obtain rfl := h39
 obtain ⟨c41, c42, rfl, h43, h44⟩ := h40
 obtain rfl := h43
 obtain ⟨c45, c46, rfl, h47, h48⟩ := h44
 obtain ⟨v33, rfl, h34⟩ := rd_list h47
 obtain ⟨v35, rfl, h36⟩ := rd_list h48
 refine enter (args := [(.agg #[(.int .i64 a0.1), (.int .i64 a0.2.1), v33, v35])]) Tryz.func57 rfl 29 rfl (Nat.le_of_ble_eq_true rfl) (fun a S => ?_)
 refine wp_seq (region_plain ?_)
 refine lx_box S trivial (by decide) rfl H rfl rfl (fun b49 w50 H => ⟨trivial, fun a S => ?_⟩)
 refine lq (.slice none 0 0) S (q_assign rfl) fun a S => ?_
 refine lx_nil (thenN ?_)
 refine wp_seq (region_plain ?_)
 refine lq (.slice none 0 0) S (q_assign rfl) fun a S => ?_
 refine lx_nil (thenN ?_)
 refine wp_seq (wp_seq (region_plain ?_))
 refine lq (pAdd (bp b49) 3) S (q_fieldAddr' 3 29 rfl (isP_bp _) Tryz.underlying31 rfl Tryz.sizeOf29) fun a S => ?_
 refine lx_e v35 S trivial (by decide) rfl trivial (q_load1 rfl Tryz.isAgg29 (by rintro _ rfl; exact (At.of_add (m := 3) (j := 0) (boxAt (i := 0) H rfl (j := 3) rfl)))) (fun a S => ?_)
 refine lq (.int .i64 (a0.2.2.2.length : Int)) S (q_lenSl rfl (h36).isSl rfl Tryz.underlying29) fun a S => ?_
 refine lq (.int .i64 (0 : Int)) S (q_move rfl) fun a S => ?_
 refine lx_nil (thenN ?_)
 obtain ⟨res134, hit135, hk138⟩ := bind_some hm
 obtain ⟨f136, hf137, hit135⟩ := iter_name hit135
 refine block_loop (fun a w => ∃ (xs132 : List Timpl_arc) (v131 : Value), Slots a 29 [(3, v131)] ∧ Heap w0 [oA (rList Rimpl_arc) v131 xs132] w ∧ res134 = .inl (xs132)) ?_ ?_
 ·rintro a w ⟨xs132, v131, S, H, rfl⟩
  have hm := ctl_inl hk138
  refine thenN ?_
  refine wp_seq (region_plain ?_)
  refine lq v131 S (q_move rfl) fun a S => ?_
  refine lq v131 S (q_assign rfl) fun a S => ?_
  refine lx_nil (thenN ?_)
  refine wp_ret ?_
  obtain rfl := Option.some.inj hm
  exact leave1 S rfl rfl ⟨v131, rfl, H⟩
 ·skip
  have H : Heap w0 [oA (rList Rimpl_arc) (.slice none 0 0) ([] : List Timpl_arc), bA b49 [(.int .i64 a0.1), (.int .i64 a0.2.1), v33, v35] 31] w50 := H.nilList Rimpl_arc
  have H : Heap w0 [bA b49 [(.int .i64 a0.1), (.int .i64 a0.2.1), v33, v35] 31, oA (rList Rimpl_arc) (.slice none 0 0) ([] : List Timpl_arc)] w50 := H.front 1 rfl
  refine loop_ghost (fun n a w => ∃ (xs91 : List Timpl_arc) (x93 : Int) (v90 : Value), Slots a 29 [(1, (bp b49)), (3, v90), (7, v35), (8, (.int .i64 (a0.2.2.2.length : Int))), (9, (.int .i64 x93))] ∧ Heap w0 [bA b49 [(.int .i64 a0.1), (.int .i64 a0.2.1), v33, v35] 31, oA (rList Rimpl_arc) v90 xs91] w ∧ iter f136 n (xs91, x93) = some res134) _ ⟨[], (0 : Int), (.slice none 0 0), S.sub ⟨rfl, rfl, rfl, rfl, rfl, trivial⟩, H, hit135⟩ ?_
  rintro n a w ⟨xs91, x93, v90, S, H, hit135⟩
  obtain ⟨m140, o141, rfl, hm, hc142⟩ := iter_step hit135
  rw [hf137] at hm
  refine wp_seq (region_plain ?_)
  refine lq (.bool (decide (x93 < (a0.2.2.2.length : Int)))) S (q_lss rfl rfl) fun a S => ?_
  refine lx_nil (thenN ?_)
  refine wp_seq ?_
  refine cond_b S rfl (fun hc143 => ?_) (fun hc143 => ?_)
  ·have hm := ite_t hc143 hm
   refine wp_skip (thenN ?_)
   refine wp_seq ?_
   refine wp_block ?_
   refine wp_seq (region_plain ?_)
   obtain ⟨x144, e145, hm⟩ := bind_some hm
   obtain ⟨c146, h147, hat148⟩ := (h36).elem (idx_some e145).2
   obtain ⟨c149, c150, rfl, h151, h152⟩ := h147
   obtain rfl := h151
   obtain ⟨c153, c154, rfl, h155, h156⟩ := h152
   obtain rfl := h155
   obtain rfl := h156
   have hlt := lt_of_idx (idx_some e145).2
   refine lq (ePtr v35 (x93.toNat * 3)) S (q_indexAddr rfl (h36).isSl rfl (idx_some e145).1 hlt Tryz.underlying29 Tryz.sizeOf68) fun a S => ?_
   refine lx_e (.agg #[(.int .i64 x144.1), (.int .i64 x144.2.1), (.int .i64 x144.2.2)]) S trivial (by decide) rfl trivial (q_loadA (cs := [(.int .i64 x144.1), (.int .i64 x144.2.1), (.int .i64 x144.2.2)]) rfl ((hat148 0 _ rfl).isP) Tryz.isAgg68 Tryz.sizeOf68 (by rintro _ rfl; exact (fun j u hu => (hat148 j u hu).ext H.ext))) (fun a S => ?_)
   refine lx_alloc S trivial (by decide) rfl H Tryz.zeroValue68 rfl (fun b157 w158 H => ⟨trivial, fun a S => ?_⟩)
   refine lx_storeBox (o := 0) (i := 0) (us := [(.int .i64 x144.1), (.int .i64 x144.2.1), (.int .i64 x144.2.2)]) (cs' := [(.int .i64 x144.1), (.int .i64 x144.2.1), (.int .i64 x144.2.2)]) S trivial rfl H rfl rfl rfl rfl Tryz.sizeOf68 (Nat.le_of_ble_eq_true rfl) (List.forall_mem_cons.2 ⟨rfl, (List.forall_mem_cons.2 ⟨rfl, (List.forall_mem_cons.2 ⟨rfl, (List.forall_mem_nil _)⟩)⟩)⟩) rfl (fun w160 H => ⟨trivial, fun a S => ?_⟩)
   change Heap w0 [bA b157 [(.int .i64 x144.1), (.int .i64 x144.2.1), (.int .i64 x144.2.2)] 68, bA b49 [(.int .i64 a0.1), (.int .i64 a0.2.1), v33, v35] 31, oA (rList Rimpl_arc) v90 xs91] w160 at H
   refine lx_nil (thenN ?_)
   refine region_drawG (fun w1 => Heap w0 [bA b157 [(.int .i64 x144.1), (.int .i64 x144.2.1), (.int .i64 x144.2.2)] 68, bA b49 [(.int .i64 a0.1), (.int .i64 a0.2.1), v33, v35] 31] w1) (fun i => [12, 13].contains i) mixed (by kernel_rfl) (fun w162 he161 => ?_)
   have H := H.later he161
   refine ⟨H.sel [0, 1] (by decide), ?_⟩
   refine lq v90 S (q_move rfl) fun a S => ?_
   refine lq (pAdd (bp b157) 0) S (q_fieldAddr' 0 2 rfl (isP_bp _) Tryz.underlying68 rfl Tryz.sizeOf2) fun a S => ?_
   refine lq (.int .i64 x144.1) S (q_load1 rfl Tryz.isAgg2 (fun w1 hC => (At.of_add (m := 0) (j := 0) (boxAt (i := 0) hC rfl (j := 0) rfl)))) fun a S => ?_
   refine lq (pAdd (bp b49) 2) S (q_fieldAddr' 2 22 rfl (isP_bp _) Tryz.underlying31 rfl Tryz.sizeOf22) fun a S => ?_
   refine lq v33 S (q_load1 rfl Tryz.isAgg22 (fun w1 hC => (At.of_add (m := 2) (j := 0) (boxAt (i := 1) hC rfl (j := 2) rfl)))) fun a S => ?_
   refine lq (pAdd (bp b157) 1) S (q_fieldAddr' 1 2 rfl (isP_bp _) Tryz.underlying68 rfl Tryz.sizeOf2) fun a S => ?_
   refine lq (.int .i64 x144.2.1) S (q_load1 rfl Tryz.isAgg2 (fun w1 hC => (At.of_add (m := 1) (j := 0) (boxAt (i := 0) hC rfl (j := 1) rfl)))) fun a S => ?_
   obtain ⟨x163, e164, hm⟩ := bind_some hm
   obtain ⟨c165, h166, hat167⟩ := (h34).elem (idx_some e164).2
   obtain rfl := h166
   have hlt := lt_of_idx (idx_some e164).2
   refine lq (ePtr v33 (x144.2.1.toNat * 1)) S (q_indexAddr rfl (h34).isSl rfl (idx_some e164).1 hlt Tryz.underlying22 Tryz.sizeOf9) fun a S => ?_
   refine lq (sv x163) S (q_load1 rfl Tryz.isAgg9 (fun w1 hC => ((hat167 0 _ rfl).ext hC.ext))) fun a S => ?_
   refine lq (pAdd (bp b157) 2) S (q_fieldAddr' 2 2 rfl (isP_bp _) Tryz.underlying68 rfl Tryz.sizeOf2) fun a S => ?_
   refine lq (.int .i64 x144.2.2) S (q_load1 rfl Tryz.isAgg2 (fun w1 hC => (At.of_add (m := 2) (j := 0) (boxAt (i := 0) hC rfl (j := 2) rfl)))) fun a S => ?_
   refine lq (.agg #[(.int .i64 x144.1), (sv x163), (.int .i64 x144.2.2)]) S (q_build (zs := [(.int .i64 (0 : Int)), (sv ([] : Str)), (.int .i64 (0 : Int))]) (szs := [1, 1, 1]) (ps := [(0, [(.int .i64 x144.1)]), (1, [(sv x163)]), (2, [(.int .i64 x144.2.2)])]) (parts := [(0, .tmp 15), (1, .tmp 21), (2, .tmp 23)]) rfl Tryz.underlying90 Tryz.zeroValue90 (fun w => by simp [Tryz.sizeOf2, Tryz.sizeOf9]) ⟨rfl, rfl, Nat.le_of_ble_eq_true rfl, ⟨rfl, rfl, Nat.le_of_ble_eq_true rfl, ⟨rfl, rfl, Nat.le_of_ble_eq_true rfl, trivial⟩⟩⟩ rfl) fun a S => ?_
   refine lx_buildSlice (r := Rimpl_arc) (xs := [(x144.1, x163, x144.2.2)]) (ps := [(0, [(.int .i64 x144.1), (sv x163), (.int .i64 x144.2.2)])]) (cs := [(.int .i64 x144.1), (sv x163), (.int .i64 x144.2.2)]) (parts := [(0, .tmp 24)]) S trivial (by decide) rfl (H.put0 (A := eA) rfl) rfl Tryz.underlying81 Tryz.sizeOf90 Tryz.zeroValue90 (by decide) ⟨rfl, rfl, Nat.le_of_ble_eq_true rfl, trivial⟩ (by intro zs hz; exact fill_dense hz ⟨rfl, trivial⟩ rfl rfl) rfl (by decide) (fun w F hA => by cases (show F = [] from hA); exact ⟨_, _, [(.int .i64 x144.1), (sv x163), (.int .i64 x144.2.2)], _, rfl, rfl, ⟨_, _, [(.int .i64 x144.1)], [(sv x163), (.int .i64 x144.2.2)], rfl, rfl, ⟨rfl, rfl⟩, ⟨_, _, [(sv x163)], [(.int .i64 x144.2.2)], rfl, rfl, ⟨rfl, rfl⟩, ⟨rfl, rfl⟩⟩⟩, ⟨rfl, rfl⟩⟩) (fun v168 w169 H => ⟨H.sel [1, 2] (by decide), fun a S => ?_⟩)
   obtain ⟨x171, e172, hm⟩ := bind_some hm
   obtain ⟨hle, hap⟩ := app_some e172
   replace hap := hap.symm
   subst hap
   have H : Heap w0 [oA (rList Rimpl_arc) v168 [(x144.1, x163, x144.2.2)], bA b157 [(.int .i64 x144.1), (.int .i64 x144.2.1), (.int .i64 x144.2.2)] 68, bA b49 [(.int .i64 a0.1), (.int .i64 a0.2.1), v33, v35] 31, oA (rList Rimpl_arc) v90 xs91] w169 := H.front 0 rfl
   have H : Heap w0 [oA (rList Rimpl_arc) v90 xs91, oA (rList Rimpl_arc) v168 [(x144.1, x163, x144.2.2)], bA b157 [(.int .i64 x144.1), (.int .i64 x144.2.1), (.int .i64 x144.2.2)] 68, bA b49 [(.int .i64 a0.1), (.int .i64 a0.2.1), v33, v35] 31] w169 := H.front 3 rfl
   refine lx_appendOwn (r := Rimpl_arc) S trivial (by decide) rfl H rfl rfl Tryz.underlying81 Tryz.ti90 rfl rfl rfl (Nat.le_of_ble_eq_true rfl) (by decide) hle (fun v173 w174 H => ⟨H.sel [1, 2] (by decide), fun a S => ?_⟩)
   refine lq v173 S (q_assign rfl) fun a S => ?_
   refine lx_nil ?_
   refine inBlock_norm ?_
   refine thenN ?_
   refine region_plain ?_
   refine lq (.int .i64 (W (x93 + (1 : Int)))) S (q_add rfl rfl) fun a S => ?_
   refine lq (.int .i64 (W (x93 + (1 : Int)))) S (q_move rfl) fun a S => ?_
   refine lx_nil ?_
   have H : Heap w0 [bA b49 [(.int .i64 a0.1), (.int .i64 a0.2.1), v33, v35] 31, oA (rList Rimpl_arc) v173 (xs91 ++ [(x144.1, x163, x144.2.2)]), bA b157 [(.int .i64 x144.1), (.int .i64 x144.2.1), (.int .i64 x144.2.2)] 68] w174 := H.front 2 rfl
   have H : Heap w0 [bA b49 [(.int .i64 a0.1), (.int .i64 a0.2.1), v33, v35] 31, oA (rList Rimpl_arc) v173 (xs91 ++ [(x144.1, x163, x144.2.2)])] w174 := H.sel [0, 1] (by decide)
   exact ⟨m140, Nat.lt_succ_self _, (xs91 ++ [(x144.1, x163, x144.2.2)]), (W (x93 + (1 : Int))), v173, S.sub ⟨rfl, rfl, rfl, rfl, rfl, trivial⟩, H, it_cont hm hc142⟩
  ·have hm := ite_f hc143 hm
   refine wp_exit ?_
   refine then_exit ?_
   refine then_exit ?_
   refine inBlock_exit ?_
   obtain rfl := it_brk hm hc142
   have H : Heap w0 [oA (rList Rimpl_arc) v90 xs91] w := H.sel [1] (by decide)
   exact ⟨xs91, v90, S.sub ⟨rfl, trivial⟩, H, rfl⟩

/-- impl.compareLabels -/
def impl_compareLabels_m (fuel : Nat) (a0 : Str) (a1 : Str) : Option (Int) :=
  (if (a0 == a1) = true then some ((0 : Int)) else (if (a0 == ([116, 97, 117] : Str)) = true then some ((-1 : Int)) else (if (a1 == ([116, 97, 117] : Str)) = true then some ((1 : Int)) else (strings_Compare_m fuel a0 a1).bind fun x36 => some (x36))))
set_option maxRecDepth 20000 in
theorem impl_compareLabels_ok [dr : Dr] {w0 : World} {fuel : Nat} {a0 : Str} {a1 : Str} {r : Int} (hm : impl_compareLabels_m fuel a0 a1 = some r) :
  Calls Tryz.prog 84 #[sv a0, sv a1] w0 fun e w => e = .returned (.int .i64 r) ∧ Heap w0 [] w := by
 unfold impl_compareLabels_m at hm
 have H := Heap.start w0
 refine enter (args := [sv a0, sv a1]) Tryz.func84 rfl 18 rfl (Nat.le_of_ble_eq_true rfl) (fun a S => ?_)
 refine wp_seq (region_plain ?_)
 refine lq (.int .i64 (0 : Int)) S (q_assign rfl) fun a S => ?_
 refine lx_nil (thenN ?_)
 refine wp_seq ?_
 refine wp_block ?_
 refine wp_seq (region_plain ?_)
 refine lq (sv a0) S (q_move rfl) fun a S => ?_
 refine lq (sv a1) S (q_move rfl) fun a S => ?_
 refine lq (.bool (a0 == a1)) S (q_seql rfl rfl) fun a S => ?_
 refine lq (.bool (a0 == a1)) S (q_assign rfl) fun a S => ?_
 refine lx_nil (thenN ?_)
 refine cond_b S rfl (fun hc31 => ?_) (fun hc31 => ?_)
 ·have hm := ite_t hc31 hm
  refine wp_seq (region_plain ?_)
  refine lq (.int .i64 (0 : Int)) S (q_assign rfl) fun a S => ?_
  refine lx_nil (thenN ?_)
  refine wp_ret (inBlock_ret ?_)
  refine then_ret ?_
  obtain rfl := Option.some.inj hm
  exact leave1 S rfl rfl ⟨rfl, H⟩
 ·have hm := ite_f hc31 hm
  refine wp_seq (region_plain ?_)
  refine lq (sv a0) S (q_move rfl) fun a S => ?_
  refine lq (.bool (a0 == ([116, 97, 117] : Str))) S (q_seql rfl rfl) fun a S => ?_
  refine lq (.bool (a0 == ([116, 97, 117] : Str))) S (q_assign rfl) fun a S => ?_
  refine lx_nil (thenN ?_)
  refine cond_b S rfl (fun hc32 => ?_) (fun hc32 => ?_)
  ·have hm := ite_t hc32 hm
   refine wp_seq (region_plain ?_)
   refine lq (.int .i64 (-1 : Int)) S (q_assign rfl) fun a S => ?_
   refine lx_nil (thenN ?_)
   refine wp_ret (inBlock_ret ?_)
   refine then_ret ?_
   obtain rfl := Option.some.inj hm
   exact leave1 S rfl rfl ⟨rfl, H⟩
  ·have hm := ite_f hc32 hm
   refine wp_seq (region_plain ?_)
   refine lq (sv a1) S (q_move rfl) fun a S => ?_
   refine lq (.bool (a1 == ([116, 97, 117] : Str))) S (q_seql rfl rfl) fun a S => ?_
   refine lq (.bool (a1 == ([116, 97, 117] : Str))) S (q_assign rfl) fun a S => ?_
   refine lx_nil (thenN ?_)
   refine cond_b S rfl (fun hc33 => ?_) (fun hc33 => ?_)
   ·have hm := ite_t hc33 hm
    refine wp_seq (region_plain ?_)
    refine lq (.int .i64 (1 : Int)) S (q_assign rfl) fun a S => ?_
    refine lx_nil (thenN ?_)
    refine wp_ret (inBlock_ret ?_)
    refine then_ret ?_
    obtain rfl := Option.some.inj hm
    exact leave1 S rfl rfl ⟨rfl, H⟩
   ·have hm := ite_f hc33 hm
    refine wp_skip ?_
    refine inBlock_norm ?_
    refine thenN ?_
    refine wp_seq (region_plain ?_)
    refine lq (sv a0) S (q_move rfl) fun a S => ?_
    refine lq (sv a1) S (q_move rfl) fun a S => ?_
    obtain ⟨x36, e37, hm⟩ := bind_some hm
    refine lx_call (xs := [.tmp 15, .tmp 16]) S trivial (by decide) rfl rfl Tryz.call108 ((strings_Compare_ok   e37).mono ?_)
    rintro e w34 ⟨rfl, Hc35⟩
    have H := H.call0 Hc35
    refine ⟨_, rfl, trivial, fun a S => ?_⟩
    refine lq (.int .i64 x36) S (q_assign rfl) fun a S => ?_
    refine lx_nil (thenN ?_)
    refine wp_ret ?_
    obtain rfl := Option.some.inj hm
    exact leave1 S rfl rfl ⟨rfl, H⟩

/-- slices.Index[[]string,string] -/
def slices_Index__string_string_m (fuel : Nat) (a0 : (List Str)) (a1 : Str) : Option (Int) :=
  (iter (fun (s : (Int)) => (match s with | (x39) => (if (decide (x39 < (a0.length : Int))) = true then (idx a0 x39).bind fun x57 => (if (a1 == x57) = true then some (.inr (.inr x39)) else some (.inl ((W (x39 + (1 : Int)))))) else some (.inr (.inl ()))) : Option (((Int)) ⊕ ((Unit) ⊕ (Int))))) fuel ((0 : Int))).bind fun res48 => ctl (β := Unit) (ρ := Int) (τ := Int) res48 (fun _ => some ((-1 : Int))) (fun q => some (q))
set_option maxRecDepth 20000 in
theorem slices_Index__string_string_ok [dr : Dr] {w0 : World} {fuel : Nat} {p0 : Value} {a0 : (List Str)} {a1 : Str} {r : Int} (h0 : Rd (rList rStr) w0 p0 a0) (hm : slices_Index__string_string_m fuel a0 a1 = some r) :
  Calls Tryz.prog 86 #[p0, sv a1] w0 fun e w => e = .returned (.int .i64 r) ∧ Heap w0 [] w := by
 unfold slices_Index__string_string_m at hm
 have H := Heap.start w0
 refine enter (args := [p0, sv a1]) Tryz.func86 rfl 19 rfl (Nat.le_of_ble_eq_true rfl) (fun a S => ?_)
 refine wp_seq (region_plain ?_)
 refine lq (.int .i64 (0 : Int)) S (q_assign rfl) fun a S => ?_
 refine lx_nil (thenN ?_)
 refine wp_seq (wp_seq (region_plain ?_))
 refine lq p0 S (q_move rfl) fun a S => ?_
 refine lq (.int .i64 (a0.length : Int)) S (q_lenSl rfl (h0).isSl rfl Tryz.underlying22) fun a S => ?_
 refine lq (.int .i64 (0 : Int)) S (q_move rfl) fun a S => ?_
 refine lx_nil (thenN ?_)
 obtain ⟨res48, hit49, hk52⟩ := bind_some hm
 obtain ⟨f50, hf51, hit49⟩ := iter_name hit49
 refine block_loop (fun a w => Slots a 19 [] ∧ Heap w0 [] w ∧ res48 = .inl ()) ?_ ?_
 ·rintro a w ⟨S, H, rfl⟩
  have hm := ctl_inl hk52
  refine thenN ?_
  refine wp_seq (region_plain ?_)
  refine lq (.int .i64 (-1 : Int)) S (q_assign rfl) fun a S => ?_
  refine lx_nil (thenN ?_)
  refine wp_ret ?_
  obtain rfl := Option.some.inj hm
  exact leave1 S rfl rfl ⟨rfl, H⟩
 ·skip
  refine loop_ghost (fun n a w => ∃ (x39 : Int), Slots a 19 [(0, p0), (1, (sv a1)), (7, (.int .i64 (a0.length : Int))), (8, (.int .i64 x39))] ∧ Heap w0 [] w ∧ iter f50 n (x39) = some res48) _ ⟨(0 : Int), S.sub ⟨rfl, rfl, rfl, rfl, trivial⟩, H, hit49⟩ ?_
  rintro n a w ⟨x39, S, H, hit49⟩
  obtain ⟨m53, o54, rfl, hm, hc55⟩ := iter_step hit49
  rw [hf51] at hm
  refine wp_seq (region_plain ?_)
  refine lq (.bool (decide (x39 < (a0.length : Int)))) S (q_lss rfl rfl) fun a S => ?_
  refine lx_nil (thenN ?_)
  refine wp_seq ?_
  refine cond_b S rfl (fun hc56 => ?_) (fun hc56 => ?_)
  ·have hm := ite_t hc56 hm
   refine wp_skip (thenN ?_)
   refine wp_seq ?_
   refine wp_block ?_
   refine wp_seq (region_plain ?_)
   refine lq (.int .i64 x39) S (q_move rfl) fun a S => ?_
   refine lq (.int .i64 x39) S (q_assign rfl) fun a S => ?_
   refine lx_nil (thenN ?_)
   refine wp_seq (region_plain ?_)
   refine lq (sv a1) S (q_move rfl) fun a S => ?_
   refine lq p0 S (q_move rfl) fun a S => ?_
   refine lq (.int .i64 x39) S (q_move rfl) fun a S => ?_
   obtain ⟨x57, e58, hm⟩ := bind_some hm
   obtain ⟨c59, h60, hat61⟩ := (h0).elem (idx_some e58).2
   obtain rfl := h60
   have hlt := lt_of_idx (idx_some e58).2
   refine lq (ePtr p0 (x39.toNat * 1)) S (q_indexAddr rfl (h0).isSl rfl (idx_some e58).1 hlt Tryz.underlying22 Tryz.sizeOf9) fun a S => ?_
   refine lx_e (sv x57) S trivial (by decide) rfl trivial (q_load1 rfl Tryz.isAgg9 (by rintro _ rfl; exact ((hat61 0 _ rfl).ext H.ext))) (fun a S => ?_)
   refine lq (.bool (a1 == x57)) S (q_seql rfl rfl) fun a S => ?_
   refine lx_nil (thenN ?_)
   refine cond_b S rfl (fun hc62 => ?_) (fun hc62 => ?_)
   ·have hm := ite_t hc62 hm
    refine wp_seq (region_plain ?_)
    refine lq (.int .i64 x39) S (q_move rfl) fun a S => ?_
    refine lq (.int .i64 x39) S (q_assign rfl) fun a S => ?_
    refine lx_nil (thenN ?_)
    refine wp_ret (inBlock_ret ?_)
    refine then_ret ?_
    refine then_ret ?_
    refine inBlock_ret ?_
    refine then_ret ?_
    refine then_ret ?_
    obtain rfl := it_brk hm hc55
    have hm := ctl_inr hk52
    obtain rfl := Option.some.inj hm
    exact leave1 S rfl rfl ⟨rfl, H⟩
   ·have hm := ite_f hc62 hm
    refine wp_skip ?_
    refine inBlock_norm ?_
    refine thenN ?_
    refine region_plain ?_
    refine lq (.int .i64 (W (x39 + (1 : Int)))) S (q_add rfl rfl) fun a S => ?_
    refine lq (.int .i64 (W (x39 + (1 : Int)))) S (q_move rfl) fun a S => ?_
    refine lx_nil ?_
    exact ⟨m53, Nat.lt_succ_self _, (W (x39 + (1 : Int))), S.sub ⟨rfl, rfl, rfl, rfl, trivial⟩, H, it_cont hm hc55⟩
  ·have hm := ite_f hc56 hm
   refine wp_exit ?_
   refine then_exit ?_
   refine then_exit ?_
   refine inBlock_exit ?_
   obtain rfl := it_brk hm hc55
   exact ⟨S.sub trivial, H, rfl⟩

/-- slices.Compact[[]impl.Edge,impl.Edge] -/
def slices_Compact__impl_Edge_impl_Edge_m (fuel : Nat) (a0 : (List Timpl_Edge)) : Option ((List Timpl_Edge)) :=
  (if (decide ((a0.length : Int) < (2 : Int))) = true then some (a0) else (iter (fun (s : (Int)) => (match s with | (x172) => (if (decide (x172 < (a0.length : Int))) = true then (idx a0 x172).bind fun x324 => (idx a0 (W (x172 - (1 : Int)))).bind fun x326 => (if ([x324.1, x324.2.1, x324.2.2] == [x326.1, x326.2.1, x326.2.2]) = true then (sub a0 x172 (a0.length : Int)).bind fun _ => (iter (fun (s : (List Timpl_Edge) × (Int) × (Int)) => (match s with | (xs369, x370, x372) => (if (decide (x372 < (((xs369.take ((a0.length : Int)).toNat).drop (x172).toNat).length : Int))) = true then join (κ := List Timpl_Edge → Int → Option (((List Timpl_Edge) × (Int) × (Int)) ⊕ (((List Timpl_Edge) × Int) ⊕ ((List Timpl_Edge))))) (fun (xs427 : List Timpl_Edge) (x428 : Int) => some (.inl (xs427, x428, (W (x372 + (1 : Int)))))) (fun K430 => (idx ((xs369.take ((a0.length : Int)).toNat).drop (x172).toNat) x372).bind fun x434 => (idx ((xs369.take ((a0.length : Int)).toNat).drop (x172).toNat) (W (x372 - (1 : Int)))).bind fun x436 => (if ([x434.1, x434.2.1, x434.2.2] != [x436.1, x436.2.1, x436.2.2]) = true then (idx ((xs369.take ((a0.length : Int)).toNat).drop (x172).toNat) x372).bind fun x439 => (idx xs369 x370).bind fun _ => (K430 (xs369.set x370.toNat (x439.1, x439.2.1, x439.2.2)) (W (x370 + (1 : Int)))) else (K430 xs369 x370))) else some (.inr (.inl (xs369, x370)))) : Option (((List Timpl_Edge) × (Int) × (Int)) ⊕ (((List Timpl_Edge) × Int) ⊕ ((List Timpl_Edge)))))) fuel (a0, x172, (1 : Int))).bind fun res413 => ctl (β := (List Timpl_Edge) × Int) (ρ := (List Timpl_Edge)) (τ := (((Int)) ⊕ ((Unit) ⊕ ((List Timpl_Edge))))) res413 (fun (xs411, x412) => (sub xs411 x412 (xs411.length : Int)).bind fun _ => (sub (clr xs411 (x412).toNat ((xs411.length : Int)).toNat ((0 : Int), (0 : Int), (0 : Int))) (0 : Int) x412).bind fun xs421 => some (.inr (.inr xs421))) (fun q => some (.inr (.inr q))) else some (.inl ((W (x172 + (1 : Int)))))) else some (.inr (.inl ()))) : Option (((Int)) ⊕ ((Unit) ⊕ ((List Timpl_Edge)))))) fuel ((1 : Int))).bind fun res313 => ctl (β := Unit) (ρ := (List Timpl_Edge)) (τ := (List Timpl_Edge)) res313 (fun _ => some (a0)) (fun q => some (q)))
set_option maxRecDepth 20000 in
theorem slices_Compact__impl_Edge_impl_Edge_ok [dr : Dr] {w0 : World} {fuel : Nat} {p0 : Value} {a0 : (List Timpl_Edge)} {w00 : World} {L : List Asrt} {r : (List Timpl_Edge)} (H : Heap w00 (oA (rList Rimpl_Edge) p0 a0 :: L) w0) (hm : slices_Compact__impl_Edge_impl_Edge_m fuel a0 = some r) :
  Calls Tryz.prog 88 #[p0] w0 fun e w => ∃ (v0 : Value), e = .returned (v0) ∧ Heap w00 (oA (rList Rimpl_Edge) v0 r :: L) w := by
 unfold slices_Compact__impl_Edge_impl_Edge_m at hm
 refine enter (args := [p0]) Tryz.func88 rfl 61 rfl (Nat.le_of_ble_eq_true rfl) (fun a S => ?_)
 refine wp_seq (region_plain ?_)
 refine lq (.slice none 0 0) S (q_assign rfl) fun a S => ?_
 refine lx_nil (thenN ?_)
 refine wp_seq (wp_seq (region_plain ?_))
 refine lq p0 S (q_move rfl) fun a S => ?_
 refine lq (.int .i64 (a0.length : Int)) S (q_lenSl rfl (H.isSl 0 rfl) rfl Tryz.underlying29) fun a S => ?_
 refine lq (.bool (decide ((a0.length : Int) < (2 : Int)))) S (q_lss rfl rfl) fun a S => ?_
 refine lx_nil (thenN ?_)
 refine cond_b S rfl (fun hc31 => ?_) (fun hc31 => ?_)
 ·have hm := ite_t hc31 hm
  refine wp_seq (region_plain ?_)
  refine lq p0 S (q_move rfl) fun a S => ?_
  refine lq p0 S (q_assign rfl) fun a S => ?_
  refine lx_nil (thenN ?_)
  refine wp_ret (then_ret ?_)
  obtain rfl := Option.some.inj hm
  exact leave1 S rfl rfl ⟨p0, rfl, H⟩
 ·have hm := ite_f hc31 hm
  refine wp_skip (thenN ?_)
  refine wp_seq (wp_seq (region_plain ?_))
  refine lq (.int .i64 (1 : Int)) S (q_assign rfl) fun a S => ?_
  refine lx_nil (thenN ?_)
  obtain ⟨res313, hit314, hk317⟩ := bind_some hm
  obtain ⟨f315, hf316, hit314⟩ := iter_name hit314
  refine block_loop (fun a w => Slots a 61 [(0, p0)] ∧ Heap w00 (oA (rList Rimpl_Edge) p0 a0 :: L) w ∧ res313 = .inl ()) ?_ ?_
  ·rintro a w ⟨S, H, rfl⟩
   have hm := ctl_inl hk317
   refine thenN ?_
   refine wp_seq (region_plain ?_)
   refine lq p0 S (q_move rfl) fun a S => ?_
   refine lq p0 S (q_assign rfl) fun a S => ?_
   refine lx_nil (thenN ?_)
   refine wp_ret ?_
   obtain rfl := Option.some.inj hm
   exact leave1 S rfl rfl ⟨p0, rfl, H⟩
  ·skip
   refine loop_ghost (fun n a w => ∃ (x172 : Int), Slots a 61 [(0, p0), (3, (.int .i64 x172))] ∧ Heap w00 (oA (rList Rimpl_Edge) p0 a0 :: L) w ∧ iter f315 n (x172) = some res313) _ ⟨(1 : Int), S.sub ⟨rfl, rfl, trivial⟩, H, hit314⟩ ?_
   rintro n a w ⟨x172, S, H, hit314⟩
   obtain ⟨m318, o319, rfl, hm, hc320⟩ := iter_step hit314
   rw [hf316] at hm
   refine wp_seq (wp_seq (region_plain ?_))
   refine lq (.int .i64 x172) S (q_move rfl) fun a S => ?_
   refine lq p0 S (q_move rfl) fun a S => ?_
   refine lq (.int .i64 (a0.length : Int)) S (q_lenSl rfl (H.isSl 0 rfl) rfl Tryz.underlying29) fun a S => ?_
   refine lq (.bool (decide (x172 < (a0.length : Int)))) S (q_lss rfl rfl) fun a S => ?_
   refine lx_nil (thenN ?_)
   refine cond_b S rfl (fun hc321 => ?_) (fun hc321 => ?_)
   ·have hm := ite_t hc321 hm
    refine wp_skip (thenN ?_)
    refine wp_seq ?_
    refine wp_block ?_
    refine wp_seq ?_
    refine region_drawG (fun w1 => Heap w00 [oA (rList Rimpl_Edge) p0 a0] w1) (fun i => [].contains i) mixed (by kernel_rfl) (fun w323 he322 => ?_)
    have H := H.later he322
    refine ⟨H.sel [0] (by decide), ?_⟩
    refine lq p0 S (q_move rfl) fun a S => ?_
    refine lq (.int .i64 x172) S (q_move rfl) fun a S => ?_
    obtain ⟨x324, e325, hm⟩ := bind_some hm
    have hlt := lt_of_idx (idx_some e325).2
    refine lq (ePtr p0 (x172.toNat * 3)) S (q_indexAddr rfl (H.isSl 0 rfl) rfl (idx_some e325).1 hlt Tryz.underlying29 Tryz.sizeOf68) fun a S => ?_
    refine lq (.agg #[(.int .i64 x324.1), (.int .i64 x324.2.1), (.int .i64 x324.2.2)]) S (q_loadA (cs := [(.int .i64 x324.1), (.int .i64 x324.2.1), (.int .i64 x324.2.2)]) rfl (((H.isSl 0 rfl)).ptr (lt_of_idx (idx_some e325).2) _) Tryz.isAgg68 Tryz.sizeOf68 (fun w1 hC => (fun j u hu => (hC.rdAt 0 rfl).elemCells (idx_some e325).2 (by intro B w cs h; obtain ⟨_, _, rfl, ha1, hb1⟩ := h; obtain rfl := ha1; obtain ⟨_, _, rfl, ha2, hb2⟩ := hb1; obtain rfl := ha2; obtain rfl := hb2; rfl) j u hu))) fun a S => ?_
    refine lq p0 S (q_move rfl) fun a S => ?_
    refine lq (.int .i64 x172) S (q_move rfl) fun a S => ?_
    refine lq (.int .i64 (W (x172 - (1 : Int)))) S (q_sub rfl rfl) fun a S => ?_
    obtain ⟨x326, e327, hm⟩ := bind_some hm
    have hlt := lt_of_idx (idx_some e327).2
    refine lq (ePtr p0 ((W (x172 - (1 : Int))).toNat * 3)) S (q_indexAddr rfl (H.isSl 0 rfl) rfl (idx_some e327).1 hlt Tryz.underlying29 Tryz.sizeOf68) fun a S => ?_
    refine lq (.agg #[(.int .i64 x326.1), (.int .i64 x326.2.1), (.int .i64 x326.2.2)]) S (q_loadA (cs := [(.int .i64 x326.1), (.int .i64 x326.2.1), (.int .i64 x326.2.2)]) rfl (((H.isSl 0 rfl)).ptr (lt_of_idx (idx_some e327).2) _) Tryz.isAgg68 Tryz.sizeOf68 (fun w1 hC => (fun j u hu => (hC.rdAt 0 rfl).elemCells (idx_some e327).2 (by intro B w cs h; obtain ⟨_, _, rfl, ha1, hb1⟩ := h; obtain rfl := ha1; obtain ⟨_, _, rfl, ha2, hb2⟩ := hb1; obtain rfl := ha2; obtain rfl := hb2; rfl) j u hu))) fun a S => ?_
    refine lq (.bool ([x324.1, x324.2.1, x324.2.2] == [x326.1, x326.2.1, x326.2.2])) S (q_aeql (ms := [x324.1, x324.2.1, x324.2.2]) (ns := [x326.1, x326.2.1, x326.2.2]) rfl rfl Tryz.underlying68 (by kernel_rfl) (by kernel_rfl) ⟨by decide, Tryz.underlying2, rfl, ⟨by decide, Tryz.underlying2, rfl, ⟨by decide, Tryz.underlying2, rfl, trivial⟩⟩⟩ rfl rfl) fun a S => ?_
    refine lx_nil (thenN ?_)
    refine cond_b S rfl (fun hc328 => ?_) (fun hc328 => ?_)
    ·have hm := ite_t hc328 hm
     refine wp_seq (region_plain ?_)
     refine lq p0 S (q_move rfl) fun a S => ?_
     refine lq (.int .i64 x172) S (q_move rfl) fun a S => ?_
     obtain ⟨xs329, e330, hm⟩ := bind_some hm
     have hsb := (sub_some e330).1
     refine lq (subV p0 (x172).toNat ((a0.length : Int)).toNat 3) S (q_slice (lo := (some (.tmp 27))) (hi := none) (l := x172) (h := (a0.length : Int)) (size := 3) rfl (H.isSl 0 rfl) Tryz.underlying29 Tryz.sizeOf68 rfl rfl hsb.1 hsb.2.1 hsb.2.2) fun a S => ?_
     refine lq (subV p0 (x172).toNat ((a0.length : Int)).toNat 3) S (q_assign rfl) fun a S => ?_
     refine lx_nil (thenN ?_)
     refine wp_seq (wp_seq (region_plain ?_))
     refine lq (.int .i64 (1 : Int)) S (q_assign rfl) fun a S => ?_
     refine lx_nil (thenN ?_)
     obtain ⟨res413, hit414, hk417⟩ := bind_some hm
     obtain ⟨f415, hf416, hit414⟩ := iter_name hit414
     refine block_loop (fun a w => ∃ (xs411 : List Timpl_Edge) (x412 : Int), Slots a 61 [(0, p0), (3, (.int .i64 x412))] ∧ Heap w00 (oA (rList Rimpl_Edge) p0 xs411 :: L) w ∧ res413 = .inl (xs411, x412)) ?_ ?_
     ·rintro a w ⟨xs411, x412, S, H, rfl⟩
      have hm := ctl_inl hk417
      refine thenN ?_
      refine wp_seq (region_plain ?_)
      refine lq p0 S (q_move rfl) fun a S => ?_
      refine lq (.int .i64 x412) S (q_move rfl) fun a S => ?_
      obtain ⟨xs418, e419, hm⟩ := bind_some hm
      have hsb := (sub_some e419).1
      refine lq (subV p0 (x412).toNat ((xs411.length : Int)).toNat 3) S (q_slice (lo := (some (.tmp 55))) (hi := none) (l := x412) (h := (xs411.length : Int)) (size := 3) rfl (H.isSl 0 rfl) Tryz.underlying29 Tryz.sizeOf68 rfl rfl hsb.1 hsb.2.1 hsb.2.2) fun a S => ?_
      have hS := e419
      refine lx_clear (r := Rimpl_Edge) (lo := x412) (hi := (xs411.length : Int)) (z0 := ((0 : Int), (0 : Int), (0 : Int))) S trivial rfl H rfl hS Tryz.underlying29 Tryz.zeroValue68 rfl rfl (fun w => ⟨_, _, [(.int .i64 (0 : Int))], [(.int .i64 (0 : Int)), (.int .i64 (0 : Int))], rfl, rfl, ⟨rfl, rfl⟩, ⟨_, _, [(.int .i64 (0 : Int))], [(.int .i64 (0 : Int))], rfl, rfl, ⟨rfl, rfl⟩, ⟨rfl, rfl⟩⟩⟩) (fun w420 H => ⟨trivial, fun a S => ?_⟩)
      refine lx_nil (thenN ?_)
      refine wp_seq (region_plain ?_)
      refine lq p0 S (q_move rfl) fun a S => ?_
      refine lq (.int .i64 x412) S (q_move rfl) fun a S => ?_
      obtain ⟨xs421, e422, hm⟩ := bind_some hm
      have hsb := (sub_some e422).1
      refine lq (subV p0 ((0 : Int)).toNat (x412).toNat 3) S (q_slice (lo := none) (hi := (some (.tmp 58))) (l := (0 : Int)) (h := x412) (size := 3) rfl (H.isSl 0 rfl) Tryz.underlying29 Tryz.sizeOf68 rfl rfl hsb.1 hsb.2.1 hsb.2.2) fun a S => ?_
      have H : Heap w00 (oA (rList Rimpl_Edge) (subV p0 ((0 : Int)).toNat (x412).toNat 3) xs421 :: L) w420 := H.cut e422
      refine lq (subV p0 ((0 : Int)).toNat (x412).toNat 3) S (q_assign rfl) fun a S => ?_
      refine lx_nil (thenN ?_)
      refine wp_ret (inBlock_ret ?_)
      refine then_ret ?_
      refine then_ret ?_
      refine inBlock_ret ?_
      refine then_ret ?_
      refine then_ret ?_
      obtain rfl := it_brk hm hc320
      have hm := ctl_inr hk317
      obtain rfl := Option.some.inj hm
      exact leave1 S rfl rfl ⟨(subV p0 ((0 : Int)).toNat (x412).toNat 3), rfl, H⟩
     ·skip
      refine loop_ghost (fun n a w => ∃ (xs369 : List Timpl_Edge) (x370 : Int) (x372 : Int), Slots a 61 [(0, p0), (3, (.int .i64 x370)), (4, (subV p0 (x172).toNat ((a0.length : Int)).toNat 3)), (5, (.int .i64 x372))] ∧ Heap w00 (oA (rList Rimpl_Edge) p0 xs369 :: L) w ∧ sub xs369 x172 (a0.length : Int) = some ((xs369.take ((a0.length : Int)).toNat).drop (x172).toNat) ∧ iter f415 n (xs369, x370, x372) = some res413) _ ⟨a0, x172, (1 : Int), S.sub ⟨rfl, rfl, rfl, rfl, trivial⟩, H, (sub_same e330), hit414⟩ ?_
      rintro n a w ⟨xs369, x370, x372, S, H, h371, hit414⟩
      obtain ⟨m423, o424, rfl, hm, hc425⟩ := iter_step hit414
      rw [hf416] at hm
      refine wp_seq (wp_seq (region_plain ?_))
      refine lq (.int .i64 x372) S (q_move rfl) fun a S => ?_
      refine lq (subV p0 (x172).toNat ((a0.length : Int)).toNat 3) S (q_move rfl) fun a S => ?_
      refine lq (.int .i64 (((xs369.take ((a0.length : Int)).toNat).drop (x172).toNat).length : Int)) S (q_lenSl rfl (((H.rdAt 0 rfl).sub h371)).isSl rfl Tryz.underlying29) fun a S => ?_
      refine lq (.bool (decide (x372 < (((xs369.take ((a0.length : Int)).toNat).drop (x172).toNat).length : Int)))) S (q_lss rfl rfl) fun a S => ?_
      refine lx_nil (thenN ?_)
      refine cond_b S rfl (fun hc426 => ?_) (fun hc426 => ?_)
      ·have hm := ite_t hc426 hm
       refine wp_skip (thenN ?_)
       obtain ⟨K430, hK431, hm⟩ := join_elim hm
       refine seq_cut (fun a w => ∃ (xs427 : List Timpl_Edge) (x428 : Int), Slots a 61 [(0, p0), (3, (.int .i64 x428)), (4, (subV p0 (x172).toNat ((a0.length : Int)).toNat 3)), (5, (.int .i64 x372))] ∧ Heap w00 (oA (rList Rimpl_Edge) p0 xs427 :: L) w ∧ sub xs427 x172 (a0.length : Int) = some ((xs427.take ((a0.length : Int)).toNat).drop (x172).toNat) ∧ K430 xs427 x428 = some o424) ?_ ?_
       ·rintro a w ⟨xs427, x428, S, H, h429, hm⟩
        subst hK431
        refine region_plain ?_
        refine lq (.int .i64 x372) S (q_move rfl) fun a S => ?_
        refine lq (.int .i64 (W (x372 + (1 : Int)))) S (q_add rfl rfl) fun a S => ?_
        refine lq (.int .i64 (W (x372 + (1 : Int)))) S (q_assign rfl) fun a S => ?_
        refine lx_nil ?_
        exact ⟨m423, Nat.lt_succ_self _, xs427, x428, (W (x372 + (1 : Int))), S.sub ⟨rfl, rfl, rfl, rfl, trivial⟩, H, (sub_same h429), it_cont hm hc425⟩
       ·skip
        refine wp_block ?_
        refine wp_seq ?_
        refine region_drawG (fun w1 => Heap w00 [oA (rList Rimpl_Edge) p0 xs369] w1) (fun i => [].contains i) mixed (by kernel_rfl) (fun w433 he432 => ?_)
        have H := H.later he432
        refine ⟨H.sel [0] (by decide), ?_⟩
        refine lq (subV p0 (x172).toNat ((a0.length : Int)).toNat 3) S (q_move rfl) fun a S => ?_
        refine lq (.int .i64 x372) S (q_move rfl) fun a S => ?_
        obtain ⟨x434, e435, hm⟩ := bind_some hm
        have hlt := lt_of_idx (idx_some e435).2
        refine lq (ePtr (subV p0 (x172).toNat ((a0.length : Int)).toNat 3) (x372.toNat * 3)) S (q_indexAddr rfl (((H.rdAt 0 rfl).sub h371)).isSl rfl (idx_some e435).1 hlt Tryz.underlying29 Tryz.sizeOf68) fun a S => ?_
        refine lq (.agg #[(.int .i64 x434.1), (.int .i64 x434.2.1), (.int .i64 x434.2.2)]) S (q_loadA (cs := [(.int .i64 x434.1), (.int .i64 x434.2.1), (.int .i64 x434.2.2)]) rfl (((((H.rdAt 0 rfl).sub h371)).isSl).ptr (lt_of_idx (idx_some e435).2) _) Tryz.isAgg68 Tryz.sizeOf68 (fun w1 hC => (fun j u hu => ((hC.rdAt 0 rfl).sub h371).elemCells (idx_some e435).2 (by intro B w cs h; obtain ⟨_, _, rfl, ha1, hb1⟩ := h; obtain rfl := ha1; obtain ⟨_, _, rfl, ha2, hb2⟩ := hb1; obtain rfl := ha2; obtain rfl := hb2; rfl) j u hu))) fun a S => ?_
        refine lq (subV p0 (x172).toNat ((a0.length : Int)).toNat 3) S (q_move rfl) fun a S => ?_
        refine lq (.int .i64 x372) S (q_move rfl) fun a S => ?_
        refine lq (.int .i64 (W (x372 - (1 : Int)))) S (q_sub rfl rfl) fun a S => ?_
        obtain ⟨x436, e437, hm⟩ := bind_some hm
        have hlt := lt_of_idx (idx_some e437).2
        refine lq (ePtr (subV p0 (x172).toNat ((a0.length : Int)).toNat 3) ((W (x372 - (1 : Int))).toNat * 3)) S (q_indexAddr rfl (((H.rdAt 0 rfl).sub h371)).isSl rfl (idx_some e437).1 hlt Tryz.underlying29 Tryz.sizeOf68) fun a S => ?_
        refine lq (.agg #[(.int .i64 x436.1), (.int .i64 x436.2.1), (.int .i64 x436.2.2)]) S (q_loadA (cs := [(.int .i64 x436.1), (.int .i64 x436.2.1), (.int .i64 x436.2.2)]) rfl (((((H.rdAt 0 rfl).sub h371)).isSl).ptr (lt_of_idx (idx_some e437).2) _) Tryz.isAgg68 Tryz.sizeOf68 (fun w1 hC => (fun j u hu => ((hC.rdAt 0 rfl).sub h371).elemCells (idx_some e437).2 (by intro B w cs h; obtain ⟨_, _, rfl, ha1, hb1⟩ := h; obtain rfl := ha1; obtain ⟨_, _, rfl, ha2, hb2⟩ := hb1; obtain rfl := ha2; obtain rfl := hb2; rfl) j u hu))) fun a S => ?_
        refine lq (.bool ([x434.1, x434.2.1, x434.2.2] != [x436.1, x436.2.1, x436.2.2])) S (q_aneq (ms := [x434.1, x434.2.1, x434.2.2]) (ns := [x436.1, x436.2.1, x436.2.2]) rfl rfl Tryz.underlying68 (by kernel_rfl) (by kernel_rfl) ⟨by decide, Tryz.underlying2, rfl, ⟨by decide, Tryz.underlying2, rfl, ⟨by decide, Tryz.underlying2, rfl, trivial⟩⟩⟩ rfl rfl) fun a S => ?_
        refine lx_nil (thenN ?_)
        refine cond_b S rfl (fun hc438 => ?_) (fun hc438 => ?_)
        ·have hm := ite_t hc438 hm
         refine wp_seq (region_plain ?_)
         refine lq p0 S (q_move rfl) fun a S => ?_
         refine lq (.int .i64 x370) S (q_move rfl) fun a S => ?_
         refine lq (subV p0 (x172).toNat ((a0.length : Int)).toNat 3) S (q_move rfl) fun a S => ?_
         refine lq (.int .i64 x372) S (q_move rfl) fun a S => ?_
         obtain ⟨x439, e440, hm⟩ := bind_some hm
         obtain ⟨c441, h442, hat443⟩ := (((H.rdAt 0 rfl).sub h371)).elem (idx_some e440).2
         obtain ⟨c444, c445, rfl, h446, h447⟩ := h442
         obtain rfl := h446
         obtain ⟨c448, c449, rfl, h450, h451⟩ := h447
         obtain rfl := h450
         obtain rfl := h451
         have hlt := lt_of_idx (idx_some e440).2
         refine lq (ePtr (subV p0 (x172).toNat ((a0.length : Int)).toNat 3) (x372.toNat * 3)) S (q_indexAddr rfl (((H.rdAt 0 rfl).sub h371)).isSl rfl (idx_some e440).1 hlt Tryz.underlying29 Tryz.sizeOf68) fun a S => ?_
         refine lx_e (.agg #[(.int .i64 x439.1), (.int .i64 x439.2.1), (.int .i64 x439.2.2)]) S trivial (by decide) rfl trivial (q_loadA (cs := [(.int .i64 x439.1), (.int .i64 x439.2.1), (.int .i64 x439.2.2)]) rfl ((hat443 0 _ rfl).isP) Tryz.isAgg68 Tryz.sizeOf68 (by rintro _ rfl; exact (fun j u hu => (hat443 j u hu).ext (Ext.refl _)))) (fun a S => ?_)
         obtain ⟨x452, e453, hm⟩ := bind_some hm
         have hlt := lt_of_idx (idx_some e453).2
         refine lq (ePtr p0 (x370.toNat * 3)) S (q_indexAddr rfl (H.isSl 0 rfl) rfl (idx_some e453).1 hlt Tryz.underlying29 Tryz.sizeOf68) fun a S => ?_
         refine lx_storeElem (r := Rimpl_Edge) (us := [(.int .i64 x439.1), (.int .i64 x439.2.1), (.int .i64 x439.2.2)]) (off := 0) (e' := (x439.1, x439.2.1, x439.2.2)) S trivial rfl H.putE (ev_zero rfl) rfl (idx_some e453).2 rfl Tryz.sizeOf68 (Nat.le_of_ble_eq_true rfl) (List.forall_mem_cons.2 ⟨rfl, (List.forall_mem_cons.2 ⟨rfl, (List.forall_mem_cons.2 ⟨rfl, (List.forall_mem_nil _)⟩)⟩)⟩) (Upd.full rfl (fun w G hG => by cases (show G = [] from hG); exact ⟨_, _, [(.int .i64 x439.1)], [(.int .i64 x439.2.1), (.int .i64 x439.2.2)], rfl, rfl, ⟨rfl, rfl⟩, ⟨_, _, [(.int .i64 x439.2.1)], [(.int .i64 x439.2.2)], rfl, rfl, ⟨rfl, rfl⟩, ⟨rfl, rfl⟩⟩⟩)) (fun w454 H => ⟨trivial, fun a S => ?_⟩)
         have e455 := sub_turn (ys := (xs369.set x370.toNat (x439.1, x439.2.1, x439.2.2))) h371 (by simp)
         have e456 := sub_turn (ys := (xs369.set x370.toNat (x439.1, x439.2.1, x439.2.2))) h371 (by simp)
         have e457 := sub_turn (ys := (xs369.set x370.toNat (x439.1, x439.2.1, x439.2.2))) h371 (by simp)
         have e458 := sub_turn (ys := (xs369.set x370.toNat (x439.1, x439.2.1, x439.2.2))) h371 (by simp)
         have e459 := sub_turn (ys := (xs369.set x370.toNat (x439.1, x439.2.1, x439.2.2))) h371 (by simp)
         refine lx_nil (thenN ?_)
         refine region_plain ?_
         refine lq (.int .i64 x370) S (q_move rfl) fun a S => ?_
         refine lq (.int .i64 (W (x370 + (1 : Int)))) S (q_add rfl rfl) fun a S => ?_
         refine lq (.int .i64 (W (x370 + (1 : Int)))) S (q_assign rfl) fun a S => ?_
         refine lx_nil ?_
         refine inBlock_norm ?_
         exact ⟨(xs369.set x370.toNat (x439.1, x439.2.1, x439.2.2)), (W (x370 + (1 : Int))), S.sub ⟨rfl, rfl, rfl, rfl, trivial⟩, H, (sub_same e455), hm⟩
        ·have hm := ite_f hc438 hm
         refine wp_skip ?_
         refine inBlock_norm ?_
         exact ⟨xs369, x370, S.sub ⟨rfl, rfl, rfl, rfl, trivial⟩, H, (sub_same h371), hm⟩
      ·have hm := ite_f hc426 hm
       refine wp_exit ?_
       refine then_exit ?_
       refine then_exit ?_
       refine inBlock_exit ?_
       obtain rfl := it_brk hm hc425
       exact ⟨xs369, x370, S.sub ⟨rfl, rfl, trivial⟩, H, rfl⟩
    ·have hm := ite_f hc328 hm
     refine wp_skip ?_
     refine inBlock_norm ?_
     refine thenN ?_
     refine region_plain ?_
     refine lq (.int .i64 x172) S (q_move rfl) fun a S => ?_
     refine lq (.int .i64 (W (x172 + (1 : Int)))) S (q_add rfl rfl) fun a S => ?_
     refine lq (.int .i64 (W (x172 + (1 : Int)))) S (q_assign rfl) fun a S => ?_
     refine lx_nil ?_
     exact ⟨m318, Nat.lt_succ_self _, (W (x172 + (1 : Int))), S.sub ⟨rfl, rfl, trivial⟩, H, it_cont hm hc320⟩
   ·have hm := ite_f hc321 hm
    refine wp_exit ?_
    refine then_exit ?_
    refine then_exit ?_
    refine inBlock_exit ?_
    obtain rfl := it_brk hm hc320
    exact ⟨S.sub ⟨rfl, trivial⟩, H, rfl⟩
end Go.Proofs.YtldmecdkdoipdaaGreatDoor
