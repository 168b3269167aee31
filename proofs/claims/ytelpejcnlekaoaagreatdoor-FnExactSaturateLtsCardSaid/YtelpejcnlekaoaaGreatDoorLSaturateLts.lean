/- The model of a statement and its walk (printed by a program of this repo). -/
import Derived.Test.YtelpejcnlekaoaaGreatDoorF0
import Derived.Test.YtelpejcnlekaoaaGreatDoorF1
import Derived.Test.YtelpejcnlekaoaaGreatDoorF2
import Derived.Test.YtelpejcnlekaoaaGreatDoorF3
import Derived.Test.YtelpejcnlekaoaaGreatDoorF4
import Derived.Test.YtelpejcnlekaoaaGreatDoorGxL
import Derived.Test.YtelpejcnlekaoaaGreatDoorGxT
import Derived.Test.YtelpejcnlekaoaaGreatDoorGxY
namespace Go.Proofs.YtelpejcnlekaoaaGreatDoor
open Go.RowKit Go.Gx

/-- spec.l02Close -/
def spec_l02Close_m (fuel : Nat) (a0 : Int) (a1 : (List Bool)) : Option ((List Bool)) :=
  (iter (fun (s : (List Bool) × (Int)) => (match s with | (xs37, x38) => (if (decide (x38 < a0)) = true then (idx xs37 (W ((W (x38 * a0)) + x38))).bind fun _ => some (.inl ((xs37.set (W ((W (x38 * a0)) + x38)).toNat true), (W (x38 + (1 : Int))))) else some (.inr (.inl (xs37)))) : Option (((List Bool) × (Int)) ⊕ (((List Bool)) ⊕ ((List Bool)))))) fuel (a1, (0 : Int))).bind fun res46 => ctl (β := (List Bool)) (ρ := (List Bool)) (τ := (List Bool)) res46 (fun (xs45) => (iter (fun (s : (List Bool) × (Int)) => (match s with | (xs261, x262) => (if (decide (x262 < a0)) = true then (iter (fun (s : (List Bool) × (Int)) => (match s with | (xs549, x550) => (if (decide (x550 < a0)) = true then join (κ := List Bool → Option (((List Bool) × (Int)) ⊕ (((List Bool)) ⊕ ((List Bool))))) (fun (xs627 : List Bool) => some (.inl (xs627, (W (x550 + (1 : Int)))))) (fun K628 => (idx xs549 (W ((W (x550 * a0)) + x262))).bind fun x630 => (if (!x630) = true then (K628 xs549) else (iter (fun (s : (List Bool) × (Int)) => (match s with | (xs651, x652) => (if (decide (x652 < a0)) = true then join (κ := List Bool → Option (((List Bool) × (Int)) ⊕ (((List Bool)) ⊕ ((List Bool))))) (fun (xs678 : List Bool) => some (.inl (xs678, (W (x652 + (1 : Int)))))) (fun K679 => (idx xs651 (W ((W (x262 * a0)) + x652))).bind fun x681 => (if x681 = true then (idx xs651 (W ((W (x550 * a0)) + x652))).bind fun _ => (K679 (xs651.set (W ((W (x550 * a0)) + x652)).toNat true)) else (K679 xs651))) else some (.inr (.inl (xs651)))) : Option (((List Bool) × (Int)) ⊕ (((List Bool)) ⊕ ((List Bool)))))) fuel (xs549, (0 : Int))).bind fun res669 => ctl (β := (List Bool)) (ρ := (List Bool)) (τ := (((List Bool) × (Int)) ⊕ (((List Bool)) ⊕ ((List Bool))))) res669 (fun (xs668) => (K628 xs668)) (fun q => some (.inr (.inr q))))) else some (.inr (.inl (xs549)))) : Option (((List Bool) × (Int)) ⊕ (((List Bool)) ⊕ ((List Bool)))))) fuel (xs261, (0 : Int))).bind fun res618 => ctl (β := (List Bool)) (ρ := (List Bool)) (τ := (((List Bool) × (Int)) ⊕ (((List Bool)) ⊕ ((List Bool))))) res618 (fun (xs617) => some (.inl (xs617, (W (x262 + (1 : Int)))))) (fun q => some (.inr (.inr q))) else some (.inr (.inl (xs261)))) : Option (((List Bool) × (Int)) ⊕ (((List Bool)) ⊕ ((List Bool)))))) fuel (xs45, (0 : Int))).bind fun res474 => ctl (β := (List Bool)) (ρ := (List Bool)) (τ := (List Bool)) res474 (fun (xs473) => some (xs473)) (fun q => some (q))) (fun q => some (q))
set_option maxRecDepth 20000 in
theorem spec_l02Close_ok {w0 : World} {fuel : Nat} {p1 : Value} {a0 : Int} {a1 : (List Bool)} {w00 : World} {L : List Asrt} {r : (List Bool)} (H : Heap w00 (oA (rList rBool) p1 a1 :: L) w0) (hm : spec_l02Close_m fuel a0 a1 = some r) :
  Calls Tryz.prog 56 #[.int .i64 a0, p1] w0 fun e w => e = .returned (.tuple #[]) ∧ Heap w00 (oA (rList rBool) p1 r :: L) w := by
 unfold spec_l02Close_m at hm
 refine enter (args := [.int .i64 a0, p1]) Tryz.func56 rfl 59 rfl (Nat.le_of_ble_eq_true rfl) (fun a S => ?_)
 refine wp_seq (wp_seq (region_plain ?_))
 refine lq (.int .i64 (0 : Int)) S (q_assign rfl) fun a S => ?_
 refine lx_nil (thenN ?_)
 obtain ⟨res46, hit47, hk50⟩ := bind_some hm
 obtain ⟨f48, hf49, hit47⟩ := iter_name hit47
 refine block_loop (fun a w => ∃ (xs45 : List Bool), Slots a 59 [(0, (.int .i64 a0)), (1, p1)] ∧ Heap w00 (oA (rList rBool) p1 xs45 :: L) w ∧ res46 = .inl (xs45)) ?_ ?_
 ·rintro a w ⟨xs45, S, H, rfl⟩
  have hm := ctl_inl hk50
  refine thenN ?_
  refine wp_seq (region_plain ?_)
  refine lq (.int .i64 (0 : Int)) S (q_assign rfl) fun a S => ?_
  refine lx_nil (thenN ?_)
  obtain ⟨res474, hit475, hk478⟩ := bind_some hm
  obtain ⟨f476, hf477, hit475⟩ := iter_name hit475
  refine block_loop (fun a w => ∃ (xs473 : List Bool), Slots a 59 [] ∧ Heap w00 (oA (rList rBool) p1 xs473 :: L) w ∧ res474 = .inl (xs473)) ?_ ?_
  ·rintro a w ⟨xs473, S, H, rfl⟩
   have hm := ctl_inl hk478
   obtain rfl := Option.some.inj hm
   exact leave0n S rfl ⟨rfl, H⟩
  ·skip
   refine loop_ghost (fun n a w => ∃ (xs261 : List Bool) (x262 : Int), Slots a 59 [(0, (.int .i64 a0)), (1, p1), (5, (.int .i64 x262))] ∧ Heap w00 (oA (rList rBool) p1 xs261 :: L) w ∧ iter f476 n (xs261, x262) = some res474) _ ⟨xs45, (0 : Int), S.sub ⟨rfl, rfl, rfl, trivial⟩, H, hit475⟩ ?_
   rintro n a w ⟨xs261, x262, S, H, hit475⟩
   obtain ⟨m479, o480, rfl, hm, hc481⟩ := iter_step hit475
   rw [hf477] at hm
   refine wp_seq (wp_seq (region_plain ?_))
   refine lq (.int .i64 x262) S (q_move rfl) fun a S => ?_
   refine lq (.int .i64 a0) S (q_move rfl) fun a S => ?_
   refine lq (.bool (decide (x262 < a0))) S (q_lss rfl rfl) fun a S => ?_
   refine lx_nil (thenN ?_)
   refine cond_b S rfl (fun hc482 => ?_) (fun hc482 => ?_)
   ·have hm := ite_t hc482 hm
    refine wp_skip (thenN ?_)
    refine wp_seq ?_
    refine wp_block ?_
    refine wp_seq (region_plain ?_)
    refine lq (.int .i64 (0 : Int)) S (q_assign rfl) fun a S => ?_
    refine lx_nil (thenN ?_)
    obtain ⟨res618, hit619, hk622⟩ := bind_some hm
    obtain ⟨f620, hf621, hit619⟩ := iter_name hit619
    refine block_loop (fun a w => ∃ (xs617 : List Bool), Slots a 59 [(0, (.int .i64 a0)), (1, p1), (5, (.int .i64 x262))] ∧ Heap w00 (oA (rList rBool) p1 xs617 :: L) w ∧ res618 = .inl (xs617)) ?_ ?_
    ·rintro a w ⟨xs617, S, H, rfl⟩
     have hm := ctl_inl hk622
     refine inBlock_norm ?_
     refine thenN ?_
     refine region_plain ?_
     refine lq (.int .i64 x262) S (q_move rfl) fun a S => ?_
     refine lq (.int .i64 (W (x262 + (1 : Int)))) S (q_add rfl rfl) fun a S => ?_
     refine lq (.int .i64 (W (x262 + (1 : Int)))) S (q_assign rfl) fun a S => ?_
     refine lx_nil ?_
     exact ⟨m479, Nat.lt_succ_self _, xs617, (W (x262 + (1 : Int))), S.sub ⟨rfl, rfl, rfl, trivial⟩, H, it_cont hm hc481⟩
    ·skip
     refine loop_ghost (fun n a w => ∃ (xs549 : List Bool) (x550 : Int), Slots a 59 [(0, (.int .i64 a0)), (1, p1), (5, (.int .i64 x262)), (6, (.int .i64 x550))] ∧ Heap w00 (oA (rList rBool) p1 xs549 :: L) w ∧ iter f620 n (xs549, x550) = some res618) _ ⟨xs261, (0 : Int), S.sub ⟨rfl, rfl, rfl, rfl, trivial⟩, H, hit619⟩ ?_
     rintro n a w ⟨xs549, x550, S, H, hit619⟩
     obtain ⟨m623, o624, rfl, hm, hc625⟩ := iter_step hit619
     rw [hf621] at hm
     refine wp_seq (wp_seq (region_plain ?_))
     refine lq (.int .i64 x550) S (q_move rfl) fun a S => ?_
     refine lq (.int .i64 a0) S (q_move rfl) fun a S => ?_
     refine lq (.bool (decide (x550 < a0))) S (q_lss rfl rfl) fun a S => ?_
     refine lx_nil (thenN ?_)
     refine cond_b S rfl (fun hc626 => ?_) (fun hc626 => ?_)
     ·have hm := ite_t hc626 hm
      refine wp_skip (thenN ?_)
      obtain ⟨K628, hK629, hm⟩ := join_elim hm
      refine seq_cut (fun a w => ∃ (xs627 : List Bool), Slots a 59 [(0, (.int .i64 a0)), (1, p1), (5, (.int .i64 x262)), (6, (.int .i64 x550))] ∧ Heap w00 (oA (rList rBool) p1 xs627 :: L) w ∧ K628 xs627 = some o624) ?_ ?_
      ·rintro a w ⟨xs627, S, H, hm⟩
       subst hK629
       refine region_plain ?_
       refine lq (.int .i64 x550) S (q_move rfl) fun a S => ?_
       refine lq (.int .i64 (W (x550 + (1 : Int)))) S (q_add rfl rfl) fun a S => ?_
       refine lq (.int .i64 (W (x550 + (1 : Int)))) S (q_assign rfl) fun a S => ?_
       refine lx_nil ?_
       exact ⟨m623, Nat.lt_succ_self _, xs627, (W (x550 + (1 : Int))), S.sub ⟨rfl, rfl, rfl, rfl, trivial⟩, H, it_cont hm hc625⟩
      ·skip
       refine wp_block ?_
       refine wp_seq (wp_seq (region_plain ?_))
       refine lq p1 S (q_move rfl) fun a S => ?_
       refine lq (.int .i64 x550) S (q_move rfl) fun a S => ?_
       refine lq (.int .i64 a0) S (q_move rfl) fun a S => ?_
       refine lq (.int .i64 (W (x550 * a0))) S (q_mul rfl rfl) fun a S => ?_
       refine lq (.int .i64 x262) S (q_move rfl) fun a S => ?_
       refine lq (.int .i64 (W ((W (x550 * a0)) + x262))) S (q_add rfl rfl) fun a S => ?_
       obtain ⟨x630, e631, hm⟩ := bind_some hm
       have hlt := lt_of_idx (idx_some e631).2
       refine lq (ePtr p1 ((W ((W (x550 * a0)) + x262)).toNat * 1)) S (q_indexAddr rfl (H.isSl 0 rfl) rfl (idx_some e631).1 hlt Tryz.underlying65 Tryz.sizeOf4) fun a S => ?_
       obtain ⟨c632, h633, hat634⟩ := (H.rdAt 0 rfl).elem (idx_some e631).2
       obtain rfl := h633
       refine lx_e (.bool x630) S trivial (by decide) rfl trivial (q_load1 rfl Tryz.isAgg4 (by rintro _ rfl; exact (hat634 0 _ rfl))) (fun a S => ?_)
       refine lq (.bool (!x630)) S (q_not rfl) fun a S => ?_
       refine lx_nil (thenN ?_)
       refine cond_b S rfl (fun hc635 => ?_) (fun hc635 => ?_)
       ·have hm := ite_t hc635 hm
        refine wp_exit ?_
        refine then_exit ?_
        refine inBlock_exit ?_
        exact ⟨xs549, S.sub ⟨rfl, rfl, rfl, rfl, trivial⟩, H, hm⟩
       ·have hm := ite_f hc635 hm
        refine wp_skip (thenN ?_)
        refine wp_seq (region_plain ?_)
        refine lq (.int .i64 (0 : Int)) S (q_assign rfl) fun a S => ?_
        refine lx_nil (thenN ?_)
        obtain ⟨res669, hit670, hk673⟩ := bind_some hm
        obtain ⟨f671, hf672, hit670⟩ := iter_name hit670
        refine block_loop (fun a w => ∃ (xs668 : List Bool), Slots a 59 [(0, (.int .i64 a0)), (1, p1), (5, (.int .i64 x262)), (6, (.int .i64 x550))] ∧ Heap w00 (oA (rList rBool) p1 xs668 :: L) w ∧ res669 = .inl (xs668)) ?_ ?_
        ·rintro a w ⟨xs668, S, H, rfl⟩
         have hm := ctl_inl hk673
         refine inBlock_norm ?_
         exact ⟨xs668, S.sub ⟨rfl, rfl, rfl, rfl, trivial⟩, H, hm⟩
        ·skip
         refine loop_ghost (fun n a w => ∃ (xs651 : List Bool) (x652 : Int), Slots a 59 [(0, (.int .i64 a0)), (1, p1), (5, (.int .i64 x262)), (6, (.int .i64 x550)), (7, (.int .i64 x652))] ∧ Heap w00 (oA (rList rBool) p1 xs651 :: L) w ∧ iter f671 n (xs651, x652) = some res669) _ ⟨xs549, (0 : Int), S.sub ⟨rfl, rfl, rfl, rfl, rfl, trivial⟩, H, hit670⟩ ?_
         rintro n a w ⟨xs651, x652, S, H, hit670⟩
         obtain ⟨m674, o675, rfl, hm, hc676⟩ := iter_step hit670
         rw [hf672] at hm
         refine wp_seq (wp_seq (region_plain ?_))
         refine lq (.int .i64 x652) S (q_move rfl) fun a S => ?_
         refine lq (.int .i64 a0) S (q_move rfl) fun a S => ?_
         refine lq (.bool (decide (x652 < a0))) S (q_lss rfl rfl) fun a S => ?_
         refine lx_nil (thenN ?_)
         refine cond_b S rfl (fun hc677 => ?_) (fun hc677 => ?_)
         ·have hm := ite_t hc677 hm
          refine wp_skip (thenN ?_)
          obtain ⟨K679, hK680, hm⟩ := join_elim hm
          refine seq_cut (fun a w => ∃ (xs678 : List Bool), Slots a 59 [(0, (.int .i64 a0)), (1, p1), (5, (.int .i64 x262)), (6, (.int .i64 x550)), (7, (.int .i64 x652))] ∧ Heap w00 (oA (rList rBool) p1 xs678 :: L) w ∧ K679 xs678 = some o675) ?_ ?_
          ·rintro a w ⟨xs678, S, H, hm⟩
           subst hK680
           refine region_plain ?_
           refine lq (.int .i64 x652) S (q_move rfl) fun a S => ?_
           refine lq (.int .i64 (W (x652 + (1 : Int)))) S (q_add rfl rfl) fun a S => ?_
           refine lq (.int .i64 (W (x652 + (1 : Int)))) S (q_assign rfl) fun a S => ?_
           refine lx_nil ?_
           exact ⟨m674, Nat.lt_succ_self _, xs678, (W (x652 + (1 : Int))), S.sub ⟨rfl, rfl, rfl, rfl, rfl, trivial⟩, H, it_cont hm hc676⟩
          ·skip
           refine wp_block ?_
           refine wp_seq (region_plain ?_)
           refine lq p1 S (q_move rfl) fun a S => ?_
           refine lq (.int .i64 x262) S (q_move rfl) fun a S => ?_
           refine lq (.int .i64 a0) S (q_move rfl) fun a S => ?_
           refine lq (.int .i64 (W (x262 * a0))) S (q_mul rfl rfl) fun a S => ?_
           refine lq (.int .i64 x652) S (q_move rfl) fun a S => ?_
           refine lq (.int .i64 (W ((W (x262 * a0)) + x652))) S (q_add rfl rfl) fun a S => ?_
           obtain ⟨x681, e682, hm⟩ := bind_some hm
           have hlt := lt_of_idx (idx_some e682).2
           refine lq (ePtr p1 ((W ((W (x262 * a0)) + x652)).toNat * 1)) S (q_indexAddr rfl (H.isSl 0 rfl) rfl (idx_some e682).1 hlt Tryz.underlying65 Tryz.sizeOf4) fun a S => ?_
           obtain ⟨c683, h684, hat685⟩ := (H.rdAt 0 rfl).elem (idx_some e682).2
           obtain rfl := h684
           refine lx_e (.bool x681) S trivial (by decide) rfl trivial (q_load1 rfl Tryz.isAgg4 (by rintro _ rfl; exact (hat685 0 _ rfl))) (fun a S => ?_)
           refine lx_nil (thenN ?_)
           refine cond_b S rfl (fun hc686 => ?_) (fun hc686 => ?_)
           ·have hm := ite_t hc686 hm
            refine region_plain ?_
            refine lq p1 S (q_move rfl) fun a S => ?_
            refine lq (.int .i64 x550) S (q_move rfl) fun a S => ?_
            refine lq (.int .i64 a0) S (q_move rfl) fun a S => ?_
            refine lq (.int .i64 (W (x550 * a0))) S (q_mul rfl rfl) fun a S => ?_
            refine lq (.int .i64 x652) S (q_move rfl) fun a S => ?_
            refine lq (.int .i64 (W ((W (x550 * a0)) + x652))) S (q_add rfl rfl) fun a S => ?_
            obtain ⟨x687, e688, hm⟩ := bind_some hm
            have hlt := lt_of_idx (idx_some e688).2
            refine lq (ePtr p1 ((W ((W (x550 * a0)) + x652)).toNat * 1)) S (q_indexAddr rfl (H.isSl 0 rfl) rfl (idx_some e688).1 hlt Tryz.underlying65 Tryz.sizeOf4) fun a S => ?_
            refine lx_storeElem (r := rBool) (us := [(.bool true)]) (off := 0) (e' := true) S trivial rfl H.putE (ev_zero rfl) rfl (idx_some e688).2 rfl Tryz.sizeOf4 (Nat.le_of_ble_eq_true rfl) (List.forall_mem_cons.2 ⟨rfl, (fun _ h => nomatch h)⟩) (Upd.full rfl (fun w G hG => by cases (show G = [] from hG); exact ⟨rfl, rfl⟩)) (fun w689 H => ⟨trivial, fun a S => ?_⟩)
            refine lx_nil ?_
            refine inBlock_norm ?_
            exact ⟨(xs651.set (W ((W (x550 * a0)) + x652)).toNat true), S.sub ⟨rfl, rfl, rfl, rfl, rfl, trivial⟩, H, hm⟩
           ·have hm := ite_f hc686 hm
            refine wp_skip ?_
            refine inBlock_norm ?_
            exact ⟨xs651, S.sub ⟨rfl, rfl, rfl, rfl, rfl, trivial⟩, H, hm⟩
         ·have hm := ite_f hc677 hm
          refine wp_exit ?_
          refine then_exit ?_
          refine then_exit ?_
          refine inBlock_exit ?_
          obtain rfl := it_brk hm hc676
          exact ⟨xs651, S.sub ⟨rfl, rfl, rfl, rfl, trivial⟩, H, rfl⟩
     ·have hm := ite_f hc626 hm
      refine wp_exit ?_
      refine then_exit ?_
      refine then_exit ?_
      refine inBlock_exit ?_
      obtain rfl := it_brk hm hc625
      exact ⟨xs549, S.sub ⟨rfl, rfl, rfl, trivial⟩, H, rfl⟩
   ·have hm := ite_f hc482 hm
    refine wp_exit ?_
    refine then_exit ?_
    refine then_exit ?_
    refine inBlock_exit ?_
    obtain rfl := it_brk hm hc481
    exact ⟨xs261, S.sub trivial, H, rfl⟩
 ·skip
  refine loop_ghost (fun n a w => ∃ (xs37 : List Bool) (x38 : Int), Slots a 59 [(0, (.int .i64 a0)), (1, p1), (4, (.int .i64 x38))] ∧ Heap w00 (oA (rList rBool) p1 xs37 :: L) w ∧ iter f48 n (xs37, x38) = some res46) _ ⟨a1, (0 : Int), S.sub ⟨rfl, rfl, rfl, trivial⟩, H, hit47⟩ ?_
  rintro n a w ⟨xs37, x38, S, H, hit47⟩
  obtain ⟨m690, o691, rfl, hm, hc692⟩ := iter_step hit47
  rw [hf49] at hm
  refine wp_seq (wp_seq (region_plain ?_))
  refine lq (.int .i64 x38) S (q_move rfl) fun a S => ?_
  refine lq (.int .i64 a0) S (q_move rfl) fun a S => ?_
  refine lq (.bool (decide (x38 < a0))) S (q_lss rfl rfl) fun a S => ?_
  refine lx_nil (thenN ?_)
  refine cond_b S rfl (fun hc693 => ?_) (fun hc693 => ?_)
  ·have hm := ite_t hc693 hm
   refine wp_skip (thenN ?_)
   refine wp_seq ?_
   refine wp_block ?_
   refine region_plain ?_
   refine lq p1 S (q_move rfl) fun a S => ?_
   refine lq (.int .i64 x38) S (q_move rfl) fun a S => ?_
   refine lq (.int .i64 a0) S (q_move rfl) fun a S => ?_
   refine lq (.int .i64 (W (x38 * a0))) S (q_mul rfl rfl) fun a S => ?_
   refine lq (.int .i64 x38) S (q_move rfl) fun a S => ?_
   refine lq (.int .i64 (W ((W (x38 * a0)) + x38))) S (q_add rfl rfl) fun a S => ?_
   obtain ⟨x694, e695, hm⟩ := bind_some hm
   have hlt := lt_of_idx (idx_some e695).2
   refine lq (ePtr p1 ((W ((W (x38 * a0)) + x38)).toNat * 1)) S (q_indexAddr rfl (H.isSl 0 rfl) rfl (idx_some e695).1 hlt Tryz.underlying65 Tryz.sizeOf4) fun a S => ?_
   refine lx_storeElem (r := rBool) (us := [(.bool true)]) (off := 0) (e' := true) S trivial rfl H.putE (ev_zero rfl) rfl (idx_some e695).2 rfl Tryz.sizeOf4 (Nat.le_of_ble_eq_true rfl) (List.forall_mem_cons.2 ⟨rfl, (fun _ h => nomatch h)⟩) (Upd.full rfl (fun w G hG => by cases (show G = [] from hG); exact ⟨rfl, rfl⟩)) (fun w696 H => ⟨trivial, fun a S => ?_⟩)
   refine lx_nil ?_
   refine inBlock_norm ?_
   refine thenN ?_
   refine region_plain ?_
   refine lq (.int .i64 x38) S (q_move rfl) fun a S => ?_
   refine lq (.int .i64 (W (x38 + (1 : Int)))) S (q_add rfl rfl) fun a S => ?_
   refine lq (.int .i64 (W (x38 + (1 : Int)))) S (q_assign rfl) fun a S => ?_
   refine lx_nil ?_
   exact ⟨m690, Nat.lt_succ_self _, (xs37.set (W ((W (x38 * a0)) + x38)).toNat true), (W (x38 + (1 : Int))), S.sub ⟨rfl, rfl, rfl, trivial⟩, H, it_cont hm hc692⟩
  ·have hm := ite_f hc693 hm
   refine wp_exit ?_
   refine then_exit ?_
   refine then_exit ?_
   refine inBlock_exit ?_
   obtain rfl := it_brk hm hc692
   exact ⟨xs37, S.sub ⟨rfl, rfl, trivial⟩, H, rfl⟩

/-- spec.l16Still -/
def spec_l16Still_m (fuel : Nat) (a0 : Timpl_Lts) : Option ((List Bool)) :=
  (mks (W (a0.1 * a0.1)) false).bind fun x50 => (iter (fun (s : (List Bool) × (Int)) => (match s with | (xs107, x108) => (if (decide (x108 < (a0.2.2.2.length : Int))) = true then join (κ := List Bool → Option (((List Bool) × (Int)) ⊕ (((List Bool)) ⊕ ((List Bool))))) (fun (xs174 : List Bool) => some (.inl (xs174, (W (x108 + (1 : Int)))))) (fun K175 => (idx a0.2.2.2 x108).bind fun x177 => (if (x177.2.1 == (0 : Int)) = true then (idx a0.2.2.2 x108).bind fun x193 => (idx a0.2.2.2 x108).bind fun x206 => (idx xs107 (W ((W (x193.1 * a0.1)) + x206.2.2))).bind fun _ => (K175 (xs107.set (W ((W (x193.1 * a0.1)) + x206.2.2)).toNat true)) else (K175 xs107))) else some (.inr (.inl (xs107)))) : Option (((List Bool) × (Int)) ⊕ (((List Bool)) ⊕ ((List Bool)))))) fuel (x50, (0 : Int))).bind fun res161 => ctl (β := (List Bool)) (ρ := (List Bool)) (τ := (List Bool)) res161 (fun (xs160) => (spec_l02Close_m fuel a0.1 xs160).bind fun x168 => some (x168)) (fun q => some (q))
set_option maxRecDepth 20000 in
theorem spec_l16Still_ok {w0 : World} {fuel : Nat} {p0 : Value} {a0 : Timpl_Lts} {r : (List Bool)} (h0 : Rd (rPtr Rimpl_Lts) w0 p0 a0) (hm : spec_l16Still_m fuel a0 = some r) :
  Calls Tryz.prog 40 #[p0] w0 fun e w => ∃ (v0 : Value), e = .returned (v0) ∧ Heap w0 [oA (rList rBool) v0 r] w := by
 unfold spec_l16Still_m at hm
 have H := Heap.start w0
 obtain ⟨c31, h32, hat33⟩ := h0.ptr
 obtain ⟨c38, c39, rfl, h40, h41⟩ := h32
 obtain rfl := h40
 obtain ⟨c42, c43, rfl, h44, h45⟩ := h41
 obtain rfl := h44
 obtain ⟨c46, c47, rfl, h48, h49⟩ := h45
 obtain ⟨v34, rfl, h35⟩ := rd_list h48
 obtain ⟨v36, rfl, h37⟩ := rd_list h49
 refine enter (args := [p0]) Tryz.func40 rfl 57 rfl (Nat.le_of_ble_eq_true rfl) (fun a S => ?_)
 refine wp_seq (region_plain ?_)
 refine lq (.slice none 0 0) S (q_assign rfl) fun a S => ?_
 refine lx_nil (thenN ?_)
 refine wp_seq (region_plain ?_)
 refine lq p0 S (q_move rfl) fun a S => ?_
 refine lq p0 S (q_nilCheck rfl ((hat33 0 _ rfl).isP)) fun a S => ?_
 refine lq (pAdd p0 0) S (q_fieldAddr' 0 2 rfl ((hat33 0 _ rfl).isP) Tryz.underlying29 rfl Tryz.sizeOf2) fun a S => ?_
 refine lx_e (.int .i64 a0.1) S trivial (by decide) rfl trivial (q_load1 rfl Tryz.isAgg2 (by rintro _ rfl; exact (At.of_add (m := 0) (j := 0) ((hat33 0 _ rfl).ext H.ext)))) (fun a S => ?_)
 refine lq (.int .i64 a0.1) S (q_assign rfl) fun a S => ?_
 refine lx_nil (thenN ?_)
 refine wp_seq (region_plain ?_)
 refine lq (.int .i64 a0.1) S (q_move rfl) fun a S => ?_
 refine lq (.int .i64 a0.1) S (q_move rfl) fun a S => ?_
 refine lq (.int .i64 (W (a0.1 * a0.1))) S (q_mul rfl rfl) fun a S => ?_
 obtain ⟨x50, e51, hm⟩ := bind_some hm
 obtain ⟨m52, hn, hn2, rfl⟩ := mks_some e51
 refine lx_make (r := rBool) (z0 := false) (n := m52) S trivial (by decide) rfl H (by rw [← hn]; rfl) (by rw [← hn]; rfl) Tryz.underlying65 (Tryz.ti4) rfl rfl (by decide) (fun w => ⟨rfl, rfl⟩) hn2 (by decide) (fun v53 w54 H => ⟨trivial, fun a S => ?_⟩)
 refine lq v53 S (q_assign rfl) fun a S => ?_
 refine lx_nil (thenN ?_)
 refine wp_seq (wp_seq (region_plain ?_))
 refine lq (.int .i64 (0 : Int)) S (q_assign rfl) fun a S => ?_
 refine lx_nil (thenN ?_)
 obtain ⟨res161, hit162, hk165⟩ := bind_some hm
 obtain ⟨f163, hf164, hit162⟩ := iter_name hit162
 refine block_loop (fun a w => ∃ (xs160 : List Bool), Slots a 57 [(3, (.int .i64 a0.1)), (4, v53)] ∧ Heap w0 [oA (rList rBool) v53 xs160] w ∧ res161 = .inl (xs160)) ?_ ?_
 ·rintro a w ⟨xs160, S, H, rfl⟩
  have hm := ctl_inl hk165
  refine thenN ?_
  refine wp_seq (region_plain ?_)
  refine lq (.int .i64 a0.1) S (q_move rfl) fun a S => ?_
  refine lq v53 S (q_move rfl) fun a S => ?_
  obtain ⟨x168, e169, hm⟩ := bind_some hm
  refine lx_call (xs := [.tmp 53, .tmp 54]) S trivial (by decide) rfl rfl Tryz.call56 ((spec_l02Close_ok H  e169).mono ?_)
  rintro e w166 ⟨rfl, H⟩
  refine ⟨_, rfl, trivial, fun a S => ?_⟩
  refine lx_nil (thenN ?_)
  refine wp_seq (region_plain ?_)
  refine lq v53 S (q_move rfl) fun a S => ?_
  refine lq v53 S (q_assign rfl) fun a S => ?_
  refine lx_nil (thenN ?_)
  refine wp_ret ?_
  obtain rfl := Option.some.inj hm
  exact leave1 S rfl rfl ⟨v53, rfl, H⟩
 ·skip
  refine loop_ghost (fun n a w => ∃ (xs107 : List Bool) (x108 : Int), Slots a 57 [(0, p0), (3, (.int .i64 a0.1)), (4, v53), (5, (.int .i64 x108))] ∧ Heap w0 [oA (rList rBool) v53 xs107] w ∧ iter f163 n (xs107, x108) = some res161) _ ⟨(List.replicate m52 false), (0 : Int), S.sub ⟨rfl, rfl, rfl, rfl, trivial⟩, H, hit162⟩ ?_
  rintro n a w ⟨xs107, x108, S, H, hit162⟩
  obtain ⟨m170, o171, rfl, hm, hc172⟩ := iter_step hit162
  rw [hf164] at hm
  refine wp_seq (wp_seq (region_plain ?_))
  refine lq (.int .i64 x108) S (q_move rfl) fun a S => ?_
  refine lq p0 S (q_move rfl) fun a S => ?_
  refine lq p0 S (q_nilCheck rfl ((hat33 0 _ rfl).isP)) fun a S => ?_
  refine lq (pAdd p0 3) S (q_fieldAddr' 3 27 rfl ((hat33 0 _ rfl).isP) Tryz.underlying29 rfl Tryz.sizeOf27) fun a S => ?_
  refine lx_e v36 S trivial (by decide) rfl trivial (q_load1 rfl Tryz.isAgg27 (by rintro _ rfl; exact (At.of_add (m := 3) (j := 0) ((hat33 3 _ rfl).ext H.ext)))) (fun a S => ?_)
  refine lq (.int .i64 (a0.2.2.2.length : Int)) S (q_lenSl rfl (h37).isSl rfl Tryz.underlying27) fun a S => ?_
  refine lq (.bool (decide (x108 < (a0.2.2.2.length : Int)))) S (q_lss rfl rfl) fun a S => ?_
  refine lx_nil (thenN ?_)
  refine cond_b S rfl (fun hc173 => ?_) (fun hc173 => ?_)
  ·have hm := ite_t hc173 hm
   refine wp_skip (thenN ?_)
   obtain ⟨K175, hK176, hm⟩ := join_elim hm
   refine seq_cut (fun a w => ∃ (xs174 : List Bool), Slots a 57 [(0, p0), (3, (.int .i64 a0.1)), (4, v53), (5, (.int .i64 x108))] ∧ Heap w0 [oA (rList rBool) v53 xs174] w ∧ K175 xs174 = some o171) ?_ ?_
   ·rintro a w ⟨xs174, S, H, hm⟩
    subst hK176
    refine region_plain ?_
    refine lq (.int .i64 x108) S (q_move rfl) fun a S => ?_
    refine lq (.int .i64 (W (x108 + (1 : Int)))) S (q_add rfl rfl) fun a S => ?_
    refine lq (.int .i64 (W (x108 + (1 : Int)))) S (q_assign rfl) fun a S => ?_
    refine lx_nil ?_
    exact ⟨m170, Nat.lt_succ_self _, xs174, (W (x108 + (1 : Int))), S.sub ⟨rfl, rfl, rfl, rfl, trivial⟩, H, it_cont hm hc172⟩
   ·skip
    refine wp_block ?_
    refine wp_seq (region_plain ?_)
    refine lq p0 S (q_move rfl) fun a S => ?_
    refine lq p0 S (q_nilCheck rfl ((hat33 0 _ rfl).isP)) fun a S => ?_
    refine lq (pAdd p0 3) S (q_fieldAddr' 3 27 rfl ((hat33 0 _ rfl).isP) Tryz.underlying29 rfl Tryz.sizeOf27) fun a S => ?_
    refine lx_e v36 S trivial (by decide) rfl trivial (q_load1 rfl Tryz.isAgg27 (by rintro _ rfl; exact (At.of_add (m := 3) (j := 0) ((hat33 3 _ rfl).ext H.ext)))) (fun a S => ?_)
    refine lq (.int .i64 x108) S (q_move rfl) fun a S => ?_
    obtain ⟨x177, e178, hm⟩ := bind_some hm
    obtain ⟨c179, h180, hat181⟩ := (h37).elem (idx_some e178).2
    obtain ⟨c182, c183, rfl, h184, h185⟩ := h180
    obtain rfl := h184
    obtain ⟨c186, c187, rfl, h188, h189⟩ := h185
    obtain rfl := h188
    obtain rfl := h189
    have hlt := lt_of_idx (idx_some e178).2
    refine lq (ePtr v36 (x108.toNat * 3)) S (q_indexAddr rfl (h37).isSl rfl (idx_some e178).1 hlt Tryz.underlying27 Tryz.sizeOf62) fun a S => ?_
    refine lq (pAdd (ePtr v36 (x108.toNat * 3)) 1) S (q_fieldAddr' 1 2 rfl ((hat181 0 _ rfl).isP) Tryz.underlying62 rfl Tryz.sizeOf2) fun a S => ?_
    refine lx_e (.int .i64 x177.2.1) S trivial (by decide) rfl trivial (q_load1 rfl Tryz.isAgg2 (by rintro _ rfl; exact (At.of_add (m := 1) (j := 0) ((hat181 1 _ rfl).ext H.ext)))) (fun a S => ?_)
    refine lq (.bool (x177.2.1 == (0 : Int))) S (q_eql rfl rfl) fun a S => ?_
    refine lx_nil (thenN ?_)
    refine cond_b S rfl (fun hc190 => ?_) (fun hc190 => ?_)
    ·have hm := ite_t hc190 hm
     refine region_drawG (fun w1 => Heap w0 [] w1) (fun i => [21].contains i) mixed (by kernel_rfl) (fun w192 he191 => ?_)
     have H := H.later he191
     refine ⟨H.sel [] (by decide), ?_⟩
     refine lq v53 S (q_move rfl) fun a S => ?_
     refine lq p0 S (q_move rfl) fun a S => ?_
     refine lq p0 S (q_nilCheck rfl ((hat33 0 _ rfl).isP)) fun a S => ?_
     refine lq (pAdd p0 3) S (q_fieldAddr' 3 27 rfl ((hat33 0 _ rfl).isP) Tryz.underlying29 rfl Tryz.sizeOf27) fun a S => ?_
     refine lq v36 S (q_load1 rfl Tryz.isAgg27 (fun w1 hC => (At.of_add (m := 3) (j := 0) ((hat33 3 _ rfl).ext hC.ext)))) fun a S => ?_
     refine lq (.int .i64 x108) S (q_move rfl) fun a S => ?_
     obtain ⟨x193, e194, hm⟩ := bind_some hm
     obtain ⟨c195, h196, hat197⟩ := (h37).elem (idx_some e194).2
     obtain ⟨c198, c199, rfl, h200, h201⟩ := h196
     obtain rfl := h200
     obtain ⟨c202, c203, rfl, h204, h205⟩ := h201
     obtain rfl := h204
     obtain rfl := h205
     have hlt := lt_of_idx (idx_some e194).2
     refine lq (ePtr v36 (x108.toNat * 3)) S (q_indexAddr rfl (h37).isSl rfl (idx_some e194).1 hlt Tryz.underlying27 Tryz.sizeOf62) fun a S => ?_
     refine lq (pAdd (ePtr v36 (x108.toNat * 3)) 0) S (q_fieldAddr' 0 2 rfl ((hat197 0 _ rfl).isP) Tryz.underlying62 rfl Tryz.sizeOf2) fun a S => ?_
     refine lq (.int .i64 x193.1) S (q_load1 rfl Tryz.isAgg2 (fun w1 hC => (At.of_add (m := 0) (j := 0) ((hat197 0 _ rfl).ext hC.ext)))) fun a S => ?_
     refine lq (.int .i64 a0.1) S (q_move rfl) fun a S => ?_
     refine lq (.int .i64 (W (x193.1 * a0.1))) S (q_mul rfl rfl) fun a S => ?_
     refine lq p0 S (q_move rfl) fun a S => ?_
     refine lq p0 S (q_nilCheck rfl ((hat33 0 _ rfl).isP)) fun a S => ?_
     refine lq (pAdd p0 3) S (q_fieldAddr' 3 27 rfl ((hat33 0 _ rfl).isP) Tryz.underlying29 rfl Tryz.sizeOf27) fun a S => ?_
     refine lq v36 S (q_load1 rfl Tryz.isAgg27 (fun w1 hC => (At.of_add (m := 3) (j := 0) ((hat33 3 _ rfl).ext hC.ext)))) fun a S => ?_
     refine lq (.int .i64 x108) S (q_move rfl) fun a S => ?_
     obtain ⟨x206, e207, hm⟩ := bind_some hm
     obtain ⟨c208, h209, hat210⟩ := (h37).elem (idx_some e207).2
     obtain ⟨c211, c212, rfl, h213, h214⟩ := h209
     obtain rfl := h213
     obtain ⟨c215, c216, rfl, h217, h218⟩ := h214
     obtain rfl := h217
     obtain rfl := h218
     have hlt := lt_of_idx (idx_some e207).2
     refine lq (ePtr v36 (x108.toNat * 3)) S (q_indexAddr rfl (h37).isSl rfl (idx_some e207).1 hlt Tryz.underlying27 Tryz.sizeOf62) fun a S => ?_
     refine lq (pAdd (ePtr v36 (x108.toNat * 3)) 2) S (q_fieldAddr' 2 2 rfl ((hat210 0 _ rfl).isP) Tryz.underlying62 rfl Tryz.sizeOf2) fun a S => ?_
     refine lq (.int .i64 x206.2.2) S (q_load1 rfl Tryz.isAgg2 (fun w1 hC => (At.of_add (m := 2) (j := 0) ((hat210 2 _ rfl).ext hC.ext)))) fun a S => ?_
     refine lq (.int .i64 (W ((W (x193.1 * a0.1)) + x206.2.2))) S (q_add rfl rfl) fun a S => ?_
     obtain ⟨x219, e220, hm⟩ := bind_some hm
     have hlt := lt_of_idx (idx_some e220).2
     refine lq (ePtr v53 ((W ((W (x193.1 * a0.1)) + x206.2.2)).toNat * 1)) S (q_indexAddr rfl (H.isSl 0 rfl) rfl (idx_some e220).1 hlt Tryz.underlying65 Tryz.sizeOf4) fun a S => ?_
     refine lx_storeElem (r := rBool) (us := [(.bool true)]) (off := 0) (e' := true) S trivial rfl H.putE (ev_zero rfl) rfl (idx_some e220).2 rfl Tryz.sizeOf4 (Nat.le_of_ble_eq_true rfl) (List.forall_mem_cons.2 ⟨rfl, (fun _ h => nomatch h)⟩) (Upd.full rfl (fun w G hG => by cases (show G = [] from hG); exact ⟨rfl, rfl⟩)) (fun w221 H => ⟨H.sel [] (by decide), fun a S => ?_⟩)
     refine lx_nil ?_
     refine inBlock_norm ?_
     exact ⟨(xs107.set (W ((W (x193.1 * a0.1)) + x206.2.2)).toNat true), S.sub ⟨rfl, rfl, rfl, rfl, trivial⟩, H, hm⟩
    ·have hm := ite_f hc190 hm
     refine wp_skip ?_
     refine inBlock_norm ?_
     exact ⟨xs107, S.sub ⟨rfl, rfl, rfl, rfl, trivial⟩, H, hm⟩
  ·have hm := ite_f hc173 hm
   refine wp_exit ?_
   refine then_exit ?_
   refine then_exit ?_
   refine inBlock_exit ?_
   obtain rfl := it_brk hm hc172
   exact ⟨xs107, S.sub ⟨rfl, rfl, trivial⟩, H, rfl⟩

/-- spec.l16Step -/
def spec_l16Step_m (fuel : Nat) (a0 : Timpl_Lts) (a1 : (List Bool)) (a2 : Int) (a3 : Int) : Option ((List Bool)) :=
  (mks a0.1 false).bind fun x50 => (if (a3 == (0 : Int)) = true then (iter (fun (s : (List Bool) × (Int)) => (match s with | (xs68, x69) => (if (decide (x69 < a0.1)) = true then (idx a1 (W ((W (a2 * a0.1)) + x69))).bind fun x91 => (idx xs68 x69).bind fun _ => some (.inl ((xs68.set x69.toNat x91), (W (x69 + (1 : Int))))) else some (.inr (.inl (xs68)))) : Option (((List Bool) × (Int)) ⊕ (((List Bool)) ⊕ ((List Bool)))))) fuel (x50, (0 : Int))).bind fun res82 => ctl (β := (List Bool)) (ρ := (List Bool)) (τ := (List Bool)) res82 (fun (xs81) => some (xs81)) (fun q => some (q)) else (iter (fun (s : (List Bool) × (Int)) => (match s with | (xs185, x186) => (if (decide (x186 < (a0.2.2.2.length : Int))) = true then join (κ := List Bool → Option (((List Bool) × (Int)) ⊕ (((List Bool)) ⊕ ((List Bool))))) (fun (xs283 : List Bool) => some (.inl (xs283, (W (x186 + (1 : Int)))))) (fun K284 => (idx a0.2.2.2 x186).bind fun x286 => (if (x286.2.1 != a3) = true then some true else (idx a1 (W ((W (a2 * a0.1)) + x286.1))).bind fun x306 => some (!x306)).bind fun t303 => (if t303 = true then (K284 xs185) else (iter (fun (s : (List Bool) × (Int)) => (match s with | (xs327, x328) => (if (decide (x328 < a0.1)) = true then join (κ := List Bool → Option (((List Bool) × (Int)) ⊕ (((List Bool)) ⊕ ((List Bool))))) (fun (xs354 : List Bool) => some (.inl (xs354, (W (x328 + (1 : Int)))))) (fun K355 => (idx a1 (W ((W (x286.2.2 * a0.1)) + x328))).bind fun x357 => (if x357 = true then (idx xs327 x328).bind fun _ => (K355 (xs327.set x328.toNat true)) else (K355 xs327))) else some (.inr (.inl (xs327)))) : Option (((List Bool) × (Int)) ⊕ (((List Bool)) ⊕ ((List Bool)))))) fuel (xs185, (0 : Int))).bind fun res345 => ctl (β := (List Bool)) (ρ := (List Bool)) (τ := (((List Bool) × (Int)) ⊕ (((List Bool)) ⊕ ((List Bool))))) res345 (fun (xs344) => (K284 xs344)) (fun q => some (.inr (.inr q))))) else some (.inr (.inl (xs185)))) : Option (((List Bool) × (Int)) ⊕ (((List Bool)) ⊕ ((List Bool)))))) fuel (x50, (0 : Int))).bind fun res274 => ctl (β := (List Bool)) (ρ := (List Bool)) (τ := (List Bool)) res274 (fun (xs273) => some (xs273)) (fun q => some (q)))
set_option maxRecDepth 20000 in
theorem spec_l16Step_ok {w0 : World} {fuel : Nat} {p0 p1 : Value} {a0 : Timpl_Lts} {a1 : (List Bool)} {a2 : Int} {a3 : Int} {r : (List Bool)} (h0 : Rd (rPtr Rimpl_Lts) w0 p0 a0) (h1 : Rd (rList rBool) w0 p1 a1) (hm : spec_l16Step_m fuel a0 a1 a2 a3 = some r) :
  Calls Tryz.prog 41 #[p0, p1, .int .i64 a2, .int .i64 a3] w0 fun e w => ∃ (v0 : Value), e = .returned (v0) ∧ Heap w0 [oA (rList rBool) v0 r] w := by
 unfold spec_l16Step_m at hm
 have H := Heap.start w0
 obtain ⟨c31, h32, hat33⟩ := h0.ptr
 obtain ⟨c38, c39, rfl, h40, h41⟩ := h32
 obtain rfl := h40
 obtain ⟨c42, c43, rfl, h44, h45⟩ := h41
 obtain rfl := h44
 obtain ⟨c46, c47, rfl, h48, h49⟩ := h45
 obtain ⟨v34, rfl, h35⟩ := rd_list h48
 obtain ⟨v36, rfl, h37⟩ := rd_list h49
 refine enter (args := [p0, p1, .int .i64 a2, .int .i64 a3]) Tryz.func41 rfl 90 rfl (Nat.le_of_ble_eq_true rfl) (fun a S => ?_)
 refine wp_seq (region_plain ?_)
 refine lq (.slice none 0 0) S (q_assign rfl) fun a S => ?_
 refine lx_nil (thenN ?_)
 refine wp_seq (region_plain ?_)
 refine lq p0 S (q_move rfl) fun a S => ?_
 refine lq p0 S (q_nilCheck rfl ((hat33 0 _ rfl).isP)) fun a S => ?_
 refine lq (pAdd p0 0) S (q_fieldAddr' 0 2 rfl ((hat33 0 _ rfl).isP) Tryz.underlying29 rfl Tryz.sizeOf2) fun a S => ?_
 refine lx_e (.int .i64 a0.1) S trivial (by decide) rfl trivial (q_load1 rfl Tryz.isAgg2 (by rintro _ rfl; exact (At.of_add (m := 0) (j := 0) ((hat33 0 _ rfl).ext H.ext)))) (fun a S => ?_)
 refine lq (.int .i64 a0.1) S (q_assign rfl) fun a S => ?_
 refine lx_nil (thenN ?_)
 refine wp_seq (region_plain ?_)
 refine lq (.int .i64 a0.1) S (q_move rfl) fun a S => ?_
 obtain ⟨x50, e51, hm⟩ := bind_some hm
 obtain ⟨m52, hn, hn2, rfl⟩ := mks_some e51
 refine lx_make (r := rBool) (z0 := false) (n := m52) S trivial (by decide) rfl H (by rw [← hn]; rfl) (by rw [← hn]; rfl) Tryz.underlying65 (Tryz.ti4) rfl rfl (by decide) (fun w => ⟨rfl, rfl⟩) hn2 (by decide) (fun v53 w54 H => ⟨trivial, fun a S => ?_⟩)
 refine lq v53 S (q_assign rfl) fun a S => ?_
 refine lx_nil (thenN ?_)
 refine wp_seq (wp_seq (region_plain ?_))
 refine lq (.int .i64 a3) S (q_move rfl) fun a S => ?_
 refine lq (.bool (a3 == (0 : Int))) S (q_eql rfl rfl) fun a S => ?_
 refine lx_nil (thenN ?_)
 refine cond_b S rfl (fun hc56 => ?_) (fun hc56 => ?_)
 ·have hm := ite_t hc56 hm
  refine wp_seq (wp_seq (region_plain ?_))
  refine lq (.int .i64 (0 : Int)) S (q_assign rfl) fun a S => ?_
  refine lx_nil (thenN ?_)
  obtain ⟨res82, hit83, hk86⟩ := bind_some hm
  obtain ⟨f84, hf85, hit83⟩ := iter_name hit83
  refine block_loop (fun a w => ∃ (xs81 : List Bool), Slots a 90 [(10, v53)] ∧ Heap w0 [oA (rList rBool) v53 xs81] w ∧ res82 = .inl (xs81)) ?_ ?_
  ·rintro a w ⟨xs81, S, H, rfl⟩
   have hm := ctl_inl hk86
   refine thenN ?_
   refine wp_seq (region_plain ?_)
   refine lq v53 S (q_move rfl) fun a S => ?_
   refine lq v53 S (q_assign rfl) fun a S => ?_
   refine lx_nil (thenN ?_)
   refine wp_ret (then_ret ?_)
   obtain rfl := Option.some.inj hm
   exact leave1 S rfl rfl ⟨v53, rfl, H⟩
  ·skip
   refine loop_ghost (fun n a w => ∃ (xs68 : List Bool) (x69 : Int), Slots a 90 [(1, p1), (2, (.int .i64 a2)), (9, (.int .i64 a0.1)), (10, v53), (11, (.int .i64 x69))] ∧ Heap w0 [oA (rList rBool) v53 xs68] w ∧ iter f84 n (xs68, x69) = some res82) _ ⟨(List.replicate m52 false), (0 : Int), S.sub ⟨rfl, rfl, rfl, rfl, rfl, trivial⟩, H, hit83⟩ ?_
   rintro n a w ⟨xs68, x69, S, H, hit83⟩
   obtain ⟨m87, o88, rfl, hm, hc89⟩ := iter_step hit83
   rw [hf85] at hm
   refine wp_seq (wp_seq (region_plain ?_))
   refine lq (.int .i64 x69) S (q_move rfl) fun a S => ?_
   refine lq (.int .i64 a0.1) S (q_move rfl) fun a S => ?_
   refine lq (.bool (decide (x69 < a0.1))) S (q_lss rfl rfl) fun a S => ?_
   refine lx_nil (thenN ?_)
   refine cond_b S rfl (fun hc90 => ?_) (fun hc90 => ?_)
   ·have hm := ite_t hc90 hm
    refine wp_skip (thenN ?_)
    refine wp_seq ?_
    refine wp_block ?_
    refine region_plain ?_
    refine lq v53 S (q_move rfl) fun a S => ?_
    refine lq (.int .i64 x69) S (q_move rfl) fun a S => ?_
    refine lq p1 S (q_move rfl) fun a S => ?_
    refine lq (.int .i64 a2) S (q_move rfl) fun a S => ?_
    refine lq (.int .i64 a0.1) S (q_move rfl) fun a S => ?_
    refine lq (.int .i64 (W (a2 * a0.1))) S (q_mul rfl rfl) fun a S => ?_
    refine lq (.int .i64 x69) S (q_move rfl) fun a S => ?_
    refine lq (.int .i64 (W ((W (a2 * a0.1)) + x69))) S (q_add rfl rfl) fun a S => ?_
    obtain ⟨x91, e92, hm⟩ := bind_some hm
    obtain ⟨c93, h94, hat95⟩ := (h1).elem (idx_some e92).2
    obtain rfl := h94
    have hlt := lt_of_idx (idx_some e92).2
    refine lq (ePtr p1 ((W ((W (a2 * a0.1)) + x69)).toNat * 1)) S (q_indexAddr rfl (h1).isSl rfl (idx_some e92).1 hlt Tryz.underlying65 Tryz.sizeOf4) fun a S => ?_
    refine lx_e (.bool x91) S trivial (by decide) rfl trivial (q_load1 rfl Tryz.isAgg4 (by rintro _ rfl; exact ((hat95 0 _ rfl).ext H.ext))) (fun a S => ?_)
    obtain ⟨x96, e97, hm⟩ := bind_some hm
    have hlt := lt_of_idx (idx_some e97).2
    refine lq (ePtr v53 (x69.toNat * 1)) S (q_indexAddr rfl (H.isSl 0 rfl) rfl (idx_some e97).1 hlt Tryz.underlying65 Tryz.sizeOf4) fun a S => ?_
    refine lx_storeElem (r := rBool) (us := [(.bool x91)]) (off := 0) (e' := x91) S trivial rfl H.putE (ev_zero rfl) rfl (idx_some e97).2 rfl Tryz.sizeOf4 (Nat.le_of_ble_eq_true rfl) (List.forall_mem_cons.2 ⟨rfl, (fun _ h => nomatch h)⟩) (Upd.full rfl (fun w G hG => by cases (show G = [] from hG); exact ⟨rfl, rfl⟩)) (fun w98 H => ⟨trivial, fun a S => ?_⟩)
    refine lx_nil ?_
    refine inBlock_norm ?_
    refine thenN ?_
    refine region_plain ?_
    refine lq (.int .i64 x69) S (q_move rfl) fun a S => ?_
    refine lq (.int .i64 (W (x69 + (1 : Int)))) S (q_add rfl rfl) fun a S => ?_
    refine lq (.int .i64 (W (x69 + (1 : Int)))) S (q_assign rfl) fun a S => ?_
    refine lx_nil ?_
    exact ⟨m87, Nat.lt_succ_self _, (xs68.set x69.toNat x91), (W (x69 + (1 : Int))), S.sub ⟨rfl, rfl, rfl, rfl, rfl, trivial⟩, H, it_cont hm hc89⟩
   ·have hm := ite_f hc90 hm
    refine wp_exit ?_
    refine then_exit ?_
    refine then_exit ?_
    refine inBlock_exit ?_
    obtain rfl := it_brk hm hc89
    exact ⟨xs68, S.sub ⟨rfl, trivial⟩, H, rfl⟩
 ·have hm := ite_f hc56 hm
  refine wp_skip (thenN ?_)
  refine wp_seq (wp_seq (region_plain ?_))
  refine lq (.int .i64 (0 : Int)) S (q_assign rfl) fun a S => ?_
  refine lx_nil (thenN ?_)
  obtain ⟨res274, hit275, hk278⟩ := bind_some hm
  obtain ⟨f276, hf277, hit275⟩ := iter_name hit275
  refine block_loop (fun a w => ∃ (xs273 : List Bool), Slots a 90 [(10, v53)] ∧ Heap w0 [oA (rList rBool) v53 xs273] w ∧ res274 = .inl (xs273)) ?_ ?_
  ·rintro a w ⟨xs273, S, H, rfl⟩
   have hm := ctl_inl hk278
   refine thenN ?_
   refine wp_seq (region_plain ?_)
   refine lq v53 S (q_move rfl) fun a S => ?_
   refine lq v53 S (q_assign rfl) fun a S => ?_
   refine lx_nil (thenN ?_)
   refine wp_ret ?_
   obtain rfl := Option.some.inj hm
   exact leave1 S rfl rfl ⟨v53, rfl, H⟩
  ·skip
   refine loop_ghost (fun n a w => ∃ (xs185 : List Bool) (x186 : Int), Slots a 90 [(0, p0), (1, p1), (2, (.int .i64 a2)), (3, (.int .i64 a3)), (9, (.int .i64 a0.1)), (10, v53), (12, (.int .i64 x186))] ∧ Heap w0 [oA (rList rBool) v53 xs185] w ∧ iter f276 n (xs185, x186) = some res274) _ ⟨(List.replicate m52 false), (0 : Int), S.sub ⟨rfl, rfl, rfl, rfl, rfl, rfl, rfl, trivial⟩, H, hit275⟩ ?_
   rintro n a w ⟨xs185, x186, S, H, hit275⟩
   obtain ⟨m279, o280, rfl, hm, hc281⟩ := iter_step hit275
   rw [hf277] at hm
   refine wp_seq (wp_seq (region_plain ?_))
   refine lq (.int .i64 x186) S (q_move rfl) fun a S => ?_
   refine lq p0 S (q_move rfl) fun a S => ?_
   refine lq p0 S (q_nilCheck rfl ((hat33 0 _ rfl).isP)) fun a S => ?_
   refine lq (pAdd p0 3) S (q_fieldAddr' 3 27 rfl ((hat33 0 _ rfl).isP) Tryz.underlying29 rfl Tryz.sizeOf27) fun a S => ?_
   refine lx_e v36 S trivial (by decide) rfl trivial (q_load1 rfl Tryz.isAgg27 (by rintro _ rfl; exact (At.of_add (m := 3) (j := 0) ((hat33 3 _ rfl).ext H.ext)))) (fun a S => ?_)
   refine lq (.int .i64 (a0.2.2.2.length : Int)) S (q_lenSl rfl (h37).isSl rfl Tryz.underlying27) fun a S => ?_
   refine lq (.bool (decide (x186 < (a0.2.2.2.length : Int)))) S (q_lss rfl rfl) fun a S => ?_
   refine lx_nil (thenN ?_)
   refine cond_b S rfl (fun hc282 => ?_) (fun hc282 => ?_)
   ·have hm := ite_t hc282 hm
    refine wp_skip (thenN ?_)
    obtain ⟨K284, hK285, hm⟩ := join_elim hm
    refine seq_cut (fun a w => ∃ (xs283 : List Bool), Slots a 90 [(0, p0), (1, p1), (2, (.int .i64 a2)), (3, (.int .i64 a3)), (9, (.int .i64 a0.1)), (10, v53), (12, (.int .i64 x186))] ∧ Heap w0 [oA (rList rBool) v53 xs283] w ∧ K284 xs283 = some o280) ?_ ?_
    ·rintro a w ⟨xs283, S, H, hm⟩
     subst hK285
     refine region_plain ?_
     refine lq (.int .i64 x186) S (q_move rfl) fun a S => ?_
     refine lq (.int .i64 (W (x186 + (1 : Int)))) S (q_add rfl rfl) fun a S => ?_
     refine lq (.int .i64 (W (x186 + (1 : Int)))) S (q_assign rfl) fun a S => ?_
     refine lx_nil ?_
     exact ⟨m279, Nat.lt_succ_self _, xs283, (W (x186 + (1 : Int))), S.sub ⟨rfl, rfl, rfl, rfl, rfl, rfl, rfl, trivial⟩, H, it_cont hm hc281⟩
    ·skip
     refine wp_block ?_
     refine wp_seq (region_plain ?_)
     refine lq p0 S (q_move rfl) fun a S => ?_
     refine lq p0 S (q_nilCheck rfl ((hat33 0 _ rfl).isP)) fun a S => ?_
     refine lq (pAdd p0 3) S (q_fieldAddr' 3 27 rfl ((hat33 0 _ rfl).isP) Tryz.underlying29 rfl Tryz.sizeOf27) fun a S => ?_
     refine lx_e v36 S trivial (by decide) rfl trivial (q_load1 rfl Tryz.isAgg27 (by rintro _ rfl; exact (At.of_add (m := 3) (j := 0) ((hat33 3 _ rfl).ext H.ext)))) (fun a S => ?_)
     refine lq (.int .i64 x186) S (q_move rfl) fun a S => ?_
     obtain ⟨x286, e287, hm⟩ := bind_some hm
     obtain ⟨c288, h289, hat290⟩ := (h37).elem (idx_some e287).2
     obtain ⟨c291, c292, rfl, h293, h294⟩ := h289
     obtain rfl := h293
     obtain ⟨c295, c296, rfl, h297, h298⟩ := h294
     obtain rfl := h297
     obtain rfl := h298
     have hlt := lt_of_idx (idx_some e287).2
     refine lq (ePtr v36 (x186.toNat * 3)) S (q_indexAddr rfl (h37).isSl rfl (idx_some e287).1 hlt Tryz.underlying27 Tryz.sizeOf62) fun a S => ?_
     refine lx_e (.agg #[(.int .i64 x286.1), (.int .i64 x286.2.1), (.int .i64 x286.2.2)]) S trivial (by decide) rfl trivial (q_loadA (cs := [(.int .i64 x286.1), (.int .i64 x286.2.1), (.int .i64 x286.2.2)]) rfl ((hat290 0 _ rfl).isP) Tryz.isAgg62 Tryz.sizeOf62 (by rintro _ rfl; exact (fun j u hu => (hat290 j u hu).ext H.ext))) (fun a S => ?_)
     refine lx_alloc S trivial (by decide) rfl H Tryz.zeroValue62 rfl (fun b299 w300 H => ⟨trivial, fun a S => ?_⟩)
     refine lx_storeBox (o := 0) (i := 0) (us := [(.int .i64 x286.1), (.int .i64 x286.2.1), (.int .i64 x286.2.2)]) (cs' := [(.int .i64 x286.1), (.int .i64 x286.2.1), (.int .i64 x286.2.2)]) S trivial rfl H rfl rfl rfl rfl Tryz.sizeOf62 (Nat.le_of_ble_eq_true rfl) (List.forall_mem_cons.2 ⟨rfl, (List.forall_mem_cons.2 ⟨rfl, (List.forall_mem_cons.2 ⟨rfl, (fun _ h => nomatch h)⟩)⟩)⟩) rfl (fun w302 H => ⟨trivial, fun a S => ?_⟩)
     change Heap w0 [bA b299 [(.int .i64 x286.1), (.int .i64 x286.2.1), (.int .i64 x286.2.2)] 62, oA (rList rBool) v53 xs185] w302 at H
     refine lx_nil (thenN ?_)
     refine wp_seq (wp_seq (region_plain ?_))
     refine lq (pAdd (bp b299) 1) S (q_fieldAddr' 1 2 rfl (isP_bp _) Tryz.underlying62 rfl Tryz.sizeOf2) fun a S => ?_
     refine lx_e (.int .i64 x286.2.1) S trivial (by decide) rfl trivial (q_load1 rfl Tryz.isAgg2 (by rintro _ rfl; exact (At.of_add (m := 1) (j := 0) (boxAt (i := 0) H rfl (j := 1) rfl)))) (fun a S => ?_)
     refine lq (.int .i64 a3) S (q_move rfl) fun a S => ?_
     refine lq (.bool (x286.2.1 != a3)) S (q_neq rfl rfl) fun a S => ?_
     refine lq (.bool (x286.2.1 != a3)) S (q_move rfl) fun a S => ?_
     obtain ⟨t303, e304, hm⟩ := bind_some hm
     refine lx_cut 11 (fun a w => Slots a 90 [(0, p0), (1, p1), (2, (.int .i64 a2)), (3, (.int .i64 a3)), (9, (.int .i64 a0.1)), (10, v53), (12, (.int .i64 x186)), (13, (bp b299)), (71, (.bool t303))] ∧ Heap w0 [bA b299 [(.int .i64 x286.1), (.int .i64 x286.2.1), (.int .i64 x286.2.2)] 62, oA (rList rBool) v53 xs185] w) ?_ ?_
     ·by_cases hc305 : (x286.2.1 != a3) = true
      ·have hm := ite_t hc305 e304
       refine lx_skip S rfl rfl (isB_ne hc305) (by decide) (fun a S => ?_)
       refine lx_skip S rfl rfl (isB_ne hc305) (by decide) (fun a S => ?_)
       refine lx_skip S rfl rfl (isB_ne hc305) (by decide) (fun a S => ?_)
       refine lx_skip S rfl rfl (isB_ne hc305) (by decide) (fun a S => ?_)
       refine lx_skip S rfl rfl (isB_ne hc305) (by decide) (fun a S => ?_)
       refine lx_skip S rfl rfl (isB_ne hc305) (by decide) (fun a S => ?_)
       refine lx_skip S rfl rfl (isB_ne hc305) (by decide) (fun a S => ?_)
       refine lx_skip S rfl rfl (isB_ne hc305) (by decide) (fun a S => ?_)
       refine lx_skip S rfl rfl (isB_ne hc305) (by decide) (fun a S => ?_)
       refine lx_skip S rfl rfl (isB_ne hc305) (by decide) (fun a S => ?_)
       refine lq (.bool true) S (q_pickT' rfl hc305 rfl) fun a S => ?_
       refine lx_nil ?_
       obtain rfl := Option.some.inj hm
       exact ⟨S.sub ⟨rfl, rfl, rfl, rfl, rfl, rfl, rfl, rfl, rfl, trivial⟩, H⟩
      ·have hm := ite_f (eq_false_of_ne_true hc305) e304
       have hc305 : (x286.2.1 != a3) = false := eq_false_of_ne_true hc305
       refine lx_q p1 S (want_b rfl rfl hc305) (by decide) (q_move rfl) (fun a S => ?_)
       refine lx_q (.int .i64 a2) S (want_b rfl rfl hc305) (by decide) (q_move rfl) (fun a S => ?_)
       refine lx_q (.int .i64 a0.1) S (want_b rfl rfl hc305) (by decide) (q_move rfl) (fun a S => ?_)
       refine lx_q (.int .i64 (W (a2 * a0.1))) S (want_b rfl rfl hc305) (by decide) (q_mul rfl rfl) (fun a S => ?_)
       refine lx_q (pAdd (bp b299) 0) S (want_b rfl rfl hc305) (by decide) (q_fieldAddr' 0 2 rfl (isP_bp _) Tryz.underlying62 rfl Tryz.sizeOf2) (fun a S => ?_)
       refine lx_e (.int .i64 x286.1) S (want_b rfl rfl hc305) (by decide) rfl trivial (q_load1 rfl Tryz.isAgg2 (by rintro _ rfl; exact (At.of_add (m := 0) (j := 0) (boxAt (i := 0) H rfl (j := 0) rfl)))) (fun a S => ?_)
       refine lx_q (.int .i64 (W ((W (a2 * a0.1)) + x286.1))) S (want_b rfl rfl hc305) (by decide) (q_add rfl rfl) (fun a S => ?_)
       obtain ⟨x306, e307, hm⟩ := bind_some hm
       obtain ⟨c308, h309, hat310⟩ := (h1).elem (idx_some e307).2
       obtain rfl := h309
       have hlt := lt_of_idx (idx_some e307).2
       refine lx_q (ePtr p1 ((W ((W (a2 * a0.1)) + x286.1)).toNat * 1)) S (want_b rfl rfl hc305) (by decide) (q_indexAddr rfl (h1).isSl rfl (idx_some e307).1 hlt Tryz.underlying65 Tryz.sizeOf4) (fun a S => ?_)
       refine lx_e (.bool x306) S (want_b rfl rfl hc305) (by decide) rfl trivial (q_load1 rfl Tryz.isAgg4 (by rintro _ rfl; exact ((hat310 0 _ rfl).ext H.ext))) (fun a S => ?_)
       refine lx_q (.bool (!x306)) S (want_b rfl rfl hc305) (by decide) (q_not rfl) (fun a S => ?_)
       refine lq (.bool (!x306)) S (q_pickF' rfl hc305 rfl) fun a S => ?_
       refine lx_nil ?_
       obtain rfl := Option.some.inj hm
       exact ⟨S.sub ⟨rfl, rfl, rfl, rfl, rfl, rfl, rfl, rfl, rfl, trivial⟩, H⟩
     ·rintro a w ⟨S, H⟩
      refine lx_nil (thenN ?_)
      refine cond_b S rfl (fun hc311 => ?_) (fun hc311 => ?_)
      ·have hm := ite_t hc311 hm
       refine wp_exit ?_
       refine then_exit ?_
       refine inBlock_exit ?_
       have H : Heap w0 [oA (rList rBool) v53 xs185] w := H.sel [1] (by decide)
       exact ⟨xs185, S.sub ⟨rfl, rfl, rfl, rfl, rfl, rfl, rfl, trivial⟩, H, hm⟩
      ·have hm := ite_f hc311 hm
       refine wp_skip (thenN ?_)
       refine wp_seq (region_plain ?_)
       refine lq (.int .i64 (0 : Int)) S (q_assign rfl) fun a S => ?_
       refine lx_nil (thenN ?_)
       obtain ⟨res345, hit346, hk349⟩ := bind_some hm
       obtain ⟨f347, hf348, hit346⟩ := iter_name hit346
       refine block_loop (fun a w => ∃ (xs344 : List Bool), Slots a 90 [(0, p0), (1, p1), (2, (.int .i64 a2)), (3, (.int .i64 a3)), (9, (.int .i64 a0.1)), (10, v53), (12, (.int .i64 x186))] ∧ Heap w0 [oA (rList rBool) v53 xs344] w ∧ res345 = .inl (xs344)) ?_ ?_
       ·rintro a w ⟨xs344, S, H, rfl⟩
        have hm := ctl_inl hk349
        refine inBlock_norm ?_
        exact ⟨xs344, S.sub ⟨rfl, rfl, rfl, rfl, rfl, rfl, rfl, trivial⟩, H, hm⟩
       ·skip
        have H : Heap w0 [oA (rList rBool) v53 xs185, bA b299 [(.int .i64 x286.1), (.int .i64 x286.2.1), (.int .i64 x286.2.2)] 62] w := H.front 1 rfl
        refine loop_ghost (fun n a w => ∃ (xs327 : List Bool) (x328 : Int), Slots a 90 [(0, p0), (1, p1), (2, (.int .i64 a2)), (3, (.int .i64 a3)), (9, (.int .i64 a0.1)), (10, v53), (12, (.int .i64 x186)), (13, (bp b299)), (14, (.int .i64 x328))] ∧ Heap w0 [oA (rList rBool) v53 xs327, bA b299 [(.int .i64 x286.1), (.int .i64 x286.2.1), (.int .i64 x286.2.2)] 62] w ∧ iter f347 n (xs327, x328) = some res345) _ ⟨xs185, (0 : Int), S.sub ⟨rfl, rfl, rfl, rfl, rfl, rfl, rfl, rfl, rfl, trivial⟩, H, hit346⟩ ?_
        rintro n a w ⟨xs327, x328, S, H, hit346⟩
        obtain ⟨m350, o351, rfl, hm, hc352⟩ := iter_step hit346
        rw [hf348] at hm
        refine wp_seq (wp_seq (region_plain ?_))
        refine lq (.int .i64 x328) S (q_move rfl) fun a S => ?_
        refine lq (.int .i64 a0.1) S (q_move rfl) fun a S => ?_
        refine lq (.bool (decide (x328 < a0.1))) S (q_lss rfl rfl) fun a S => ?_
        refine lx_nil (thenN ?_)
        refine cond_b S rfl (fun hc353 => ?_) (fun hc353 => ?_)
        ·have hm := ite_t hc353 hm
         refine wp_skip (thenN ?_)
         obtain ⟨K355, hK356, hm⟩ := join_elim hm
         refine seq_cut (fun a w => ∃ (xs354 : List Bool), Slots a 90 [(0, p0), (1, p1), (2, (.int .i64 a2)), (3, (.int .i64 a3)), (9, (.int .i64 a0.1)), (10, v53), (12, (.int .i64 x186)), (13, (bp b299)), (14, (.int .i64 x328))] ∧ Heap w0 [oA (rList rBool) v53 xs354, bA b299 [(.int .i64 x286.1), (.int .i64 x286.2.1), (.int .i64 x286.2.2)] 62] w ∧ K355 xs354 = some o351) ?_ ?_
         ·rintro a w ⟨xs354, S, H, hm⟩
          subst hK356
          refine region_plain ?_
          refine lq (.int .i64 x328) S (q_move rfl) fun a S => ?_
          refine lq (.int .i64 (W (x328 + (1 : Int)))) S (q_add rfl rfl) fun a S => ?_
          refine lq (.int .i64 (W (x328 + (1 : Int)))) S (q_assign rfl) fun a S => ?_
          refine lx_nil ?_
          exact ⟨m350, Nat.lt_succ_self _, xs354, (W (x328 + (1 : Int))), S.sub ⟨rfl, rfl, rfl, rfl, rfl, rfl, rfl, rfl, rfl, trivial⟩, H, it_cont hm hc352⟩
         ·skip
          refine wp_block ?_
          refine wp_seq (region_plain ?_)
          refine lq p1 S (q_move rfl) fun a S => ?_
          refine lq (pAdd (bp b299) 2) S (q_fieldAddr' 2 2 rfl (isP_bp _) Tryz.underlying62 rfl Tryz.sizeOf2) fun a S => ?_
          refine lx_e (.int .i64 x286.2.2) S trivial (by decide) rfl trivial (q_load1 rfl Tryz.isAgg2 (by rintro _ rfl; exact (At.of_add (m := 2) (j := 0) (boxAt (i := 1) H rfl (j := 2) rfl)))) (fun a S => ?_)
          refine lq (.int .i64 a0.1) S (q_move rfl) fun a S => ?_
          refine lq (.int .i64 (W (x286.2.2 * a0.1))) S (q_mul rfl rfl) fun a S => ?_
          refine lq (.int .i64 x328) S (q_move rfl) fun a S => ?_
          refine lq (.int .i64 (W ((W (x286.2.2 * a0.1)) + x328))) S (q_add rfl rfl) fun a S => ?_
          obtain ⟨x357, e358, hm⟩ := bind_some hm
          obtain ⟨c359, h360, hat361⟩ := (h1).elem (idx_some e358).2
          obtain rfl := h360
          have hlt := lt_of_idx (idx_some e358).2
          refine lq (ePtr p1 ((W ((W (x286.2.2 * a0.1)) + x328)).toNat * 1)) S (q_indexAddr rfl (h1).isSl rfl (idx_some e358).1 hlt Tryz.underlying65 Tryz.sizeOf4) fun a S => ?_
          refine lx_e (.bool x357) S trivial (by decide) rfl trivial (q_load1 rfl Tryz.isAgg4 (by rintro _ rfl; exact ((hat361 0 _ rfl).ext H.ext))) (fun a S => ?_)
          refine lx_nil (thenN ?_)
          refine cond_b S rfl (fun hc362 => ?_) (fun hc362 => ?_)
          ·have hm := ite_t hc362 hm
           refine region_plain ?_
           refine lq v53 S (q_move rfl) fun a S => ?_
           refine lq (.int .i64 x328) S (q_move rfl) fun a S => ?_
           obtain ⟨x363, e364, hm⟩ := bind_some hm
           have hlt := lt_of_idx (idx_some e364).2
           refine lq (ePtr v53 (x328.toNat * 1)) S (q_indexAddr rfl (H.isSl 0 rfl) rfl (idx_some e364).1 hlt Tryz.underlying65 Tryz.sizeOf4) fun a S => ?_
           refine lx_storeElem (r := rBool) (us := [(.bool true)]) (off := 0) (e' := true) S trivial rfl H.putE (ev_zero rfl) rfl (idx_some e364).2 rfl Tryz.sizeOf4 (Nat.le_of_ble_eq_true rfl) (List.forall_mem_cons.2 ⟨rfl, (fun _ h => nomatch h)⟩) (Upd.full rfl (fun w G hG => by cases (show G = [] from hG); exact ⟨rfl, rfl⟩)) (fun w365 H => ⟨trivial, fun a S => ?_⟩)
           refine lx_nil ?_
           refine inBlock_norm ?_
           exact ⟨(xs327.set x328.toNat true), S.sub ⟨rfl, rfl, rfl, rfl, rfl, rfl, rfl, rfl, rfl, trivial⟩, H, hm⟩
          ·have hm := ite_f hc362 hm
           refine wp_skip ?_
           refine inBlock_norm ?_
           exact ⟨xs327, S.sub ⟨rfl, rfl, rfl, rfl, rfl, rfl, rfl, rfl, rfl, trivial⟩, H, hm⟩
        ·have hm := ite_f hc353 hm
         refine wp_exit ?_
         refine then_exit ?_
         refine then_exit ?_
         refine inBlock_exit ?_
         obtain rfl := it_brk hm hc352
         have H : Heap w0 [oA (rList rBool) v53 xs327] w := H.sel [0] (by decide)
         exact ⟨xs327, S.sub ⟨rfl, rfl, rfl, rfl, rfl, rfl, rfl, trivial⟩, H, rfl⟩
   ·have hm := ite_f hc282 hm
    refine wp_exit ?_
    refine then_exit ?_
    refine then_exit ?_
    refine inBlock_exit ?_
    obtain rfl := it_brk hm hc281
    exact ⟨xs185, S.sub ⟨rfl, trivial⟩, H, rfl⟩

/-- spec.l16Saturate -/
def spec_l16Saturate_m (fuel : Nat) (a0 : Timpl_Lts) : Option (Timpl_Lts) :=
  join (κ := Int → Int → List Str → List Timpl_Edge → Option Timpl_Lts) (fun (x55 : Int) (x56 : Int) (xs58 : List Str) (xs61 : List Timpl_Edge) => (spec_l16Still_m fuel a0).bind fun x67 => (iter (fun (s : (List Timpl_Edge) × (Int)) => (match s with | (xs383, x385) => (if (decide (x385 < a0.1)) = true then (iter (fun (s : (List Timpl_Edge) × (Int)) => (match s with | (xs808, x810) => (if (decide (x810 < (a0.2.2.1.length : Int))) = true then (spec_l16Step_m fuel a0 x67 x385 x810).bind fun x923 => (iter (fun (s : (List Timpl_Edge) × (Int)) => (match s with | (xs954, x956) => (if (decide (x956 < a0.1)) = true then join (κ := List Timpl_Edge → Option (((List Timpl_Edge) × (Int)) ⊕ (((List Timpl_Edge)) ⊕ (Timpl_Lts)))) (fun (xs995 : List Timpl_Edge) => some (.inl (xs995, (W (x956 + (1 : Int)))))) (fun K997 => (idx x923 x956).bind fun x999 => (if x999 = true then (app xs954 [(x385, x810, x956)]).bind fun x1008 => (K997 x1008) else (K997 xs954))) else some (.inr (.inl (xs954)))) : Option (((List Timpl_Edge) × (Int)) ⊕ (((List Timpl_Edge)) ⊕ (Timpl_Lts))))) fuel (xs808, (0 : Int))).bind fun res985 => ctl (β := (List Timpl_Edge)) (ρ := Timpl_Lts) (τ := (((List Timpl_Edge) × (Int)) ⊕ (((List Timpl_Edge)) ⊕ (Timpl_Lts)))) res985 (fun (xs983) => some (.inl (xs983, (W (x810 + (1 : Int)))))) (fun q => some (.inr (.inr q))) else some (.inr (.inl (xs808)))) : Option (((List Timpl_Edge) × (Int)) ⊕ (((List Timpl_Edge)) ⊕ (Timpl_Lts))))) fuel (xs383, (0 : Int))).bind fun res912 => ctl (β := (List Timpl_Edge)) (ρ := Timpl_Lts) (τ := (((List Timpl_Edge) × (Int)) ⊕ (((List Timpl_Edge)) ⊕ (Timpl_Lts)))) res912 (fun (xs910) => some (.inl (xs910, (W (x385 + (1 : Int)))))) (fun q => some (.inr (.inr q))) else some (.inr (.inl (xs383)))) : Option (((List Timpl_Edge) × (Int)) ⊕ (((List Timpl_Edge)) ⊕ (Timpl_Lts))))) fuel (xs61, (0 : Int))).bind fun res699 => ctl (β := (List Timpl_Edge)) (ρ := Timpl_Lts) (τ := Timpl_Lts) res699 (fun (xs697) => some ((x55, x56, xs58, xs697))) (fun q => some (q))) (fun K63 => (app ([] : List Str) a0.2.2.1).bind fun x1019 => (K63 a0.1 a0.2.1 x1019 ([] : List Timpl_Edge)))
set_option maxRecDepth 20000 in
theorem spec_l16Saturate_ok {w0 : World} {fuel : Nat} {p0 : Value} {a0 : Timpl_Lts} {r : Timpl_Lts} (h0 : Rd (rPtr Rimpl_Lts) w0 p0 a0) (hm : spec_l16Saturate_m fuel a0 = some r) :
  Calls Tryz.prog 20 #[p0] w0 fun e w => ∃ (v0 : Value) (v1 : Value), e = .returned (.agg #[.int .i64 r.1, .int .i64 r.2.1, v0, v1]) ∧ Heap w0 [oA (rList rStr) v0 r.2.2.1, oA (rList Rimpl_Edge) v1 r.2.2.2] w := by
 unfold spec_l16Saturate_m at hm
 have H := Heap.start w0
 obtain ⟨c31, h32, hat33⟩ := h0.ptr
 obtain ⟨c38, c39, rfl, h40, h41⟩ := h32
 obtain rfl := h40
 obtain ⟨c42, c43, rfl, h44, h45⟩ := h41
 obtain rfl := h44
 obtain ⟨c46, c47, rfl, h48, h49⟩ := h45
 obtain ⟨v34, rfl, h35⟩ := rd_list h48
 obtain ⟨v36, rfl, h37⟩ := rd_list h49
 refine enter (args := [p0]) Tryz.func20 rfl 71 rfl (Nat.le_of_ble_eq_true rfl) (fun a S => ?_)
 refine wp_seq (region_plain ?_)
 refine lx_alloc S trivial (by decide) rfl H Tryz.zeroValue29 rfl (fun b50 w51 H => ⟨trivial, fun a S => ?_⟩)
 refine lx_nil (thenN ?_)
 obtain ⟨K63, hK64, hm⟩ := join_elim hm
 refine seq_cut (fun a w => ∃ (x55 : Int) (x56 : Int) (xs58 : List Str) (xs61 : List Timpl_Edge) (b53 : Nat) (v57 : Value) (v60 : Value), Slots a 71 [(0, p0), (2, (bp b50)), (3, (bp b53))] ∧ Heap w0 [bA b50 [(.int .i64 (0 : Int)), (.int .i64 (0 : Int)), (.slice none 0 0), (.slice none 0 0)] 29, bA b53 [(.int .i64 x55), (.int .i64 x56), v57, v60] 29, oA (rList rStr) v57 xs58, oA (rList Rimpl_Edge) v60 xs61] w ∧ K63 x55 x56 xs58 xs61 = some r) ?_ ?_
 ·rintro a w ⟨x55, x56, xs58, xs61, b53, v57, v60, S, H, hm⟩
  subst hK64
  refine wp_seq (region_plain ?_)
  refine lq p0 S (q_move rfl) fun a S => ?_
  obtain ⟨x67, e68, hm⟩ := bind_some hm
  refine lx_call (xs := [.tmp 25]) S trivial (by decide) rfl rfl Tryz.call40 ((spec_l16Still_ok (H.arg h0) e68).mono ?_)
  rintro e w65 ⟨v69, rfl, Hc66⟩
  have H := H.call1 Hc66
  refine ⟨_, rfl, trivial, fun a S => ?_⟩
  refine lq v69 S (q_assign rfl) fun a S => ?_
  refine lx_nil (thenN ?_)
  refine wp_seq (wp_seq (region_plain ?_))
  refine lq (.int .i64 (0 : Int)) S (q_assign rfl) fun a S => ?_
  refine lx_nil (thenN ?_)
  obtain ⟨res699, hit700, hk703⟩ := bind_some hm
  obtain ⟨f701, hf702, hit700⟩ := iter_name hit700
  refine block_loop (fun a w => ∃ (xs697 : List Timpl_Edge) (v696 : Value), Slots a 71 [(2, (bp b50)), (3, (bp b53))] ∧ Heap w0 [bA b50 [(.int .i64 (0 : Int)), (.int .i64 (0 : Int)), (.slice none 0 0), (.slice none 0 0)] 29, bA b53 [(.int .i64 x55), (.int .i64 x56), v57, v696] 29, oA (rList rStr) v57 xs58, oA (rList Rimpl_Edge) v696 xs697] w ∧ res699 = .inl (xs697)) ?_ ?_
  ·rintro a w ⟨xs697, v696, S, H, rfl⟩
   have hm := ctl_inl hk703
   refine thenN ?_
   refine wp_seq (region_plain ?_)
   refine lx_e (.agg #[(.int .i64 x55), (.int .i64 x56), v57, v696]) S trivial (by decide) rfl trivial (q_loadA (cs := [(.int .i64 x55), (.int .i64 x56), v57, v696]) rfl (isP_bp _) Tryz.isAgg29 Tryz.sizeOf29 (by rintro _ rfl; exact (fun j u hu => boxAt (i := 1) H rfl hu))) (fun a S => ?_)
   refine lx_storeBox (o := 0) (i := 0) (us := [(.int .i64 x55), (.int .i64 x56), v57, v696]) (cs' := [(.int .i64 x55), (.int .i64 x56), v57, v696]) S trivial rfl H rfl rfl rfl rfl Tryz.sizeOf29 (Nat.le_of_ble_eq_true rfl) (List.forall_mem_cons.2 ⟨rfl, (List.forall_mem_cons.2 ⟨rfl, (List.forall_mem_cons.2 ⟨one_sl (H.isSl 2 rfl), (List.forall_mem_cons.2 ⟨one_sl (H.isSl 3 rfl), (fun _ h => nomatch h)⟩)⟩)⟩)⟩) rfl (fun w704 H => ⟨trivial, fun a S => ?_⟩)
   change Heap w0 [bA b50 [(.int .i64 x55), (.int .i64 x56), v57, v696] 29, bA b53 [(.int .i64 x55), (.int .i64 x56), v57, v696] 29, oA (rList rStr) v57 xs58, oA (rList Rimpl_Edge) v696 xs697] w704 at H
   refine lx_nil (thenN ?_)
   refine wp_ret ?_
   have hrv0 := RV.cellA (t := 29) (q := 2) (env := [(2, (bp b50)), (3, (bp b53)), (70, (.agg #[(.int .i64 x55), (.int .i64 x56), v57, v696]))]) H (i := 0) rfl rfl Tryz.isAgg29 Tryz.sizeOf29
   obtain rfl := Option.some.inj hm
   have H : Heap w0 [oA (rList rStr) v57 xs58, oA (rList Rimpl_Edge) v696 xs697] w704 := H.sel [2, 3] (by decide)
   exact leaveR1 S rfl hrv0 ⟨v57, v696, rfl, H⟩
  ·skip
   have H : Heap w0 [oA (rList Rimpl_Edge) v60 xs61, oA (rList rBool) v69 x67, bA b50 [(.int .i64 (0 : Int)), (.int .i64 (0 : Int)), (.slice none 0 0), (.slice none 0 0)] 29, bA b53 [(.int .i64 x55), (.int .i64 x56), v57, v60] 29, oA (rList rStr) v57 xs58] w65 := H.front 4 rfl
   have H : Heap w0 [oA (rList rStr) v57 xs58, oA (rList Rimpl_Edge) v60 xs61, oA (rList rBool) v69 x67, bA b50 [(.int .i64 (0 : Int)), (.int .i64 (0 : Int)), (.slice none 0 0), (.slice none 0 0)] 29, bA b53 [(.int .i64 x55), (.int .i64 x56), v57, v60] 29] w65 := H.front 4 rfl
   have H : Heap w0 [bA b53 [(.int .i64 x55), (.int .i64 x56), v57, v60] 29, oA (rList rStr) v57 xs58, oA (rList Rimpl_Edge) v60 xs61, oA (rList rBool) v69 x67, bA b50 [(.int .i64 (0 : Int)), (.int .i64 (0 : Int)), (.slice none 0 0), (.slice none 0 0)] 29] w65 := H.front 4 rfl
   have H : Heap w0 [bA b50 [(.int .i64 (0 : Int)), (.int .i64 (0 : Int)), (.slice none 0 0), (.slice none 0 0)] 29, bA b53 [(.int .i64 x55), (.int .i64 x56), v57, v60] 29, oA (rList rStr) v57 xs58, oA (rList Rimpl_Edge) v60 xs61, oA (rList rBool) v69 x67] w65 := H.front 4 rfl
   refine loop_ghost (fun n a w => ∃ (xs383 : List Timpl_Edge) (x385 : Int) (v382 : Value), Slots a 71 [(0, p0), (2, (bp b50)), (3, (bp b53)), (4, v69), (5, (.int .i64 x385))] ∧ Heap w0 [bA b50 [(.int .i64 (0 : Int)), (.int .i64 (0 : Int)), (.slice none 0 0), (.slice none 0 0)] 29, bA b53 [(.int .i64 x55), (.int .i64 x56), v57, v382] 29, oA (rList rStr) v57 xs58, oA (rList Rimpl_Edge) v382 xs383, oA (rList rBool) v69 x67] w ∧ iter f701 n (xs383, x385) = some res699) _ ⟨xs61, (0 : Int), v60, S.sub ⟨rfl, rfl, rfl, rfl, rfl, trivial⟩, H, hit700⟩ ?_
   rintro n a w ⟨xs383, x385, v382, S, H, hit700⟩
   obtain ⟨m705, o706, rfl, hm, hc707⟩ := iter_step hit700
   rw [hf702] at hm
   refine wp_seq (wp_seq (region_plain ?_))
   refine lq (.int .i64 x385) S (q_move rfl) fun a S => ?_
   refine lq p0 S (q_move rfl) fun a S => ?_
   refine lq p0 S (q_nilCheck rfl ((hat33 0 _ rfl).isP)) fun a S => ?_
   refine lq (pAdd p0 0) S (q_fieldAddr' 0 2 rfl ((hat33 0 _ rfl).isP) Tryz.underlying29 rfl Tryz.sizeOf2) fun a S => ?_
   refine lx_e (.int .i64 a0.1) S trivial (by decide) rfl trivial (q_load1 rfl Tryz.isAgg2 (by rintro _ rfl; exact (At.of_add (m := 0) (j := 0) ((hat33 0 _ rfl).ext H.ext)))) (fun a S => ?_)
   refine lq (.bool (decide (x385 < a0.1))) S (q_lss rfl rfl) fun a S => ?_
   refine lx_nil (thenN ?_)
   refine cond_b S rfl (fun hc708 => ?_) (fun hc708 => ?_)
   ·have hm := ite_t hc708 hm
    refine wp_skip (thenN ?_)
    refine wp_seq ?_
    refine wp_block ?_
    refine wp_seq (region_plain ?_)
    refine lq (.int .i64 (0 : Int)) S (q_assign rfl) fun a S => ?_
    refine lx_nil (thenN ?_)
    obtain ⟨res912, hit913, hk916⟩ := bind_some hm
    obtain ⟨f914, hf915, hit913⟩ := iter_name hit913
    refine block_loop (fun a w => ∃ (xs910 : List Timpl_Edge) (v909 : Value), Slots a 71 [(0, p0), (2, (bp b50)), (3, (bp b53)), (4, v69), (5, (.int .i64 x385))] ∧ Heap w0 [bA b50 [(.int .i64 (0 : Int)), (.int .i64 (0 : Int)), (.slice none 0 0), (.slice none 0 0)] 29, bA b53 [(.int .i64 x55), (.int .i64 x56), v57, v909] 29, oA (rList rStr) v57 xs58, oA (rList Rimpl_Edge) v909 xs910, oA (rList rBool) v69 x67] w ∧ res912 = .inl (xs910)) ?_ ?_
    ·rintro a w ⟨xs910, v909, S, H, rfl⟩
     have hm := ctl_inl hk916
     refine inBlock_norm ?_
     refine thenN ?_
     refine region_plain ?_
     refine lq (.int .i64 x385) S (q_move rfl) fun a S => ?_
     refine lq (.int .i64 (W (x385 + (1 : Int)))) S (q_add rfl rfl) fun a S => ?_
     refine lq (.int .i64 (W (x385 + (1 : Int)))) S (q_assign rfl) fun a S => ?_
     refine lx_nil ?_
     exact ⟨m705, Nat.lt_succ_self _, xs910, (W (x385 + (1 : Int))), v909, S.sub ⟨rfl, rfl, rfl, rfl, rfl, trivial⟩, H, it_cont hm hc707⟩
    ·skip
     refine loop_ghost (fun n a w => ∃ (xs808 : List Timpl_Edge) (x810 : Int) (v807 : Value), Slots a 71 [(0, p0), (2, (bp b50)), (3, (bp b53)), (4, v69), (5, (.int .i64 x385)), (6, (.int .i64 x810))] ∧ Heap w0 [bA b50 [(.int .i64 (0 : Int)), (.int .i64 (0 : Int)), (.slice none 0 0), (.slice none 0 0)] 29, bA b53 [(.int .i64 x55), (.int .i64 x56), v57, v807] 29, oA (rList rStr) v57 xs58, oA (rList Rimpl_Edge) v807 xs808, oA (rList rBool) v69 x67] w ∧ iter f914 n (xs808, x810) = some res912) _ ⟨xs383, (0 : Int), v382, S.sub ⟨rfl, rfl, rfl, rfl, rfl, rfl, trivial⟩, H, hit913⟩ ?_
     rintro n a w ⟨xs808, x810, v807, S, H, hit913⟩
     obtain ⟨m917, o918, rfl, hm, hc919⟩ := iter_step hit913
     rw [hf915] at hm
     refine wp_seq (wp_seq (region_plain ?_))
     refine lq (.int .i64 x810) S (q_move rfl) fun a S => ?_
     refine lq p0 S (q_move rfl) fun a S => ?_
     refine lq p0 S (q_nilCheck rfl ((hat33 0 _ rfl).isP)) fun a S => ?_
     refine lq (pAdd p0 2) S (q_fieldAddr' 2 22 rfl ((hat33 0 _ rfl).isP) Tryz.underlying29 rfl Tryz.sizeOf22) fun a S => ?_
     refine lx_e v34 S trivial (by decide) rfl trivial (q_load1 rfl Tryz.isAgg22 (by rintro _ rfl; exact (At.of_add (m := 2) (j := 0) ((hat33 2 _ rfl).ext H.ext)))) (fun a S => ?_)
     refine lq (.int .i64 (a0.2.2.1.length : Int)) S (q_lenSl rfl (h35).isSl rfl Tryz.underlying22) fun a S => ?_
     refine lq (.bool (decide (x810 < (a0.2.2.1.length : Int)))) S (q_lss rfl rfl) fun a S => ?_
     refine lx_nil (thenN ?_)
     refine cond_b S rfl (fun hc920 => ?_) (fun hc920 => ?_)
     ·have hm := ite_t hc920 hm
      refine wp_skip (thenN ?_)
      refine wp_seq ?_
      refine wp_block ?_
      refine wp_seq (region_plain ?_)
      refine lq p0 S (q_move rfl) fun a S => ?_
      refine lq v69 S (q_move rfl) fun a S => ?_
      refine lq (.int .i64 x385) S (q_move rfl) fun a S => ?_
      refine lq (.int .i64 x810) S (q_move rfl) fun a S => ?_
      obtain ⟨x923, e924, hm⟩ := bind_some hm
      refine lx_call (xs := [.tmp 44, .tmp 45, .tmp 46, .tmp 47]) S trivial (by decide) rfl rfl Tryz.call41 ((spec_l16Step_ok (H.arg h0) (H.rdAt 4 rfl)   e924).mono ?_)
      rintro e w921 ⟨v925, rfl, Hc922⟩
      have H := H.call1 Hc922
      refine ⟨_, rfl, trivial, fun a S => ?_⟩
      refine lq v925 S (q_assign rfl) fun a S => ?_
      refine lx_nil (thenN ?_)
      refine wp_seq (region_plain ?_)
      refine lq (.int .i64 (0 : Int)) S (q_assign rfl) fun a S => ?_
      refine lx_nil (thenN ?_)
      obtain ⟨res985, hit986, hk989⟩ := bind_some hm
      obtain ⟨f987, hf988, hit986⟩ := iter_name hit986
      refine block_loop (fun a w => ∃ (xs983 : List Timpl_Edge) (v982 : Value), Slots a 71 [(0, p0), (2, (bp b50)), (3, (bp b53)), (4, v69), (5, (.int .i64 x385)), (6, (.int .i64 x810))] ∧ Heap w0 [bA b50 [(.int .i64 (0 : Int)), (.int .i64 (0 : Int)), (.slice none 0 0), (.slice none 0 0)] 29, bA b53 [(.int .i64 x55), (.int .i64 x56), v57, v982] 29, oA (rList rStr) v57 xs58, oA (rList Rimpl_Edge) v982 xs983, oA (rList rBool) v69 x67] w ∧ res985 = .inl (xs983)) ?_ ?_
      ·rintro a w ⟨xs983, v982, S, H, rfl⟩
       have hm := ctl_inl hk989
       refine inBlock_norm ?_
       refine thenN ?_
       refine region_plain ?_
       refine lq (.int .i64 x810) S (q_move rfl) fun a S => ?_
       refine lq (.int .i64 (W (x810 + (1 : Int)))) S (q_add rfl rfl) fun a S => ?_
       refine lq (.int .i64 (W (x810 + (1 : Int)))) S (q_assign rfl) fun a S => ?_
       refine lx_nil ?_
       exact ⟨m917, Nat.lt_succ_self _, xs983, (W (x810 + (1 : Int))), v982, S.sub ⟨rfl, rfl, rfl, rfl, rfl, rfl, trivial⟩, H, it_cont hm hc919⟩
      ·skip
       have H : Heap w0 [oA (rList rBool) v69 x67, oA (rList rBool) v925 x923, bA b50 [(.int .i64 (0 : Int)), (.int .i64 (0 : Int)), (.slice none 0 0), (.slice none 0 0)] 29, bA b53 [(.int .i64 x55), (.int .i64 x56), v57, v807] 29, oA (rList rStr) v57 xs58, oA (rList Rimpl_Edge) v807 xs808] w921 := H.front 5 rfl
       have H : Heap w0 [oA (rList Rimpl_Edge) v807 xs808, oA (rList rBool) v69 x67, oA (rList rBool) v925 x923, bA b50 [(.int .i64 (0 : Int)), (.int .i64 (0 : Int)), (.slice none 0 0), (.slice none 0 0)] 29, bA b53 [(.int .i64 x55), (.int .i64 x56), v57, v807] 29, oA (rList rStr) v57 xs58] w921 := H.front 5 rfl
       have H : Heap w0 [oA (rList rStr) v57 xs58, oA (rList Rimpl_Edge) v807 xs808, oA (rList rBool) v69 x67, oA (rList rBool) v925 x923, bA b50 [(.int .i64 (0 : Int)), (.int .i64 (0 : Int)), (.slice none 0 0), (.slice none 0 0)] 29, bA b53 [(.int .i64 x55), (.int .i64 x56), v57, v807] 29] w921 := H.front 5 rfl
       have H : Heap w0 [bA b53 [(.int .i64 x55), (.int .i64 x56), v57, v807] 29, oA (rList rStr) v57 xs58, oA (rList Rimpl_Edge) v807 xs808, oA (rList rBool) v69 x67, oA (rList rBool) v925 x923, bA b50 [(.int .i64 (0 : Int)), (.int .i64 (0 : Int)), (.slice none 0 0), (.slice none 0 0)] 29] w921 := H.front 5 rfl
       have H : Heap w0 [bA b50 [(.int .i64 (0 : Int)), (.int .i64 (0 : Int)), (.slice none 0 0), (.slice none 0 0)] 29, bA b53 [(.int .i64 x55), (.int .i64 x56), v57, v807] 29, oA (rList rStr) v57 xs58, oA (rList Rimpl_Edge) v807 xs808, oA (rList rBool) v69 x67, oA (rList rBool) v925 x923] w921 := H.front 5 rfl
       refine loop_ghost (fun n a w => ∃ (xs954 : List Timpl_Edge) (x956 : Int) (v953 : Value), Slots a 71 [(0, p0), (2, (bp b50)), (3, (bp b53)), (4, v69), (5, (.int .i64 x385)), (6, (.int .i64 x810)), (7, v925), (8, (.int .i64 x956))] ∧ Heap w0 [bA b50 [(.int .i64 (0 : Int)), (.int .i64 (0 : Int)), (.slice none 0 0), (.slice none 0 0)] 29, bA b53 [(.int .i64 x55), (.int .i64 x56), v57, v953] 29, oA (rList rStr) v57 xs58, oA (rList Rimpl_Edge) v953 xs954, oA (rList rBool) v69 x67, oA (rList rBool) v925 x923] w ∧ iter f987 n (xs954, x956) = some res985) _ ⟨xs808, (0 : Int), v807, S.sub ⟨rfl, rfl, rfl, rfl, rfl, rfl, rfl, rfl, trivial⟩, H, hit986⟩ ?_
       rintro n a w ⟨xs954, x956, v953, S, H, hit986⟩
       obtain ⟨m990, o991, rfl, hm, hc992⟩ := iter_step hit986
       rw [hf988] at hm
       refine wp_seq (wp_seq (region_plain ?_))
       refine lq (.int .i64 x956) S (q_move rfl) fun a S => ?_
       refine lq p0 S (q_move rfl) fun a S => ?_
       refine lq p0 S (q_nilCheck rfl ((hat33 0 _ rfl).isP)) fun a S => ?_
       refine lq (pAdd p0 0) S (q_fieldAddr' 0 2 rfl ((hat33 0 _ rfl).isP) Tryz.underlying29 rfl Tryz.sizeOf2) fun a S => ?_
       refine lx_e (.int .i64 a0.1) S trivial (by decide) rfl trivial (q_load1 rfl Tryz.isAgg2 (by rintro _ rfl; exact (At.of_add (m := 0) (j := 0) ((hat33 0 _ rfl).ext H.ext)))) (fun a S => ?_)
       refine lq (.bool (decide (x956 < a0.1))) S (q_lss rfl rfl) fun a S => ?_
       refine lx_nil (thenN ?_)
       refine cond_b S rfl (fun hc993 => ?_) (fun hc993 => ?_)
       ·have hm := ite_t hc993 hm
        refine wp_skip (thenN ?_)
        obtain ⟨K997, hK998, hm⟩ := join_elim hm
        refine seq_cut (fun a w => ∃ (xs995 : List Timpl_Edge) (v994 : Value), Slots a 71 [(0, p0), (2, (bp b50)), (3, (bp b53)), (4, v69), (5, (.int .i64 x385)), (6, (.int .i64 x810)), (7, v925), (8, (.int .i64 x956))] ∧ Heap w0 [bA b50 [(.int .i64 (0 : Int)), (.int .i64 (0 : Int)), (.slice none 0 0), (.slice none 0 0)] 29, bA b53 [(.int .i64 x55), (.int .i64 x56), v57, v994] 29, oA (rList rStr) v57 xs58, oA (rList Rimpl_Edge) v994 xs995, oA (rList rBool) v69 x67, oA (rList rBool) v925 x923] w ∧ K997 xs995 = some o991) ?_ ?_
        ·rintro a w ⟨xs995, v994, S, H, hm⟩
         subst hK998
         refine region_plain ?_
         refine lq (.int .i64 x956) S (q_move rfl) fun a S => ?_
         refine lq (.int .i64 (W (x956 + (1 : Int)))) S (q_add rfl rfl) fun a S => ?_
         refine lq (.int .i64 (W (x956 + (1 : Int)))) S (q_assign rfl) fun a S => ?_
         refine lx_nil ?_
         exact ⟨m990, Nat.lt_succ_self _, xs995, (W (x956 + (1 : Int))), v994, S.sub ⟨rfl, rfl, rfl, rfl, rfl, rfl, rfl, rfl, trivial⟩, H, it_cont hm hc992⟩
        ·skip
         refine wp_block ?_
         refine wp_seq (region_plain ?_)
         refine lq v925 S (q_move rfl) fun a S => ?_
         refine lq (.int .i64 x956) S (q_move rfl) fun a S => ?_
         obtain ⟨x999, e1000, hm⟩ := bind_some hm
         have hlt := lt_of_idx (idx_some e1000).2
         refine lq (ePtr v925 (x956.toNat * 1)) S (q_indexAddr rfl (H.isSl 5 rfl) rfl (idx_some e1000).1 hlt Tryz.underlying65 Tryz.sizeOf4) fun a S => ?_
         obtain ⟨c1001, h1002, hat1003⟩ := (H.rdAt 5 rfl).elem (idx_some e1000).2
         obtain rfl := h1002
         refine lx_e (.bool x999) S trivial (by decide) rfl trivial (q_load1 rfl Tryz.isAgg4 (by rintro _ rfl; exact (hat1003 0 _ rfl))) (fun a S => ?_)
         refine lx_nil (thenN ?_)
         refine cond_b S rfl (fun hc1004 => ?_) (fun hc1004 => ?_)
         ·have hm := ite_t hc1004 hm
          refine region_plain ?_
          refine lq (pAdd (bp b53) 3) S (q_fieldAddr' 3 27 rfl (isP_bp _) Tryz.underlying29 rfl Tryz.sizeOf27) fun a S => ?_
          refine lx_e v953 S trivial (by decide) rfl trivial (q_load1 rfl Tryz.isAgg27 (by rintro _ rfl; exact (At.of_add (m := 3) (j := 0) (boxAt (i := 1) H rfl (j := 3) rfl)))) (fun a S => ?_)
          refine lq (.int .i64 x385) S (q_move rfl) fun a S => ?_
          refine lq (.int .i64 x810) S (q_move rfl) fun a S => ?_
          refine lq (.int .i64 x956) S (q_move rfl) fun a S => ?_
          refine lq (.agg #[(.int .i64 x385), (.int .i64 x810), (.int .i64 x956)]) S (q_build (zs := [(.int .i64 (0 : Int)), (.int .i64 (0 : Int)), (.int .i64 (0 : Int))]) (szs := [1, 1, 1]) (ps := [(0, [(.int .i64 x385)]), (1, [(.int .i64 x810)]), (2, [(.int .i64 x956)])]) (parts := [(0, .tmp 63), (1, .tmp 64), (2, .tmp 65)]) rfl Tryz.underlying62 Tryz.zeroValue62 (fun w => by simp [Tryz.sizeOf2]) ⟨rfl, rfl, Nat.le_of_ble_eq_true rfl, ⟨rfl, rfl, Nat.le_of_ble_eq_true rfl, ⟨rfl, rfl, Nat.le_of_ble_eq_true rfl, trivial⟩⟩⟩ rfl) fun a S => ?_
          refine lx_buildSlice (r := Rimpl_Edge) (xs := [(x385, x810, x956)]) (ps := [(0, [(.int .i64 x385), (.int .i64 x810), (.int .i64 x956)])]) (cs := [(.int .i64 x385), (.int .i64 x810), (.int .i64 x956)]) (parts := [(0, .tmp 66)]) S trivial (by decide) rfl (H.put0 (A := eA) rfl) rfl Tryz.underlying27 Tryz.sizeOf62 Tryz.zeroValue62 (by decide) ⟨rfl, rfl, Nat.le_of_ble_eq_true rfl, trivial⟩ (by intro zs hz; exact fill_dense hz ⟨rfl, trivial⟩ rfl rfl) rfl (by decide) (fun w F hA => by cases (show F = [] from hA); exact ⟨_, _, [(.int .i64 x385), (.int .i64 x810), (.int .i64 x956)], _, rfl, rfl, ⟨_, _, [(.int .i64 x385)], [(.int .i64 x810), (.int .i64 x956)], rfl, rfl, ⟨rfl, rfl⟩, ⟨_, _, [(.int .i64 x810)], [(.int .i64 x956)], rfl, rfl, ⟨rfl, rfl⟩, ⟨rfl, rfl⟩⟩⟩, ⟨rfl, rfl⟩⟩) (fun v1005 w1006 H => ⟨trivial, fun a S => ?_⟩)
          obtain ⟨x1008, e1009, hm⟩ := bind_some hm
          obtain ⟨hle, hap⟩ := app_some e1009
          replace hap := hap.symm
          subst hap
          have H : Heap w0 [oA (rList Rimpl_Edge) v1005 [(x385, x810, x956)], bA b50 [(.int .i64 (0 : Int)), (.int .i64 (0 : Int)), (.slice none 0 0), (.slice none 0 0)] 29, bA b53 [(.int .i64 x55), (.int .i64 x56), v57, v953] 29, oA (rList rStr) v57 xs58, oA (rList Rimpl_Edge) v953 xs954, oA (rList rBool) v69 x67, oA (rList rBool) v925 x923] w1006 := H.front 0 rfl
          have H : Heap w0 [oA (rList Rimpl_Edge) v953 xs954, oA (rList Rimpl_Edge) v1005 [(x385, x810, x956)], bA b50 [(.int .i64 (0 : Int)), (.int .i64 (0 : Int)), (.slice none 0 0), (.slice none 0 0)] 29, bA b53 [(.int .i64 x55), (.int .i64 x56), v57, v953] 29, oA (rList rStr) v57 xs58, oA (rList rBool) v69 x67, oA (rList rBool) v925 x923] w1006 := H.front 4 rfl
          refine lx_appendOwn (r := Rimpl_Edge) S trivial (by decide) rfl H rfl rfl Tryz.underlying27 Tryz.ti62 rfl rfl rfl (by decide) (by decide) hle (fun v1010 w1011 H => ⟨trivial, fun a S => ?_⟩)
          refine lq (pAdd (bp b53) 3) S (q_fieldAddr' 3 27 rfl (isP_bp _) Tryz.underlying29 rfl Tryz.sizeOf27) fun a S => ?_
          refine lx_storeBox (o := 3) (i := 2) (us := [v1010]) (cs' := [(.int .i64 x55), (.int .i64 x56), v57, v1010]) S trivial rfl H rfl rfl rfl (cells_sl (H.isSl 0 rfl)) Tryz.sizeOf27 (Nat.le_of_ble_eq_true rfl) (List.forall_mem_cons.2 ⟨one_sl (H.isSl 0 rfl), (fun _ h => nomatch h)⟩) rfl (fun w1013 H => ⟨trivial, fun a S => ?_⟩)
          change Heap w0 [oA (rList Rimpl_Edge) v1010 (xs954 ++ [(x385, x810, x956)]), bA b50 [(.int .i64 (0 : Int)), (.int .i64 (0 : Int)), (.slice none 0 0), (.slice none 0 0)] 29, bA b53 [(.int .i64 x55), (.int .i64 x56), v57, v1010] 29, oA (rList rStr) v57 xs58, oA (rList rBool) v69 x67, oA (rList rBool) v925 x923] w1013 at H
          refine lx_nil ?_
          refine inBlock_norm ?_
          have H : Heap w0 [oA (rList rBool) v925 x923, oA (rList Rimpl_Edge) v1010 (xs954 ++ [(x385, x810, x956)]), bA b50 [(.int .i64 (0 : Int)), (.int .i64 (0 : Int)), (.slice none 0 0), (.slice none 0 0)] 29, bA b53 [(.int .i64 x55), (.int .i64 x56), v57, v1010] 29, oA (rList rStr) v57 xs58, oA (rList rBool) v69 x67] w1013 := H.front 5 rfl
          have H : Heap w0 [oA (rList rBool) v69 x67, oA (rList rBool) v925 x923, oA (rList Rimpl_Edge) v1010 (xs954 ++ [(x385, x810, x956)]), bA b50 [(.int .i64 (0 : Int)), (.int .i64 (0 : Int)), (.slice none 0 0), (.slice none 0 0)] 29, bA b53 [(.int .i64 x55), (.int .i64 x56), v57, v1010] 29, oA (rList rStr) v57 xs58] w1013 := H.front 5 rfl
          have H : Heap w0 [oA (rList Rimpl_Edge) v1010 (xs954 ++ [(x385, x810, x956)]), oA (rList rBool) v69 x67, oA (rList rBool) v925 x923, bA b50 [(.int .i64 (0 : Int)), (.int .i64 (0 : Int)), (.slice none 0 0), (.slice none 0 0)] 29, bA b53 [(.int .i64 x55), (.int .i64 x56), v57, v1010] 29, oA (rList rStr) v57 xs58] w1013 := H.front 2 rfl
          have H : Heap w0 [oA (rList rStr) v57 xs58, oA (rList Rimpl_Edge) v1010 (xs954 ++ [(x385, x810, x956)]), oA (rList rBool) v69 x67, oA (rList rBool) v925 x923, bA b50 [(.int .i64 (0 : Int)), (.int .i64 (0 : Int)), (.slice none 0 0), (.slice none 0 0)] 29, bA b53 [(.int .i64 x55), (.int .i64 x56), v57, v1010] 29] w1013 := H.front 5 rfl
          have H : Heap w0 [bA b53 [(.int .i64 x55), (.int .i64 x56), v57, v1010] 29, oA (rList rStr) v57 xs58, oA (rList Rimpl_Edge) v1010 (xs954 ++ [(x385, x810, x956)]), oA (rList rBool) v69 x67, oA (rList rBool) v925 x923, bA b50 [(.int .i64 (0 : Int)), (.int .i64 (0 : Int)), (.slice none 0 0), (.slice none 0 0)] 29] w1013 := H.front 5 rfl
          have H : Heap w0 [bA b50 [(.int .i64 (0 : Int)), (.int .i64 (0 : Int)), (.slice none 0 0), (.slice none 0 0)] 29, bA b53 [(.int .i64 x55), (.int .i64 x56), v57, v1010] 29, oA (rList rStr) v57 xs58, oA (rList Rimpl_Edge) v1010 (xs954 ++ [(x385, x810, x956)]), oA (rList rBool) v69 x67, oA (rList rBool) v925 x923] w1013 := H.front 5 rfl
          exact ⟨(xs954 ++ [(x385, x810, x956)]), v1010, S.sub ⟨rfl, rfl, rfl, rfl, rfl, rfl, rfl, rfl, trivial⟩, H, hm⟩
         ·have hm := ite_f hc1004 hm
          refine wp_skip ?_
          refine inBlock_norm ?_
          exact ⟨xs954, v953, S.sub ⟨rfl, rfl, rfl, rfl, rfl, rfl, rfl, rfl, trivial⟩, H, hm⟩
       ·have hm := ite_f hc993 hm
        refine wp_exit ?_
        refine then_exit ?_
        refine then_exit ?_
        refine inBlock_exit ?_
        obtain rfl := it_brk hm hc992
        have H : Heap w0 [bA b50 [(.int .i64 (0 : Int)), (.int .i64 (0 : Int)), (.slice none 0 0), (.slice none 0 0)] 29, bA b53 [(.int .i64 x55), (.int .i64 x56), v57, v953] 29, oA (rList rStr) v57 xs58, oA (rList Rimpl_Edge) v953 xs954, oA (rList rBool) v69 x67] w := H.sel [0, 1, 2, 3, 4] (by decide)
        exact ⟨xs954, v953, S.sub ⟨rfl, rfl, rfl, rfl, rfl, rfl, trivial⟩, H, rfl⟩
     ·have hm := ite_f hc920 hm
      refine wp_exit ?_
      refine then_exit ?_
      refine then_exit ?_
      refine inBlock_exit ?_
      obtain rfl := it_brk hm hc919
      exact ⟨xs808, v807, S.sub ⟨rfl, rfl, rfl, rfl, rfl, trivial⟩, H, rfl⟩
   ·have hm := ite_f hc708 hm
    refine wp_exit ?_
    refine then_exit ?_
    refine then_exit ?_
    refine inBlock_exit ?_
    obtain rfl := it_brk hm hc707
    have H : Heap w0 [bA b50 [(.int .i64 (0 : Int)), (.int .i64 (0 : Int)), (.slice none 0 0), (.slice none 0 0)] 29, bA b53 [(.int .i64 x55), (.int .i64 x56), v57, v382] 29, oA (rList rStr) v57 xs58, oA (rList Rimpl_Edge) v382 xs383] w := H.sel [0, 1, 2, 3] (by decide)
    exact ⟨xs383, v382, S.sub ⟨rfl, rfl, trivial⟩, H, rfl⟩
 ·skip
  refine region_drawN (fun w1 => Heap w0 [] w1) (fun i => [8, 13, 14, 16, 17].contains i) [[8, 9, 10, 11, 12, 13, 14, 16, 0, 1, 2, 3, 4, 5, 6, 7, 15, 17], [8, 9, 10, 11, 12, 13, 16, 14, 0, 1, 2, 3, 4, 5, 6, 7, 15, 17], [8, 14, 9, 10, 11, 12, 13, 16, 0, 1, 2, 3, 4, 5, 6, 7, 15, 17], [8, 14, 16, 9, 10, 11, 12, 13, 0, 1, 2, 3, 4, 5, 6, 7, 15, 17], [8, 16, 9, 10, 11, 12, 13, 14, 0, 1, 2, 3, 4, 5, 6, 7, 15, 17], [8, 16, 14, 9, 10, 11, 12, 13, 0, 1, 2, 3, 4, 5, 6, 7, 15, 17], [14, 8, 9, 10, 11, 12, 13, 16, 0, 1, 2, 3, 4, 5, 6, 7, 15, 17], [14, 8, 16, 9, 10, 11, 12, 13, 0, 1, 2, 3, 4, 5, 6, 7, 15, 17], [14, 16, 8, 9, 10, 11, 12, 13, 0, 1, 2, 3, 4, 5, 6, 7, 15, 17], [16, 8, 9, 10, 11, 12, 13, 14, 0, 1, 2, 3, 4, 5, 6, 7, 15, 17], [16, 8, 14, 9, 10, 11, 12, 13, 0, 1, 2, 3, 4, 5, 6, 7, 15, 17], [16, 14, 8, 9, 10, 11, 12, 13, 0, 1, 2, 3, 4, 5, 6, 7, 15, 17]] mixed (by kernel_rfl) (fun w1015 he1014 => ?_)
  have H := H.later he1014
  refine ⟨H.sel [] (by decide), ⟨[_, _, _, _, _, _, _, _, _, _, _, _, _, _, _, _, _, _], (fun i => [0, 5, 6, 7, 17].contains i), rfl, rfl, ?_⟩, ⟨[_, _, _, _, _, _, _, _, _, _, _, _, _, _, _, _, _, _], (fun i => [0, 5, 7, 6, 17].contains i), rfl, rfl, ?_⟩, ⟨[_, _, _, _, _, _, _, _, _, _, _, _, _, _, _, _, _, _], (fun i => [0, 6, 1, 7, 17].contains i), rfl, rfl, ?_⟩, ⟨[_, _, _, _, _, _, _, _, _, _, _, _, _, _, _, _, _, _], (fun i => [0, 7, 1, 2, 17].contains i), rfl, rfl, ?_⟩, ⟨[_, _, _, _, _, _, _, _, _, _, _, _, _, _, _, _, _, _], (fun i => [0, 6, 7, 1, 17].contains i), rfl, rfl, ?_⟩, ⟨[_, _, _, _, _, _, _, _, _, _, _, _, _, _, _, _, _, _], (fun i => [0, 7, 2, 1, 17].contains i), rfl, rfl, ?_⟩, ⟨[_, _, _, _, _, _, _, _, _, _, _, _, _, _, _, _, _, _], (fun i => [1, 6, 0, 7, 17].contains i), rfl, rfl, ?_⟩, ⟨[_, _, _, _, _, _, _, _, _, _, _, _, _, _, _, _, _, _], (fun i => [1, 7, 0, 2, 17].contains i), rfl, rfl, ?_⟩, ⟨[_, _, _, _, _, _, _, _, _, _, _, _, _, _, _, _, _, _], (fun i => [2, 7, 0, 1, 17].contains i), rfl, rfl, ?_⟩, ⟨[_, _, _, _, _, _, _, _, _, _, _, _, _, _, _, _, _, _], (fun i => [1, 6, 7, 0, 17].contains i), rfl, rfl, ?_⟩, ⟨[_, _, _, _, _, _, _, _, _, _, _, _, _, _, _, _, _, _], (fun i => [1, 7, 2, 0, 17].contains i), rfl, rfl, ?_⟩, ⟨[_, _, _, _, _, _, _, _, _, _, _, _, _, _, _, _, _, _], (fun i => [2, 7, 1, 0, 17].contains i), rfl, rfl, ?_⟩, trivial⟩
  ·skip
   refine lx_buildSlice0 (r := rStr) S trivial (by decide) rfl H Tryz.underlying22 Tryz.sizeOf9 (fun v1016 w1017 H => ⟨H.sel [] (by decide), fun a S => ?_⟩)
   refine lq p0 S (q_move rfl) fun a S => ?_
   refine lq p0 S (q_nilCheck rfl ((hat33 0 _ rfl).isP)) fun a S => ?_
   refine lq (pAdd p0 2) S (q_fieldAddr' 2 22 rfl ((hat33 0 _ rfl).isP) Tryz.underlying29 rfl Tryz.sizeOf22) fun a S => ?_
   refine lq v34 S (q_load1 rfl Tryz.isAgg22 (fun w1 hC => (At.of_add (m := 2) (j := 0) ((hat33 2 _ rfl).ext hC.ext)))) fun a S => ?_
   obtain ⟨x1019, e1020, hm⟩ := bind_some hm
   obtain ⟨hle, hap⟩ := app_some e1020
   replace hap := hap.symm
   subst hap
   refine lx_appendRd (r := rStr) S trivial (by decide) rfl H flat_str (H.arg h35) rfl rfl Tryz.underlying22 Tryz.ti9 rfl rfl rfl (by decide) (by decide) hle (fun v1021 w1022 H => ⟨H.sel [] (by decide), fun a S => ?_⟩)
   refine lx_buildSlice0 (r := Rimpl_Edge) S trivial (by decide) rfl H Tryz.underlying27 Tryz.sizeOf62 (fun v1024 w1025 H => ⟨H.sel [] (by decide), fun a S => ?_⟩)
   refine lx_alloc S trivial (by decide) rfl H Tryz.zeroValue29 rfl (fun b1027 w1028 H => ⟨H.sel [] (by decide), fun a S => ?_⟩)
   refine lq p0 S (q_move rfl) fun a S => ?_
   refine lq p0 S (q_nilCheck rfl ((hat33 0 _ rfl).isP)) fun a S => ?_
   refine lq (pAdd p0 0) S (q_fieldAddr' 0 2 rfl ((hat33 0 _ rfl).isP) Tryz.underlying29 rfl Tryz.sizeOf2) fun a S => ?_
   refine lq (.int .i64 a0.1) S (q_load1 rfl Tryz.isAgg2 (fun w1 hC => (At.of_add (m := 0) (j := 0) ((hat33 0 _ rfl).ext hC.ext)))) fun a S => ?_
   refine lq p0 S (q_move rfl) fun a S => ?_
   refine lq p0 S (q_nilCheck rfl ((hat33 0 _ rfl).isP)) fun a S => ?_
   refine lq (pAdd p0 1) S (q_fieldAddr' 1 2 rfl ((hat33 0 _ rfl).isP) Tryz.underlying29 rfl Tryz.sizeOf2) fun a S => ?_
   refine lq (.int .i64 a0.2.1) S (q_load1 rfl Tryz.isAgg2 (fun w1 hC => (At.of_add (m := 1) (j := 0) ((hat33 1 _ rfl).ext hC.ext)))) fun a S => ?_
   refine lq (.agg #[(.int .i64 a0.1), (.int .i64 a0.2.1), v1021, v1024]) S (q_build (zs := [(.int .i64 (0 : Int)), (.int .i64 (0 : Int)), (.slice none 0 0), (.slice none 0 0)]) (szs := [1, 1, 1, 1]) (ps := [(0, [(.int .i64 a0.1)]), (1, [(.int .i64 a0.2.1)]), (2, [v1021]), (3, [v1024])]) (parts := [(0, .tmp 12), (1, .tmp 16), (2, .tmp 22), (3, .tmp 23)]) rfl Tryz.underlying29 Tryz.zeroValue29 (fun w => by simp [Tryz.sizeOf2, Tryz.sizeOf22, Tryz.sizeOf27]) ⟨rfl, rfl, Nat.le_of_ble_eq_true rfl, ⟨rfl, rfl, Nat.le_of_ble_eq_true rfl, ⟨rfl, (cells_sl (H.isSl 2 rfl)), Nat.le_of_ble_eq_true rfl, ⟨rfl, (cells_sl (H.isSl 1 rfl)), Nat.le_of_ble_eq_true rfl, trivial⟩⟩⟩⟩ rfl) fun a S => ?_
   refine lx_storeBox (o := 0) (i := 0) (us := [(.int .i64 a0.1), (.int .i64 a0.2.1), v1021, v1024]) (cs' := [(.int .i64 a0.1), (.int .i64 a0.2.1), v1021, v1024]) S trivial rfl H rfl rfl rfl rfl Tryz.sizeOf29 (Nat.le_of_ble_eq_true rfl) (List.forall_mem_cons.2 ⟨rfl, (List.forall_mem_cons.2 ⟨rfl, (List.forall_mem_cons.2 ⟨one_sl (H.isSl 2 rfl), (List.forall_mem_cons.2 ⟨one_sl (H.isSl 1 rfl), (fun _ h => nomatch h)⟩)⟩)⟩)⟩) rfl (fun w1030 H => ⟨H.sel [] (by decide), fun a S => ?_⟩)
   change Heap w0 [bA b1027 [(.int .i64 a0.1), (.int .i64 a0.2.1), v1021, v1024] 29, oA (rList Rimpl_Edge) v1024 ([] : List Timpl_Edge), oA (rList rStr) v1021 (([] : List Str) ++ a0.2.2.1), bA b50 [(.int .i64 (0 : Int)), (.int .i64 (0 : Int)), (.slice none 0 0), (.slice none 0 0)] 29] w1030 at H
   refine lx_nil ?_
   have H : Heap w0 [oA (rList Rimpl_Edge) v1024 ([] : List Timpl_Edge), bA b1027 [(.int .i64 a0.1), (.int .i64 a0.2.1), v1021, v1024] 29, oA (rList rStr) v1021 (([] : List Str) ++ a0.2.2.1), bA b50 [(.int .i64 (0 : Int)), (.int .i64 (0 : Int)), (.slice none 0 0), (.slice none 0 0)] 29] w1030 := H.front 1 rfl
   have H : Heap w0 [oA (rList rStr) v1021 (([] : List Str) ++ a0.2.2.1), oA (rList Rimpl_Edge) v1024 ([] : List Timpl_Edge), bA b1027 [(.int .i64 a0.1), (.int .i64 a0.2.1), v1021, v1024] 29, bA b50 [(.int .i64 (0 : Int)), (.int .i64 (0 : Int)), (.slice none 0 0), (.slice none 0 0)] 29] w1030 := H.front 2 rfl
   have H : Heap w0 [bA b1027 [(.int .i64 a0.1), (.int .i64 a0.2.1), v1021, v1024] 29, oA (rList rStr) v1021 (([] : List Str) ++ a0.2.2.1), oA (rList Rimpl_Edge) v1024 ([] : List Timpl_Edge), bA b50 [(.int .i64 (0 : Int)), (.int .i64 (0 : Int)), (.slice none 0 0), (.slice none 0 0)] 29] w1030 := H.front 2 rfl
   have H : Heap w0 [bA b50 [(.int .i64 (0 : Int)), (.int .i64 (0 : Int)), (.slice none 0 0), (.slice none 0 0)] 29, bA b1027 [(.int .i64 a0.1), (.int .i64 a0.2.1), v1021, v1024] 29, oA (rList rStr) v1021 (([] : List Str) ++ a0.2.2.1), oA (rList Rimpl_Edge) v1024 ([] : List Timpl_Edge)] w1030 := H.front 3 rfl
   exact ⟨a0.1, a0.2.1, (([] : List Str) ++ a0.2.2.1), ([] : List Timpl_Edge), b1027, v1021, v1024, S.sub ⟨rfl, rfl, rfl, trivial⟩, H, hm⟩
  ·skip
   refine lx_buildSlice0 (r := rStr) S trivial (by decide) rfl H Tryz.underlying22 Tryz.sizeOf9 (fun v1016 w1017 H => ⟨H.sel [] (by decide), fun a S => ?_⟩)
   refine lq p0 S (q_move rfl) fun a S => ?_
   refine lq p0 S (q_nilCheck rfl ((hat33 0 _ rfl).isP)) fun a S => ?_
   refine lq (pAdd p0 2) S (q_fieldAddr' 2 22 rfl ((hat33 0 _ rfl).isP) Tryz.underlying29 rfl Tryz.sizeOf22) fun a S => ?_
   refine lq v34 S (q_load1 rfl Tryz.isAgg22 (fun w1 hC => (At.of_add (m := 2) (j := 0) ((hat33 2 _ rfl).ext hC.ext)))) fun a S => ?_
   obtain ⟨x1019, e1020, hm⟩ := bind_some hm
   obtain ⟨hle, hap⟩ := app_some e1020
   replace hap := hap.symm
   subst hap
   refine lx_appendRd (r := rStr) S trivial (by decide) rfl H flat_str (H.arg h35) rfl rfl Tryz.underlying22 Tryz.ti9 rfl rfl rfl (by decide) (by decide) hle (fun v1021 w1022 H => ⟨H.sel [] (by decide), fun a S => ?_⟩)
   refine lx_alloc S trivial (by decide) rfl H Tryz.zeroValue29 rfl (fun b1027 w1028 H => ⟨H.sel [] (by decide), fun a S => ?_⟩)
   refine lx_buildSlice0 (r := Rimpl_Edge) S trivial (by decide) rfl H Tryz.underlying27 Tryz.sizeOf62 (fun v1024 w1025 H => ⟨H.sel [] (by decide), fun a S => ?_⟩)
   refine lq p0 S (q_move rfl) fun a S => ?_
   refine lq p0 S (q_nilCheck rfl ((hat33 0 _ rfl).isP)) fun a S => ?_
   refine lq (pAdd p0 0) S (q_fieldAddr' 0 2 rfl ((hat33 0 _ rfl).isP) Tryz.underlying29 rfl Tryz.sizeOf2) fun a S => ?_
   refine lq (.int .i64 a0.1) S (q_load1 rfl Tryz.isAgg2 (fun w1 hC => (At.of_add (m := 0) (j := 0) ((hat33 0 _ rfl).ext hC.ext)))) fun a S => ?_
   refine lq p0 S (q_move rfl) fun a S => ?_
   refine lq p0 S (q_nilCheck rfl ((hat33 0 _ rfl).isP)) fun a S => ?_
   refine lq (pAdd p0 1) S (q_fieldAddr' 1 2 rfl ((hat33 0 _ rfl).isP) Tryz.underlying29 rfl Tryz.sizeOf2) fun a S => ?_
   refine lq (.int .i64 a0.2.1) S (q_load1 rfl Tryz.isAgg2 (fun w1 hC => (At.of_add (m := 1) (j := 0) ((hat33 1 _ rfl).ext hC.ext)))) fun a S => ?_
   refine lq (.agg #[(.int .i64 a0.1), (.int .i64 a0.2.1), v1021, v1024]) S (q_build (zs := [(.int .i64 (0 : Int)), (.int .i64 (0 : Int)), (.slice none 0 0), (.slice none 0 0)]) (szs := [1, 1, 1, 1]) (ps := [(0, [(.int .i64 a0.1)]), (1, [(.int .i64 a0.2.1)]), (2, [v1021]), (3, [v1024])]) (parts := [(0, .tmp 12), (1, .tmp 16), (2, .tmp 22), (3, .tmp 23)]) rfl Tryz.underlying29 Tryz.zeroValue29 (fun w => by simp [Tryz.sizeOf2, Tryz.sizeOf22, Tryz.sizeOf27]) ⟨rfl, rfl, Nat.le_of_ble_eq_true rfl, ⟨rfl, rfl, Nat.le_of_ble_eq_true rfl, ⟨rfl, (cells_sl (H.isSl 2 rfl)), Nat.le_of_ble_eq_true rfl, ⟨rfl, (cells_sl (H.isSl 0 rfl)), Nat.le_of_ble_eq_true rfl, trivial⟩⟩⟩⟩ rfl) fun a S => ?_
   refine lx_storeBox (o := 0) (i := 1) (us := [(.int .i64 a0.1), (.int .i64 a0.2.1), v1021, v1024]) (cs' := [(.int .i64 a0.1), (.int .i64 a0.2.1), v1021, v1024]) S trivial rfl H rfl rfl rfl rfl Tryz.sizeOf29 (Nat.le_of_ble_eq_true rfl) (List.forall_mem_cons.2 ⟨rfl, (List.forall_mem_cons.2 ⟨rfl, (List.forall_mem_cons.2 ⟨one_sl (H.isSl 2 rfl), (List.forall_mem_cons.2 ⟨one_sl (H.isSl 0 rfl), (fun _ h => nomatch h)⟩)⟩)⟩)⟩) rfl (fun w1030 H => ⟨H.sel [] (by decide), fun a S => ?_⟩)
   change Heap w0 [oA (rList Rimpl_Edge) v1024 ([] : List Timpl_Edge), bA b1027 [(.int .i64 a0.1), (.int .i64 a0.2.1), v1021, v1024] 29, oA (rList rStr) v1021 (([] : List Str) ++ a0.2.2.1), bA b50 [(.int .i64 (0 : Int)), (.int .i64 (0 : Int)), (.slice none 0 0), (.slice none 0 0)] 29] w1030 at H
   refine lx_nil ?_
   have H : Heap w0 [oA (rList rStr) v1021 (([] : List Str) ++ a0.2.2.1), oA (rList Rimpl_Edge) v1024 ([] : List Timpl_Edge), bA b1027 [(.int .i64 a0.1), (.int .i64 a0.2.1), v1021, v1024] 29, bA b50 [(.int .i64 (0 : Int)), (.int .i64 (0 : Int)), (.slice none 0 0), (.slice none 0 0)] 29] w1030 := H.front 2 rfl
   have H : Heap w0 [bA b1027 [(.int .i64 a0.1), (.int .i64 a0.2.1), v1021, v1024] 29, oA (rList rStr) v1021 (([] : List Str) ++ a0.2.2.1), oA (rList Rimpl_Edge) v1024 ([] : List Timpl_Edge), bA b50 [(.int .i64 (0 : Int)), (.int .i64 (0 : Int)), (.slice none 0 0), (.slice none 0 0)] 29] w1030 := H.front 2 rfl
   have H : Heap w0 [bA b50 [(.int .i64 (0 : Int)), (.int .i64 (0 : Int)), (.slice none 0 0), (.slice none 0 0)] 29, bA b1027 [(.int .i64 a0.1), (.int .i64 a0.2.1), v1021, v1024] 29, oA (rList rStr) v1021 (([] : List Str) ++ a0.2.2.1), oA (rList Rimpl_Edge) v1024 ([] : List Timpl_Edge)] w1030 := H.front 3 rfl
   exact ⟨a0.1, a0.2.1, (([] : List Str) ++ a0.2.2.1), ([] : List Timpl_Edge), b1027, v1021, v1024, S.sub ⟨rfl, rfl, rfl, trivial⟩, H, hm⟩
  ·skip
   refine lx_buildSlice0 (r := rStr) S trivial (by decide) rfl H Tryz.underlying22 Tryz.sizeOf9 (fun v1016 w1017 H => ⟨H.sel [] (by decide), fun a S => ?_⟩)
   refine lx_buildSlice0 (r := Rimpl_Edge) S trivial (by decide) rfl H Tryz.underlying27 Tryz.sizeOf62 (fun v1024 w1025 H => ⟨H.sel [] (by decide), fun a S => ?_⟩)
   refine lq p0 S (q_move rfl) fun a S => ?_
   refine lq p0 S (q_nilCheck rfl ((hat33 0 _ rfl).isP)) fun a S => ?_
   refine lq (pAdd p0 2) S (q_fieldAddr' 2 22 rfl ((hat33 0 _ rfl).isP) Tryz.underlying29 rfl Tryz.sizeOf22) fun a S => ?_
   refine lq v34 S (q_load1 rfl Tryz.isAgg22 (fun w1 hC => (At.of_add (m := 2) (j := 0) ((hat33 2 _ rfl).ext hC.ext)))) fun a S => ?_
   obtain ⟨x1019, e1020, hm⟩ := bind_some hm
   obtain ⟨hle, hap⟩ := app_some e1020
   replace hap := hap.symm
   subst hap
   have H : Heap w0 [oA (rList rStr) v1016 ([] : List Str), oA (rList Rimpl_Edge) v1024 ([] : List Timpl_Edge), bA b50 [(.int .i64 (0 : Int)), (.int .i64 (0 : Int)), (.slice none 0 0), (.slice none 0 0)] 29] w1025 := H.front 1 rfl
   refine lx_appendRd (r := rStr) S trivial (by decide) rfl H flat_str (H.arg h35) rfl rfl Tryz.underlying22 Tryz.ti9 rfl rfl rfl (by decide) (by decide) hle (fun v1021 w1022 H => ⟨H.sel [] (by decide), fun a S => ?_⟩)
   refine lx_alloc S trivial (by decide) rfl H Tryz.zeroValue29 rfl (fun b1027 w1028 H => ⟨H.sel [] (by decide), fun a S => ?_⟩)
   refine lq p0 S (q_move rfl) fun a S => ?_
   refine lq p0 S (q_nilCheck rfl ((hat33 0 _ rfl).isP)) fun a S => ?_
   refine lq (pAdd p0 0) S (q_fieldAddr' 0 2 rfl ((hat33 0 _ rfl).isP) Tryz.underlying29 rfl Tryz.sizeOf2) fun a S => ?_
   refine lq (.int .i64 a0.1) S (q_load1 rfl Tryz.isAgg2 (fun w1 hC => (At.of_add (m := 0) (j := 0) ((hat33 0 _ rfl).ext hC.ext)))) fun a S => ?_
   refine lq p0 S (q_move rfl) fun a S => ?_
   refine lq p0 S (q_nilCheck rfl ((hat33 0 _ rfl).isP)) fun a S => ?_
   refine lq (pAdd p0 1) S (q_fieldAddr' 1 2 rfl ((hat33 0 _ rfl).isP) Tryz.underlying29 rfl Tryz.sizeOf2) fun a S => ?_
   refine lq (.int .i64 a0.2.1) S (q_load1 rfl Tryz.isAgg2 (fun w1 hC => (At.of_add (m := 1) (j := 0) ((hat33 1 _ rfl).ext hC.ext)))) fun a S => ?_
   refine lq (.agg #[(.int .i64 a0.1), (.int .i64 a0.2.1), v1021, v1024]) S (q_build (zs := [(.int .i64 (0 : Int)), (.int .i64 (0 : Int)), (.slice none 0 0), (.slice none 0 0)]) (szs := [1, 1, 1, 1]) (ps := [(0, [(.int .i64 a0.1)]), (1, [(.int .i64 a0.2.1)]), (2, [v1021]), (3, [v1024])]) (parts := [(0, .tmp 12), (1, .tmp 16), (2, .tmp 22), (3, .tmp 23)]) rfl Tryz.underlying29 Tryz.zeroValue29 (fun w => by simp [Tryz.sizeOf2, Tryz.sizeOf22, Tryz.sizeOf27]) ⟨rfl, rfl, Nat.le_of_ble_eq_true rfl, ⟨rfl, rfl, Nat.le_of_ble_eq_true rfl, ⟨rfl, (cells_sl (H.isSl 1 rfl)), Nat.le_of_ble_eq_true rfl, ⟨rfl, (cells_sl (H.isSl 2 rfl)), Nat.le_of_ble_eq_true rfl, trivial⟩⟩⟩⟩ rfl) fun a S => ?_
   refine lx_storeBox (o := 0) (i := 0) (us := [(.int .i64 a0.1), (.int .i64 a0.2.1), v1021, v1024]) (cs' := [(.int .i64 a0.1), (.int .i64 a0.2.1), v1021, v1024]) S trivial rfl H rfl rfl rfl rfl Tryz.sizeOf29 (Nat.le_of_ble_eq_true rfl) (List.forall_mem_cons.2 ⟨rfl, (List.forall_mem_cons.2 ⟨rfl, (List.forall_mem_cons.2 ⟨one_sl (H.isSl 1 rfl), (List.forall_mem_cons.2 ⟨one_sl (H.isSl 2 rfl), (fun _ h => nomatch h)⟩)⟩)⟩)⟩) rfl (fun w1030 H => ⟨H.sel [] (by decide), fun a S => ?_⟩)
   change Heap w0 [bA b1027 [(.int .i64 a0.1), (.int .i64 a0.2.1), v1021, v1024] 29, oA (rList rStr) v1021 (([] : List Str) ++ a0.2.2.1), oA (rList Rimpl_Edge) v1024 ([] : List Timpl_Edge), bA b50 [(.int .i64 (0 : Int)), (.int .i64 (0 : Int)), (.slice none 0 0), (.slice none 0 0)] 29] w1030 at H
   refine lx_nil ?_
   have H : Heap w0 [oA (rList Rimpl_Edge) v1024 ([] : List Timpl_Edge), bA b1027 [(.int .i64 a0.1), (.int .i64 a0.2.1), v1021, v1024] 29, oA (rList rStr) v1021 (([] : List Str) ++ a0.2.2.1), bA b50 [(.int .i64 (0 : Int)), (.int .i64 (0 : Int)), (.slice none 0 0), (.slice none 0 0)] 29] w1030 := H.front 2 rfl
   have H : Heap w0 [oA (rList rStr) v1021 (([] : List Str) ++ a0.2.2.1), oA (rList Rimpl_Edge) v1024 ([] : List Timpl_Edge), bA b1027 [(.int .i64 a0.1), (.int .i64 a0.2.1), v1021, v1024] 29, bA b50 [(.int .i64 (0 : Int)), (.int .i64 (0 : Int)), (.slice none 0 0), (.slice none 0 0)] 29] w1030 := H.front 2 rfl
   have H : Heap w0 [bA b1027 [(.int .i64 a0.1), (.int .i64 a0.2.1), v1021, v1024] 29, oA (rList rStr) v1021 (([] : List Str) ++ a0.2.2.1), oA (rList Rimpl_Edge) v1024 ([] : List Timpl_Edge), bA b50 [(.int .i64 (0 : Int)), (.int .i64 (0 : Int)), (.slice none 0 0), (.slice none 0 0)] 29] w1030 := H.front 2 rfl
   have H : Heap w0 [bA b50 [(.int .i64 (0 : Int)), (.int .i64 (0 : Int)), (.slice none 0 0), (.slice none 0 0)] 29, bA b1027 [(.int .i64 a0.1), (.int .i64 a0.2.1), v1021, v1024] 29, oA (rList rStr) v1021 (([] : List Str) ++ a0.2.2.1), oA (rList Rimpl_Edge) v1024 ([] : List Timpl_Edge)] w1030 := H.front 3 rfl
   exact ⟨a0.1, a0.2.1, (([] : List Str) ++ a0.2.2.1), ([] : List Timpl_Edge), b1027, v1021, v1024, S.sub ⟨rfl, rfl, rfl, trivial⟩, H, hm⟩
  ·skip
   refine lx_buildSlice0 (r := rStr) S trivial (by decide) rfl H Tryz.underlying22 Tryz.sizeOf9 (fun v1016 w1017 H => ⟨H.sel [] (by decide), fun a S => ?_⟩)
   refine lx_buildSlice0 (r := Rimpl_Edge) S trivial (by decide) rfl H Tryz.underlying27 Tryz.sizeOf62 (fun v1024 w1025 H => ⟨H.sel [] (by decide), fun a S => ?_⟩)
   refine lx_alloc S trivial (by decide) rfl H Tryz.zeroValue29 rfl (fun b1027 w1028 H => ⟨H.sel [] (by decide), fun a S => ?_⟩)
   refine lq p0 S (q_move rfl) fun a S => ?_
   refine lq p0 S (q_nilCheck rfl ((hat33 0 _ rfl).isP)) fun a S => ?_
   refine lq (pAdd p0 2) S (q_fieldAddr' 2 22 rfl ((hat33 0 _ rfl).isP) Tryz.underlying29 rfl Tryz.sizeOf22) fun a S => ?_
   refine lq v34 S (q_load1 rfl Tryz.isAgg22 (fun w1 hC => (At.of_add (m := 2) (j := 0) ((hat33 2 _ rfl).ext hC.ext)))) fun a S => ?_
   obtain ⟨x1019, e1020, hm⟩ := bind_some hm
   obtain ⟨hle, hap⟩ := app_some e1020
   replace hap := hap.symm
   subst hap
   have H : Heap w0 [oA (rList rStr) v1016 ([] : List Str), bA b1027 [(.int .i64 (0 : Int)), (.int .i64 (0 : Int)), (.slice none 0 0), (.slice none 0 0)] 29, oA (rList Rimpl_Edge) v1024 ([] : List Timpl_Edge), bA b50 [(.int .i64 (0 : Int)), (.int .i64 (0 : Int)), (.slice none 0 0), (.slice none 0 0)] 29] w1028 := H.front 2 rfl
   refine lx_appendRd (r := rStr) S trivial (by decide) rfl H flat_str (H.arg h35) rfl rfl Tryz.underlying22 Tryz.ti9 rfl rfl rfl (by decide) (by decide) hle (fun v1021 w1022 H => ⟨H.sel [] (by decide), fun a S => ?_⟩)
   refine lq p0 S (q_move rfl) fun a S => ?_
   refine lq p0 S (q_nilCheck rfl ((hat33 0 _ rfl).isP)) fun a S => ?_
   refine lq (pAdd p0 0) S (q_fieldAddr' 0 2 rfl ((hat33 0 _ rfl).isP) Tryz.underlying29 rfl Tryz.sizeOf2) fun a S => ?_
   refine lq (.int .i64 a0.1) S (q_load1 rfl Tryz.isAgg2 (fun w1 hC => (At.of_add (m := 0) (j := 0) ((hat33 0 _ rfl).ext hC.ext)))) fun a S => ?_
   refine lq p0 S (q_move rfl) fun a S => ?_
   refine lq p0 S (q_nilCheck rfl ((hat33 0 _ rfl).isP)) fun a S => ?_
   refine lq (pAdd p0 1) S (q_fieldAddr' 1 2 rfl ((hat33 0 _ rfl).isP) Tryz.underlying29 rfl Tryz.sizeOf2) fun a S => ?_
   refine lq (.int .i64 a0.2.1) S (q_load1 rfl Tryz.isAgg2 (fun w1 hC => (At.of_add (m := 1) (j := 0) ((hat33 1 _ rfl).ext hC.ext)))) fun a S => ?_
   refine lq (.agg #[(.int .i64 a0.1), (.int .i64 a0.2.1), v1021, v1024]) S (q_build (zs := [(.int .i64 (0 : Int)), (.int .i64 (0 : Int)), (.slice none 0 0), (.slice none 0 0)]) (szs := [1, 1, 1, 1]) (ps := [(0, [(.int .i64 a0.1)]), (1, [(.int .i64 a0.2.1)]), (2, [v1021]), (3, [v1024])]) (parts := [(0, .tmp 12), (1, .tmp 16), (2, .tmp 22), (3, .tmp 23)]) rfl Tryz.underlying29 Tryz.zeroValue29 (fun w => by simp [Tryz.sizeOf2, Tryz.sizeOf22, Tryz.sizeOf27]) ⟨rfl, rfl, Nat.le_of_ble_eq_true rfl, ⟨rfl, rfl, Nat.le_of_ble_eq_true rfl, ⟨rfl, (cells_sl (H.isSl 0 rfl)), Nat.le_of_ble_eq_true rfl, ⟨rfl, (cells_sl (H.isSl 2 rfl)), Nat.le_of_ble_eq_true rfl, trivial⟩⟩⟩⟩ rfl) fun a S => ?_
   refine lx_storeBox (o := 0) (i := 1) (us := [(.int .i64 a0.1), (.int .i64 a0.2.1), v1021, v1024]) (cs' := [(.int .i64 a0.1), (.int .i64 a0.2.1), v1021, v1024]) S trivial rfl H rfl rfl rfl rfl Tryz.sizeOf29 (Nat.le_of_ble_eq_true rfl) (List.forall_mem_cons.2 ⟨rfl, (List.forall_mem_cons.2 ⟨rfl, (List.forall_mem_cons.2 ⟨one_sl (H.isSl 0 rfl), (List.forall_mem_cons.2 ⟨one_sl (H.isSl 2 rfl), (fun _ h => nomatch h)⟩)⟩)⟩)⟩) rfl (fun w1030 H => ⟨H.sel [] (by decide), fun a S => ?_⟩)
   change Heap w0 [oA (rList rStr) v1021 (([] : List Str) ++ a0.2.2.1), bA b1027 [(.int .i64 a0.1), (.int .i64 a0.2.1), v1021, v1024] 29, oA (rList Rimpl_Edge) v1024 ([] : List Timpl_Edge), bA b50 [(.int .i64 (0 : Int)), (.int .i64 (0 : Int)), (.slice none 0 0), (.slice none 0 0)] 29] w1030 at H
   refine lx_nil ?_
   have H : Heap w0 [oA (rList Rimpl_Edge) v1024 ([] : List Timpl_Edge), oA (rList rStr) v1021 (([] : List Str) ++ a0.2.2.1), bA b1027 [(.int .i64 a0.1), (.int .i64 a0.2.1), v1021, v1024] 29, bA b50 [(.int .i64 (0 : Int)), (.int .i64 (0 : Int)), (.slice none 0 0), (.slice none 0 0)] 29] w1030 := H.front 2 rfl
   have H : Heap w0 [oA (rList rStr) v1021 (([] : List Str) ++ a0.2.2.1), oA (rList Rimpl_Edge) v1024 ([] : List Timpl_Edge), bA b1027 [(.int .i64 a0.1), (.int .i64 a0.2.1), v1021, v1024] 29, bA b50 [(.int .i64 (0 : Int)), (.int .i64 (0 : Int)), (.slice none 0 0), (.slice none 0 0)] 29] w1030 := H.front 1 rfl
   have H : Heap w0 [bA b1027 [(.int .i64 a0.1), (.int .i64 a0.2.1), v1021, v1024] 29, oA (rList rStr) v1021 (([] : List Str) ++ a0.2.2.1), oA (rList Rimpl_Edge) v1024 ([] : List Timpl_Edge), bA b50 [(.int .i64 (0 : Int)), (.int .i64 (0 : Int)), (.slice none 0 0), (.slice none 0 0)] 29] w1030 := H.front 2 rfl
   have H : Heap w0 [bA b50 [(.int .i64 (0 : Int)), (.int .i64 (0 : Int)), (.slice none 0 0), (.slice none 0 0)] 29, bA b1027 [(.int .i64 a0.1), (.int .i64 a0.2.1), v1021, v1024] 29, oA (rList rStr) v1021 (([] : List Str) ++ a0.2.2.1), oA (rList Rimpl_Edge) v1024 ([] : List Timpl_Edge)] w1030 := H.front 3 rfl
   exact ⟨a0.1, a0.2.1, (([] : List Str) ++ a0.2.2.1), ([] : List Timpl_Edge), b1027, v1021, v1024, S.sub ⟨rfl, rfl, rfl, trivial⟩, H, hm⟩
  ·skip
   refine lx_buildSlice0 (r := rStr) S trivial (by decide) rfl H Tryz.underlying22 Tryz.sizeOf9 (fun v1016 w1017 H => ⟨H.sel [] (by decide), fun a S => ?_⟩)
   refine lx_alloc S trivial (by decide) rfl H Tryz.zeroValue29 rfl (fun b1027 w1028 H => ⟨H.sel [] (by decide), fun a S => ?_⟩)
   refine lq p0 S (q_move rfl) fun a S => ?_
   refine lq p0 S (q_nilCheck rfl ((hat33 0 _ rfl).isP)) fun a S => ?_
   refine lq (pAdd p0 2) S (q_fieldAddr' 2 22 rfl ((hat33 0 _ rfl).isP) Tryz.underlying29 rfl Tryz.sizeOf22) fun a S => ?_
   refine lq v34 S (q_load1 rfl Tryz.isAgg22 (fun w1 hC => (At.of_add (m := 2) (j := 0) ((hat33 2 _ rfl).ext hC.ext)))) fun a S => ?_
   obtain ⟨x1019, e1020, hm⟩ := bind_some hm
   obtain ⟨hle, hap⟩ := app_some e1020
   replace hap := hap.symm
   subst hap
   have H : Heap w0 [oA (rList rStr) v1016 ([] : List Str), bA b1027 [(.int .i64 (0 : Int)), (.int .i64 (0 : Int)), (.slice none 0 0), (.slice none 0 0)] 29, bA b50 [(.int .i64 (0 : Int)), (.int .i64 (0 : Int)), (.slice none 0 0), (.slice none 0 0)] 29] w1028 := H.front 1 rfl
   refine lx_appendRd (r := rStr) S trivial (by decide) rfl H flat_str (H.arg h35) rfl rfl Tryz.underlying22 Tryz.ti9 rfl rfl rfl (by decide) (by decide) hle (fun v1021 w1022 H => ⟨H.sel [] (by decide), fun a S => ?_⟩)
   refine lx_buildSlice0 (r := Rimpl_Edge) S trivial (by decide) rfl H Tryz.underlying27 Tryz.sizeOf62 (fun v1024 w1025 H => ⟨H.sel [] (by decide), fun a S => ?_⟩)
   refine lq p0 S (q_move rfl) fun a S => ?_
   refine lq p0 S (q_nilCheck rfl ((hat33 0 _ rfl).isP)) fun a S => ?_
   refine lq (pAdd p0 0) S (q_fieldAddr' 0 2 rfl ((hat33 0 _ rfl).isP) Tryz.underlying29 rfl Tryz.sizeOf2) fun a S => ?_
   refine lq (.int .i64 a0.1) S (q_load1 rfl Tryz.isAgg2 (fun w1 hC => (At.of_add (m := 0) (j := 0) ((hat33 0 _ rfl).ext hC.ext)))) fun a S => ?_
   refine lq p0 S (q_move rfl) fun a S => ?_
   refine lq p0 S (q_nilCheck rfl ((hat33 0 _ rfl).isP)) fun a S => ?_
   refine lq (pAdd p0 1) S (q_fieldAddr' 1 2 rfl ((hat33 0 _ rfl).isP) Tryz.underlying29 rfl Tryz.sizeOf2) fun a S => ?_
   refine lq (.int .i64 a0.2.1) S (q_load1 rfl Tryz.isAgg2 (fun w1 hC => (At.of_add (m := 1) (j := 0) ((hat33 1 _ rfl).ext hC.ext)))) fun a S => ?_
   refine lq (.agg #[(.int .i64 a0.1), (.int .i64 a0.2.1), v1021, v1024]) S (q_build (zs := [(.int .i64 (0 : Int)), (.int .i64 (0 : Int)), (.slice none 0 0), (.slice none 0 0)]) (szs := [1, 1, 1, 1]) (ps := [(0, [(.int .i64 a0.1)]), (1, [(.int .i64 a0.2.1)]), (2, [v1021]), (3, [v1024])]) (parts := [(0, .tmp 12), (1, .tmp 16), (2, .tmp 22), (3, .tmp 23)]) rfl Tryz.underlying29 Tryz.zeroValue29 (fun w => by simp [Tryz.sizeOf2, Tryz.sizeOf22, Tryz.sizeOf27]) ⟨rfl, rfl, Nat.le_of_ble_eq_true rfl, ⟨rfl, rfl, Nat.le_of_ble_eq_true rfl, ⟨rfl, (cells_sl (H.isSl 1 rfl)), Nat.le_of_ble_eq_true rfl, ⟨rfl, (cells_sl (H.isSl 0 rfl)), Nat.le_of_ble_eq_true rfl, trivial⟩⟩⟩⟩ rfl) fun a S => ?_
   refine lx_storeBox (o := 0) (i := 2) (us := [(.int .i64 a0.1), (.int .i64 a0.2.1), v1021, v1024]) (cs' := [(.int .i64 a0.1), (.int .i64 a0.2.1), v1021, v1024]) S trivial rfl H rfl rfl rfl rfl Tryz.sizeOf29 (Nat.le_of_ble_eq_true rfl) (List.forall_mem_cons.2 ⟨rfl, (List.forall_mem_cons.2 ⟨rfl, (List.forall_mem_cons.2 ⟨one_sl (H.isSl 1 rfl), (List.forall_mem_cons.2 ⟨one_sl (H.isSl 0 rfl), (fun _ h => nomatch h)⟩)⟩)⟩)⟩) rfl (fun w1030 H => ⟨H.sel [] (by decide), fun a S => ?_⟩)
   change Heap w0 [oA (rList Rimpl_Edge) v1024 ([] : List Timpl_Edge), oA (rList rStr) v1021 (([] : List Str) ++ a0.2.2.1), bA b1027 [(.int .i64 a0.1), (.int .i64 a0.2.1), v1021, v1024] 29, bA b50 [(.int .i64 (0 : Int)), (.int .i64 (0 : Int)), (.slice none 0 0), (.slice none 0 0)] 29] w1030 at H
   refine lx_nil ?_
   have H : Heap w0 [oA (rList rStr) v1021 (([] : List Str) ++ a0.2.2.1), oA (rList Rimpl_Edge) v1024 ([] : List Timpl_Edge), bA b1027 [(.int .i64 a0.1), (.int .i64 a0.2.1), v1021, v1024] 29, bA b50 [(.int .i64 (0 : Int)), (.int .i64 (0 : Int)), (.slice none 0 0), (.slice none 0 0)] 29] w1030 := H.front 1 rfl
   have H : Heap w0 [bA b1027 [(.int .i64 a0.1), (.int .i64 a0.2.1), v1021, v1024] 29, oA (rList rStr) v1021 (([] : List Str) ++ a0.2.2.1), oA (rList Rimpl_Edge) v1024 ([] : List Timpl_Edge), bA b50 [(.int .i64 (0 : Int)), (.int .i64 (0 : Int)), (.slice none 0 0), (.slice none 0 0)] 29] w1030 := H.front 2 rfl
   have H : Heap w0 [bA b50 [(.int .i64 (0 : Int)), (.int .i64 (0 : Int)), (.slice none 0 0), (.slice none 0 0)] 29, bA b1027 [(.int .i64 a0.1), (.int .i64 a0.2.1), v1021, v1024] 29, oA (rList rStr) v1021 (([] : List Str) ++ a0.2.2.1), oA (rList Rimpl_Edge) v1024 ([] : List Timpl_Edge)] w1030 := H.front 3 rfl
   exact ⟨a0.1, a0.2.1, (([] : List Str) ++ a0.2.2.1), ([] : List Timpl_Edge), b1027, v1021, v1024, S.sub ⟨rfl, rfl, rfl, trivial⟩, H, hm⟩
  ·skip
   refine lx_buildSlice0 (r := rStr) S trivial (by decide) rfl H Tryz.underlying22 Tryz.sizeOf9 (fun v1016 w1017 H => ⟨H.sel [] (by decide), fun a S => ?_⟩)
   refine lx_alloc S trivial (by decide) rfl H Tryz.zeroValue29 rfl (fun b1027 w1028 H => ⟨H.sel [] (by decide), fun a S => ?_⟩)
   refine lx_buildSlice0 (r := Rimpl_Edge) S trivial (by decide) rfl H Tryz.underlying27 Tryz.sizeOf62 (fun v1024 w1025 H => ⟨H.sel [] (by decide), fun a S => ?_⟩)
   refine lq p0 S (q_move rfl) fun a S => ?_
   refine lq p0 S (q_nilCheck rfl ((hat33 0 _ rfl).isP)) fun a S => ?_
   refine lq (pAdd p0 2) S (q_fieldAddr' 2 22 rfl ((hat33 0 _ rfl).isP) Tryz.underlying29 rfl Tryz.sizeOf22) fun a S => ?_
   refine lq v34 S (q_load1 rfl Tryz.isAgg22 (fun w1 hC => (At.of_add (m := 2) (j := 0) ((hat33 2 _ rfl).ext hC.ext)))) fun a S => ?_
   obtain ⟨x1019, e1020, hm⟩ := bind_some hm
   obtain ⟨hle, hap⟩ := app_some e1020
   replace hap := hap.symm
   subst hap
   have H : Heap w0 [oA (rList rStr) v1016 ([] : List Str), oA (rList Rimpl_Edge) v1024 ([] : List Timpl_Edge), bA b1027 [(.int .i64 (0 : Int)), (.int .i64 (0 : Int)), (.slice none 0 0), (.slice none 0 0)] 29, bA b50 [(.int .i64 (0 : Int)), (.int .i64 (0 : Int)), (.slice none 0 0), (.slice none 0 0)] 29] w1025 := H.front 2 rfl
   refine lx_appendRd (r := rStr) S trivial (by decide) rfl H flat_str (H.arg h35) rfl rfl Tryz.underlying22 Tryz.ti9 rfl rfl rfl (by decide) (by decide) hle (fun v1021 w1022 H => ⟨H.sel [] (by decide), fun a S => ?_⟩)
   refine lq p0 S (q_move rfl) fun a S => ?_
   refine lq p0 S (q_nilCheck rfl ((hat33 0 _ rfl).isP)) fun a S => ?_
   refine lq (pAdd p0 0) S (q_fieldAddr' 0 2 rfl ((hat33 0 _ rfl).isP) Tryz.underlying29 rfl Tryz.sizeOf2) fun a S => ?_
   refine lq (.int .i64 a0.1) S (q_load1 rfl Tryz.isAgg2 (fun w1 hC => (At.of_add (m := 0) (j := 0) ((hat33 0 _ rfl).ext hC.ext)))) fun a S => ?_
   refine lq p0 S (q_move rfl) fun a S => ?_
   refine lq p0 S (q_nilCheck rfl ((hat33 0 _ rfl).isP)) fun a S => ?_
   refine lq (pAdd p0 1) S (q_fieldAddr' 1 2 rfl ((hat33 0 _ rfl).isP) Tryz.underlying29 rfl Tryz.sizeOf2) fun a S => ?_
   refine lq (.int .i64 a0.2.1) S (q_load1 rfl Tryz.isAgg2 (fun w1 hC => (At.of_add (m := 1) (j := 0) ((hat33 1 _ rfl).ext hC.ext)))) fun a S => ?_
   refine lq (.agg #[(.int .i64 a0.1), (.int .i64 a0.2.1), v1021, v1024]) S (q_build (zs := [(.int .i64 (0 : Int)), (.int .i64 (0 : Int)), (.slice none 0 0), (.slice none 0 0)]) (szs := [1, 1, 1, 1]) (ps := [(0, [(.int .i64 a0.1)]), (1, [(.int .i64 a0.2.1)]), (2, [v1021]), (3, [v1024])]) (parts := [(0, .tmp 12), (1, .tmp 16), (2, .tmp 22), (3, .tmp 23)]) rfl Tryz.underlying29 Tryz.zeroValue29 (fun w => by simp [Tryz.sizeOf2, Tryz.sizeOf22, Tryz.sizeOf27]) ⟨rfl, rfl, Nat.le_of_ble_eq_true rfl, ⟨rfl, rfl, Nat.le_of_ble_eq_true rfl, ⟨rfl, (cells_sl (H.isSl 0 rfl)), Nat.le_of_ble_eq_true rfl, ⟨rfl, (cells_sl (H.isSl 1 rfl)), Nat.le_of_ble_eq_true rfl, trivial⟩⟩⟩⟩ rfl) fun a S => ?_
   refine lx_storeBox (o := 0) (i := 2) (us := [(.int .i64 a0.1), (.int .i64 a0.2.1), v1021, v1024]) (cs' := [(.int .i64 a0.1), (.int .i64 a0.2.1), v1021, v1024]) S trivial rfl H rfl rfl rfl rfl Tryz.sizeOf29 (Nat.le_of_ble_eq_true rfl) (List.forall_mem_cons.2 ⟨rfl, (List.forall_mem_cons.2 ⟨rfl, (List.forall_mem_cons.2 ⟨one_sl (H.isSl 0 rfl), (List.forall_mem_cons.2 ⟨one_sl (H.isSl 1 rfl), (fun _ h => nomatch h)⟩)⟩)⟩)⟩) rfl (fun w1030 H => ⟨H.sel [] (by decide), fun a S => ?_⟩)
   change Heap w0 [oA (rList rStr) v1021 (([] : List Str) ++ a0.2.2.1), oA (rList Rimpl_Edge) v1024 ([] : List Timpl_Edge), bA b1027 [(.int .i64 a0.1), (.int .i64 a0.2.1), v1021, v1024] 29, bA b50 [(.int .i64 (0 : Int)), (.int .i64 (0 : Int)), (.slice none 0 0), (.slice none 0 0)] 29] w1030 at H
   refine lx_nil ?_
   have H : Heap w0 [oA (rList Rimpl_Edge) v1024 ([] : List Timpl_Edge), oA (rList rStr) v1021 (([] : List Str) ++ a0.2.2.1), bA b1027 [(.int .i64 a0.1), (.int .i64 a0.2.1), v1021, v1024] 29, bA b50 [(.int .i64 (0 : Int)), (.int .i64 (0 : Int)), (.slice none 0 0), (.slice none 0 0)] 29] w1030 := H.front 1 rfl
   have H : Heap w0 [oA (rList rStr) v1021 (([] : List Str) ++ a0.2.2.1), oA (rList Rimpl_Edge) v1024 ([] : List Timpl_Edge), bA b1027 [(.int .i64 a0.1), (.int .i64 a0.2.1), v1021, v1024] 29, bA b50 [(.int .i64 (0 : Int)), (.int .i64 (0 : Int)), (.slice none 0 0), (.slice none 0 0)] 29] w1030 := H.front 1 rfl
   have H : Heap w0 [bA b1027 [(.int .i64 a0.1), (.int .i64 a0.2.1), v1021, v1024] 29, oA (rList rStr) v1021 (([] : List Str) ++ a0.2.2.1), oA (rList Rimpl_Edge) v1024 ([] : List Timpl_Edge), bA b50 [(.int .i64 (0 : Int)), (.int .i64 (0 : Int)), (.slice none 0 0), (.slice none 0 0)] 29] w1030 := H.front 2 rfl
   have H : Heap w0 [bA b50 [(.int .i64 (0 : Int)), (.int .i64 (0 : Int)), (.slice none 0 0), (.slice none 0 0)] 29, bA b1027 [(.int .i64 a0.1), (.int .i64 a0.2.1), v1021, v1024] 29, oA (rList rStr) v1021 (([] : List Str) ++ a0.2.2.1), oA (rList Rimpl_Edge) v1024 ([] : List Timpl_Edge)] w1030 := H.front 3 rfl
   exact ⟨a0.1, a0.2.1, (([] : List Str) ++ a0.2.2.1), ([] : List Timpl_Edge), b1027, v1021, v1024, S.sub ⟨rfl, rfl, rfl, trivial⟩, H, hm⟩
  ·skip
   refine lx_buildSlice0 (r := Rimpl_Edge) S trivial (by decide) rfl H Tryz.underlying27 Tryz.sizeOf62 (fun v1024 w1025 H => ⟨H.sel [] (by decide), fun a S => ?_⟩)
   refine lx_buildSlice0 (r := rStr) S trivial (by decide) rfl H Tryz.underlying22 Tryz.sizeOf9 (fun v1016 w1017 H => ⟨H.sel [] (by decide), fun a S => ?_⟩)
   refine lq p0 S (q_move rfl) fun a S => ?_
   refine lq p0 S (q_nilCheck rfl ((hat33 0 _ rfl).isP)) fun a S => ?_
   refine lq (pAdd p0 2) S (q_fieldAddr' 2 22 rfl ((hat33 0 _ rfl).isP) Tryz.underlying29 rfl Tryz.sizeOf22) fun a S => ?_
   refine lq v34 S (q_load1 rfl Tryz.isAgg22 (fun w1 hC => (At.of_add (m := 2) (j := 0) ((hat33 2 _ rfl).ext hC.ext)))) fun a S => ?_
   obtain ⟨x1019, e1020, hm⟩ := bind_some hm
   obtain ⟨hle, hap⟩ := app_some e1020
   replace hap := hap.symm
   subst hap
   refine lx_appendRd (r := rStr) S trivial (by decide) rfl H flat_str (H.arg h35) rfl rfl Tryz.underlying22 Tryz.ti9 rfl rfl rfl (by decide) (by decide) hle (fun v1021 w1022 H => ⟨H.sel [] (by decide), fun a S => ?_⟩)
   refine lx_alloc S trivial (by decide) rfl H Tryz.zeroValue29 rfl (fun b1027 w1028 H => ⟨H.sel [] (by decide), fun a S => ?_⟩)
   refine lq p0 S (q_move rfl) fun a S => ?_
   refine lq p0 S (q_nilCheck rfl ((hat33 0 _ rfl).isP)) fun a S => ?_
   refine lq (pAdd p0 0) S (q_fieldAddr' 0 2 rfl ((hat33 0 _ rfl).isP) Tryz.underlying29 rfl Tryz.sizeOf2) fun a S => ?_
   refine lq (.int .i64 a0.1) S (q_load1 rfl Tryz.isAgg2 (fun w1 hC => (At.of_add (m := 0) (j := 0) ((hat33 0 _ rfl).ext hC.ext)))) fun a S => ?_
   refine lq p0 S (q_move rfl) fun a S => ?_
   refine lq p0 S (q_nilCheck rfl ((hat33 0 _ rfl).isP)) fun a S => ?_
   refine lq (pAdd p0 1) S (q_fieldAddr' 1 2 rfl ((hat33 0 _ rfl).isP) Tryz.underlying29 rfl Tryz.sizeOf2) fun a S => ?_
   refine lq (.int .i64 a0.2.1) S (q_load1 rfl Tryz.isAgg2 (fun w1 hC => (At.of_add (m := 1) (j := 0) ((hat33 1 _ rfl).ext hC.ext)))) fun a S => ?_
   refine lq (.agg #[(.int .i64 a0.1), (.int .i64 a0.2.1), v1021, v1024]) S (q_build (zs := [(.int .i64 (0 : Int)), (.int .i64 (0 : Int)), (.slice none 0 0), (.slice none 0 0)]) (szs := [1, 1, 1, 1]) (ps := [(0, [(.int .i64 a0.1)]), (1, [(.int .i64 a0.2.1)]), (2, [v1021]), (3, [v1024])]) (parts := [(0, .tmp 12), (1, .tmp 16), (2, .tmp 22), (3, .tmp 23)]) rfl Tryz.underlying29 Tryz.zeroValue29 (fun w => by simp [Tryz.sizeOf2, Tryz.sizeOf22, Tryz.sizeOf27]) ⟨rfl, rfl, Nat.le_of_ble_eq_true rfl, ⟨rfl, rfl, Nat.le_of_ble_eq_true rfl, ⟨rfl, (cells_sl (H.isSl 1 rfl)), Nat.le_of_ble_eq_true rfl, ⟨rfl, (cells_sl (H.isSl 2 rfl)), Nat.le_of_ble_eq_true rfl, trivial⟩⟩⟩⟩ rfl) fun a S => ?_
   refine lx_storeBox (o := 0) (i := 0) (us := [(.int .i64 a0.1), (.int .i64 a0.2.1), v1021, v1024]) (cs' := [(.int .i64 a0.1), (.int .i64 a0.2.1), v1021, v1024]) S trivial rfl H rfl rfl rfl rfl Tryz.sizeOf29 (Nat.le_of_ble_eq_true rfl) (List.forall_mem_cons.2 ⟨rfl, (List.forall_mem_cons.2 ⟨rfl, (List.forall_mem_cons.2 ⟨one_sl (H.isSl 1 rfl), (List.forall_mem_cons.2 ⟨one_sl (H.isSl 2 rfl), (fun _ h => nomatch h)⟩)⟩)⟩)⟩) rfl (fun w1030 H => ⟨H.sel [] (by decide), fun a S => ?_⟩)
   change Heap w0 [bA b1027 [(.int .i64 a0.1), (.int .i64 a0.2.1), v1021, v1024] 29, oA (rList rStr) v1021 (([] : List Str) ++ a0.2.2.1), oA (rList Rimpl_Edge) v1024 ([] : List Timpl_Edge), bA b50 [(.int .i64 (0 : Int)), (.int .i64 (0 : Int)), (.slice none 0 0), (.slice none 0 0)] 29] w1030 at H
   refine lx_nil ?_
   have H : Heap w0 [oA (rList Rimpl_Edge) v1024 ([] : List Timpl_Edge), bA b1027 [(.int .i64 a0.1), (.int .i64 a0.2.1), v1021, v1024] 29, oA (rList rStr) v1021 (([] : List Str) ++ a0.2.2.1), bA b50 [(.int .i64 (0 : Int)), (.int .i64 (0 : Int)), (.slice none 0 0), (.slice none 0 0)] 29] w1030 := H.front 2 rfl
   have H : Heap w0 [oA (rList rStr) v1021 (([] : List Str) ++ a0.2.2.1), oA (rList Rimpl_Edge) v1024 ([] : List Timpl_Edge), bA b1027 [(.int .i64 a0.1), (.int .i64 a0.2.1), v1021, v1024] 29, bA b50 [(.int .i64 (0 : Int)), (.int .i64 (0 : Int)), (.slice none 0 0), (.slice none 0 0)] 29] w1030 := H.front 2 rfl
   have H : Heap w0 [bA b1027 [(.int .i64 a0.1), (.int .i64 a0.2.1), v1021, v1024] 29, oA (rList rStr) v1021 (([] : List Str) ++ a0.2.2.1), oA (rList Rimpl_Edge) v1024 ([] : List Timpl_Edge), bA b50 [(.int .i64 (0 : Int)), (.int .i64 (0 : Int)), (.slice none 0 0), (.slice none 0 0)] 29] w1030 := H.front 2 rfl
   have H : Heap w0 [bA b50 [(.int .i64 (0 : Int)), (.int .i64 (0 : Int)), (.slice none 0 0), (.slice none 0 0)] 29, bA b1027 [(.int .i64 a0.1), (.int .i64 a0.2.1), v1021, v1024] 29, oA (rList rStr) v1021 (([] : List Str) ++ a0.2.2.1), oA (rList Rimpl_Edge) v1024 ([] : List Timpl_Edge)] w1030 := H.front 3 rfl
   exact ⟨a0.1, a0.2.1, (([] : List Str) ++ a0.2.2.1), ([] : List Timpl_Edge), b1027, v1021, v1024, S.sub ⟨rfl, rfl, rfl, trivial⟩, H, hm⟩
  ·skip
   refine lx_buildSlice0 (r := Rimpl_Edge) S trivial (by decide) rfl H Tryz.underlying27 Tryz.sizeOf62 (fun v1024 w1025 H => ⟨H.sel [] (by decide), fun a S => ?_⟩)
   refine lx_buildSlice0 (r := rStr) S trivial (by decide) rfl H Tryz.underlying22 Tryz.sizeOf9 (fun v1016 w1017 H => ⟨H.sel [] (by decide), fun a S => ?_⟩)
   refine lx_alloc S trivial (by decide) rfl H Tryz.zeroValue29 rfl (fun b1027 w1028 H => ⟨H.sel [] (by decide), fun a S => ?_⟩)
   refine lq p0 S (q_move rfl) fun a S => ?_
   refine lq p0 S (q_nilCheck rfl ((hat33 0 _ rfl).isP)) fun a S => ?_
   refine lq (pAdd p0 2) S (q_fieldAddr' 2 22 rfl ((hat33 0 _ rfl).isP) Tryz.underlying29 rfl Tryz.sizeOf22) fun a S => ?_
   refine lq v34 S (q_load1 rfl Tryz.isAgg22 (fun w1 hC => (At.of_add (m := 2) (j := 0) ((hat33 2 _ rfl).ext hC.ext)))) fun a S => ?_
   obtain ⟨x1019, e1020, hm⟩ := bind_some hm
   obtain ⟨hle, hap⟩ := app_some e1020
   replace hap := hap.symm
   subst hap
   have H : Heap w0 [oA (rList rStr) v1016 ([] : List Str), bA b1027 [(.int .i64 (0 : Int)), (.int .i64 (0 : Int)), (.slice none 0 0), (.slice none 0 0)] 29, oA (rList Rimpl_Edge) v1024 ([] : List Timpl_Edge), bA b50 [(.int .i64 (0 : Int)), (.int .i64 (0 : Int)), (.slice none 0 0), (.slice none 0 0)] 29] w1028 := H.front 1 rfl
   refine lx_appendRd (r := rStr) S trivial (by decide) rfl H flat_str (H.arg h35) rfl rfl Tryz.underlying22 Tryz.ti9 rfl rfl rfl (by decide) (by decide) hle (fun v1021 w1022 H => ⟨H.sel [] (by decide), fun a S => ?_⟩)
   refine lq p0 S (q_move rfl) fun a S => ?_
   refine lq p0 S (q_nilCheck rfl ((hat33 0 _ rfl).isP)) fun a S => ?_
   refine lq (pAdd p0 0) S (q_fieldAddr' 0 2 rfl ((hat33 0 _ rfl).isP) Tryz.underlying29 rfl Tryz.sizeOf2) fun a S => ?_
   refine lq (.int .i64 a0.1) S (q_load1 rfl Tryz.isAgg2 (fun w1 hC => (At.of_add (m := 0) (j := 0) ((hat33 0 _ rfl).ext hC.ext)))) fun a S => ?_
   refine lq p0 S (q_move rfl) fun a S => ?_
   refine lq p0 S (q_nilCheck rfl ((hat33 0 _ rfl).isP)) fun a S => ?_
   refine lq (pAdd p0 1) S (q_fieldAddr' 1 2 rfl ((hat33 0 _ rfl).isP) Tryz.underlying29 rfl Tryz.sizeOf2) fun a S => ?_
   refine lq (.int .i64 a0.2.1) S (q_load1 rfl Tryz.isAgg2 (fun w1 hC => (At.of_add (m := 1) (j := 0) ((hat33 1 _ rfl).ext hC.ext)))) fun a S => ?_
   refine lq (.agg #[(.int .i64 a0.1), (.int .i64 a0.2.1), v1021, v1024]) S (q_build (zs := [(.int .i64 (0 : Int)), (.int .i64 (0 : Int)), (.slice none 0 0), (.slice none 0 0)]) (szs := [1, 1, 1, 1]) (ps := [(0, [(.int .i64 a0.1)]), (1, [(.int .i64 a0.2.1)]), (2, [v1021]), (3, [v1024])]) (parts := [(0, .tmp 12), (1, .tmp 16), (2, .tmp 22), (3, .tmp 23)]) rfl Tryz.underlying29 Tryz.zeroValue29 (fun w => by simp [Tryz.sizeOf2, Tryz.sizeOf22, Tryz.sizeOf27]) ⟨rfl, rfl, Nat.le_of_ble_eq_true rfl, ⟨rfl, rfl, Nat.le_of_ble_eq_true rfl, ⟨rfl, (cells_sl (H.isSl 0 rfl)), Nat.le_of_ble_eq_true rfl, ⟨rfl, (cells_sl (H.isSl 2 rfl)), Nat.le_of_ble_eq_true rfl, trivial⟩⟩⟩⟩ rfl) fun a S => ?_
   refine lx_storeBox (o := 0) (i := 1) (us := [(.int .i64 a0.1), (.int .i64 a0.2.1), v1021, v1024]) (cs' := [(.int .i64 a0.1), (.int .i64 a0.2.1), v1021, v1024]) S trivial rfl H rfl rfl rfl rfl Tryz.sizeOf29 (Nat.le_of_ble_eq_true rfl) (List.forall_mem_cons.2 ⟨rfl, (List.forall_mem_cons.2 ⟨rfl, (List.forall_mem_cons.2 ⟨one_sl (H.isSl 0 rfl), (List.forall_mem_cons.2 ⟨one_sl (H.isSl 2 rfl), (fun _ h => nomatch h)⟩)⟩)⟩)⟩) rfl (fun w1030 H => ⟨H.sel [] (by decide), fun a S => ?_⟩)
   change Heap w0 [oA (rList rStr) v1021 (([] : List Str) ++ a0.2.2.1), bA b1027 [(.int .i64 a0.1), (.int .i64 a0.2.1), v1021, v1024] 29, oA (rList Rimpl_Edge) v1024 ([] : List Timpl_Edge), bA b50 [(.int .i64 (0 : Int)), (.int .i64 (0 : Int)), (.slice none 0 0), (.slice none 0 0)] 29] w1030 at H
   refine lx_nil ?_
   have H : Heap w0 [oA (rList Rimpl_Edge) v1024 ([] : List Timpl_Edge), oA (rList rStr) v1021 (([] : List Str) ++ a0.2.2.1), bA b1027 [(.int .i64 a0.1), (.int .i64 a0.2.1), v1021, v1024] 29, bA b50 [(.int .i64 (0 : Int)), (.int .i64 (0 : Int)), (.slice none 0 0), (.slice none 0 0)] 29] w1030 := H.front 2 rfl
   have H : Heap w0 [oA (rList rStr) v1021 (([] : List Str) ++ a0.2.2.1), oA (rList Rimpl_Edge) v1024 ([] : List Timpl_Edge), bA b1027 [(.int .i64 a0.1), (.int .i64 a0.2.1), v1021, v1024] 29, bA b50 [(.int .i64 (0 : Int)), (.int .i64 (0 : Int)), (.slice none 0 0), (.slice none 0 0)] 29] w1030 := H.front 1 rfl
   have H : Heap w0 [bA b1027 [(.int .i64 a0.1), (.int .i64 a0.2.1), v1021, v1024] 29, oA (rList rStr) v1021 (([] : List Str) ++ a0.2.2.1), oA (rList Rimpl_Edge) v1024 ([] : List Timpl_Edge), bA b50 [(.int .i64 (0 : Int)), (.int .i64 (0 : Int)), (.slice none 0 0), (.slice none 0 0)] 29] w1030 := H.front 2 rfl
   have H : Heap w0 [bA b50 [(.int .i64 (0 : Int)), (.int .i64 (0 : Int)), (.slice none 0 0), (.slice none 0 0)] 29, bA b1027 [(.int .i64 a0.1), (.int .i64 a0.2.1), v1021, v1024] 29, oA (rList rStr) v1021 (([] : List Str) ++ a0.2.2.1), oA (rList Rimpl_Edge) v1024 ([] : List Timpl_Edge)] w1030 := H.front 3 rfl
   exact ⟨a0.1, a0.2.1, (([] : List Str) ++ a0.2.2.1), ([] : List Timpl_Edge), b1027, v1021, v1024, S.sub ⟨rfl, rfl, rfl, trivial⟩, H, hm⟩
  ·skip
   refine lx_buildSlice0 (r := Rimpl_Edge) S trivial (by decide) rfl H Tryz.underlying27 Tryz.sizeOf62 (fun v1024 w1025 H => ⟨H.sel [] (by decide), fun a S => ?_⟩)
   refine lx_alloc S trivial (by decide) rfl H Tryz.zeroValue29 rfl (fun b1027 w1028 H => ⟨H.sel [] (by decide), fun a S => ?_⟩)
   refine lx_buildSlice0 (r := rStr) S trivial (by decide) rfl H Tryz.underlying22 Tryz.sizeOf9 (fun v1016 w1017 H => ⟨H.sel [] (by decide), fun a S => ?_⟩)
   refine lq p0 S (q_move rfl) fun a S => ?_
   refine lq p0 S (q_nilCheck rfl ((hat33 0 _ rfl).isP)) fun a S => ?_
   refine lq (pAdd p0 2) S (q_fieldAddr' 2 22 rfl ((hat33 0 _ rfl).isP) Tryz.underlying29 rfl Tryz.sizeOf22) fun a S => ?_
   refine lq v34 S (q_load1 rfl Tryz.isAgg22 (fun w1 hC => (At.of_add (m := 2) (j := 0) ((hat33 2 _ rfl).ext hC.ext)))) fun a S => ?_
   obtain ⟨x1019, e1020, hm⟩ := bind_some hm
   obtain ⟨hle, hap⟩ := app_some e1020
   replace hap := hap.symm
   subst hap
   refine lx_appendRd (r := rStr) S trivial (by decide) rfl H flat_str (H.arg h35) rfl rfl Tryz.underlying22 Tryz.ti9 rfl rfl rfl (by decide) (by decide) hle (fun v1021 w1022 H => ⟨H.sel [] (by decide), fun a S => ?_⟩)
   refine lq p0 S (q_move rfl) fun a S => ?_
   refine lq p0 S (q_nilCheck rfl ((hat33 0 _ rfl).isP)) fun a S => ?_
   refine lq (pAdd p0 0) S (q_fieldAddr' 0 2 rfl ((hat33 0 _ rfl).isP) Tryz.underlying29 rfl Tryz.sizeOf2) fun a S => ?_
   refine lq (.int .i64 a0.1) S (q_load1 rfl Tryz.isAgg2 (fun w1 hC => (At.of_add (m := 0) (j := 0) ((hat33 0 _ rfl).ext hC.ext)))) fun a S => ?_
   refine lq p0 S (q_move rfl) fun a S => ?_
   refine lq p0 S (q_nilCheck rfl ((hat33 0 _ rfl).isP)) fun a S => ?_
   refine lq (pAdd p0 1) S (q_fieldAddr' 1 2 rfl ((hat33 0 _ rfl).isP) Tryz.underlying29 rfl Tryz.sizeOf2) fun a S => ?_
   refine lq (.int .i64 a0.2.1) S (q_load1 rfl Tryz.isAgg2 (fun w1 hC => (At.of_add (m := 1) (j := 0) ((hat33 1 _ rfl).ext hC.ext)))) fun a S => ?_
   refine lq (.agg #[(.int .i64 a0.1), (.int .i64 a0.2.1), v1021, v1024]) S (q_build (zs := [(.int .i64 (0 : Int)), (.int .i64 (0 : Int)), (.slice none 0 0), (.slice none 0 0)]) (szs := [1, 1, 1, 1]) (ps := [(0, [(.int .i64 a0.1)]), (1, [(.int .i64 a0.2.1)]), (2, [v1021]), (3, [v1024])]) (parts := [(0, .tmp 12), (1, .tmp 16), (2, .tmp 22), (3, .tmp 23)]) rfl Tryz.underlying29 Tryz.zeroValue29 (fun w => by simp [Tryz.sizeOf2, Tryz.sizeOf22, Tryz.sizeOf27]) ⟨rfl, rfl, Nat.le_of_ble_eq_true rfl, ⟨rfl, rfl, Nat.le_of_ble_eq_true rfl, ⟨rfl, (cells_sl (H.isSl 0 rfl)), Nat.le_of_ble_eq_true rfl, ⟨rfl, (cells_sl (H.isSl 2 rfl)), Nat.le_of_ble_eq_true rfl, trivial⟩⟩⟩⟩ rfl) fun a S => ?_
   refine lx_storeBox (o := 0) (i := 1) (us := [(.int .i64 a0.1), (.int .i64 a0.2.1), v1021, v1024]) (cs' := [(.int .i64 a0.1), (.int .i64 a0.2.1), v1021, v1024]) S trivial rfl H rfl rfl rfl rfl Tryz.sizeOf29 (Nat.le_of_ble_eq_true rfl) (List.forall_mem_cons.2 ⟨rfl, (List.forall_mem_cons.2 ⟨rfl, (List.forall_mem_cons.2 ⟨one_sl (H.isSl 0 rfl), (List.forall_mem_cons.2 ⟨one_sl (H.isSl 2 rfl), (fun _ h => nomatch h)⟩)⟩)⟩)⟩) rfl (fun w1030 H => ⟨H.sel [] (by decide), fun a S => ?_⟩)
   change Heap w0 [oA (rList rStr) v1021 (([] : List Str) ++ a0.2.2.1), bA b1027 [(.int .i64 a0.1), (.int .i64 a0.2.1), v1021, v1024] 29, oA (rList Rimpl_Edge) v1024 ([] : List Timpl_Edge), bA b50 [(.int .i64 (0 : Int)), (.int .i64 (0 : Int)), (.slice none 0 0), (.slice none 0 0)] 29] w1030 at H
   refine lx_nil ?_
   have H : Heap w0 [oA (rList Rimpl_Edge) v1024 ([] : List Timpl_Edge), oA (rList rStr) v1021 (([] : List Str) ++ a0.2.2.1), bA b1027 [(.int .i64 a0.1), (.int .i64 a0.2.1), v1021, v1024] 29, bA b50 [(.int .i64 (0 : Int)), (.int .i64 (0 : Int)), (.slice none 0 0), (.slice none 0 0)] 29] w1030 := H.front 2 rfl
   have H : Heap w0 [oA (rList rStr) v1021 (([] : List Str) ++ a0.2.2.1), oA (rList Rimpl_Edge) v1024 ([] : List Timpl_Edge), bA b1027 [(.int .i64 a0.1), (.int .i64 a0.2.1), v1021, v1024] 29, bA b50 [(.int .i64 (0 : Int)), (.int .i64 (0 : Int)), (.slice none 0 0), (.slice none 0 0)] 29] w1030 := H.front 1 rfl
   have H : Heap w0 [bA b1027 [(.int .i64 a0.1), (.int .i64 a0.2.1), v1021, v1024] 29, oA (rList rStr) v1021 (([] : List Str) ++ a0.2.2.1), oA (rList Rimpl_Edge) v1024 ([] : List Timpl_Edge), bA b50 [(.int .i64 (0 : Int)), (.int .i64 (0 : Int)), (.slice none 0 0), (.slice none 0 0)] 29] w1030 := H.front 2 rfl
   have H : Heap w0 [bA b50 [(.int .i64 (0 : Int)), (.int .i64 (0 : Int)), (.slice none 0 0), (.slice none 0 0)] 29, bA b1027 [(.int .i64 a0.1), (.int .i64 a0.2.1), v1021, v1024] 29, oA (rList rStr) v1021 (([] : List Str) ++ a0.2.2.1), oA (rList Rimpl_Edge) v1024 ([] : List Timpl_Edge)] w1030 := H.front 3 rfl
   exact ⟨a0.1, a0.2.1, (([] : List Str) ++ a0.2.2.1), ([] : List Timpl_Edge), b1027, v1021, v1024, S.sub ⟨rfl, rfl, rfl, trivial⟩, H, hm⟩
  ·skip
   refine lx_alloc S trivial (by decide) rfl H Tryz.zeroValue29 rfl (fun b1027 w1028 H => ⟨H.sel [] (by decide), fun a S => ?_⟩)
   refine lx_buildSlice0 (r := rStr) S trivial (by decide) rfl H Tryz.underlying22 Tryz.sizeOf9 (fun v1016 w1017 H => ⟨H.sel [] (by decide), fun a S => ?_⟩)
   refine lq p0 S (q_move rfl) fun a S => ?_
   refine lq p0 S (q_nilCheck rfl ((hat33 0 _ rfl).isP)) fun a S => ?_
   refine lq (pAdd p0 2) S (q_fieldAddr' 2 22 rfl ((hat33 0 _ rfl).isP) Tryz.underlying29 rfl Tryz.sizeOf22) fun a S => ?_
   refine lq v34 S (q_load1 rfl Tryz.isAgg22 (fun w1 hC => (At.of_add (m := 2) (j := 0) ((hat33 2 _ rfl).ext hC.ext)))) fun a S => ?_
   obtain ⟨x1019, e1020, hm⟩ := bind_some hm
   obtain ⟨hle, hap⟩ := app_some e1020
   replace hap := hap.symm
   subst hap
   refine lx_appendRd (r := rStr) S trivial (by decide) rfl H flat_str (H.arg h35) rfl rfl Tryz.underlying22 Tryz.ti9 rfl rfl rfl (by decide) (by decide) hle (fun v1021 w1022 H => ⟨H.sel [] (by decide), fun a S => ?_⟩)
   refine lx_buildSlice0 (r := Rimpl_Edge) S trivial (by decide) rfl H Tryz.underlying27 Tryz.sizeOf62 (fun v1024 w1025 H => ⟨H.sel [] (by decide), fun a S => ?_⟩)
   refine lq p0 S (q_move rfl) fun a S => ?_
   refine lq p0 S (q_nilCheck rfl ((hat33 0 _ rfl).isP)) fun a S => ?_
   refine lq (pAdd p0 0) S (q_fieldAddr' 0 2 rfl ((hat33 0 _ rfl).isP) Tryz.underlying29 rfl Tryz.sizeOf2) fun a S => ?_
   refine lq (.int .i64 a0.1) S (q_load1 rfl Tryz.isAgg2 (fun w1 hC => (At.of_add (m := 0) (j := 0) ((hat33 0 _ rfl).ext hC.ext)))) fun a S => ?_
   refine lq p0 S (q_move rfl) fun a S => ?_
   refine lq p0 S (q_nilCheck rfl ((hat33 0 _ rfl).isP)) fun a S => ?_
   refine lq (pAdd p0 1) S (q_fieldAddr' 1 2 rfl ((hat33 0 _ rfl).isP) Tryz.underlying29 rfl Tryz.sizeOf2) fun a S => ?_
   refine lq (.int .i64 a0.2.1) S (q_load1 rfl Tryz.isAgg2 (fun w1 hC => (At.of_add (m := 1) (j := 0) ((hat33 1 _ rfl).ext hC.ext)))) fun a S => ?_
   refine lq (.agg #[(.int .i64 a0.1), (.int .i64 a0.2.1), v1021, v1024]) S (q_build (zs := [(.int .i64 (0 : Int)), (.int .i64 (0 : Int)), (.slice none 0 0), (.slice none 0 0)]) (szs := [1, 1, 1, 1]) (ps := [(0, [(.int .i64 a0.1)]), (1, [(.int .i64 a0.2.1)]), (2, [v1021]), (3, [v1024])]) (parts := [(0, .tmp 12), (1, .tmp 16), (2, .tmp 22), (3, .tmp 23)]) rfl Tryz.underlying29 Tryz.zeroValue29 (fun w => by simp [Tryz.sizeOf2, Tryz.sizeOf22, Tryz.sizeOf27]) ⟨rfl, rfl, Nat.le_of_ble_eq_true rfl, ⟨rfl, rfl, Nat.le_of_ble_eq_true rfl, ⟨rfl, (cells_sl (H.isSl 1 rfl)), Nat.le_of_ble_eq_true rfl, ⟨rfl, (cells_sl (H.isSl 0 rfl)), Nat.le_of_ble_eq_true rfl, trivial⟩⟩⟩⟩ rfl) fun a S => ?_
   refine lx_storeBox (o := 0) (i := 2) (us := [(.int .i64 a0.1), (.int .i64 a0.2.1), v1021, v1024]) (cs' := [(.int .i64 a0.1), (.int .i64 a0.2.1), v1021, v1024]) S trivial rfl H rfl rfl rfl rfl Tryz.sizeOf29 (Nat.le_of_ble_eq_true rfl) (List.forall_mem_cons.2 ⟨rfl, (List.forall_mem_cons.2 ⟨rfl, (List.forall_mem_cons.2 ⟨one_sl (H.isSl 1 rfl), (List.forall_mem_cons.2 ⟨one_sl (H.isSl 0 rfl), (fun _ h => nomatch h)⟩)⟩)⟩)⟩) rfl (fun w1030 H => ⟨H.sel [] (by decide), fun a S => ?_⟩)
   change Heap w0 [oA (rList Rimpl_Edge) v1024 ([] : List Timpl_Edge), oA (rList rStr) v1021 (([] : List Str) ++ a0.2.2.1), bA b1027 [(.int .i64 a0.1), (.int .i64 a0.2.1), v1021, v1024] 29, bA b50 [(.int .i64 (0 : Int)), (.int .i64 (0 : Int)), (.slice none 0 0), (.slice none 0 0)] 29] w1030 at H
   refine lx_nil ?_
   have H : Heap w0 [oA (rList rStr) v1021 (([] : List Str) ++ a0.2.2.1), oA (rList Rimpl_Edge) v1024 ([] : List Timpl_Edge), bA b1027 [(.int .i64 a0.1), (.int .i64 a0.2.1), v1021, v1024] 29, bA b50 [(.int .i64 (0 : Int)), (.int .i64 (0 : Int)), (.slice none 0 0), (.slice none 0 0)] 29] w1030 := H.front 1 rfl
   have H : Heap w0 [bA b1027 [(.int .i64 a0.1), (.int .i64 a0.2.1), v1021, v1024] 29, oA (rList rStr) v1021 (([] : List Str) ++ a0.2.2.1), oA (rList Rimpl_Edge) v1024 ([] : List Timpl_Edge), bA b50 [(.int .i64 (0 : Int)), (.int .i64 (0 : Int)), (.slice none 0 0), (.slice none 0 0)] 29] w1030 := H.front 2 rfl
   have H : Heap w0 [bA b50 [(.int .i64 (0 : Int)), (.int .i64 (0 : Int)), (.slice none 0 0), (.slice none 0 0)] 29, bA b1027 [(.int .i64 a0.1), (.int .i64 a0.2.1), v1021, v1024] 29, oA (rList rStr) v1021 (([] : List Str) ++ a0.2.2.1), oA (rList Rimpl_Edge) v1024 ([] : List Timpl_Edge)] w1030 := H.front 3 rfl
   exact ⟨a0.1, a0.2.1, (([] : List Str) ++ a0.2.2.1), ([] : List Timpl_Edge), b1027, v1021, v1024, S.sub ⟨rfl, rfl, rfl, trivial⟩, H, hm⟩
  ·skip
   refine lx_alloc S trivial (by decide) rfl H Tryz.zeroValue29 rfl (fun b1027 w1028 H => ⟨H.sel [] (by decide), fun a S => ?_⟩)
   refine lx_buildSlice0 (r := rStr) S trivial (by decide) rfl H Tryz.underlying22 Tryz.sizeOf9 (fun v1016 w1017 H => ⟨H.sel [] (by decide), fun a S => ?_⟩)
   refine lx_buildSlice0 (r := Rimpl_Edge) S trivial (by decide) rfl H Tryz.underlying27 Tryz.sizeOf62 (fun v1024 w1025 H => ⟨H.sel [] (by decide), fun a S => ?_⟩)
   refine lq p0 S (q_move rfl) fun a S => ?_
   refine lq p0 S (q_nilCheck rfl ((hat33 0 _ rfl).isP)) fun a S => ?_
   refine lq (pAdd p0 2) S (q_fieldAddr' 2 22 rfl ((hat33 0 _ rfl).isP) Tryz.underlying29 rfl Tryz.sizeOf22) fun a S => ?_
   refine lq v34 S (q_load1 rfl Tryz.isAgg22 (fun w1 hC => (At.of_add (m := 2) (j := 0) ((hat33 2 _ rfl).ext hC.ext)))) fun a S => ?_
   obtain ⟨x1019, e1020, hm⟩ := bind_some hm
   obtain ⟨hle, hap⟩ := app_some e1020
   replace hap := hap.symm
   subst hap
   have H : Heap w0 [oA (rList rStr) v1016 ([] : List Str), oA (rList Rimpl_Edge) v1024 ([] : List Timpl_Edge), bA b1027 [(.int .i64 (0 : Int)), (.int .i64 (0 : Int)), (.slice none 0 0), (.slice none 0 0)] 29, bA b50 [(.int .i64 (0 : Int)), (.int .i64 (0 : Int)), (.slice none 0 0), (.slice none 0 0)] 29] w1025 := H.front 1 rfl
   refine lx_appendRd (r := rStr) S trivial (by decide) rfl H flat_str (H.arg h35) rfl rfl Tryz.underlying22 Tryz.ti9 rfl rfl rfl (by decide) (by decide) hle (fun v1021 w1022 H => ⟨H.sel [] (by decide), fun a S => ?_⟩)
   refine lq p0 S (q_move rfl) fun a S => ?_
   refine lq p0 S (q_nilCheck rfl ((hat33 0 _ rfl).isP)) fun a S => ?_
   refine lq (pAdd p0 0) S (q_fieldAddr' 0 2 rfl ((hat33 0 _ rfl).isP) Tryz.underlying29 rfl Tryz.sizeOf2) fun a S => ?_
   refine lq (.int .i64 a0.1) S (q_load1 rfl Tryz.isAgg2 (fun w1 hC => (At.of_add (m := 0) (j := 0) ((hat33 0 _ rfl).ext hC.ext)))) fun a S => ?_
   refine lq p0 S (q_move rfl) fun a S => ?_
   refine lq p0 S (q_nilCheck rfl ((hat33 0 _ rfl).isP)) fun a S => ?_
   refine lq (pAdd p0 1) S (q_fieldAddr' 1 2 rfl ((hat33 0 _ rfl).isP) Tryz.underlying29 rfl Tryz.sizeOf2) fun a S => ?_
   refine lq (.int .i64 a0.2.1) S (q_load1 rfl Tryz.isAgg2 (fun w1 hC => (At.of_add (m := 1) (j := 0) ((hat33 1 _ rfl).ext hC.ext)))) fun a S => ?_
   refine lq (.agg #[(.int .i64 a0.1), (.int .i64 a0.2.1), v1021, v1024]) S (q_build (zs := [(.int .i64 (0 : Int)), (.int .i64 (0 : Int)), (.slice none 0 0), (.slice none 0 0)]) (szs := [1, 1, 1, 1]) (ps := [(0, [(.int .i64 a0.1)]), (1, [(.int .i64 a0.2.1)]), (2, [v1021]), (3, [v1024])]) (parts := [(0, .tmp 12), (1, .tmp 16), (2, .tmp 22), (3, .tmp 23)]) rfl Tryz.underlying29 Tryz.zeroValue29 (fun w => by simp [Tryz.sizeOf2, Tryz.sizeOf22, Tryz.sizeOf27]) ⟨rfl, rfl, Nat.le_of_ble_eq_true rfl, ⟨rfl, rfl, Nat.le_of_ble_eq_true rfl, ⟨rfl, (cells_sl (H.isSl 0 rfl)), Nat.le_of_ble_eq_true rfl, ⟨rfl, (cells_sl (H.isSl 1 rfl)), Nat.le_of_ble_eq_true rfl, trivial⟩⟩⟩⟩ rfl) fun a S => ?_
   refine lx_storeBox (o := 0) (i := 2) (us := [(.int .i64 a0.1), (.int .i64 a0.2.1), v1021, v1024]) (cs' := [(.int .i64 a0.1), (.int .i64 a0.2.1), v1021, v1024]) S trivial rfl H rfl rfl rfl rfl Tryz.sizeOf29 (Nat.le_of_ble_eq_true rfl) (List.forall_mem_cons.2 ⟨rfl, (List.forall_mem_cons.2 ⟨rfl, (List.forall_mem_cons.2 ⟨one_sl (H.isSl 0 rfl), (List.forall_mem_cons.2 ⟨one_sl (H.isSl 1 rfl), (fun _ h => nomatch h)⟩)⟩)⟩)⟩) rfl (fun w1030 H => ⟨H.sel [] (by decide), fun a S => ?_⟩)
   change Heap w0 [oA (rList rStr) v1021 (([] : List Str) ++ a0.2.2.1), oA (rList Rimpl_Edge) v1024 ([] : List Timpl_Edge), bA b1027 [(.int .i64 a0.1), (.int .i64 a0.2.1), v1021, v1024] 29, bA b50 [(.int .i64 (0 : Int)), (.int .i64 (0 : Int)), (.slice none 0 0), (.slice none 0 0)] 29] w1030 at H
   refine lx_nil ?_
   have H : Heap w0 [oA (rList Rimpl_Edge) v1024 ([] : List Timpl_Edge), oA (rList rStr) v1021 (([] : List Str) ++ a0.2.2.1), bA b1027 [(.int .i64 a0.1), (.int .i64 a0.2.1), v1021, v1024] 29, bA b50 [(.int .i64 (0 : Int)), (.int .i64 (0 : Int)), (.slice none 0 0), (.slice none 0 0)] 29] w1030 := H.front 1 rfl
   have H : Heap w0 [oA (rList rStr) v1021 (([] : List Str) ++ a0.2.2.1), oA (rList Rimpl_Edge) v1024 ([] : List Timpl_Edge), bA b1027 [(.int .i64 a0.1), (.int .i64 a0.2.1), v1021, v1024] 29, bA b50 [(.int .i64 (0 : Int)), (.int .i64 (0 : Int)), (.slice none 0 0), (.slice none 0 0)] 29] w1030 := H.front 1 rfl
   have H : Heap w0 [bA b1027 [(.int .i64 a0.1), (.int .i64 a0.2.1), v1021, v1024] 29, oA (rList rStr) v1021 (([] : List Str) ++ a0.2.2.1), oA (rList Rimpl_Edge) v1024 ([] : List Timpl_Edge), bA b50 [(.int .i64 (0 : Int)), (.int .i64 (0 : Int)), (.slice none 0 0), (.slice none 0 0)] 29] w1030 := H.front 2 rfl
   have H : Heap w0 [bA b50 [(.int .i64 (0 : Int)), (.int .i64 (0 : Int)), (.slice none 0 0), (.slice none 0 0)] 29, bA b1027 [(.int .i64 a0.1), (.int .i64 a0.2.1), v1021, v1024] 29, oA (rList rStr) v1021 (([] : List Str) ++ a0.2.2.1), oA (rList Rimpl_Edge) v1024 ([] : List Timpl_Edge)] w1030 := H.front 3 rfl
   exact ⟨a0.1, a0.2.1, (([] : List Str) ++ a0.2.2.1), ([] : List Timpl_Edge), b1027, v1021, v1024, S.sub ⟨rfl, rfl, rfl, trivial⟩, H, hm⟩
  ·skip
   refine lx_alloc S trivial (by decide) rfl H Tryz.zeroValue29 rfl (fun b1027 w1028 H => ⟨H.sel [] (by decide), fun a S => ?_⟩)
   refine lx_buildSlice0 (r := Rimpl_Edge) S trivial (by decide) rfl H Tryz.underlying27 Tryz.sizeOf62 (fun v1024 w1025 H => ⟨H.sel [] (by decide), fun a S => ?_⟩)
   refine lx_buildSlice0 (r := rStr) S trivial (by decide) rfl H Tryz.underlying22 Tryz.sizeOf9 (fun v1016 w1017 H => ⟨H.sel [] (by decide), fun a S => ?_⟩)
   refine lq p0 S (q_move rfl) fun a S => ?_
   refine lq p0 S (q_nilCheck rfl ((hat33 0 _ rfl).isP)) fun a S => ?_
   refine lq (pAdd p0 2) S (q_fieldAddr' 2 22 rfl ((hat33 0 _ rfl).isP) Tryz.underlying29 rfl Tryz.sizeOf22) fun a S => ?_
   refine lq v34 S (q_load1 rfl Tryz.isAgg22 (fun w1 hC => (At.of_add (m := 2) (j := 0) ((hat33 2 _ rfl).ext hC.ext)))) fun a S => ?_
   obtain ⟨x1019, e1020, hm⟩ := bind_some hm
   obtain ⟨hle, hap⟩ := app_some e1020
   replace hap := hap.symm
   subst hap
   refine lx_appendRd (r := rStr) S trivial (by decide) rfl H flat_str (H.arg h35) rfl rfl Tryz.underlying22 Tryz.ti9 rfl rfl rfl (by decide) (by decide) hle (fun v1021 w1022 H => ⟨H.sel [] (by decide), fun a S => ?_⟩)
   refine lq p0 S (q_move rfl) fun a S => ?_
   refine lq p0 S (q_nilCheck rfl ((hat33 0 _ rfl).isP)) fun a S => ?_
   refine lq (pAdd p0 0) S (q_fieldAddr' 0 2 rfl ((hat33 0 _ rfl).isP) Tryz.underlying29 rfl Tryz.sizeOf2) fun a S => ?_
   refine lq (.int .i64 a0.1) S (q_load1 rfl Tryz.isAgg2 (fun w1 hC => (At.of_add (m := 0) (j := 0) ((hat33 0 _ rfl).ext hC.ext)))) fun a S => ?_
   refine lq p0 S (q_move rfl) fun a S => ?_
   refine lq p0 S (q_nilCheck rfl ((hat33 0 _ rfl).isP)) fun a S => ?_
   refine lq (pAdd p0 1) S (q_fieldAddr' 1 2 rfl ((hat33 0 _ rfl).isP) Tryz.underlying29 rfl Tryz.sizeOf2) fun a S => ?_
   refine lq (.int .i64 a0.2.1) S (q_load1 rfl Tryz.isAgg2 (fun w1 hC => (At.of_add (m := 1) (j := 0) ((hat33 1 _ rfl).ext hC.ext)))) fun a S => ?_
   refine lq (.agg #[(.int .i64 a0.1), (.int .i64 a0.2.1), v1021, v1024]) S (q_build (zs := [(.int .i64 (0 : Int)), (.int .i64 (0 : Int)), (.slice none 0 0), (.slice none 0 0)]) (szs := [1, 1, 1, 1]) (ps := [(0, [(.int .i64 a0.1)]), (1, [(.int .i64 a0.2.1)]), (2, [v1021]), (3, [v1024])]) (parts := [(0, .tmp 12), (1, .tmp 16), (2, .tmp 22), (3, .tmp 23)]) rfl Tryz.underlying29 Tryz.zeroValue29 (fun w => by simp [Tryz.sizeOf2, Tryz.sizeOf22, Tryz.sizeOf27]) ⟨rfl, rfl, Nat.le_of_ble_eq_true rfl, ⟨rfl, rfl, Nat.le_of_ble_eq_true rfl, ⟨rfl, (cells_sl (H.isSl 0 rfl)), Nat.le_of_ble_eq_true rfl, ⟨rfl, (cells_sl (H.isSl 1 rfl)), Nat.le_of_ble_eq_true rfl, trivial⟩⟩⟩⟩ rfl) fun a S => ?_
   refine lx_storeBox (o := 0) (i := 2) (us := [(.int .i64 a0.1), (.int .i64 a0.2.1), v1021, v1024]) (cs' := [(.int .i64 a0.1), (.int .i64 a0.2.1), v1021, v1024]) S trivial rfl H rfl rfl rfl rfl Tryz.sizeOf29 (Nat.le_of_ble_eq_true rfl) (List.forall_mem_cons.2 ⟨rfl, (List.forall_mem_cons.2 ⟨rfl, (List.forall_mem_cons.2 ⟨one_sl (H.isSl 0 rfl), (List.forall_mem_cons.2 ⟨one_sl (H.isSl 1 rfl), (fun _ h => nomatch h)⟩)⟩)⟩)⟩) rfl (fun w1030 H => ⟨H.sel [] (by decide), fun a S => ?_⟩)
   change Heap w0 [oA (rList rStr) v1021 (([] : List Str) ++ a0.2.2.1), oA (rList Rimpl_Edge) v1024 ([] : List Timpl_Edge), bA b1027 [(.int .i64 a0.1), (.int .i64 a0.2.1), v1021, v1024] 29, bA b50 [(.int .i64 (0 : Int)), (.int .i64 (0 : Int)), (.slice none 0 0), (.slice none 0 0)] 29] w1030 at H
   refine lx_nil ?_
   have H : Heap w0 [oA (rList Rimpl_Edge) v1024 ([] : List Timpl_Edge), oA (rList rStr) v1021 (([] : List Str) ++ a0.2.2.1), bA b1027 [(.int .i64 a0.1), (.int .i64 a0.2.1), v1021, v1024] 29, bA b50 [(.int .i64 (0 : Int)), (.int .i64 (0 : Int)), (.slice none 0 0), (.slice none 0 0)] 29] w1030 := H.front 1 rfl
   have H : Heap w0 [oA (rList rStr) v1021 (([] : List Str) ++ a0.2.2.1), oA (rList Rimpl_Edge) v1024 ([] : List Timpl_Edge), bA b1027 [(.int .i64 a0.1), (.int .i64 a0.2.1), v1021, v1024] 29, bA b50 [(.int .i64 (0 : Int)), (.int .i64 (0 : Int)), (.slice none 0 0), (.slice none 0 0)] 29] w1030 := H.front 1 rfl
   have H : Heap w0 [bA b1027 [(.int .i64 a0.1), (.int .i64 a0.2.1), v1021, v1024] 29, oA (rList rStr) v1021 (([] : List Str) ++ a0.2.2.1), oA (rList Rimpl_Edge) v1024 ([] : List Timpl_Edge), bA b50 [(.int .i64 (0 : Int)), (.int .i64 (0 : Int)), (.slice none 0 0), (.slice none 0 0)] 29] w1030 := H.front 2 rfl
   have H : Heap w0 [bA b50 [(.int .i64 (0 : Int)), (.int .i64 (0 : Int)), (.slice none 0 0), (.slice none 0 0)] 29, bA b1027 [(.int .i64 a0.1), (.int .i64 a0.2.1), v1021, v1024] 29, oA (rList rStr) v1021 (([] : List Str) ++ a0.2.2.1), oA (rList Rimpl_Edge) v1024 ([] : List Timpl_Edge)] w1030 := H.front 3 rfl
   exact ⟨a0.1, a0.2.1, (([] : List Str) ++ a0.2.2.1), ([] : List Timpl_Edge), b1027, v1021, v1024, S.sub ⟨rfl, rfl, rfl, trivial⟩, H, hm⟩

/-- spec.SaturateLts -/
def spec_SaturateLts_m (fuel : Nat) (a0 : Timpl_Lts) : Option ((Timpl_Lts × Int)) :=
  (spec_l11Is_m fuel (a0.1, a0.2.1, a0.2.2.1, a0.2.2.2)).bind fun x57 => (if (!x57) = true then some ((((0 : Int), (0 : Int), [], []), (1 : Int))) else (spec_l16Saturate_m fuel (a0.1, a0.2.1, a0.2.2.1, a0.2.2.2)).bind fun x66 => (if (decide ((300 : Int) < (x66.2.2.2.length : Int))) = true then some ((((0 : Int), (0 : Int), [], []), (5 : Int))) else some (((x66.1, x66.2.1, x66.2.2.1, x66.2.2.2), (0 : Int)))))
set_option maxRecDepth 20000 in
theorem spec_SaturateLts_ok {w0 : World} {fuel : Nat} {p0 : Value} {a0 : Timpl_Lts} {r : (Timpl_Lts × Int)} (h0 : Rd Rimpl_Lts w0 p0 a0) (hm : spec_SaturateLts_m fuel a0 = some r) :
  Calls Tryz.prog 6 #[p0] w0 fun e w => ∃ (v0 : Value) (v1 : Value), e = .returned (.tuple #[.agg #[.int .i64 r.1.1, .int .i64 r.1.2.1, v0, v1], .int .i64 r.2]) ∧ Heap w0 [oA (rList rStr) v0 r.1.2.2.1, oA (rList Rimpl_Edge) v1 r.1.2.2.2] w := by
 unfold spec_SaturateLts_m at hm
 have H := Heap.start w0
 obtain ⟨c31, rfl, h32⟩ := h0
 obtain ⟨c37, c38, rfl, h39, h40⟩ := h32
 obtain rfl := h39
 obtain ⟨c41, c42, rfl, h43, h44⟩ := h40
 obtain rfl := h43
 obtain ⟨c45, c46, rfl, h47, h48⟩ := h44
 obtain ⟨v33, rfl, h34⟩ := rd_list h47
 obtain ⟨v35, rfl, h36⟩ := rd_list h48
 refine enter (args := [(.agg #[(.int .i64 a0.1), (.int .i64 a0.2.1), v33, v35])]) Tryz.func6 rfl 15 rfl (Nat.le_of_ble_eq_true rfl) (fun a S => ?_)
 refine wp_seq (region_plain ?_)
 refine lx_box S trivial (by decide) rfl H rfl rfl (fun b49 w50 H => ⟨trivial, fun a S => ?_⟩)
 refine lx_alloc S trivial (by decide) rfl H Tryz.zeroValue29 rfl (fun b52 w53 H => ⟨trivial, fun a S => ?_⟩)
 refine lq (.int .i64 (0 : Int)) S (q_assign rfl) fun a S => ?_
 refine lx_nil (thenN ?_)
 refine wp_seq (wp_seq (region_plain ?_))
 obtain ⟨x57, e58, hm⟩ := bind_some hm
 refine lx_call (xs := [.tmp 1]) S trivial (by decide) rfl rfl Tryz.call19 ((spec_l11Is_ok (rdPtr_box H 1 rfl ⟨[(.int .i64 a0.1)], [(.int .i64 a0.2.1), v33, v35], rfl, rfl, ⟨[(.int .i64 a0.2.1)], [v33, v35], rfl, rfl, ⟨[v33], [v35], rfl, ((H.arg h34)).list_rd, ((H.arg h36)).list_rd⟩⟩⟩) e58).mono ?_)
 rintro e w55 ⟨rfl, Hc56⟩
 have H := H.call0 Hc56
 refine ⟨_, rfl, trivial, fun a S => ?_⟩
 refine lq (.bool (!x57)) S (q_not rfl) fun a S => ?_
 refine lx_nil (thenN ?_)
 refine cond_b S rfl (fun hc60 => ?_) (fun hc60 => ?_)
 ·have hm := ite_t hc60 hm
  refine wp_seq (region_plain ?_)
  refine lq (.agg #[(.int .i64 (0 : Int)), (.int .i64 (0 : Int)), (.slice none 0 0), (.slice none 0 0)]) S (q_build (zs := [(.int .i64 (0 : Int)), (.int .i64 (0 : Int)), (.slice none 0 0), (.slice none 0 0)]) (szs := [1, 1, 1, 1]) (ps := []) (parts := []) rfl Tryz.underlying29 Tryz.zeroValue29 (fun w => by simp [Tryz.sizeOf2, Tryz.sizeOf22, Tryz.sizeOf27]) trivial rfl) fun a S => ?_
  refine lx_storeBox (o := 0) (i := 0) (us := [(.int .i64 (0 : Int)), (.int .i64 (0 : Int)), (.slice none 0 0), (.slice none 0 0)]) (cs' := [(.int .i64 (0 : Int)), (.int .i64 (0 : Int)), (.slice none 0 0), (.slice none 0 0)]) S trivial rfl H rfl rfl rfl rfl Tryz.sizeOf29 (Nat.le_of_ble_eq_true rfl) (List.forall_mem_cons.2 ⟨rfl, (List.forall_mem_cons.2 ⟨rfl, (List.forall_mem_cons.2 ⟨rfl, (List.forall_mem_cons.2 ⟨rfl, (fun _ h => nomatch h)⟩)⟩)⟩)⟩) rfl (fun w61 H => ⟨trivial, fun a S => ?_⟩)
  change Heap w0 [bA b52 [(.int .i64 (0 : Int)), (.int .i64 (0 : Int)), (.slice none 0 0), (.slice none 0 0)] 29, bA b49 [(.int .i64 a0.1), (.int .i64 a0.2.1), v33, v35] 29] w61 at H
  refine lq (.int .i64 (1 : Int)) S (q_assign rfl) fun a S => ?_
  refine lx_nil (thenN ?_)
  refine wp_ret ?_
  have hrv0 := RV.cellA (t := 29) (q := 2) (env := [(0, (.agg #[(.int .i64 a0.1), (.int .i64 a0.2.1), v33, v35])), (1, (bp b49)), (2, (bp b52)), (3, (.int .i64 (1 : Int))), (5, (.bool x57)), (6, (.bool (!x57))), (7, (.agg #[(.int .i64 (0 : Int)), (.int .i64 (0 : Int)), (.slice none 0 0), (.slice none 0 0)]))]) H (i := 0) rfl rfl Tryz.isAgg29 Tryz.sizeOf29
  have hrv1 : RV Tryz.prog _ w61 (.tmp 3) (.int .i64 (1 : Int)) := (rfl : lk [(0, (.agg #[(.int .i64 a0.1), (.int .i64 a0.2.1), v33, v35])), (1, (bp b49)), (2, (bp b52)), (3, (.int .i64 (1 : Int))), (5, (.bool x57)), (6, (.bool (!x57))), (7, (.agg #[(.int .i64 (0 : Int)), (.int .i64 (0 : Int)), (.slice none 0 0), (.slice none 0 0)]))] 3 = some (.int .i64 (1 : Int)))
  refine then_ret ?_
  obtain rfl := Option.some.inj hm
  have H : Heap w0 [oA (rList rStr) (.slice none 0 0) ([] : List Str), bA b52 [(.int .i64 (0 : Int)), (.int .i64 (0 : Int)), (.slice none 0 0), (.slice none 0 0)] 29, bA b49 [(.int .i64 a0.1), (.int .i64 a0.2.1), v33, v35] 29] w61 := H.nilList rStr
  have H : Heap w0 [oA (rList Rimpl_Edge) (.slice none 0 0) ([] : List Timpl_Edge), oA (rList rStr) (.slice none 0 0) ([] : List Str), bA b52 [(.int .i64 (0 : Int)), (.int .i64 (0 : Int)), (.slice none 0 0), (.slice none 0 0)] 29, bA b49 [(.int .i64 a0.1), (.int .i64 a0.2.1), v33, v35] 29] w61 := H.nilList Rimpl_Edge
  have H : Heap w0 [oA (rList rStr) (.slice none 0 0) ([] : List Str), oA (rList Rimpl_Edge) (.slice none 0 0) ([] : List Timpl_Edge), bA b52 [(.int .i64 (0 : Int)), (.int .i64 (0 : Int)), (.slice none 0 0), (.slice none 0 0)] 29, bA b49 [(.int .i64 a0.1), (.int .i64 a0.2.1), v33, v35] 29] w61 := H.front 1 rfl
  have H : Heap w0 [oA (rList rStr) (.slice none 0 0) ([] : List Str), oA (rList Rimpl_Edge) (.slice none 0 0) ([] : List Timpl_Edge)] w61 := H.sel [0, 1] (by decide)
  exact leaveR2 S rfl hrv0 hrv1 ⟨(.slice none 0 0), (.slice none 0 0), rfl, H⟩
 ·have hm := ite_f hc60 hm
  refine wp_skip (thenN ?_)
  refine wp_seq (region_plain ?_)
  obtain ⟨x66, e67, hm⟩ := bind_some hm
  refine lx_call (xs := [.tmp 1]) S trivial (by decide) rfl rfl Tryz.call20 ((spec_l16Saturate_ok (rdPtr_box H 1 rfl ⟨[(.int .i64 a0.1)], [(.int .i64 a0.2.1), v33, v35], rfl, rfl, ⟨[(.int .i64 a0.2.1)], [v33, v35], rfl, rfl, ⟨[v33], [v35], rfl, ((H.arg h34)).list_rd, ((H.arg h36)).list_rd⟩⟩⟩) e67).mono ?_)
  rintro e w64 ⟨v68, v69, rfl, Hc65⟩
  have H := H.call2 Hc65
  refine ⟨_, rfl, trivial, fun a S => ?_⟩
  refine lx_alloc S trivial (by decide) rfl H Tryz.zeroValue29 rfl (fun b73 w74 H => ⟨trivial, fun a S => ?_⟩)
  refine lx_storeBox (o := 0) (i := 0) (us := [(.int .i64 x66.1), (.int .i64 x66.2.1), v68, v69]) (cs' := [(.int .i64 x66.1), (.int .i64 x66.2.1), v68, v69]) S trivial rfl H rfl rfl rfl rfl Tryz.sizeOf29 (Nat.le_of_ble_eq_true rfl) (List.forall_mem_cons.2 ⟨rfl, (List.forall_mem_cons.2 ⟨rfl, (List.forall_mem_cons.2 ⟨one_sl (H.isSl 1 rfl), (List.forall_mem_cons.2 ⟨one_sl (H.isSl 2 rfl), (fun _ h => nomatch h)⟩)⟩)⟩)⟩) rfl (fun w76 H => ⟨trivial, fun a S => ?_⟩)
  change Heap w0 [bA b73 [(.int .i64 x66.1), (.int .i64 x66.2.1), v68, v69] 29, oA (rList rStr) v68 x66.2.2.1, oA (rList Rimpl_Edge) v69 x66.2.2.2, bA b52 [(.int .i64 (0 : Int)), (.int .i64 (0 : Int)), (.slice none 0 0), (.slice none 0 0)] 29, bA b49 [(.int .i64 a0.1), (.int .i64 a0.2.1), v33, v35] 29] w76 at H
  refine lx_nil (thenN ?_)
  refine wp_seq (wp_seq (region_plain ?_))
  refine lq (pAdd (bp b73) 3) S (q_fieldAddr' 3 27 rfl (isP_bp _) Tryz.underlying29 rfl Tryz.sizeOf27) fun a S => ?_
  refine lx_e v69 S trivial (by decide) rfl trivial (q_load1 rfl Tryz.isAgg27 (by rintro _ rfl; exact (At.of_add (m := 3) (j := 0) (boxAt (i := 0) H rfl (j := 3) rfl)))) (fun a S => ?_)
  refine lq (.int .i64 (x66.2.2.2.length : Int)) S (q_lenSl rfl (H.isSl 2 rfl) rfl Tryz.underlying27) fun a S => ?_
  refine lq (.bool (decide ((300 : Int) < (x66.2.2.2.length : Int)))) S (q_gtr rfl rfl) fun a S => ?_
  refine lx_nil (thenN ?_)
  refine cond_b S rfl (fun hc77 => ?_) (fun hc77 => ?_)
  ·have hm := ite_t hc77 hm
   refine wp_seq (region_plain ?_)
   refine lq (.agg #[(.int .i64 (0 : Int)), (.int .i64 (0 : Int)), (.slice none 0 0), (.slice none 0 0)]) S (q_build (zs := [(.int .i64 (0 : Int)), (.int .i64 (0 : Int)), (.slice none 0 0), (.slice none 0 0)]) (szs := [1, 1, 1, 1]) (ps := []) (parts := []) rfl Tryz.underlying29 Tryz.zeroValue29 (fun w => by simp [Tryz.sizeOf2, Tryz.sizeOf22, Tryz.sizeOf27]) trivial rfl) fun a S => ?_
   refine lx_storeBox (o := 0) (i := 3) (us := [(.int .i64 (0 : Int)), (.int .i64 (0 : Int)), (.slice none 0 0), (.slice none 0 0)]) (cs' := [(.int .i64 (0 : Int)), (.int .i64 (0 : Int)), (.slice none 0 0), (.slice none 0 0)]) S trivial rfl H rfl rfl rfl rfl Tryz.sizeOf29 (Nat.le_of_ble_eq_true rfl) (List.forall_mem_cons.2 ⟨rfl, (List.forall_mem_cons.2 ⟨rfl, (List.forall_mem_cons.2 ⟨rfl, (List.forall_mem_cons.2 ⟨rfl, (fun _ h => nomatch h)⟩)⟩)⟩)⟩) rfl (fun w78 H => ⟨trivial, fun a S => ?_⟩)
   change Heap w0 [bA b73 [(.int .i64 x66.1), (.int .i64 x66.2.1), v68, v69] 29, oA (rList rStr) v68 x66.2.2.1, oA (rList Rimpl_Edge) v69 x66.2.2.2, bA b52 [(.int .i64 (0 : Int)), (.int .i64 (0 : Int)), (.slice none 0 0), (.slice none 0 0)] 29, bA b49 [(.int .i64 a0.1), (.int .i64 a0.2.1), v33, v35] 29] w78 at H
   refine lq (.int .i64 (5 : Int)) S (q_assign rfl) fun a S => ?_
   refine lx_nil (thenN ?_)
   refine wp_ret ?_
   have hrv0 := RV.cellA (t := 29) (q := 2) (env := [(0, (.agg #[(.int .i64 a0.1), (.int .i64 a0.2.1), v33, v35])), (1, (bp b49)), (2, (bp b52)), (3, (.int .i64 (5 : Int))), (4, (bp b73)), (5, (.bool x57)), (6, (.bool (!x57))), (8, (.agg #[(.int .i64 x66.1), (.int .i64 x66.2.1), v68, v69])), (9, (pAdd (bp b73) 3)), (10, v69), (11, (.int .i64 (x66.2.2.2.length : Int))), (12, (.bool (decide ((300 : Int) < (x66.2.2.2.length : Int))))), (13, (.agg #[(.int .i64 (0 : Int)), (.int .i64 (0 : Int)), (.slice none 0 0), (.slice none 0 0)]))]) H (i := 3) rfl rfl Tryz.isAgg29 Tryz.sizeOf29
   have hrv1 : RV Tryz.prog _ w78 (.tmp 3) (.int .i64 (5 : Int)) := (rfl : lk [(0, (.agg #[(.int .i64 a0.1), (.int .i64 a0.2.1), v33, v35])), (1, (bp b49)), (2, (bp b52)), (3, (.int .i64 (5 : Int))), (4, (bp b73)), (5, (.bool x57)), (6, (.bool (!x57))), (8, (.agg #[(.int .i64 x66.1), (.int .i64 x66.2.1), v68, v69])), (9, (pAdd (bp b73) 3)), (10, v69), (11, (.int .i64 (x66.2.2.2.length : Int))), (12, (.bool (decide ((300 : Int) < (x66.2.2.2.length : Int))))), (13, (.agg #[(.int .i64 (0 : Int)), (.int .i64 (0 : Int)), (.slice none 0 0), (.slice none 0 0)]))] 3 = some (.int .i64 (5 : Int)))
   refine then_ret ?_
   obtain rfl := Option.some.inj hm
   have H : Heap w0 [oA (rList rStr) (.slice none 0 0) ([] : List Str), bA b73 [(.int .i64 x66.1), (.int .i64 x66.2.1), v68, v69] 29, oA (rList rStr) v68 x66.2.2.1, oA (rList Rimpl_Edge) v69 x66.2.2.2, bA b52 [(.int .i64 (0 : Int)), (.int .i64 (0 : Int)), (.slice none 0 0), (.slice none 0 0)] 29, bA b49 [(.int .i64 a0.1), (.int .i64 a0.2.1), v33, v35] 29] w78 := H.nilList rStr
   have H : Heap w0 [oA (rList Rimpl_Edge) (.slice none 0 0) ([] : List Timpl_Edge), oA (rList rStr) (.slice none 0 0) ([] : List Str), bA b73 [(.int .i64 x66.1), (.int .i64 x66.2.1), v68, v69] 29, oA (rList rStr) v68 x66.2.2.1, oA (rList Rimpl_Edge) v69 x66.2.2.2, bA b52 [(.int .i64 (0 : Int)), (.int .i64 (0 : Int)), (.slice none 0 0), (.slice none 0 0)] 29, bA b49 [(.int .i64 a0.1), (.int .i64 a0.2.1), v33, v35] 29] w78 := H.nilList Rimpl_Edge
   have H : Heap w0 [oA (rList rStr) (.slice none 0 0) ([] : List Str), oA (rList Rimpl_Edge) (.slice none 0 0) ([] : List Timpl_Edge), bA b73 [(.int .i64 x66.1), (.int .i64 x66.2.1), v68, v69] 29, oA (rList rStr) v68 x66.2.2.1, oA (rList Rimpl_Edge) v69 x66.2.2.2, bA b52 [(.int .i64 (0 : Int)), (.int .i64 (0 : Int)), (.slice none 0 0), (.slice none 0 0)] 29, bA b49 [(.int .i64 a0.1), (.int .i64 a0.2.1), v33, v35] 29] w78 := H.front 1 rfl
   have H : Heap w0 [oA (rList rStr) (.slice none 0 0) ([] : List Str), oA (rList Rimpl_Edge) (.slice none 0 0) ([] : List Timpl_Edge)] w78 := H.sel [0, 1] (by decide)
   exact leaveR2 S rfl hrv0 hrv1 ⟨(.slice none 0 0), (.slice none 0 0), rfl, H⟩
  ·have hm := ite_f hc77 hm
   refine wp_skip (thenN ?_)
   refine wp_seq (region_plain ?_)
   refine lx_e (.agg #[(.int .i64 x66.1), (.int .i64 x66.2.1), v68, v69]) S trivial (by decide) rfl trivial (q_loadA (cs := [(.int .i64 x66.1), (.int .i64 x66.2.1), v68, v69]) rfl (isP_bp _) Tryz.isAgg29 Tryz.sizeOf29 (by rintro _ rfl; exact (fun j u hu => boxAt (i := 0) H rfl hu))) (fun a S => ?_)
   refine lx_storeBox (o := 0) (i := 3) (us := [(.int .i64 x66.1), (.int .i64 x66.2.1), v68, v69]) (cs' := [(.int .i64 x66.1), (.int .i64 x66.2.1), v68, v69]) S trivial rfl H rfl rfl rfl rfl Tryz.sizeOf29 (Nat.le_of_ble_eq_true rfl) (List.forall_mem_cons.2 ⟨rfl, (List.forall_mem_cons.2 ⟨rfl, (List.forall_mem_cons.2 ⟨one_sl (H.isSl 1 rfl), (List.forall_mem_cons.2 ⟨one_sl (H.isSl 2 rfl), (fun _ h => nomatch h)⟩)⟩)⟩)⟩) rfl (fun w81 H => ⟨trivial, fun a S => ?_⟩)
   change Heap w0 [bA b73 [(.int .i64 x66.1), (.int .i64 x66.2.1), v68, v69] 29, oA (rList rStr) v68 x66.2.2.1, oA (rList Rimpl_Edge) v69 x66.2.2.2, bA b52 [(.int .i64 x66.1), (.int .i64 x66.2.1), v68, v69] 29, bA b49 [(.int .i64 a0.1), (.int .i64 a0.2.1), v33, v35] 29] w81 at H
   refine lq (.int .i64 (0 : Int)) S (q_assign rfl) fun a S => ?_
   refine lx_nil (thenN ?_)
   refine wp_ret ?_
   have hrv0 := RV.cellA (t := 29) (q := 2) (env := [(0, (.agg #[(.int .i64 a0.1), (.int .i64 a0.2.1), v33, v35])), (1, (bp b49)), (2, (bp b52)), (3, (.int .i64 (0 : Int))), (4, (bp b73)), (5, (.bool x57)), (6, (.bool (!x57))), (8, (.agg #[(.int .i64 x66.1), (.int .i64 x66.2.1), v68, v69])), (9, (pAdd (bp b73) 3)), (10, v69), (11, (.int .i64 (x66.2.2.2.length : Int))), (12, (.bool (decide ((300 : Int) < (x66.2.2.2.length : Int))))), (14, (.agg #[(.int .i64 x66.1), (.int .i64 x66.2.1), v68, v69]))]) H (i := 3) rfl rfl Tryz.isAgg29 Tryz.sizeOf29
   have hrv1 : RV Tryz.prog _ w81 (.tmp 3) (.int .i64 (0 : Int)) := (rfl : lk [(0, (.agg #[(.int .i64 a0.1), (.int .i64 a0.2.1), v33, v35])), (1, (bp b49)), (2, (bp b52)), (3, (.int .i64 (0 : Int))), (4, (bp b73)), (5, (.bool x57)), (6, (.bool (!x57))), (8, (.agg #[(.int .i64 x66.1), (.int .i64 x66.2.1), v68, v69])), (9, (pAdd (bp b73) 3)), (10, v69), (11, (.int .i64 (x66.2.2.2.length : Int))), (12, (.bool (decide ((300 : Int) < (x66.2.2.2.length : Int))))), (14, (.agg #[(.int .i64 x66.1), (.int .i64 x66.2.1), v68, v69]))] 3 = some (.int .i64 (0 : Int)))
   obtain rfl := Option.some.inj hm
   have H : Heap w0 [oA (rList rStr) v68 x66.2.2.1, oA (rList Rimpl_Edge) v69 x66.2.2.2] w81 := H.sel [1, 2] (by decide)
   exact leaveR2 S rfl hrv0 hrv1 ⟨v68, v69, rfl, H⟩

/-- slices.Clone[[]string,string] -/
def slices_Clone__string_string_m (_ : Nat) (a0 : (List Str)) : Option ((List Str)) :=
  (app ([] : List Str) a0).bind fun x38 => some (x38)
set_option maxRecDepth 20000 in
theorem slices_Clone__string_string_ok {w0 : World} {fuel : Nat} {p0 : Value} {a0 : (List Str)} {r : (List Str)} (h0 : Rd (rList rStr) w0 p0 a0) (hm : slices_Clone__string_string_m fuel a0 = some r) :
  Calls Tryz.prog 48 #[p0] w0 fun e w => ∃ (v0 : Value), e = .returned (v0) ∧ Heap w0 [oA (rList rStr) v0 r] w := by
 unfold slices_Clone__string_string_m at hm
 have H := Heap.start w0
 refine enter (args := [p0]) Tryz.func48 rfl 8 rfl (Nat.le_of_ble_eq_true rfl) (fun a S => ?_)
 refine wp_seq (region_plain ?_)
 refine lq (.slice none 0 0) S (q_assign rfl) fun a S => ?_
 refine lx_nil (thenN ?_)
 refine wp_seq (wp_seq (region_plain ?_))
 refine lq p0 S (q_move rfl) fun a S => ?_
 obtain ⟨bn31, hqn, hb32⟩ := ((H.arg h0)).isNil (P := Tryz.prog) Tryz.underlying22
 refine lq (.bool bn31) S (hqn rfl rfl) fun a S => ?_
 refine lx_nil (thenN ?_)
 refine cond_b S rfl (fun hc33 => ?_) (fun hc33 => ?_)
 ·obtain rfl := hb32 hc33
  replace hm : some [] = some r := by simpa [app] using hm
  refine wp_seq (region_plain ?_)
  refine lq (.slice none 0 0) S (q_assign rfl) fun a S => ?_
  refine lx_nil (thenN ?_)
  refine wp_ret (then_ret ?_)
  obtain rfl := Option.some.inj hm
  have H : Heap w0 [oA (rList rStr) (.slice none 0 0) ([] : List Str)] w0 := H.nilList rStr
  exact leave1 S rfl rfl ⟨(.slice none 0 0), rfl, H⟩
 ·skip
  refine wp_skip (thenN ?_)
  refine wp_seq (region_plain ?_)
  refine lx_buildSlice0 (r := rStr) S trivial (by decide) rfl H Tryz.underlying22 Tryz.sizeOf9 (fun v35 w36 H => ⟨trivial, fun a S => ?_⟩)
  refine lq p0 S (q_move rfl) fun a S => ?_
  obtain ⟨x38, e39, hm⟩ := bind_some hm
  obtain ⟨hle, hap⟩ := app_some e39
  replace hap := hap.symm
  subst hap
  refine lx_appendRd (r := rStr) S trivial (by decide) rfl H flat_str (H.arg h0) rfl rfl Tryz.underlying22 Tryz.ti9 rfl rfl rfl (by decide) (by decide) hle (fun v40 w41 H => ⟨trivial, fun a S => ?_⟩)
  refine lq v40 S (q_assign rfl) fun a S => ?_
  refine lx_nil (thenN ?_)
  refine wp_ret ?_
  obtain rfl := Option.some.inj hm
  exact leave1 S rfl rfl ⟨v40, rfl, H⟩

/-- (impl.Lts).visible -/
def impl_Lts_visible_m (fuel : Nat) (a0 : Timpl_Lts) (a1 : (List Int)) (a2 : Str) : Option ((List Int)) :=
  (impl_Lts_follow_m fuel (a0.1, a0.2.1, a0.2.2.1, a0.2.2.2) a1 a2).bind fun x56 => (impl_Lts_internal_m fuel (a0.1, a0.2.1, a0.2.2.1, a0.2.2.2) x56).bind fun x63 => some (x63)
set_option maxRecDepth 20000 in
theorem impl_Lts_visible_ok {w0 : World} {fuel : Nat} {p0 p1 : Value} {a0 : Timpl_Lts} {a1 : (List Int)} {a2 : Str} {r : (List Int)} (h0 : Rd Rimpl_Lts w0 p0 a0) (h1 : Rd (rList (rInt .i64)) w0 p1 a1) (hm : impl_Lts_visible_m fuel a0 a1 a2 = some r) :
  Calls Tryz.prog 60 #[p0, p1, sv a2] w0 fun e w => ∃ (v0 : Value), e = .returned (v0) ∧ Heap w0 [oA (rList (rInt .i64)) v0 r] w := by
 unfold impl_Lts_visible_m at hm
 have H := Heap.start w0
 obtain ⟨c31, rfl, h32⟩ := h0
 obtain ⟨c37, c38, rfl, h39, h40⟩ := h32
 obtain rfl := h39
 obtain ⟨c41, c42, rfl, h43, h44⟩ := h40
 obtain rfl := h43
 obtain ⟨c45, c46, rfl, h47, h48⟩ := h44
 obtain ⟨v33, rfl, h34⟩ := rd_list h47
 obtain ⟨v35, rfl, h36⟩ := rd_list h48
 refine enter (args := [(.agg #[(.int .i64 a0.1), (.int .i64 a0.2.1), v33, v35]), p1, sv a2]) Tryz.func60 rfl 13 rfl (Nat.le_of_ble_eq_true rfl) (fun a S => ?_)
 refine wp_seq (region_plain ?_)
 refine lx_box S trivial (by decide) rfl H rfl rfl (fun b49 w50 H => ⟨trivial, fun a S => ?_⟩)
 refine lq (.slice none 0 0) S (q_assign rfl) fun a S => ?_
 refine lx_nil (thenN ?_)
 refine wp_seq ?_
 refine region_drawG (fun w1 => Heap w0 [bA b49 [(.int .i64 a0.1), (.int .i64 a0.2.1), v33, v35] 29] w1) (fun i => [4, 5].contains i) mixed (by kernel_rfl) (fun w53 he52 => ?_)
 have H := H.later he52
 refine ⟨H.sel [0] (by decide), ?_⟩
 refine lq (.agg #[(.int .i64 a0.1), (.int .i64 a0.2.1), v33, v35]) S (q_loadA (cs := [(.int .i64 a0.1), (.int .i64 a0.2.1), v33, v35]) rfl (isP_bp _) Tryz.isAgg29 Tryz.sizeOf29 (fun w1 hC => (fun j u hu => boxAt (i := 0) hC rfl hu))) fun a S => ?_
 refine lq (.agg #[(.int .i64 a0.1), (.int .i64 a0.2.1), v33, v35]) S (q_loadA (cs := [(.int .i64 a0.1), (.int .i64 a0.2.1), v33, v35]) rfl (isP_bp _) Tryz.isAgg29 Tryz.sizeOf29 (fun w1 hC => (fun j u hu => boxAt (i := 0) hC rfl hu))) fun a S => ?_
 refine lq p1 S (q_move rfl) fun a S => ?_
 refine lq (sv a2) S (q_move rfl) fun a S => ?_
 obtain ⟨x56, e57, hm⟩ := bind_some hm
 refine lx_call (xs := [.tmp 8, .tmp 9, .tmp 10]) S trivial (by decide) rfl rfl Tryz.call63 ((impl_Lts_follow_ok ⟨[(.int .i64 a0.1), (.int .i64 a0.2.1), v33, v35], rfl, ⟨[(.int .i64 a0.1)], [(.int .i64 a0.2.1), v33, v35], rfl, rfl, ⟨[(.int .i64 a0.2.1)], [v33, v35], rfl, rfl, ⟨[v33], [v35], rfl, ((H.arg h34)).list_rd, ((H.arg h36)).list_rd⟩⟩⟩⟩ (H.arg h1)  e57).mono ?_)
 rintro e w54 ⟨v58, rfl, Hc55⟩
 have H := H.call1 Hc55
 refine ⟨_, rfl, H.sel [1] (by decide), fun a S => ?_⟩
 obtain ⟨x63, e64, hm⟩ := bind_some hm
 refine lx_call (xs := [.tmp 7, .tmp 11]) S trivial (by decide) rfl rfl Tryz.call53 ((impl_Lts_internal_ok ⟨[(.int .i64 a0.1), (.int .i64 a0.2.1), v33, v35], rfl, ⟨[(.int .i64 a0.1)], [(.int .i64 a0.2.1), v33, v35], rfl, rfl, ⟨[(.int .i64 a0.2.1)], [v33, v35], rfl, rfl, ⟨[v33], [v35], rfl, ((H.arg h34)).list_rd, ((H.arg h36)).list_rd⟩⟩⟩⟩ (H.rdAt 0 rfl) e64).mono ?_)
 rintro e w61 ⟨v65, rfl, Hc62⟩
 have H := H.call1 Hc62
 refine ⟨_, rfl, H.sel [2] (by decide), fun a S => ?_⟩
 refine lq v65 S (q_assign rfl) fun a S => ?_
 refine lx_nil (thenN ?_)
 refine wp_ret ?_
 obtain rfl := Option.some.inj hm
 have H : Heap w0 [oA (rList (rInt .i64)) v65 x63] w61 := H.sel [0] (by decide)
 exact leave1 S rfl rfl ⟨v65, rfl, H⟩

/-- (impl.Lts).weakly -/
def impl_Lts_weakly_m (fuel : Nat) (a0 : Timpl_Lts) (a1 : Int) (a2 : Str) : Option ((List Int)) :=
  (impl_Lts_internal_m fuel (a0.1, a0.2.1, a0.2.2.1, a0.2.2.2) [a1]).bind fun x57 => (if (a2 == ([116, 97, 117] : Str)) = true then some (x57) else (impl_Lts_visible_m fuel (a0.1, a0.2.1, a0.2.2.1, a0.2.2.2) x57 a2).bind fun x65 => some (x65))
set_option maxRecDepth 20000 in
theorem impl_Lts_weakly_ok {w0 : World} {fuel : Nat} {p0 : Value} {a0 : Timpl_Lts} {a1 : Int} {a2 : Str} {r : (List Int)} (h0 : Rd Rimpl_Lts w0 p0 a0) (hm : impl_Lts_weakly_m fuel a0 a1 a2 = some r) :
  Calls Tryz.prog 49 #[p0, .int .i64 a1, sv a2] w0 fun e w => ∃ (v0 : Value), e = .returned (v0) ∧ Heap w0 [oA (rList (rInt .i64)) v0 r] w := by
 unfold impl_Lts_weakly_m at hm
 have H := Heap.start w0
 obtain ⟨c31, rfl, h32⟩ := h0
 obtain ⟨c37, c38, rfl, h39, h40⟩ := h32
 obtain rfl := h39
 obtain ⟨c41, c42, rfl, h43, h44⟩ := h40
 obtain rfl := h43
 obtain ⟨c45, c46, rfl, h47, h48⟩ := h44
 obtain ⟨v33, rfl, h34⟩ := rd_list h47
 obtain ⟨v35, rfl, h36⟩ := rd_list h48
 refine enter (args := [(.agg #[(.int .i64 a0.1), (.int .i64 a0.2.1), v33, v35]), .int .i64 a1, sv a2]) Tryz.func49 rfl 19 rfl (Nat.le_of_ble_eq_true rfl) (fun a S => ?_)
 refine wp_seq (region_plain ?_)
 refine lx_box S trivial (by decide) rfl H rfl rfl (fun b49 w50 H => ⟨trivial, fun a S => ?_⟩)
 refine lq (.slice none 0 0) S (q_assign rfl) fun a S => ?_
 refine lx_nil (thenN ?_)
 refine wp_seq (region_plain ?_)
 refine lx_e (.agg #[(.int .i64 a0.1), (.int .i64 a0.2.1), v33, v35]) S trivial (by decide) rfl trivial (q_loadA (cs := [(.int .i64 a0.1), (.int .i64 a0.2.1), v33, v35]) rfl (isP_bp _) Tryz.isAgg29 Tryz.sizeOf29 (by rintro _ rfl; exact (fun j u hu => boxAt (i := 0) H rfl hu))) (fun a S => ?_)
 refine lq (.int .i64 a1) S (q_move rfl) fun a S => ?_
 refine lx_buildSlice (r := (rInt .i64)) (xs := [a1]) (ps := [(0, [(.int .i64 a1)])]) (cs := [(.int .i64 a1)]) (parts := [(0, .tmp 9)]) S trivial (by decide) rfl (H.put0 (A := eA) rfl) rfl Tryz.underlying36 Tryz.sizeOf2 Tryz.zeroValue2 (by decide) ⟨rfl, rfl, Nat.le_of_ble_eq_true rfl, trivial⟩ (by intro zs hz; exact fill_dense hz ⟨rfl, trivial⟩ rfl rfl) rfl (by decide) (fun w F hA => by cases (show F = [] from hA); exact ⟨_, _, [(.int .i64 a1)], _, rfl, rfl, ⟨rfl, rfl⟩, ⟨rfl, rfl⟩⟩) (fun v52 w53 H => ⟨trivial, fun a S => ?_⟩)
 obtain ⟨x57, e58, hm⟩ := bind_some hm
 refine lx_call (xs := [.tmp 8, .tmp 10]) S trivial (by decide) rfl rfl Tryz.call53 ((impl_Lts_internal_ok ⟨[(.int .i64 a0.1), (.int .i64 a0.2.1), v33, v35], rfl, ⟨[(.int .i64 a0.1)], [(.int .i64 a0.2.1), v33, v35], rfl, rfl, ⟨[(.int .i64 a0.2.1)], [v33, v35], rfl, rfl, ⟨[v33], [v35], rfl, ((H.arg h34)).list_rd, ((H.arg h36)).list_rd⟩⟩⟩⟩ (H.rdAt 0 rfl) e58).mono ?_)
 rintro e w55 ⟨v59, rfl, Hc56⟩
 have H := H.call1 Hc56
 refine ⟨_, rfl, trivial, fun a S => ?_⟩
 refine lq v59 S (q_assign rfl) fun a S => ?_
 refine lx_nil (thenN ?_)
 refine wp_seq (wp_seq (region_plain ?_))
 refine lq (sv a2) S (q_move rfl) fun a S => ?_
 refine lq (.bool (a2 == ([116, 97, 117] : Str))) S (q_seql rfl rfl) fun a S => ?_
 refine lx_nil (thenN ?_)
 refine cond_b S rfl (fun hc62 => ?_) (fun hc62 => ?_)
 ·have hm := ite_t hc62 hm
  refine wp_seq (region_plain ?_)
  refine lq v59 S (q_move rfl) fun a S => ?_
  refine lq v59 S (q_assign rfl) fun a S => ?_
  refine lx_nil (thenN ?_)
  refine wp_ret (then_ret ?_)
  obtain rfl := Option.some.inj hm
  have H : Heap w0 [oA (rList (rInt .i64)) v59 x57] w55 := H.sel [0] (by decide)
  exact leave1 S rfl rfl ⟨v59, rfl, H⟩
 ·have hm := ite_f hc62 hm
  refine wp_skip (thenN ?_)
  refine wp_seq (region_plain ?_)
  refine lx_e (.agg #[(.int .i64 a0.1), (.int .i64 a0.2.1), v33, v35]) S trivial (by decide) rfl trivial (q_loadA (cs := [(.int .i64 a0.1), (.int .i64 a0.2.1), v33, v35]) rfl (isP_bp _) Tryz.isAgg29 Tryz.sizeOf29 (by rintro _ rfl; exact (fun j u hu => boxAt (i := 2) H rfl hu))) (fun a S => ?_)
  refine lq v59 S (q_move rfl) fun a S => ?_
  refine lq (sv a2) S (q_move rfl) fun a S => ?_
  obtain ⟨x65, e66, hm⟩ := bind_some hm
  refine lx_call (xs := [.tmp 15, .tmp 16, .tmp 17]) S trivial (by decide) rfl rfl Tryz.call60 ((impl_Lts_visible_ok ⟨[(.int .i64 a0.1), (.int .i64 a0.2.1), v33, v35], rfl, ⟨[(.int .i64 a0.1)], [(.int .i64 a0.2.1), v33, v35], rfl, rfl, ⟨[(.int .i64 a0.2.1)], [v33, v35], rfl, rfl, ⟨[v33], [v35], rfl, ((H.arg h34)).list_rd, ((H.arg h36)).list_rd⟩⟩⟩⟩ (H.rdAt 0 rfl)  e66).mono ?_)
  rintro e w63 ⟨v67, rfl, Hc64⟩
  have H := H.call1 Hc64
  refine ⟨_, rfl, trivial, fun a S => ?_⟩
  refine lq v67 S (q_assign rfl) fun a S => ?_
  refine lx_nil (thenN ?_)
  refine wp_ret ?_
  obtain rfl := Option.some.inj hm
  have H : Heap w0 [oA (rList (rInt .i64)) v67 x65] w63 := H.sel [0] (by decide)
  exact leave1 S rfl rfl ⟨v67, rfl, H⟩

/-- (impl.Lts).saturated -/
def impl_Lts_saturated_m (fuel : Nat) (a0 : Timpl_Lts) : Option (Timpl_Lts) :=
  join (κ := Int → Int → List Str → Option Timpl_Lts) (fun (x57 : Int) (x58 : Int) (xs60 : List Str) => (iter (fun (s : (List Timpl_Edge) × (Int)) => (match s with | (xs339, x341) => (if (decide (x341 < a0.1)) = true then (iter (fun (s : (List Timpl_Edge) × (Int)) => (match s with | (xs713, x715) => (if (decide (x715 < (a0.2.2.1.length : Int))) = true then (idx a0.2.2.1 x715).bind fun x813 => (impl_Lts_weakly_m fuel (a0.1, a0.2.1, a0.2.2.1, a0.2.2.2) x341 x813).bind fun x820 => (iter (fun (s : (List Timpl_Edge) × (Int)) => (match s with | (xs845, x847) => (if (decide (x847 < (x820.length : Int))) = true then (idx x820 x847).bind fun x879 => (app xs845 [(x341, x715, x879)]).bind fun x887 => some (.inl (x887, (W (x847 + (1 : Int))))) else some (.inr (.inl (xs845)))) : Option (((List Timpl_Edge) × (Int)) ⊕ (((List Timpl_Edge)) ⊕ (Timpl_Lts))))) fuel (xs713, (0 : Int))).bind fun res870 => ctl (β := (List Timpl_Edge)) (ρ := Timpl_Lts) (τ := (((List Timpl_Edge) × (Int)) ⊕ (((List Timpl_Edge)) ⊕ (Timpl_Lts)))) res870 (fun (xs868) => some (.inl (xs868, (W (x715 + (1 : Int)))))) (fun q => some (.inr (.inr q))) else some (.inr (.inl (xs713)))) : Option (((List Timpl_Edge) × (Int)) ⊕ (((List Timpl_Edge)) ⊕ (Timpl_Lts))))) fuel (xs339, (0 : Int))).bind fun res804 => ctl (β := (List Timpl_Edge)) (ρ := Timpl_Lts) (τ := (((List Timpl_Edge) × (Int)) ⊕ (((List Timpl_Edge)) ⊕ (Timpl_Lts)))) res804 (fun (xs802) => some (.inl (xs802, (W (x341 + (1 : Int)))))) (fun q => some (.inr (.inr q))) else some (.inr (.inl (xs339)))) : Option (((List Timpl_Edge) × (Int)) ⊕ (((List Timpl_Edge)) ⊕ (Timpl_Lts))))) fuel ([], (0 : Int))).bind fun res616 => ctl (β := (List Timpl_Edge)) (ρ := Timpl_Lts) (τ := Timpl_Lts) res616 (fun (xs614) => some ((x57, x58, xs60, xs614))) (fun q => some (q))) (fun K62 => (slices_Clone__string_string_m fuel a0.2.2.1).bind fun x897 => (K62 a0.1 a0.2.1 x897))
set_option maxRecDepth 20000 in
theorem impl_Lts_saturated_ok {w0 : World} {fuel : Nat} {p0 : Value} {a0 : Timpl_Lts} {r : Timpl_Lts} (h0 : Rd Rimpl_Lts w0 p0 a0) (hm : impl_Lts_saturated_m fuel a0 = some r) :
  Calls Tryz.prog 25 #[p0] w0 fun e w => ∃ (v0 : Value) (v1 : Value), e = .returned (.agg #[.int .i64 r.1, .int .i64 r.2.1, v0, v1]) ∧ Heap w0 [oA (rList rStr) v0 r.2.2.1, oA (rList Rimpl_Edge) v1 r.2.2.2] w := by
 unfold impl_Lts_saturated_m at hm
 have H := Heap.start w0
 obtain ⟨c31, rfl, h32⟩ := h0
 obtain ⟨c37, c38, rfl, h39, h40⟩ := h32
 obtain rfl := h39
 obtain ⟨c41, c42, rfl, h43, h44⟩ := h40
 obtain rfl := h43
 obtain ⟨c45, c46, rfl, h47, h48⟩ := h44
 obtain ⟨v33, rfl, h34⟩ := rd_list h47
 obtain ⟨v35, rfl, h36⟩ := rd_list h48
 refine enter (args := [(.agg #[(.int .i64 a0.1), (.int .i64 a0.2.1), v33, v35])]) Tryz.func25 rfl 52 rfl (Nat.le_of_ble_eq_true rfl) (fun a S => ?_)
 refine wp_seq (region_plain ?_)
 refine lx_box S trivial (by decide) rfl H rfl rfl (fun b49 w50 H => ⟨trivial, fun a S => ?_⟩)
 refine lx_alloc S trivial (by decide) rfl H Tryz.zeroValue29 rfl (fun b52 w53 H => ⟨trivial, fun a S => ?_⟩)
 refine lx_nil (thenN ?_)
 obtain ⟨K62, hK63, hm⟩ := join_elim hm
 refine seq_cut (fun a w => ∃ (x57 : Int) (x58 : Int) (xs60 : List Str) (b55 : Nat) (v59 : Value), Slots a 52 [(1, (bp b49)), (2, (bp b52)), (3, (bp b55))] ∧ Heap w0 [bA b49 [(.int .i64 a0.1), (.int .i64 a0.2.1), v33, v35] 29, bA b52 [(.int .i64 (0 : Int)), (.int .i64 (0 : Int)), (.slice none 0 0), (.slice none 0 0)] 29, bA b55 [(.int .i64 x57), (.int .i64 x58), v59, (.slice none 0 0)] 29, oA (rList rStr) v59 xs60] w ∧ K62 x57 x58 xs60 = some r) ?_ ?_
 ·rintro a w ⟨x57, x58, xs60, b55, v59, S, H, hm⟩
  subst hK63
  refine wp_seq (wp_seq (region_plain ?_))
  refine lq (pAdd (bp b49) 0) S (q_fieldAddr' 0 2 rfl (isP_bp _) Tryz.underlying29 rfl Tryz.sizeOf2) fun a S => ?_
  refine lx_e (.int .i64 a0.1) S trivial (by decide) rfl trivial (q_load1 rfl Tryz.isAgg2 (by rintro _ rfl; exact (At.of_add (m := 0) (j := 0) (boxAt (i := 0) H rfl (j := 0) rfl)))) (fun a S => ?_)
  refine lq (.int .i64 (0 : Int)) S (q_move rfl) fun a S => ?_
  refine lx_nil (thenN ?_)
  obtain ⟨res616, hit617, hk620⟩ := bind_some hm
  obtain ⟨f618, hf619, hit617⟩ := iter_name hit617
  refine block_loop (fun a w => ∃ (xs614 : List Timpl_Edge) (v613 : Value), Slots a 52 [(2, (bp b52)), (3, (bp b55))] ∧ Heap w0 [bA b52 [(.int .i64 (0 : Int)), (.int .i64 (0 : Int)), (.slice none 0 0), (.slice none 0 0)] 29, bA b55 [(.int .i64 x57), (.int .i64 x58), v59, v613] 29, oA (rList rStr) v59 xs60, oA (rList Rimpl_Edge) v613 xs614] w ∧ res616 = .inl (xs614)) ?_ ?_
  ·rintro a w ⟨xs614, v613, S, H, rfl⟩
   have hm := ctl_inl hk620
   refine thenN ?_
   refine wp_seq (region_plain ?_)
   refine lx_e (.agg #[(.int .i64 x57), (.int .i64 x58), v59, v613]) S trivial (by decide) rfl trivial (q_loadA (cs := [(.int .i64 x57), (.int .i64 x58), v59, v613]) rfl (isP_bp _) Tryz.isAgg29 Tryz.sizeOf29 (by rintro _ rfl; exact (fun j u hu => boxAt (i := 1) H rfl hu))) (fun a S => ?_)
   refine lx_storeBox (o := 0) (i := 0) (us := [(.int .i64 x57), (.int .i64 x58), v59, v613]) (cs' := [(.int .i64 x57), (.int .i64 x58), v59, v613]) S trivial rfl H rfl rfl rfl rfl Tryz.sizeOf29 (Nat.le_of_ble_eq_true rfl) (List.forall_mem_cons.2 ⟨rfl, (List.forall_mem_cons.2 ⟨rfl, (List.forall_mem_cons.2 ⟨one_sl (H.isSl 2 rfl), (List.forall_mem_cons.2 ⟨one_sl (H.isSl 3 rfl), (fun _ h => nomatch h)⟩)⟩)⟩)⟩) rfl (fun w621 H => ⟨trivial, fun a S => ?_⟩)
   change Heap w0 [bA b52 [(.int .i64 x57), (.int .i64 x58), v59, v613] 29, bA b55 [(.int .i64 x57), (.int .i64 x58), v59, v613] 29, oA (rList rStr) v59 xs60, oA (rList Rimpl_Edge) v613 xs614] w621 at H
   refine lx_nil (thenN ?_)
   refine wp_ret ?_
   have hrv0 := RV.cellA (t := 29) (q := 2) (env := [(2, (bp b52)), (3, (bp b55)), (51, (.agg #[(.int .i64 x57), (.int .i64 x58), v59, v613]))]) H (i := 0) rfl rfl Tryz.isAgg29 Tryz.sizeOf29
   obtain rfl := Option.some.inj hm
   have H : Heap w0 [oA (rList rStr) v59 xs60, oA (rList Rimpl_Edge) v613 xs614] w621 := H.sel [2, 3] (by decide)
   exact leaveR1 S rfl hrv0 ⟨v59, v613, rfl, H⟩
  ·skip
   have H : Heap w0 [oA (rList Rimpl_Edge) (.slice none 0 0) ([] : List Timpl_Edge), bA b49 [(.int .i64 a0.1), (.int .i64 a0.2.1), v33, v35] 29, bA b52 [(.int .i64 (0 : Int)), (.int .i64 (0 : Int)), (.slice none 0 0), (.slice none 0 0)] 29, bA b55 [(.int .i64 x57), (.int .i64 x58), v59, (.slice none 0 0)] 29, oA (rList rStr) v59 xs60] w := H.nilList Rimpl_Edge
   have H : Heap w0 [oA (rList rStr) v59 xs60, oA (rList Rimpl_Edge) (.slice none 0 0) ([] : List Timpl_Edge), bA b49 [(.int .i64 a0.1), (.int .i64 a0.2.1), v33, v35] 29, bA b52 [(.int .i64 (0 : Int)), (.int .i64 (0 : Int)), (.slice none 0 0), (.slice none 0 0)] 29, bA b55 [(.int .i64 x57), (.int .i64 x58), v59, (.slice none 0 0)] 29] w := H.front 4 rfl
   have H : Heap w0 [bA b55 [(.int .i64 x57), (.int .i64 x58), v59, (.slice none 0 0)] 29, oA (rList rStr) v59 xs60, oA (rList Rimpl_Edge) (.slice none 0 0) ([] : List Timpl_Edge), bA b49 [(.int .i64 a0.1), (.int .i64 a0.2.1), v33, v35] 29, bA b52 [(.int .i64 (0 : Int)), (.int .i64 (0 : Int)), (.slice none 0 0), (.slice none 0 0)] 29] w := H.front 4 rfl
   have H : Heap w0 [bA b52 [(.int .i64 (0 : Int)), (.int .i64 (0 : Int)), (.slice none 0 0), (.slice none 0 0)] 29, bA b55 [(.int .i64 x57), (.int .i64 x58), v59, (.slice none 0 0)] 29, oA (rList rStr) v59 xs60, oA (rList Rimpl_Edge) (.slice none 0 0) ([] : List Timpl_Edge), bA b49 [(.int .i64 a0.1), (.int .i64 a0.2.1), v33, v35] 29] w := H.front 4 rfl
   have H : Heap w0 [bA b49 [(.int .i64 a0.1), (.int .i64 a0.2.1), v33, v35] 29, bA b52 [(.int .i64 (0 : Int)), (.int .i64 (0 : Int)), (.slice none 0 0), (.slice none 0 0)] 29, bA b55 [(.int .i64 x57), (.int .i64 x58), v59, (.slice none 0 0)] 29, oA (rList rStr) v59 xs60, oA (rList Rimpl_Edge) (.slice none 0 0) ([] : List Timpl_Edge)] w := H.front 4 rfl
   refine loop_ghost (fun n a w => ∃ (xs339 : List Timpl_Edge) (x341 : Int) (v338 : Value), Slots a 52 [(1, (bp b49)), (2, (bp b52)), (3, (bp b55)), (18, (.int .i64 a0.1)), (19, (.int .i64 x341))] ∧ Heap w0 [bA b49 [(.int .i64 a0.1), (.int .i64 a0.2.1), v33, v35] 29, bA b52 [(.int .i64 (0 : Int)), (.int .i64 (0 : Int)), (.slice none 0 0), (.slice none 0 0)] 29, bA b55 [(.int .i64 x57), (.int .i64 x58), v59, v338] 29, oA (rList rStr) v59 xs60, oA (rList Rimpl_Edge) v338 xs339] w ∧ iter f618 n (xs339, x341) = some res616) _ ⟨[], (0 : Int), (.slice none 0 0), S.sub ⟨rfl, rfl, rfl, rfl, rfl, trivial⟩, H, hit617⟩ ?_
   rintro n a w ⟨xs339, x341, v338, S, H, hit617⟩
   obtain ⟨m623, o624, rfl, hm, hc625⟩ := iter_step hit617
   rw [hf619] at hm
   refine wp_seq (region_plain ?_)
   refine lq (.bool (decide (x341 < a0.1))) S (q_lss rfl rfl) fun a S => ?_
   refine lx_nil (thenN ?_)
   refine wp_seq ?_
   refine cond_b S rfl (fun hc626 => ?_) (fun hc626 => ?_)
   ·have hm := ite_t hc626 hm
    refine wp_skip (thenN ?_)
    refine wp_seq ?_
    refine wp_block ?_
    refine wp_seq (region_plain ?_)
    refine lq (.int .i64 x341) S (q_move rfl) fun a S => ?_
    refine lq (.int .i64 x341) S (q_assign rfl) fun a S => ?_
    refine lx_nil (thenN ?_)
    refine wp_seq (region_plain ?_)
    refine lq (pAdd (bp b49) 2) S (q_fieldAddr' 2 22 rfl (isP_bp _) Tryz.underlying29 rfl Tryz.sizeOf22) fun a S => ?_
    refine lx_e v33 S trivial (by decide) rfl trivial (q_load1 rfl Tryz.isAgg22 (by rintro _ rfl; exact (At.of_add (m := 2) (j := 0) (boxAt (i := 0) H rfl (j := 2) rfl)))) (fun a S => ?_)
    refine lq (.int .i64 (a0.2.2.1.length : Int)) S (q_lenSl rfl (h34).isSl rfl Tryz.underlying22) fun a S => ?_
    refine lq (.int .i64 (0 : Int)) S (q_move rfl) fun a S => ?_
    refine lx_nil (thenN ?_)
    obtain ⟨res804, hit805, hk808⟩ := bind_some hm
    obtain ⟨f806, hf807, hit805⟩ := iter_name hit805
    refine block_loop (fun a w => ∃ (xs802 : List Timpl_Edge) (v801 : Value), Slots a 52 [(1, (bp b49)), (2, (bp b52)), (3, (bp b55)), (18, (.int .i64 a0.1)), (19, (.int .i64 x341))] ∧ Heap w0 [bA b49 [(.int .i64 a0.1), (.int .i64 a0.2.1), v33, v35] 29, bA b52 [(.int .i64 (0 : Int)), (.int .i64 (0 : Int)), (.slice none 0 0), (.slice none 0 0)] 29, bA b55 [(.int .i64 x57), (.int .i64 x58), v59, v801] 29, oA (rList rStr) v59 xs60, oA (rList Rimpl_Edge) v801 xs802] w ∧ res804 = .inl (xs802)) ?_ ?_
    ·rintro a w ⟨xs802, v801, S, H, rfl⟩
     have hm := ctl_inl hk808
     refine inBlock_norm ?_
     refine thenN ?_
     refine region_plain ?_
     refine lq (.int .i64 (W (x341 + (1 : Int)))) S (q_add rfl rfl) fun a S => ?_
     refine lq (.int .i64 (W (x341 + (1 : Int)))) S (q_move rfl) fun a S => ?_
     refine lx_nil ?_
     exact ⟨m623, Nat.lt_succ_self _, xs802, (W (x341 + (1 : Int))), v801, S.sub ⟨rfl, rfl, rfl, rfl, rfl, trivial⟩, H, it_cont hm hc625⟩
    ·skip
     refine loop_ghost (fun n a w => ∃ (xs713 : List Timpl_Edge) (x715 : Int) (v712 : Value), Slots a 52 [(1, (bp b49)), (2, (bp b52)), (3, (bp b55)), (4, (.int .i64 x341)), (18, (.int .i64 a0.1)), (19, (.int .i64 x341)), (23, v33), (24, (.int .i64 (a0.2.2.1.length : Int))), (25, (.int .i64 x715))] ∧ Heap w0 [bA b49 [(.int .i64 a0.1), (.int .i64 a0.2.1), v33, v35] 29, bA b52 [(.int .i64 (0 : Int)), (.int .i64 (0 : Int)), (.slice none 0 0), (.slice none 0 0)] 29, bA b55 [(.int .i64 x57), (.int .i64 x58), v59, v712] 29, oA (rList rStr) v59 xs60, oA (rList Rimpl_Edge) v712 xs713] w ∧ iter f806 n (xs713, x715) = some res804) _ ⟨xs339, (0 : Int), v338, S.sub ⟨rfl, rfl, rfl, rfl, rfl, rfl, rfl, rfl, rfl, trivial⟩, H, hit805⟩ ?_
     rintro n a w ⟨xs713, x715, v712, S, H, hit805⟩
     obtain ⟨m809, o810, rfl, hm, hc811⟩ := iter_step hit805
     rw [hf807] at hm
     refine wp_seq (region_plain ?_)
     refine lq (.bool (decide (x715 < (a0.2.2.1.length : Int)))) S (q_lss rfl rfl) fun a S => ?_
     refine lx_nil (thenN ?_)
     refine wp_seq ?_
     refine cond_b S rfl (fun hc812 => ?_) (fun hc812 => ?_)
     ·have hm := ite_t hc812 hm
      refine wp_skip (thenN ?_)
      refine wp_seq ?_
      refine wp_block ?_
      refine wp_seq (region_plain ?_)
      refine lq (.int .i64 x715) S (q_move rfl) fun a S => ?_
      obtain ⟨x813, e814, hm⟩ := bind_some hm
      obtain ⟨c815, h816, hat817⟩ := (h34).elem (idx_some e814).2
      obtain rfl := h816
      have hlt := lt_of_idx (idx_some e814).2
      refine lq (ePtr v33 (x715.toNat * 1)) S (q_indexAddr rfl (h34).isSl rfl (idx_some e814).1 hlt Tryz.underlying22 Tryz.sizeOf9) fun a S => ?_
      refine lx_e (sv x813) S trivial (by decide) rfl trivial (q_load1 rfl Tryz.isAgg9 (by rintro _ rfl; exact ((hat817 0 _ rfl).ext H.ext))) (fun a S => ?_)
      refine lq (.int .i64 x715) S (q_assign rfl) fun a S => ?_
      refine lq (sv x813) S (q_assign rfl) fun a S => ?_
      refine lx_nil (thenN ?_)
      refine wp_seq (region_plain ?_)
      refine lx_e (.agg #[(.int .i64 a0.1), (.int .i64 a0.2.1), v33, v35]) S trivial (by decide) rfl trivial (q_loadA (cs := [(.int .i64 a0.1), (.int .i64 a0.2.1), v33, v35]) rfl (isP_bp _) Tryz.isAgg29 Tryz.sizeOf29 (by rintro _ rfl; exact (fun j u hu => boxAt (i := 0) H rfl hu))) (fun a S => ?_)
      refine lq (.int .i64 x341) S (q_move rfl) fun a S => ?_
      refine lq (sv x813) S (q_move rfl) fun a S => ?_
      obtain ⟨x820, e821, hm⟩ := bind_some hm
      refine lx_call (xs := [.tmp 30, .tmp 31, .tmp 32]) S trivial (by decide) rfl rfl Tryz.call49 ((impl_Lts_weakly_ok ⟨[(.int .i64 a0.1), (.int .i64 a0.2.1), v33, v35], rfl, ⟨[(.int .i64 a0.1)], [(.int .i64 a0.2.1), v33, v35], rfl, rfl, ⟨[(.int .i64 a0.2.1)], [v33, v35], rfl, rfl, ⟨[v33], [v35], rfl, ((H.arg h34)).list_rd, ((H.arg h36)).list_rd⟩⟩⟩⟩   e821).mono ?_)
      rintro e w818 ⟨v822, rfl, Hc819⟩
      have H := H.call1 Hc819
      refine ⟨_, rfl, trivial, fun a S => ?_⟩
      refine lq (.int .i64 (x820.length : Int)) S (q_lenSl rfl (H.isSl 0 rfl) rfl Tryz.underlying36) fun a S => ?_
      refine lq (.int .i64 (0 : Int)) S (q_move rfl) fun a S => ?_
      refine lx_nil (thenN ?_)
      obtain ⟨res870, hit871, hk874⟩ := bind_some hm
      obtain ⟨f872, hf873, hit871⟩ := iter_name hit871
      refine block_loop (fun a w => ∃ (xs868 : List Timpl_Edge) (v867 : Value), Slots a 52 [(1, (bp b49)), (2, (bp b52)), (3, (bp b55)), (4, (.int .i64 x341)), (18, (.int .i64 a0.1)), (19, (.int .i64 x341)), (23, v33), (24, (.int .i64 (a0.2.2.1.length : Int))), (25, (.int .i64 x715))] ∧ Heap w0 [bA b49 [(.int .i64 a0.1), (.int .i64 a0.2.1), v33, v35] 29, bA b52 [(.int .i64 (0 : Int)), (.int .i64 (0 : Int)), (.slice none 0 0), (.slice none 0 0)] 29, bA b55 [(.int .i64 x57), (.int .i64 x58), v59, v867] 29, oA (rList rStr) v59 xs60, oA (rList Rimpl_Edge) v867 xs868] w ∧ res870 = .inl (xs868)) ?_ ?_
      ·rintro a w ⟨xs868, v867, S, H, rfl⟩
       have hm := ctl_inl hk874
       refine inBlock_norm ?_
       refine thenN ?_
       refine region_plain ?_
       refine lq (.int .i64 (W (x715 + (1 : Int)))) S (q_add rfl rfl) fun a S => ?_
       refine lq (.int .i64 (W (x715 + (1 : Int)))) S (q_move rfl) fun a S => ?_
       refine lx_nil ?_
       exact ⟨m809, Nat.lt_succ_self _, xs868, (W (x715 + (1 : Int))), v867, S.sub ⟨rfl, rfl, rfl, rfl, rfl, rfl, rfl, rfl, rfl, trivial⟩, H, it_cont hm hc811⟩
      ·skip
       have H : Heap w0 [oA (rList Rimpl_Edge) v712 xs713, oA (rList (rInt .i64)) v822 x820, bA b49 [(.int .i64 a0.1), (.int .i64 a0.2.1), v33, v35] 29, bA b52 [(.int .i64 (0 : Int)), (.int .i64 (0 : Int)), (.slice none 0 0), (.slice none 0 0)] 29, bA b55 [(.int .i64 x57), (.int .i64 x58), v59, v712] 29, oA (rList rStr) v59 xs60] w818 := H.front 5 rfl
       have H : Heap w0 [oA (rList rStr) v59 xs60, oA (rList Rimpl_Edge) v712 xs713, oA (rList (rInt .i64)) v822 x820, bA b49 [(.int .i64 a0.1), (.int .i64 a0.2.1), v33, v35] 29, bA b52 [(.int .i64 (0 : Int)), (.int .i64 (0 : Int)), (.slice none 0 0), (.slice none 0 0)] 29, bA b55 [(.int .i64 x57), (.int .i64 x58), v59, v712] 29] w818 := H.front 5 rfl
       have H : Heap w0 [bA b55 [(.int .i64 x57), (.int .i64 x58), v59, v712] 29, oA (rList rStr) v59 xs60, oA (rList Rimpl_Edge) v712 xs713, oA (rList (rInt .i64)) v822 x820, bA b49 [(.int .i64 a0.1), (.int .i64 a0.2.1), v33, v35] 29, bA b52 [(.int .i64 (0 : Int)), (.int .i64 (0 : Int)), (.slice none 0 0), (.slice none 0 0)] 29] w818 := H.front 5 rfl
       have H : Heap w0 [bA b52 [(.int .i64 (0 : Int)), (.int .i64 (0 : Int)), (.slice none 0 0), (.slice none 0 0)] 29, bA b55 [(.int .i64 x57), (.int .i64 x58), v59, v712] 29, oA (rList rStr) v59 xs60, oA (rList Rimpl_Edge) v712 xs713, oA (rList (rInt .i64)) v822 x820, bA b49 [(.int .i64 a0.1), (.int .i64 a0.2.1), v33, v35] 29] w818 := H.front 5 rfl
       have H : Heap w0 [bA b49 [(.int .i64 a0.1), (.int .i64 a0.2.1), v33, v35] 29, bA b52 [(.int .i64 (0 : Int)), (.int .i64 (0 : Int)), (.slice none 0 0), (.slice none 0 0)] 29, bA b55 [(.int .i64 x57), (.int .i64 x58), v59, v712] 29, oA (rList rStr) v59 xs60, oA (rList Rimpl_Edge) v712 xs713, oA (rList (rInt .i64)) v822 x820] w818 := H.front 5 rfl
       refine loop_ghost (fun n a w => ∃ (xs845 : List Timpl_Edge) (x847 : Int) (v844 : Value), Slots a 52 [(1, (bp b49)), (2, (bp b52)), (3, (bp b55)), (4, (.int .i64 x341)), (5, (.int .i64 x715)), (18, (.int .i64 a0.1)), (19, (.int .i64 x341)), (23, v33), (24, (.int .i64 (a0.2.2.1.length : Int))), (25, (.int .i64 x715)), (33, v822), (34, (.int .i64 (x820.length : Int))), (35, (.int .i64 x847))] ∧ Heap w0 [bA b49 [(.int .i64 a0.1), (.int .i64 a0.2.1), v33, v35] 29, bA b52 [(.int .i64 (0 : Int)), (.int .i64 (0 : Int)), (.slice none 0 0), (.slice none 0 0)] 29, bA b55 [(.int .i64 x57), (.int .i64 x58), v59, v844] 29, oA (rList rStr) v59 xs60, oA (rList Rimpl_Edge) v844 xs845, oA (rList (rInt .i64)) v822 x820] w ∧ iter f872 n (xs845, x847) = some res870) _ ⟨xs713, (0 : Int), v712, S.sub ⟨rfl, rfl, rfl, rfl, rfl, rfl, rfl, rfl, rfl, rfl, rfl, rfl, rfl, trivial⟩, H, hit871⟩ ?_
       rintro n a w ⟨xs845, x847, v844, S, H, hit871⟩
       obtain ⟨m875, o876, rfl, hm, hc877⟩ := iter_step hit871
       rw [hf873] at hm
       refine wp_seq (region_plain ?_)
       refine lq (.bool (decide (x847 < (x820.length : Int)))) S (q_lss rfl rfl) fun a S => ?_
       refine lx_nil (thenN ?_)
       refine wp_seq ?_
       refine cond_b S rfl (fun hc878 => ?_) (fun hc878 => ?_)
       ·have hm := ite_t hc878 hm
        refine wp_skip (thenN ?_)
        refine wp_seq ?_
        refine wp_block ?_
        refine wp_seq (region_plain ?_)
        obtain ⟨x879, e880, hm⟩ := bind_some hm
        have hlt := lt_of_idx (idx_some e880).2
        refine lq (ePtr v822 (x847.toNat * 1)) S (q_indexAddr rfl (H.isSl 5 rfl) rfl (idx_some e880).1 hlt Tryz.underlying36 Tryz.sizeOf2) fun a S => ?_
        obtain ⟨c881, h882, hat883⟩ := (H.rdAt 5 rfl).elem (idx_some e880).2
        obtain rfl := h882
        refine lx_e (.int .i64 x879) S trivial (by decide) rfl trivial (q_load1 rfl Tryz.isAgg2 (by rintro _ rfl; exact (hat883 0 _ rfl))) (fun a S => ?_)
        refine lq (.int .i64 x879) S (q_assign rfl) fun a S => ?_
        refine lx_nil (thenN ?_)
        refine region_plain ?_
        refine lq (pAdd (bp b55) 3) S (q_fieldAddr' 3 27 rfl (isP_bp _) Tryz.underlying29 rfl Tryz.sizeOf27) fun a S => ?_
        refine lx_e v844 S trivial (by decide) rfl trivial (q_load1 rfl Tryz.isAgg27 (by rintro _ rfl; exact (At.of_add (m := 3) (j := 0) (boxAt (i := 2) H rfl (j := 3) rfl)))) (fun a S => ?_)
        refine lq (.int .i64 x341) S (q_move rfl) fun a S => ?_
        refine lq (.int .i64 x715) S (q_move rfl) fun a S => ?_
        refine lq (.int .i64 x879) S (q_move rfl) fun a S => ?_
        refine lq (.agg #[(.int .i64 x341), (.int .i64 x715), (.int .i64 x879)]) S (q_build (zs := [(.int .i64 (0 : Int)), (.int .i64 (0 : Int)), (.int .i64 (0 : Int))]) (szs := [1, 1, 1]) (ps := [(0, [(.int .i64 x341)]), (1, [(.int .i64 x715)]), (2, [(.int .i64 x879)])]) (parts := [(0, .tmp 41), (1, .tmp 42), (2, .tmp 43)]) rfl Tryz.underlying62 Tryz.zeroValue62 (fun w => by simp [Tryz.sizeOf2]) ⟨rfl, rfl, Nat.le_of_ble_eq_true rfl, ⟨rfl, rfl, Nat.le_of_ble_eq_true rfl, ⟨rfl, rfl, Nat.le_of_ble_eq_true rfl, trivial⟩⟩⟩ rfl) fun a S => ?_
        refine lx_buildSlice (r := Rimpl_Edge) (xs := [(x341, x715, x879)]) (ps := [(0, [(.int .i64 x341), (.int .i64 x715), (.int .i64 x879)])]) (cs := [(.int .i64 x341), (.int .i64 x715), (.int .i64 x879)]) (parts := [(0, .tmp 44)]) S trivial (by decide) rfl (H.put0 (A := eA) rfl) rfl Tryz.underlying27 Tryz.sizeOf62 Tryz.zeroValue62 (by decide) ⟨rfl, rfl, Nat.le_of_ble_eq_true rfl, trivial⟩ (by intro zs hz; exact fill_dense hz ⟨rfl, trivial⟩ rfl rfl) rfl (by decide) (fun w F hA => by cases (show F = [] from hA); exact ⟨_, _, [(.int .i64 x341), (.int .i64 x715), (.int .i64 x879)], _, rfl, rfl, ⟨_, _, [(.int .i64 x341)], [(.int .i64 x715), (.int .i64 x879)], rfl, rfl, ⟨rfl, rfl⟩, ⟨_, _, [(.int .i64 x715)], [(.int .i64 x879)], rfl, rfl, ⟨rfl, rfl⟩, ⟨rfl, rfl⟩⟩⟩, ⟨rfl, rfl⟩⟩) (fun v884 w885 H => ⟨trivial, fun a S => ?_⟩)
        obtain ⟨x887, e888, hm⟩ := bind_some hm
        obtain ⟨hle, hap⟩ := app_some e888
        replace hap := hap.symm
        subst hap
        have H : Heap w0 [oA (rList Rimpl_Edge) v884 [(x341, x715, x879)], bA b49 [(.int .i64 a0.1), (.int .i64 a0.2.1), v33, v35] 29, bA b52 [(.int .i64 (0 : Int)), (.int .i64 (0 : Int)), (.slice none 0 0), (.slice none 0 0)] 29, bA b55 [(.int .i64 x57), (.int .i64 x58), v59, v844] 29, oA (rList rStr) v59 xs60, oA (rList Rimpl_Edge) v844 xs845, oA (rList (rInt .i64)) v822 x820] w885 := H.front 0 rfl
        have H : Heap w0 [oA (rList Rimpl_Edge) v844 xs845, oA (rList Rimpl_Edge) v884 [(x341, x715, x879)], bA b49 [(.int .i64 a0.1), (.int .i64 a0.2.1), v33, v35] 29, bA b52 [(.int .i64 (0 : Int)), (.int .i64 (0 : Int)), (.slice none 0 0), (.slice none 0 0)] 29, bA b55 [(.int .i64 x57), (.int .i64 x58), v59, v844] 29, oA (rList rStr) v59 xs60, oA (rList (rInt .i64)) v822 x820] w885 := H.front 5 rfl
        refine lx_appendOwn (r := Rimpl_Edge) S trivial (by decide) rfl H rfl rfl Tryz.underlying27 Tryz.ti62 rfl rfl rfl (by decide) (by decide) hle (fun v889 w890 H => ⟨trivial, fun a S => ?_⟩)
        refine lq (pAdd (bp b55) 3) S (q_fieldAddr' 3 27 rfl (isP_bp _) Tryz.underlying29 rfl Tryz.sizeOf27) fun a S => ?_
        refine lx_storeBox (o := 3) (i := 3) (us := [v889]) (cs' := [(.int .i64 x57), (.int .i64 x58), v59, v889]) S trivial rfl H rfl rfl rfl (cells_sl (H.isSl 0 rfl)) Tryz.sizeOf27 (Nat.le_of_ble_eq_true rfl) (List.forall_mem_cons.2 ⟨one_sl (H.isSl 0 rfl), (fun _ h => nomatch h)⟩) rfl (fun w892 H => ⟨trivial, fun a S => ?_⟩)
        change Heap w0 [oA (rList Rimpl_Edge) v889 (xs845 ++ [(x341, x715, x879)]), bA b49 [(.int .i64 a0.1), (.int .i64 a0.2.1), v33, v35] 29, bA b52 [(.int .i64 (0 : Int)), (.int .i64 (0 : Int)), (.slice none 0 0), (.slice none 0 0)] 29, bA b55 [(.int .i64 x57), (.int .i64 x58), v59, v889] 29, oA (rList rStr) v59 xs60, oA (rList (rInt .i64)) v822 x820] w892 at H
        refine lx_nil ?_
        refine inBlock_norm ?_
        refine thenN ?_
        refine region_plain ?_
        refine lq (.int .i64 (W (x847 + (1 : Int)))) S (q_add rfl rfl) fun a S => ?_
        refine lq (.int .i64 (W (x847 + (1 : Int)))) S (q_move rfl) fun a S => ?_
        refine lx_nil ?_
        have H : Heap w0 [oA (rList (rInt .i64)) v822 x820, oA (rList Rimpl_Edge) v889 (xs845 ++ [(x341, x715, x879)]), bA b49 [(.int .i64 a0.1), (.int .i64 a0.2.1), v33, v35] 29, bA b52 [(.int .i64 (0 : Int)), (.int .i64 (0 : Int)), (.slice none 0 0), (.slice none 0 0)] 29, bA b55 [(.int .i64 x57), (.int .i64 x58), v59, v889] 29, oA (rList rStr) v59 xs60] w892 := H.front 5 rfl
        have H : Heap w0 [oA (rList Rimpl_Edge) v889 (xs845 ++ [(x341, x715, x879)]), oA (rList (rInt .i64)) v822 x820, bA b49 [(.int .i64 a0.1), (.int .i64 a0.2.1), v33, v35] 29, bA b52 [(.int .i64 (0 : Int)), (.int .i64 (0 : Int)), (.slice none 0 0), (.slice none 0 0)] 29, bA b55 [(.int .i64 x57), (.int .i64 x58), v59, v889] 29, oA (rList rStr) v59 xs60] w892 := H.front 1 rfl
        have H : Heap w0 [oA (rList rStr) v59 xs60, oA (rList Rimpl_Edge) v889 (xs845 ++ [(x341, x715, x879)]), oA (rList (rInt .i64)) v822 x820, bA b49 [(.int .i64 a0.1), (.int .i64 a0.2.1), v33, v35] 29, bA b52 [(.int .i64 (0 : Int)), (.int .i64 (0 : Int)), (.slice none 0 0), (.slice none 0 0)] 29, bA b55 [(.int .i64 x57), (.int .i64 x58), v59, v889] 29] w892 := H.front 5 rfl
        have H : Heap w0 [bA b55 [(.int .i64 x57), (.int .i64 x58), v59, v889] 29, oA (rList rStr) v59 xs60, oA (rList Rimpl_Edge) v889 (xs845 ++ [(x341, x715, x879)]), oA (rList (rInt .i64)) v822 x820, bA b49 [(.int .i64 a0.1), (.int .i64 a0.2.1), v33, v35] 29, bA b52 [(.int .i64 (0 : Int)), (.int .i64 (0 : Int)), (.slice none 0 0), (.slice none 0 0)] 29] w892 := H.front 5 rfl
        have H : Heap w0 [bA b52 [(.int .i64 (0 : Int)), (.int .i64 (0 : Int)), (.slice none 0 0), (.slice none 0 0)] 29, bA b55 [(.int .i64 x57), (.int .i64 x58), v59, v889] 29, oA (rList rStr) v59 xs60, oA (rList Rimpl_Edge) v889 (xs845 ++ [(x341, x715, x879)]), oA (rList (rInt .i64)) v822 x820, bA b49 [(.int .i64 a0.1), (.int .i64 a0.2.1), v33, v35] 29] w892 := H.front 5 rfl
        have H : Heap w0 [bA b49 [(.int .i64 a0.1), (.int .i64 a0.2.1), v33, v35] 29, bA b52 [(.int .i64 (0 : Int)), (.int .i64 (0 : Int)), (.slice none 0 0), (.slice none 0 0)] 29, bA b55 [(.int .i64 x57), (.int .i64 x58), v59, v889] 29, oA (rList rStr) v59 xs60, oA (rList Rimpl_Edge) v889 (xs845 ++ [(x341, x715, x879)]), oA (rList (rInt .i64)) v822 x820] w892 := H.front 5 rfl
        exact ⟨m875, Nat.lt_succ_self _, (xs845 ++ [(x341, x715, x879)]), (W (x847 + (1 : Int))), v889, S.sub ⟨rfl, rfl, rfl, rfl, rfl, rfl, rfl, rfl, rfl, rfl, rfl, rfl, rfl, trivial⟩, H, it_cont hm hc877⟩
       ·have hm := ite_f hc878 hm
        refine wp_exit ?_
        refine then_exit ?_
        refine then_exit ?_
        refine inBlock_exit ?_
        obtain rfl := it_brk hm hc877
        have H : Heap w0 [bA b49 [(.int .i64 a0.1), (.int .i64 a0.2.1), v33, v35] 29, bA b52 [(.int .i64 (0 : Int)), (.int .i64 (0 : Int)), (.slice none 0 0), (.slice none 0 0)] 29, bA b55 [(.int .i64 x57), (.int .i64 x58), v59, v844] 29, oA (rList rStr) v59 xs60, oA (rList Rimpl_Edge) v844 xs845] w := H.sel [0, 1, 2, 3, 4] (by decide)
        exact ⟨xs845, v844, S.sub ⟨rfl, rfl, rfl, rfl, rfl, rfl, rfl, rfl, rfl, trivial⟩, H, rfl⟩
     ·have hm := ite_f hc812 hm
      refine wp_exit ?_
      refine then_exit ?_
      refine then_exit ?_
      refine inBlock_exit ?_
      obtain rfl := it_brk hm hc811
      exact ⟨xs713, v712, S.sub ⟨rfl, rfl, rfl, rfl, rfl, trivial⟩, H, rfl⟩
   ·have hm := ite_f hc626 hm
    refine wp_exit ?_
    refine then_exit ?_
    refine then_exit ?_
    refine inBlock_exit ?_
    obtain rfl := it_brk hm hc625
    have H : Heap w0 [bA b52 [(.int .i64 (0 : Int)), (.int .i64 (0 : Int)), (.slice none 0 0), (.slice none 0 0)] 29, bA b55 [(.int .i64 x57), (.int .i64 x58), v59, v338] 29, oA (rList rStr) v59 xs60, oA (rList Rimpl_Edge) v338 xs339] w := H.sel [1, 2, 3, 4] (by decide)
    exact ⟨xs339, v338, S.sub ⟨rfl, rfl, trivial⟩, H, rfl⟩
 ·skip
  refine region_draw2 (m := [_, _, _, _, _, _, _, _, _, _]) (fun w1 => Heap w0 [bA b49 [(.int .i64 a0.1), (.int .i64 a0.2.1), v33, v35] 29] w1) (fun i => [6, 8, 9].contains i) (fun i => [7, 0, 9].contains i) [8, 0, 1, 2, 3, 4, 5, 6, 7, 9] 6 8 mixed (by kernel_rfl) rfl rfl rfl (fun w894 he893 => ?_)
  have H := H.later he893
  refine ⟨⟨H.sel [1] (by decide), ?_⟩, ?_⟩
  ·skip
   refine lq (pAdd (bp b49) 0) S (q_fieldAddr' 0 2 rfl (isP_bp _) Tryz.underlying29 rfl Tryz.sizeOf2) fun a S => ?_
   refine lq (.int .i64 a0.1) S (q_load1 rfl Tryz.isAgg2 (fun w1 hC => (At.of_add (m := 0) (j := 0) (boxAt (i := 0) hC rfl (j := 0) rfl)))) fun a S => ?_
   refine lq (pAdd (bp b49) 1) S (q_fieldAddr' 1 2 rfl (isP_bp _) Tryz.underlying29 rfl Tryz.sizeOf2) fun a S => ?_
   refine lq (.int .i64 a0.2.1) S (q_load1 rfl Tryz.isAgg2 (fun w1 hC => (At.of_add (m := 1) (j := 0) (boxAt (i := 0) hC rfl (j := 1) rfl)))) fun a S => ?_
   refine lq (pAdd (bp b49) 2) S (q_fieldAddr' 2 22 rfl (isP_bp _) Tryz.underlying29 rfl Tryz.sizeOf22) fun a S => ?_
   refine lq v33 S (q_load1 rfl Tryz.isAgg22 (fun w1 hC => (At.of_add (m := 2) (j := 0) (boxAt (i := 0) hC rfl (j := 2) rfl)))) fun a S => ?_
   obtain ⟨x897, e898, hm⟩ := bind_some hm
   refine lx_call (xs := [.tmp 14]) S trivial (by decide) rfl rfl Tryz.call48 ((slices_Clone__string_string_ok (H.arg h34) e898).mono ?_)
   rintro e w895 ⟨v899, rfl, Hc896⟩
   have he901 := Hc896.ext
   have H := H.call1 Hc896
   refine ⟨_, rfl, H.sel [2] (by decide), fun a S => ?_⟩
   refine lq (.agg #[(.int .i64 a0.1), (.int .i64 a0.2.1), v899, (.slice none 0 0)]) S (q_build (zs := [(.int .i64 (0 : Int)), (.int .i64 (0 : Int)), (.slice none 0 0), (.slice none 0 0)]) (szs := [1, 1, 1, 1]) (ps := [(0, [(.int .i64 a0.1)]), (1, [(.int .i64 a0.2.1)]), (2, [v899])]) (parts := [(0, .tmp 10), (1, .tmp 12), (2, .tmp 15)]) rfl Tryz.underlying29 Tryz.zeroValue29 (fun w => by simp [Tryz.sizeOf2, Tryz.sizeOf22, Tryz.sizeOf27]) ⟨rfl, rfl, Nat.le_of_ble_eq_true rfl, ⟨rfl, rfl, Nat.le_of_ble_eq_true rfl, ⟨rfl, (cells_sl (H.isSl 0 rfl)), Nat.le_of_ble_eq_true rfl, trivial⟩⟩⟩ rfl) fun a S => ?_
   refine lx_alloc S trivial (by decide) rfl H Tryz.zeroValue29 rfl (fun b902 w903 H => ⟨H.sel [3] (by decide), fun a S => ?_⟩)
   refine lx_storeBox (o := 0) (i := 0) (us := [(.int .i64 a0.1), (.int .i64 a0.2.1), v899, (.slice none 0 0)]) (cs' := [(.int .i64 a0.1), (.int .i64 a0.2.1), v899, (.slice none 0 0)]) S trivial rfl H rfl rfl rfl rfl Tryz.sizeOf29 (Nat.le_of_ble_eq_true rfl) (List.forall_mem_cons.2 ⟨rfl, (List.forall_mem_cons.2 ⟨rfl, (List.forall_mem_cons.2 ⟨one_sl (H.isSl 1 rfl), (List.forall_mem_cons.2 ⟨rfl, (fun _ h => nomatch h)⟩)⟩)⟩)⟩) rfl (fun w905 H => ⟨H.sel [3] (by decide), fun a S => ?_⟩)
   change Heap w0 [bA b902 [(.int .i64 a0.1), (.int .i64 a0.2.1), v899, (.slice none 0 0)] 29, oA (rList rStr) v899 x897, bA b52 [(.int .i64 (0 : Int)), (.int .i64 (0 : Int)), (.slice none 0 0), (.slice none 0 0)] 29, bA b49 [(.int .i64 a0.1), (.int .i64 a0.2.1), v33, v35] 29] w905 at H
   refine lx_nil ?_
   have H : Heap w0 [oA (rList rStr) v899 x897, bA b902 [(.int .i64 a0.1), (.int .i64 a0.2.1), v899, (.slice none 0 0)] 29, bA b52 [(.int .i64 (0 : Int)), (.int .i64 (0 : Int)), (.slice none 0 0), (.slice none 0 0)] 29, bA b49 [(.int .i64 a0.1), (.int .i64 a0.2.1), v33, v35] 29] w905 := H.front 1 rfl
   have H : Heap w0 [bA b902 [(.int .i64 a0.1), (.int .i64 a0.2.1), v899, (.slice none 0 0)] 29, oA (rList rStr) v899 x897, bA b52 [(.int .i64 (0 : Int)), (.int .i64 (0 : Int)), (.slice none 0 0), (.slice none 0 0)] 29, bA b49 [(.int .i64 a0.1), (.int .i64 a0.2.1), v33, v35] 29] w905 := H.front 1 rfl
   have H : Heap w0 [bA b52 [(.int .i64 (0 : Int)), (.int .i64 (0 : Int)), (.slice none 0 0), (.slice none 0 0)] 29, bA b902 [(.int .i64 a0.1), (.int .i64 a0.2.1), v899, (.slice none 0 0)] 29, oA (rList rStr) v899 x897, bA b49 [(.int .i64 a0.1), (.int .i64 a0.2.1), v33, v35] 29] w905 := H.front 2 rfl
   have H : Heap w0 [bA b49 [(.int .i64 a0.1), (.int .i64 a0.2.1), v33, v35] 29, bA b52 [(.int .i64 (0 : Int)), (.int .i64 (0 : Int)), (.slice none 0 0), (.slice none 0 0)] 29, bA b902 [(.int .i64 a0.1), (.int .i64 a0.2.1), v899, (.slice none 0 0)] 29, oA (rList rStr) v899 x897] w905 := H.front 3 rfl
   exact ⟨a0.1, a0.2.1, x897, b902, v899, S.sub ⟨rfl, rfl, rfl, trivial⟩, H, hm⟩
  ·skip
   refine lx_alloc S trivial (by decide) rfl H Tryz.zeroValue29 rfl (fun b902 w903 H => ⟨H.sel [2] (by decide), fun a S => ?_⟩)
   refine lq (pAdd (bp b49) 0) S (q_fieldAddr' 0 2 rfl (isP_bp _) Tryz.underlying29 rfl Tryz.sizeOf2) fun a S => ?_
   refine lq (.int .i64 a0.1) S (q_load1 rfl Tryz.isAgg2 (fun w1 hC => (At.of_add (m := 0) (j := 0) (boxAt (i := 0) hC rfl (j := 0) rfl)))) fun a S => ?_
   refine lq (pAdd (bp b49) 1) S (q_fieldAddr' 1 2 rfl (isP_bp _) Tryz.underlying29 rfl Tryz.sizeOf2) fun a S => ?_
   refine lq (.int .i64 a0.2.1) S (q_load1 rfl Tryz.isAgg2 (fun w1 hC => (At.of_add (m := 1) (j := 0) (boxAt (i := 0) hC rfl (j := 1) rfl)))) fun a S => ?_
   refine lq (pAdd (bp b49) 2) S (q_fieldAddr' 2 22 rfl (isP_bp _) Tryz.underlying29 rfl Tryz.sizeOf22) fun a S => ?_
   refine lq v33 S (q_load1 rfl Tryz.isAgg22 (fun w1 hC => (At.of_add (m := 2) (j := 0) (boxAt (i := 0) hC rfl (j := 2) rfl)))) fun a S => ?_
   obtain ⟨x897, e898, hm⟩ := bind_some hm
   refine lx_call (xs := [.tmp 14]) S trivial (by decide) rfl rfl Tryz.call48 ((slices_Clone__string_string_ok (H.arg h34) e898).mono ?_)
   rintro e w895 ⟨v899, rfl, Hc896⟩
   have he901 := Hc896.ext
   have H := H.call1 Hc896
   refine ⟨_, rfl, H.sel [3] (by decide), fun a S => ?_⟩
   refine lq (.agg #[(.int .i64 a0.1), (.int .i64 a0.2.1), v899, (.slice none 0 0)]) S (q_build (zs := [(.int .i64 (0 : Int)), (.int .i64 (0 : Int)), (.slice none 0 0), (.slice none 0 0)]) (szs := [1, 1, 1, 1]) (ps := [(0, [(.int .i64 a0.1)]), (1, [(.int .i64 a0.2.1)]), (2, [v899])]) (parts := [(0, .tmp 10), (1, .tmp 12), (2, .tmp 15)]) rfl Tryz.underlying29 Tryz.zeroValue29 (fun w => by simp [Tryz.sizeOf2, Tryz.sizeOf22, Tryz.sizeOf27]) ⟨rfl, rfl, Nat.le_of_ble_eq_true rfl, ⟨rfl, rfl, Nat.le_of_ble_eq_true rfl, ⟨rfl, (cells_sl (H.isSl 0 rfl)), Nat.le_of_ble_eq_true rfl, trivial⟩⟩⟩ rfl) fun a S => ?_
   refine lx_storeBox (o := 0) (i := 1) (us := [(.int .i64 a0.1), (.int .i64 a0.2.1), v899, (.slice none 0 0)]) (cs' := [(.int .i64 a0.1), (.int .i64 a0.2.1), v899, (.slice none 0 0)]) S trivial rfl H rfl rfl rfl rfl Tryz.sizeOf29 (Nat.le_of_ble_eq_true rfl) (List.forall_mem_cons.2 ⟨rfl, (List.forall_mem_cons.2 ⟨rfl, (List.forall_mem_cons.2 ⟨one_sl (H.isSl 0 rfl), (List.forall_mem_cons.2 ⟨rfl, (fun _ h => nomatch h)⟩)⟩)⟩)⟩) rfl (fun w905 H => ⟨H.sel [3] (by decide), fun a S => ?_⟩)
   change Heap w0 [oA (rList rStr) v899 x897, bA b902 [(.int .i64 a0.1), (.int .i64 a0.2.1), v899, (.slice none 0 0)] 29, bA b52 [(.int .i64 (0 : Int)), (.int .i64 (0 : Int)), (.slice none 0 0), (.slice none 0 0)] 29, bA b49 [(.int .i64 a0.1), (.int .i64 a0.2.1), v33, v35] 29] w905 at H
   refine lx_nil ?_
   have H : Heap w0 [bA b902 [(.int .i64 a0.1), (.int .i64 a0.2.1), v899, (.slice none 0 0)] 29, oA (rList rStr) v899 x897, bA b52 [(.int .i64 (0 : Int)), (.int .i64 (0 : Int)), (.slice none 0 0), (.slice none 0 0)] 29, bA b49 [(.int .i64 a0.1), (.int .i64 a0.2.1), v33, v35] 29] w905 := H.front 1 rfl
   have H : Heap w0 [bA b52 [(.int .i64 (0 : Int)), (.int .i64 (0 : Int)), (.slice none 0 0), (.slice none 0 0)] 29, bA b902 [(.int .i64 a0.1), (.int .i64 a0.2.1), v899, (.slice none 0 0)] 29, oA (rList rStr) v899 x897, bA b49 [(.int .i64 a0.1), (.int .i64 a0.2.1), v33, v35] 29] w905 := H.front 2 rfl
   have H : Heap w0 [bA b49 [(.int .i64 a0.1), (.int .i64 a0.2.1), v33, v35] 29, bA b52 [(.int .i64 (0 : Int)), (.int .i64 (0 : Int)), (.slice none 0 0), (.slice none 0 0)] 29, bA b902 [(.int .i64 a0.1), (.int .i64 a0.2.1), v899, (.slice none 0 0)] 29, oA (rList rStr) v899 x897] w905 := H.front 3 rfl
   exact ⟨a0.1, a0.2.1, x897, b902, v899, S.sub ⟨rfl, rfl, rfl, trivial⟩, H, hm⟩

/-- impl.checked -/
def impl_checked_m (fuel : Nat) (a0 : Timpl_Lts) : Option (Timpl_Lts × Int) :=
  (impl_ValidLts_m fuel (a0.1, a0.2.1, a0.2.2.1, a0.2.2.2)).bind fun x39 => (if (!x39) = true then some ((((0 : Int), (0 : Int), [], []), (5 : Int))) else some (((a0.1, a0.2.1, a0.2.2.1, a0.2.2.2), (0 : Int))))
set_option maxRecDepth 20000 in
theorem impl_checked_ok {w0 : World} {fuel : Nat} {p0_0 p0_1 : Value} {a0 : Timpl_Lts} {w00 : World} {L : List Asrt} {r : Timpl_Lts × Int} (H : Heap w00 (oA (rList rStr) p0_0 a0.2.2.1 :: oA (rList Rimpl_Edge) p0_1 a0.2.2.2 :: L) w0) (hG : Glob Tryz.prog w00) (hm : impl_checked_m fuel a0 = some r) :
  Calls Tryz.prog 24 #[(.agg #[(.int .i64 a0.1), (.int .i64 a0.2.1), p0_0, p0_1])] w0 fun e w => ∃ (v0 : Value) (v1 : Value), e = .returned (.tuple #[.agg #[.int .i64 r.1.1, .int .i64 r.1.2.1, v0, v1], .int .i64 r.2]) ∧ Heap w00 (oA (rList rStr) v0 r.1.2.2.1 :: oA (rList Rimpl_Edge) v1 r.1.2.2.2 :: L) w := by
 unfold impl_checked_m at hm
 refine enter (args := [(.agg #[(.int .i64 a0.1), (.int .i64 a0.2.1), p0_0, p0_1])]) Tryz.func24 rfl 9 rfl (Nat.le_of_ble_eq_true rfl) (fun a S => ?_)
 refine wp_seq (region_plain ?_)
 refine lx_box S trivial (by decide) rfl H rfl rfl (fun b31 w32 H => ⟨trivial, fun a S => ?_⟩)
 refine lx_alloc S trivial (by decide) rfl H Tryz.zeroValue29 rfl (fun b34 w35 H => ⟨trivial, fun a S => ?_⟩)
 refine lq (.int .i64 (0 : Int)) S (q_assign rfl) fun a S => ?_
 refine lx_nil (thenN ?_)
 refine wp_seq (wp_seq (region_plain ?_))
 refine lx_e (.agg #[(.int .i64 a0.1), (.int .i64 a0.2.1), p0_0, p0_1]) S trivial (by decide) rfl trivial (q_loadA (cs := [(.int .i64 a0.1), (.int .i64 a0.2.1), p0_0, p0_1]) rfl (isP_bp _) Tryz.isAgg29 Tryz.sizeOf29 (by rintro _ rfl; exact (fun j u hu => boxAt (i := 1) H rfl hu))) (fun a S => ?_)
 obtain ⟨x39, e40, hm⟩ := bind_some hm
 refine lx_call (xs := [.tmp 4]) S trivial (by decide) rfl rfl Tryz.call23 ((impl_ValidLts_ok (hG.ext H.ext) ⟨[(.int .i64 a0.1), (.int .i64 a0.2.1), p0_0, p0_1], rfl, ⟨[(.int .i64 a0.1)], [(.int .i64 a0.2.1), p0_0, p0_1], rfl, rfl, ⟨[(.int .i64 a0.2.1)], [p0_0, p0_1], rfl, rfl, ⟨[p0_0], [p0_1], rfl, ((H.rdAt 2 rfl)).list_rd, ((H.rdAt 3 rfl)).list_rd⟩⟩⟩⟩ e40).mono ?_)
 rintro e w37 ⟨rfl, Hc38⟩
 have H := H.call0 Hc38
 refine ⟨_, rfl, trivial, fun a S => ?_⟩
 refine lq (.bool (!x39)) S (q_not rfl) fun a S => ?_
 refine lx_nil (thenN ?_)
 refine cond_b S rfl (fun hc42 => ?_) (fun hc42 => ?_)
 ·have hm := ite_t hc42 hm
  refine wp_seq (region_plain ?_)
  refine lq (.agg #[(.int .i64 (0 : Int)), (.int .i64 (0 : Int)), (.slice none 0 0), (.slice none 0 0)]) S (q_build (zs := [(.int .i64 (0 : Int)), (.int .i64 (0 : Int)), (.slice none 0 0), (.slice none 0 0)]) (szs := [1, 1, 1, 1]) (ps := []) (parts := []) rfl Tryz.underlying29 Tryz.zeroValue29 (fun w => by simp [Tryz.sizeOf2, Tryz.sizeOf22, Tryz.sizeOf27]) trivial rfl) fun a S => ?_
  refine lx_storeBox (o := 0) (i := 0) (us := [(.int .i64 (0 : Int)), (.int .i64 (0 : Int)), (.slice none 0 0), (.slice none 0 0)]) (cs' := [(.int .i64 (0 : Int)), (.int .i64 (0 : Int)), (.slice none 0 0), (.slice none 0 0)]) S trivial rfl H rfl rfl rfl rfl Tryz.sizeOf29 (Nat.le_of_ble_eq_true rfl) (List.forall_mem_cons.2 ⟨rfl, (List.forall_mem_cons.2 ⟨rfl, (List.forall_mem_cons.2 ⟨rfl, (List.forall_mem_cons.2 ⟨rfl, (fun _ h => nomatch h)⟩)⟩)⟩)⟩) rfl (fun w43 H => ⟨trivial, fun a S => ?_⟩)
  change Heap w00 (bA b34 [(.int .i64 (0 : Int)), (.int .i64 (0 : Int)), (.slice none 0 0), (.slice none 0 0)] 29 :: bA b31 [(.int .i64 a0.1), (.int .i64 a0.2.1), p0_0, p0_1] 29 :: oA (rList rStr) p0_0 a0.2.2.1 :: oA (rList Rimpl_Edge) p0_1 a0.2.2.2 :: L) w43 at H
  refine lq (.int .i64 (5 : Int)) S (q_assign rfl) fun a S => ?_
  refine lx_nil (thenN ?_)
  refine wp_ret ?_
  have hrv0 := RV.cellA (t := 29) (q := 2) (env := [(0, (.agg #[(.int .i64 a0.1), (.int .i64 a0.2.1), p0_0, p0_1])), (1, (bp b31)), (2, (bp b34)), (3, (.int .i64 (5 : Int))), (4, (.agg #[(.int .i64 a0.1), (.int .i64 a0.2.1), p0_0, p0_1])), (5, (.bool x39)), (6, (.bool (!x39))), (7, (.agg #[(.int .i64 (0 : Int)), (.int .i64 (0 : Int)), (.slice none 0 0), (.slice none 0 0)]))]) H (i := 0) rfl rfl Tryz.isAgg29 Tryz.sizeOf29
  have hrv1 : RV Tryz.prog _ w43 (.tmp 3) (.int .i64 (5 : Int)) := (rfl : lk [(0, (.agg #[(.int .i64 a0.1), (.int .i64 a0.2.1), p0_0, p0_1])), (1, (bp b31)), (2, (bp b34)), (3, (.int .i64 (5 : Int))), (4, (.agg #[(.int .i64 a0.1), (.int .i64 a0.2.1), p0_0, p0_1])), (5, (.bool x39)), (6, (.bool (!x39))), (7, (.agg #[(.int .i64 (0 : Int)), (.int .i64 (0 : Int)), (.slice none 0 0), (.slice none 0 0)]))] 3 = some (.int .i64 (5 : Int)))
  refine then_ret ?_
  obtain rfl := Option.some.inj hm
  have H : Heap w00 (oA (rList rStr) (.slice none 0 0) ([] : List Str) :: bA b34 [(.int .i64 (0 : Int)), (.int .i64 (0 : Int)), (.slice none 0 0), (.slice none 0 0)] 29 :: bA b31 [(.int .i64 a0.1), (.int .i64 a0.2.1), p0_0, p0_1] 29 :: oA (rList rStr) p0_0 a0.2.2.1 :: oA (rList Rimpl_Edge) p0_1 a0.2.2.2 :: L) w43 := H.nilList rStr
  have H : Heap w00 (oA (rList Rimpl_Edge) (.slice none 0 0) ([] : List Timpl_Edge) :: oA (rList rStr) (.slice none 0 0) ([] : List Str) :: bA b34 [(.int .i64 (0 : Int)), (.int .i64 (0 : Int)), (.slice none 0 0), (.slice none 0 0)] 29 :: bA b31 [(.int .i64 a0.1), (.int .i64 a0.2.1), p0_0, p0_1] 29 :: oA (rList rStr) p0_0 a0.2.2.1 :: oA (rList Rimpl_Edge) p0_1 a0.2.2.2 :: L) w43 := H.nilList Rimpl_Edge
  have H : Heap w00 (oA (rList rStr) (.slice none 0 0) ([] : List Str) :: oA (rList Rimpl_Edge) (.slice none 0 0) ([] : List Timpl_Edge) :: bA b34 [(.int .i64 (0 : Int)), (.int .i64 (0 : Int)), (.slice none 0 0), (.slice none 0 0)] 29 :: bA b31 [(.int .i64 a0.1), (.int .i64 a0.2.1), p0_0, p0_1] 29 :: oA (rList rStr) p0_0 a0.2.2.1 :: oA (rList Rimpl_Edge) p0_1 a0.2.2.2 :: L) w43 := H.front 1 rfl
  have H : Heap w00 (oA (rList rStr) (.slice none 0 0) ([] : List Str) :: oA (rList Rimpl_Edge) (.slice none 0 0) ([] : List Timpl_Edge) :: L) w43 := H.selT 6 [0, 1] (by decide)
  exact leaveR2 S rfl hrv0 hrv1 ⟨(.slice none 0 0), (.slice none 0 0), rfl, H⟩
 ·have hm := ite_f hc42 hm
  refine wp_skip (thenN ?_)
  refine wp_seq (region_plain ?_)
  refine lx_e (.agg #[(.int .i64 a0.1), (.int .i64 a0.2.1), p0_0, p0_1]) S trivial (by decide) rfl trivial (q_loadA (cs := [(.int .i64 a0.1), (.int .i64 a0.2.1), p0_0, p0_1]) rfl (isP_bp _) Tryz.isAgg29 Tryz.sizeOf29 (by rintro _ rfl; exact (fun j u hu => boxAt (i := 1) H rfl hu))) (fun a S => ?_)
  refine lx_storeBox (o := 0) (i := 0) (us := [(.int .i64 a0.1), (.int .i64 a0.2.1), p0_0, p0_1]) (cs' := [(.int .i64 a0.1), (.int .i64 a0.2.1), p0_0, p0_1]) S trivial rfl H rfl rfl rfl rfl Tryz.sizeOf29 (Nat.le_of_ble_eq_true rfl) (List.forall_mem_cons.2 ⟨rfl, (List.forall_mem_cons.2 ⟨rfl, (List.forall_mem_cons.2 ⟨one_sl (H.isSl 2 rfl), (List.forall_mem_cons.2 ⟨one_sl (H.isSl 3 rfl), (fun _ h => nomatch h)⟩)⟩)⟩)⟩) rfl (fun w46 H => ⟨trivial, fun a S => ?_⟩)
  change Heap w00 (bA b34 [(.int .i64 a0.1), (.int .i64 a0.2.1), p0_0, p0_1] 29 :: bA b31 [(.int .i64 a0.1), (.int .i64 a0.2.1), p0_0, p0_1] 29 :: oA (rList rStr) p0_0 a0.2.2.1 :: oA (rList Rimpl_Edge) p0_1 a0.2.2.2 :: L) w46 at H
  refine lq (.int .i64 (0 : Int)) S (q_assign rfl) fun a S => ?_
  refine lx_nil (thenN ?_)
  refine wp_ret ?_
  have hrv0 := RV.cellA (t := 29) (q := 2) (env := [(0, (.agg #[(.int .i64 a0.1), (.int .i64 a0.2.1), p0_0, p0_1])), (1, (bp b31)), (2, (bp b34)), (3, (.int .i64 (0 : Int))), (4, (.agg #[(.int .i64 a0.1), (.int .i64 a0.2.1), p0_0, p0_1])), (5, (.bool x39)), (6, (.bool (!x39))), (8, (.agg #[(.int .i64 a0.1), (.int .i64 a0.2.1), p0_0, p0_1]))]) H (i := 0) rfl rfl Tryz.isAgg29 Tryz.sizeOf29
  have hrv1 : RV Tryz.prog _ w46 (.tmp 3) (.int .i64 (0 : Int)) := (rfl : lk [(0, (.agg #[(.int .i64 a0.1), (.int .i64 a0.2.1), p0_0, p0_1])), (1, (bp b31)), (2, (bp b34)), (3, (.int .i64 (0 : Int))), (4, (.agg #[(.int .i64 a0.1), (.int .i64 a0.2.1), p0_0, p0_1])), (5, (.bool x39)), (6, (.bool (!x39))), (8, (.agg #[(.int .i64 a0.1), (.int .i64 a0.2.1), p0_0, p0_1]))] 3 = some (.int .i64 (0 : Int)))
  obtain rfl := Option.some.inj hm
  have H : Heap w00 (oA (rList rStr) p0_0 a0.2.2.1 :: oA (rList Rimpl_Edge) p0_1 a0.2.2.2 :: L) w46 := H.selT 4 [2, 3] (by decide)
  exact leaveR2 S rfl hrv0 hrv1 ⟨p0_0, p0_1, rfl, H⟩

/-- impl.SaturateLts -/
def impl_SaturateLts_m (fuel : Nat) (a0 : Timpl_Lts) : Option ((Timpl_Lts × Int)) :=
  (impl_ValidLts_m fuel (a0.1, a0.2.1, a0.2.2.1, a0.2.2.2)).bind fun x57 => (if (!x57) = true then some ((((0 : Int), (0 : Int), [], []), (1 : Int))) else (impl_Lts_saturated_m fuel (a0.1, a0.2.1, a0.2.2.1, a0.2.2.2)).bind fun x66 => (impl_checked_m fuel (x66.1, x66.2.1, x66.2.2.1, x66.2.2.2)).bind fun x75 => some (((x75.1.1, x75.1.2.1, x75.1.2.2.1, x75.1.2.2.2), x75.2)))
set_option maxRecDepth 20000 in
theorem impl_SaturateLts_ok {w0 : World} {fuel : Nat} {p0 : Value} {a0 : Timpl_Lts} {r : (Timpl_Lts × Int)} (hG : Glob Tryz.prog w0) (h0 : Rd Rimpl_Lts w0 p0 a0) (hm : impl_SaturateLts_m fuel a0 = some r) :
  Calls Tryz.prog 8 #[p0] w0 fun e w => ∃ (v0 : Value) (v1 : Value), e = .returned (.tuple #[.agg #[.int .i64 r.1.1, .int .i64 r.1.2.1, v0, v1], .int .i64 r.2]) ∧ Heap w0 [oA (rList rStr) v0 r.1.2.2.1, oA (rList Rimpl_Edge) v1 r.1.2.2.2] w := by
 unfold impl_SaturateLts_m at hm
 have H := Heap.start w0
 obtain ⟨c31, rfl, h32⟩ := h0
 obtain ⟨c37, c38, rfl, h39, h40⟩ := h32
 obtain rfl := h39
 obtain ⟨c41, c42, rfl, h43, h44⟩ := h40
 obtain rfl := h43
 obtain ⟨c45, c46, rfl, h47, h48⟩ := h44
 obtain ⟨v33, rfl, h34⟩ := rd_list h47
 obtain ⟨v35, rfl, h36⟩ := rd_list h48
 refine enter (args := [(.agg #[(.int .i64 a0.1), (.int .i64 a0.2.1), v33, v35])]) Tryz.func8 rfl 13 rfl (Nat.le_of_ble_eq_true rfl) (fun a S => ?_)
 refine wp_seq (region_plain ?_)
 refine lx_box S trivial (by decide) rfl H rfl rfl (fun b49 w50 H => ⟨trivial, fun a S => ?_⟩)
 refine lx_alloc S trivial (by decide) rfl H Tryz.zeroValue29 rfl (fun b52 w53 H => ⟨trivial, fun a S => ?_⟩)
 refine lq (.int .i64 (0 : Int)) S (q_assign rfl) fun a S => ?_
 refine lx_nil (thenN ?_)
 refine wp_seq (wp_seq (region_plain ?_))
 refine lx_e (.agg #[(.int .i64 a0.1), (.int .i64 a0.2.1), v33, v35]) S trivial (by decide) rfl trivial (q_loadA (cs := [(.int .i64 a0.1), (.int .i64 a0.2.1), v33, v35]) rfl (isP_bp _) Tryz.isAgg29 Tryz.sizeOf29 (by rintro _ rfl; exact (fun j u hu => boxAt (i := 1) H rfl hu))) (fun a S => ?_)
 obtain ⟨x57, e58, hm⟩ := bind_some hm
 refine lx_call (xs := [.tmp 4]) S trivial (by decide) rfl rfl Tryz.call23 ((impl_ValidLts_ok (hG.ext H.ext) ⟨[(.int .i64 a0.1), (.int .i64 a0.2.1), v33, v35], rfl, ⟨[(.int .i64 a0.1)], [(.int .i64 a0.2.1), v33, v35], rfl, rfl, ⟨[(.int .i64 a0.2.1)], [v33, v35], rfl, rfl, ⟨[v33], [v35], rfl, ((H.arg h34)).list_rd, ((H.arg h36)).list_rd⟩⟩⟩⟩ e58).mono ?_)
 rintro e w55 ⟨rfl, Hc56⟩
 have H := H.call0 Hc56
 refine ⟨_, rfl, trivial, fun a S => ?_⟩
 refine lq (.bool (!x57)) S (q_not rfl) fun a S => ?_
 refine lx_nil (thenN ?_)
 refine cond_b S rfl (fun hc60 => ?_) (fun hc60 => ?_)
 ·have hm := ite_t hc60 hm
  refine wp_seq (region_plain ?_)
  refine lq (.agg #[(.int .i64 (0 : Int)), (.int .i64 (0 : Int)), (.slice none 0 0), (.slice none 0 0)]) S (q_build (zs := [(.int .i64 (0 : Int)), (.int .i64 (0 : Int)), (.slice none 0 0), (.slice none 0 0)]) (szs := [1, 1, 1, 1]) (ps := []) (parts := []) rfl Tryz.underlying29 Tryz.zeroValue29 (fun w => by simp [Tryz.sizeOf2, Tryz.sizeOf22, Tryz.sizeOf27]) trivial rfl) fun a S => ?_
  refine lx_storeBox (o := 0) (i := 0) (us := [(.int .i64 (0 : Int)), (.int .i64 (0 : Int)), (.slice none 0 0), (.slice none 0 0)]) (cs' := [(.int .i64 (0 : Int)), (.int .i64 (0 : Int)), (.slice none 0 0), (.slice none 0 0)]) S trivial rfl H rfl rfl rfl rfl Tryz.sizeOf29 (Nat.le_of_ble_eq_true rfl) (List.forall_mem_cons.2 ⟨rfl, (List.forall_mem_cons.2 ⟨rfl, (List.forall_mem_cons.2 ⟨rfl, (List.forall_mem_cons.2 ⟨rfl, (fun _ h => nomatch h)⟩)⟩)⟩)⟩) rfl (fun w61 H => ⟨trivial, fun a S => ?_⟩)
  change Heap w0 [bA b52 [(.int .i64 (0 : Int)), (.int .i64 (0 : Int)), (.slice none 0 0), (.slice none 0 0)] 29, bA b49 [(.int .i64 a0.1), (.int .i64 a0.2.1), v33, v35] 29] w61 at H
  refine lq (.int .i64 (1 : Int)) S (q_assign rfl) fun a S => ?_
  refine lx_nil (thenN ?_)
  refine wp_ret ?_
  have hrv0 := RV.cellA (t := 29) (q := 2) (env := [(0, (.agg #[(.int .i64 a0.1), (.int .i64 a0.2.1), v33, v35])), (1, (bp b49)), (2, (bp b52)), (3, (.int .i64 (1 : Int))), (4, (.agg #[(.int .i64 a0.1), (.int .i64 a0.2.1), v33, v35])), (5, (.bool x57)), (6, (.bool (!x57))), (7, (.agg #[(.int .i64 (0 : Int)), (.int .i64 (0 : Int)), (.slice none 0 0), (.slice none 0 0)]))]) H (i := 0) rfl rfl Tryz.isAgg29 Tryz.sizeOf29
  have hrv1 : RV Tryz.prog _ w61 (.tmp 3) (.int .i64 (1 : Int)) := (rfl : lk [(0, (.agg #[(.int .i64 a0.1), (.int .i64 a0.2.1), v33, v35])), (1, (bp b49)), (2, (bp b52)), (3, (.int .i64 (1 : Int))), (4, (.agg #[(.int .i64 a0.1), (.int .i64 a0.2.1), v33, v35])), (5, (.bool x57)), (6, (.bool (!x57))), (7, (.agg #[(.int .i64 (0 : Int)), (.int .i64 (0 : Int)), (.slice none 0 0), (.slice none 0 0)]))] 3 = some (.int .i64 (1 : Int)))
  refine then_ret ?_
  obtain rfl := Option.some.inj hm
  have H : Heap w0 [oA (rList rStr) (.slice none 0 0) ([] : List Str), bA b52 [(.int .i64 (0 : Int)), (.int .i64 (0 : Int)), (.slice none 0 0), (.slice none 0 0)] 29, bA b49 [(.int .i64 a0.1), (.int .i64 a0.2.1), v33, v35] 29] w61 := H.nilList rStr
  have H : Heap w0 [oA (rList Rimpl_Edge) (.slice none 0 0) ([] : List Timpl_Edge), oA (rList rStr) (.slice none 0 0) ([] : List Str), bA b52 [(.int .i64 (0 : Int)), (.int .i64 (0 : Int)), (.slice none 0 0), (.slice none 0 0)] 29, bA b49 [(.int .i64 a0.1), (.int .i64 a0.2.1), v33, v35] 29] w61 := H.nilList Rimpl_Edge
  have H : Heap w0 [oA (rList rStr) (.slice none 0 0) ([] : List Str), oA (rList Rimpl_Edge) (.slice none 0 0) ([] : List Timpl_Edge), bA b52 [(.int .i64 (0 : Int)), (.int .i64 (0 : Int)), (.slice none 0 0), (.slice none 0 0)] 29, bA b49 [(.int .i64 a0.1), (.int .i64 a0.2.1), v33, v35] 29] w61 := H.front 1 rfl
  have H : Heap w0 [oA (rList rStr) (.slice none 0 0) ([] : List Str), oA (rList Rimpl_Edge) (.slice none 0 0) ([] : List Timpl_Edge)] w61 := H.sel [0, 1] (by decide)
  exact leaveR2 S rfl hrv0 hrv1 ⟨(.slice none 0 0), (.slice none 0 0), rfl, H⟩
 ·have hm := ite_f hc60 hm
  refine wp_skip (thenN ?_)
  refine wp_seq (region_plain ?_)
  refine lx_e (.agg #[(.int .i64 a0.1), (.int .i64 a0.2.1), v33, v35]) S trivial (by decide) rfl trivial (q_loadA (cs := [(.int .i64 a0.1), (.int .i64 a0.2.1), v33, v35]) rfl (isP_bp _) Tryz.isAgg29 Tryz.sizeOf29 (by rintro _ rfl; exact (fun j u hu => boxAt (i := 1) H rfl hu))) (fun a S => ?_)
  obtain ⟨x66, e67, hm⟩ := bind_some hm
  refine lx_call (xs := [.tmp 8]) S trivial (by decide) rfl rfl Tryz.call25 ((impl_Lts_saturated_ok ⟨[(.int .i64 a0.1), (.int .i64 a0.2.1), v33, v35], rfl, ⟨[(.int .i64 a0.1)], [(.int .i64 a0.2.1), v33, v35], rfl, rfl, ⟨[(.int .i64 a0.2.1)], [v33, v35], rfl, rfl, ⟨[v33], [v35], rfl, ((H.arg h34)).list_rd, ((H.arg h36)).list_rd⟩⟩⟩⟩ e67).mono ?_)
  rintro e w64 ⟨v68, v69, rfl, Hc65⟩
  have H := H.call2 Hc65
  refine ⟨_, rfl, trivial, fun a S => ?_⟩
  obtain ⟨x75, e76, hm⟩ := bind_some hm
  refine lx_call (xs := [.tmp 9]) S trivial (by decide) rfl rfl Tryz.call24 ((impl_checked_ok H hG  e76).mono ?_)
  rintro e w73 ⟨v77, v78, rfl, H⟩
  refine ⟨_, rfl, trivial, fun a S => ?_⟩
  refine lq (.agg #[(.int .i64 x75.1.1), (.int .i64 x75.1.2.1), v77, v78]) S (q_extract rfl rfl) fun a S => ?_
  refine lq (.int .i64 x75.2) S (q_extract rfl rfl) fun a S => ?_
  refine lx_storeBox (o := 0) (i := 2) (us := [(.int .i64 x75.1.1), (.int .i64 x75.1.2.1), v77, v78]) (cs' := [(.int .i64 x75.1.1), (.int .i64 x75.1.2.1), v77, v78]) S trivial rfl H rfl rfl rfl rfl Tryz.sizeOf29 (Nat.le_of_ble_eq_true rfl) (List.forall_mem_cons.2 ⟨rfl, (List.forall_mem_cons.2 ⟨rfl, (List.forall_mem_cons.2 ⟨one_sl (H.isSl 0 rfl), (List.forall_mem_cons.2 ⟨one_sl (H.isSl 1 rfl), (fun _ h => nomatch h)⟩)⟩)⟩)⟩) rfl (fun w81 H => ⟨trivial, fun a S => ?_⟩)
  change Heap w0 [oA (rList rStr) v77 x75.1.2.2.1, oA (rList Rimpl_Edge) v78 x75.1.2.2.2, bA b52 [(.int .i64 x75.1.1), (.int .i64 x75.1.2.1), v77, v78] 29, bA b49 [(.int .i64 a0.1), (.int .i64 a0.2.1), v33, v35] 29] w81 at H
  refine lq (.int .i64 x75.2) S (q_assign rfl) fun a S => ?_
  refine lx_nil (thenN ?_)
  refine wp_ret ?_
  have hrv0 := RV.cellA (t := 29) (q := 2) (env := [(0, (.agg #[(.int .i64 a0.1), (.int .i64 a0.2.1), v33, v35])), (1, (bp b49)), (2, (bp b52)), (3, (.int .i64 x75.2)), (4, (.agg #[(.int .i64 a0.1), (.int .i64 a0.2.1), v33, v35])), (5, (.bool x57)), (6, (.bool (!x57))), (8, (.agg #[(.int .i64 a0.1), (.int .i64 a0.2.1), v33, v35])), (10, (.tuple #[(.agg #[(.int .i64 x75.1.1), (.int .i64 x75.1.2.1), v77, v78]), (.int .i64 x75.2)])), (11, (.agg #[(.int .i64 x75.1.1), (.int .i64 x75.1.2.1), v77, v78])), (12, (.int .i64 x75.2))]) H (i := 2) rfl rfl Tryz.isAgg29 Tryz.sizeOf29
  have hrv1 : RV Tryz.prog _ w81 (.tmp 3) (.int .i64 x75.2) := (rfl : lk [(0, (.agg #[(.int .i64 a0.1), (.int .i64 a0.2.1), v33, v35])), (1, (bp b49)), (2, (bp b52)), (3, (.int .i64 x75.2)), (4, (.agg #[(.int .i64 a0.1), (.int .i64 a0.2.1), v33, v35])), (5, (.bool x57)), (6, (.bool (!x57))), (8, (.agg #[(.int .i64 a0.1), (.int .i64 a0.2.1), v33, v35])), (10, (.tuple #[(.agg #[(.int .i64 x75.1.1), (.int .i64 x75.1.2.1), v77, v78]), (.int .i64 x75.2)])), (11, (.agg #[(.int .i64 x75.1.1), (.int .i64 x75.1.2.1), v77, v78])), (12, (.int .i64 x75.2))] 3 = some (.int .i64 x75.2))
  obtain rfl := Option.some.inj hm
  have H : Heap w0 [oA (rList rStr) v77 x75.1.2.2.1, oA (rList Rimpl_Edge) v78 x75.1.2.2.2] w81 := H.sel [0, 1] (by decide)
  exact leaveR2 S rfl hrv0 hrv1 ⟨v77, v78, rfl, H⟩

/-- laws.heldStringS -/
def laws_heldStringS_m (fuel : Nat) (a0 : (List Str)) (a1 : Int) : Option (Int) :=
  (iter (fun (s : (Int) × (Int)) => (match s with | (x47, x48) => (if (decide (x48 < (a0.length : Int))) = true then (idx a0 x48).bind fun x77 => (laws_markText_m fuel x47).bind fun x84 => (if (x77 != x84) = true then some (.inr (.inr (-1 : Int))) else some (.inl ((W (x47 + (1 : Int))), (W (x48 + (1 : Int)))))) else some (.inr (.inl (x47)))) : Option (((Int) × (Int)) ⊕ ((Int) ⊕ (Int))))) fuel (a1, (0 : Int))).bind fun res66 => ctl (β := Int) (ρ := Int) (τ := Int) res66 (fun (x65) => some (x65)) (fun q => some (q))
set_option maxRecDepth 20000 in
theorem laws_heldStringS_ok {w0 : World} {fuel : Nat} {p0 : Value} {a0 : (List Str)} {a1 : Int} {r : Int} (h0 : Rd (rList rStr) w0 p0 a0) (hm : laws_heldStringS_m fuel a0 a1 = some r) :
  Calls Tryz.prog 30 #[p0, .int .i64 a1] w0 fun e w => e = .returned (.int .i64 r) ∧ Heap w0 [] w := by
 unfold laws_heldStringS_m at hm
 have H := Heap.start w0
 refine enter (args := [p0, .int .i64 a1]) Tryz.func30 rfl 22 rfl (Nat.le_of_ble_eq_true rfl) (fun a S => ?_)
 refine wp_seq (region_plain ?_)
 refine lq (.int .i64 (0 : Int)) S (q_assign rfl) fun a S => ?_
 refine lx_nil (thenN ?_)
 refine wp_seq (wp_seq (region_plain ?_))
 refine lq (.int .i64 (0 : Int)) S (q_assign rfl) fun a S => ?_
 refine lx_nil (thenN ?_)
 obtain ⟨res66, hit67, hk70⟩ := bind_some hm
 obtain ⟨f68, hf69, hit67⟩ := iter_name hit67
 refine block_loop (fun a w => ∃ (x65 : Int), Slots a 22 [(1, (.int .i64 x65))] ∧ Heap w0 [] w ∧ res66 = .inl (x65)) ?_ ?_
 ·rintro a w ⟨x65, S, H, rfl⟩
  have hm := ctl_inl hk70
  refine thenN ?_
  refine wp_seq (region_plain ?_)
  refine lq (.int .i64 x65) S (q_move rfl) fun a S => ?_
  refine lq (.int .i64 x65) S (q_assign rfl) fun a S => ?_
  refine lx_nil (thenN ?_)
  refine wp_ret ?_
  obtain rfl := Option.some.inj hm
  exact leave1 S rfl rfl ⟨rfl, H⟩
 ·skip
  refine loop_ghost (fun n a w => ∃ (x47 : Int) (x48 : Int), Slots a 22 [(0, p0), (1, (.int .i64 x47)), (5, (.int .i64 x48))] ∧ Heap w0 [] w ∧ iter f68 n (x47, x48) = some res66) _ ⟨a1, (0 : Int), S.sub ⟨rfl, rfl, rfl, trivial⟩, H, hit67⟩ ?_
  rintro n a w ⟨x47, x48, S, H, hit67⟩
  obtain ⟨m71, o72, rfl, hm, hc73⟩ := iter_step hit67
  rw [hf69] at hm
  refine wp_seq (wp_seq (region_plain ?_))
  refine lq (.int .i64 x48) S (q_move rfl) fun a S => ?_
  refine lq p0 S (q_move rfl) fun a S => ?_
  refine lq (.int .i64 (a0.length : Int)) S (q_lenSl rfl (h0).isSl rfl Tryz.underlying22) fun a S => ?_
  refine lq (.bool (decide (x48 < (a0.length : Int)))) S (q_lss rfl rfl) fun a S => ?_
  refine lx_nil (thenN ?_)
  refine cond_b S rfl (fun hc74 => ?_) (fun hc74 => ?_)
  ·have hm := ite_t hc74 hm
   refine wp_skip (thenN ?_)
   refine wp_seq ?_
   refine wp_block ?_
   refine wp_seq ?_
   refine wp_seq ?_
   refine region_drawG (fun w1 => Heap w0 [] w1) (fun i => [5].contains i) mixed (by kernel_rfl) (fun w76 he75 => ?_)
   have H := H.later he75
   refine ⟨H.sel [] (by decide), ?_⟩
   refine lq p0 S (q_move rfl) fun a S => ?_
   refine lq (.int .i64 x48) S (q_move rfl) fun a S => ?_
   obtain ⟨x77, e78, hm⟩ := bind_some hm
   obtain ⟨c79, h80, hat81⟩ := (h0).elem (idx_some e78).2
   obtain rfl := h80
   have hlt := lt_of_idx (idx_some e78).2
   refine lq (ePtr p0 (x48.toNat * 1)) S (q_indexAddr rfl (h0).isSl rfl (idx_some e78).1 hlt Tryz.underlying22 Tryz.sizeOf9) fun a S => ?_
   refine lq (sv x77) S (q_load1 rfl Tryz.isAgg9 (fun w1 hC => ((hat81 0 _ rfl).ext hC.ext))) fun a S => ?_
   refine lq (.int .i64 x47) S (q_move rfl) fun a S => ?_
   obtain ⟨x84, e85, hm⟩ := bind_some hm
   refine lx_call (xs := [.tmp 16]) S trivial (by decide) rfl rfl Tryz.call51 ((laws_markText_ok  e85).mono ?_)
   rintro e w82 ⟨rfl, Hc83⟩
   have H := H.call0 Hc83
   refine ⟨_, rfl, H.sel [] (by decide), fun a S => ?_⟩
   refine lq (.bool (x77 != x84)) S (q_sneq rfl rfl) fun a S => ?_
   refine lx_nil (thenN ?_)
   refine cond_b S rfl (fun hc87 => ?_) (fun hc87 => ?_)
   ·have hm := ite_t hc87 hm
    refine wp_seq (region_plain ?_)
    refine lq (.int .i64 (-1 : Int)) S (q_assign rfl) fun a S => ?_
    refine lx_nil (thenN ?_)
    refine wp_ret (then_ret ?_)
    refine inBlock_ret ?_
    refine then_ret ?_
    refine then_ret ?_
    refine inBlock_ret ?_
    refine then_ret ?_
    refine then_ret ?_
    obtain rfl := it_brk hm hc73
    have hm := ctl_inr hk70
    obtain rfl := Option.some.inj hm
    exact leave1 S rfl rfl ⟨rfl, H⟩
   ·have hm := ite_f hc87 hm
    refine wp_skip (thenN ?_)
    refine region_plain ?_
    refine lq (.int .i64 x47) S (q_move rfl) fun a S => ?_
    refine lq (.int .i64 (W (x47 + (1 : Int)))) S (q_add rfl rfl) fun a S => ?_
    refine lq (.int .i64 (W (x47 + (1 : Int)))) S (q_assign rfl) fun a S => ?_
    refine lx_nil ?_
    refine inBlock_norm ?_
    refine thenN ?_
    refine region_plain ?_
    refine lq (.int .i64 x48) S (q_move rfl) fun a S => ?_
    refine lq (.int .i64 (W (x48 + (1 : Int)))) S (q_add rfl rfl) fun a S => ?_
    refine lq (.int .i64 (W (x48 + (1 : Int)))) S (q_assign rfl) fun a S => ?_
    refine lx_nil ?_
    exact ⟨m71, Nat.lt_succ_self _, (W (x47 + (1 : Int))), (W (x48 + (1 : Int))), S.sub ⟨rfl, rfl, rfl, trivial⟩, H, it_cont hm hc73⟩
  ·have hm := ite_f hc74 hm
   refine wp_exit ?_
   refine then_exit ?_
   refine then_exit ?_
   refine inBlock_exit ?_
   obtain rfl := it_brk hm hc73
   exact ⟨x47, S.sub ⟨rfl, trivial⟩, H, rfl⟩

/-- laws.heldEdgeS -/
def laws_heldEdgeS_m (fuel : Nat) (a0 : (List Timpl_Edge)) (a1 : Int) : Option (Int) :=
  (iter (fun (s : (Int) × (Int)) => (match s with | (x76, x77) => (if (decide (x77 < (a0.length : Int))) = true then (idx a0 x77).bind fun x133 => (if (x133.1 != x76) = true then some (.inr (.inr (-1 : Int))) else (idx a0 x77).bind fun x147 => (if (x147.2.1 != (W (x76 + (1 : Int)))) = true then some (.inr (.inr (-1 : Int))) else (idx a0 x77).bind fun x161 => (if (x161.2.2 != (W ((W (x76 + (1 : Int))) + (1 : Int)))) = true then some (.inr (.inr (-1 : Int))) else some (.inl ((W ((W ((W (x76 + (1 : Int))) + (1 : Int))) + (1 : Int))), (W (x77 + (1 : Int)))))))) else some (.inr (.inl (x76)))) : Option (((Int) × (Int)) ⊕ ((Int) ⊕ (Int))))) fuel (a1, (0 : Int))).bind fun res124 => ctl (β := Int) (ρ := Int) (τ := Int) res124 (fun (x123) => some (x123)) (fun q => some (q))
set_option maxRecDepth 20000 in
theorem laws_heldEdgeS_ok {w0 : World} {fuel : Nat} {p0 : Value} {a0 : (List Timpl_Edge)} {a1 : Int} {r : Int} (h0 : Rd (rList Rimpl_Edge) w0 p0 a0) (hm : laws_heldEdgeS_m fuel a0 a1 = some r) :
  Calls Tryz.prog 31 #[p0, .int .i64 a1] w0 fun e w => e = .returned (.int .i64 r) ∧ Heap w0 [] w := by
 unfold laws_heldEdgeS_m at hm
 have H := Heap.start w0
 refine enter (args := [p0, .int .i64 a1]) Tryz.func31 rfl 40 rfl (Nat.le_of_ble_eq_true rfl) (fun a S => ?_)
 refine wp_seq (region_plain ?_)
 refine lq (.int .i64 (0 : Int)) S (q_assign rfl) fun a S => ?_
 refine lx_nil (thenN ?_)
 refine wp_seq (wp_seq (region_plain ?_))
 refine lq (.int .i64 (0 : Int)) S (q_assign rfl) fun a S => ?_
 refine lx_nil (thenN ?_)
 obtain ⟨res124, hit125, hk128⟩ := bind_some hm
 obtain ⟨f126, hf127, hit125⟩ := iter_name hit125
 refine block_loop (fun a w => ∃ (x123 : Int), Slots a 40 [(1, (.int .i64 x123))] ∧ Heap w0 [] w ∧ res124 = .inl (x123)) ?_ ?_
 ·rintro a w ⟨x123, S, H, rfl⟩
  have hm := ctl_inl hk128
  refine thenN ?_
  refine wp_seq (region_plain ?_)
  refine lq (.int .i64 x123) S (q_move rfl) fun a S => ?_
  refine lq (.int .i64 x123) S (q_assign rfl) fun a S => ?_
  refine lx_nil (thenN ?_)
  refine wp_ret ?_
  obtain rfl := Option.some.inj hm
  exact leave1 S rfl rfl ⟨rfl, H⟩
 ·skip
  refine loop_ghost (fun n a w => ∃ (x76 : Int) (x77 : Int), Slots a 40 [(0, p0), (1, (.int .i64 x76)), (5, (.int .i64 x77))] ∧ Heap w0 [] w ∧ iter f126 n (x76, x77) = some res124) _ ⟨a1, (0 : Int), S.sub ⟨rfl, rfl, rfl, trivial⟩, H, hit125⟩ ?_
  rintro n a w ⟨x76, x77, S, H, hit125⟩
  obtain ⟨m129, o130, rfl, hm, hc131⟩ := iter_step hit125
  rw [hf127] at hm
  refine wp_seq (wp_seq (region_plain ?_))
  refine lq (.int .i64 x77) S (q_move rfl) fun a S => ?_
  refine lq p0 S (q_move rfl) fun a S => ?_
  refine lq (.int .i64 (a0.length : Int)) S (q_lenSl rfl (h0).isSl rfl Tryz.underlying27) fun a S => ?_
  refine lq (.bool (decide (x77 < (a0.length : Int)))) S (q_lss rfl rfl) fun a S => ?_
  refine lx_nil (thenN ?_)
  refine cond_b S rfl (fun hc132 => ?_) (fun hc132 => ?_)
  ·have hm := ite_t hc132 hm
   refine wp_skip (thenN ?_)
   refine wp_seq ?_
   refine wp_block ?_
   refine wp_seq (wp_seq (region_plain ?_))
   refine lq p0 S (q_move rfl) fun a S => ?_
   refine lq (.int .i64 x77) S (q_move rfl) fun a S => ?_
   obtain ⟨x133, e134, hm⟩ := bind_some hm
   obtain ⟨c135, h136, hat137⟩ := (h0).elem (idx_some e134).2
   obtain ⟨c138, c139, rfl, h140, h141⟩ := h136
   obtain rfl := h140
   obtain ⟨c142, c143, rfl, h144, h145⟩ := h141
   obtain rfl := h144
   obtain rfl := h145
   have hlt := lt_of_idx (idx_some e134).2
   refine lq (ePtr p0 (x77.toNat * 3)) S (q_indexAddr rfl (h0).isSl rfl (idx_some e134).1 hlt Tryz.underlying27 Tryz.sizeOf62) fun a S => ?_
   refine lq (pAdd (ePtr p0 (x77.toNat * 3)) 0) S (q_fieldAddr' 0 2 rfl ((hat137 0 _ rfl).isP) Tryz.underlying62 rfl Tryz.sizeOf2) fun a S => ?_
   refine lx_e (.int .i64 x133.1) S trivial (by decide) rfl trivial (q_load1 rfl Tryz.isAgg2 (by rintro _ rfl; exact (At.of_add (m := 0) (j := 0) ((hat137 0 _ rfl).ext H.ext)))) (fun a S => ?_)
   refine lq (.int .i64 x76) S (q_move rfl) fun a S => ?_
   refine lq (.bool (x133.1 != x76)) S (q_neq rfl rfl) fun a S => ?_
   refine lx_nil (thenN ?_)
   refine cond_b S rfl (fun hc146 => ?_) (fun hc146 => ?_)
   ·have hm := ite_t hc146 hm
    refine wp_seq (region_plain ?_)
    refine lq (.int .i64 (-1 : Int)) S (q_assign rfl) fun a S => ?_
    refine lx_nil (thenN ?_)
    refine wp_ret (then_ret ?_)
    refine inBlock_ret ?_
    refine then_ret ?_
    refine then_ret ?_
    refine inBlock_ret ?_
    refine then_ret ?_
    refine then_ret ?_
    obtain rfl := it_brk hm hc131
    have hm := ctl_inr hk128
    obtain rfl := Option.some.inj hm
    exact leave1 S rfl rfl ⟨rfl, H⟩
   ·have hm := ite_f hc146 hm
    refine wp_skip (thenN ?_)
    refine wp_seq (region_plain ?_)
    refine lq (.int .i64 x76) S (q_move rfl) fun a S => ?_
    refine lq (.int .i64 (W (x76 + (1 : Int)))) S (q_add rfl rfl) fun a S => ?_
    refine lq (.int .i64 (W (x76 + (1 : Int)))) S (q_assign rfl) fun a S => ?_
    refine lx_nil (thenN ?_)
    refine wp_seq (wp_seq (region_plain ?_))
    refine lq p0 S (q_move rfl) fun a S => ?_
    refine lq (.int .i64 x77) S (q_move rfl) fun a S => ?_
    obtain ⟨x147, e148, hm⟩ := bind_some hm
    obtain ⟨c149, h150, hat151⟩ := (h0).elem (idx_some e148).2
    obtain ⟨c152, c153, rfl, h154, h155⟩ := h150
    obtain rfl := h154
    obtain ⟨c156, c157, rfl, h158, h159⟩ := h155
    obtain rfl := h158
    obtain rfl := h159
    have hlt := lt_of_idx (idx_some e148).2
    refine lq (ePtr p0 (x77.toNat * 3)) S (q_indexAddr rfl (h0).isSl rfl (idx_some e148).1 hlt Tryz.underlying27 Tryz.sizeOf62) fun a S => ?_
    refine lq (pAdd (ePtr p0 (x77.toNat * 3)) 1) S (q_fieldAddr' 1 2 rfl ((hat151 0 _ rfl).isP) Tryz.underlying62 rfl Tryz.sizeOf2) fun a S => ?_
    refine lx_e (.int .i64 x147.2.1) S trivial (by decide) rfl trivial (q_load1 rfl Tryz.isAgg2 (by rintro _ rfl; exact (At.of_add (m := 1) (j := 0) ((hat151 1 _ rfl).ext H.ext)))) (fun a S => ?_)
    refine lq (.int .i64 (W (x76 + (1 : Int)))) S (q_move rfl) fun a S => ?_
    refine lq (.bool (x147.2.1 != (W (x76 + (1 : Int))))) S (q_neq rfl rfl) fun a S => ?_
    refine lx_nil (thenN ?_)
    refine cond_b S rfl (fun hc160 => ?_) (fun hc160 => ?_)
    ·have hm := ite_t hc160 hm
     refine wp_seq (region_plain ?_)
     refine lq (.int .i64 (-1 : Int)) S (q_assign rfl) fun a S => ?_
     refine lx_nil (thenN ?_)
     refine wp_ret (then_ret ?_)
     refine inBlock_ret ?_
     refine then_ret ?_
     refine then_ret ?_
     refine inBlock_ret ?_
     refine then_ret ?_
     refine then_ret ?_
     obtain rfl := it_brk hm hc131
     have hm := ctl_inr hk128
     obtain rfl := Option.some.inj hm
     exact leave1 S rfl rfl ⟨rfl, H⟩
    ·have hm := ite_f hc160 hm
     refine wp_skip (thenN ?_)
     refine wp_seq (region_plain ?_)
     refine lq (.int .i64 (W (x76 + (1 : Int)))) S (q_move rfl) fun a S => ?_
     refine lq (.int .i64 (W ((W (x76 + (1 : Int))) + (1 : Int)))) S (q_add rfl rfl) fun a S => ?_
     refine lq (.int .i64 (W ((W (x76 + (1 : Int))) + (1 : Int)))) S (q_assign rfl) fun a S => ?_
     refine lx_nil (thenN ?_)
     refine wp_seq (wp_seq (region_plain ?_))
     refine lq p0 S (q_move rfl) fun a S => ?_
     refine lq (.int .i64 x77) S (q_move rfl) fun a S => ?_
     obtain ⟨x161, e162, hm⟩ := bind_some hm
     obtain ⟨c163, h164, hat165⟩ := (h0).elem (idx_some e162).2
     obtain ⟨c166, c167, rfl, h168, h169⟩ := h164
     obtain rfl := h168
     obtain ⟨c170, c171, rfl, h172, h173⟩ := h169
     obtain rfl := h172
     obtain rfl := h173
     have hlt := lt_of_idx (idx_some e162).2
     refine lq (ePtr p0 (x77.toNat * 3)) S (q_indexAddr rfl (h0).isSl rfl (idx_some e162).1 hlt Tryz.underlying27 Tryz.sizeOf62) fun a S => ?_
     refine lq (pAdd (ePtr p0 (x77.toNat * 3)) 2) S (q_fieldAddr' 2 2 rfl ((hat165 0 _ rfl).isP) Tryz.underlying62 rfl Tryz.sizeOf2) fun a S => ?_
     refine lx_e (.int .i64 x161.2.2) S trivial (by decide) rfl trivial (q_load1 rfl Tryz.isAgg2 (by rintro _ rfl; exact (At.of_add (m := 2) (j := 0) ((hat165 2 _ rfl).ext H.ext)))) (fun a S => ?_)
     refine lq (.int .i64 (W ((W (x76 + (1 : Int))) + (1 : Int)))) S (q_move rfl) fun a S => ?_
     refine lq (.bool (x161.2.2 != (W ((W (x76 + (1 : Int))) + (1 : Int))))) S (q_neq rfl rfl) fun a S => ?_
     refine lx_nil (thenN ?_)
     refine cond_b S rfl (fun hc174 => ?_) (fun hc174 => ?_)
     ·have hm := ite_t hc174 hm
      refine wp_seq (region_plain ?_)
      refine lq (.int .i64 (-1 : Int)) S (q_assign rfl) fun a S => ?_
      refine lx_nil (thenN ?_)
      refine wp_ret (then_ret ?_)
      refine inBlock_ret ?_
      refine then_ret ?_
      refine then_ret ?_
      refine inBlock_ret ?_
      refine then_ret ?_
      refine then_ret ?_
      obtain rfl := it_brk hm hc131
      have hm := ctl_inr hk128
      obtain rfl := Option.some.inj hm
      exact leave1 S rfl rfl ⟨rfl, H⟩
     ·have hm := ite_f hc174 hm
      refine wp_skip (thenN ?_)
      refine region_plain ?_
      refine lq (.int .i64 (W ((W (x76 + (1 : Int))) + (1 : Int)))) S (q_move rfl) fun a S => ?_
      refine lq (.int .i64 (W ((W ((W (x76 + (1 : Int))) + (1 : Int))) + (1 : Int)))) S (q_add rfl rfl) fun a S => ?_
      refine lq (.int .i64 (W ((W ((W (x76 + (1 : Int))) + (1 : Int))) + (1 : Int)))) S (q_assign rfl) fun a S => ?_
      refine lx_nil ?_
      refine inBlock_norm ?_
      refine thenN ?_
      refine region_plain ?_
      refine lq (.int .i64 x77) S (q_move rfl) fun a S => ?_
      refine lq (.int .i64 (W (x77 + (1 : Int)))) S (q_add rfl rfl) fun a S => ?_
      refine lq (.int .i64 (W (x77 + (1 : Int)))) S (q_assign rfl) fun a S => ?_
      refine lx_nil ?_
      exact ⟨m129, Nat.lt_succ_self _, (W ((W ((W (x76 + (1 : Int))) + (1 : Int))) + (1 : Int))), (W (x77 + (1 : Int))), S.sub ⟨rfl, rfl, rfl, trivial⟩, H, it_cont hm hc131⟩
  ·have hm := ite_f hc132 hm
   refine wp_exit ?_
   refine then_exit ?_
   refine then_exit ?_
   refine inBlock_exit ?_
   obtain rfl := it_brk hm hc131
   exact ⟨x76, S.sub ⟨rfl, trivial⟩, H, rfl⟩

/-- laws.heldLts -/
def laws_heldLts_m (fuel : Nat) (a0 : Timpl_Lts) (a1 : Int) : Option (Int) :=
  (laws_heldStringS_m fuel a0.2.2.1 a1).bind fun x54 => (if (decide (x54 < (0 : Int))) = true then some ((-1 : Int)) else (laws_heldEdgeS_m fuel a0.2.2.2 x54).bind fun x60 => (if (decide (x60 < (0 : Int))) = true then some ((-1 : Int)) else some (x60)))
set_option maxRecDepth 20000 in
theorem laws_heldLts_ok {w0 : World} {fuel : Nat} {p0 : Value} {a0 : Timpl_Lts} {a1 : Int} {r : Int} (h0 : Rd Rimpl_Lts w0 p0 a0) (hm : laws_heldLts_m fuel a0 a1 = some r) :
  Calls Tryz.prog 11 #[p0, .int .i64 a1] w0 fun e w => e = .returned (.int .i64 r) ∧ Heap w0 [] w := by
 unfold laws_heldLts_m at hm
 have H := Heap.start w0
 obtain ⟨c31, rfl, h32⟩ := h0
 obtain ⟨c37, c38, rfl, h39, h40⟩ := h32
 obtain rfl := h39
 obtain ⟨c41, c42, rfl, h43, h44⟩ := h40
 obtain rfl := h43
 obtain ⟨c45, c46, rfl, h47, h48⟩ := h44
 obtain ⟨v33, rfl, h34⟩ := rd_list h47
 obtain ⟨v35, rfl, h36⟩ := rd_list h48
 refine enter (args := [(.agg #[(.int .i64 a0.1), (.int .i64 a0.2.1), v33, v35]), .int .i64 a1]) Tryz.func11 rfl 18 rfl (Nat.le_of_ble_eq_true rfl) (fun a S => ?_)
 refine wp_seq (region_plain ?_)
 refine lx_box S trivial (by decide) rfl H rfl rfl (fun b49 w50 H => ⟨trivial, fun a S => ?_⟩)
 refine lq (.int .i64 (0 : Int)) S (q_assign rfl) fun a S => ?_
 refine lx_nil (thenN ?_)
 refine wp_seq (region_plain ?_)
 refine lq (pAdd (bp b49) 2) S (q_fieldAddr' 2 22 rfl (isP_bp _) Tryz.underlying29 rfl Tryz.sizeOf22) fun a S => ?_
 refine lx_e v33 S trivial (by decide) rfl trivial (q_load1 rfl Tryz.isAgg22 (by rintro _ rfl; exact (At.of_add (m := 2) (j := 0) (boxAt (i := 0) H rfl (j := 2) rfl)))) (fun a S => ?_)
 refine lq (.int .i64 a1) S (q_move rfl) fun a S => ?_
 obtain ⟨x54, e55, hm⟩ := bind_some hm
 refine lx_call (xs := [.tmp 6, .tmp 7]) S trivial (by decide) rfl rfl Tryz.call30 ((laws_heldStringS_ok (H.arg h34)  e55).mono ?_)
 rintro e w52 ⟨rfl, Hc53⟩
 have H := H.call0 Hc53
 refine ⟨_, rfl, trivial, fun a S => ?_⟩
 refine lq (.int .i64 x54) S (q_assign rfl) fun a S => ?_
 refine lx_nil (thenN ?_)
 refine wp_seq (wp_seq (region_plain ?_))
 refine lq (.int .i64 x54) S (q_move rfl) fun a S => ?_
 refine lq (.bool (decide (x54 < (0 : Int)))) S (q_lss rfl rfl) fun a S => ?_
 refine lx_nil (thenN ?_)
 refine cond_b S rfl (fun hc57 => ?_) (fun hc57 => ?_)
 ·have hm := ite_t hc57 hm
  refine wp_seq (region_plain ?_)
  refine lq (.int .i64 (-1 : Int)) S (q_assign rfl) fun a S => ?_
  refine lx_nil (thenN ?_)
  refine wp_ret (then_ret ?_)
  obtain rfl := Option.some.inj hm
  have H : Heap w0 [] w52 := H.sel [] (by decide)
  exact leave1 S rfl rfl ⟨rfl, H⟩
 ·have hm := ite_f hc57 hm
  refine wp_skip (thenN ?_)
  refine wp_seq (region_plain ?_)
  refine lq (pAdd (bp b49) 3) S (q_fieldAddr' 3 27 rfl (isP_bp _) Tryz.underlying29 rfl Tryz.sizeOf27) fun a S => ?_
  refine lx_e v35 S trivial (by decide) rfl trivial (q_load1 rfl Tryz.isAgg27 (by rintro _ rfl; exact (At.of_add (m := 3) (j := 0) (boxAt (i := 0) H rfl (j := 3) rfl)))) (fun a S => ?_)
  refine lq (.int .i64 x54) S (q_move rfl) fun a S => ?_
  obtain ⟨x60, e61, hm⟩ := bind_some hm
  refine lx_call (xs := [.tmp 12, .tmp 13]) S trivial (by decide) rfl rfl Tryz.call31 ((laws_heldEdgeS_ok (H.arg h36)  e61).mono ?_)
  rintro e w58 ⟨rfl, Hc59⟩
  have H := H.call0 Hc59
  refine ⟨_, rfl, trivial, fun a S => ?_⟩
  refine lq (.int .i64 x60) S (q_assign rfl) fun a S => ?_
  refine lx_nil (thenN ?_)
  refine wp_seq (wp_seq (region_plain ?_))
  refine lq (.int .i64 x60) S (q_move rfl) fun a S => ?_
  refine lq (.bool (decide (x60 < (0 : Int)))) S (q_lss rfl rfl) fun a S => ?_
  refine lx_nil (thenN ?_)
  refine cond_b S rfl (fun hc63 => ?_) (fun hc63 => ?_)
  ·have hm := ite_t hc63 hm
   refine wp_seq (region_plain ?_)
   refine lq (.int .i64 (-1 : Int)) S (q_assign rfl) fun a S => ?_
   refine lx_nil (thenN ?_)
   refine wp_ret (then_ret ?_)
   obtain rfl := Option.some.inj hm
   have H : Heap w0 [] w58 := H.sel [] (by decide)
   exact leave1 S rfl rfl ⟨rfl, H⟩
  ·have hm := ite_f hc63 hm
   refine wp_skip (thenN ?_)
   refine wp_seq (region_plain ?_)
   refine lq (.int .i64 x60) S (q_move rfl) fun a S => ?_
   refine lq (.int .i64 x60) S (q_assign rfl) fun a S => ?_
   refine lx_nil (thenN ?_)
   refine wp_ret ?_
   obtain rfl := Option.some.inj hm
   have H : Heap w0 [] w58 := H.sel [] (by decide)
   exact leave1 S rfl rfl ⟨rfl, H⟩

/-- laws.FnExactSaturateLts -/
def laws_FnExactSaturateLts_m (fuel : Nat) (a0 : Tlaws_Lts) : Option (Bool) :=
  (laws_szLts_m fuel (a0.1, a0.2.1, a0.2.2.1, a0.2.2.2) (1048576 : Int)).bind fun x54 => (if (decide (x54 < (0 : Int))) = true then some (true) else (laws_toLts_m fuel (a0.1, a0.2.1, a0.2.2.1, a0.2.2.2)).bind fun x60 => (spec_SaturateLts_m fuel (x60.1, x60.2.1, x60.2.2.1, x60.2.2.2)).bind fun x69 => (laws_toLts_m fuel (a0.1, a0.2.1, a0.2.2.1, a0.2.2.2)).bind fun x82 => (impl_SaturateLts_m fuel (x82.1, x82.2.1, x82.2.2.1, x82.2.2.2)).bind fun x95 => (laws_eqLts_m fuel (x95.1.1, x95.1.2.1, x95.1.2.2.1, x95.1.2.2.2) (x69.1.1, x69.1.2.1, x69.1.2.2.1, x69.1.2.2.2)).bind fun x108 => (if (!x108) = true then some true else some (x95.2 != x69.2)).bind fun t111 => (if t111 = true then some (false) else (laws_toLts_m fuel (a0.1, a0.2.1, a0.2.2.1, a0.2.2.2)).bind fun x119 => (laws_eqLts_m fuel (x82.1, x82.2.1, x82.2.2.1, x82.2.2.2) (x119.1, x119.2.1, x119.2.2.1, x119.2.2.2)).bind fun x128 => (if (!x128) = true then some (false) else (laws_markLts_m fuel (x82.1, x82.2.1, x82.2.2.1, x82.2.2.2) (1 : Int)).bind fun x134 => (if (decide (x134.1 < (0 : Int))) = true then some true else (laws_eqLts_m fuel (x95.1.1, x95.1.2.1, x95.1.2.2.1, x95.1.2.2.2) (x69.1.1, x69.1.2.1, x69.1.2.2.1, x69.1.2.2.2)).bind fun x141 => some (!x141)).bind fun t136 => (if t136 = true then some true else some (x95.2 != x69.2)).bind fun t144 => (if t144 = true then some (false) else (laws_markLts_m fuel (x95.1.1, x95.1.2.1, x95.1.2.2.1, x95.1.2.2.2) (1 : Int)).bind fun x150 => (laws_heldLts_m fuel (x95.1.1, x95.1.2.1, x150.2.1, x150.2.2) (1 : Int)).bind fun x154 => (if (decide (x154 < (0 : Int))) = true then some (false) else (if (x154 != x150.1) = true then some (false) else (laws_toLts_m fuel (a0.1, a0.2.1, a0.2.2.1, a0.2.2.2)).bind fun x161 => (impl_SaturateLts_m fuel (x161.1, x161.2.1, x161.2.2.1, x161.2.2.2)).bind fun x170 => (laws_eqLts_m fuel (x170.1.1, x170.1.2.1, x170.1.2.2.1, x170.1.2.2.2) (x69.1.1, x69.1.2.1, x69.1.2.2.1, x69.1.2.2.2)).bind fun x183 => (if (!x183) = true then some true else some (x170.2 != x69.2)).bind fun t186 => (if t186 = true then some (false) else (laws_heldLts_m fuel (x95.1.1, x95.1.2.1, x150.2.1, x150.2.2) (1 : Int)).bind fun x192 => (if (decide (x192 < (0 : Int))) = true then some (false) else (if (x192 != x150.1) = true then some (false) else some (true))))))))))
set_option maxRecDepth 20000 in
theorem laws_FnExactSaturateLts_ok {w0 : World} {fuel : Nat} {p0 : Value} {a0 : Tlaws_Lts} {r : Bool} (hG : Glob Tryz.prog w0) (h0 : Rd Rlaws_Lts w0 p0 a0) (hm : laws_FnExactSaturateLts_m fuel a0 = some r) :
  Calls Tryz.prog 3 #[p0] w0 fun e w => e = .returned (.bool r) ∧ Heap w0 [] w := by
 unfold laws_FnExactSaturateLts_m at hm
 have H := Heap.start w0
 obtain ⟨c31, rfl, h32⟩ := h0
 obtain ⟨c37, c38, rfl, h39, h40⟩ := h32
 obtain rfl := h39
 obtain ⟨c41, c42, rfl, h43, h44⟩ := h40
 obtain rfl := h43
 obtain ⟨c45, c46, rfl, h47, h48⟩ := h44
 obtain ⟨v33, rfl, h34⟩ := rd_list h47
 obtain ⟨v35, rfl, h36⟩ := rd_list h48
 refine enter (args := [(.agg #[(.int .i64 a0.1), (.int .i64 a0.2.1), v33, v35])]) Tryz.func3 rfl 96 rfl (Nat.le_of_ble_eq_true rfl) (fun a S => ?_)
 refine wp_seq (region_plain ?_)
 refine lx_box S trivial (by decide) rfl H rfl rfl (fun b49 w50 H => ⟨trivial, fun a S => ?_⟩)
 refine lq (.bool false) S (q_assign rfl) fun a S => ?_
 refine lx_nil (thenN ?_)
 refine wp_seq (region_plain ?_)
 refine lq (.int .i64 (1048576 : Int)) S (q_assign rfl) fun a S => ?_
 refine lx_nil (thenN ?_)
 refine wp_seq (region_plain ?_)
 refine lx_e (.agg #[(.int .i64 a0.1), (.int .i64 a0.2.1), v33, v35]) S trivial (by decide) rfl trivial (q_loadA (cs := [(.int .i64 a0.1), (.int .i64 a0.2.1), v33, v35]) rfl (isP_bp _) Tryz.isAgg25 Tryz.sizeOf25 (by rintro _ rfl; exact (fun j u hu => boxAt (i := 0) H rfl hu))) (fun a S => ?_)
 refine lq (.int .i64 (1048576 : Int)) S (q_move rfl) fun a S => ?_
 obtain ⟨x54, e55, hm⟩ := bind_some hm
 refine lx_call (xs := [.tmp 14, .tmp 15]) S trivial (by decide) rfl rfl Tryz.call5 ((laws_szLts_ok ⟨[(.int .i64 a0.1), (.int .i64 a0.2.1), v33, v35], rfl, ⟨[(.int .i64 a0.1)], [(.int .i64 a0.2.1), v33, v35], rfl, rfl, ⟨[(.int .i64 a0.2.1)], [v33, v35], rfl, rfl, ⟨[v33], [v35], rfl, ((H.arg h34)).list_rd, ((H.arg h36)).list_rd⟩⟩⟩⟩  e55).mono ?_)
 rintro e w52 ⟨rfl, Hc53⟩
 have H := H.call0 Hc53
 refine ⟨_, rfl, trivial, fun a S => ?_⟩
 refine lq (.int .i64 x54) S (q_assign rfl) fun a S => ?_
 refine lx_nil (thenN ?_)
 refine wp_seq (wp_seq (region_plain ?_))
 refine lq (.int .i64 x54) S (q_move rfl) fun a S => ?_
 refine lq (.bool (decide (x54 < (0 : Int)))) S (q_lss rfl rfl) fun a S => ?_
 refine lx_nil (thenN ?_)
 refine cond_b S rfl (fun hc57 => ?_) (fun hc57 => ?_)
 ·have hm := ite_t hc57 hm
  refine wp_seq (region_plain ?_)
  refine lq (.bool true) S (q_assign rfl) fun a S => ?_
  refine lx_nil (thenN ?_)
  refine wp_ret (then_ret ?_)
  obtain rfl := Option.some.inj hm
  have H : Heap w0 [] w52 := H.sel [] (by decide)
  exact leave1 S rfl rfl ⟨rfl, H⟩
 ·have hm := ite_f hc57 hm
  refine wp_skip (thenN ?_)
  refine wp_seq (region_plain ?_)
  refine lx_e (.agg #[(.int .i64 a0.1), (.int .i64 a0.2.1), v33, v35]) S trivial (by decide) rfl trivial (q_loadA (cs := [(.int .i64 a0.1), (.int .i64 a0.2.1), v33, v35]) rfl (isP_bp _) Tryz.isAgg25 Tryz.sizeOf25 (by rintro _ rfl; exact (fun j u hu => boxAt (i := 0) H rfl hu))) (fun a S => ?_)
  obtain ⟨x60, e61, hm⟩ := bind_some hm
  refine lx_call (xs := [.tmp 20]) S trivial (by decide) rfl rfl Tryz.call7 ((laws_toLts_ok ⟨[(.int .i64 a0.1), (.int .i64 a0.2.1), v33, v35], rfl, ⟨[(.int .i64 a0.1)], [(.int .i64 a0.2.1), v33, v35], rfl, rfl, ⟨[(.int .i64 a0.2.1)], [v33, v35], rfl, rfl, ⟨[v33], [v35], rfl, ((H.arg h34)).list_rd, ((H.arg h36)).list_rd⟩⟩⟩⟩ e61).mono ?_)
  rintro e w58 ⟨v62, v63, rfl, Hc59⟩
  have H := H.call2 Hc59
  refine ⟨_, rfl, trivial, fun a S => ?_⟩
  obtain ⟨x69, e70, hm⟩ := bind_some hm
  refine lx_call (xs := [.tmp 21]) S trivial (by decide) rfl rfl Tryz.call6 ((spec_SaturateLts_ok ⟨[(.int .i64 x60.1), (.int .i64 x60.2.1), v62, v63], rfl, ⟨[(.int .i64 x60.1)], [(.int .i64 x60.2.1), v62, v63], rfl, rfl, ⟨[(.int .i64 x60.2.1)], [v62, v63], rfl, rfl, ⟨[v62], [v63], rfl, ((H.rdAt 0 rfl)).list_rd, ((H.rdAt 1 rfl)).list_rd⟩⟩⟩⟩ e70).mono ?_)
  rintro e w67 ⟨v71, v72, rfl, Hc68⟩
  have H := H.call2 Hc68
  refine ⟨_, rfl, trivial, fun a S => ?_⟩
  refine lq (.tuple #[(.agg #[(.int .i64 x69.1.1), (.int .i64 x69.1.2.1), v71, v72]), (.int .i64 x69.2)]) S (q_move rfl) fun a S => ?_
  refine lq (.agg #[(.int .i64 x69.1.1), (.int .i64 x69.1.2.1), v71, v72]) S (q_extract rfl rfl) fun a S => ?_
  refine lq (.int .i64 x69.2) S (q_extract rfl rfl) fun a S => ?_
  refine lx_alloc S trivial (by decide) rfl H Tryz.zeroValue29 rfl (fun b76 w77 H => ⟨trivial, fun a S => ?_⟩)
  refine lx_storeBox (o := 0) (i := 0) (us := [(.int .i64 x69.1.1), (.int .i64 x69.1.2.1), v71, v72]) (cs' := [(.int .i64 x69.1.1), (.int .i64 x69.1.2.1), v71, v72]) S trivial rfl H rfl rfl rfl rfl Tryz.sizeOf29 (Nat.le_of_ble_eq_true rfl) (List.forall_mem_cons.2 ⟨rfl, (List.forall_mem_cons.2 ⟨rfl, (List.forall_mem_cons.2 ⟨one_sl (H.isSl 1 rfl), (List.forall_mem_cons.2 ⟨one_sl (H.isSl 2 rfl), (fun _ h => nomatch h)⟩)⟩)⟩)⟩) rfl (fun w79 H => ⟨trivial, fun a S => ?_⟩)
  change Heap w0 [bA b76 [(.int .i64 x69.1.1), (.int .i64 x69.1.2.1), v71, v72] 29, oA (rList rStr) v71 x69.1.2.2.1, oA (rList Rimpl_Edge) v72 x69.1.2.2.2, oA (rList rStr) v62 x60.2.2.1, oA (rList Rimpl_Edge) v63 x60.2.2.2, bA b49 [(.int .i64 a0.1), (.int .i64 a0.2.1), v33, v35] 25] w79 at H
  refine lq (.int .i64 x69.2) S (q_assign rfl) fun a S => ?_
  refine lx_nil (thenN ?_)
  refine wp_seq (region_plain ?_)
  refine lx_e (.agg #[(.int .i64 a0.1), (.int .i64 a0.2.1), v33, v35]) S trivial (by decide) rfl trivial (q_loadA (cs := [(.int .i64 a0.1), (.int .i64 a0.2.1), v33, v35]) rfl (isP_bp _) Tryz.isAgg25 Tryz.sizeOf25 (by rintro _ rfl; exact (fun j u hu => boxAt (i := 5) H rfl hu))) (fun a S => ?_)
  obtain ⟨x82, e83, hm⟩ := bind_some hm
  refine lx_call (xs := [.tmp 25]) S trivial (by decide) rfl rfl Tryz.call7 ((laws_toLts_ok ⟨[(.int .i64 a0.1), (.int .i64 a0.2.1), v33, v35], rfl, ⟨[(.int .i64 a0.1)], [(.int .i64 a0.2.1), v33, v35], rfl, rfl, ⟨[(.int .i64 a0.2.1)], [v33, v35], rfl, rfl, ⟨[v33], [v35], rfl, ((H.arg h34)).list_rd, ((H.arg h36)).list_rd⟩⟩⟩⟩ e83).mono ?_)
  rintro e w80 ⟨v84, v85, rfl, Hc81⟩
  have H := H.call2 Hc81
  refine ⟨_, rfl, trivial, fun a S => ?_⟩
  refine lx_alloc S trivial (by decide) rfl H Tryz.zeroValue29 rfl (fun b89 w90 H => ⟨trivial, fun a S => ?_⟩)
  refine lx_storeBox (o := 0) (i := 0) (us := [(.int .i64 x82.1), (.int .i64 x82.2.1), v84, v85]) (cs' := [(.int .i64 x82.1), (.int .i64 x82.2.1), v84, v85]) S trivial rfl H rfl rfl rfl rfl Tryz.sizeOf29 (Nat.le_of_ble_eq_true rfl) (List.forall_mem_cons.2 ⟨rfl, (List.forall_mem_cons.2 ⟨rfl, (List.forall_mem_cons.2 ⟨one_sl (H.isSl 1 rfl), (List.forall_mem_cons.2 ⟨one_sl (H.isSl 2 rfl), (fun _ h => nomatch h)⟩)⟩)⟩)⟩) rfl (fun w92 H => ⟨trivial, fun a S => ?_⟩)
  change Heap w0 [bA b89 [(.int .i64 x82.1), (.int .i64 x82.2.1), v84, v85] 29, oA (rList rStr) v84 x82.2.2.1, oA (rList Rimpl_Edge) v85 x82.2.2.2, bA b76 [(.int .i64 x69.1.1), (.int .i64 x69.1.2.1), v71, v72] 29, oA (rList rStr) v71 x69.1.2.2.1, oA (rList Rimpl_Edge) v72 x69.1.2.2.2, oA (rList rStr) v62 x60.2.2.1, oA (rList Rimpl_Edge) v63 x60.2.2.2, bA b49 [(.int .i64 a0.1), (.int .i64 a0.2.1), v33, v35] 25] w92 at H
  refine lx_nil (thenN ?_)
  refine wp_seq (region_plain ?_)
  refine lx_e (.agg #[(.int .i64 x82.1), (.int .i64 x82.2.1), v84, v85]) S trivial (by decide) rfl trivial (q_loadA (cs := [(.int .i64 x82.1), (.int .i64 x82.2.1), v84, v85]) rfl (isP_bp _) Tryz.isAgg29 Tryz.sizeOf29 (by rintro _ rfl; exact (fun j u hu => boxAt (i := 0) H rfl hu))) (fun a S => ?_)
  obtain ⟨x95, e96, hm⟩ := bind_some hm
  refine lx_call (xs := [.tmp 28]) S trivial (by decide) rfl rfl Tryz.call8 ((impl_SaturateLts_ok (hG.ext H.ext) ⟨[(.int .i64 x82.1), (.int .i64 x82.2.1), v84, v85], rfl, ⟨[(.int .i64 x82.1)], [(.int .i64 x82.2.1), v84, v85], rfl, rfl, ⟨[(.int .i64 x82.2.1)], [v84, v85], rfl, rfl, ⟨[v84], [v85], rfl, ((H.rdAt 1 rfl)).list_rd, ((H.rdAt 2 rfl)).list_rd⟩⟩⟩⟩ e96).mono ?_)
  rintro e w93 ⟨v97, v98, rfl, Hc94⟩
  have H := H.call2 Hc94
  refine ⟨_, rfl, trivial, fun a S => ?_⟩
  refine lq (.tuple #[(.agg #[(.int .i64 x95.1.1), (.int .i64 x95.1.2.1), v97, v98]), (.int .i64 x95.2)]) S (q_move rfl) fun a S => ?_
  refine lq (.agg #[(.int .i64 x95.1.1), (.int .i64 x95.1.2.1), v97, v98]) S (q_extract rfl rfl) fun a S => ?_
  refine lq (.int .i64 x95.2) S (q_extract rfl rfl) fun a S => ?_
  refine lx_alloc S trivial (by decide) rfl H Tryz.zeroValue29 rfl (fun b102 w103 H => ⟨trivial, fun a S => ?_⟩)
  refine lx_storeBox (o := 0) (i := 0) (us := [(.int .i64 x95.1.1), (.int .i64 x95.1.2.1), v97, v98]) (cs' := [(.int .i64 x95.1.1), (.int .i64 x95.1.2.1), v97, v98]) S trivial rfl H rfl rfl rfl rfl Tryz.sizeOf29 (Nat.le_of_ble_eq_true rfl) (List.forall_mem_cons.2 ⟨rfl, (List.forall_mem_cons.2 ⟨rfl, (List.forall_mem_cons.2 ⟨one_sl (H.isSl 1 rfl), (List.forall_mem_cons.2 ⟨one_sl (H.isSl 2 rfl), (fun _ h => nomatch h)⟩)⟩)⟩)⟩) rfl (fun w105 H => ⟨trivial, fun a S => ?_⟩)
  change Heap w0 [bA b102 [(.int .i64 x95.1.1), (.int .i64 x95.1.2.1), v97, v98] 29, oA (rList rStr) v97 x95.1.2.2.1, oA (rList Rimpl_Edge) v98 x95.1.2.2.2, bA b89 [(.int .i64 x82.1), (.int .i64 x82.2.1), v84, v85] 29, oA (rList rStr) v84 x82.2.2.1, oA (rList Rimpl_Edge) v85 x82.2.2.2, bA b76 [(.int .i64 x69.1.1), (.int .i64 x69.1.2.1), v71, v72] 29, oA (rList rStr) v71 x69.1.2.2.1, oA (rList Rimpl_Edge) v72 x69.1.2.2.2, oA (rList rStr) v62 x60.2.2.1, oA (rList Rimpl_Edge) v63 x60.2.2.2, bA b49 [(.int .i64 a0.1), (.int .i64 a0.2.1), v33, v35] 25] w105 at H
  refine lq (.int .i64 x95.2) S (q_assign rfl) fun a S => ?_
  refine lx_nil (thenN ?_)
  refine wp_seq (wp_seq (region_plain ?_))
  refine lx_e (.agg #[(.int .i64 x95.1.1), (.int .i64 x95.1.2.1), v97, v98]) S trivial (by decide) rfl trivial (q_loadA (cs := [(.int .i64 x95.1.1), (.int .i64 x95.1.2.1), v97, v98]) rfl (isP_bp _) Tryz.isAgg29 Tryz.sizeOf29 (by rintro _ rfl; exact (fun j u hu => boxAt (i := 0) H rfl hu))) (fun a S => ?_)
  refine lx_e (.agg #[(.int .i64 x69.1.1), (.int .i64 x69.1.2.1), v71, v72]) S trivial (by decide) rfl trivial (q_loadA (cs := [(.int .i64 x69.1.1), (.int .i64 x69.1.2.1), v71, v72]) rfl (isP_bp _) Tryz.isAgg29 Tryz.sizeOf29 (by rintro _ rfl; exact (fun j u hu => boxAt (i := 6) H rfl hu))) (fun a S => ?_)
  obtain ⟨x108, e109, hm⟩ := bind_some hm
  refine lx_call (xs := [.tmp 32, .tmp 33]) S trivial (by decide) rfl rfl Tryz.call9 ((laws_eqLts_ok ⟨[(.int .i64 x95.1.1), (.int .i64 x95.1.2.1), v97, v98], rfl, ⟨[(.int .i64 x95.1.1)], [(.int .i64 x95.1.2.1), v97, v98], rfl, rfl, ⟨[(.int .i64 x95.1.2.1)], [v97, v98], rfl, rfl, ⟨[v97], [v98], rfl, ((H.rdAt 1 rfl)).list_rd, ((H.rdAt 2 rfl)).list_rd⟩⟩⟩⟩ ⟨[(.int .i64 x69.1.1), (.int .i64 x69.1.2.1), v71, v72], rfl, ⟨[(.int .i64 x69.1.1)], [(.int .i64 x69.1.2.1), v71, v72], rfl, rfl, ⟨[(.int .i64 x69.1.2.1)], [v71, v72], rfl, rfl, ⟨[v71], [v72], rfl, ((H.rdAt 7 rfl)).list_rd, ((H.rdAt 8 rfl)).list_rd⟩⟩⟩⟩ e109).mono ?_)
  rintro e w106 ⟨rfl, Hc107⟩
  have H := H.call0 Hc107
  refine ⟨_, rfl, trivial, fun a S => ?_⟩
  refine lq (.bool (!x108)) S (q_not rfl) fun a S => ?_
  refine lq (.bool (!x108)) S (q_move rfl) fun a S => ?_
  obtain ⟨t111, e112, hm⟩ := bind_some hm
  refine lx_cut 4 (fun a w => Slots a 96 [(1, (bp b49)), (4, (bp b76)), (5, (.int .i64 x69.2)), (6, (bp b89)), (7, (bp b102)), (8, (.int .i64 x95.2)), (40, (.bool t111))] ∧ Heap w0 [bA b102 [(.int .i64 x95.1.1), (.int .i64 x95.1.2.1), v97, v98] 29, oA (rList rStr) v97 x95.1.2.2.1, oA (rList Rimpl_Edge) v98 x95.1.2.2.2, bA b89 [(.int .i64 x82.1), (.int .i64 x82.2.1), v84, v85] 29, oA (rList rStr) v84 x82.2.2.1, oA (rList Rimpl_Edge) v85 x82.2.2.2, bA b76 [(.int .i64 x69.1.1), (.int .i64 x69.1.2.1), v71, v72] 29, oA (rList rStr) v71 x69.1.2.2.1, oA (rList Rimpl_Edge) v72 x69.1.2.2.2, bA b49 [(.int .i64 a0.1), (.int .i64 a0.2.1), v33, v35] 25] w) ?_ ?_
  ·by_cases hc113 : (!x108) = true
   ·have hm := ite_t hc113 e112
    refine lx_skip S rfl rfl (isB_ne hc113) (by decide) (fun a S => ?_)
    refine lx_skip S rfl rfl (isB_ne hc113) (by decide) (fun a S => ?_)
    refine lx_skip S rfl rfl (isB_ne hc113) (by decide) (fun a S => ?_)
    refine lq (.bool true) S (q_pickT' rfl hc113 rfl) fun a S => ?_
    refine lx_nil ?_
    obtain rfl := Option.some.inj hm
    have H := H.sel [0, 1, 2, 3, 4, 5, 6, 7, 8, 11] (by decide)
    exact ⟨S.sub ⟨rfl, rfl, rfl, rfl, rfl, rfl, rfl, trivial⟩, H⟩
   ·have hm := ite_f (eq_false_of_ne_true hc113) e112
    have hc113 : (!x108) = false := eq_false_of_ne_true hc113
    refine lx_q (.int .i64 x95.2) S (want_b rfl rfl hc113) (by decide) (q_move rfl) (fun a S => ?_)
    refine lx_q (.int .i64 x69.2) S (want_b rfl rfl hc113) (by decide) (q_move rfl) (fun a S => ?_)
    refine lx_q (.bool (x95.2 != x69.2)) S (want_b rfl rfl hc113) (by decide) (q_neq rfl rfl) (fun a S => ?_)
    refine lq (.bool (x95.2 != x69.2)) S (q_pickF' rfl hc113 rfl) fun a S => ?_
    refine lx_nil ?_
    obtain rfl := Option.some.inj hm
    have H := H.sel [0, 1, 2, 3, 4, 5, 6, 7, 8, 11] (by decide)
    exact ⟨S.sub ⟨rfl, rfl, rfl, rfl, rfl, rfl, rfl, trivial⟩, H⟩
  ·rintro a w ⟨S, H⟩
   refine lx_nil (thenN ?_)
   refine cond_b S rfl (fun hc114 => ?_) (fun hc114 => ?_)
   ·have hm := ite_t hc114 hm
    refine wp_seq (region_plain ?_)
    refine lq (.bool false) S (q_assign rfl) fun a S => ?_
    refine lx_nil (thenN ?_)
    refine wp_ret (then_ret ?_)
    obtain rfl := Option.some.inj hm
    have H : Heap w0 [] w := H.sel [] (by decide)
    exact leave1 S rfl rfl ⟨rfl, H⟩
   ·have hm := ite_f hc114 hm
    refine wp_skip (thenN ?_)
    refine wp_seq ?_
    refine wp_seq ?_
    refine region_drawG (fun w1 => Heap w0 [bA b89 [(.int .i64 x82.1), (.int .i64 x82.2.1), v84, v85] 29, bA b49 [(.int .i64 a0.1), (.int .i64 a0.2.1), v33, v35] 25] w1) (fun i => [2, 3].contains i) mixed (by kernel_rfl) (fun w116 he115 => ?_)
    have H := H.later he115
    refine ⟨H.sel [3, 9] (by decide), ?_⟩
    refine lq (.agg #[(.int .i64 x82.1), (.int .i64 x82.2.1), v84, v85]) S (q_loadA (cs := [(.int .i64 x82.1), (.int .i64 x82.2.1), v84, v85]) rfl (isP_bp _) Tryz.isAgg29 Tryz.sizeOf29 (fun w1 hC => (fun j u hu => boxAt (i := 0) hC rfl hu))) fun a S => ?_
    refine lq (.agg #[(.int .i64 a0.1), (.int .i64 a0.2.1), v33, v35]) S (q_loadA (cs := [(.int .i64 a0.1), (.int .i64 a0.2.1), v33, v35]) rfl (isP_bp _) Tryz.isAgg25 Tryz.sizeOf25 (fun w1 hC => (fun j u hu => boxAt (i := 1) hC rfl hu))) fun a S => ?_
    obtain ⟨x119, e120, hm⟩ := bind_some hm
    refine lx_call (xs := [.tmp 42]) S trivial (by decide) rfl rfl Tryz.call7 ((laws_toLts_ok ⟨[(.int .i64 a0.1), (.int .i64 a0.2.1), v33, v35], rfl, ⟨[(.int .i64 a0.1)], [(.int .i64 a0.2.1), v33, v35], rfl, rfl, ⟨[(.int .i64 a0.2.1)], [v33, v35], rfl, rfl, ⟨[v33], [v35], rfl, ((H.arg h34)).list_rd, ((H.arg h36)).list_rd⟩⟩⟩⟩ e120).mono ?_)
    rintro e w117 ⟨v121, v122, rfl, Hc118⟩
    have H := H.call2 Hc118
    refine ⟨_, rfl, H.sel [5, 11] (by decide), fun a S => ?_⟩
    obtain ⟨x128, e129, hm⟩ := bind_some hm
    refine lx_call (xs := [.tmp 41, .tmp 43]) S trivial (by decide) rfl rfl Tryz.call9 ((laws_eqLts_ok ⟨[(.int .i64 x82.1), (.int .i64 x82.2.1), v84, v85], rfl, ⟨[(.int .i64 x82.1)], [(.int .i64 x82.2.1), v84, v85], rfl, rfl, ⟨[(.int .i64 x82.2.1)], [v84, v85], rfl, rfl, ⟨[v84], [v85], rfl, ((H.rdAt 6 rfl)).list_rd, ((H.rdAt 7 rfl)).list_rd⟩⟩⟩⟩ ⟨[(.int .i64 x119.1), (.int .i64 x119.2.1), v121, v122], rfl, ⟨[(.int .i64 x119.1)], [(.int .i64 x119.2.1), v121, v122], rfl, rfl, ⟨[(.int .i64 x119.2.1)], [v121, v122], rfl, rfl, ⟨[v121], [v122], rfl, ((H.rdAt 0 rfl)).list_rd, ((H.rdAt 1 rfl)).list_rd⟩⟩⟩⟩ e129).mono ?_)
    rintro e w126 ⟨rfl, Hc127⟩
    have H := H.call0 Hc127
    refine ⟨_, rfl, H.sel [5, 11] (by decide), fun a S => ?_⟩
    refine lq (.bool (!x128)) S (q_not rfl) fun a S => ?_
    refine lx_nil (thenN ?_)
    refine cond_b S rfl (fun hc131 => ?_) (fun hc131 => ?_)
    ·have hm := ite_t hc131 hm
     refine wp_seq (region_plain ?_)
     refine lq (.bool false) S (q_assign rfl) fun a S => ?_
     refine lx_nil (thenN ?_)
     refine wp_ret (then_ret ?_)
     obtain rfl := Option.some.inj hm
     have H : Heap w0 [] w126 := H.sel [] (by decide)
     exact leave1 S rfl rfl ⟨rfl, H⟩
    ·have hm := ite_f hc131 hm
     refine wp_skip (thenN ?_)
     refine wp_seq (region_plain ?_)
     refine lq (.int .i64 (1 : Int)) S (q_assign rfl) fun a S => ?_
     refine lx_nil (thenN ?_)
     refine wp_seq (region_plain ?_)
     refine lx_e (.agg #[(.int .i64 x82.1), (.int .i64 x82.2.1), v84, v85]) S trivial (by decide) rfl trivial (q_loadA (cs := [(.int .i64 x82.1), (.int .i64 x82.2.1), v84, v85]) rfl (isP_bp _) Tryz.isAgg29 Tryz.sizeOf29 (by rintro _ rfl; exact (fun j u hu => boxAt (i := 5) H rfl hu))) (fun a S => ?_)
     refine lq (.int .i64 (1 : Int)) S (q_move rfl) fun a S => ?_
     obtain ⟨x134, e135, hm⟩ := bind_some hm
     have H : Heap w0 [oA (rList Rimpl_Edge) v85 x82.2.2.2, oA (rList rStr) v121 x119.2.2.1, oA (rList Rimpl_Edge) v122 x119.2.2.2, bA b102 [(.int .i64 x95.1.1), (.int .i64 x95.1.2.1), v97, v98] 29, oA (rList rStr) v97 x95.1.2.2.1, oA (rList Rimpl_Edge) v98 x95.1.2.2.2, bA b89 [(.int .i64 x82.1), (.int .i64 x82.2.1), v84, v85] 29, oA (rList rStr) v84 x82.2.2.1, bA b76 [(.int .i64 x69.1.1), (.int .i64 x69.1.2.1), v71, v72] 29, oA (rList rStr) v71 x69.1.2.2.1, oA (rList Rimpl_Edge) v72 x69.1.2.2.2, bA b49 [(.int .i64 a0.1), (.int .i64 a0.2.1), v33, v35] 25] w126 := H.front 7 rfl
     have H : Heap w0 [oA (rList rStr) v84 x82.2.2.1, oA (rList Rimpl_Edge) v85 x82.2.2.2, oA (rList rStr) v121 x119.2.2.1, oA (rList Rimpl_Edge) v122 x119.2.2.2, bA b102 [(.int .i64 x95.1.1), (.int .i64 x95.1.2.1), v97, v98] 29, oA (rList rStr) v97 x95.1.2.2.1, oA (rList Rimpl_Edge) v98 x95.1.2.2.2, bA b89 [(.int .i64 x82.1), (.int .i64 x82.2.1), v84, v85] 29, bA b76 [(.int .i64 x69.1.1), (.int .i64 x69.1.2.1), v71, v72] 29, oA (rList rStr) v71 x69.1.2.2.1, oA (rList Rimpl_Edge) v72 x69.1.2.2.2, bA b49 [(.int .i64 a0.1), (.int .i64 a0.2.1), v33, v35] 25] w126 := H.front 7 rfl
     refine lx_call (xs := [.tmp 46, .tmp 47]) S trivial (by decide) rfl rfl Tryz.call10 ((laws_markLts_ok H  e135).mono ?_)
     rintro e w132 ⟨rfl, H⟩
     refine ⟨_, rfl, trivial, fun a S => ?_⟩
     refine lq (.int .i64 x134.1) S (q_assign rfl) fun a S => ?_
     refine lx_nil (thenN ?_)
     refine wp_seq (wp_seq (region_plain ?_))
     refine lq (.int .i64 x134.1) S (q_move rfl) fun a S => ?_
     refine lq (.bool (decide (x134.1 < (0 : Int)))) S (q_lss rfl rfl) fun a S => ?_
     refine lq (.bool (decide (x134.1 < (0 : Int)))) S (q_move rfl) fun a S => ?_
     obtain ⟨t136, e137, hm⟩ := bind_some hm
     refine lx_cut 5 (fun a w => Slots a 96 [(1, (bp b49)), (4, (bp b76)), (5, (.int .i64 x69.2)), (7, (bp b102)), (8, (.int .i64 x95.2)), (56, (.bool t136))] ∧ Heap w0 [bA b102 [(.int .i64 x95.1.1), (.int .i64 x95.1.2.1), v97, v98] 29, oA (rList rStr) v97 x95.1.2.2.1, oA (rList Rimpl_Edge) v98 x95.1.2.2.2, bA b76 [(.int .i64 x69.1.1), (.int .i64 x69.1.2.1), v71, v72] 29, oA (rList rStr) v71 x69.1.2.2.1, oA (rList Rimpl_Edge) v72 x69.1.2.2.2, bA b49 [(.int .i64 a0.1), (.int .i64 a0.2.1), v33, v35] 25] w) ?_ ?_
     ·by_cases hc138 : (decide (x134.1 < (0 : Int))) = true
      ·have hm := ite_t hc138 e137
       refine lx_skip S rfl rfl (isB_ne hc138) (by decide) (fun a S => ?_)
       refine lx_skip S rfl rfl (isB_ne hc138) (by decide) (fun a S => ?_)
       refine lx_skip S rfl rfl (isB_ne hc138) (by decide) (fun a S => ?_)
       refine lx_skip S rfl rfl (isB_ne hc138) (by decide) (fun a S => ?_)
       refine lq (.bool true) S (q_pickT' rfl hc138 rfl) fun a S => ?_
       refine lx_nil ?_
       obtain rfl := Option.some.inj hm
       have H := H.sel [4, 5, 6, 8, 9, 10, 11] (by decide)
       exact ⟨S.sub ⟨rfl, rfl, rfl, rfl, rfl, rfl, trivial⟩, H⟩
      ·have hm := ite_f (eq_false_of_ne_true hc138) e137
       have hc138 : (decide (x134.1 < (0 : Int))) = false := eq_false_of_ne_true hc138
       refine lx_e (.agg #[(.int .i64 x95.1.1), (.int .i64 x95.1.2.1), v97, v98]) S (want_b rfl rfl hc138) (by decide) rfl trivial (q_loadA (cs := [(.int .i64 x95.1.1), (.int .i64 x95.1.2.1), v97, v98]) rfl (isP_bp _) Tryz.isAgg29 Tryz.sizeOf29 (by rintro _ rfl; exact (fun j u hu => boxAt (i := 4) H rfl hu))) (fun a S => ?_)
       refine lx_e (.agg #[(.int .i64 x69.1.1), (.int .i64 x69.1.2.1), v71, v72]) S (want_b rfl rfl hc138) (by decide) rfl trivial (q_loadA (cs := [(.int .i64 x69.1.1), (.int .i64 x69.1.2.1), v71, v72]) rfl (isP_bp _) Tryz.isAgg29 Tryz.sizeOf29 (by rintro _ rfl; exact (fun j u hu => boxAt (i := 8) H rfl hu))) (fun a S => ?_)
       obtain ⟨x141, e142, hm⟩ := bind_some hm
       refine lx_call (xs := [.tmp 52, .tmp 53]) S (want_b rfl rfl hc138) (by decide) rfl rfl Tryz.call9 ((laws_eqLts_ok ⟨[(.int .i64 x95.1.1), (.int .i64 x95.1.2.1), v97, v98], rfl, ⟨[(.int .i64 x95.1.1)], [(.int .i64 x95.1.2.1), v97, v98], rfl, rfl, ⟨[(.int .i64 x95.1.2.1)], [v97, v98], rfl, rfl, ⟨[v97], [v98], rfl, ((H.rdAt 5 rfl)).list_rd, ((H.rdAt 6 rfl)).list_rd⟩⟩⟩⟩ ⟨[(.int .i64 x69.1.1), (.int .i64 x69.1.2.1), v71, v72], rfl, ⟨[(.int .i64 x69.1.1)], [(.int .i64 x69.1.2.1), v71, v72], rfl, rfl, ⟨[(.int .i64 x69.1.2.1)], [v71, v72], rfl, rfl, ⟨[v71], [v72], rfl, ((H.rdAt 9 rfl)).list_rd, ((H.rdAt 10 rfl)).list_rd⟩⟩⟩⟩ e142).mono ?_)
       rintro e w139 ⟨rfl, Hc140⟩
       have H := H.call0 Hc140
       refine ⟨_, rfl, trivial, fun a S => ?_⟩
       refine lx_q (.bool (!x141)) S (want_b rfl rfl hc138) (by decide) (q_not rfl) (fun a S => ?_)
       refine lq (.bool (!x141)) S (q_pickF' rfl hc138 rfl) fun a S => ?_
       refine lx_nil ?_
       obtain rfl := Option.some.inj hm
       have H := H.sel [4, 5, 6, 8, 9, 10, 11] (by decide)
       exact ⟨S.sub ⟨rfl, rfl, rfl, rfl, rfl, rfl, trivial⟩, H⟩
     ·rintro a w ⟨S, H⟩
      refine lq (.bool t136) S (q_move rfl) fun a S => ?_
      obtain ⟨t144, e145, hm⟩ := bind_some hm
      refine lx_cut 4 (fun a w => Slots a 96 [(1, (bp b49)), (4, (bp b76)), (5, (.int .i64 x69.2)), (7, (bp b102)), (61, (.bool t144))] ∧ Heap w0 [bA b102 [(.int .i64 x95.1.1), (.int .i64 x95.1.2.1), v97, v98] 29, oA (rList rStr) v97 x95.1.2.2.1, oA (rList Rimpl_Edge) v98 x95.1.2.2.2, bA b76 [(.int .i64 x69.1.1), (.int .i64 x69.1.2.1), v71, v72] 29, oA (rList rStr) v71 x69.1.2.2.1, oA (rList Rimpl_Edge) v72 x69.1.2.2.2, bA b49 [(.int .i64 a0.1), (.int .i64 a0.2.1), v33, v35] 25] w) ?_ ?_
      ·by_cases hc146 : t136 = true
       ·have hm := ite_t hc146 e145
        refine lx_skip S rfl rfl (isB_ne hc146) (by decide) (fun a S => ?_)
        refine lx_skip S rfl rfl (isB_ne hc146) (by decide) (fun a S => ?_)
        refine lx_skip S rfl rfl (isB_ne hc146) (by decide) (fun a S => ?_)
        refine lq (.bool true) S (q_pickT' rfl hc146 rfl) fun a S => ?_
        refine lx_nil ?_
        obtain rfl := Option.some.inj hm
        exact ⟨S.sub ⟨rfl, rfl, rfl, rfl, rfl, trivial⟩, H⟩
       ·have hm := ite_f (eq_false_of_ne_true hc146) e145
        have hc146 : t136 = false := eq_false_of_ne_true hc146
        refine lx_q (.int .i64 x95.2) S (want_b rfl rfl hc146) (by decide) (q_move rfl) (fun a S => ?_)
        refine lx_q (.int .i64 x69.2) S (want_b rfl rfl hc146) (by decide) (q_move rfl) (fun a S => ?_)
        refine lx_q (.bool (x95.2 != x69.2)) S (want_b rfl rfl hc146) (by decide) (q_neq rfl rfl) (fun a S => ?_)
        refine lq (.bool (x95.2 != x69.2)) S (q_pickF' rfl hc146 rfl) fun a S => ?_
        refine lx_nil ?_
        obtain rfl := Option.some.inj hm
        exact ⟨S.sub ⟨rfl, rfl, rfl, rfl, rfl, trivial⟩, H⟩
      ·rintro a w ⟨S, H⟩
       refine lx_nil (thenN ?_)
       refine cond_b S rfl (fun hc147 => ?_) (fun hc147 => ?_)
       ·have hm := ite_t hc147 hm
        refine wp_seq (region_plain ?_)
        refine lq (.bool false) S (q_assign rfl) fun a S => ?_
        refine lx_nil (thenN ?_)
        refine wp_ret (then_ret ?_)
        obtain rfl := Option.some.inj hm
        have H : Heap w0 [] w := H.sel [] (by decide)
        exact leave1 S rfl rfl ⟨rfl, H⟩
       ·have hm := ite_f hc147 hm
        refine wp_skip (thenN ?_)
        refine wp_seq (region_plain ?_)
        refine lq (.int .i64 (1 : Int)) S (q_assign rfl) fun a S => ?_
        refine lx_nil (thenN ?_)
        refine wp_seq (region_plain ?_)
        refine lx_e (.agg #[(.int .i64 x95.1.1), (.int .i64 x95.1.2.1), v97, v98]) S trivial (by decide) rfl trivial (q_loadA (cs := [(.int .i64 x95.1.1), (.int .i64 x95.1.2.1), v97, v98]) rfl (isP_bp _) Tryz.isAgg29 Tryz.sizeOf29 (by rintro _ rfl; exact (fun j u hu => boxAt (i := 0) H rfl hu))) (fun a S => ?_)
        refine lq (.int .i64 (1 : Int)) S (q_move rfl) fun a S => ?_
        obtain ⟨x150, e151, hm⟩ := bind_some hm
        have H : Heap w0 [oA (rList Rimpl_Edge) v98 x95.1.2.2.2, bA b102 [(.int .i64 x95.1.1), (.int .i64 x95.1.2.1), v97, v98] 29, oA (rList rStr) v97 x95.1.2.2.1, bA b76 [(.int .i64 x69.1.1), (.int .i64 x69.1.2.1), v71, v72] 29, oA (rList rStr) v71 x69.1.2.2.1, oA (rList Rimpl_Edge) v72 x69.1.2.2.2, bA b49 [(.int .i64 a0.1), (.int .i64 a0.2.1), v33, v35] 25] w := H.front 2 rfl
        have H : Heap w0 [oA (rList rStr) v97 x95.1.2.2.1, oA (rList Rimpl_Edge) v98 x95.1.2.2.2, bA b102 [(.int .i64 x95.1.1), (.int .i64 x95.1.2.1), v97, v98] 29, bA b76 [(.int .i64 x69.1.1), (.int .i64 x69.1.2.1), v71, v72] 29, oA (rList rStr) v71 x69.1.2.2.1, oA (rList Rimpl_Edge) v72 x69.1.2.2.2, bA b49 [(.int .i64 a0.1), (.int .i64 a0.2.1), v33, v35] 25] w := H.front 2 rfl
        refine lx_call (xs := [.tmp 62, .tmp 63]) S trivial (by decide) rfl rfl Tryz.call10 ((laws_markLts_ok H  e151).mono ?_)
        rintro e w148 ⟨rfl, H⟩
        refine ⟨_, rfl, trivial, fun a S => ?_⟩
        refine lq (.int .i64 x150.1) S (q_assign rfl) fun a S => ?_
        refine lx_nil (thenN ?_)
        refine wp_seq (region_plain ?_)
        refine lq (.int .i64 (1 : Int)) S (q_assign rfl) fun a S => ?_
        refine lx_nil (thenN ?_)
        refine wp_seq (region_plain ?_)
        refine lx_e (.agg #[(.int .i64 x95.1.1), (.int .i64 x95.1.2.1), v97, v98]) S trivial (by decide) rfl trivial (q_loadA (cs := [(.int .i64 x95.1.1), (.int .i64 x95.1.2.1), v97, v98]) rfl (isP_bp _) Tryz.isAgg29 Tryz.sizeOf29 (by rintro _ rfl; exact (fun j u hu => boxAt (i := 2) H rfl hu))) (fun a S => ?_)
        refine lq (.int .i64 (1 : Int)) S (q_move rfl) fun a S => ?_
        obtain ⟨x154, e155, hm⟩ := bind_some hm
        refine lx_call (xs := [.tmp 65, .tmp 66]) S trivial (by decide) rfl rfl Tryz.call11 ((laws_heldLts_ok (a0 := (x95.1.1, x95.1.2.1, x150.2.1, x150.2.2)) ⟨[(.int .i64 x95.1.1), (.int .i64 x95.1.2.1), v97, v98], rfl, ⟨[(.int .i64 x95.1.1)], [(.int .i64 x95.1.2.1), v97, v98], rfl, rfl, ⟨[(.int .i64 x95.1.2.1)], [v97, v98], rfl, rfl, ⟨[v97], [v98], rfl, ((H.rdAt 0 rfl)).list_rd, ((H.rdAt 1 rfl)).list_rd⟩⟩⟩⟩  e155).mono ?_)
        rintro e w152 ⟨rfl, Hc153⟩
        have H := H.call0 Hc153
        refine ⟨_, rfl, trivial, fun a S => ?_⟩
        refine lq (.int .i64 x154) S (q_assign rfl) fun a S => ?_
        refine lx_nil (thenN ?_)
        refine wp_seq (wp_seq (region_plain ?_))
        refine lq (.int .i64 x154) S (q_move rfl) fun a S => ?_
        refine lq (.bool (decide (x154 < (0 : Int)))) S (q_lss rfl rfl) fun a S => ?_
        refine lx_nil (thenN ?_)
        refine cond_b S rfl (fun hc157 => ?_) (fun hc157 => ?_)
        ·have hm := ite_t hc157 hm
         refine wp_seq (region_plain ?_)
         refine lq (.bool false) S (q_assign rfl) fun a S => ?_
         refine lx_nil (thenN ?_)
         refine wp_ret (then_ret ?_)
         obtain rfl := Option.some.inj hm
         have H : Heap w0 [] w152 := H.sel [] (by decide)
         exact leave1 S rfl rfl ⟨rfl, H⟩
        ·have hm := ite_f hc157 hm
         refine wp_skip (thenN ?_)
         refine wp_seq (wp_seq (region_plain ?_))
         refine lq (.int .i64 x154) S (q_move rfl) fun a S => ?_
         refine lq (.int .i64 x150.1) S (q_move rfl) fun a S => ?_
         refine lq (.bool (x154 != x150.1)) S (q_neq rfl rfl) fun a S => ?_
         refine lx_nil (thenN ?_)
         refine cond_b S rfl (fun hc158 => ?_) (fun hc158 => ?_)
         ·have hm := ite_t hc158 hm
          refine wp_seq (region_plain ?_)
          refine lq (.bool false) S (q_assign rfl) fun a S => ?_
          refine lx_nil (thenN ?_)
          refine wp_ret (then_ret ?_)
          obtain rfl := Option.some.inj hm
          have H : Heap w0 [] w152 := H.sel [] (by decide)
          exact leave1 S rfl rfl ⟨rfl, H⟩
         ·have hm := ite_f hc158 hm
          refine wp_skip (thenN ?_)
          refine wp_seq (region_plain ?_)
          refine lx_e (.agg #[(.int .i64 a0.1), (.int .i64 a0.2.1), v33, v35]) S trivial (by decide) rfl trivial (q_loadA (cs := [(.int .i64 a0.1), (.int .i64 a0.2.1), v33, v35]) rfl (isP_bp _) Tryz.isAgg25 Tryz.sizeOf25 (by rintro _ rfl; exact (fun j u hu => boxAt (i := 6) H rfl hu))) (fun a S => ?_)
          obtain ⟨x161, e162, hm⟩ := bind_some hm
          refine lx_call (xs := [.tmp 74]) S trivial (by decide) rfl rfl Tryz.call7 ((laws_toLts_ok ⟨[(.int .i64 a0.1), (.int .i64 a0.2.1), v33, v35], rfl, ⟨[(.int .i64 a0.1)], [(.int .i64 a0.2.1), v33, v35], rfl, rfl, ⟨[(.int .i64 a0.2.1)], [v33, v35], rfl, rfl, ⟨[v33], [v35], rfl, ((H.arg h34)).list_rd, ((H.arg h36)).list_rd⟩⟩⟩⟩ e162).mono ?_)
          rintro e w159 ⟨v163, v164, rfl, Hc160⟩
          have H := H.call2 Hc160
          refine ⟨_, rfl, trivial, fun a S => ?_⟩
          obtain ⟨x170, e171, hm⟩ := bind_some hm
          refine lx_call (xs := [.tmp 75]) S trivial (by decide) rfl rfl Tryz.call8 ((impl_SaturateLts_ok (hG.ext H.ext) ⟨[(.int .i64 x161.1), (.int .i64 x161.2.1), v163, v164], rfl, ⟨[(.int .i64 x161.1)], [(.int .i64 x161.2.1), v163, v164], rfl, rfl, ⟨[(.int .i64 x161.2.1)], [v163, v164], rfl, rfl, ⟨[v163], [v164], rfl, ((H.rdAt 0 rfl)).list_rd, ((H.rdAt 1 rfl)).list_rd⟩⟩⟩⟩ e171).mono ?_)
          rintro e w168 ⟨v172, v173, rfl, Hc169⟩
          have H := H.call2 Hc169
          refine ⟨_, rfl, trivial, fun a S => ?_⟩
          refine lq (.tuple #[(.agg #[(.int .i64 x170.1.1), (.int .i64 x170.1.2.1), v172, v173]), (.int .i64 x170.2)]) S (q_move rfl) fun a S => ?_
          refine lq (.agg #[(.int .i64 x170.1.1), (.int .i64 x170.1.2.1), v172, v173]) S (q_extract rfl rfl) fun a S => ?_
          refine lq (.int .i64 x170.2) S (q_extract rfl rfl) fun a S => ?_
          refine lx_alloc S trivial (by decide) rfl H Tryz.zeroValue29 rfl (fun b177 w178 H => ⟨trivial, fun a S => ?_⟩)
          refine lx_storeBox (o := 0) (i := 0) (us := [(.int .i64 x170.1.1), (.int .i64 x170.1.2.1), v172, v173]) (cs' := [(.int .i64 x170.1.1), (.int .i64 x170.1.2.1), v172, v173]) S trivial rfl H rfl rfl rfl rfl Tryz.sizeOf29 (Nat.le_of_ble_eq_true rfl) (List.forall_mem_cons.2 ⟨rfl, (List.forall_mem_cons.2 ⟨rfl, (List.forall_mem_cons.2 ⟨one_sl (H.isSl 1 rfl), (List.forall_mem_cons.2 ⟨one_sl (H.isSl 2 rfl), (fun _ h => nomatch h)⟩)⟩)⟩)⟩) rfl (fun w180 H => ⟨trivial, fun a S => ?_⟩)
          change Heap w0 [bA b177 [(.int .i64 x170.1.1), (.int .i64 x170.1.2.1), v172, v173] 29, oA (rList rStr) v172 x170.1.2.2.1, oA (rList Rimpl_Edge) v173 x170.1.2.2.2, oA (rList rStr) v163 x161.2.2.1, oA (rList Rimpl_Edge) v164 x161.2.2.2, oA (rList rStr) v97 x150.2.1, oA (rList Rimpl_Edge) v98 x150.2.2, bA b102 [(.int .i64 x95.1.1), (.int .i64 x95.1.2.1), v97, v98] 29, bA b76 [(.int .i64 x69.1.1), (.int .i64 x69.1.2.1), v71, v72] 29, oA (rList rStr) v71 x69.1.2.2.1, oA (rList Rimpl_Edge) v72 x69.1.2.2.2, bA b49 [(.int .i64 a0.1), (.int .i64 a0.2.1), v33, v35] 25] w180 at H
          refine lq (.int .i64 x170.2) S (q_assign rfl) fun a S => ?_
          refine lx_nil (thenN ?_)
          refine wp_seq (wp_seq (region_plain ?_))
          refine lx_e (.agg #[(.int .i64 x170.1.1), (.int .i64 x170.1.2.1), v172, v173]) S trivial (by decide) rfl trivial (q_loadA (cs := [(.int .i64 x170.1.1), (.int .i64 x170.1.2.1), v172, v173]) rfl (isP_bp _) Tryz.isAgg29 Tryz.sizeOf29 (by rintro _ rfl; exact (fun j u hu => boxAt (i := 0) H rfl hu))) (fun a S => ?_)
          refine lx_e (.agg #[(.int .i64 x69.1.1), (.int .i64 x69.1.2.1), v71, v72]) S trivial (by decide) rfl trivial (q_loadA (cs := [(.int .i64 x69.1.1), (.int .i64 x69.1.2.1), v71, v72]) rfl (isP_bp _) Tryz.isAgg29 Tryz.sizeOf29 (by rintro _ rfl; exact (fun j u hu => boxAt (i := 8) H rfl hu))) (fun a S => ?_)
          obtain ⟨x183, e184, hm⟩ := bind_some hm
          refine lx_call (xs := [.tmp 79, .tmp 80]) S trivial (by decide) rfl rfl Tryz.call9 ((laws_eqLts_ok ⟨[(.int .i64 x170.1.1), (.int .i64 x170.1.2.1), v172, v173], rfl, ⟨[(.int .i64 x170.1.1)], [(.int .i64 x170.1.2.1), v172, v173], rfl, rfl, ⟨[(.int .i64 x170.1.2.1)], [v172, v173], rfl, rfl, ⟨[v172], [v173], rfl, ((H.rdAt 1 rfl)).list_rd, ((H.rdAt 2 rfl)).list_rd⟩⟩⟩⟩ ⟨[(.int .i64 x69.1.1), (.int .i64 x69.1.2.1), v71, v72], rfl, ⟨[(.int .i64 x69.1.1)], [(.int .i64 x69.1.2.1), v71, v72], rfl, rfl, ⟨[(.int .i64 x69.1.2.1)], [v71, v72], rfl, rfl, ⟨[v71], [v72], rfl, ((H.rdAt 9 rfl)).list_rd, ((H.rdAt 10 rfl)).list_rd⟩⟩⟩⟩ e184).mono ?_)
          rintro e w181 ⟨rfl, Hc182⟩
          have H := H.call0 Hc182
          refine ⟨_, rfl, trivial, fun a S => ?_⟩
          refine lq (.bool (!x183)) S (q_not rfl) fun a S => ?_
          refine lq (.bool (!x183)) S (q_move rfl) fun a S => ?_
          obtain ⟨t186, e187, hm⟩ := bind_some hm
          refine lx_cut 4 (fun a w => Slots a 96 [(7, (bp b102)), (10, (.int .i64 x150.1)), (87, (.bool t186))] ∧ Heap w0 [oA (rList rStr) v97 x150.2.1, oA (rList Rimpl_Edge) v98 x150.2.2, bA b102 [(.int .i64 x95.1.1), (.int .i64 x95.1.2.1), v97, v98] 29] w) ?_ ?_
          ·by_cases hc188 : (!x183) = true
           ·have hm := ite_t hc188 e187
            refine lx_skip S rfl rfl (isB_ne hc188) (by decide) (fun a S => ?_)
            refine lx_skip S rfl rfl (isB_ne hc188) (by decide) (fun a S => ?_)
            refine lx_skip S rfl rfl (isB_ne hc188) (by decide) (fun a S => ?_)
            refine lq (.bool true) S (q_pickT' rfl hc188 rfl) fun a S => ?_
            refine lx_nil ?_
            obtain rfl := Option.some.inj hm
            have H := H.sel [5, 6, 7] (by decide)
            exact ⟨S.sub ⟨rfl, rfl, rfl, trivial⟩, H⟩
           ·have hm := ite_f (eq_false_of_ne_true hc188) e187
            have hc188 : (!x183) = false := eq_false_of_ne_true hc188
            refine lx_q (.int .i64 x170.2) S (want_b rfl rfl hc188) (by decide) (q_move rfl) (fun a S => ?_)
            refine lx_q (.int .i64 x69.2) S (want_b rfl rfl hc188) (by decide) (q_move rfl) (fun a S => ?_)
            refine lx_q (.bool (x170.2 != x69.2)) S (want_b rfl rfl hc188) (by decide) (q_neq rfl rfl) (fun a S => ?_)
            refine lq (.bool (x170.2 != x69.2)) S (q_pickF' rfl hc188 rfl) fun a S => ?_
            refine lx_nil ?_
            obtain rfl := Option.some.inj hm
            have H := H.sel [5, 6, 7] (by decide)
            exact ⟨S.sub ⟨rfl, rfl, rfl, trivial⟩, H⟩
          ·rintro a w ⟨S, H⟩
           refine lx_nil (thenN ?_)
           refine cond_b S rfl (fun hc189 => ?_) (fun hc189 => ?_)
           ·have hm := ite_t hc189 hm
            refine wp_seq (region_plain ?_)
            refine lq (.bool false) S (q_assign rfl) fun a S => ?_
            refine lx_nil (thenN ?_)
            refine wp_ret (then_ret ?_)
            obtain rfl := Option.some.inj hm
            have H : Heap w0 [] w := H.sel [] (by decide)
            exact leave1 S rfl rfl ⟨rfl, H⟩
           ·have hm := ite_f hc189 hm
            refine wp_skip (thenN ?_)
            refine wp_seq (region_plain ?_)
            refine lq (.int .i64 (1 : Int)) S (q_assign rfl) fun a S => ?_
            refine lx_nil (thenN ?_)
            refine wp_seq (region_plain ?_)
            refine lx_e (.agg #[(.int .i64 x95.1.1), (.int .i64 x95.1.2.1), v97, v98]) S trivial (by decide) rfl trivial (q_loadA (cs := [(.int .i64 x95.1.1), (.int .i64 x95.1.2.1), v97, v98]) rfl (isP_bp _) Tryz.isAgg29 Tryz.sizeOf29 (by rintro _ rfl; exact (fun j u hu => boxAt (i := 2) H rfl hu))) (fun a S => ?_)
            refine lq (.int .i64 (1 : Int)) S (q_move rfl) fun a S => ?_
            obtain ⟨x192, e193, hm⟩ := bind_some hm
            refine lx_call (xs := [.tmp 88, .tmp 89]) S trivial (by decide) rfl rfl Tryz.call11 ((laws_heldLts_ok (a0 := (x95.1.1, x95.1.2.1, x150.2.1, x150.2.2)) ⟨[(.int .i64 x95.1.1), (.int .i64 x95.1.2.1), v97, v98], rfl, ⟨[(.int .i64 x95.1.1)], [(.int .i64 x95.1.2.1), v97, v98], rfl, rfl, ⟨[(.int .i64 x95.1.2.1)], [v97, v98], rfl, rfl, ⟨[v97], [v98], rfl, ((H.rdAt 0 rfl)).list_rd, ((H.rdAt 1 rfl)).list_rd⟩⟩⟩⟩  e193).mono ?_)
            rintro e w190 ⟨rfl, Hc191⟩
            have H := H.call0 Hc191
            refine ⟨_, rfl, trivial, fun a S => ?_⟩
            refine lq (.int .i64 x192) S (q_assign rfl) fun a S => ?_
            refine lx_nil (thenN ?_)
            refine wp_seq (wp_seq (region_plain ?_))
            refine lq (.int .i64 x192) S (q_move rfl) fun a S => ?_
            refine lq (.bool (decide (x192 < (0 : Int)))) S (q_lss rfl rfl) fun a S => ?_
            refine lx_nil (thenN ?_)
            refine cond_b S rfl (fun hc195 => ?_) (fun hc195 => ?_)
            ·have hm := ite_t hc195 hm
             refine wp_seq (region_plain ?_)
             refine lq (.bool false) S (q_assign rfl) fun a S => ?_
             refine lx_nil (thenN ?_)
             refine wp_ret (then_ret ?_)
             obtain rfl := Option.some.inj hm
             have H : Heap w0 [] w190 := H.sel [] (by decide)
             exact leave1 S rfl rfl ⟨rfl, H⟩
            ·have hm := ite_f hc195 hm
             refine wp_skip (thenN ?_)
             refine wp_seq (wp_seq (region_plain ?_))
             refine lq (.int .i64 x192) S (q_move rfl) fun a S => ?_
             refine lq (.int .i64 x150.1) S (q_move rfl) fun a S => ?_
             refine lq (.bool (x192 != x150.1)) S (q_neq rfl rfl) fun a S => ?_
             refine lx_nil (thenN ?_)
             refine cond_b S rfl (fun hc196 => ?_) (fun hc196 => ?_)
             ·have hm := ite_t hc196 hm
              refine wp_seq (region_plain ?_)
              refine lq (.bool false) S (q_assign rfl) fun a S => ?_
              refine lx_nil (thenN ?_)
              refine wp_ret (then_ret ?_)
              obtain rfl := Option.some.inj hm
              have H : Heap w0 [] w190 := H.sel [] (by decide)
              exact leave1 S rfl rfl ⟨rfl, H⟩
             ·have hm := ite_f hc196 hm
              refine wp_skip (thenN ?_)
              refine wp_seq (region_plain ?_)
              refine lq (.bool true) S (q_assign rfl) fun a S => ?_
              refine lx_nil (thenN ?_)
              refine wp_ret ?_
              obtain rfl := Option.some.inj hm
              have H : Heap w0 [] w190 := H.sel [] (by decide)
              exact leave1 S rfl rfl ⟨rfl, H⟩
end Go.Proofs.YtelpejcnlekaoaaGreatDoor
