/- The model of a statement and its walk (printed by a program of this repo). -/
import Derived.Test.YtmiebbfdkfofhaaGreatDoorF0
import Derived.Test.YtmiebbfdkfofhaaGreatDoorF1
import Derived.Test.YtmiebbfdkfofhaaGreatDoorF2
import Derived.Test.YtmiebbfdkfofhaaGreatDoorF3
import Derived.Test.YtmiebbfdkfofhaaGreatDoorF4
import Derived.Test.YtmiebbfdkfofhaaGreatDoorFS
import Derived.Test.YtmiebbfdkfofhaaGreatDoorGxT
import Derived.Test.YtmiebbfdkfofhaaGreatDoorGxY
namespace Go.Proofs.YtmiebbfdkfofhaaGreatDoor
open Go.RowKit Go.Gx

/-- spec.l02Close -/
def spec_l02Close_m (fuel : Nat) (a0 : Int) (a1 : (List Bool)) : Option ((List Bool)) :=
  (iter (fun (s : (List Bool) × (Int)) => (match s with | (xs37, x38) => (if (decide (x38 < a0)) = true then (idx xs37 (W ((W (x38 * a0)) + x38))).bind fun _ => some (.inl ((xs37.set (W ((W (x38 * a0)) + x38)).toNat true), (W (x38 + (1 : Int))))) else some (.inr (.inl (xs37)))) : Option (((List Bool) × (Int)) ⊕ (((List Bool)) ⊕ ((List Bool)))))) fuel (a1, (0 : Int))).bind fun res46 => ctl (β := (List Bool)) (ρ := (List Bool)) (τ := (List Bool)) res46 (fun (xs45) => (iter (fun (s : (List Bool) × (Int)) => (match s with | (xs261, x262) => (if (decide (x262 < a0)) = true then (iter (fun (s : (List Bool) × (Int)) => (match s with | (xs549, x550) => (if (decide (x550 < a0)) = true then join (κ := List Bool → Option (((List Bool) × (Int)) ⊕ (((List Bool)) ⊕ ((List Bool))))) (fun (xs627 : List Bool) => some (.inl (xs627, (W (x550 + (1 : Int)))))) (fun K628 => (idx xs549 (W ((W (x550 * a0)) + x262))).bind fun x630 => (if (!x630) = true then (K628 xs549) else (iter (fun (s : (List Bool) × (Int)) => (match s with | (xs651, x652) => (if (decide (x652 < a0)) = true then join (κ := List Bool → Option (((List Bool) × (Int)) ⊕ (((List Bool)) ⊕ ((List Bool))))) (fun (xs678 : List Bool) => some (.inl (xs678, (W (x652 + (1 : Int)))))) (fun K679 => (idx xs651 (W ((W (x262 * a0)) + x652))).bind fun x681 => (if x681 = true then (idx xs651 (W ((W (x550 * a0)) + x652))).bind fun _ => (K679 (xs651.set (W ((W (x550 * a0)) + x652)).toNat true)) else (K679 xs651))) else some (.inr (.inl (xs651)))) : Option (((List Bool) × (Int)) ⊕ (((List Bool)) ⊕ ((List Bool)))))) fuel (xs549, (0 : Int))).bind fun res669 => ctl (β := (List Bool)) (ρ := (List Bool)) (τ := (((List Bool) × (Int)) ⊕ (((List Bool)) ⊕ ((List Bool))))) res669 (fun (xs668) => (K628 xs668)) (fun q => some (.inr (.inr q))))) else some (.inr (.inl (xs549)))) : Option (((List Bool) × (Int)) ⊕ (((List Bool)) ⊕ ((List Bool)))))) fuel (xs261, (0 : Int))).bind fun res618 => ctl (β := (List Bool)) (ρ := (List Bool)) (τ := (((List Bool) × (Int)) ⊕ (((List Bool)) ⊕ ((List Bool))))) res618 (fun (xs617) => some (.inl (xs617, (W (x262 + (1 : Int)))))) (fun q => some (.inr (.inr q))) else some (.inr (.inl (xs261)))) : Option (((List Bool) × (Int)) ⊕ (((List Bool)) ⊕ ((List Bool)))))) fuel (xs45, (0 : Int))).bind fun res474 => ctl (β := (List Bool)) (ρ := (List Bool)) (τ := (List Bool)) res474 (fun (xs473) => some (xs473)) (fun q => some (q))) (fun q => some (q))
set_option maxRecDepth 20000 in
theorem spec_l02Close_ok {w0 : World} {fuel : Nat} {p1 : Value} {a0 : Int} {a1 : (List Bool)} {w00 : World} {L : List Asrt} {r : (List Bool)} (H : Heap w00 (oA (rList rBool) p1 a1 :: L) w0) (hm : spec_l02Close_m fuel a0 a1 = some r) :
  Calls Tryz.prog 55 #[.int .i64 a0, p1] w0 fun e w => e = .returned (.tuple #[]) ∧ Heap w00 (oA (rList rBool) p1 r :: L) w := by
 unfold spec_l02Close_m at hm
 refine enter (args := [.int .i64 a0, p1]) Tryz.func55 rfl 59 rfl (Nat.le_of_ble_eq_true rfl) (fun a S => ?_)
 refine wp_seq (wp_seq (region_plain ?_))
 refine lq (.int .i64 (0 : Int)) S (q_assign rfl) fun a S => ?_
 refine lx_nil (thenN ?_)
 obtain ⟨res46, hit47, hk50⟩ := bind_some hm
 obtain ⟨f48, hf49, hit47⟩ := iter_name hit47
 refine block_loop (fun a w => ∃ (xs45 : List Bool), Slots a 59 [(0, (.int .i64 a0)), (1, p1)] ∧ Heap w00 (oA (rList rBool) p1 xs45 :: L) w ∧ res46 = .inl (xs45)) ?_ ?_
 ·rintro a w ⟨xs45, S, H, rfl⟩
  have hm := ctl_inl hk50
  refine thenN ?_
  refine wp_seq (region_plain ?_)
  refine lq (.int .i64 (0 : Int)) S (q_assign rfl) fun a S => ?_
  refine lx_nil (thenN ?_)
  obtain ⟨res474, hit475, hk478⟩ := bind_some hm
  obtain ⟨f476, hf477, hit475⟩ := iter_name hit475
  refine block_loop (fun a w => ∃ (xs473 : List Bool), Slots a 59 [] ∧ Heap w00 (oA (rList rBool) p1 xs473 :: L) w ∧ res474 = .inl (xs473)) ?_ ?_
  ·rintro a w ⟨xs473, S, H, rfl⟩
   have hm := ctl_inl hk478
   obtain rfl := Option.some.inj hm
   exact leave0n S rfl ⟨rfl, H⟩
  ·skip
   refine loop_ghost (fun n a w => ∃ (xs261 : List Bool) (x262 : Int), Slots a 59 [(0, (.int .i64 a0)), (1, p1), (5, (.int .i64 x262))] ∧ Heap w00 (oA (rList rBool) p1 xs261 :: L) w ∧ iter f476 n (xs261, x262) = some res474) _ ⟨xs45, (0 : Int), S.sub ⟨rfl, rfl, rfl, trivial⟩, H, hit475⟩ ?_
   rintro n a w ⟨xs261, x262, S, H, hit475⟩
   obtain ⟨m479, o480, rfl, hm, hc481⟩ := iter_step hit475
   rw [hf477] at hm
   refine wp_seq (wp_seq (region_plain ?_))
   refine lq (.int .i64 x262) S (q_move rfl) fun a S => ?_
   refine lq (.int .i64 a0) S (q_move rfl) fun a S => ?_
   refine lq (.bool (decide (x262 < a0))) S (q_lss rfl rfl) fun a S => ?_
   refine lx_nil (thenN ?_)
   refine cond_b S rfl (fun hc482 => ?_) (fun hc482 => ?_)
   ·have hm := ite_t hc482 hm
    refine wp_skip (thenN ?_)
    refine wp_seq ?_
    refine wp_block ?_
    refine wp_seq (region_plain ?_)
    refine lq (.int .i64 (0 : Int)) S (q_assign rfl) fun a S => ?_
    refine lx_nil (thenN ?_)
    obtain ⟨res618, hit619, hk622⟩ := bind_some hm
    obtain ⟨f620, hf621, hit619⟩ := iter_name hit619
    refine block_loop (fun a w => ∃ (xs617 : List Bool), Slots a 59 [(0, (.int .i64 a0)), (1, p1), (5, (.int .i64 x262))] ∧ Heap w00 (oA (rList rBool) p1 xs617 :: L) w ∧ res618 = .inl (xs617)) ?_ ?_
    ·rintro a w ⟨xs617, S, H, rfl⟩
     have hm := ctl_inl hk622
     refine inBlock_norm ?_
     refine thenN ?_
     refine region_plain ?_
     refine lq (.int .i64 x262) S (q_move rfl) fun a S => ?_
     refine lq (.int .i64 (W (x262 + (1 : Int)))) S (q_add rfl rfl) fun a S => ?_
     refine lq (.int .i64 (W (x262 + (1 : Int)))) S (q_assign rfl) fun a S => ?_
     refine lx_nil ?_
     exact ⟨m479, Nat.lt_succ_self _, xs617, (W (x262 + (1 : Int))), S.sub ⟨rfl, rfl, rfl, trivial⟩, H, it_cont hm hc481⟩
    ·skip
     refine loop_ghost (fun n a w => ∃ (xs549 : List Bool) (x550 : Int), Slots a 59 [(0, (.int .i64 a0)), (1, p1), (5, (.int .i64 x262)), (6, (.int .i64 x550))] ∧ Heap w00 (oA (rList rBool) p1 xs549 :: L) w ∧ iter f620 n (xs549, x550) = some res618) _ ⟨xs261, (0 : Int), S.sub ⟨rfl, rfl, rfl, rfl, trivial⟩, H, hit619⟩ ?_
     rintro n a w ⟨xs549, x550, S, H, hit619⟩
     obtain ⟨m623, o624, rfl, hm, hc625⟩ := iter_step hit619
     rw [hf621] at hm
     refine wp_seq (wp_seq (region_plain ?_))
     refine lq (.int .i64 x550) S (q_move rfl) fun a S => ?_
     refine lq (.int .i64 a0) S (q_move rfl) fun a S => ?_
     refine lq (.bool (decide (x550 < a0))) S (q_lss rfl rfl) fun a S => ?_
     refine lx_nil (thenN ?_)
     refine cond_b S rfl (fun hc626 => ?_) (fun hc626 => ?_)
     ·have hm := ite_t hc626 hm
      refine wp_skip (thenN ?_)
      obtain ⟨K628, hK629, hm⟩ := join_elim hm
      refine seq_cut (fun a w => ∃ (xs627 : List Bool), Slots a 59 [(0, (.int .i64 a0)), (1, p1), (5, (.int .i64 x262)), (6, (.int .i64 x550))] ∧ Heap w00 (oA (rList rBool) p1 xs627 :: L) w ∧ K628 xs627 = some o624) ?_ ?_
      ·rintro a w ⟨xs627, S, H, hm⟩
       subst hK629
       refine region_plain ?_
       refine lq (.int .i64 x550) S (q_move rfl) fun a S => ?_
       refine lq (.int .i64 (W (x550 + (1 : Int)))) S (q_add rfl rfl) fun a S => ?_
       refine lq (.int .i64 (W (x550 + (1 : Int)))) S (q_assign rfl) fun a S => ?_
       refine lx_nil ?_
       exact ⟨m623, Nat.lt_succ_self _, xs627, (W (x550 + (1 : Int))), S.sub ⟨rfl, rfl, rfl, rfl, trivial⟩, H, it_cont hm hc625⟩
      ·skip
       refine wp_block ?_
       refine wp_seq (wp_seq (region_plain ?_))
       refine lq p1 S (q_move rfl) fun a S => ?_
       refine lq (.int .i64 x550) S (q_move rfl) fun a S => ?_
       refine lq (.int .i64 a0) S (q_move rfl) fun a S => ?_
       refine lq (.int .i64 (W (x550 * a0))) S (q_mul rfl rfl) fun a S => ?_
       refine lq (.int .i64 x262) S (q_move rfl) fun a S => ?_
       refine lq (.int .i64 (W ((W (x550 * a0)) + x262))) S (q_add rfl rfl) fun a S => ?_
       obtain ⟨x630, e631, hm⟩ := bind_some hm
       have hlt := lt_of_idx (idx_some e631).2
       refine lq (ePtr p1 ((W ((W (x550 * a0)) + x262)).toNat * 1)) S (q_indexAddr rfl (H.isSl 0 rfl) rfl (idx_some e631).1 hlt Tryz.underlying60 Tryz.sizeOf4) fun a S => ?_
       obtain ⟨c632, h633, hat634⟩ := (H.rdAt 0 rfl).elem (idx_some e631).2
       obtain rfl := h633
       refine lx_e (.bool x630) S trivial (by decide) rfl trivial (q_load1 rfl Tryz.isAgg4 (by rintro _ rfl; exact (hat634 0 _ rfl))) (fun a S => ?_)
       refine lq (.bool (!x630)) S (q_not rfl) fun a S => ?_
       refine lx_nil (thenN ?_)
       refine cond_b S rfl (fun hc635 => ?_) (fun hc635 => ?_)
       ·have hm := ite_t hc635 hm
        refine wp_exit ?_
        refine then_exit ?_
        refine inBlock_exit ?_
        exact ⟨xs549, S.sub ⟨rfl, rfl, rfl, rfl, trivial⟩, H, hm⟩
       ·have hm := ite_f hc635 hm
        refine wp_skip (thenN ?_)
        refine wp_seq (region_plain ?_)
        refine lq (.int .i64 (0 : Int)) S (q_assign rfl) fun a S => ?_
        refine lx_nil (thenN ?_)
        obtain ⟨res669, hit670, hk673⟩ := bind_some hm
        obtain ⟨f671, hf672, hit670⟩ := iter_name hit670
        refine block_loop (fun a w => ∃ (xs668 : List Bool), Slots a 59 [(0, (.int .i64 a0)), (1, p1), (5, (.int .i64 x262)), (6, (.int .i64 x550))] ∧ Heap w00 (oA (rList rBool) p1 xs668 :: L) w ∧ res669 = .inl (xs668)) ?_ ?_
        ·rintro a w ⟨xs668, S, H, rfl⟩
         have hm := ctl_inl hk673
         refine inBlock_norm ?_
         exact ⟨xs668, S.sub ⟨rfl, rfl, rfl, rfl, trivial⟩, H, hm⟩
        ·skip
         refine loop_ghost (fun n a w => ∃ (xs651 : List Bool) (x652 : Int), Slots a 59 [(0, (.int .i64 a0)), (1, p1), (5, (.int .i64 x262)), (6, (.int .i64 x550)), (7, (.int .i64 x652))] ∧ Heap w00 (oA (rList rBool) p1 xs651 :: L) w ∧ iter f671 n (xs651, x652) = some res669) _ ⟨xs549, (0 : Int), S.sub ⟨rfl, rfl, rfl, rfl, rfl, trivial⟩, H, hit670⟩ ?_
         rintro n a w ⟨xs651, x652, S, H, hit670⟩
         obtain ⟨m674, o675, rfl, hm, hc676⟩ := iter_step hit670
         rw [hf672] at hm
         refine wp_seq (wp_seq (region_plain ?_))
         refine lq (.int .i64 x652) S (q_move rfl) fun a S => ?_
         refine lq (.int .i64 a0) S (q_move rfl) fun a S => ?_
         refine lq (.bool (decide (x652 < a0))) S (q_lss rfl rfl) fun a S => ?_
         refine lx_nil (thenN ?_)
         refine cond_b S rfl (fun hc677 => ?_) (fun hc677 => ?_)
         ·have hm := ite_t hc677 hm
          refine wp_skip (thenN ?_)
          obtain ⟨K679, hK680, hm⟩ := join_elim hm
          refine seq_cut (fun a w => ∃ (xs678 : List Bool), Slots a 59 [(0, (.int .i64 a0)), (1, p1), (5, (.int .i64 x262)), (6, (.int .i64 x550)), (7, (.int .i64 x652))] ∧ Heap w00 (oA (rList rBool) p1 xs678 :: L) w ∧ K679 xs678 = some o675) ?_ ?_
          ·rintro a w ⟨xs678, S, H, hm⟩
           subst hK680
           refine region_plain ?_
           refine lq (.int .i64 x652) S (q_move rfl) fun a S => ?_
           refine lq (.int .i64 (W (x652 + (1 : Int)))) S (q_add rfl rfl) fun a S => ?_
           refine lq (.int .i64 (W (x652 + (1 : Int)))) S (q_assign rfl) fun a S => ?_
           refine lx_nil ?_
           exact ⟨m674, Nat.lt_succ_self _, xs678, (W (x652 + (1 : Int))), S.sub ⟨rfl, rfl, rfl, rfl, rfl, trivial⟩, H, it_cont hm hc676⟩
          ·skip
           refine wp_block ?_
           refine wp_seq (region_plain ?_)
           refine lq p1 S (q_move rfl) fun a S => ?_
           refine lq (.int .i64 x262) S (q_move rfl) fun a S => ?_
           refine lq (.int .i64 a0) S (q_move rfl) fun a S => ?_
           refine lq (.int .i64 (W (x262 * a0))) S (q_mul rfl rfl) fun a S => ?_
           refine lq (.int .i64 x652) S (q_move rfl) fun a S => ?_
           refine lq (.int .i64 (W ((W (x262 * a0)) + x652))) S (q_add rfl rfl) fun a S => ?_
           obtain ⟨x681, e682, hm⟩ := bind_some hm
           have hlt := lt_of_idx (idx_some e682).2
           refine lq (ePtr p1 ((W ((W (x262 * a0)) + x652)).toNat * 1)) S (q_indexAddr rfl (H.isSl 0 rfl) rfl (idx_some e682).1 hlt Tryz.underlying60 Tryz.sizeOf4) fun a S => ?_
           obtain ⟨c683, h684, hat685⟩ := (H.rdAt 0 rfl).elem (idx_some e682).2
           obtain rfl := h684
           refine lx_e (.bool x681) S trivial (by decide) rfl trivial (q_load1 rfl Tryz.isAgg4 (by rintro _ rfl; exact (hat685 0 _ rfl))) (fun a S => ?_)
           refine lx_nil (thenN ?_)
           refine cond_b S rfl (fun hc686 => ?_) (fun hc686 => ?_)
           ·have hm := ite_t hc686 hm
            refine region_plain ?_
            refine lq p1 S (q_move rfl) fun a S => ?_
            refine lq (.int .i64 x550) S (q_move rfl) fun a S => ?_
            refine lq (.int .i64 a0) S (q_move rfl) fun a S => ?_
            refine lq (.int .i64 (W (x550 * a0))) S (q_mul rfl rfl) fun a S => ?_
            refine lq (.int .i64 x652) S (q_move rfl) fun a S => ?_
            refine lq (.int .i64 (W ((W (x550 * a0)) + x652))) S (q_add rfl rfl) fun a S => ?_
            obtain ⟨x687, e688, hm⟩ := bind_some hm
            have hlt := lt_of_idx (idx_some e688).2
            refine lq (ePtr p1 ((W ((W (x550 * a0)) + x652)).toNat * 1)) S (q_indexAddr rfl (H.isSl 0 rfl) rfl (idx_some e688).1 hlt Tryz.underlying60 Tryz.sizeOf4) fun a S => ?_
            refine lx_storeElem (r := rBool) (us := [(.bool true)]) (off := 0) (e' := true) S trivial rfl H.putE (ev_zero rfl) rfl (idx_some e688).2 rfl Tryz.sizeOf4 (Nat.le_of_ble_eq_true rfl) (List.forall_mem_cons.2 ⟨rfl, (fun _ h => nomatch h)⟩) (Upd.full rfl (fun w G hG => by cases (show G = [] from hG); exact ⟨rfl, rfl⟩)) (fun w689 H => ⟨trivial, fun a S => ?_⟩)
            refine lx_nil ?_
            refine inBlock_norm ?_
            exact ⟨(xs651.set (W ((W (x550 * a0)) + x652)).toNat true), S.sub ⟨rfl, rfl, rfl, rfl, rfl, trivial⟩, H, hm⟩
           ·have hm := ite_f hc686 hm
            refine wp_skip ?_
            refine inBlock_norm ?_
            exact ⟨xs651, S.sub ⟨rfl, rfl, rfl, rfl, rfl, trivial⟩, H, hm⟩
         ·have hm := ite_f hc677 hm
          refine wp_exit ?_
          refine then_exit ?_
          refine then_exit ?_
          refine inBlock_exit ?_
          obtain rfl := it_brk hm hc676
          exact ⟨xs651, S.sub ⟨rfl, rfl, rfl, rfl, trivial⟩, H, rfl⟩
     ·have hm := ite_f hc626 hm
      refine wp_exit ?_
      refine then_exit ?_
      refine then_exit ?_
      refine inBlock_exit ?_
      obtain rfl := it_brk hm hc625
      exact ⟨xs549, S.sub ⟨rfl, rfl, rfl, trivial⟩, H, rfl⟩
   ·have hm := ite_f hc482 hm
    refine wp_exit ?_
    refine then_exit ?_
    refine then_exit ?_
    refine inBlock_exit ?_
    obtain rfl := it_brk hm hc481
    exact ⟨xs261, S.sub trivial, H, rfl⟩
 ·skip
  refine loop_ghost (fun n a w => ∃ (xs37 : List Bool) (x38 : Int), Slots a 59 [(0, (.int .i64 a0)), (1, p1), (4, (.int .i64 x38))] ∧ Heap w00 (oA (rList rBool) p1 xs37 :: L) w ∧ iter f48 n (xs37, x38) = some res46) _ ⟨a1, (0 : Int), S.sub ⟨rfl, rfl, rfl, trivial⟩, H, hit47⟩ ?_
  rintro n a w ⟨xs37, x38, S, H, hit47⟩
  obtain ⟨m690, o691, rfl, hm, hc692⟩ := iter_step hit47
  rw [hf49] at hm
  refine wp_seq (wp_seq (region_plain ?_))
  refine lq (.int .i64 x38) S (q_move rfl) fun a S => ?_
  refine lq (.int .i64 a0) S (q_move rfl) fun a S => ?_
  refine lq (.bool (decide (x38 < a0))) S (q_lss rfl rfl) fun a S => ?_
  refine lx_nil (thenN ?_)
  refine cond_b S rfl (fun hc693 => ?_) (fun hc693 => ?_)
  ·have hm := ite_t hc693 hm
   refine wp_skip (thenN ?_)
   refine wp_seq ?_
   refine wp_block ?_
   refine region_plain ?_
   refine lq p1 S (q_move rfl) fun a S => ?_
   refine lq (.int .i64 x38) S (q_move rfl) fun a S => ?_
   refine lq (.int .i64 a0) S (q_move rfl) fun a S => ?_
   refine lq (.int .i64 (W (x38 * a0))) S (q_mul rfl rfl) fun a S => ?_
   refine lq (.int .i64 x38) S (q_move rfl) fun a S => ?_
   refine lq (.int .i64 (W ((W (x38 * a0)) + x38))) S (q_add rfl rfl) fun a S => ?_
   obtain ⟨x694, e695, hm⟩ := bind_some hm
   have hlt := lt_of_idx (idx_some e695).2
   refine lq (ePtr p1 ((W ((W (x38 * a0)) + x38)).toNat * 1)) S (q_indexAddr rfl (H.isSl 0 rfl) rfl (idx_some e695).1 hlt Tryz.underlying60 Tryz.sizeOf4) fun a S => ?_
   refine lx_storeElem (r := rBool) (us := [(.bool true)]) (off := 0) (e' := true) S trivial rfl H.putE (ev_zero rfl) rfl (idx_some e695).2 rfl Tryz.sizeOf4 (Nat.le_of_ble_eq_true rfl) (List.forall_mem_cons.2 ⟨rfl, (fun _ h => nomatch h)⟩) (Upd.full rfl (fun w G hG => by cases (show G = [] from hG); exact ⟨rfl, rfl⟩)) (fun w696 H => ⟨trivial, fun a S => ?_⟩)
   refine lx_nil ?_
   refine inBlock_norm ?_
   refine thenN ?_
   refine region_plain ?_
   refine lq (.int .i64 x38) S (q_move rfl) fun a S => ?_
   refine lq (.int .i64 (W (x38 + (1 : Int)))) S (q_add rfl rfl) fun a S => ?_
   refine lq (.int .i64 (W (x38 + (1 : Int)))) S (q_assign rfl) fun a S => ?_
   refine lx_nil ?_
   exact ⟨m690, Nat.lt_succ_self _, (xs37.set (W ((W (x38 * a0)) + x38)).toNat true), (W (x38 + (1 : Int))), S.sub ⟨rfl, rfl, rfl, trivial⟩, H, it_cont hm hc692⟩
  ·have hm := ite_f hc693 hm
   refine wp_exit ?_
   refine then_exit ?_
   refine then_exit ?_
   refine inBlock_exit ?_
   obtain rfl := it_brk hm hc692
   exact ⟨xs37, S.sub ⟨rfl, rfl, trivial⟩, H, rfl⟩

/-- spec.l16Still -/
def spec_l16Still_m (fuel : Nat) (a0 : Timpl_Lts) : Option ((List Bool)) :=
  (mks (W (a0.1 * a0.1)) false).bind fun x50 => (iter (fun (s : (List Bool) × (Int)) => (match s with | (xs107, x108) => (if (decide (x108 < (a0.2.2.2.length : Int))) = true then join (κ := List Bool → Option (((List Bool) × (Int)) ⊕ (((List Bool)) ⊕ ((List Bool))))) (fun (xs174 : List Bool) => some (.inl (xs174, (W (x108 + (1 : Int)))))) (fun K175 => (idx a0.2.2.2 x108).bind fun x177 => (if (x177.2.1 == (0 : Int)) = true then (idx a0.2.2.2 x108).bind fun x193 => (idx a0.2.2.2 x108).bind fun x206 => (idx xs107 (W ((W (x193.1 * a0.1)) + x206.2.2))).bind fun _ => (K175 (xs107.set (W ((W (x193.1 * a0.1)) + x206.2.2)).toNat true)) else (K175 xs107))) else some (.inr (.inl (xs107)))) : Option (((List Bool) × (Int)) ⊕ (((List Bool)) ⊕ ((List Bool)))))) fuel (x50, (0 : Int))).bind fun res161 => ctl (β := (List Bool)) (ρ := (List Bool)) (τ := (List Bool)) res161 (fun (xs160) => (spec_l02Close_m fuel a0.1 xs160).bind fun x168 => some (x168)) (fun q => some (q))
set_option maxRecDepth 20000 in
theorem spec_l16Still_ok {w0 : World} {fuel : Nat} {p0 : Value} {a0 : Timpl_Lts} {r : (List Bool)} (h0 : Rd (rPtr Rimpl_Lts) w0 p0 a0) (hm : spec_l16Still_m fuel a0 = some r) :
  Calls Tryz.prog 38 #[p0] w0 fun e w => ∃ (v0 : Value), e = .returned (v0) ∧ Heap w0 [oA (rList rBool) v0 r] w := by
 unfold spec_l16Still_m at hm
 have H := Heap.start w0
 obtain ⟨c31, h32, hat33⟩ := h0.ptr
 obtain ⟨c38, c39, rfl, h40, h41⟩ := h32
 obtain rfl := h40
 obtain ⟨c42, c43, rfl, h44, h45⟩ := h41
 obtain rfl := h44
 obtain ⟨c46, c47, rfl, h48, h49⟩ := h45
 obtain ⟨v34, rfl, h35⟩ := rd_list h48
 obtain ⟨v36, rfl, h37⟩ := rd_list h49
 refine enter (args := [p0]) Tryz.func38 rfl 57 rfl (Nat.le_of_ble_eq_true rfl) (fun a S => ?_)
 refine wp_seq (region_plain ?_)
 refine lq (.slice none 0 0) S (q_assign rfl) fun a S => ?_
 refine lx_nil (thenN ?_)
 refine wp_seq (region_plain ?_)
 refine lq p0 S (q_move rfl) fun a S => ?_
 refine lq p0 S (q_nilCheck rfl ((hat33 0 _ rfl).isP)) fun a S => ?_
 refine lq (pAdd p0 0) S (q_fieldAddr' 0 2 rfl ((hat33 0 _ rfl).isP) Tryz.underlying31 rfl Tryz.sizeOf2) fun a S => ?_
 refine lx_e (.int .i64 a0.1) S trivial (by decide) rfl trivial (q_load1 rfl Tryz.isAgg2 (by rintro _ rfl; exact (At.of_add (m := 0) (j := 0) ((hat33 0 _ rfl).ext H.ext)))) (fun a S => ?_)
 refine lq (.int .i64 a0.1) S (q_assign rfl) fun a S => ?_
 refine lx_nil (thenN ?_)
 refine wp_seq (region_plain ?_)
 refine lq (.int .i64 a0.1) S (q_move rfl) fun a S => ?_
 refine lq (.int .i64 a0.1) S (q_move rfl) fun a S => ?_
 refine lq (.int .i64 (W (a0.1 * a0.1))) S (q_mul rfl rfl) fun a S => ?_
 obtain ⟨x50, e51, hm⟩ := bind_some hm
 obtain ⟨m52, hn, hn2, rfl⟩ := mks_some e51
 refine lx_make (r := rBool) (z0 := false) (n := m52) S trivial (by decide) rfl H (by rw [← hn]; rfl) (by rw [← hn]; rfl) Tryz.underlying60 (Tryz.ti4) rfl rfl (by decide) (fun w => ⟨rfl, rfl⟩) hn2 (by decide) (fun v53 w54 H => ⟨trivial, fun a S => ?_⟩)
 refine lq v53 S (q_assign rfl) fun a S => ?_
 refine lx_nil (thenN ?_)
 refine wp_seq (wp_seq (region_plain ?_))
 refine lq (.int .i64 (0 : Int)) S (q_assign rfl) fun a S => ?_
 refine lx_nil (thenN ?_)
 obtain ⟨res161, hit162, hk165⟩ := bind_some hm
 obtain ⟨f163, hf164, hit162⟩ := iter_name hit162
 refine block_loop (fun a w => ∃ (xs160 : List Bool), Slots a 57 [(3, (.int .i64 a0.1)), (4, v53)] ∧ Heap w0 [oA (rList rBool) v53 xs160] w ∧ res161 = .inl (xs160)) ?_ ?_
 ·rintro a w ⟨xs160, S, H, rfl⟩
  have hm := ctl_inl hk165
  refine thenN ?_
  refine wp_seq (region_plain ?_)
  refine lq (.int .i64 a0.1) S (q_move rfl) fun a S => ?_
  refine lq v53 S (q_move rfl) fun a S => ?_
  obtain ⟨x168, e169, hm⟩ := bind_some hm
  refine lx_call (xs := [.tmp 53, .tmp 54]) S trivial (by decide) rfl rfl Tryz.call55 ((spec_l02Close_ok H  e169).mono ?_)
  rintro e w166 ⟨rfl, H⟩
  refine ⟨_, rfl, trivial, fun a S => ?_⟩
  refine lx_nil (thenN ?_)
  refine wp_seq (region_plain ?_)
  refine lq v53 S (q_move rfl) fun a S => ?_
  refine lq v53 S (q_assign rfl) fun a S => ?_
  refine lx_nil (thenN ?_)
  refine wp_ret ?_
  obtain rfl := Option.some.inj hm
  exact leave1 S rfl rfl ⟨v53, rfl, H⟩
 ·skip
  refine loop_ghost (fun n a w => ∃ (xs107 : List Bool) (x108 : Int), Slots a 57 [(0, p0), (3, (.int .i64 a0.1)), (4, v53), (5, (.int .i64 x108))] ∧ Heap w0 [oA (rList rBool) v53 xs107] w ∧ iter f163 n (xs107, x108) = some res161) _ ⟨(List.replicate m52 false), (0 : Int), S.sub ⟨rfl, rfl, rfl, rfl, trivial⟩, H, hit162⟩ ?_
  rintro n a w ⟨xs107, x108, S, H, hit162⟩
  obtain ⟨m170, o171, rfl, hm, hc172⟩ := iter_step hit162
  rw [hf164] at hm
  refine wp_seq (wp_seq (region_plain ?_))
  refine lq (.int .i64 x108) S (q_move rfl) fun a S => ?_
  refine lq p0 S (q_move rfl) fun a S => ?_
  refine lq p0 S (q_nilCheck rfl ((hat33 0 _ rfl).isP)) fun a S => ?_
  refine lq (pAdd p0 3) S (q_fieldAddr' 3 29 rfl ((hat33 0 _ rfl).isP) Tryz.underlying31 rfl Tryz.sizeOf29) fun a S => ?_
  refine lx_e v36 S trivial (by decide) rfl trivial (q_load1 rfl Tryz.isAgg29 (by rintro _ rfl; exact (At.of_add (m := 3) (j := 0) ((hat33 3 _ rfl).ext H.ext)))) (fun a S => ?_)
  refine lq (.int .i64 (a0.2.2.2.length : Int)) S (q_lenSl rfl (h37).isSl rfl Tryz.underlying29) fun a S => ?_
  refine lq (.bool (decide (x108 < (a0.2.2.2.length : Int)))) S (q_lss rfl rfl) fun a S => ?_
  refine lx_nil (thenN ?_)
  refine cond_b S rfl (fun hc173 => ?_) (fun hc173 => ?_)
  ·have hm := ite_t hc173 hm
   refine wp_skip (thenN ?_)
   obtain ⟨K175, hK176, hm⟩ := join_elim hm
   refine seq_cut (fun a w => ∃ (xs174 : List Bool), Slots a 57 [(0, p0), (3, (.int .i64 a0.1)), (4, v53), (5, (.int .i64 x108))] ∧ Heap w0 [oA (rList rBool) v53 xs174] w ∧ K175 xs174 = some o171) ?_ ?_
   ·rintro a w ⟨xs174, S, H, hm⟩
    subst hK176
    refine region_plain ?_
    refine lq (.int .i64 x108) S (q_move rfl) fun a S => ?_
    refine lq (.int .i64 (W (x108 + (1 : Int)))) S (q_add rfl rfl) fun a S => ?_
    refine lq (.int .i64 (W (x108 + (1 : Int)))) S (q_assign rfl) fun a S => ?_
    refine lx_nil ?_
    exact ⟨m170, Nat.lt_succ_self _, xs174, (W (x108 + (1 : Int))), S.sub ⟨rfl, rfl, rfl, rfl, trivial⟩, H, it_cont hm hc172⟩
   ·skip
    refine wp_block ?_
    refine wp_seq (region_plain ?_)
    refine lq p0 S (q_move rfl) fun a S => ?_
    refine lq p0 S (q_nilCheck rfl ((hat33 0 _ rfl).isP)) fun a S => ?_
    refine lq (pAdd p0 3) S (q_fieldAddr' 3 29 rfl ((hat33 0 _ rfl).isP) Tryz.underlying31 rfl Tryz.sizeOf29) fun a S => ?_
    refine lx_e v36 S trivial (by decide) rfl trivial (q_load1 rfl Tryz.isAgg29 (by rintro _ rfl; exact (At.of_add (m := 3) (j := 0) ((hat33 3 _ rfl).ext H.ext)))) (fun a S => ?_)
    refine lq (.int .i64 x108) S (q_move rfl) fun a S => ?_
    obtain ⟨x177, e178, hm⟩ := bind_some hm
    obtain ⟨c179, h180, hat181⟩ := (h37).elem (idx_some e178).2
    obtain ⟨c182, c183, rfl, h184, h185⟩ := h180
    obtain rfl := h184
    obtain ⟨c186, c187, rfl, h188, h189⟩ := h185
    obtain rfl := h188
    obtain rfl := h189
    have hlt := lt_of_idx (idx_some e178).2
    refine lq (ePtr v36 (x108.toNat * 3)) S (q_indexAddr rfl (h37).isSl rfl (idx_some e178).1 hlt Tryz.underlying29 Tryz.sizeOf68) fun a S => ?_
    refine lq (pAdd (ePtr v36 (x108.toNat * 3)) 1) S (q_fieldAddr' 1 2 rfl ((hat181 0 _ rfl).isP) Tryz.underlying68 rfl Tryz.sizeOf2) fun a S => ?_
    refine lx_e (.int .i64 x177.2.1) S trivial (by decide) rfl trivial (q_load1 rfl Tryz.isAgg2 (by rintro _ rfl; exact (At.of_add (m := 1) (j := 0) ((hat181 1 _ rfl).ext H.ext)))) (fun a S => ?_)
    refine lq (.bool (x177.2.1 == (0 : Int))) S (q_eql rfl rfl) fun a S => ?_
    refine lx_nil (thenN ?_)
    refine cond_b S rfl (fun hc190 => ?_) (fun hc190 => ?_)
    ·have hm := ite_t hc190 hm
     refine region_drawG (fun w1 => Heap w0 [] w1) (fun i => [21].contains i) mixed (by kernel_rfl) (fun w192 he191 => ?_)
     have H := H.later he191
     refine ⟨H.sel [] (by decide), ?_⟩
     refine lq v53 S (q_move rfl) fun a S => ?_
     refine lq p0 S (q_move rfl) fun a S => ?_
     refine lq p0 S (q_nilCheck rfl ((hat33 0 _ rfl).isP)) fun a S => ?_
     refine lq (pAdd p0 3) S (q_fieldAddr' 3 29 rfl ((hat33 0 _ rfl).isP) Tryz.underlying31 rfl Tryz.sizeOf29) fun a S => ?_
     refine lq v36 S (q_load1 rfl Tryz.isAgg29 (fun w1 hC => (At.of_add (m := 3) (j := 0) ((hat33 3 _ rfl).ext hC.ext)))) fun a S => ?_
     refine lq (.int .i64 x108) S (q_move rfl) fun a S => ?_
     obtain ⟨x193, e194, hm⟩ := bind_some hm
     obtain ⟨c195, h196, hat197⟩ := (h37).elem (idx_some e194).2
     obtain ⟨c198, c199, rfl, h200, h201⟩ := h196
     obtain rfl := h200
     obtain ⟨c202, c203, rfl, h204, h205⟩ := h201
     obtain rfl := h204
     obtain rfl := h205
     have hlt := lt_of_idx (idx_some e194).2
     refine lq (ePtr v36 (x108.toNat * 3)) S (q_indexAddr rfl (h37).isSl rfl (idx_some e194).1 hlt Tryz.underlying29 Tryz.sizeOf68) fun a S => ?_
     refine lq (pAdd (ePtr v36 (x108.toNat * 3)) 0) S (q_fieldAddr' 0 2 rfl ((hat197 0 _ rfl).isP) Tryz.underlying68 rfl Tryz.sizeOf2) fun a S => ?_
     refine lq (.int .i64 x193.1) S (q_load1 rfl Tryz.isAgg2 (fun w1 hC => (At.of_add (m := 0) (j := 0) ((hat197 0 _ rfl).ext hC.ext)))) fun a S => ?_
     refine lq (.int .i64 a0.1) S (q_move rfl) fun a S => ?_
     refine lq (.int .i64 (W (x193.1 * a0.1))) S (q_mul rfl rfl) fun a S => ?_
     refine lq p0 S (q_move rfl) fun a S => ?_
     refine lq p0 S (q_nilCheck rfl ((hat33 0 _ rfl).isP)) fun a S => ?_
     refine lq (pAdd p0 3) S (q_fieldAddr' 3 29 rfl ((hat33 0 _ rfl).isP) Tryz.underlying31 rfl Tryz.sizeOf29) fun a S => ?_
     refine lq v36 S (q_load1 rfl Tryz.isAgg29 (fun w1 hC => (At.of_add (m := 3) (j := 0) ((hat33 3 _ rfl).ext hC.ext)))) fun a S => ?_
     refine lq (.int .i64 x108) S (q_move rfl) fun a S => ?_
     obtain ⟨x206, e207, hm⟩ := bind_some hm
     obtain ⟨c208, h209, hat210⟩ := (h37).elem (idx_some e207).2
     obtain ⟨c211, c212, rfl, h213, h214⟩ := h209
     obtain rfl := h213
     obtain ⟨c215, c216, rfl, h217, h218⟩ := h214
     obtain rfl := h217
     obtain rfl := h218
     have hlt := lt_of_idx (idx_some e207).2
     refine lq (ePtr v36 (x108.toNat * 3)) S (q_indexAddr rfl (h37).isSl rfl (idx_some e207).1 hlt Tryz.underlying29 Tryz.sizeOf68) fun a S => ?_
     refine lq (pAdd (ePtr v36 (x108.toNat * 3)) 2) S (q_fieldAddr' 2 2 rfl ((hat210 0 _ rfl).isP) Tryz.underlying68 rfl Tryz.sizeOf2) fun a S => ?_
     refine lq (.int .i64 x206.2.2) S (q_load1 rfl Tryz.isAgg2 (fun w1 hC => (At.of_add (m := 2) (j := 0) ((hat210 2 _ rfl).ext hC.ext)))) fun a S => ?_
     refine lq (.int .i64 (W ((W (x193.1 * a0.1)) + x206.2.2))) S (q_add rfl rfl) fun a S => ?_
     obtain ⟨x219, e220, hm⟩ := bind_some hm
     have hlt := lt_of_idx (idx_some e220).2
     refine lq (ePtr v53 ((W ((W (x193.1 * a0.1)) + x206.2.2)).toNat * 1)) S (q_indexAddr rfl (H.isSl 0 rfl) rfl (idx_some e220).1 hlt Tryz.underlying60 Tryz.sizeOf4) fun a S => ?_
     refine lx_storeElem (r := rBool) (us := [(.bool true)]) (off := 0) (e' := true) S trivial rfl H.putE (ev_zero rfl) rfl (idx_some e220).2 rfl Tryz.sizeOf4 (Nat.le_of_ble_eq_true rfl) (List.forall_mem_cons.2 ⟨rfl, (fun _ h => nomatch h)⟩) (Upd.full rfl (fun w G hG => by cases (show G = [] from hG); exact ⟨rfl, rfl⟩)) (fun w221 H => ⟨H.sel [] (by decide), fun a S => ?_⟩)
     refine lx_nil ?_
     refine inBlock_norm ?_
     exact ⟨(xs107.set (W ((W (x193.1 * a0.1)) + x206.2.2)).toNat true), S.sub ⟨rfl, rfl, rfl, rfl, trivial⟩, H, hm⟩
    ·have hm := ite_f hc190 hm
     refine wp_skip ?_
     refine inBlock_norm ?_
     exact ⟨xs107, S.sub ⟨rfl, rfl, rfl, rfl, trivial⟩, H, hm⟩
  ·have hm := ite_f hc173 hm
   refine wp_exit ?_
   refine then_exit ?_
   refine then_exit ?_
   refine inBlock_exit ?_
   obtain rfl := it_brk hm hc172
   exact ⟨xs107, S.sub ⟨rfl, rfl, trivial⟩, H, rfl⟩

/-- spec.l16Step -/
def spec_l16Step_m (fuel : Nat) (a0 : Timpl_Lts) (a1 : (List Bool)) (a2 : Int) (a3 : Int) : Option ((List Bool)) :=
  (mks a0.1 false).bind fun x50 => (if (a3 == (0 : Int)) = true then (iter (fun (s : (List Bool) × (Int)) => (match s with | (xs68, x69) => (if (decide (x69 < a0.1)) = true then (idx a1 (W ((W (a2 * a0.1)) + x69))).bind fun x91 => (idx xs68 x69).bind fun _ => some (.inl ((xs68.set x69.toNat x91), (W (x69 + (1 : Int))))) else some (.inr (.inl (xs68)))) : Option (((List Bool) × (Int)) ⊕ (((List Bool)) ⊕ ((List Bool)))))) fuel (x50, (0 : Int))).bind fun res82 => ctl (β := (List Bool)) (ρ := (List Bool)) (τ := (List Bool)) res82 (fun (xs81) => some (xs81)) (fun q => some (q)) else (iter (fun (s : (List Bool) × (Int)) => (match s with | (xs185, x186) => (if (decide (x186 < (a0.2.2.2.length : Int))) = true then join (κ := List Bool → Option (((List Bool) × (Int)) ⊕ (((List Bool)) ⊕ ((List Bool))))) (fun (xs283 : List Bool) => some (.inl (xs283, (W (x186 + (1 : Int)))))) (fun K284 => (idx a0.2.2.2 x186).bind fun x286 => (if (x286.2.1 != a3) = true then some true else (idx a1 (W ((W (a2 * a0.1)) + x286.1))).bind fun x306 => some (!x306)).bind fun t303 => (if t303 = true then (K284 xs185) else (iter (fun (s : (List Bool) × (Int)) => (match s with | (xs327, x328) => (if (decide (x328 < a0.1)) = true then join (κ := List Bool → Option (((List Bool) × (Int)) ⊕ (((List Bool)) ⊕ ((List Bool))))) (fun (xs354 : List Bool) => some (.inl (xs354, (W (x328 + (1 : Int)))))) (fun K355 => (idx a1 (W ((W (x286.2.2 * a0.1)) + x328))).bind fun x357 => (if x357 = true then (idx xs327 x328).bind fun _ => (K355 (xs327.set x328.toNat true)) else (K355 xs327))) else some (.inr (.inl (xs327)))) : Option (((List Bool) × (Int)) ⊕ (((List Bool)) ⊕ ((List Bool)))))) fuel (xs185, (0 : Int))).bind fun res345 => ctl (β := (List Bool)) (ρ := (List Bool)) (τ := (((List Bool) × (Int)) ⊕ (((List Bool)) ⊕ ((List Bool))))) res345 (fun (xs344) => (K284 xs344)) (fun q => some (.inr (.inr q))))) else some (.inr (.inl (xs185)))) : Option (((List Bool) × (Int)) ⊕ (((List Bool)) ⊕ ((List Bool)))))) fuel (x50, (0 : Int))).bind fun res274 => ctl (β := (List Bool)) (ρ := (List Bool)) (τ := (List Bool)) res274 (fun (xs273) => some (xs273)) (fun q => some (q)))
set_option maxRecDepth 20000 in
theorem spec_l16Step_ok {w0 : World} {fuel : Nat} {p0 p1 : Value} {a0 : Timpl_Lts} {a1 : (List Bool)} {a2 : Int} {a3 : Int} {r : (List Bool)} (h0 : Rd (rPtr Rimpl_Lts) w0 p0 a0) (h1 : Rd (rList rBool) w0 p1 a1) (hm : spec_l16Step_m fuel a0 a1 a2 a3 = some r) :
  Calls Tryz.prog 37 #[p0, p1, .int .i64 a2, .int .i64 a3] w0 fun e w => ∃ (v0 : Value), e = .returned (v0) ∧ Heap w0 [oA (rList rBool) v0 r] w := by
 unfold spec_l16Step_m at hm
 have H := Heap.start w0
 obtain ⟨c31, h32, hat33⟩ := h0.ptr
 obtain ⟨c38, c39, rfl, h40, h41⟩ := h32
 obtain rfl := h40
 obtain ⟨c42, c43, rfl, h44, h45⟩ := h41
 obtain rfl := h44
 obtain ⟨c46, c47, rfl, h48, h49⟩ := h45
 obtain ⟨v34, rfl, h35⟩ := rd_list h48
 obtain ⟨v36, rfl, h37⟩ := rd_list h49
 refine enter (args := [p0, p1, .int .i64 a2, .int .i64 a3]) Tryz.func37 rfl 90 rfl (Nat.le_of_ble_eq_true rfl) (fun a S => ?_)
 refine wp_seq (region_plain ?_)
 refine lq (.slice none 0 0) S (q_assign rfl) fun a S => ?_
 refine lx_nil (thenN ?_)
 refine wp_seq (region_plain ?_)
 refine lq p0 S (q_move rfl) fun a S => ?_
 refine lq p0 S (q_nilCheck rfl ((hat33 0 _ rfl).isP)) fun a S => ?_
 refine lq (pAdd p0 0) S (q_fieldAddr' 0 2 rfl ((hat33 0 _ rfl).isP) Tryz.underlying31 rfl Tryz.sizeOf2) fun a S => ?_
 refine lx_e (.int .i64 a0.1) S trivial (by decide) rfl trivial (q_load1 rfl Tryz.isAgg2 (by rintro _ rfl; exact (At.of_add (m := 0) (j := 0) ((hat33 0 _ rfl).ext H.ext)))) (fun a S => ?_)
 refine lq (.int .i64 a0.1) S (q_assign rfl) fun a S => ?_
 refine lx_nil (thenN ?_)
 refine wp_seq (region_plain ?_)
 refine lq (.int .i64 a0.1) S (q_move rfl) fun a S => ?_
 obtain ⟨x50, e51, hm⟩ := bind_some hm
 obtain ⟨m52, hn, hn2, rfl⟩ := mks_some e51
 refine lx_make (r := rBool) (z0 := false) (n := m52) S trivial (by decide) rfl H (by rw [← hn]; rfl) (by rw [← hn]; rfl) Tryz.underlying60 (Tryz.ti4) rfl rfl (by decide) (fun w => ⟨rfl, rfl⟩) hn2 (by decide) (fun v53 w54 H => ⟨trivial, fun a S => ?_⟩)
 refine lq v53 S (q_assign rfl) fun a S => ?_
 refine lx_nil (thenN ?_)
 refine wp_seq (wp_seq (region_plain ?_))
 refine lq (.int .i64 a3) S (q_move rfl) fun a S => ?_
 refine lq (.bool (a3 == (0 : Int))) S (q_eql rfl rfl) fun a S => ?_
 refine lx_nil (thenN ?_)
 refine cond_b S rfl (fun hc56 => ?_) (fun hc56 => ?_)
 ·have hm := ite_t hc56 hm
  refine wp_seq (wp_seq (region_plain ?_))
  refine lq (.int .i64 (0 : Int)) S (q_assign rfl) fun a S => ?_
  refine lx_nil (thenN ?_)
  obtain ⟨res82, hit83, hk86⟩ := bind_some hm
  obtain ⟨f84, hf85, hit83⟩ := iter_name hit83
  refine block_loop (fun a w => ∃ (xs81 : List Bool), Slots a 90 [(10, v53)] ∧ Heap w0 [oA (rList rBool) v53 xs81] w ∧ res82 = .inl (xs81)) ?_ ?_
  ·rintro a w ⟨xs81, S, H, rfl⟩
   have hm := ctl_inl hk86
   refine thenN ?_
   refine wp_seq (region_plain ?_)
   refine lq v53 S (q_move rfl) fun a S => ?_
   refine lq v53 S (q_assign rfl) fun a S => ?_
   refine lx_nil (thenN ?_)
   refine wp_ret (then_ret ?_)
   obtain rfl := Option.some.inj hm
   exact leave1 S rfl rfl ⟨v53, rfl, H⟩
  ·skip
   refine loop_ghost (fun n a w => ∃ (xs68 : List Bool) (x69 : Int), Slots a 90 [(1, p1), (2, (.int .i64 a2)), (9, (.int .i64 a0.1)), (10, v53), (11, (.int .i64 x69))] ∧ Heap w0 [oA (rList rBool) v53 xs68] w ∧ iter f84 n (xs68, x69) = some res82) _ ⟨(List.replicate m52 false), (0 : Int), S.sub ⟨rfl, rfl, rfl, rfl, rfl, trivial⟩, H, hit83⟩ ?_
   rintro n a w ⟨xs68, x69, S, H, hit83⟩
   obtain ⟨m87, o88, rfl, hm, hc89⟩ := iter_step hit83
   rw [hf85] at hm
   refine wp_seq (wp_seq (region_plain ?_))
   refine lq (.int .i64 x69) S (q_move rfl) fun a S => ?_
   refine lq (.int .i64 a0.1) S (q_move rfl) fun a S => ?_
   refine lq (.bool (decide (x69 < a0.1))) S (q_lss rfl rfl) fun a S => ?_
   refine lx_nil (thenN ?_)
   refine cond_b S rfl (fun hc90 => ?_) (fun hc90 => ?_)
   ·have hm := ite_t hc90 hm
    refine wp_skip (thenN ?_)
    refine wp_seq ?_
    refine wp_block ?_
    refine region_plain ?_
    refine lq v53 S (q_move rfl) fun a S => ?_
    refine lq (.int .i64 x69) S (q_move rfl) fun a S => ?_
    refine lq p1 S (q_move rfl) fun a S => ?_
    refine lq (.int .i64 a2) S (q_move rfl) fun a S => ?_
    refine lq (.int .i64 a0.1) S (q_move rfl) fun a S => ?_
    refine lq (.int .i64 (W (a2 * a0.1))) S (q_mul rfl rfl) fun a S => ?_
    refine lq (.int .i64 x69) S (q_move rfl) fun a S => ?_
    refine lq (.int .i64 (W ((W (a2 * a0.1)) + x69))) S (q_add rfl rfl) fun a S => ?_
    obtain ⟨x91, e92, hm⟩ := bind_some hm
    obtain ⟨c93, h94, hat95⟩ := (h1).elem (idx_some e92).2
    obtain rfl := h94
    have hlt := lt_of_idx (idx_some e92).2
    refine lq (ePtr p1 ((W ((W (a2 * a0.1)) + x69)).toNat * 1)) S (q_indexAddr rfl (h1).isSl rfl (idx_some e92).1 hlt Tryz.underlying60 Tryz.sizeOf4) fun a S => ?_
    refine lx_e (.bool x91) S trivial (by decide) rfl trivial (q_load1 rfl Tryz.isAgg4 (by rintro _ rfl; exact ((hat95 0 _ rfl).ext H.ext))) (fun a S => ?_)
    obtain ⟨x96, e97, hm⟩ := bind_some hm
    have hlt := lt_of_idx (idx_some e97).2
    refine lq (ePtr v53 (x69.toNat * 1)) S (q_indexAddr rfl (H.isSl 0 rfl) rfl (idx_some e97).1 hlt Tryz.underlying60 Tryz.sizeOf4) fun a S => ?_
    refine lx_storeElem (r := rBool) (us := [(.bool x91)]) (off := 0) (e' := x91) S trivial rfl H.putE (ev_zero rfl) rfl (idx_some e97).2 rfl Tryz.sizeOf4 (Nat.le_of_ble_eq_true rfl) (List.forall_mem_cons.2 ⟨rfl, (fun _ h => nomatch h)⟩) (Upd.full rfl (fun w G hG => by cases (show G = [] from hG); exact ⟨rfl, rfl⟩)) (fun w98 H => ⟨trivial, fun a S => ?_⟩)
    refine lx_nil ?_
    refine inBlock_norm ?_
    refine thenN ?_
    refine region_plain ?_
    refine lq (.int .i64 x69) S (q_move rfl) fun a S => ?_
    refine lq (.int .i64 (W (x69 + (1 : Int)))) S (q_add rfl rfl) fun a S => ?_
    refine lq (.int .i64 (W (x69 + (1 : Int)))) S (q_assign rfl) fun a S => ?_
    refine lx_nil ?_
    exact ⟨m87, Nat.lt_succ_self _, (xs68.set x69.toNat x91), (W (x69 + (1 : Int))), S.sub ⟨rfl, rfl, rfl, rfl, rfl, trivial⟩, H, it_cont hm hc89⟩
   ·have hm := ite_f hc90 hm
    refine wp_exit ?_
    refine then_exit ?_
    refine then_exit ?_
    refine inBlock_exit ?_
    obtain rfl := it_brk hm hc89
    exact ⟨xs68, S.sub ⟨rfl, trivial⟩, H, rfl⟩
 ·have hm := ite_f hc56 hm
  refine wp_skip (thenN ?_)
  refine wp_seq (wp_seq (region_plain ?_))
  refine lq (.int .i64 (0 : Int)) S (q_assign rfl) fun a S => ?_
  refine lx_nil (thenN ?_)
  obtain ⟨res274, hit275, hk278⟩ := bind_some hm
  obtain ⟨f276, hf277, hit275⟩ := iter_name hit275
  refine block_loop (fun a w => ∃ (xs273 : List Bool), Slots a 90 [(10, v53)] ∧ Heap w0 [oA (rList rBool) v53 xs273] w ∧ res274 = .inl (xs273)) ?_ ?_
  ·rintro a w ⟨xs273, S, H, rfl⟩
   have hm := ctl_inl hk278
   refine thenN ?_
   refine wp_seq (region_plain ?_)
   refine lq v53 S (q_move rfl) fun a S => ?_
   refine lq v53 S (q_assign rfl) fun a S => ?_
   refine lx_nil (thenN ?_)
   refine wp_ret ?_
   obtain rfl := Option.some.inj hm
   exact leave1 S rfl rfl ⟨v53, rfl, H⟩
  ·skip
   refine loop_ghost (fun n a w => ∃ (xs185 : List Bool) (x186 : Int), Slots a 90 [(0, p0), (1, p1), (2, (.int .i64 a2)), (3, (.int .i64 a3)), (9, (.int .i64 a0.1)), (10, v53), (12, (.int .i64 x186))] ∧ Heap w0 [oA (rList rBool) v53 xs185] w ∧ iter f276 n (xs185, x186) = some res274) _ ⟨(List.replicate m52 false), (0 : Int), S.sub ⟨rfl, rfl, rfl, rfl, rfl, rfl, rfl, trivial⟩, H, hit275⟩ ?_
   rintro n a w ⟨xs185, x186, S, H, hit275⟩
   obtain ⟨m279, o280, rfl, hm, hc281⟩ := iter_step hit275
   rw [hf277] at hm
   refine wp_seq (wp_seq (region_plain ?_))
   refine lq (.int .i64 x186) S (q_move rfl) fun a S => ?_
   refine lq p0 S (q_move rfl) fun a S => ?_
   refine lq p0 S (q_nilCheck rfl ((hat33 0 _ rfl).isP)) fun a S => ?_
   refine lq (pAdd p0 3) S (q_fieldAddr' 3 29 rfl ((hat33 0 _ rfl).isP) Tryz.underlying31 rfl Tryz.sizeOf29) fun a S => ?_
   refine lx_e v36 S trivial (by decide) rfl trivial (q_load1 rfl Tryz.isAgg29 (by rintro _ rfl; exact (At.of_add (m := 3) (j := 0) ((hat33 3 _ rfl).ext H.ext)))) (fun a S => ?_)
   refine lq (.int .i64 (a0.2.2.2.length : Int)) S (q_lenSl rfl (h37).isSl rfl Tryz.underlying29) fun a S => ?_
   refine lq (.bool (decide (x186 < (a0.2.2.2.length : Int)))) S (q_lss rfl rfl) fun a S => ?_
   refine lx_nil (thenN ?_)
   refine cond_b S rfl (fun hc282 => ?_) (fun hc282 => ?_)
   ·have hm := ite_t hc282 hm
    refine wp_skip (thenN ?_)
    obtain ⟨K284, hK285, hm⟩ := join_elim hm
    refine seq_cut (fun a w => ∃ (xs283 : List Bool), Slots a 90 [(0, p0), (1, p1), (2, (.int .i64 a2)), (3, (.int .i64 a3)), (9, (.int .i64 a0.1)), (10, v53), (12, (.int .i64 x186))] ∧ Heap w0 [oA (rList rBool) v53 xs283] w ∧ K284 xs283 = some o280) ?_ ?_
    ·rintro a w ⟨xs283, S, H, hm⟩
     subst hK285
     refine region_plain ?_
     refine lq (.int .i64 x186) S (q_move rfl) fun a S => ?_
     refine lq (.int .i64 (W (x186 + (1 : Int)))) S (q_add rfl rfl) fun a S => ?_
     refine lq (.int .i64 (W (x186 + (1 : Int)))) S (q_assign rfl) fun a S => ?_
     refine lx_nil ?_
     exact ⟨m279, Nat.lt_succ_self _, xs283, (W (x186 + (1 : Int))), S.sub ⟨rfl, rfl, rfl, rfl, rfl, rfl, rfl, trivial⟩, H, it_cont hm hc281⟩
    ·skip
     refine wp_block ?_
     refine wp_seq (region_plain ?_)
     refine lq p0 S (q_move rfl) fun a S => ?_
     refine lq p0 S (q_nilCheck rfl ((hat33 0 _ rfl).isP)) fun a S => ?_
     refine lq (pAdd p0 3) S (q_fieldAddr' 3 29 rfl ((hat33 0 _ rfl).isP) Tryz.underlying31 rfl Tryz.sizeOf29) fun a S => ?_
     refine lx_e v36 S trivial (by decide) rfl trivial (q_load1 rfl Tryz.isAgg29 (by rintro _ rfl; exact (At.of_add (m := 3) (j := 0) ((hat33 3 _ rfl).ext H.ext)))) (fun a S => ?_)
     refine lq (.int .i64 x186) S (q_move rfl) fun a S => ?_
     obtain ⟨x286, e287, hm⟩ := bind_some hm
     obtain ⟨c288, h289, hat290⟩ := (h37).elem (idx_some e287).2
     obtain ⟨c291, c292, rfl, h293, h294⟩ := h289
     obtain rfl := h293
     obtain ⟨c295, c296, rfl, h297, h298⟩ := h294
     obtain rfl := h297
     obtain rfl := h298
     have hlt := lt_of_idx (idx_some e287).2
     refine lq (ePtr v36 (x186.toNat * 3)) S (q_indexAddr rfl (h37).isSl rfl (idx_some e287).1 hlt Tryz.underlying29 Tryz.sizeOf68) fun a S => ?_
     refine lx_e (.agg #[(.int .i64 x286.1), (.int .i64 x286.2.1), (.int .i64 x286.2.2)]) S trivial (by decide) rfl trivial (q_loadA (cs := [(.int .i64 x286.1), (.int .i64 x286.2.1), (.int .i64 x286.2.2)]) rfl ((hat290 0 _ rfl).isP) Tryz.isAgg68 Tryz.sizeOf68 (by rintro _ rfl; exact (fun j u hu => (hat290 j u hu).ext H.ext))) (fun a S => ?_)
     refine lx_alloc S trivial (by decide) rfl H Tryz.zeroValue68 rfl (fun b299 w300 H => ⟨trivial, fun a S => ?_⟩)
     refine lx_storeBox (o := 0) (i := 0) (us := [(.int .i64 x286.1), (.int .i64 x286.2.1), (.int .i64 x286.2.2)]) (cs' := [(.int .i64 x286.1), (.int .i64 x286.2.1), (.int .i64 x286.2.2)]) S trivial rfl H rfl rfl rfl rfl Tryz.sizeOf68 (Nat.le_of_ble_eq_true rfl) (List.forall_mem_cons.2 ⟨rfl, (List.forall_mem_cons.2 ⟨rfl, (List.forall_mem_cons.2 ⟨rfl, (fun _ h => nomatch h)⟩)⟩)⟩) rfl (fun w302 H => ⟨trivial, fun a S => ?_⟩)
     change Heap w0 [bA b299 [(.int .i64 x286.1), (.int .i64 x286.2.1), (.int .i64 x286.2.2)] 68, oA (rList rBool) v53 xs185] w302 at H
     refine lx_nil (thenN ?_)
     refine wp_seq (wp_seq (region_plain ?_))
     refine lq (pAdd (bp b299) 1) S (q_fieldAddr' 1 2 rfl (isP_bp _) Tryz.underlying68 rfl Tryz.sizeOf2) fun a S => ?_
     refine lx_e (.int .i64 x286.2.1) S trivial (by decide) rfl trivial (q_load1 rfl Tryz.isAgg2 (by rintro _ rfl; exact (At.of_add (m := 1) (j := 0) (boxAt (i := 0) H rfl (j := 1) rfl)))) (fun a S => ?_)
     refine lq (.int .i64 a3) S (q_move rfl) fun a S => ?_
     refine lq (.bool (x286.2.1 != a3)) S (q_neq rfl rfl) fun a S => ?_
     refine lq (.bool (x286.2.1 != a3)) S (q_move rfl) fun a S => ?_
     obtain ⟨t303, e304, hm⟩ := bind_some hm
     refine lx_cut 11 (fun a w => Slots a 90 [(0, p0), (1, p1), (2, (.int .i64 a2)), (3, (.int .i64 a3)), (9, (.int .i64 a0.1)), (10, v53), (12, (.int .i64 x186)), (13, (bp b299)), (71, (.bool t303))] ∧ Heap w0 [bA b299 [(.int .i64 x286.1), (.int .i64 x286.2.1), (.int .i64 x286.2.2)] 68, oA (rList rBool) v53 xs185] w) ?_ ?_
     ·by_cases hc305 : (x286.2.1 != a3) = true
      ·have hm := ite_t hc305 e304
       refine lx_skip S rfl rfl (isB_ne hc305) (by decide) (fun a S => ?_)
       refine lx_skip S rfl rfl (isB_ne hc305) (by decide) (fun a S => ?_)
       refine lx_skip S rfl rfl (isB_ne hc305) (by decide) (fun a S => ?_)
       refine lx_skip S rfl rfl (isB_ne hc305) (by decide) (fun a S => ?_)
       refine lx_skip S rfl rfl (isB_ne hc305) (by decide) (fun a S => ?_)
       refine lx_skip S rfl rfl (isB_ne hc305) (by decide) (fun a S => ?_)
       refine lx_skip S rfl rfl (isB_ne hc305) (by decide) (fun a S => ?_)
       refine lx_skip S rfl rfl (isB_ne hc305) (by decide) (fun a S => ?_)
       refine lx_skip S rfl rfl (isB_ne hc305) (by decide) (fun a S => ?_)
       refine lx_skip S rfl rfl (isB_ne hc305) (by decide) (fun a S => ?_)
       refine lq (.bool true) S (q_pickT' rfl hc305 rfl) fun a S => ?_
       refine lx_nil ?_
       obtain rfl := Option.some.inj hm
       exact ⟨S.sub ⟨rfl, rfl, rfl, rfl, rfl, rfl, rfl, rfl, rfl, trivial⟩, H⟩
      ·have hm := ite_f (eq_false_of_ne_true hc305) e304
       have hc305 : (x286.2.1 != a3) = false := eq_false_of_ne_true hc305
       refine lx_q p1 S (want_b rfl rfl hc305) (by decide) (q_move rfl) (fun a S => ?_)
       refine lx_q (.int .i64 a2) S (want_b rfl rfl hc305) (by decide) (q_move rfl) (fun a S => ?_)
       refine lx_q (.int .i64 a0.1) S (want_b rfl rfl hc305) (by decide) (q_move rfl) (fun a S => ?_)
       refine lx_q (.int .i64 (W (a2 * a0.1))) S (want_b rfl rfl hc305) (by decide) (q_mul rfl rfl) (fun a S => ?_)
       refine lx_q (pAdd (bp b299) 0) S (want_b rfl rfl hc305) (by decide) (q_fieldAddr' 0 2 rfl (isP_bp _) Tryz.underlying68 rfl Tryz.sizeOf2) (fun a S => ?_)
       refine lx_e (.int .i64 x286.1) S (want_b rfl rfl hc305) (by decide) rfl trivial (q_load1 rfl Tryz.isAgg2 (by rintro _ rfl; exact (At.of_add (m := 0) (j := 0) (boxAt (i := 0) H rfl (j := 0) rfl)))) (fun a S => ?_)
       refine lx_q (.int .i64 (W ((W (a2 * a0.1)) + x286.1))) S (want_b rfl rfl hc305) (by decide) (q_add rfl rfl) (fun a S => ?_)
       obtain ⟨x306, e307, hm⟩ := bind_some hm
       obtain ⟨c308, h309, hat310⟩ := (h1).elem (idx_some e307).2
       obtain rfl := h309
       have hlt := lt_of_idx (idx_some e307).2
       refine lx_q (ePtr p1 ((W ((W (a2 * a0.1)) + x286.1)).toNat * 1)) S (want_b rfl rfl hc305) (by decide) (q_indexAddr rfl (h1).isSl rfl (idx_some e307).1 hlt Tryz.underlying60 Tryz.sizeOf4) (fun a S => ?_)
       refine lx_e (.bool x306) S (want_b rfl rfl hc305) (by decide) rfl trivial (q_load1 rfl Tryz.isAgg4 (by rintro _ rfl; exact ((hat310 0 _ rfl).ext H.ext))) (fun a S => ?_)
       refine lx_q (.bool (!x306)) S (want_b rfl rfl hc305) (by decide) (q_not rfl) (fun a S => ?_)
       refine lq (.bool (!x306)) S (q_pickF' rfl hc305 rfl) fun a S => ?_
       refine lx_nil ?_
       obtain rfl := Option.some.inj hm
       exact ⟨S.sub ⟨rfl, rfl, rfl, rfl, rfl, rfl, rfl, rfl, rfl, trivial⟩, H⟩
     ·rintro a w ⟨S, H⟩
      refine lx_nil (thenN ?_)
      refine cond_b S rfl (fun hc311 => ?_) (fun hc311 => ?_)
      ·have hm := ite_t hc311 hm
       refine wp_exit ?_
       refine then_exit ?_
       refine inBlock_exit ?_
       have H : Heap w0 [oA (rList rBool) v53 xs185] w := H.sel [1] (by decide)
       exact ⟨xs185, S.sub ⟨rfl, rfl, rfl, rfl, rfl, rfl, rfl, trivial⟩, H, hm⟩
      ·have hm := ite_f hc311 hm
       refine wp_skip (thenN ?_)
       refine wp_seq (region_plain ?_)
       refine lq (.int .i64 (0 : Int)) S (q_assign rfl) fun a S => ?_
       refine lx_nil (thenN ?_)
       obtain ⟨res345, hit346, hk349⟩ := bind_some hm
       obtain ⟨f347, hf348, hit346⟩ := iter_name hit346
       refine block_loop (fun a w => ∃ (xs344 : List Bool), Slots a 90 [(0, p0), (1, p1), (2, (.int .i64 a2)), (3, (.int .i64 a3)), (9, (.int .i64 a0.1)), (10, v53), (12, (.int .i64 x186))] ∧ Heap w0 [oA (rList rBool) v53 xs344] w ∧ res345 = .inl (xs344)) ?_ ?_
       ·rintro a w ⟨xs344, S, H, rfl⟩
        have hm := ctl_inl hk349
        refine inBlock_norm ?_
        exact ⟨xs344, S.sub ⟨rfl, rfl, rfl, rfl, rfl, rfl, rfl, trivial⟩, H, hm⟩
       ·skip
        have H : Heap w0 [oA (rList rBool) v53 xs185, bA b299 [(.int .i64 x286.1), (.int .i64 x286.2.1), (.int .i64 x286.2.2)] 68] w := H.front 1 rfl
        refine loop_ghost (fun n a w => ∃ (xs327 : List Bool) (x328 : Int), Slots a 90 [(0, p0), (1, p1), (2, (.int .i64 a2)), (3, (.int .i64 a3)), (9, (.int .i64 a0.1)), (10, v53), (12, (.int .i64 x186)), (13, (bp b299)), (14, (.int .i64 x328))] ∧ Heap w0 [oA (rList rBool) v53 xs327, bA b299 [(.int .i64 x286.1), (.int .i64 x286.2.1), (.int .i64 x286.2.2)] 68] w ∧ iter f347 n (xs327, x328) = some res345) _ ⟨xs185, (0 : Int), S.sub ⟨rfl, rfl, rfl, rfl, rfl, rfl, rfl, rfl, rfl, trivial⟩, H, hit346⟩ ?_
        rintro n a w ⟨xs327, x328, S, H, hit346⟩
        obtain ⟨m350, o351, rfl, hm, hc352⟩ := iter_step hit346
        rw [hf348] at hm
        refine wp_seq (wp_seq (region_plain ?_))
        refine lq (.int .i64 x328) S (q_move rfl) fun a S => ?_
        refine lq (.int .i64 a0.1) S (q_move rfl) fun a S => ?_
        refine lq (.bool (decide (x328 < a0.1))) S (q_lss rfl rfl) fun a S => ?_
        refine lx_nil (thenN ?_)
        refine cond_b S rfl (fun hc353 => ?_) (fun hc353 => ?_)
        ·have hm := ite_t hc353 hm
         refine wp_skip (thenN ?_)
         obtain ⟨K355, hK356, hm⟩ := join_elim hm
         refine seq_cut (fun a w => ∃ (xs354 : List Bool), Slots a 90 [(0, p0), (1, p1), (2, (.int .i64 a2)), (3, (.int .i64 a3)), (9, (.int .i64 a0.1)), (10, v53), (12, (.int .i64 x186)), (13, (bp b299)), (14, (.int .i64 x328))] ∧ Heap w0 [oA (rList rBool) v53 xs354, bA b299 [(.int .i64 x286.1), (.int .i64 x286.2.1), (.int .i64 x286.2.2)] 68] w ∧ K355 xs354 = some o351) ?_ ?_
         ·rintro a w ⟨xs354, S, H, hm⟩
          subst hK356
          refine region_plain ?_
          refine lq (.int .i64 x328) S (q_move rfl) fun a S => ?_
          refine lq (.int .i64 (W (x328 + (1 : Int)))) S (q_add rfl rfl) fun a S => ?_
          refine lq (.int .i64 (W (x328 + (1 : Int)))) S (q_assign rfl) fun a S => ?_
          refine lx_nil ?_
          exact ⟨m350, Nat.lt_succ_self _, xs354, (W (x328 + (1 : Int))), S.sub ⟨rfl, rfl, rfl, rfl, rfl, rfl, rfl, rfl, rfl, trivial⟩, H, it_cont hm hc352⟩
         ·skip
          refine wp_block ?_
          refine wp_seq (region_plain ?_)
          refine lq p1 S (q_move rfl) fun a S => ?_
          refine lq (pAdd (bp b299) 2) S (q_fieldAddr' 2 2 rfl (isP_bp _) Tryz.underlying68 rfl Tryz.sizeOf2) fun a S => ?_
          refine lx_e (.int .i64 x286.2.2) S trivial (by decide) rfl trivial (q_load1 rfl Tryz.isAgg2 (by rintro _ rfl; exact (At.of_add (m := 2) (j := 0) (boxAt (i := 1) H rfl (j := 2) rfl)))) (fun a S => ?_)
          refine lq (.int .i64 a0.1) S (q_move rfl) fun a S => ?_
          refine lq (.int .i64 (W (x286.2.2 * a0.1))) S (q_mul rfl rfl) fun a S => ?_
          refine lq (.int .i64 x328) S (q_move rfl) fun a S => ?_
          refine lq (.int .i64 (W ((W (x286.2.2 * a0.1)) + x328))) S (q_add rfl rfl) fun a S => ?_
          obtain ⟨x357, e358, hm⟩ := bind_some hm
          obtain ⟨c359, h360, hat361⟩ := (h1).elem (idx_some e358).2
          obtain rfl := h360
          have hlt := lt_of_idx (idx_some e358).2
          refine lq (ePtr p1 ((W ((W (x286.2.2 * a0.1)) + x328)).toNat * 1)) S (q_indexAddr rfl (h1).isSl rfl (idx_some e358).1 hlt Tryz.underlying60 Tryz.sizeOf4) fun a S => ?_
          refine lx_e (.bool x357) S trivial (by decide) rfl trivial (q_load1 rfl Tryz.isAgg4 (by rintro _ rfl; exact ((hat361 0 _ rfl).ext H.ext))) (fun a S => ?_)
          refine lx_nil (thenN ?_)
          refine cond_b S rfl (fun hc362 => ?_) (fun hc362 => ?_)
          ·have hm := ite_t hc362 hm
           refine region_plain ?_
           refine lq v53 S (q_move rfl) fun a S => ?_
           refine lq (.int .i64 x328) S (q_move rfl) fun a S => ?_
           obtain ⟨x363, e364, hm⟩ := bind_some hm
           have hlt := lt_of_idx (idx_some e364).2
           refine lq (ePtr v53 (x328.toNat * 1)) S (q_indexAddr rfl (H.isSl 0 rfl) rfl (idx_some e364).1 hlt Tryz.underlying60 Tryz.sizeOf4) fun a S => ?_
           refine lx_storeElem (r := rBool) (us := [(.bool true)]) (off := 0) (e' := true) S trivial rfl H.putE (ev_zero rfl) rfl (idx_some e364).2 rfl Tryz.sizeOf4 (Nat.le_of_ble_eq_true rfl) (List.forall_mem_cons.2 ⟨rfl, (fun _ h => nomatch h)⟩) (Upd.full rfl (fun w G hG => by cases (show G = [] from hG); exact ⟨rfl, rfl⟩)) (fun w365 H => ⟨trivial, fun a S => ?_⟩)
           refine lx_nil ?_
           refine inBlock_norm ?_
           exact ⟨(xs327.set x328.toNat true), S.sub ⟨rfl, rfl, rfl, rfl, rfl, rfl, rfl, rfl, rfl, trivial⟩, H, hm⟩
          ·have hm := ite_f hc362 hm
           refine wp_skip ?_
           refine inBlock_norm ?_
           exact ⟨xs327, S.sub ⟨rfl, rfl, rfl, rfl, rfl, rfl, rfl, rfl, rfl, trivial⟩, H, hm⟩
        ·have hm := ite_f hc353 hm
         refine wp_exit ?_
         refine then_exit ?_
         refine then_exit ?_
         refine inBlock_exit ?_
         obtain rfl := it_brk hm hc352
         have H : Heap w0 [oA (rList rBool) v53 xs327] w := H.sel [0] (by decide)
         exact ⟨xs327, S.sub ⟨rfl, rfl, rfl, rfl, rfl, rfl, rfl, trivial⟩, H, rfl⟩
   ·have hm := ite_f hc282 hm
    refine wp_exit ?_
    refine then_exit ?_
    refine then_exit ?_
    refine inBlock_exit ?_
    obtain rfl := it_brk hm hc281
    exact ⟨xs185, S.sub ⟨rfl, trivial⟩, H, rfl⟩

/-- spec.l14List -/
def spec_l14List_m (fuel : Nat) (a0 : (List Bool)) : Option ((List Int)) :=
  (iter (fun (s : (List Int) × (Int)) => (match s with | (xs59, x61) => (if (decide (x61 < (a0.length : Int))) = true then join (κ := List Int → Option (((List Int) × (Int)) ⊕ (((List Int)) ⊕ ((List Int))))) (fun (xs99 : List Int) => some (.inl (xs99, (W (x61 + (1 : Int)))))) (fun K101 => (idx a0 x61).bind fun x103 => (if x103 = true then (app xs59 [x61]).bind fun x112 => (K101 x112) else (K101 xs59))) else some (.inr (.inl (xs59)))) : Option (((List Int) × (Int)) ⊕ (((List Int)) ⊕ ((List Int)))))) fuel (([] : List Int), (0 : Int))).bind fun res89 => ctl (β := (List Int)) (ρ := (List Int)) (τ := (List Int)) res89 (fun (xs87) => some (xs87)) (fun q => some (q))
set_option maxRecDepth 20000 in
theorem spec_l14List_ok {w0 : World} {fuel : Nat} {p0 : Value} {a0 : (List Bool)} {r : (List Int)} (h0 : Rd (rList rBool) w0 p0 a0) (hm : spec_l14List_m fuel a0 = some r) :
  Calls Tryz.prog 36 #[p0] w0 fun e w => ∃ (v0 : Value), e = .returned (v0) ∧ Heap w0 [oA (rList (rInt .i64)) v0 r] w := by
 unfold spec_l14List_m at hm
 have H := Heap.start w0
 refine enter (args := [p0]) Tryz.func36 rfl 21 rfl (Nat.le_of_ble_eq_true rfl) (fun a S => ?_)
 refine wp_seq (region_plain ?_)
 refine lq (.slice none 0 0) S (q_assign rfl) fun a S => ?_
 refine lx_nil (thenN ?_)
 refine wp_seq (region_plain ?_)
 refine lx_buildSlice0 (r := (rInt .i64)) S trivial (by decide) rfl H Tryz.underlying38 Tryz.sizeOf2 (fun v31 w32 H => ⟨trivial, fun a S => ?_⟩)
 refine lq v31 S (q_assign rfl) fun a S => ?_
 refine lx_nil (thenN ?_)
 refine wp_seq (wp_seq (region_plain ?_))
 refine lq (.int .i64 (0 : Int)) S (q_assign rfl) fun a S => ?_
 refine lx_nil (thenN ?_)
 obtain ⟨res89, hit90, hk93⟩ := bind_some hm
 obtain ⟨f91, hf92, hit90⟩ := iter_name hit90
 refine block_loop (fun a w => ∃ (xs87 : List Int) (v86 : Value), Slots a 21 [(3, v86)] ∧ Heap w0 [oA (rList (rInt .i64)) v86 xs87] w ∧ res89 = .inl (xs87)) ?_ ?_
 ·rintro a w ⟨xs87, v86, S, H, rfl⟩
  have hm := ctl_inl hk93
  refine thenN ?_
  refine wp_seq (region_plain ?_)
  refine lq v86 S (q_move rfl) fun a S => ?_
  refine lq v86 S (q_assign rfl) fun a S => ?_
  refine lx_nil (thenN ?_)
  refine wp_ret ?_
  obtain rfl := Option.some.inj hm
  exact leave1 S rfl rfl ⟨v86, rfl, H⟩
 ·skip
  refine loop_ghost (fun n a w => ∃ (xs59 : List Int) (x61 : Int) (v58 : Value), Slots a 21 [(0, p0), (3, v58), (4, (.int .i64 x61))] ∧ Heap w0 [oA (rList (rInt .i64)) v58 xs59] w ∧ iter f91 n (xs59, x61) = some res89) _ ⟨([] : List Int), (0 : Int), v31, S.sub ⟨rfl, rfl, rfl, trivial⟩, H, hit90⟩ ?_
  rintro n a w ⟨xs59, x61, v58, S, H, hit90⟩
  obtain ⟨m94, o95, rfl, hm, hc96⟩ := iter_step hit90
  rw [hf92] at hm
  refine wp_seq (wp_seq (region_plain ?_))
  refine lq (.int .i64 x61) S (q_move rfl) fun a S => ?_
  refine lq p0 S (q_move rfl) fun a S => ?_
  refine lq (.int .i64 (a0.length : Int)) S (q_lenSl rfl (h0).isSl rfl Tryz.underlying60) fun a S => ?_
  refine lq (.bool (decide (x61 < (a0.length : Int)))) S (q_lss rfl rfl) fun a S => ?_
  refine lx_nil (thenN ?_)
  refine cond_b S rfl (fun hc97 => ?_) (fun hc97 => ?_)
  ·have hm := ite_t hc97 hm
   refine wp_skip (thenN ?_)
   obtain ⟨K101, hK102, hm⟩ := join_elim hm
   refine seq_cut (fun a w => ∃ (xs99 : List Int) (v98 : Value), Slots a 21 [(0, p0), (3, v98), (4, (.int .i64 x61))] ∧ Heap w0 [oA (rList (rInt .i64)) v98 xs99] w ∧ K101 xs99 = some o95) ?_ ?_
   ·rintro a w ⟨xs99, v98, S, H, hm⟩
    subst hK102
    refine region_plain ?_
    refine lq (.int .i64 x61) S (q_move rfl) fun a S => ?_
    refine lq (.int .i64 (W (x61 + (1 : Int)))) S (q_add rfl rfl) fun a S => ?_
    refine lq (.int .i64 (W (x61 + (1 : Int)))) S (q_assign rfl) fun a S => ?_
    refine lx_nil ?_
    exact ⟨m94, Nat.lt_succ_self _, xs99, (W (x61 + (1 : Int))), v98, S.sub ⟨rfl, rfl, rfl, trivial⟩, H, it_cont hm hc96⟩
   ·skip
    refine wp_block ?_
    refine wp_seq (region_plain ?_)
    refine lq p0 S (q_move rfl) fun a S => ?_
    refine lq (.int .i64 x61) S (q_move rfl) fun a S => ?_
    obtain ⟨x103, e104, hm⟩ := bind_some hm
    obtain ⟨c105, h106, hat107⟩ := (h0).elem (idx_some e104).2
    obtain rfl := h106
    have hlt := lt_of_idx (idx_some e104).2
    refine lq (ePtr p0 (x61.toNat * 1)) S (q_indexAddr rfl (h0).isSl rfl (idx_some e104).1 hlt Tryz.underlying60 Tryz.sizeOf4) fun a S => ?_
    refine lx_e (.bool x103) S trivial (by decide) rfl trivial (q_load1 rfl Tryz.isAgg4 (by rintro _ rfl; exact ((hat107 0 _ rfl).ext H.ext))) (fun a S => ?_)
    refine lx_nil (thenN ?_)
    refine cond_b S rfl (fun hc108 => ?_) (fun hc108 => ?_)
    ·have hm := ite_t hc108 hm
     refine region_plain ?_
     refine lq v58 S (q_move rfl) fun a S => ?_
     refine lq (.int .i64 x61) S (q_move rfl) fun a S => ?_
     refine lx_buildSlice (r := (rInt .i64)) (xs := [x61]) (ps := [(0, [(.int .i64 x61)])]) (cs := [(.int .i64 x61)]) (parts := [(0, .tmp 17)]) S trivial (by decide) rfl (H.put0 (A := eA) rfl) rfl Tryz.underlying38 Tryz.sizeOf2 Tryz.zeroValue2 (by decide) ⟨rfl, rfl, Nat.le_of_ble_eq_true rfl, trivial⟩ (by intro zs hz; exact fill_dense hz ⟨rfl, trivial⟩ rfl rfl) rfl (by decide) (fun w F hA => by cases (show F = [] from hA); exact ⟨_, _, [(.int .i64 x61)], _, rfl, rfl, ⟨rfl, rfl⟩, ⟨rfl, rfl⟩⟩) (fun v109 w110 H => ⟨trivial, fun a S => ?_⟩)
     obtain ⟨x112, e113, hm⟩ := bind_some hm
     obtain ⟨hle, hap⟩ := app_some e113
     replace hap := hap.symm
     subst hap
     have H : Heap w0 [oA (rList (rInt .i64)) v109 [x61], oA (rList (rInt .i64)) v58 xs59] w110 := H.front 0 rfl
     have H : Heap w0 [oA (rList (rInt .i64)) v58 xs59, oA (rList (rInt .i64)) v109 [x61]] w110 := H.front 1 rfl
     refine lx_appendOwn (r := (rInt .i64)) S trivial (by decide) rfl H rfl rfl Tryz.underlying38 Tryz.ti2 rfl rfl rfl (by decide) (by decide) hle (fun v114 w115 H => ⟨trivial, fun a S => ?_⟩)
     refine lq v114 S (q_assign rfl) fun a S => ?_
     refine lx_nil ?_
     refine inBlock_norm ?_
     exact ⟨(xs59 ++ [x61]), v114, S.sub ⟨rfl, rfl, rfl, trivial⟩, H, hm⟩
    ·have hm := ite_f hc108 hm
     refine wp_skip ?_
     refine inBlock_norm ?_
     exact ⟨xs59, v58, S.sub ⟨rfl, rfl, rfl, trivial⟩, H, hm⟩
  ·have hm := ite_f hc97 hm
   refine wp_exit ?_
   refine then_exit ?_
   refine then_exit ?_
   refine inBlock_exit ?_
   obtain rfl := it_brk hm hc96
   exact ⟨xs59, v58, S.sub ⟨rfl, trivial⟩, H, rfl⟩

/-- spec.WeakSuccessors -/
def spec_WeakSuccessors_m (fuel : Nat) (a0 : Timpl_Lts) (a1 : Int) (a2 : Str) : Option (((List Int) × Int)) :=
  (spec_l11Is_m fuel (a0.1, a0.2.1, a0.2.2.1, a0.2.2.2)).bind fun x54 => (if (!x54) = true then some (([], (1 : Int))) else (spec_l11State_m fuel (a0.1, a0.2.1, a0.2.2.1, a0.2.2.2) a1).bind fun x61 => (if (!x61) = true then some (([], (2 : Int))) else (spec_l11Find_m fuel a0.2.2.1 a2).bind fun x68 => (if (decide (x68 < (0 : Int))) = true then some (([], (3 : Int))) else (spec_l16Still_m fuel (a0.1, a0.2.1, a0.2.2.1, a0.2.2.2)).bind fun x75 => (spec_l16Step_m fuel (a0.1, a0.2.1, a0.2.2.1, a0.2.2.2) x75 a1 x68).bind fun x82 => (spec_l14List_m fuel x82).bind fun x89 => some ((x89, (0 : Int))))))
set_option maxRecDepth 20000 in
theorem spec_WeakSuccessors_ok {w0 : World} {fuel : Nat} {p0 : Value} {a0 : Timpl_Lts} {a1 : Int} {a2 : Str} {r : ((List Int) × Int)} (h0 : Rd Rimpl_Lts w0 p0 a0) (hm : spec_WeakSuccessors_m fuel a0 a1 a2 = some r) :
  Calls Tryz.prog 14 #[p0, .int .i64 a1, sv a2] w0 fun e w => ∃ (v0 : Value), e = .returned (.tuple #[v0, .int .i64 r.2]) ∧ Heap w0 [oA (rList (rInt .i64)) v0 r.1] w := by
 unfold spec_WeakSuccessors_m at hm
 have H := Heap.start w0
 obtain ⟨c31, rfl, h32⟩ := h0
 obtain ⟨c37, c38, rfl, h39, h40⟩ := h32
 obtain rfl := h39
 obtain ⟨c41, c42, rfl, h43, h44⟩ := h40
 obtain rfl := h43
 obtain ⟨c45, c46, rfl, h47, h48⟩ := h44
 obtain ⟨v33, rfl, h34⟩ := rd_list h47
 obtain ⟨v35, rfl, h36⟩ := rd_list h48
 refine enter (args := [(.agg #[(.int .i64 a0.1), (.int .i64 a0.2.1), v33, v35]), .int .i64 a1, sv a2]) Tryz.func14 rfl 25 rfl (Nat.le_of_ble_eq_true rfl) (fun a S => ?_)
 refine wp_seq (region_plain ?_)
 refine lx_box S trivial (by decide) rfl H rfl rfl (fun b49 w50 H => ⟨trivial, fun a S => ?_⟩)
 refine lq (.slice none 0 0) S (q_assign rfl) fun a S => ?_
 refine lq (.int .i64 (0 : Int)) S (q_assign rfl) fun a S => ?_
 refine lx_nil (thenN ?_)
 refine wp_seq (wp_seq (region_plain ?_))
 obtain ⟨x54, e55, hm⟩ := bind_some hm
 refine lx_call (xs := [.tmp 3]) S trivial (by decide) rfl rfl Tryz.call21 ((spec_l11Is_ok (rdPtr_box H 0 rfl ⟨[(.int .i64 a0.1)], [(.int .i64 a0.2.1), v33, v35], rfl, rfl, ⟨[(.int .i64 a0.2.1)], [v33, v35], rfl, rfl, ⟨[v33], [v35], rfl, ((H.arg h34)).list_rd, ((H.arg h36)).list_rd⟩⟩⟩) e55).mono ?_)
 rintro e w52 ⟨rfl, Hc53⟩
 have H := H.call0 Hc53
 refine ⟨_, rfl, trivial, fun a S => ?_⟩
 refine lq (.bool (!x54)) S (q_not rfl) fun a S => ?_
 refine lx_nil (thenN ?_)
 refine cond_b S rfl (fun hc57 => ?_) (fun hc57 => ?_)
 ·have hm := ite_t hc57 hm
  refine wp_seq (region_plain ?_)
  refine lq (.slice none 0 0) S (q_assign rfl) fun a S => ?_
  refine lq (.int .i64 (1 : Int)) S (q_assign rfl) fun a S => ?_
  refine lx_nil (thenN ?_)
  refine wp_ret (then_ret ?_)
  obtain rfl := Option.some.inj hm
  have H : Heap w0 [oA (rList (rInt .i64)) (.slice none 0 0) ([] : List Int), bA b49 [(.int .i64 a0.1), (.int .i64 a0.2.1), v33, v35] 31] w52 := H.nilList (rInt .i64)
  have H : Heap w0 [oA (rList (rInt .i64)) (.slice none 0 0) ([] : List Int)] w52 := H.sel [0] (by decide)
  exact leave2 S rfl rfl rfl ⟨(.slice none 0 0), rfl, H⟩
 ·have hm := ite_f hc57 hm
  refine wp_skip (thenN ?_)
  refine wp_seq (wp_seq (region_plain ?_))
  refine lq (.int .i64 a1) S (q_move rfl) fun a S => ?_
  obtain ⟨x61, e62, hm⟩ := bind_some hm
  refine lx_call (xs := [.tmp 3, .tmp 11]) S trivial (by decide) rfl rfl Tryz.call22 ((spec_l11State_ok (rdPtr_box H 0 rfl ⟨[(.int .i64 a0.1)], [(.int .i64 a0.2.1), v33, v35], rfl, rfl, ⟨[(.int .i64 a0.2.1)], [v33, v35], rfl, rfl, ⟨[v33], [v35], rfl, ((H.arg h34)).list_rd, ((H.arg h36)).list_rd⟩⟩⟩)  e62).mono ?_)
  rintro e w59 ⟨rfl, Hc60⟩
  have H := H.call0 Hc60
  refine ⟨_, rfl, trivial, fun a S => ?_⟩
  refine lq (.bool (!x61)) S (q_not rfl) fun a S => ?_
  refine lx_nil (thenN ?_)
  refine cond_b S rfl (fun hc64 => ?_) (fun hc64 => ?_)
  ·have hm := ite_t hc64 hm
   refine wp_seq (region_plain ?_)
   refine lq (.slice none 0 0) S (q_assign rfl) fun a S => ?_
   refine lq (.int .i64 (2 : Int)) S (q_assign rfl) fun a S => ?_
   refine lx_nil (thenN ?_)
   refine wp_ret (then_ret ?_)
   obtain rfl := Option.some.inj hm
   have H : Heap w0 [oA (rList (rInt .i64)) (.slice none 0 0) ([] : List Int), bA b49 [(.int .i64 a0.1), (.int .i64 a0.2.1), v33, v35] 31] w59 := H.nilList (rInt .i64)
   have H : Heap w0 [oA (rList (rInt .i64)) (.slice none 0 0) ([] : List Int)] w59 := H.sel [0] (by decide)
   exact leave2 S rfl rfl rfl ⟨(.slice none 0 0), rfl, H⟩
  ·have hm := ite_f hc64 hm
   refine wp_skip (thenN ?_)
   refine wp_seq (region_plain ?_)
   refine lq (pAdd (bp b49) 2) S (q_fieldAddr' 2 22 rfl (isP_bp _) Tryz.underlying31 rfl Tryz.sizeOf22) fun a S => ?_
   refine lx_e v33 S trivial (by decide) rfl trivial (q_load1 rfl Tryz.isAgg22 (by rintro _ rfl; exact (At.of_add (m := 2) (j := 0) (boxAt (i := 0) H rfl (j := 2) rfl)))) (fun a S => ?_)
   refine lq (sv a2) S (q_move rfl) fun a S => ?_
   obtain ⟨x68, e69, hm⟩ := bind_some hm
   refine lx_call (xs := [.tmp 15, .tmp 16]) S trivial (by decide) rfl rfl Tryz.call35 ((spec_l11Find_ok (H.arg h34)  e69).mono ?_)
   rintro e w66 ⟨rfl, Hc67⟩
   have H := H.call0 Hc67
   refine ⟨_, rfl, trivial, fun a S => ?_⟩
   refine lq (.int .i64 x68) S (q_assign rfl) fun a S => ?_
   refine lx_nil (thenN ?_)
   refine wp_seq (wp_seq (region_plain ?_))
   refine lq (.int .i64 x68) S (q_move rfl) fun a S => ?_
   refine lq (.bool (decide (x68 < (0 : Int)))) S (q_lss rfl rfl) fun a S => ?_
   refine lx_nil (thenN ?_)
   refine cond_b S rfl (fun hc71 => ?_) (fun hc71 => ?_)
   ·have hm := ite_t hc71 hm
    refine wp_seq (region_plain ?_)
    refine lq (.slice none 0 0) S (q_assign rfl) fun a S => ?_
    refine lq (.int .i64 (3 : Int)) S (q_assign rfl) fun a S => ?_
    refine lx_nil (thenN ?_)
    refine wp_ret (then_ret ?_)
    obtain rfl := Option.some.inj hm
    have H : Heap w0 [oA (rList (rInt .i64)) (.slice none 0 0) ([] : List Int), bA b49 [(.int .i64 a0.1), (.int .i64 a0.2.1), v33, v35] 31] w66 := H.nilList (rInt .i64)
    have H : Heap w0 [oA (rList (rInt .i64)) (.slice none 0 0) ([] : List Int)] w66 := H.sel [0] (by decide)
    exact leave2 S rfl rfl rfl ⟨(.slice none 0 0), rfl, H⟩
   ·have hm := ite_f hc71 hm
    refine wp_skip (thenN ?_)
    refine wp_seq (region_plain ?_)
    obtain ⟨x75, e76, hm⟩ := bind_some hm
    refine lx_call (xs := [.tmp 3]) S trivial (by decide) rfl rfl Tryz.call38 ((spec_l16Still_ok (rdPtr_box H 0 rfl ⟨[(.int .i64 a0.1)], [(.int .i64 a0.2.1), v33, v35], rfl, rfl, ⟨[(.int .i64 a0.2.1)], [v33, v35], rfl, rfl, ⟨[v33], [v35], rfl, ((H.arg h34)).list_rd, ((H.arg h36)).list_rd⟩⟩⟩) e76).mono ?_)
    rintro e w73 ⟨v77, rfl, Hc74⟩
    have H := H.call1 Hc74
    refine ⟨_, rfl, trivial, fun a S => ?_⟩
    refine lq (.int .i64 a1) S (q_move rfl) fun a S => ?_
    refine lq (.int .i64 x68) S (q_move rfl) fun a S => ?_
    obtain ⟨x82, e83, hm⟩ := bind_some hm
    refine lx_call (xs := [.tmp 3, .tmp 20, .tmp 21, .tmp 22]) S trivial (by decide) rfl rfl Tryz.call37 ((spec_l16Step_ok (rdPtr_box H 1 rfl ⟨[(.int .i64 a0.1)], [(.int .i64 a0.2.1), v33, v35], rfl, rfl, ⟨[(.int .i64 a0.2.1)], [v33, v35], rfl, rfl, ⟨[v33], [v35], rfl, ((H.arg h34)).list_rd, ((H.arg h36)).list_rd⟩⟩⟩) (H.rdAt 0 rfl)   e83).mono ?_)
    rintro e w80 ⟨v84, rfl, Hc81⟩
    have H := H.call1 Hc81
    refine ⟨_, rfl, trivial, fun a S => ?_⟩
    obtain ⟨x89, e90, hm⟩ := bind_some hm
    refine lx_call (xs := [.tmp 23]) S trivial (by decide) rfl rfl Tryz.call36 ((spec_l14List_ok (H.rdAt 0 rfl) e90).mono ?_)
    rintro e w87 ⟨v91, rfl, Hc88⟩
    have H := H.call1 Hc88
    refine ⟨_, rfl, trivial, fun a S => ?_⟩
    refine lq v91 S (q_assign rfl) fun a S => ?_
    refine lq (.int .i64 (0 : Int)) S (q_assign rfl) fun a S => ?_
    refine lx_nil (thenN ?_)
    refine wp_ret ?_
    obtain rfl := Option.some.inj hm
    have H : Heap w0 [oA (rList (rInt .i64)) v91 x89] w87 := H.sel [0] (by decide)
    exact leave2 S rfl rfl rfl ⟨v91, rfl, H⟩

/-- slices.Clone[[]int64,int64] -/
def slices_Clone__int64_int64_m (_ : Nat) (a0 : (List Int)) : Option ((List Int)) :=
  (app ([] : List Int) a0).bind fun x38 => some (x38)
set_option maxRecDepth 20000 in
theorem slices_Clone__int64_int64_ok {w0 : World} {fuel : Nat} {p0 : Value} {a0 : (List Int)} {r : (List Int)} (h0 : Rd (rList (rInt .i64)) w0 p0 a0) (hm : slices_Clone__int64_int64_m fuel a0 = some r) :
  Calls Tryz.prog 68 #[p0] w0 fun e w => ∃ (v0 : Value), e = .returned (v0) ∧ Heap w0 [oA (rList (rInt .i64)) v0 r] w := by
 unfold slices_Clone__int64_int64_m at hm
 have H := Heap.start w0
 refine enter (args := [p0]) Tryz.func68 rfl 8 rfl (Nat.le_of_ble_eq_true rfl) (fun a S => ?_)
 refine wp_seq (region_plain ?_)
 refine lq (.slice none 0 0) S (q_assign rfl) fun a S => ?_
 refine lx_nil (thenN ?_)
 refine wp_seq (wp_seq (region_plain ?_))
 refine lq p0 S (q_move rfl) fun a S => ?_
 obtain ⟨bn31, hqn, hb32⟩ := ((H.arg h0)).isNil (P := Tryz.prog) Tryz.underlying38
 refine lq (.bool bn31) S (hqn rfl rfl) fun a S => ?_
 refine lx_nil (thenN ?_)
 refine cond_b S rfl (fun hc33 => ?_) (fun hc33 => ?_)
 ·obtain rfl := hb32 hc33
  replace hm : some [] = some r := by simpa [app] using hm
  refine wp_seq (region_plain ?_)
  refine lq (.slice none 0 0) S (q_assign rfl) fun a S => ?_
  refine lx_nil (thenN ?_)
  refine wp_ret (then_ret ?_)
  obtain rfl := Option.some.inj hm
  have H : Heap w0 [oA (rList (rInt .i64)) (.slice none 0 0) ([] : List Int)] w0 := H.nilList (rInt .i64)
  exact leave1 S rfl rfl ⟨(.slice none 0 0), rfl, H⟩
 ·skip
  refine wp_skip (thenN ?_)
  refine wp_seq (region_plain ?_)
  refine lx_buildSlice0 (r := (rInt .i64)) S trivial (by decide) rfl H Tryz.underlying38 Tryz.sizeOf2 (fun v35 w36 H => ⟨trivial, fun a S => ?_⟩)
  refine lq p0 S (q_move rfl) fun a S => ?_
  obtain ⟨x38, e39, hm⟩ := bind_some hm
  obtain ⟨hle, hap⟩ := app_some e39
  replace hap := hap.symm
  subst hap
  refine lx_appendRd (r := (rInt .i64)) S trivial (by decide) rfl H (flat_int _) (H.arg h0) rfl rfl Tryz.underlying38 Tryz.ti2 rfl rfl rfl (by decide) (by decide) hle (fun v40 w41 H => ⟨trivial, fun a S => ?_⟩)
  refine lq v40 S (q_assign rfl) fun a S => ?_
  refine lx_nil (thenN ?_)
  refine wp_ret ?_
  obtain rfl := Option.some.inj hm
  exact leave1 S rfl rfl ⟨v40, rfl, H⟩

/-- slices.Index[[]int64,int64] -/
def slices_Index__int64_int64_m (fuel : Nat) (a0 : (List Int)) (a1 : Int) : Option (Int) :=
  (iter (fun (s : (Int)) => (match s with | (x39) => (if (decide (x39 < (a0.length : Int))) = true then (idx a0 x39).bind fun x57 => (if (a1 == x57) = true then some (.inr (.inr x39)) else some (.inl ((W (x39 + (1 : Int)))))) else some (.inr (.inl ()))) : Option (((Int)) ⊕ ((Unit) ⊕ (Int))))) fuel ((0 : Int))).bind fun res48 => ctl (β := Unit) (ρ := Int) (τ := Int) res48 (fun _ => some ((-1 : Int))) (fun q => some (q))
set_option maxRecDepth 20000 in
theorem slices_Index__int64_int64_ok {w0 : World} {fuel : Nat} {p0 : Value} {a0 : (List Int)} {a1 : Int} {r : Int} (h0 : Rd (rList (rInt .i64)) w0 p0 a0) (hm : slices_Index__int64_int64_m fuel a0 a1 = some r) :
  Calls Tryz.prog 88 #[p0, .int .i64 a1] w0 fun e w => e = .returned (.int .i64 r) ∧ Heap w0 [] w := by
 unfold slices_Index__int64_int64_m at hm
 have H := Heap.start w0
 refine enter (args := [p0, .int .i64 a1]) Tryz.func88 rfl 19 rfl (Nat.le_of_ble_eq_true rfl) (fun a S => ?_)
 refine wp_seq (region_plain ?_)
 refine lq (.int .i64 (0 : Int)) S (q_assign rfl) fun a S => ?_
 refine lx_nil (thenN ?_)
 refine wp_seq (wp_seq (region_plain ?_))
 refine lq p0 S (q_move rfl) fun a S => ?_
 refine lq (.int .i64 (a0.length : Int)) S (q_lenSl rfl (h0).isSl rfl Tryz.underlying38) fun a S => ?_
 refine lq (.int .i64 (0 : Int)) S (q_move rfl) fun a S => ?_
 refine lx_nil (thenN ?_)
 obtain ⟨res48, hit49, hk52⟩ := bind_some hm
 obtain ⟨f50, hf51, hit49⟩ := iter_name hit49
 refine block_loop (fun a w => Slots a 19 [] ∧ Heap w0 [] w ∧ res48 = .inl ()) ?_ ?_
 ·rintro a w ⟨S, H, rfl⟩
  have hm := ctl_inl hk52
  refine thenN ?_
  refine wp_seq (region_plain ?_)
  refine lq (.int .i64 (-1 : Int)) S (q_assign rfl) fun a S => ?_
  refine lx_nil (thenN ?_)
  refine wp_ret ?_
  obtain rfl := Option.some.inj hm
  exact leave1 S rfl rfl ⟨rfl, H⟩
 ·skip
  refine loop_ghost (fun n a w => ∃ (x39 : Int), Slots a 19 [(0, p0), (1, (.int .i64 a1)), (7, (.int .i64 (a0.length : Int))), (8, (.int .i64 x39))] ∧ Heap w0 [] w ∧ iter f50 n (x39) = some res48) _ ⟨(0 : Int), S.sub ⟨rfl, rfl, rfl, rfl, trivial⟩, H, hit49⟩ ?_
  rintro n a w ⟨x39, S, H, hit49⟩
  obtain ⟨m53, o54, rfl, hm, hc55⟩ := iter_step hit49
  rw [hf51] at hm
  refine wp_seq (region_plain ?_)
  refine lq (.bool (decide (x39 < (a0.length : Int)))) S (q_lss rfl rfl) fun a S => ?_
  refine lx_nil (thenN ?_)
  refine wp_seq ?_
  refine cond_b S rfl (fun hc56 => ?_) (fun hc56 => ?_)
  ·have hm := ite_t hc56 hm
   refine wp_skip (thenN ?_)
   refine wp_seq ?_
   refine wp_block ?_
   refine wp_seq (region_plain ?_)
   refine lq (.int .i64 x39) S (q_move rfl) fun a S => ?_
   refine lq (.int .i64 x39) S (q_assign rfl) fun a S => ?_
   refine lx_nil (thenN ?_)
   refine wp_seq (region_plain ?_)
   refine lq (.int .i64 a1) S (q_move rfl) fun a S => ?_
   refine lq p0 S (q_move rfl) fun a S => ?_
   refine lq (.int .i64 x39) S (q_move rfl) fun a S => ?_
   obtain ⟨x57, e58, hm⟩ := bind_some hm
   obtain ⟨c59, h60, hat61⟩ := (h0).elem (idx_some e58).2
   obtain rfl := h60
   have hlt := lt_of_idx (idx_some e58).2
   refine lq (ePtr p0 (x39.toNat * 1)) S (q_indexAddr rfl (h0).isSl rfl (idx_some e58).1 hlt Tryz.underlying38 Tryz.sizeOf2) fun a S => ?_
   refine lx_e (.int .i64 x57) S trivial (by decide) rfl trivial (q_load1 rfl Tryz.isAgg2 (by rintro _ rfl; exact ((hat61 0 _ rfl).ext H.ext))) (fun a S => ?_)
   refine lq (.bool (a1 == x57)) S (q_eql rfl rfl) fun a S => ?_
   refine lx_nil (thenN ?_)
   refine cond_b S rfl (fun hc62 => ?_) (fun hc62 => ?_)
   ·have hm := ite_t hc62 hm
    refine wp_seq (region_plain ?_)
    refine lq (.int .i64 x39) S (q_move rfl) fun a S => ?_
    refine lq (.int .i64 x39) S (q_assign rfl) fun a S => ?_
    refine lx_nil (thenN ?_)
    refine wp_ret (inBlock_ret ?_)
    refine then_ret ?_
    refine then_ret ?_
    refine inBlock_ret ?_
    refine then_ret ?_
    refine then_ret ?_
    obtain rfl := it_brk hm hc55
    have hm := ctl_inr hk52
    obtain rfl := Option.some.inj hm
    exact leave1 S rfl rfl ⟨rfl, H⟩
   ·have hm := ite_f hc62 hm
    refine wp_skip ?_
    refine inBlock_norm ?_
    refine thenN ?_
    refine region_plain ?_
    refine lq (.int .i64 (W (x39 + (1 : Int)))) S (q_add rfl rfl) fun a S => ?_
    refine lq (.int .i64 (W (x39 + (1 : Int)))) S (q_move rfl) fun a S => ?_
    refine lx_nil ?_
    exact ⟨m53, Nat.lt_succ_self _, (W (x39 + (1 : Int))), S.sub ⟨rfl, rfl, rfl, rfl, trivial⟩, H, it_cont hm hc55⟩
  ·have hm := ite_f hc56 hm
   refine wp_exit ?_
   refine then_exit ?_
   refine then_exit ?_
   refine inBlock_exit ?_
   obtain rfl := it_brk hm hc55
   exact ⟨S.sub trivial, H, rfl⟩

/-- slices.Contains[[]int64,int64] -/
def slices_Contains__int64_int64_m (fuel : Nat) (a0 : (List Int)) (a1 : Int) : Option (Bool) :=
  (slices_Index__int64_int64_m fuel a0 a1).bind fun x33 => some ((decide ((0 : Int) ≤ x33)))
set_option maxRecDepth 20000 in
theorem slices_Contains__int64_int64_ok {w0 : World} {fuel : Nat} {p0 : Value} {a0 : (List Int)} {a1 : Int} {r : Bool} (h0 : Rd (rList (rInt .i64)) w0 p0 a0) (hm : slices_Contains__int64_int64_m fuel a0 a1 = some r) :
  Calls Tryz.prog 70 #[p0, .int .i64 a1] w0 fun e w => e = .returned (.bool r) ∧ Heap w0 [] w := by
 unfold slices_Contains__int64_int64_m at hm
 have H := Heap.start w0
 refine enter (args := [p0, .int .i64 a1]) Tryz.func70 rfl 9 rfl (Nat.le_of_ble_eq_true rfl) (fun a S => ?_)
 refine wp_seq (region_plain ?_)
 refine lq (.bool false) S (q_assign rfl) fun a S => ?_
 refine lx_nil (thenN ?_)
 refine wp_seq (region_plain ?_)
 refine lq p0 S (q_move rfl) fun a S => ?_
 refine lq (.int .i64 a1) S (q_move rfl) fun a S => ?_
 obtain ⟨x33, e34, hm⟩ := bind_some hm
 refine lx_call (xs := [.tmp 5, .tmp 6]) S trivial (by decide) rfl rfl Tryz.call88 ((slices_Index__int64_int64_ok (H.arg h0)  e34).mono ?_)
 rintro e w31 ⟨rfl, Hc32⟩
 have H := H.call0 Hc32
 refine ⟨_, rfl, trivial, fun a S => ?_⟩
 refine lq (.bool (decide ((0 : Int) ≤ x33))) S (q_geq rfl rfl) fun a S => ?_
 refine lq (.bool (decide ((0 : Int) ≤ x33))) S (q_assign rfl) fun a S => ?_
 refine lx_nil (thenN ?_)
 refine wp_ret ?_
 obtain rfl := Option.some.inj hm
 exact leave1 S rfl rfl ⟨rfl, H⟩

/-- (impl.Lts).follow -/
def impl_Lts_follow_m (fuel : Nat) (a0 : Timpl_Lts) (a1 : (List Int)) (a2 : Str) : Option ((List Int)) :=
  (iter (fun (s : (List Int) × (Int)) => (match s with | (xs104, x106) => (if (decide (x106 < (a0.2.2.2.length : Int))) = true then join (κ := List Int → Option (((List Int) × (Int)) ⊕ (((List Int)) ⊕ ((List Int))))) (fun (xs180 : List Int) => some (.inl (xs180, (W (x106 + (1 : Int)))))) (fun K182 => (idx a0.2.2.2 x106).bind fun x184 => (idx a0.2.2.1 x184.2.1).bind fun x201 => (if (x201 == a2) = true then (slices_Contains__int64_int64_m fuel a1 x184.1).bind fun x211 => some x211 else some false).bind fun t206 => (if t206 = true then (app xs104 [x184.2.2]).bind fun x218 => (K182 x218) else (K182 xs104))) else some (.inr (.inl (xs104)))) : Option (((List Int) × (Int)) ⊕ (((List Int)) ⊕ ((List Int)))))) fuel ([], (0 : Int))).bind fun res159 => ctl (β := (List Int)) (ρ := (List Int)) (τ := (List Int)) res159 (fun (xs157) => (slices_Sort__int64_int64_m fuel xs157).bind fun x166 => (slices_Compact__int64_int64_m fuel x166).bind fun x170 => some (x170)) (fun q => some (q))
set_option maxRecDepth 20000 in
theorem impl_Lts_follow_ok {w0 : World} {fuel : Nat} {p0 p1 : Value} {a0 : Timpl_Lts} {a1 : (List Int)} {a2 : Str} {r : (List Int)} (h0 : Rd Rimpl_Lts w0 p0 a0) (h1 : Rd (rList (rInt .i64)) w0 p1 a1) (hm : impl_Lts_follow_m fuel a0 a1 a2 = some r) :
  Calls Tryz.prog 69 #[p0, p1, sv a2] w0 fun e w => ∃ (v0 : Value), e = .returned (v0) ∧ Heap w0 [oA (rList (rInt .i64)) v0 r] w := by
 unfold impl_Lts_follow_m at hm
 have H := Heap.start w0
 obtain ⟨c31, rfl, h32⟩ := h0
 obtain ⟨c37, c38, rfl, h39, h40⟩ := h32
 obtain rfl := h39
 obtain ⟨c41, c42, rfl, h43, h44⟩ := h40
 obtain rfl := h43
 obtain ⟨c45, c46, rfl, h47, h48⟩ := h44
 obtain ⟨v33, rfl, h34⟩ := rd_list h47
 obtain ⟨v35, rfl, h36⟩ := rd_list h48
 refine enter (args := [(.agg #[(.int .i64 a0.1), (.int .i64 a0.2.1), v33, v35]), p1, sv a2]) Tryz.func69 rfl 41 rfl (Nat.le_of_ble_eq_true rfl) (fun a S => ?_)
 refine wp_seq (region_plain ?_)
 refine lx_box S trivial (by decide) rfl H rfl rfl (fun b49 w50 H => ⟨trivial, fun a S => ?_⟩)
 refine lq (.slice none 0 0) S (q_assign rfl) fun a S => ?_
 refine lx_nil (thenN ?_)
 refine wp_seq (region_plain ?_)
 refine lq (.slice none 0 0) S (q_assign rfl) fun a S => ?_
 refine lx_nil (thenN ?_)
 refine wp_seq (wp_seq (region_plain ?_))
 refine lq (pAdd (bp b49) 3) S (q_fieldAddr' 3 29 rfl (isP_bp _) Tryz.underlying31 rfl Tryz.sizeOf29) fun a S => ?_
 refine lx_e v35 S trivial (by decide) rfl trivial (q_load1 rfl Tryz.isAgg29 (by rintro _ rfl; exact (At.of_add (m := 3) (j := 0) (boxAt (i := 0) H rfl (j := 3) rfl)))) (fun a S => ?_)
 refine lq (.int .i64 (a0.2.2.2.length : Int)) S (q_lenSl rfl (h36).isSl rfl Tryz.underlying29) fun a S => ?_
 refine lq (.int .i64 (0 : Int)) S (q_move rfl) fun a S => ?_
 refine lx_nil (thenN ?_)
 obtain ⟨res159, hit160, hk163⟩ := bind_some hm
 obtain ⟨f161, hf162, hit160⟩ := iter_name hit160
 refine block_loop (fun a w => ∃ (xs157 : List Int) (v156 : Value), Slots a 41 [(7, v156)] ∧ Heap w0 [oA (rList (rInt .i64)) v156 xs157] w ∧ res159 = .inl (xs157)) ?_ ?_
 ·rintro a w ⟨xs157, v156, S, H, rfl⟩
  have hm := ctl_inl hk163
  refine thenN ?_
  refine wp_seq (region_plain ?_)
  refine lq v156 S (q_move rfl) fun a S => ?_
  obtain ⟨x166, e167, hm⟩ := bind_some hm
  refine lx_call (xs := [.tmp 37]) S trivial (by decide) rfl rfl Tryz.call71 ((slices_Sort__int64_int64_ok H  e167).mono ?_)
  rintro e w164 ⟨rfl, H⟩
  refine ⟨_, rfl, trivial, fun a S => ?_⟩
  refine lx_nil (thenN ?_)
  refine wp_seq (region_plain ?_)
  refine lq v156 S (q_move rfl) fun a S => ?_
  obtain ⟨x170, e171, hm⟩ := bind_some hm
  refine lx_call (xs := [.tmp 39]) S trivial (by decide) rfl rfl Tryz.call87 ((slices_Compact__int64_int64_ok H  e171).mono ?_)
  rintro e w168 ⟨v172, rfl, H⟩
  refine ⟨_, rfl, trivial, fun a S => ?_⟩
  refine lq v172 S (q_assign rfl) fun a S => ?_
  refine lx_nil (thenN ?_)
  refine wp_ret ?_
  obtain rfl := Option.some.inj hm
  exact leave1 S rfl rfl ⟨v172, rfl, H⟩
 ·skip
  have H : Heap w0 [oA (rList (rInt .i64)) (.slice none 0 0) ([] : List Int), bA b49 [(.int .i64 a0.1), (.int .i64 a0.2.1), v33, v35] 31] w50 := H.nilList (rInt .i64)
  have H : Heap w0 [bA b49 [(.int .i64 a0.1), (.int .i64 a0.2.1), v33, v35] 31, oA (rList (rInt .i64)) (.slice none 0 0) ([] : List Int)] w50 := H.front 1 rfl
  refine loop_ghost (fun n a w => ∃ (xs104 : List Int) (x106 : Int) (v103 : Value), Slots a 41 [(1, p1), (2, (sv a2)), (3, (bp b49)), (7, v103), (11, v35), (12, (.int .i64 (a0.2.2.2.length : Int))), (13, (.int .i64 x106))] ∧ Heap w0 [bA b49 [(.int .i64 a0.1), (.int .i64 a0.2.1), v33, v35] 31, oA (rList (rInt .i64)) v103 xs104] w ∧ iter f161 n (xs104, x106) = some res159) _ ⟨[], (0 : Int), (.slice none 0 0), S.sub ⟨rfl, rfl, rfl, rfl, rfl, rfl, rfl, trivial⟩, H, hit160⟩ ?_
  rintro n a w ⟨xs104, x106, v103, S, H, hit160⟩
  obtain ⟨m175, o176, rfl, hm, hc177⟩ := iter_step hit160
  rw [hf162] at hm
  refine wp_seq (region_plain ?_)
  refine lq (.bool (decide (x106 < (a0.2.2.2.length : Int)))) S (q_lss rfl rfl) fun a S => ?_
  refine lx_nil (thenN ?_)
  refine wp_seq ?_
  refine cond_b S rfl (fun hc178 => ?_) (fun hc178 => ?_)
  ·have hm := ite_t hc178 hm
   refine wp_skip (thenN ?_)
   obtain ⟨K182, hK183, hm⟩ := join_elim hm
   refine seq_cut (fun a w => ∃ (xs180 : List Int) (v179 : Value), Slots a 41 [(1, p1), (2, (sv a2)), (3, (bp b49)), (7, v179), (11, v35), (12, (.int .i64 (a0.2.2.2.length : Int))), (13, (.int .i64 x106))] ∧ Heap w0 [bA b49 [(.int .i64 a0.1), (.int .i64 a0.2.1), v33, v35] 31, oA (rList (rInt .i64)) v179 xs180] w ∧ K182 xs180 = some o176) ?_ ?_
   ·rintro a w ⟨xs180, v179, S, H, hm⟩
    subst hK183
    refine region_plain ?_
    refine lq (.int .i64 (W (x106 + (1 : Int)))) S (q_add rfl rfl) fun a S => ?_
    refine lq (.int .i64 (W (x106 + (1 : Int)))) S (q_move rfl) fun a S => ?_
    refine lx_nil ?_
    exact ⟨m175, Nat.lt_succ_self _, xs180, (W (x106 + (1 : Int))), v179, S.sub ⟨rfl, rfl, rfl, rfl, rfl, rfl, rfl, trivial⟩, H, it_cont hm hc177⟩
   ·skip
    refine wp_block ?_
    refine wp_seq (region_plain ?_)
    obtain ⟨x184, e185, hm⟩ := bind_some hm
    obtain ⟨c186, h187, hat188⟩ := (h36).elem (idx_some e185).2
    obtain ⟨c189, c190, rfl, h191, h192⟩ := h187
    obtain rfl := h191
    obtain ⟨c193, c194, rfl, h195, h196⟩ := h192
    obtain rfl := h195
    obtain rfl := h196
    have hlt := lt_of_idx (idx_some e185).2
    refine lq (ePtr v35 (x106.toNat * 3)) S (q_indexAddr rfl (h36).isSl rfl (idx_some e185).1 hlt Tryz.underlying29 Tryz.sizeOf68) fun a S => ?_
    refine lx_e (.agg #[(.int .i64 x184.1), (.int .i64 x184.2.1), (.int .i64 x184.2.2)]) S trivial (by decide) rfl trivial (q_loadA (cs := [(.int .i64 x184.1), (.int .i64 x184.2.1), (.int .i64 x184.2.2)]) rfl ((hat188 0 _ rfl).isP) Tryz.isAgg68 Tryz.sizeOf68 (by rintro _ rfl; exact (fun j u hu => (hat188 j u hu).ext H.ext))) (fun a S => ?_)
    refine lx_alloc S trivial (by decide) rfl H Tryz.zeroValue68 rfl (fun b197 w198 H => ⟨trivial, fun a S => ?_⟩)
    refine lx_storeBox (o := 0) (i := 0) (us := [(.int .i64 x184.1), (.int .i64 x184.2.1), (.int .i64 x184.2.2)]) (cs' := [(.int .i64 x184.1), (.int .i64 x184.2.1), (.int .i64 x184.2.2)]) S trivial rfl H rfl rfl rfl rfl Tryz.sizeOf68 (Nat.le_of_ble_eq_true rfl) (List.forall_mem_cons.2 ⟨rfl, (List.forall_mem_cons.2 ⟨rfl, (List.forall_mem_cons.2 ⟨rfl, (fun _ h => nomatch h)⟩)⟩)⟩) rfl (fun w200 H => ⟨trivial, fun a S => ?_⟩)
    change Heap w0 [bA b197 [(.int .i64 x184.1), (.int .i64 x184.2.1), (.int .i64 x184.2.2)] 68, bA b49 [(.int .i64 a0.1), (.int .i64 a0.2.1), v33, v35] 31, oA (rList (rInt .i64)) v103 xs104] w200 at H
    refine lx_nil (thenN ?_)
    refine wp_seq (region_plain ?_)
    refine lq (pAdd (bp b49) 2) S (q_fieldAddr' 2 22 rfl (isP_bp _) Tryz.underlying31 rfl Tryz.sizeOf22) fun a S => ?_
    refine lx_e v33 S trivial (by decide) rfl trivial (q_load1 rfl Tryz.isAgg22 (by rintro _ rfl; exact (At.of_add (m := 2) (j := 0) (boxAt (i := 1) H rfl (j := 2) rfl)))) (fun a S => ?_)
    refine lq (pAdd (bp b197) 1) S (q_fieldAddr' 1 2 rfl (isP_bp _) Tryz.underlying68 rfl Tryz.sizeOf2) fun a S => ?_
    refine lx_e (.int .i64 x184.2.1) S trivial (by decide) rfl trivial (q_load1 rfl Tryz.isAgg2 (by rintro _ rfl; exact (At.of_add (m := 1) (j := 0) (boxAt (i := 0) H rfl (j := 1) rfl)))) (fun a S => ?_)
    obtain ⟨x201, e202, hm⟩ := bind_some hm
    obtain ⟨c203, h204, hat205⟩ := (h34).elem (idx_some e202).2
    obtain rfl := h204
    have hlt := lt_of_idx (idx_some e202).2
    refine lq (ePtr v33 (x184.2.1.toNat * 1)) S (q_indexAddr rfl (h34).isSl rfl (idx_some e202).1 hlt Tryz.underlying22 Tryz.sizeOf9) fun a S => ?_
    refine lx_e (sv x201) S trivial (by decide) rfl trivial (q_load1 rfl Tryz.isAgg9 (by rintro _ rfl; exact ((hat205 0 _ rfl).ext H.ext))) (fun a S => ?_)
    refine lq (sv a2) S (q_move rfl) fun a S => ?_
    refine lq (.bool (x201 == a2)) S (q_seql rfl rfl) fun a S => ?_
    refine lq (.bool (x201 == a2)) S (q_move rfl) fun a S => ?_
    obtain ⟨t206, e207, hm⟩ := bind_some hm
    refine lx_cut 5 (fun a w => Slots a 41 [(1, p1), (2, (sv a2)), (3, (bp b49)), (7, v103), (9, (bp b197)), (11, v35), (12, (.int .i64 (a0.2.2.2.length : Int))), (13, (.int .i64 x106)), (30, (.bool t206))] ∧ Heap w0 [bA b197 [(.int .i64 x184.1), (.int .i64 x184.2.1), (.int .i64 x184.2.2)] 68, bA b49 [(.int .i64 a0.1), (.int .i64 a0.2.1), v33, v35] 31, oA (rList (rInt .i64)) v103 xs104] w) ?_ ?_
    ·by_cases hc208 : (x201 == a2) = true
     ·have hm := ite_t hc208 e207
      refine lx_q p1 S (want_b rfl rfl hc208) (by decide) (q_move rfl) (fun a S => ?_)
      refine lx_q (pAdd (bp b197) 0) S (want_b rfl rfl hc208) (by decide) (q_fieldAddr' 0 2 rfl (isP_bp _) Tryz.underlying68 rfl Tryz.sizeOf2) (fun a S => ?_)
      refine lx_e (.int .i64 x184.1) S (want_b rfl rfl hc208) (by decide) rfl trivial (q_load1 rfl Tryz.isAgg2 (by rintro _ rfl; exact (At.of_add (m := 0) (j := 0) (boxAt (i := 0) H rfl (j := 0) rfl)))) (fun a S => ?_)
      obtain ⟨x211, e212, hm⟩ := bind_some hm
      refine lx_call (xs := [.tmp 26, .tmp 28]) S (want_b rfl rfl hc208) (by decide) rfl rfl Tryz.call70 ((slices_Contains__int64_int64_ok (H.arg h1)  e212).mono ?_)
      rintro e w209 ⟨rfl, Hc210⟩
      have H := H.call0 Hc210
      refine ⟨_, rfl, trivial, fun a S => ?_⟩
      refine lq (.bool x211) S (q_pickT' rfl hc208 rfl) fun a S => ?_
      refine lx_nil ?_
      obtain rfl := Option.some.inj hm
      exact ⟨S.sub ⟨rfl, rfl, rfl, rfl, rfl, rfl, rfl, rfl, rfl, trivial⟩, H⟩
     ·have hm := ite_f (eq_false_of_ne_true hc208) e207
      have hc208 : (x201 == a2) = false := eq_false_of_ne_true hc208
      refine lx_skip S rfl rfl (isB_ne hc208) (by decide) (fun a S => ?_)
      refine lx_skip S rfl rfl (isB_ne hc208) (by decide) (fun a S => ?_)
      refine lx_skip S rfl rfl (isB_ne hc208) (by decide) (fun a S => ?_)
      refine lx_skip S rfl rfl (isB_ne hc208) (by decide) (fun a S => ?_)
      refine lq (.bool false) S (q_pickF' rfl hc208 rfl) fun a S => ?_
      refine lx_nil ?_
      obtain rfl := Option.some.inj hm
      exact ⟨S.sub ⟨rfl, rfl, rfl, rfl, rfl, rfl, rfl, rfl, rfl, trivial⟩, H⟩
    ·rintro a w ⟨S, H⟩
     refine lx_nil (thenN ?_)
     refine cond_b S rfl (fun hc214 => ?_) (fun hc214 => ?_)
     ·have hm := ite_t hc214 hm
      refine region_plain ?_
      refine lq v103 S (q_move rfl) fun a S => ?_
      refine lq (pAdd (bp b197) 2) S (q_fieldAddr' 2 2 rfl (isP_bp _) Tryz.underlying68 rfl Tryz.sizeOf2) fun a S => ?_
      refine lx_e (.int .i64 x184.2.2) S trivial (by decide) rfl trivial (q_load1 rfl Tryz.isAgg2 (by rintro _ rfl; exact (At.of_add (m := 2) (j := 0) (boxAt (i := 0) H rfl (j := 2) rfl)))) (fun a S => ?_)
      refine lx_buildSlice (r := (rInt .i64)) (xs := [x184.2.2]) (ps := [(0, [(.int .i64 x184.2.2)])]) (cs := [(.int .i64 x184.2.2)]) (parts := [(0, .tmp 33)]) S trivial (by decide) rfl (H.put0 (A := eA) rfl) rfl Tryz.underlying38 Tryz.sizeOf2 Tryz.zeroValue2 (by decide) ⟨rfl, rfl, Nat.le_of_ble_eq_true rfl, trivial⟩ (by intro zs hz; exact fill_dense hz ⟨rfl, trivial⟩ rfl rfl) rfl (by decide) (fun w F hA => by cases (show F = [] from hA); exact ⟨_, _, [(.int .i64 x184.2.2)], _, rfl, rfl, ⟨rfl, rfl⟩, ⟨rfl, rfl⟩⟩) (fun v215 w216 H => ⟨trivial, fun a S => ?_⟩)
      obtain ⟨x218, e219, hm⟩ := bind_some hm
      obtain ⟨hle, hap⟩ := app_some e219
      replace hap := hap.symm
      subst hap
      have H : Heap w0 [oA (rList (rInt .i64)) v215 [x184.2.2], bA b197 [(.int .i64 x184.1), (.int .i64 x184.2.1), (.int .i64 x184.2.2)] 68, bA b49 [(.int .i64 a0.1), (.int .i64 a0.2.1), v33, v35] 31, oA (rList (rInt .i64)) v103 xs104] w216 := H.front 0 rfl
      have H : Heap w0 [oA (rList (rInt .i64)) v103 xs104, oA (rList (rInt .i64)) v215 [x184.2.2], bA b197 [(.int .i64 x184.1), (.int .i64 x184.2.1), (.int .i64 x184.2.2)] 68, bA b49 [(.int .i64 a0.1), (.int .i64 a0.2.1), v33, v35] 31] w216 := H.front 3 rfl
      refine lx_appendOwn (r := (rInt .i64)) S trivial (by decide) rfl H rfl rfl Tryz.underlying38 Tryz.ti2 rfl rfl rfl (by decide) (by decide) hle (fun v220 w221 H => ⟨trivial, fun a S => ?_⟩)
      refine lq v220 S (q_assign rfl) fun a S => ?_
      refine lx_nil ?_
      refine inBlock_norm ?_
      have H : Heap w0 [bA b49 [(.int .i64 a0.1), (.int .i64 a0.2.1), v33, v35] 31, oA (rList (rInt .i64)) v220 (xs104 ++ [x184.2.2]), bA b197 [(.int .i64 x184.1), (.int .i64 x184.2.1), (.int .i64 x184.2.2)] 68] w221 := H.front 2 rfl
      have H : Heap w0 [bA b49 [(.int .i64 a0.1), (.int .i64 a0.2.1), v33, v35] 31, oA (rList (rInt .i64)) v220 (xs104 ++ [x184.2.2])] w221 := H.sel [0, 1] (by decide)
      exact ⟨(xs104 ++ [x184.2.2]), v220, S.sub ⟨rfl, rfl, rfl, rfl, rfl, rfl, rfl, trivial⟩, H, hm⟩
     ·have hm := ite_f hc214 hm
      refine wp_skip ?_
      refine inBlock_norm ?_
      have H : Heap w0 [bA b49 [(.int .i64 a0.1), (.int .i64 a0.2.1), v33, v35] 31, oA (rList (rInt .i64)) v103 xs104] w := H.sel [1, 2] (by decide)
      exact ⟨xs104, v103, S.sub ⟨rfl, rfl, rfl, rfl, rfl, rfl, rfl, trivial⟩, H, hm⟩
  ·have hm := ite_f hc178 hm
   refine wp_exit ?_
   refine then_exit ?_
   refine then_exit ?_
   refine inBlock_exit ?_
   obtain rfl := it_brk hm hc177
   have H : Heap w0 [oA (rList (rInt .i64)) v103 xs104] w := H.sel [1] (by decide)
   exact ⟨xs104, v103, S.sub ⟨rfl, trivial⟩, H, rfl⟩

/-- (impl.Lts).internal -/
def impl_Lts_internal_m (fuel : Nat) (a0 : Timpl_Lts) (a1 : (List Int)) : Option ((List Int)) :=
  (slices_Clone__int64_int64_m fuel a1).bind fun x54 => (iter (fun (s : (List Int) × (Int)) => (match s with | (xs177, x179) => (if (decide (x179 < (xs177.length : Int))) = true then (idx xs177 x179).bind fun x315 => (impl_Lts_follow_m fuel (a0.1, a0.2.1, a0.2.2.1, a0.2.2.2) [x315] ([116, 97, 117] : Str)).bind fun x322 => (iter (fun (s : (List Int) × (Int)) => (match s with | (xs357, x359) => (if (decide (x359 < (x322.length : Int))) = true then join (κ := List Int → Option (((List Int) × (Int)) ⊕ (((List Int)) ⊕ ((List Int))))) (fun (xs402 : List Int) => some (.inl (xs402, (W (x359 + (1 : Int)))))) (fun K404 => (idx x322 x359).bind fun x406 => (slices_Contains__int64_int64_m fuel xs357 x406).bind fun x413 => (if (!x413) = true then (app xs357 [x406]).bind fun x420 => (K404 x420) else (K404 xs357))) else some (.inr (.inl (xs357)))) : Option (((List Int) × (Int)) ⊕ (((List Int)) ⊕ ((List Int)))))) fuel (xs177, (0 : Int))).bind fun res392 => ctl (β := (List Int)) (ρ := (List Int)) (τ := (((List Int) × (Int)) ⊕ (((List Int)) ⊕ ((List Int))))) res392 (fun (xs390) => some (.inl (xs390, (W (x179 + (1 : Int)))))) (fun q => some (.inr (.inr q))) else some (.inr (.inl (xs177)))) : Option (((List Int) × (Int)) ⊕ (((List Int)) ⊕ ((List Int)))))) fuel (x54, (0 : Int))).bind fun res300 => ctl (β := (List Int)) (ρ := (List Int)) (τ := (List Int)) res300 (fun (xs298) => (slices_Sort__int64_int64_m fuel xs298).bind fun x307 => some (x307)) (fun q => some (q))
set_option maxRecDepth 20000 in
theorem impl_Lts_internal_ok {w0 : World} {fuel : Nat} {p0 p1 : Value} {a0 : Timpl_Lts} {a1 : (List Int)} {r : (List Int)} (h0 : Rd Rimpl_Lts w0 p0 a0) (h1 : Rd (rList (rInt .i64)) w0 p1 a1) (hm : impl_Lts_internal_m fuel a0 a1 = some r) :
  Calls Tryz.prog 57 #[p0, p1] w0 fun e w => ∃ (v0 : Value), e = .returned (v0) ∧ Heap w0 [oA (rList (rInt .i64)) v0 r] w := by
 unfold impl_Lts_internal_m at hm
 have H := Heap.start w0
 obtain ⟨c31, rfl, h32⟩ := h0
 obtain ⟨c37, c38, rfl, h39, h40⟩ := h32
 obtain rfl := h39
 obtain ⟨c41, c42, rfl, h43, h44⟩ := h40
 obtain rfl := h43
 obtain ⟨c45, c46, rfl, h47, h48⟩ := h44
 obtain ⟨v33, rfl, h34⟩ := rd_list h47
 obtain ⟨v35, rfl, h36⟩ := rd_list h48
 refine enter (args := [(.agg #[(.int .i64 a0.1), (.int .i64 a0.2.1), v33, v35]), p1]) Tryz.func57 rfl 41 rfl (Nat.le_of_ble_eq_true rfl) (fun a S => ?_)
 refine wp_seq (region_plain ?_)
 refine lx_box S trivial (by decide) rfl H rfl rfl (fun b49 w50 H => ⟨trivial, fun a S => ?_⟩)
 refine lq (.slice none 0 0) S (q_assign rfl) fun a S => ?_
 refine lx_nil (thenN ?_)
 refine wp_seq (region_plain ?_)
 refine lq p1 S (q_move rfl) fun a S => ?_
 obtain ⟨x54, e55, hm⟩ := bind_some hm
 refine lx_call (xs := [.tmp 9]) S trivial (by decide) rfl rfl Tryz.call68 ((slices_Clone__int64_int64_ok (H.arg h1) e55).mono ?_)
 rintro e w52 ⟨v56, rfl, Hc53⟩
 have H := H.call1 Hc53
 refine ⟨_, rfl, trivial, fun a S => ?_⟩
 refine lq v56 S (q_assign rfl) fun a S => ?_
 refine lx_nil (thenN ?_)
 refine wp_seq (wp_seq (region_plain ?_))
 refine lq (.int .i64 (0 : Int)) S (q_assign rfl) fun a S => ?_
 refine lx_nil (thenN ?_)
 obtain ⟨res300, hit301, hk304⟩ := bind_some hm
 obtain ⟨f302, hf303, hit301⟩ := iter_name hit301
 refine block_loop (fun a w => ∃ (xs298 : List Int) (v297 : Value), Slots a 41 [(5, v297)] ∧ Heap w0 [oA (rList (rInt .i64)) v297 xs298] w ∧ res300 = .inl (xs298)) ?_ ?_
 ·rintro a w ⟨xs298, v297, S, H, rfl⟩
  have hm := ctl_inl hk304
  refine thenN ?_
  refine wp_seq (region_plain ?_)
  refine lq v297 S (q_move rfl) fun a S => ?_
  obtain ⟨x307, e308, hm⟩ := bind_some hm
  refine lx_call (xs := [.tmp 38]) S trivial (by decide) rfl rfl Tryz.call71 ((slices_Sort__int64_int64_ok H  e308).mono ?_)
  rintro e w305 ⟨rfl, H⟩
  refine ⟨_, rfl, trivial, fun a S => ?_⟩
  refine lx_nil (thenN ?_)
  refine wp_seq (region_plain ?_)
  refine lq v297 S (q_move rfl) fun a S => ?_
  refine lq v297 S (q_assign rfl) fun a S => ?_
  refine lx_nil (thenN ?_)
  refine wp_ret ?_
  obtain rfl := Option.some.inj hm
  exact leave1 S rfl rfl ⟨v297, rfl, H⟩
 ·skip
  have H : Heap w0 [bA b49 [(.int .i64 a0.1), (.int .i64 a0.2.1), v33, v35] 31, oA (rList (rInt .i64)) v56 x54] w52 := H.front 1 rfl
  refine loop_ghost (fun n a w => ∃ (xs177 : List Int) (x179 : Int) (v176 : Value), Slots a 41 [(2, (bp b49)), (5, v176), (6, (.int .i64 x179))] ∧ Heap w0 [bA b49 [(.int .i64 a0.1), (.int .i64 a0.2.1), v33, v35] 31, oA (rList (rInt .i64)) v176 xs177] w ∧ iter f302 n (xs177, x179) = some res300) _ ⟨x54, (0 : Int), v56, S.sub ⟨rfl, rfl, rfl, trivial⟩, H, hit301⟩ ?_
  rintro n a w ⟨xs177, x179, v176, S, H, hit301⟩
  obtain ⟨m309, o310, rfl, hm, hc311⟩ := iter_step hit301
  rw [hf303] at hm
  refine wp_seq (wp_seq (region_plain ?_))
  refine lq (.int .i64 x179) S (q_move rfl) fun a S => ?_
  refine lq v176 S (q_move rfl) fun a S => ?_
  refine lq (.int .i64 (xs177.length : Int)) S (q_lenSl rfl (H.isSl 1 rfl) rfl Tryz.underlying38) fun a S => ?_
  refine lq (.bool (decide (x179 < (xs177.length : Int)))) S (q_lss rfl rfl) fun a S => ?_
  refine lx_nil (thenN ?_)
  refine cond_b S rfl (fun hc312 => ?_) (fun hc312 => ?_)
  ·have hm := ite_t hc312 hm
   refine wp_skip (thenN ?_)
   refine wp_seq ?_
   refine wp_block ?_
   refine wp_seq ?_
   refine region_drawG (fun w1 => Heap w0 [bA b49 [(.int .i64 a0.1), (.int .i64 a0.2.1), v33, v35] 31, oA (rList (rInt .i64)) v176 xs177] w1) (fun i => [5, 6].contains i) mixed (by kernel_rfl) (fun w314 he313 => ?_)
   have H := H.later he313
   refine ⟨H.sel [0, 1] (by decide), ?_⟩
   refine lq (.agg #[(.int .i64 a0.1), (.int .i64 a0.2.1), v33, v35]) S (q_loadA (cs := [(.int .i64 a0.1), (.int .i64 a0.2.1), v33, v35]) rfl (isP_bp _) Tryz.isAgg31 Tryz.sizeOf31 (fun w1 hC => (fun j u hu => boxAt (i := 0) hC rfl hu))) fun a S => ?_
   refine lq v176 S (q_move rfl) fun a S => ?_
   refine lq (.int .i64 x179) S (q_move rfl) fun a S => ?_
   obtain ⟨x315, e316, hm⟩ := bind_some hm
   have hlt := lt_of_idx (idx_some e316).2
   refine lq (ePtr v176 (x179.toNat * 1)) S (q_indexAddr rfl (H.isSl 1 rfl) rfl (idx_some e316).1 hlt Tryz.underlying38 Tryz.sizeOf2) fun a S => ?_
   refine lq (.int .i64 x315) S (q_load1 rfl Tryz.isAgg2 (fun w1 hC => ((hC.rdAt 1 rfl).elemAt (j := 0) (idx_some e316).2 (by intro B w cs h; obtain rfl := h; rfl)))) fun a S => ?_
   refine lx_buildSlice (r := (rInt .i64)) (xs := [x315]) (ps := [(0, [(.int .i64 x315)])]) (cs := [(.int .i64 x315)]) (parts := [(0, .tmp 21)]) S trivial (by decide) rfl (H.put0 (A := eA) rfl) rfl Tryz.underlying38 Tryz.sizeOf2 Tryz.zeroValue2 (by decide) ⟨rfl, rfl, Nat.le_of_ble_eq_true rfl, trivial⟩ (by intro zs hz; exact fill_dense hz ⟨rfl, trivial⟩ rfl rfl) rfl (by decide) (fun w F hA => by cases (show F = [] from hA); exact ⟨_, _, [(.int .i64 x315)], _, rfl, rfl, ⟨rfl, rfl⟩, ⟨rfl, rfl⟩⟩) (fun v317 w318 H => ⟨H.sel [1, 2] (by decide), fun a S => ?_⟩)
   obtain ⟨x322, e323, hm⟩ := bind_some hm
   refine lx_call (xs := [.tmp 17, .tmp 22, .const (sv [116, 97, 117])]) S trivial (by decide) rfl rfl Tryz.call69 ((impl_Lts_follow_ok ⟨[(.int .i64 a0.1), (.int .i64 a0.2.1), v33, v35], rfl, ⟨[(.int .i64 a0.1)], [(.int .i64 a0.2.1), v33, v35], rfl, rfl, ⟨[(.int .i64 a0.2.1)], [v33, v35], rfl, rfl, ⟨[v33], [v35], rfl, ((H.arg h34)).list_rd, ((H.arg h36)).list_rd⟩⟩⟩⟩ (H.rdAt 0 rfl)  e323).mono ?_)
   rintro e w320 ⟨v324, rfl, Hc321⟩
   have H := H.call1 Hc321
   refine ⟨_, rfl, H.sel [2, 3] (by decide), fun a S => ?_⟩
   refine lq (.int .i64 (x322.length : Int)) S (q_lenSl rfl (H.isSl 0 rfl) rfl Tryz.underlying38) fun a S => ?_
   refine lq (.int .i64 (0 : Int)) S (q_move rfl) fun a S => ?_
   refine lx_nil (thenN ?_)
   obtain ⟨res392, hit393, hk396⟩ := bind_some hm
   obtain ⟨f394, hf395, hit393⟩ := iter_name hit393
   refine block_loop (fun a w => ∃ (xs390 : List Int) (v389 : Value), Slots a 41 [(2, (bp b49)), (5, v389), (6, (.int .i64 x179))] ∧ Heap w0 [bA b49 [(.int .i64 a0.1), (.int .i64 a0.2.1), v33, v35] 31, oA (rList (rInt .i64)) v389 xs390] w ∧ res392 = .inl (xs390)) ?_ ?_
   ·rintro a w ⟨xs390, v389, S, H, rfl⟩
    have hm := ctl_inl hk396
    refine inBlock_norm ?_
    refine thenN ?_
    refine region_plain ?_
    refine lq (.int .i64 x179) S (q_move rfl) fun a S => ?_
    refine lq (.int .i64 (W (x179 + (1 : Int)))) S (q_add rfl rfl) fun a S => ?_
    refine lq (.int .i64 (W (x179 + (1 : Int)))) S (q_assign rfl) fun a S => ?_
    refine lx_nil ?_
    exact ⟨m309, Nat.lt_succ_self _, xs390, (W (x179 + (1 : Int))), v389, S.sub ⟨rfl, rfl, rfl, trivial⟩, H, it_cont hm hc311⟩
   ·skip
    have H : Heap w0 [oA (rList (rInt .i64)) v176 xs177, oA (rList (rInt .i64)) v324 x322, oA (rList (rInt .i64)) v317 [x315], bA b49 [(.int .i64 a0.1), (.int .i64 a0.2.1), v33, v35] 31] w320 := H.front 3 rfl
    have H : Heap w0 [bA b49 [(.int .i64 a0.1), (.int .i64 a0.2.1), v33, v35] 31, oA (rList (rInt .i64)) v176 xs177, oA (rList (rInt .i64)) v324 x322, oA (rList (rInt .i64)) v317 [x315]] w320 := H.front 3 rfl
    have H : Heap w0 [bA b49 [(.int .i64 a0.1), (.int .i64 a0.2.1), v33, v35] 31, oA (rList (rInt .i64)) v176 xs177, oA (rList (rInt .i64)) v324 x322] w320 := H.sel [0, 1, 2] (by decide)
    refine loop_ghost (fun n a w => ∃ (xs357 : List Int) (x359 : Int) (v356 : Value), Slots a 41 [(2, (bp b49)), (5, v356), (6, (.int .i64 x179)), (23, v324), (24, (.int .i64 (x322.length : Int))), (25, (.int .i64 x359))] ∧ Heap w0 [bA b49 [(.int .i64 a0.1), (.int .i64 a0.2.1), v33, v35] 31, oA (rList (rInt .i64)) v356 xs357, oA (rList (rInt .i64)) v324 x322] w ∧ iter f394 n (xs357, x359) = some res392) _ ⟨xs177, (0 : Int), v176, S.sub ⟨rfl, rfl, rfl, rfl, rfl, rfl, trivial⟩, H, hit393⟩ ?_
    rintro n a w ⟨xs357, x359, v356, S, H, hit393⟩
    obtain ⟨m397, o398, rfl, hm, hc399⟩ := iter_step hit393
    rw [hf395] at hm
    refine wp_seq (region_plain ?_)
    refine lq (.bool (decide (x359 < (x322.length : Int)))) S (q_lss rfl rfl) fun a S => ?_
    refine lx_nil (thenN ?_)
    refine wp_seq ?_
    refine cond_b S rfl (fun hc400 => ?_) (fun hc400 => ?_)
    ·have hm := ite_t hc400 hm
     refine wp_skip (thenN ?_)
     obtain ⟨K404, hK405, hm⟩ := join_elim hm
     refine seq_cut (fun a w => ∃ (xs402 : List Int) (v401 : Value), Slots a 41 [(2, (bp b49)), (5, v401), (6, (.int .i64 x179)), (23, v324), (24, (.int .i64 (x322.length : Int))), (25, (.int .i64 x359))] ∧ Heap w0 [bA b49 [(.int .i64 a0.1), (.int .i64 a0.2.1), v33, v35] 31, oA (rList (rInt .i64)) v401 xs402, oA (rList (rInt .i64)) v324 x322] w ∧ K404 xs402 = some o398) ?_ ?_
     ·rintro a w ⟨xs402, v401, S, H, hm⟩
      subst hK405
      refine region_plain ?_
      refine lq (.int .i64 (W (x359 + (1 : Int)))) S (q_add rfl rfl) fun a S => ?_
      refine lq (.int .i64 (W (x359 + (1 : Int)))) S (q_move rfl) fun a S => ?_
      refine lx_nil ?_
      exact ⟨m397, Nat.lt_succ_self _, xs402, (W (x359 + (1 : Int))), v401, S.sub ⟨rfl, rfl, rfl, rfl, rfl, rfl, trivial⟩, H, it_cont hm hc399⟩
     ·skip
      refine wp_block ?_
      refine wp_seq (region_plain ?_)
      obtain ⟨x406, e407, hm⟩ := bind_some hm
      have hlt := lt_of_idx (idx_some e407).2
      refine lq (ePtr v324 (x359.toNat * 1)) S (q_indexAddr rfl (H.isSl 2 rfl) rfl (idx_some e407).1 hlt Tryz.underlying38 Tryz.sizeOf2) fun a S => ?_
      obtain ⟨c408, h409, hat410⟩ := (H.rdAt 2 rfl).elem (idx_some e407).2
      obtain rfl := h409
      refine lx_e (.int .i64 x406) S trivial (by decide) rfl trivial (q_load1 rfl Tryz.isAgg2 (by rintro _ rfl; exact (hat410 0 _ rfl))) (fun a S => ?_)
      refine lq (.int .i64 x406) S (q_assign rfl) fun a S => ?_
      refine lx_nil (thenN ?_)
      refine wp_seq (region_plain ?_)
      refine lq v356 S (q_move rfl) fun a S => ?_
      refine lq (.int .i64 x406) S (q_move rfl) fun a S => ?_
      obtain ⟨x413, e414, hm⟩ := bind_some hm
      refine lx_call (xs := [.tmp 29, .tmp 30]) S trivial (by decide) rfl rfl Tryz.call70 ((slices_Contains__int64_int64_ok (H.rdAt 1 rfl)  e414).mono ?_)
      rintro e w411 ⟨rfl, Hc412⟩
      have H := H.call0 Hc412
      refine ⟨_, rfl, trivial, fun a S => ?_⟩
      refine lq (.bool (!x413)) S (q_not rfl) fun a S => ?_
      refine lx_nil (thenN ?_)
      refine cond_b S rfl (fun hc416 => ?_) (fun hc416 => ?_)
      ·have hm := ite_t hc416 hm
       refine region_plain ?_
       refine lq v356 S (q_move rfl) fun a S => ?_
       refine lq (.int .i64 x406) S (q_move rfl) fun a S => ?_
       refine lx_buildSlice (r := (rInt .i64)) (xs := [x406]) (ps := [(0, [(.int .i64 x406)])]) (cs := [(.int .i64 x406)]) (parts := [(0, .tmp 34)]) S trivial (by decide) rfl (H.put0 (A := eA) rfl) rfl Tryz.underlying38 Tryz.sizeOf2 Tryz.zeroValue2 (by decide) ⟨rfl, rfl, Nat.le_of_ble_eq_true rfl, trivial⟩ (by intro zs hz; exact fill_dense hz ⟨rfl, trivial⟩ rfl rfl) rfl (by decide) (fun w F hA => by cases (show F = [] from hA); exact ⟨_, _, [(.int .i64 x406)], _, rfl, rfl, ⟨rfl, rfl⟩, ⟨rfl, rfl⟩⟩) (fun v417 w418 H => ⟨trivial, fun a S => ?_⟩)
       obtain ⟨x420, e421, hm⟩ := bind_some hm
       obtain ⟨hle, hap⟩ := app_some e421
       replace hap := hap.symm
       subst hap
       have H : Heap w0 [oA (rList (rInt .i64)) v417 [x406], bA b49 [(.int .i64 a0.1), (.int .i64 a0.2.1), v33, v35] 31, oA (rList (rInt .i64)) v356 xs357, oA (rList (rInt .i64)) v324 x322] w418 := H.front 0 rfl
       have H : Heap w0 [oA (rList (rInt .i64)) v356 xs357, oA (rList (rInt .i64)) v417 [x406], bA b49 [(.int .i64 a0.1), (.int .i64 a0.2.1), v33, v35] 31, oA (rList (rInt .i64)) v324 x322] w418 := H.front 2 rfl
       refine lx_appendOwn (r := (rInt .i64)) S trivial (by decide) rfl H rfl rfl Tryz.underlying38 Tryz.ti2 rfl rfl rfl (by decide) (by decide) hle (fun v422 w423 H => ⟨trivial, fun a S => ?_⟩)
       refine lq v422 S (q_assign rfl) fun a S => ?_
       refine lx_nil ?_
       refine inBlock_norm ?_
       have H : Heap w0 [oA (rList (rInt .i64)) v324 x322, oA (rList (rInt .i64)) v422 (xs357 ++ [x406]), bA b49 [(.int .i64 a0.1), (.int .i64 a0.2.1), v33, v35] 31] w423 := H.front 2 rfl
       have H : Heap w0 [oA (rList (rInt .i64)) v422 (xs357 ++ [x406]), oA (rList (rInt .i64)) v324 x322, bA b49 [(.int .i64 a0.1), (.int .i64 a0.2.1), v33, v35] 31] w423 := H.front 1 rfl
       have H : Heap w0 [bA b49 [(.int .i64 a0.1), (.int .i64 a0.2.1), v33, v35] 31, oA (rList (rInt .i64)) v422 (xs357 ++ [x406]), oA (rList (rInt .i64)) v324 x322] w423 := H.front 2 rfl
       exact ⟨(xs357 ++ [x406]), v422, S.sub ⟨rfl, rfl, rfl, rfl, rfl, rfl, trivial⟩, H, hm⟩
      ·have hm := ite_f hc416 hm
       refine wp_skip ?_
       refine inBlock_norm ?_
       exact ⟨xs357, v356, S.sub ⟨rfl, rfl, rfl, rfl, rfl, rfl, trivial⟩, H, hm⟩
    ·have hm := ite_f hc400 hm
     refine wp_exit ?_
     refine then_exit ?_
     refine then_exit ?_
     refine inBlock_exit ?_
     obtain rfl := it_brk hm hc399
     have H : Heap w0 [bA b49 [(.int .i64 a0.1), (.int .i64 a0.2.1), v33, v35] 31, oA (rList (rInt .i64)) v356 xs357] w := H.sel [0, 1] (by decide)
     exact ⟨xs357, v356, S.sub ⟨rfl, rfl, rfl, trivial⟩, H, rfl⟩
  ·have hm := ite_f hc312 hm
   refine wp_exit ?_
   refine then_exit ?_
   refine then_exit ?_
   refine inBlock_exit ?_
   obtain rfl := it_brk hm hc311
   have H : Heap w0 [oA (rList (rInt .i64)) v176 xs177] w := H.sel [1] (by decide)
   exact ⟨xs177, v176, S.sub ⟨rfl, trivial⟩, H, rfl⟩

/-- (impl.Lts).visible -/
def impl_Lts_visible_m (fuel : Nat) (a0 : Timpl_Lts) (a1 : (List Int)) (a2 : Str) : Option ((List Int)) :=
  (impl_Lts_follow_m fuel (a0.1, a0.2.1, a0.2.2.1, a0.2.2.2) a1 a2).bind fun x56 => (impl_Lts_internal_m fuel (a0.1, a0.2.1, a0.2.2.1, a0.2.2.2) x56).bind fun x63 => some (x63)
set_option maxRecDepth 20000 in
theorem impl_Lts_visible_ok {w0 : World} {fuel : Nat} {p0 p1 : Value} {a0 : Timpl_Lts} {a1 : (List Int)} {a2 : Str} {r : (List Int)} (h0 : Rd Rimpl_Lts w0 p0 a0) (h1 : Rd (rList (rInt .i64)) w0 p1 a1) (hm : impl_Lts_visible_m fuel a0 a1 a2 = some r) :
  Calls Tryz.prog 58 #[p0, p1, sv a2] w0 fun e w => ∃ (v0 : Value), e = .returned (v0) ∧ Heap w0 [oA (rList (rInt .i64)) v0 r] w := by
 unfold impl_Lts_visible_m at hm
 have H := Heap.start w0
 obtain ⟨c31, rfl, h32⟩ := h0
 obtain ⟨c37, c38, rfl, h39, h40⟩ := h32
 obtain rfl := h39
 obtain ⟨c41, c42, rfl, h43, h44⟩ := h40
 obtain rfl := h43
 obtain ⟨c45, c46, rfl, h47, h48⟩ := h44
 obtain ⟨v33, rfl, h34⟩ := rd_list h47
 obtain ⟨v35, rfl, h36⟩ := rd_list h48
 refine enter (args := [(.agg #[(.int .i64 a0.1), (.int .i64 a0.2.1), v33, v35]), p1, sv a2]) Tryz.func58 rfl 13 rfl (Nat.le_of_ble_eq_true rfl) (fun a S => ?_)
 refine wp_seq (region_plain ?_)
 refine lx_box S trivial (by decide) rfl H rfl rfl (fun b49 w50 H => ⟨trivial, fun a S => ?_⟩)
 refine lq (.slice none 0 0) S (q_assign rfl) fun a S => ?_
 refine lx_nil (thenN ?_)
 refine wp_seq ?_
 refine region_drawG (fun w1 => Heap w0 [bA b49 [(.int .i64 a0.1), (.int .i64 a0.2.1), v33, v35] 31] w1) (fun i => [4, 5].contains i) mixed (by kernel_rfl) (fun w53 he52 => ?_)
 have H := H.later he52
 refine ⟨H.sel [0] (by decide), ?_⟩
 refine lq (.agg #[(.int .i64 a0.1), (.int .i64 a0.2.1), v33, v35]) S (q_loadA (cs := [(.int .i64 a0.1), (.int .i64 a0.2.1), v33, v35]) rfl (isP_bp _) Tryz.isAgg31 Tryz.sizeOf31 (fun w1 hC => (fun j u hu => boxAt (i := 0) hC rfl hu))) fun a S => ?_
 refine lq (.agg #[(.int .i64 a0.1), (.int .i64 a0.2.1), v33, v35]) S (q_loadA (cs := [(.int .i64 a0.1), (.int .i64 a0.2.1), v33, v35]) rfl (isP_bp _) Tryz.isAgg31 Tryz.sizeOf31 (fun w1 hC => (fun j u hu => boxAt (i := 0) hC rfl hu))) fun a S => ?_
 refine lq p1 S (q_move rfl) fun a S => ?_
 refine lq (sv a2) S (q_move rfl) fun a S => ?_
 obtain ⟨x56, e57, hm⟩ := bind_some hm
 refine lx_call (xs := [.tmp 8, .tmp 9, .tmp 10]) S trivial (by decide) rfl rfl Tryz.call69 ((impl_Lts_follow_ok ⟨[(.int .i64 a0.1), (.int .i64 a0.2.1), v33, v35], rfl, ⟨[(.int .i64 a0.1)], [(.int .i64 a0.2.1), v33, v35], rfl, rfl, ⟨[(.int .i64 a0.2.1)], [v33, v35], rfl, rfl, ⟨[v33], [v35], rfl, ((H.arg h34)).list_rd, ((H.arg h36)).list_rd⟩⟩⟩⟩ (H.arg h1)  e57).mono ?_)
 rintro e w54 ⟨v58, rfl, Hc55⟩
 have H := H.call1 Hc55
 refine ⟨_, rfl, H.sel [1] (by decide), fun a S => ?_⟩
 obtain ⟨x63, e64, hm⟩ := bind_some hm
 refine lx_call (xs := [.tmp 7, .tmp 11]) S trivial (by decide) rfl rfl Tryz.call57 ((impl_Lts_internal_ok ⟨[(.int .i64 a0.1), (.int .i64 a0.2.1), v33, v35], rfl, ⟨[(.int .i64 a0.1)], [(.int .i64 a0.2.1), v33, v35], rfl, rfl, ⟨[(.int .i64 a0.2.1)], [v33, v35], rfl, rfl, ⟨[v33], [v35], rfl, ((H.arg h34)).list_rd, ((H.arg h36)).list_rd⟩⟩⟩⟩ (H.rdAt 0 rfl) e64).mono ?_)
 rintro e w61 ⟨v65, rfl, Hc62⟩
 have H := H.call1 Hc62
 refine ⟨_, rfl, H.sel [2] (by decide), fun a S => ?_⟩
 refine lq v65 S (q_assign rfl) fun a S => ?_
 refine lx_nil (thenN ?_)
 refine wp_ret ?_
 obtain rfl := Option.some.inj hm
 have H : Heap w0 [oA (rList (rInt .i64)) v65 x63] w61 := H.sel [0] (by decide)
 exact leave1 S rfl rfl ⟨v65, rfl, H⟩

/-- (impl.Lts).weakly -/
def impl_Lts_weakly_m (fuel : Nat) (a0 : Timpl_Lts) (a1 : Int) (a2 : Str) : Option ((List Int)) :=
  (impl_Lts_internal_m fuel (a0.1, a0.2.1, a0.2.2.1, a0.2.2.2) [a1]).bind fun x57 => (if (a2 == ([116, 97, 117] : Str)) = true then some (x57) else (impl_Lts_visible_m fuel (a0.1, a0.2.1, a0.2.2.1, a0.2.2.2) x57 a2).bind fun x65 => some (x65))
set_option maxRecDepth 20000 in
theorem impl_Lts_weakly_ok {w0 : World} {fuel : Nat} {p0 : Value} {a0 : Timpl_Lts} {a1 : Int} {a2 : Str} {r : (List Int)} (h0 : Rd Rimpl_Lts w0 p0 a0) (hm : impl_Lts_weakly_m fuel a0 a1 a2 = some r) :
  Calls Tryz.prog 40 #[p0, .int .i64 a1, sv a2] w0 fun e w => ∃ (v0 : Value), e = .returned (v0) ∧ Heap w0 [oA (rList (rInt .i64)) v0 r] w := by
 unfold impl_Lts_weakly_m at hm
 have H := Heap.start w0
 obtain ⟨c31, rfl, h32⟩ := h0
 obtain ⟨c37, c38, rfl, h39, h40⟩ := h32
 obtain rfl := h39
 obtain ⟨c41, c42, rfl, h43, h44⟩ := h40
 obtain rfl := h43
 obtain ⟨c45, c46, rfl, h47, h48⟩ := h44
 obtain ⟨v33, rfl, h34⟩ := rd_list h47
 obtain ⟨v35, rfl, h36⟩ := rd_list h48
 refine enter (args := [(.agg #[(.int .i64 a0.1), (.int .i64 a0.2.1), v33, v35]), .int .i64 a1, sv a2]) Tryz.func40 rfl 19 rfl (Nat.le_of_ble_eq_true rfl) (fun a S => ?_)
 refine wp_seq (region_plain ?_)
 refine lx_box S trivial (by decide) rfl H rfl rfl (fun b49 w50 H => ⟨trivial, fun a S => ?_⟩)
 refine lq (.slice none 0 0) S (q_assign rfl) fun a S => ?_
 refine lx_nil (thenN ?_)
 refine wp_seq (region_plain ?_)
 refine lx_e (.agg #[(.int .i64 a0.1), (.int .i64 a0.2.1), v33, v35]) S trivial (by decide) rfl trivial (q_loadA (cs := [(.int .i64 a0.1), (.int .i64 a0.2.1), v33, v35]) rfl (isP_bp _) Tryz.isAgg31 Tryz.sizeOf31 (by rintro _ rfl; exact (fun j u hu => boxAt (i := 0) H rfl hu))) (fun a S => ?_)
 refine lq (.int .i64 a1) S (q_move rfl) fun a S => ?_
 refine lx_buildSlice (r := (rInt .i64)) (xs := [a1]) (ps := [(0, [(.int .i64 a1)])]) (cs := [(.int .i64 a1)]) (parts := [(0, .tmp 9)]) S trivial (by decide) rfl (H.put0 (A := eA) rfl) rfl Tryz.underlying38 Tryz.sizeOf2 Tryz.zeroValue2 (by decide) ⟨rfl, rfl, Nat.le_of_ble_eq_true rfl, trivial⟩ (by intro zs hz; exact fill_dense hz ⟨rfl, trivial⟩ rfl rfl) rfl (by decide) (fun w F hA => by cases (show F = [] from hA); exact ⟨_, _, [(.int .i64 a1)], _, rfl, rfl, ⟨rfl, rfl⟩, ⟨rfl, rfl⟩⟩) (fun v52 w53 H => ⟨trivial, fun a S => ?_⟩)
 obtain ⟨x57, e58, hm⟩ := bind_some hm
 refine lx_call (xs := [.tmp 8, .tmp 10]) S trivial (by decide) rfl rfl Tryz.call57 ((impl_Lts_internal_ok ⟨[(.int .i64 a0.1), (.int .i64 a0.2.1), v33, v35], rfl, ⟨[(.int .i64 a0.1)], [(.int .i64 a0.2.1), v33, v35], rfl, rfl, ⟨[(.int .i64 a0.2.1)], [v33, v35], rfl, rfl, ⟨[v33], [v35], rfl, ((H.arg h34)).list_rd, ((H.arg h36)).list_rd⟩⟩⟩⟩ (H.rdAt 0 rfl) e58).mono ?_)
 rintro e w55 ⟨v59, rfl, Hc56⟩
 have H := H.call1 Hc56
 refine ⟨_, rfl, trivial, fun a S => ?_⟩
 refine lq v59 S (q_assign rfl) fun a S => ?_
 refine lx_nil (thenN ?_)
 refine wp_seq (wp_seq (region_plain ?_))
 refine lq (sv a2) S (q_move rfl) fun a S => ?_
 refine lq (.bool (a2 == ([116, 97, 117] : Str))) S (q_seql rfl rfl) fun a S => ?_
 refine lx_nil (thenN ?_)
 refine cond_b S rfl (fun hc62 => ?_) (fun hc62 => ?_)
 ·have hm := ite_t hc62 hm
  refine wp_seq (region_plain ?_)
  refine lq v59 S (q_move rfl) fun a S => ?_
  refine lq v59 S (q_assign rfl) fun a S => ?_
  refine lx_nil (thenN ?_)
  refine wp_ret (then_ret ?_)
  obtain rfl := Option.some.inj hm
  have H : Heap w0 [oA (rList (rInt .i64)) v59 x57] w55 := H.sel [0] (by decide)
  exact leave1 S rfl rfl ⟨v59, rfl, H⟩
 ·have hm := ite_f hc62 hm
  refine wp_skip (thenN ?_)
  refine wp_seq (region_plain ?_)
  refine lx_e (.agg #[(.int .i64 a0.1), (.int .i64 a0.2.1), v33, v35]) S trivial (by decide) rfl trivial (q_loadA (cs := [(.int .i64 a0.1), (.int .i64 a0.2.1), v33, v35]) rfl (isP_bp _) Tryz.isAgg31 Tryz.sizeOf31 (by rintro _ rfl; exact (fun j u hu => boxAt (i := 2) H rfl hu))) (fun a S => ?_)
  refine lq v59 S (q_move rfl) fun a S => ?_
  refine lq (sv a2) S (q_move rfl) fun a S => ?_
  obtain ⟨x65, e66, hm⟩ := bind_some hm
  refine lx_call (xs := [.tmp 15, .tmp 16, .tmp 17]) S trivial (by decide) rfl rfl Tryz.call58 ((impl_Lts_visible_ok ⟨[(.int .i64 a0.1), (.int .i64 a0.2.1), v33, v35], rfl, ⟨[(.int .i64 a0.1)], [(.int .i64 a0.2.1), v33, v35], rfl, rfl, ⟨[(.int .i64 a0.2.1)], [v33, v35], rfl, rfl, ⟨[v33], [v35], rfl, ((H.arg h34)).list_rd, ((H.arg h36)).list_rd⟩⟩⟩⟩ (H.rdAt 0 rfl)  e66).mono ?_)
  rintro e w63 ⟨v67, rfl, Hc64⟩
  have H := H.call1 Hc64
  refine ⟨_, rfl, trivial, fun a S => ?_⟩
  refine lq v67 S (q_assign rfl) fun a S => ?_
  refine lx_nil (thenN ?_)
  refine wp_ret ?_
  obtain rfl := Option.some.inj hm
  have H : Heap w0 [oA (rList (rInt .i64)) v67 x65] w63 := H.sel [0] (by decide)
  exact leave1 S rfl rfl ⟨v67, rfl, H⟩

/-- impl.WeakSuccessors -/
def impl_WeakSuccessors_m (fuel : Nat) (a0 : Timpl_Lts) (a1 : Int) (a2 : Str) : Option (((List Int) × Int)) :=
  (impl_ltsCode_m fuel (a0.1, a0.2.1, a0.2.2.1, a0.2.2.2) a1).bind fun x54 => (if (x54 != (0 : Int)) = true then some (([], x54)) else (slices_Contains__string_string_m fuel a0.2.2.1 a2).bind fun x61 => (if (!x61) = true then some (([], (3 : Int))) else (impl_Lts_weakly_m fuel (a0.1, a0.2.1, a0.2.2.1, a0.2.2.2) a1 a2).bind fun x68 => some ((x68, (0 : Int)))))
set_option maxRecDepth 20000 in
theorem impl_WeakSuccessors_ok {w0 : World} {fuel : Nat} {p0 : Value} {a0 : Timpl_Lts} {a1 : Int} {a2 : Str} {r : ((List Int) × Int)} (hG : Glob Tryz.prog w0) (h0 : Rd Rimpl_Lts w0 p0 a0) (hm : impl_WeakSuccessors_m fuel a0 a1 a2 = some r) :
  Calls Tryz.prog 15 #[p0, .int .i64 a1, sv a2] w0 fun e w => ∃ (v0 : Value), e = .returned (.tuple #[v0, .int .i64 r.2]) ∧ Heap w0 [oA (rList (rInt .i64)) v0 r.1] w := by
 unfold impl_WeakSuccessors_m at hm
 have H := Heap.start w0
 obtain ⟨c31, rfl, h32⟩ := h0
 obtain ⟨c37, c38, rfl, h39, h40⟩ := h32
 obtain rfl := h39
 obtain ⟨c41, c42, rfl, h43, h44⟩ := h40
 obtain rfl := h43
 obtain ⟨c45, c46, rfl, h47, h48⟩ := h44
 obtain ⟨v33, rfl, h34⟩ := rd_list h47
 obtain ⟨v35, rfl, h36⟩ := rd_list h48
 refine enter (args := [(.agg #[(.int .i64 a0.1), (.int .i64 a0.2.1), v33, v35]), .int .i64 a1, sv a2]) Tryz.func15 rfl 24 rfl (Nat.le_of_ble_eq_true rfl) (fun a S => ?_)
 refine wp_seq (region_plain ?_)
 refine lx_box S trivial (by decide) rfl H rfl rfl (fun b49 w50 H => ⟨trivial, fun a S => ?_⟩)
 refine lq (.slice none 0 0) S (q_assign rfl) fun a S => ?_
 refine lq (.int .i64 (0 : Int)) S (q_assign rfl) fun a S => ?_
 refine lx_nil (thenN ?_)
 refine wp_seq (wp_seq (region_plain ?_))
 refine lx_e (.agg #[(.int .i64 a0.1), (.int .i64 a0.2.1), v33, v35]) S trivial (by decide) rfl trivial (q_loadA (cs := [(.int .i64 a0.1), (.int .i64 a0.2.1), v33, v35]) rfl (isP_bp _) Tryz.isAgg31 Tryz.sizeOf31 (by rintro _ rfl; exact (fun j u hu => boxAt (i := 0) H rfl hu))) (fun a S => ?_)
 refine lq (.int .i64 a1) S (q_move rfl) fun a S => ?_
 obtain ⟨x54, e55, hm⟩ := bind_some hm
 refine lx_call (xs := [.tmp 9, .tmp 10]) S trivial (by decide) rfl rfl Tryz.call28 ((impl_ltsCode_ok (hG.ext H.ext) ⟨[(.int .i64 a0.1), (.int .i64 a0.2.1), v33, v35], rfl, ⟨[(.int .i64 a0.1)], [(.int .i64 a0.2.1), v33, v35], rfl, rfl, ⟨[(.int .i64 a0.2.1)], [v33, v35], rfl, rfl, ⟨[v33], [v35], rfl, ((H.arg h34)).list_rd, ((H.arg h36)).list_rd⟩⟩⟩⟩  e55).mono ?_)
 rintro e w52 ⟨rfl, Hc53⟩
 have H := H.call0 Hc53
 refine ⟨_, rfl, trivial, fun a S => ?_⟩
 refine lq (.int .i64 x54) S (q_assign rfl) fun a S => ?_
 refine lx_nil (thenN ?_)
 refine wp_seq (region_plain ?_)
 refine lq (.int .i64 x54) S (q_move rfl) fun a S => ?_
 refine lq (.bool (x54 != (0 : Int))) S (q_neq rfl rfl) fun a S => ?_
 refine lx_nil (thenN ?_)
 refine cond_b S rfl (fun hc57 => ?_) (fun hc57 => ?_)
 ·have hm := ite_t hc57 hm
  refine wp_seq (region_plain ?_)
  refine lq (.int .i64 x54) S (q_move rfl) fun a S => ?_
  refine lq (.slice none 0 0) S (q_assign rfl) fun a S => ?_
  refine lq (.int .i64 x54) S (q_assign rfl) fun a S => ?_
  refine lx_nil (thenN ?_)
  refine wp_ret (then_ret ?_)
  obtain rfl := Option.some.inj hm
  have H : Heap w0 [oA (rList (rInt .i64)) (.slice none 0 0) ([] : List Int), bA b49 [(.int .i64 a0.1), (.int .i64 a0.2.1), v33, v35] 31] w52 := H.nilList (rInt .i64)
  have H : Heap w0 [oA (rList (rInt .i64)) (.slice none 0 0) ([] : List Int)] w52 := H.sel [0] (by decide)
  exact leave2 S rfl rfl rfl ⟨(.slice none 0 0), rfl, H⟩
 ·have hm := ite_f hc57 hm
  refine wp_skip (thenN ?_)
  refine wp_seq (wp_seq (region_plain ?_))
  refine lq (pAdd (bp b49) 2) S (q_fieldAddr' 2 22 rfl (isP_bp _) Tryz.underlying31 rfl Tryz.sizeOf22) fun a S => ?_
  refine lx_e v33 S trivial (by decide) rfl trivial (q_load1 rfl Tryz.isAgg22 (by rintro _ rfl; exact (At.of_add (m := 2) (j := 0) (boxAt (i := 0) H rfl (j := 2) rfl)))) (fun a S => ?_)
  refine lq (sv a2) S (q_move rfl) fun a S => ?_
  obtain ⟨x61, e62, hm⟩ := bind_some hm
  refine lx_call (xs := [.tmp 16, .tmp 17]) S trivial (by decide) rfl rfl Tryz.call39 ((slices_Contains__string_string_ok (H.arg h34)  e62).mono ?_)
  rintro e w59 ⟨rfl, Hc60⟩
  have H := H.call0 Hc60
  refine ⟨_, rfl, trivial, fun a S => ?_⟩
  refine lq (.bool (!x61)) S (q_not rfl) fun a S => ?_
  refine lx_nil (thenN ?_)
  refine cond_b S rfl (fun hc64 => ?_) (fun hc64 => ?_)
  ·have hm := ite_t hc64 hm
   refine wp_seq (region_plain ?_)
   refine lq (.slice none 0 0) S (q_assign rfl) fun a S => ?_
   refine lq (.int .i64 (3 : Int)) S (q_assign rfl) fun a S => ?_
   refine lx_nil (thenN ?_)
   refine wp_ret (then_ret ?_)
   obtain rfl := Option.some.inj hm
   have H : Heap w0 [oA (rList (rInt .i64)) (.slice none 0 0) ([] : List Int), bA b49 [(.int .i64 a0.1), (.int .i64 a0.2.1), v33, v35] 31] w59 := H.nilList (rInt .i64)
   have H : Heap w0 [oA (rList (rInt .i64)) (.slice none 0 0) ([] : List Int)] w59 := H.sel [0] (by decide)
   exact leave2 S rfl rfl rfl ⟨(.slice none 0 0), rfl, H⟩
  ·have hm := ite_f hc64 hm
   refine wp_skip (thenN ?_)
   refine wp_seq (region_plain ?_)
   refine lx_e (.agg #[(.int .i64 a0.1), (.int .i64 a0.2.1), v33, v35]) S trivial (by decide) rfl trivial (q_loadA (cs := [(.int .i64 a0.1), (.int .i64 a0.2.1), v33, v35]) rfl (isP_bp _) Tryz.isAgg31 Tryz.sizeOf31 (by rintro _ rfl; exact (fun j u hu => boxAt (i := 0) H rfl hu))) (fun a S => ?_)
   refine lq (.int .i64 a1) S (q_move rfl) fun a S => ?_
   refine lq (sv a2) S (q_move rfl) fun a S => ?_
   obtain ⟨x68, e69, hm⟩ := bind_some hm
   refine lx_call (xs := [.tmp 20, .tmp 21, .tmp 22]) S trivial (by decide) rfl rfl Tryz.call40 ((impl_Lts_weakly_ok ⟨[(.int .i64 a0.1), (.int .i64 a0.2.1), v33, v35], rfl, ⟨[(.int .i64 a0.1)], [(.int .i64 a0.2.1), v33, v35], rfl, rfl, ⟨[(.int .i64 a0.2.1)], [v33, v35], rfl, rfl, ⟨[v33], [v35], rfl, ((H.arg h34)).list_rd, ((H.arg h36)).list_rd⟩⟩⟩⟩   e69).mono ?_)
   rintro e w66 ⟨v70, rfl, Hc67⟩
   have H := H.call1 Hc67
   refine ⟨_, rfl, trivial, fun a S => ?_⟩
   refine lq v70 S (q_assign rfl) fun a S => ?_
   refine lq (.int .i64 (0 : Int)) S (q_assign rfl) fun a S => ?_
   refine lx_nil (thenN ?_)
   refine wp_ret ?_
   obtain rfl := Option.some.inj hm
   have H : Heap w0 [oA (rList (rInt .i64)) v70 x68] w66 := H.sel [0] (by decide)
   exact leave2 S rfl rfl rfl ⟨v70, rfl, H⟩

/-- laws.eqInt64S -/
def laws_eqInt64S_m (fuel : Nat) (a0 : (List Int)) (a1 : (List Int)) : Option (Bool) :=
  (if ((a0.length : Int) != (a1.length : Int)) = true then some (false) else (iter (fun (s : (Int)) => (match s with | (x47) => (if (decide (x47 < (a0.length : Int))) = true then (idx a0 x47).bind fun x74 => (idx a1 x47).bind fun x79 => (if (x74 != x79) = true then some (.inr (.inr false)) else some (.inl ((W (x47 + (1 : Int)))))) else some (.inr (.inl ()))) : Option (((Int)) ⊕ ((Unit) ⊕ (Bool))))) fuel ((0 : Int))).bind fun res63 => ctl (β := Unit) (ρ := Bool) (τ := Bool) res63 (fun _ => some (true)) (fun q => some (q)))
set_option maxRecDepth 20000 in
theorem laws_eqInt64S_ok {w0 : World} {fuel : Nat} {p0 p1 : Value} {a0 : (List Int)} {a1 : (List Int)} {r : Bool} (h0 : Rd (rList (rInt .i64)) w0 p0 a0) (h1 : Rd (rList (rInt .i64)) w0 p1 a1) (hm : laws_eqInt64S_m fuel a0 a1 = some r) :
  Calls Tryz.prog 16 #[p0, p1] w0 fun e w => e = .returned (.bool r) ∧ Heap w0 [] w := by
 unfold laws_eqInt64S_m at hm
 have H := Heap.start w0
 refine enter (args := [p0, p1]) Tryz.func16 rfl 26 rfl (Nat.le_of_ble_eq_true rfl) (fun a S => ?_)
 refine wp_seq (region_plain ?_)
 refine lq (.bool false) S (q_assign rfl) fun a S => ?_
 refine lx_nil (thenN ?_)
 refine wp_seq (wp_seq (region_plain ?_))
 refine lq p0 S (q_move rfl) fun a S => ?_
 refine lq (.int .i64 (a0.length : Int)) S (q_lenSl rfl (h0).isSl rfl Tryz.underlying38) fun a S => ?_
 refine lq p1 S (q_move rfl) fun a S => ?_
 refine lq (.int .i64 (a1.length : Int)) S (q_lenSl rfl (h1).isSl rfl Tryz.underlying38) fun a S => ?_
 refine lq (.bool ((a0.length : Int) != (a1.length : Int))) S (q_neq rfl rfl) fun a S => ?_
 refine lx_nil (thenN ?_)
 refine cond_b S rfl (fun hc31 => ?_) (fun hc31 => ?_)
 ·have hm := ite_t hc31 hm
  refine wp_seq (region_plain ?_)
  refine lq (.bool false) S (q_assign rfl) fun a S => ?_
  refine lx_nil (thenN ?_)
  refine wp_ret (then_ret ?_)
  obtain rfl := Option.some.inj hm
  exact leave1 S rfl rfl ⟨rfl, H⟩
 ·have hm := ite_f hc31 hm
  refine wp_skip (thenN ?_)
  refine wp_seq (wp_seq (region_plain ?_))
  refine lq (.int .i64 (0 : Int)) S (q_assign rfl) fun a S => ?_
  refine lx_nil (thenN ?_)
  obtain ⟨res63, hit64, hk67⟩ := bind_some hm
  obtain ⟨f65, hf66, hit64⟩ := iter_name hit64
  refine block_loop (fun a w => Slots a 26 [] ∧ Heap w0 [] w ∧ res63 = .inl ()) ?_ ?_
  ·rintro a w ⟨S, H, rfl⟩
   have hm := ctl_inl hk67
   refine thenN ?_
   refine wp_seq (region_plain ?_)
   refine lq (.bool true) S (q_assign rfl) fun a S => ?_
   refine lx_nil (thenN ?_)
   refine wp_ret ?_
   obtain rfl := Option.some.inj hm
   exact leave1 S rfl rfl ⟨rfl, H⟩
  ·skip
   refine loop_ghost (fun n a w => ∃ (x47 : Int), Slots a 26 [(0, p0), (1, p1), (5, (.int .i64 x47))] ∧ Heap w0 [] w ∧ iter f65 n (x47) = some res63) _ ⟨(0 : Int), S.sub ⟨rfl, rfl, rfl, trivial⟩, H, hit64⟩ ?_
   rintro n a w ⟨x47, S, H, hit64⟩
   obtain ⟨m68, o69, rfl, hm, hc70⟩ := iter_step hit64
   rw [hf66] at hm
   refine wp_seq (wp_seq (region_plain ?_))
   refine lq (.int .i64 x47) S (q_move rfl) fun a S => ?_
   refine lq p0 S (q_move rfl) fun a S => ?_
   refine lq (.int .i64 (a0.length : Int)) S (q_lenSl rfl (h0).isSl rfl Tryz.underlying38) fun a S => ?_
   refine lq (.bool (decide (x47 < (a0.length : Int)))) S (q_lss rfl rfl) fun a S => ?_
   refine lx_nil (thenN ?_)
   refine cond_b S rfl (fun hc71 => ?_) (fun hc71 => ?_)
   ·have hm := ite_t hc71 hm
    refine wp_skip (thenN ?_)
    refine wp_seq ?_
    refine wp_block ?_
    refine wp_seq ?_
    refine region_drawG (fun w1 => Heap w0 [] w1) (fun i => [].contains i) mixed (by kernel_rfl) (fun w73 he72 => ?_)
    have H := H.later he72
    refine ⟨H.sel [] (by decide), ?_⟩
    refine lq p0 S (q_move rfl) fun a S => ?_
    refine lq (.int .i64 x47) S (q_move rfl) fun a S => ?_
    obtain ⟨x74, e75, hm⟩ := bind_some hm
    obtain ⟨c76, h77, hat78⟩ := (h0).elem (idx_some e75).2
    obtain rfl := h77
    have hlt := lt_of_idx (idx_some e75).2
    refine lq (ePtr p0 (x47.toNat * 1)) S (q_indexAddr rfl (h0).isSl rfl (idx_some e75).1 hlt Tryz.underlying38 Tryz.sizeOf2) fun a S => ?_
    refine lq (.int .i64 x74) S (q_load1 rfl Tryz.isAgg2 (fun w1 hC => ((hat78 0 _ rfl).ext hC.ext))) fun a S => ?_
    refine lq p1 S (q_move rfl) fun a S => ?_
    refine lq (.int .i64 x47) S (q_move rfl) fun a S => ?_
    obtain ⟨x79, e80, hm⟩ := bind_some hm
    obtain ⟨c81, h82, hat83⟩ := (h1).elem (idx_some e80).2
    obtain rfl := h82
    have hlt := lt_of_idx (idx_some e80).2
    refine lq (ePtr p1 (x47.toNat * 1)) S (q_indexAddr rfl (h1).isSl rfl (idx_some e80).1 hlt Tryz.underlying38 Tryz.sizeOf2) fun a S => ?_
    refine lq (.int .i64 x79) S (q_load1 rfl Tryz.isAgg2 (fun w1 hC => ((hat83 0 _ rfl).ext hC.ext))) fun a S => ?_
    refine lq (.bool (x74 != x79)) S (q_neq rfl rfl) fun a S => ?_
    refine lx_nil (thenN ?_)
    refine cond_b S rfl (fun hc84 => ?_) (fun hc84 => ?_)
    ·have hm := ite_t hc84 hm
     refine wp_seq (region_plain ?_)
     refine lq (.bool false) S (q_assign rfl) fun a S => ?_
     refine lx_nil (thenN ?_)
     refine wp_ret (inBlock_ret ?_)
     refine then_ret ?_
     refine then_ret ?_
     refine inBlock_ret ?_
     refine then_ret ?_
     refine then_ret ?_
     obtain rfl := it_brk hm hc70
     have hm := ctl_inr hk67
     obtain rfl := Option.some.inj hm
     exact leave1 S rfl rfl ⟨rfl, H⟩
    ·have hm := ite_f hc84 hm
     refine wp_skip ?_
     refine inBlock_norm ?_
     refine thenN ?_
     refine region_plain ?_
     refine lq (.int .i64 x47) S (q_move rfl) fun a S => ?_
     refine lq (.int .i64 (W (x47 + (1 : Int)))) S (q_add rfl rfl) fun a S => ?_
     refine lq (.int .i64 (W (x47 + (1 : Int)))) S (q_assign rfl) fun a S => ?_
     refine lx_nil ?_
     exact ⟨m68, Nat.lt_succ_self _, (W (x47 + (1 : Int))), S.sub ⟨rfl, rfl, rfl, trivial⟩, H, it_cont hm hc70⟩
   ·have hm := ite_f hc71 hm
    refine wp_exit ?_
    refine then_exit ?_
    refine then_exit ?_
    refine inBlock_exit ?_
    obtain rfl := it_brk hm hc70
    exact ⟨S.sub trivial, H, rfl⟩

/-- laws.markInt64S -/
def laws_markInt64S_m (fuel : Nat) (a0 : (List Int)) (a1 : Int) : Option (Int × (List Int)) :=
  (iter (fun (s : (List Int) × (Int) × (Int)) => (match s with | (xs38, x39, x40) => (if (decide (x40 < (xs38.length : Int))) = true then (idx xs38 x40).bind fun _ => some (.inl ((xs38.set x40.toNat x39), (W (x39 + (1 : Int))), (W (x40 + (1 : Int))))) else some (.inr (.inl (x39, xs38)))) : Option (((List Int) × (Int) × (Int)) ⊕ ((Int × (List Int)) ⊕ (Int × (List Int)))))) fuel (a0, a1, (0 : Int))).bind fun res50 => ctl (β := Int × (List Int)) (ρ := Int × (List Int)) (τ := Int × (List Int)) res50 (fun (x48, xs49) => some ((x48, xs49))) (fun q => some (q))
set_option maxRecDepth 20000 in
theorem laws_markInt64S_ok {w0 : World} {fuel : Nat} {p0 : Value} {a0 : (List Int)} {a1 : Int} {w00 : World} {L : List Asrt} {r : Int × (List Int)} (H : Heap w00 (oA (rList (rInt .i64)) p0 a0 :: L) w0) (hm : laws_markInt64S_m fuel a0 a1 = some r) :
  Calls Tryz.prog 17 #[p0, .int .i64 a1] w0 fun e w => e = .returned (.int .i64 r.1) ∧ Heap w00 (oA (rList (rInt .i64)) p0 r.2 :: L) w := by
 unfold laws_markInt64S_m at hm
 refine enter (args := [p0, .int .i64 a1]) Tryz.func17 rfl 19 rfl (Nat.le_of_ble_eq_true rfl) (fun a S => ?_)
 refine wp_seq (region_plain ?_)
 refine lq (.int .i64 (0 : Int)) S (q_assign rfl) fun a S => ?_
 refine lx_nil (thenN ?_)
 refine wp_seq (wp_seq (region_plain ?_))
 refine lq (.int .i64 (0 : Int)) S (q_assign rfl) fun a S => ?_
 refine lx_nil (thenN ?_)
 obtain ⟨res50, hit51, hk54⟩ := bind_some hm
 obtain ⟨f52, hf53, hit51⟩ := iter_name hit51
 refine block_loop (fun a w => ∃ (x48 : Int) (xs49 : List Int), Slots a 19 [(1, (.int .i64 x48))] ∧ Heap w00 (oA (rList (rInt .i64)) p0 xs49 :: L) w ∧ res50 = .inl (x48, xs49)) ?_ ?_
 ·rintro a w ⟨x48, xs49, S, H, rfl⟩
  have hm := ctl_inl hk54
  refine thenN ?_
  refine wp_seq (region_plain ?_)
  refine lq (.int .i64 x48) S (q_move rfl) fun a S => ?_
  refine lq (.int .i64 x48) S (q_assign rfl) fun a S => ?_
  refine lx_nil (thenN ?_)
  refine wp_ret ?_
  obtain rfl := Option.some.inj hm
  exact leave1 S rfl rfl ⟨rfl, H⟩
 ·skip
  refine loop_ghost (fun n a w => ∃ (xs38 : List Int) (x39 : Int) (x40 : Int), Slots a 19 [(0, p0), (1, (.int .i64 x39)), (5, (.int .i64 x40))] ∧ Heap w00 (oA (rList (rInt .i64)) p0 xs38 :: L) w ∧ iter f52 n (xs38, x39, x40) = some res50) _ ⟨a0, a1, (0 : Int), S.sub ⟨rfl, rfl, rfl, trivial⟩, H, hit51⟩ ?_
  rintro n a w ⟨xs38, x39, x40, S, H, hit51⟩
  obtain ⟨m55, o56, rfl, hm, hc57⟩ := iter_step hit51
  rw [hf53] at hm
  refine wp_seq (wp_seq (region_plain ?_))
  refine lq (.int .i64 x40) S (q_move rfl) fun a S => ?_
  refine lq p0 S (q_move rfl) fun a S => ?_
  refine lq (.int .i64 (xs38.length : Int)) S (q_lenSl rfl (H.isSl 0 rfl) rfl Tryz.underlying38) fun a S => ?_
  refine lq (.bool (decide (x40 < (xs38.length : Int)))) S (q_lss rfl rfl) fun a S => ?_
  refine lx_nil (thenN ?_)
  refine cond_b S rfl (fun hc58 => ?_) (fun hc58 => ?_)
  ·have hm := ite_t hc58 hm
   refine wp_skip (thenN ?_)
   refine wp_seq ?_
   refine wp_block ?_
   refine wp_seq (region_plain ?_)
   refine lq p0 S (q_move rfl) fun a S => ?_
   refine lq (.int .i64 x40) S (q_move rfl) fun a S => ?_
   refine lq (.int .i64 x39) S (q_move rfl) fun a S => ?_
   obtain ⟨x59, e60, hm⟩ := bind_some hm
   have hlt := lt_of_idx (idx_some e60).2
   refine lq (ePtr p0 (x40.toNat * 1)) S (q_indexAddr rfl (H.isSl 0 rfl) rfl (idx_some e60).1 hlt Tryz.underlying38 Tryz.sizeOf2) fun a S => ?_
   refine lx_storeElem (r := (rInt .i64)) (us := [(.int .i64 x39)]) (off := 0) (e' := x39) S trivial rfl H.putE (ev_zero rfl) rfl (idx_some e60).2 rfl Tryz.sizeOf2 (Nat.le_of_ble_eq_true rfl) (List.forall_mem_cons.2 ⟨rfl, (fun _ h => nomatch h)⟩) (Upd.full rfl (fun w G hG => by cases (show G = [] from hG); exact ⟨rfl, rfl⟩)) (fun w61 H => ⟨trivial, fun a S => ?_⟩)
   refine lx_nil (thenN ?_)
   refine region_plain ?_
   refine lq (.int .i64 x39) S (q_move rfl) fun a S => ?_
   refine lq (.int .i64 (W (x39 + (1 : Int)))) S (q_add rfl rfl) fun a S => ?_
   refine lq (.int .i64 (W (x39 + (1 : Int)))) S (q_assign rfl) fun a S => ?_
   refine lx_nil ?_
   refine inBlock_norm ?_
   refine thenN ?_
   refine region_plain ?_
   refine lq (.int .i64 x40) S (q_move rfl) fun a S => ?_
   refine lq (.int .i64 (W (x40 + (1 : Int)))) S (q_add rfl rfl) fun a S => ?_
   refine lq (.int .i64 (W (x40 + (1 : Int)))) S (q_assign rfl) fun a S => ?_
   refine lx_nil ?_
   exact ⟨m55, Nat.lt_succ_self _, (xs38.set x40.toNat x39), (W (x39 + (1 : Int))), (W (x40 + (1 : Int))), S.sub ⟨rfl, rfl, rfl, trivial⟩, H, it_cont hm hc57⟩
  ·have hm := ite_f hc58 hm
   refine wp_exit ?_
   refine then_exit ?_
   refine then_exit ?_
   refine inBlock_exit ?_
   obtain rfl := it_brk hm hc57
   exact ⟨x39, xs38, S.sub ⟨rfl, trivial⟩, H, rfl⟩

/-- laws.heldInt64S -/
def laws_heldInt64S_m (fuel : Nat) (a0 : (List Int)) (a1 : Int) : Option (Int) :=
  (iter (fun (s : (Int) × (Int)) => (match s with | (x40, x41) => (if (decide (x41 < (a0.length : Int))) = true then (idx a0 x41).bind fun x61 => (if (x61 != x40) = true then some (.inr (.inr (-1 : Int))) else some (.inl ((W (x40 + (1 : Int))), (W (x41 + (1 : Int)))))) else some (.inr (.inl (x40)))) : Option (((Int) × (Int)) ⊕ ((Int) ⊕ (Int))))) fuel (a1, (0 : Int))).bind fun res52 => ctl (β := Int) (ρ := Int) (τ := Int) res52 (fun (x51) => some (x51)) (fun q => some (q))
set_option maxRecDepth 20000 in
theorem laws_heldInt64S_ok {w0 : World} {fuel : Nat} {p0 : Value} {a0 : (List Int)} {a1 : Int} {r : Int} (h0 : Rd (rList (rInt .i64)) w0 p0 a0) (hm : laws_heldInt64S_m fuel a0 a1 = some r) :
  Calls Tryz.prog 18 #[p0, .int .i64 a1] w0 fun e w => e = .returned (.int .i64 r) ∧ Heap w0 [] w := by
 unfold laws_heldInt64S_m at hm
 have H := Heap.start w0
 refine enter (args := [p0, .int .i64 a1]) Tryz.func18 rfl 21 rfl (Nat.le_of_ble_eq_true rfl) (fun a S => ?_)
 refine wp_seq (region_plain ?_)
 refine lq (.int .i64 (0 : Int)) S (q_assign rfl) fun a S => ?_
 refine lx_nil (thenN ?_)
 refine wp_seq (wp_seq (region_plain ?_))
 refine lq (.int .i64 (0 : Int)) S (q_assign rfl) fun a S => ?_
 refine lx_nil (thenN ?_)
 obtain ⟨res52, hit53, hk56⟩ := bind_some hm
 obtain ⟨f54, hf55, hit53⟩ := iter_name hit53
 refine block_loop (fun a w => ∃ (x51 : Int), Slots a 21 [(1, (.int .i64 x51))] ∧ Heap w0 [] w ∧ res52 = .inl (x51)) ?_ ?_
 ·rintro a w ⟨x51, S, H, rfl⟩
  have hm := ctl_inl hk56
  refine thenN ?_
  refine wp_seq (region_plain ?_)
  refine lq (.int .i64 x51) S (q_move rfl) fun a S => ?_
  refine lq (.int .i64 x51) S (q_assign rfl) fun a S => ?_
  refine lx_nil (thenN ?_)
  refine wp_ret ?_
  obtain rfl := Option.some.inj hm
  exact leave1 S rfl rfl ⟨rfl, H⟩
 ·skip
  refine loop_ghost (fun n a w => ∃ (x40 : Int) (x41 : Int), Slots a 21 [(0, p0), (1, (.int .i64 x40)), (5, (.int .i64 x41))] ∧ Heap w0 [] w ∧ iter f54 n (x40, x41) = some res52) _ ⟨a1, (0 : Int), S.sub ⟨rfl, rfl, rfl, trivial⟩, H, hit53⟩ ?_
  rintro n a w ⟨x40, x41, S, H, hit53⟩
  obtain ⟨m57, o58, rfl, hm, hc59⟩ := iter_step hit53
  rw [hf55] at hm
  refine wp_seq (wp_seq (region_plain ?_))
  refine lq (.int .i64 x41) S (q_move rfl) fun a S => ?_
  refine lq p0 S (q_move rfl) fun a S => ?_
  refine lq (.int .i64 (a0.length : Int)) S (q_lenSl rfl (h0).isSl rfl Tryz.underlying38) fun a S => ?_
  refine lq (.bool (decide (x41 < (a0.length : Int)))) S (q_lss rfl rfl) fun a S => ?_
  refine lx_nil (thenN ?_)
  refine cond_b S rfl (fun hc60 => ?_) (fun hc60 => ?_)
  ·have hm := ite_t hc60 hm
   refine wp_skip (thenN ?_)
   refine wp_seq ?_
   refine wp_block ?_
   refine wp_seq (wp_seq (region_plain ?_))
   refine lq p0 S (q_move rfl) fun a S => ?_
   refine lq (.int .i64 x41) S (q_move rfl) fun a S => ?_
   obtain ⟨x61, e62, hm⟩ := bind_some hm
   obtain ⟨c63, h64, hat65⟩ := (h0).elem (idx_some e62).2
   obtain rfl := h64
   have hlt := lt_of_idx (idx_some e62).2
   refine lq (ePtr p0 (x41.toNat * 1)) S (q_indexAddr rfl (h0).isSl rfl (idx_some e62).1 hlt Tryz.underlying38 Tryz.sizeOf2) fun a S => ?_
   refine lx_e (.int .i64 x61) S trivial (by decide) rfl trivial (q_load1 rfl Tryz.isAgg2 (by rintro _ rfl; exact ((hat65 0 _ rfl).ext H.ext))) (fun a S => ?_)
   refine lq (.int .i64 x40) S (q_move rfl) fun a S => ?_
   refine lq (.bool (x61 != x40)) S (q_neq rfl rfl) fun a S => ?_
   refine lx_nil (thenN ?_)
   refine cond_b S rfl (fun hc66 => ?_) (fun hc66 => ?_)
   ·have hm := ite_t hc66 hm
    refine wp_seq (region_plain ?_)
    refine lq (.int .i64 (-1 : Int)) S (q_assign rfl) fun a S => ?_
    refine lx_nil (thenN ?_)
    refine wp_ret (then_ret ?_)
    refine inBlock_ret ?_
    refine then_ret ?_
    refine then_ret ?_
    refine inBlock_ret ?_
    refine then_ret ?_
    refine then_ret ?_
    obtain rfl := it_brk hm hc59
    have hm := ctl_inr hk56
    obtain rfl := Option.some.inj hm
    exact leave1 S rfl rfl ⟨rfl, H⟩
   ·have hm := ite_f hc66 hm
    refine wp_skip (thenN ?_)
    refine region_plain ?_
    refine lq (.int .i64 x40) S (q_move rfl) fun a S => ?_
    refine lq (.int .i64 (W (x40 + (1 : Int)))) S (q_add rfl rfl) fun a S => ?_
    refine lq (.int .i64 (W (x40 + (1 : Int)))) S (q_assign rfl) fun a S => ?_
    refine lx_nil ?_
    refine inBlock_norm ?_
    refine thenN ?_
    refine region_plain ?_
    refine lq (.int .i64 x41) S (q_move rfl) fun a S => ?_
    refine lq (.int .i64 (W (x41 + (1 : Int)))) S (q_add rfl rfl) fun a S => ?_
    refine lq (.int .i64 (W (x41 + (1 : Int)))) S (q_assign rfl) fun a S => ?_
    refine lx_nil ?_
    exact ⟨m57, Nat.lt_succ_self _, (W (x40 + (1 : Int))), (W (x41 + (1 : Int))), S.sub ⟨rfl, rfl, rfl, trivial⟩, H, it_cont hm hc59⟩
  ·have hm := ite_f hc60 hm
   refine wp_exit ?_
   refine then_exit ?_
   refine then_exit ?_
   refine inBlock_exit ?_
   obtain rfl := it_brk hm hc59
   exact ⟨x40, S.sub ⟨rfl, trivial⟩, H, rfl⟩

/-- laws.FnExactWeakSuccessors -/
def laws_FnExactWeakSuccessors_m (fuel : Nat) (a0 : Tlaws_Lts) (a1 : Int) (a2 : Str) : Option (Bool) :=
  (if (decide ((1048576 : Int) < (a2.length : Int))) = true then some (true) else (laws_szLts_m fuel (a0.1, a0.2.1, a0.2.2.1, a0.2.2.2) (1048576 : Int)).bind fun x55 => (if (decide (x55 < (0 : Int))) = true then some (true) else (laws_toLts_m fuel (a0.1, a0.2.1, a0.2.2.1, a0.2.2.2)).bind fun x61 => (spec_WeakSuccessors_m fuel (x61.1, x61.2.1, x61.2.2.1, x61.2.2.2) a1 a2).bind fun x70 => (laws_toLts_m fuel (a0.1, a0.2.1, a0.2.2.1, a0.2.2.2)).bind fun x77 => (impl_WeakSuccessors_m fuel (x77.1, x77.2.1, x77.2.2.1, x77.2.2.2) a1 a2).bind fun x90 => (laws_eqInt64S_m fuel x90.1 x70.1).bind fun x97 => (if (!x97) = true then some true else some (x90.2 != x70.2)).bind fun t100 => (if t100 = true then some (false) else (laws_toLts_m fuel (a0.1, a0.2.1, a0.2.2.1, a0.2.2.2)).bind fun x108 => (laws_eqLts_m fuel (x77.1, x77.2.1, x77.2.2.1, x77.2.2.2) (x108.1, x108.2.1, x108.2.2.1, x108.2.2.2)).bind fun x117 => (if (!x117) = true then some (false) else (laws_markLts_m fuel (x77.1, x77.2.1, x77.2.2.1, x77.2.2.2) (1 : Int)).bind fun x123 => (if (decide (x123.1 < (0 : Int))) = true then some true else (laws_eqInt64S_m fuel x90.1 x70.1).bind fun x130 => some (!x130)).bind fun t125 => (if t125 = true then some true else some (x90.2 != x70.2)).bind fun t133 => (if t133 = true then some (false) else (laws_markInt64S_m fuel x90.1 (1 : Int)).bind fun x139 => (laws_heldInt64S_m fuel x139.2 (1 : Int)).bind fun x143 => (if (decide (x143 < (0 : Int))) = true then some (false) else (if (x143 != x139.1) = true then some (false) else (laws_toLts_m fuel (a0.1, a0.2.1, a0.2.2.1, a0.2.2.2)).bind fun x150 => (impl_WeakSuccessors_m fuel (x150.1, x150.2.1, x150.2.2.1, x150.2.2.2) a1 a2).bind fun x159 => (laws_eqInt64S_m fuel x159.1 x70.1).bind fun x166 => (if (!x166) = true then some true else some (x159.2 != x70.2)).bind fun t169 => (if t169 = true then some (false) else (laws_heldInt64S_m fuel x139.2 (1 : Int)).bind fun x175 => (if (decide (x175 < (0 : Int))) = true then some (false) else (if (x175 != x139.1) = true then some (false) else some (true)))))))))))
set_option maxRecDepth 20000 in
theorem laws_FnExactWeakSuccessors_ok {w0 : World} {fuel : Nat} {p0 : Value} {a0 : Tlaws_Lts} {a1 : Int} {a2 : Str} {r : Bool} (hG : Glob Tryz.prog w0) (h0 : Rd Rlaws_Lts w0 p0 a0) (hm : laws_FnExactWeakSuccessors_m fuel a0 a1 a2 = some r) :
  Calls Tryz.prog 4 #[p0, .int .i64 a1, sv a2] w0 fun e w => e = .returned (.bool r) ∧ Heap w0 [] w := by
 unfold laws_FnExactWeakSuccessors_m at hm
 have H := Heap.start w0
 obtain ⟨c31, rfl, h32⟩ := h0
 obtain ⟨c37, c38, rfl, h39, h40⟩ := h32
 obtain rfl := h39
 obtain ⟨c41, c42, rfl, h43, h44⟩ := h40
 obtain rfl := h43
 obtain ⟨c45, c46, rfl, h47, h48⟩ := h44
 obtain ⟨v33, rfl, h34⟩ := rd_list h47
 obtain ⟨v35, rfl, h36⟩ := rd_list h48
 refine enter (args := [(.agg #[(.int .i64 a0.1), (.int .i64 a0.2.1), v33, v35]), .int .i64 a1, sv a2]) Tryz.func4 rfl 109 rfl (Nat.le_of_ble_eq_true rfl) (fun a S => ?_)
 refine wp_seq (region_plain ?_)
 refine lx_box S trivial (by decide) rfl H rfl rfl (fun b49 w50 H => ⟨trivial, fun a S => ?_⟩)
 refine lq (.bool false) S (q_assign rfl) fun a S => ?_
 refine lx_nil (thenN ?_)
 refine wp_seq (wp_seq (region_plain ?_))
 refine lq (sv a2) S (q_move rfl) fun a S => ?_
 refine lq (.int .i64 (a2.length : Int)) S (q_lenStr rfl rfl Tryz.underlying9) fun a S => ?_
 refine lq (.bool (decide ((1048576 : Int) < (a2.length : Int)))) S (q_gtr rfl rfl) fun a S => ?_
 refine lx_nil (thenN ?_)
 refine cond_b S rfl (fun hc52 => ?_) (fun hc52 => ?_)
 ·have hm := ite_t hc52 hm
  refine wp_seq (region_plain ?_)
  refine lq (.bool true) S (q_assign rfl) fun a S => ?_
  refine lx_nil (thenN ?_)
  refine wp_ret (then_ret ?_)
  obtain rfl := Option.some.inj hm
  have H : Heap w0 [] w50 := H.sel [] (by decide)
  exact leave1 S rfl rfl ⟨rfl, H⟩
 ·have hm := ite_f hc52 hm
  refine wp_skip (thenN ?_)
  refine wp_seq (region_plain ?_)
  refine lq (.int .i64 (1048576 : Int)) S (q_assign rfl) fun a S => ?_
  refine lx_nil (thenN ?_)
  refine wp_seq (region_plain ?_)
  refine lx_e (.agg #[(.int .i64 a0.1), (.int .i64 a0.2.1), v33, v35]) S trivial (by decide) rfl trivial (q_loadA (cs := [(.int .i64 a0.1), (.int .i64 a0.2.1), v33, v35]) rfl (isP_bp _) Tryz.isAgg25 Tryz.sizeOf25 (by rintro _ rfl; exact (fun j u hu => boxAt (i := 0) H rfl hu))) (fun a S => ?_)
  refine lq (.int .i64 (1048576 : Int)) S (q_move rfl) fun a S => ?_
  obtain ⟨x55, e56, hm⟩ := bind_some hm
  refine lx_call (xs := [.tmp 21, .tmp 22]) S trivial (by decide) rfl rfl Tryz.call5 ((laws_szLts_ok ⟨[(.int .i64 a0.1), (.int .i64 a0.2.1), v33, v35], rfl, ⟨[(.int .i64 a0.1)], [(.int .i64 a0.2.1), v33, v35], rfl, rfl, ⟨[(.int .i64 a0.2.1)], [v33, v35], rfl, rfl, ⟨[v33], [v35], rfl, ((H.arg h34)).list_rd, ((H.arg h36)).list_rd⟩⟩⟩⟩  e56).mono ?_)
  rintro e w53 ⟨rfl, Hc54⟩
  have H := H.call0 Hc54
  refine ⟨_, rfl, trivial, fun a S => ?_⟩
  refine lq (.int .i64 x55) S (q_assign rfl) fun a S => ?_
  refine lx_nil (thenN ?_)
  refine wp_seq (wp_seq (region_plain ?_))
  refine lq (.int .i64 x55) S (q_move rfl) fun a S => ?_
  refine lq (.bool (decide (x55 < (0 : Int)))) S (q_lss rfl rfl) fun a S => ?_
  refine lx_nil (thenN ?_)
  refine cond_b S rfl (fun hc58 => ?_) (fun hc58 => ?_)
  ·have hm := ite_t hc58 hm
   refine wp_seq (region_plain ?_)
   refine lq (.bool true) S (q_assign rfl) fun a S => ?_
   refine lx_nil (thenN ?_)
   refine wp_ret (then_ret ?_)
   obtain rfl := Option.some.inj hm
   have H : Heap w0 [] w53 := H.sel [] (by decide)
   exact leave1 S rfl rfl ⟨rfl, H⟩
  ·have hm := ite_f hc58 hm
   refine wp_skip (thenN ?_)
   refine wp_seq (region_plain ?_)
   refine lx_e (.agg #[(.int .i64 a0.1), (.int .i64 a0.2.1), v33, v35]) S trivial (by decide) rfl trivial (q_loadA (cs := [(.int .i64 a0.1), (.int .i64 a0.2.1), v33, v35]) rfl (isP_bp _) Tryz.isAgg25 Tryz.sizeOf25 (by rintro _ rfl; exact (fun j u hu => boxAt (i := 0) H rfl hu))) (fun a S => ?_)
   obtain ⟨x61, e62, hm⟩ := bind_some hm
   refine lx_call (xs := [.tmp 27]) S trivial (by decide) rfl rfl Tryz.call7 ((laws_toLts_ok ⟨[(.int .i64 a0.1), (.int .i64 a0.2.1), v33, v35], rfl, ⟨[(.int .i64 a0.1)], [(.int .i64 a0.2.1), v33, v35], rfl, rfl, ⟨[(.int .i64 a0.2.1)], [v33, v35], rfl, rfl, ⟨[v33], [v35], rfl, ((H.arg h34)).list_rd, ((H.arg h36)).list_rd⟩⟩⟩⟩ e62).mono ?_)
   rintro e w59 ⟨v63, v64, rfl, Hc60⟩
   have H := H.call2 Hc60
   refine ⟨_, rfl, trivial, fun a S => ?_⟩
   refine lq (.int .i64 a1) S (q_move rfl) fun a S => ?_
   refine lq (sv a2) S (q_move rfl) fun a S => ?_
   obtain ⟨x70, e71, hm⟩ := bind_some hm
   refine lx_call (xs := [.tmp 28, .tmp 29, .tmp 30]) S trivial (by decide) rfl rfl Tryz.call14 ((spec_WeakSuccessors_ok ⟨[(.int .i64 x61.1), (.int .i64 x61.2.1), v63, v64], rfl, ⟨[(.int .i64 x61.1)], [(.int .i64 x61.2.1), v63, v64], rfl, rfl, ⟨[(.int .i64 x61.2.1)], [v63, v64], rfl, rfl, ⟨[v63], [v64], rfl, ((H.rdAt 0 rfl)).list_rd, ((H.rdAt 1 rfl)).list_rd⟩⟩⟩⟩   e71).mono ?_)
   rintro e w68 ⟨v72, rfl, Hc69⟩
   have H := H.call1 Hc69
   refine ⟨_, rfl, trivial, fun a S => ?_⟩
   refine lq (.tuple #[v72, (.int .i64 x70.2)]) S (q_move rfl) fun a S => ?_
   refine lq v72 S (q_extract rfl rfl) fun a S => ?_
   refine lq (.int .i64 x70.2) S (q_extract rfl rfl) fun a S => ?_
   refine lq v72 S (q_assign rfl) fun a S => ?_
   refine lq (.int .i64 x70.2) S (q_assign rfl) fun a S => ?_
   refine lx_nil (thenN ?_)
   refine wp_seq (region_plain ?_)
   refine lx_e (.agg #[(.int .i64 a0.1), (.int .i64 a0.2.1), v33, v35]) S trivial (by decide) rfl trivial (q_loadA (cs := [(.int .i64 a0.1), (.int .i64 a0.2.1), v33, v35]) rfl (isP_bp _) Tryz.isAgg25 Tryz.sizeOf25 (by rintro _ rfl; exact (fun j u hu => boxAt (i := 3) H rfl hu))) (fun a S => ?_)
   obtain ⟨x77, e78, hm⟩ := bind_some hm
   refine lx_call (xs := [.tmp 34]) S trivial (by decide) rfl rfl Tryz.call7 ((laws_toLts_ok ⟨[(.int .i64 a0.1), (.int .i64 a0.2.1), v33, v35], rfl, ⟨[(.int .i64 a0.1)], [(.int .i64 a0.2.1), v33, v35], rfl, rfl, ⟨[(.int .i64 a0.2.1)], [v33, v35], rfl, rfl, ⟨[v33], [v35], rfl, ((H.arg h34)).list_rd, ((H.arg h36)).list_rd⟩⟩⟩⟩ e78).mono ?_)
   rintro e w75 ⟨v79, v80, rfl, Hc76⟩
   have H := H.call2 Hc76
   refine ⟨_, rfl, trivial, fun a S => ?_⟩
   refine lx_alloc S trivial (by decide) rfl H Tryz.zeroValue31 rfl (fun b84 w85 H => ⟨trivial, fun a S => ?_⟩)
   refine lx_storeBox (o := 0) (i := 0) (us := [(.int .i64 x77.1), (.int .i64 x77.2.1), v79, v80]) (cs' := [(.int .i64 x77.1), (.int .i64 x77.2.1), v79, v80]) S trivial rfl H rfl rfl rfl rfl Tryz.sizeOf31 (Nat.le_of_ble_eq_true rfl) (List.forall_mem_cons.2 ⟨rfl, (List.forall_mem_cons.2 ⟨rfl, (List.forall_mem_cons.2 ⟨one_sl (H.isSl 1 rfl), (List.forall_mem_cons.2 ⟨one_sl (H.isSl 2 rfl), (fun _ h => nomatch h)⟩)⟩)⟩)⟩) rfl (fun w87 H => ⟨trivial, fun a S => ?_⟩)
   change Heap w0 [bA b84 [(.int .i64 x77.1), (.int .i64 x77.2.1), v79, v80] 31, oA (rList rStr) v79 x77.2.2.1, oA (rList Rimpl_Edge) v80 x77.2.2.2, oA (rList (rInt .i64)) v72 x70.1, oA (rList rStr) v63 x61.2.2.1, oA (rList Rimpl_Edge) v64 x61.2.2.2, bA b49 [(.int .i64 a0.1), (.int .i64 a0.2.1), v33, v35] 25] w87 at H
   refine lx_nil (thenN ?_)
   refine wp_seq (region_plain ?_)
   refine lx_e (.agg #[(.int .i64 x77.1), (.int .i64 x77.2.1), v79, v80]) S trivial (by decide) rfl trivial (q_loadA (cs := [(.int .i64 x77.1), (.int .i64 x77.2.1), v79, v80]) rfl (isP_bp _) Tryz.isAgg31 Tryz.sizeOf31 (by rintro _ rfl; exact (fun j u hu => boxAt (i := 0) H rfl hu))) (fun a S => ?_)
   refine lq (.int .i64 a1) S (q_move rfl) fun a S => ?_
   refine lq (sv a2) S (q_move rfl) fun a S => ?_
   obtain ⟨x90, e91, hm⟩ := bind_some hm
   refine lx_call (xs := [.tmp 37, .tmp 38, .tmp 39]) S trivial (by decide) rfl rfl Tryz.call15 ((impl_WeakSuccessors_ok (hG.ext H.ext) ⟨[(.int .i64 x77.1), (.int .i64 x77.2.1), v79, v80], rfl, ⟨[(.int .i64 x77.1)], [(.int .i64 x77.2.1), v79, v80], rfl, rfl, ⟨[(.int .i64 x77.2.1)], [v79, v80], rfl, rfl, ⟨[v79], [v80], rfl, ((H.rdAt 1 rfl)).list_rd, ((H.rdAt 2 rfl)).list_rd⟩⟩⟩⟩   e91).mono ?_)
   rintro e w88 ⟨v92, rfl, Hc89⟩
   have H := H.call1 Hc89
   refine ⟨_, rfl, trivial, fun a S => ?_⟩
   refine lq (.tuple #[v92, (.int .i64 x90.2)]) S (q_move rfl) fun a S => ?_
   refine lq v92 S (q_extract rfl rfl) fun a S => ?_
   refine lq (.int .i64 x90.2) S (q_extract rfl rfl) fun a S => ?_
   refine lq v92 S (q_assign rfl) fun a S => ?_
   refine lq (.int .i64 x90.2) S (q_assign rfl) fun a S => ?_
   refine lx_nil (thenN ?_)
   refine wp_seq (wp_seq (region_plain ?_))
   refine lq v92 S (q_move rfl) fun a S => ?_
   refine lq v72 S (q_move rfl) fun a S => ?_
   obtain ⟨x97, e98, hm⟩ := bind_some hm
   refine lx_call (xs := [.tmp 43, .tmp 44]) S trivial (by decide) rfl rfl Tryz.call16 ((laws_eqInt64S_ok (H.rdAt 0 rfl) (H.rdAt 4 rfl) e98).mono ?_)
   rintro e w95 ⟨rfl, Hc96⟩
   have H := H.call0 Hc96
   refine ⟨_, rfl, trivial, fun a S => ?_⟩
   refine lq (.bool (!x97)) S (q_not rfl) fun a S => ?_
   refine lq (.bool (!x97)) S (q_move rfl) fun a S => ?_
   obtain ⟨t100, e101, hm⟩ := bind_some hm
   refine lx_cut 4 (fun a w => Slots a 109 [(1, (.int .i64 a1)), (2, (sv a2)), (3, (bp b49)), (8, v72), (9, (.int .i64 x70.2)), (10, (bp b84)), (11, v92), (12, (.int .i64 x90.2)), (51, (.bool t100))] ∧ Heap w0 [oA (rList (rInt .i64)) v92 x90.1, bA b84 [(.int .i64 x77.1), (.int .i64 x77.2.1), v79, v80] 31, oA (rList rStr) v79 x77.2.2.1, oA (rList Rimpl_Edge) v80 x77.2.2.2, oA (rList (rInt .i64)) v72 x70.1, bA b49 [(.int .i64 a0.1), (.int .i64 a0.2.1), v33, v35] 25] w) ?_ ?_
   ·by_cases hc102 : (!x97) = true
    ·have hm := ite_t hc102 e101
     refine lx_skip S rfl rfl (isB_ne hc102) (by decide) (fun a S => ?_)
     refine lx_skip S rfl rfl (isB_ne hc102) (by decide) (fun a S => ?_)
     refine lx_skip S rfl rfl (isB_ne hc102) (by decide) (fun a S => ?_)
     refine lq (.bool true) S (q_pickT' rfl hc102 rfl) fun a S => ?_
     refine lx_nil ?_
     obtain rfl := Option.some.inj hm
     have H := H.sel [0, 1, 2, 3, 4, 7] (by decide)
     exact ⟨S.sub ⟨rfl, rfl, rfl, rfl, rfl, rfl, rfl, rfl, rfl, trivial⟩, H⟩
    ·have hm := ite_f (eq_false_of_ne_true hc102) e101
     have hc102 : (!x97) = false := eq_false_of_ne_true hc102
     refine lx_q (.int .i64 x90.2) S (want_b rfl rfl hc102) (by decide) (q_move rfl) (fun a S => ?_)
     refine lx_q (.int .i64 x70.2) S (want_b rfl rfl hc102) (by decide) (q_move rfl) (fun a S => ?_)
     refine lx_q (.bool (x90.2 != x70.2)) S (want_b rfl rfl hc102) (by decide) (q_neq rfl rfl) (fun a S => ?_)
     refine lq (.bool (x90.2 != x70.2)) S (q_pickF' rfl hc102 rfl) fun a S => ?_
     refine lx_nil ?_
     obtain rfl := Option.some.inj hm
     have H := H.sel [0, 1, 2, 3, 4, 7] (by decide)
     exact ⟨S.sub ⟨rfl, rfl, rfl, rfl, rfl, rfl, rfl, rfl, rfl, trivial⟩, H⟩
   ·rintro a w ⟨S, H⟩
    refine lx_nil (thenN ?_)
    refine cond_b S rfl (fun hc103 => ?_) (fun hc103 => ?_)
    ·have hm := ite_t hc103 hm
     refine wp_seq (region_plain ?_)
     refine lq (.bool false) S (q_assign rfl) fun a S => ?_
     refine lx_nil (thenN ?_)
     refine wp_ret (then_ret ?_)
     obtain rfl := Option.some.inj hm
     have H : Heap w0 [] w := H.sel [] (by decide)
     exact leave1 S rfl rfl ⟨rfl, H⟩
    ·have hm := ite_f hc103 hm
     refine wp_skip (thenN ?_)
     refine wp_seq ?_
     refine wp_seq ?_
     refine region_drawG (fun w1 => Heap w0 [bA b84 [(.int .i64 x77.1), (.int .i64 x77.2.1), v79, v80] 31, bA b49 [(.int .i64 a0.1), (.int .i64 a0.2.1), v33, v35] 25] w1) (fun i => [2, 3].contains i) mixed (by kernel_rfl) (fun w105 he104 => ?_)
     have H := H.later he104
     refine ⟨H.sel [1, 5] (by decide), ?_⟩
     refine lq (.agg #[(.int .i64 x77.1), (.int .i64 x77.2.1), v79, v80]) S (q_loadA (cs := [(.int .i64 x77.1), (.int .i64 x77.2.1), v79, v80]) rfl (isP_bp _) Tryz.isAgg31 Tryz.sizeOf31 (fun w1 hC => (fun j u hu => boxAt (i := 0) hC rfl hu))) fun a S => ?_
     refine lq (.agg #[(.int .i64 a0.1), (.int .i64 a0.2.1), v33, v35]) S (q_loadA (cs := [(.int .i64 a0.1), (.int .i64 a0.2.1), v33, v35]) rfl (isP_bp _) Tryz.isAgg25 Tryz.sizeOf25 (fun w1 hC => (fun j u hu => boxAt (i := 1) hC rfl hu))) fun a S => ?_
     obtain ⟨x108, e109, hm⟩ := bind_some hm
     refine lx_call (xs := [.tmp 53]) S trivial (by decide) rfl rfl Tryz.call7 ((laws_toLts_ok ⟨[(.int .i64 a0.1), (.int .i64 a0.2.1), v33, v35], rfl, ⟨[(.int .i64 a0.1)], [(.int .i64 a0.2.1), v33, v35], rfl, rfl, ⟨[(.int .i64 a0.2.1)], [v33, v35], rfl, rfl, ⟨[v33], [v35], rfl, ((H.arg h34)).list_rd, ((H.arg h36)).list_rd⟩⟩⟩⟩ e109).mono ?_)
     rintro e w106 ⟨v110, v111, rfl, Hc107⟩
     have H := H.call2 Hc107
     refine ⟨_, rfl, H.sel [3, 7] (by decide), fun a S => ?_⟩
     obtain ⟨x117, e118, hm⟩ := bind_some hm
     refine lx_call (xs := [.tmp 52, .tmp 54]) S trivial (by decide) rfl rfl Tryz.call10 ((laws_eqLts_ok ⟨[(.int .i64 x77.1), (.int .i64 x77.2.1), v79, v80], rfl, ⟨[(.int .i64 x77.1)], [(.int .i64 x77.2.1), v79, v80], rfl, rfl, ⟨[(.int .i64 x77.2.1)], [v79, v80], rfl, rfl, ⟨[v79], [v80], rfl, ((H.rdAt 4 rfl)).list_rd, ((H.rdAt 5 rfl)).list_rd⟩⟩⟩⟩ ⟨[(.int .i64 x108.1), (.int .i64 x108.2.1), v110, v111], rfl, ⟨[(.int .i64 x108.1)], [(.int .i64 x108.2.1), v110, v111], rfl, rfl, ⟨[(.int .i64 x108.2.1)], [v110, v111], rfl, rfl, ⟨[v110], [v111], rfl, ((H.rdAt 0 rfl)).list_rd, ((H.rdAt 1 rfl)).list_rd⟩⟩⟩⟩ e118).mono ?_)
     rintro e w115 ⟨rfl, Hc116⟩
     have H := H.call0 Hc116
     refine ⟨_, rfl, H.sel [3, 7] (by decide), fun a S => ?_⟩
     refine lq (.bool (!x117)) S (q_not rfl) fun a S => ?_
     refine lx_nil (thenN ?_)
     refine cond_b S rfl (fun hc120 => ?_) (fun hc120 => ?_)
     ·have hm := ite_t hc120 hm
      refine wp_seq (region_plain ?_)
      refine lq (.bool false) S (q_assign rfl) fun a S => ?_
      refine lx_nil (thenN ?_)
      refine wp_ret (then_ret ?_)
      obtain rfl := Option.some.inj hm
      have H : Heap w0 [] w115 := H.sel [] (by decide)
      exact leave1 S rfl rfl ⟨rfl, H⟩
     ·have hm := ite_f hc120 hm
      refine wp_skip (thenN ?_)
      refine wp_seq (region_plain ?_)
      refine lq (.int .i64 (1 : Int)) S (q_assign rfl) fun a S => ?_
      refine lx_nil (thenN ?_)
      refine wp_seq (region_plain ?_)
      refine lx_e (.agg #[(.int .i64 x77.1), (.int .i64 x77.2.1), v79, v80]) S trivial (by decide) rfl trivial (q_loadA (cs := [(.int .i64 x77.1), (.int .i64 x77.2.1), v79, v80]) rfl (isP_bp _) Tryz.isAgg31 Tryz.sizeOf31 (by rintro _ rfl; exact (fun j u hu => boxAt (i := 3) H rfl hu))) (fun a S => ?_)
      refine lq (.int .i64 (1 : Int)) S (q_move rfl) fun a S => ?_
      obtain ⟨x123, e124, hm⟩ := bind_some hm
      have H : Heap w0 [oA (rList Rimpl_Edge) v80 x77.2.2.2, oA (rList rStr) v110 x108.2.2.1, oA (rList Rimpl_Edge) v111 x108.2.2.2, oA (rList (rInt .i64)) v92 x90.1, bA b84 [(.int .i64 x77.1), (.int .i64 x77.2.1), v79, v80] 31, oA (rList rStr) v79 x77.2.2.1, oA (rList (rInt .i64)) v72 x70.1, bA b49 [(.int .i64 a0.1), (.int .i64 a0.2.1), v33, v35] 25] w115 := H.front 5 rfl
      have H : Heap w0 [oA (rList rStr) v79 x77.2.2.1, oA (rList Rimpl_Edge) v80 x77.2.2.2, oA (rList rStr) v110 x108.2.2.1, oA (rList Rimpl_Edge) v111 x108.2.2.2, oA (rList (rInt .i64)) v92 x90.1, bA b84 [(.int .i64 x77.1), (.int .i64 x77.2.1), v79, v80] 31, oA (rList (rInt .i64)) v72 x70.1, bA b49 [(.int .i64 a0.1), (.int .i64 a0.2.1), v33, v35] 25] w115 := H.front 5 rfl
      refine lx_call (xs := [.tmp 57, .tmp 58]) S trivial (by decide) rfl rfl Tryz.call11 ((laws_markLts_ok H  e124).mono ?_)
      rintro e w121 ⟨rfl, H⟩
      refine ⟨_, rfl, trivial, fun a S => ?_⟩
      refine lq (.int .i64 x123.1) S (q_assign rfl) fun a S => ?_
      refine lx_nil (thenN ?_)
      refine wp_seq (wp_seq (region_plain ?_))
      refine lq (.int .i64 x123.1) S (q_move rfl) fun a S => ?_
      refine lq (.bool (decide (x123.1 < (0 : Int)))) S (q_lss rfl rfl) fun a S => ?_
      refine lq (.bool (decide (x123.1 < (0 : Int)))) S (q_move rfl) fun a S => ?_
      obtain ⟨t125, e126, hm⟩ := bind_some hm
      refine lx_cut 5 (fun a w => Slots a 109 [(1, (.int .i64 a1)), (2, (sv a2)), (3, (bp b49)), (8, v72), (9, (.int .i64 x70.2)), (11, v92), (12, (.int .i64 x90.2)), (67, (.bool t125))] ∧ Heap w0 [oA (rList (rInt .i64)) v92 x90.1, oA (rList (rInt .i64)) v72 x70.1, bA b49 [(.int .i64 a0.1), (.int .i64 a0.2.1), v33, v35] 25] w) ?_ ?_
      ·by_cases hc127 : (decide (x123.1 < (0 : Int))) = true
       ·have hm := ite_t hc127 e126
        refine lx_skip S rfl rfl (isB_ne hc127) (by decide) (fun a S => ?_)
        refine lx_skip S rfl rfl (isB_ne hc127) (by decide) (fun a S => ?_)
        refine lx_skip S rfl rfl (isB_ne hc127) (by decide) (fun a S => ?_)
        refine lx_skip S rfl rfl (isB_ne hc127) (by decide) (fun a S => ?_)
        refine lq (.bool true) S (q_pickT' rfl hc127 rfl) fun a S => ?_
        refine lx_nil ?_
        obtain rfl := Option.some.inj hm
        have H := H.sel [4, 6, 7] (by decide)
        exact ⟨S.sub ⟨rfl, rfl, rfl, rfl, rfl, rfl, rfl, rfl, trivial⟩, H⟩
       ·have hm := ite_f (eq_false_of_ne_true hc127) e126
        have hc127 : (decide (x123.1 < (0 : Int))) = false := eq_false_of_ne_true hc127
        refine lx_q v92 S (want_b rfl rfl hc127) (by decide) (q_move rfl) (fun a S => ?_)
        refine lx_q v72 S (want_b rfl rfl hc127) (by decide) (q_move rfl) (fun a S => ?_)
        obtain ⟨x130, e131, hm⟩ := bind_some hm
        refine lx_call (xs := [.tmp 63, .tmp 64]) S (want_b rfl rfl hc127) (by decide) rfl rfl Tryz.call16 ((laws_eqInt64S_ok (H.rdAt 4 rfl) (H.rdAt 6 rfl) e131).mono ?_)
        rintro e w128 ⟨rfl, Hc129⟩
        have H := H.call0 Hc129
        refine ⟨_, rfl, trivial, fun a S => ?_⟩
        refine lx_q (.bool (!x130)) S (want_b rfl rfl hc127) (by decide) (q_not rfl) (fun a S => ?_)
        refine lq (.bool (!x130)) S (q_pickF' rfl hc127 rfl) fun a S => ?_
        refine lx_nil ?_
        obtain rfl := Option.some.inj hm
        have H := H.sel [4, 6, 7] (by decide)
        exact ⟨S.sub ⟨rfl, rfl, rfl, rfl, rfl, rfl, rfl, rfl, trivial⟩, H⟩
      ·rintro a w ⟨S, H⟩
       refine lq (.bool t125) S (q_move rfl) fun a S => ?_
       obtain ⟨t133, e134, hm⟩ := bind_some hm
       refine lx_cut 4 (fun a w => Slots a 109 [(1, (.int .i64 a1)), (2, (sv a2)), (3, (bp b49)), (8, v72), (9, (.int .i64 x70.2)), (11, v92), (72, (.bool t133))] ∧ Heap w0 [oA (rList (rInt .i64)) v92 x90.1, oA (rList (rInt .i64)) v72 x70.1, bA b49 [(.int .i64 a0.1), (.int .i64 a0.2.1), v33, v35] 25] w) ?_ ?_
       ·by_cases hc135 : t125 = true
        ·have hm := ite_t hc135 e134
         refine lx_skip S rfl rfl (isB_ne hc135) (by decide) (fun a S => ?_)
         refine lx_skip S rfl rfl (isB_ne hc135) (by decide) (fun a S => ?_)
         refine lx_skip S rfl rfl (isB_ne hc135) (by decide) (fun a S => ?_)
         refine lq (.bool true) S (q_pickT' rfl hc135 rfl) fun a S => ?_
         refine lx_nil ?_
         obtain rfl := Option.some.inj hm
         exact ⟨S.sub ⟨rfl, rfl, rfl, rfl, rfl, rfl, rfl, trivial⟩, H⟩
        ·have hm := ite_f (eq_false_of_ne_true hc135) e134
         have hc135 : t125 = false := eq_false_of_ne_true hc135
         refine lx_q (.int .i64 x90.2) S (want_b rfl rfl hc135) (by decide) (q_move rfl) (fun a S => ?_)
         refine lx_q (.int .i64 x70.2) S (want_b rfl rfl hc135) (by decide) (q_move rfl) (fun a S => ?_)
         refine lx_q (.bool (x90.2 != x70.2)) S (want_b rfl rfl hc135) (by decide) (q_neq rfl rfl) (fun a S => ?_)
         refine lq (.bool (x90.2 != x70.2)) S (q_pickF' rfl hc135 rfl) fun a S => ?_
         refine lx_nil ?_
         obtain rfl := Option.some.inj hm
         exact ⟨S.sub ⟨rfl, rfl, rfl, rfl, rfl, rfl, rfl, trivial⟩, H⟩
       ·rintro a w ⟨S, H⟩
        refine lx_nil (thenN ?_)
        refine cond_b S rfl (fun hc136 => ?_) (fun hc136 => ?_)
        ·have hm := ite_t hc136 hm
         refine wp_seq (region_plain ?_)
         refine lq (.bool false) S (q_assign rfl) fun a S => ?_
         refine lx_nil (thenN ?_)
         refine wp_ret (then_ret ?_)
         obtain rfl := Option.some.inj hm
         have H : Heap w0 [] w := H.sel [] (by decide)
         exact leave1 S rfl rfl ⟨rfl, H⟩
        ·have hm := ite_f hc136 hm
         refine wp_skip (thenN ?_)
         refine wp_seq (region_plain ?_)
         refine lq (.int .i64 (1 : Int)) S (q_assign rfl) fun a S => ?_
         refine lx_nil (thenN ?_)
         refine wp_seq (region_plain ?_)
         refine lq v92 S (q_move rfl) fun a S => ?_
         refine lq (.int .i64 (1 : Int)) S (q_move rfl) fun a S => ?_
         obtain ⟨x139, e140, hm⟩ := bind_some hm
         refine lx_call (xs := [.tmp 73, .tmp 74]) S trivial (by decide) rfl rfl Tryz.call17 ((laws_markInt64S_ok H  e140).mono ?_)
         rintro e w137 ⟨rfl, H⟩
         refine ⟨_, rfl, trivial, fun a S => ?_⟩
         refine lq (.int .i64 x139.1) S (q_assign rfl) fun a S => ?_
         refine lx_nil (thenN ?_)
         refine wp_seq (region_plain ?_)
         refine lq (.int .i64 (1 : Int)) S (q_assign rfl) fun a S => ?_
         refine lx_nil (thenN ?_)
         refine wp_seq (region_plain ?_)
         refine lq v92 S (q_move rfl) fun a S => ?_
         refine lq (.int .i64 (1 : Int)) S (q_move rfl) fun a S => ?_
         obtain ⟨x143, e144, hm⟩ := bind_some hm
         refine lx_call (xs := [.tmp 76, .tmp 77]) S trivial (by decide) rfl rfl Tryz.call18 ((laws_heldInt64S_ok (H.rdAt 0 rfl)  e144).mono ?_)
         rintro e w141 ⟨rfl, Hc142⟩
         have H := H.call0 Hc142
         refine ⟨_, rfl, trivial, fun a S => ?_⟩
         refine lq (.int .i64 x143) S (q_assign rfl) fun a S => ?_
         refine lx_nil (thenN ?_)
         refine wp_seq (wp_seq (region_plain ?_))
         refine lq (.int .i64 x143) S (q_move rfl) fun a S => ?_
         refine lq (.bool (decide (x143 < (0 : Int)))) S (q_lss rfl rfl) fun a S => ?_
         refine lx_nil (thenN ?_)
         refine cond_b S rfl (fun hc146 => ?_) (fun hc146 => ?_)
         ·have hm := ite_t hc146 hm
          refine wp_seq (region_plain ?_)
          refine lq (.bool false) S (q_assign rfl) fun a S => ?_
          refine lx_nil (thenN ?_)
          refine wp_ret (then_ret ?_)
          obtain rfl := Option.some.inj hm
          have H : Heap w0 [] w141 := H.sel [] (by decide)
          exact leave1 S rfl rfl ⟨rfl, H⟩
         ·have hm := ite_f hc146 hm
          refine wp_skip (thenN ?_)
          refine wp_seq (wp_seq (region_plain ?_))
          refine lq (.int .i64 x143) S (q_move rfl) fun a S => ?_
          refine lq (.int .i64 x139.1) S (q_move rfl) fun a S => ?_
          refine lq (.bool (x143 != x139.1)) S (q_neq rfl rfl) fun a S => ?_
          refine lx_nil (thenN ?_)
          refine cond_b S rfl (fun hc147 => ?_) (fun hc147 => ?_)
          ·have hm := ite_t hc147 hm
           refine wp_seq (region_plain ?_)
           refine lq (.bool false) S (q_assign rfl) fun a S => ?_
           refine lx_nil (thenN ?_)
           refine wp_ret (then_ret ?_)
           obtain rfl := Option.some.inj hm
           have H : Heap w0 [] w141 := H.sel [] (by decide)
           exact leave1 S rfl rfl ⟨rfl, H⟩
          ·have hm := ite_f hc147 hm
           refine wp_skip (thenN ?_)
           refine wp_seq (region_plain ?_)
           refine lx_e (.agg #[(.int .i64 a0.1), (.int .i64 a0.2.1), v33, v35]) S trivial (by decide) rfl trivial (q_loadA (cs := [(.int .i64 a0.1), (.int .i64 a0.2.1), v33, v35]) rfl (isP_bp _) Tryz.isAgg25 Tryz.sizeOf25 (by rintro _ rfl; exact (fun j u hu => boxAt (i := 2) H rfl hu))) (fun a S => ?_)
           obtain ⟨x150, e151, hm⟩ := bind_some hm
           refine lx_call (xs := [.tmp 85]) S trivial (by decide) rfl rfl Tryz.call7 ((laws_toLts_ok ⟨[(.int .i64 a0.1), (.int .i64 a0.2.1), v33, v35], rfl, ⟨[(.int .i64 a0.1)], [(.int .i64 a0.2.1), v33, v35], rfl, rfl, ⟨[(.int .i64 a0.2.1)], [v33, v35], rfl, rfl, ⟨[v33], [v35], rfl, ((H.arg h34)).list_rd, ((H.arg h36)).list_rd⟩⟩⟩⟩ e151).mono ?_)
           rintro e w148 ⟨v152, v153, rfl, Hc149⟩
           have H := H.call2 Hc149
           refine ⟨_, rfl, trivial, fun a S => ?_⟩
           refine lq (.int .i64 a1) S (q_move rfl) fun a S => ?_
           refine lq (sv a2) S (q_move rfl) fun a S => ?_
           obtain ⟨x159, e160, hm⟩ := bind_some hm
           refine lx_call (xs := [.tmp 86, .tmp 87, .tmp 88]) S trivial (by decide) rfl rfl Tryz.call15 ((impl_WeakSuccessors_ok (hG.ext H.ext) ⟨[(.int .i64 x150.1), (.int .i64 x150.2.1), v152, v153], rfl, ⟨[(.int .i64 x150.1)], [(.int .i64 x150.2.1), v152, v153], rfl, rfl, ⟨[(.int .i64 x150.2.1)], [v152, v153], rfl, rfl, ⟨[v152], [v153], rfl, ((H.rdAt 0 rfl)).list_rd, ((H.rdAt 1 rfl)).list_rd⟩⟩⟩⟩   e160).mono ?_)
           rintro e w157 ⟨v161, rfl, Hc158⟩
           have H := H.call1 Hc158
           refine ⟨_, rfl, trivial, fun a S => ?_⟩
           refine lq (.tuple #[v161, (.int .i64 x159.2)]) S (q_move rfl) fun a S => ?_
           refine lq v161 S (q_extract rfl rfl) fun a S => ?_
           refine lq (.int .i64 x159.2) S (q_extract rfl rfl) fun a S => ?_
           refine lq v161 S (q_assign rfl) fun a S => ?_
           refine lq (.int .i64 x159.2) S (q_assign rfl) fun a S => ?_
           refine lx_nil (thenN ?_)
           refine wp_seq (wp_seq (region_plain ?_))
           refine lq v161 S (q_move rfl) fun a S => ?_
           refine lq v72 S (q_move rfl) fun a S => ?_
           obtain ⟨x166, e167, hm⟩ := bind_some hm
           refine lx_call (xs := [.tmp 92, .tmp 93]) S trivial (by decide) rfl rfl Tryz.call16 ((laws_eqInt64S_ok (H.rdAt 0 rfl) (H.rdAt 4 rfl) e167).mono ?_)
           rintro e w164 ⟨rfl, Hc165⟩
           have H := H.call0 Hc165
           refine ⟨_, rfl, trivial, fun a S => ?_⟩
           refine lq (.bool (!x166)) S (q_not rfl) fun a S => ?_
           refine lq (.bool (!x166)) S (q_move rfl) fun a S => ?_
           obtain ⟨t169, e170, hm⟩ := bind_some hm
           refine lx_cut 4 (fun a w => Slots a 109 [(11, v92), (14, (.int .i64 x139.1)), (100, (.bool t169))] ∧ Heap w0 [oA (rList (rInt .i64)) v92 x139.2] w) ?_ ?_
           ·by_cases hc171 : (!x166) = true
            ·have hm := ite_t hc171 e170
             refine lx_skip S rfl rfl (isB_ne hc171) (by decide) (fun a S => ?_)
             refine lx_skip S rfl rfl (isB_ne hc171) (by decide) (fun a S => ?_)
             refine lx_skip S rfl rfl (isB_ne hc171) (by decide) (fun a S => ?_)
             refine lq (.bool true) S (q_pickT' rfl hc171 rfl) fun a S => ?_
             refine lx_nil ?_
             obtain rfl := Option.some.inj hm
             have H := H.sel [3] (by decide)
             exact ⟨S.sub ⟨rfl, rfl, rfl, trivial⟩, H⟩
            ·have hm := ite_f (eq_false_of_ne_true hc171) e170
             have hc171 : (!x166) = false := eq_false_of_ne_true hc171
             refine lx_q (.int .i64 x159.2) S (want_b rfl rfl hc171) (by decide) (q_move rfl) (fun a S => ?_)
             refine lx_q (.int .i64 x70.2) S (want_b rfl rfl hc171) (by decide) (q_move rfl) (fun a S => ?_)
             refine lx_q (.bool (x159.2 != x70.2)) S (want_b rfl rfl hc171) (by decide) (q_neq rfl rfl) (fun a S => ?_)
             refine lq (.bool (x159.2 != x70.2)) S (q_pickF' rfl hc171 rfl) fun a S => ?_
             refine lx_nil ?_
             obtain rfl := Option.some.inj hm
             have H := H.sel [3] (by decide)
             exact ⟨S.sub ⟨rfl, rfl, rfl, trivial⟩, H⟩
           ·rintro a w ⟨S, H⟩
            refine lx_nil (thenN ?_)
            refine cond_b S rfl (fun hc172 => ?_) (fun hc172 => ?_)
            ·have hm := ite_t hc172 hm
             refine wp_seq (region_plain ?_)
             refine lq (.bool false) S (q_assign rfl) fun a S => ?_
             refine lx_nil (thenN ?_)
             refine wp_ret (then_ret ?_)
             obtain rfl := Option.some.inj hm
             have H : Heap w0 [] w := H.sel [] (by decide)
             exact leave1 S rfl rfl ⟨rfl, H⟩
            ·have hm := ite_f hc172 hm
             refine wp_skip (thenN ?_)
             refine wp_seq (region_plain ?_)
             refine lq (.int .i64 (1 : Int)) S (q_assign rfl) fun a S => ?_
             refine lx_nil (thenN ?_)
             refine wp_seq (region_plain ?_)
             refine lq v92 S (q_move rfl) fun a S => ?_
             refine lq (.int .i64 (1 : Int)) S (q_move rfl) fun a S => ?_
             obtain ⟨x175, e176, hm⟩ := bind_some hm
             refine lx_call (xs := [.tmp 101, .tmp 102]) S trivial (by decide) rfl rfl Tryz.call18 ((laws_heldInt64S_ok (H.rdAt 0 rfl)  e176).mono ?_)
             rintro e w173 ⟨rfl, Hc174⟩
             have H := H.call0 Hc174
             refine ⟨_, rfl, trivial, fun a S => ?_⟩
             refine lq (.int .i64 x175) S (q_assign rfl) fun a S => ?_
             refine lx_nil (thenN ?_)
             refine wp_seq (wp_seq (region_plain ?_))
             refine lq (.int .i64 x175) S (q_move rfl) fun a S => ?_
             refine lq (.bool (decide (x175 < (0 : Int)))) S (q_lss rfl rfl) fun a S => ?_
             refine lx_nil (thenN ?_)
             refine cond_b S rfl (fun hc178 => ?_) (fun hc178 => ?_)
             ·have hm := ite_t hc178 hm
              refine wp_seq (region_plain ?_)
              refine lq (.bool false) S (q_assign rfl) fun a S => ?_
              refine lx_nil (thenN ?_)
              refine wp_ret (then_ret ?_)
              obtain rfl := Option.some.inj hm
              have H : Heap w0 [] w173 := H.sel [] (by decide)
              exact leave1 S rfl rfl ⟨rfl, H⟩
             ·have hm := ite_f hc178 hm
              refine wp_skip (thenN ?_)
              refine wp_seq (wp_seq (region_plain ?_))
              refine lq (.int .i64 x175) S (q_move rfl) fun a S => ?_
              refine lq (.int .i64 x139.1) S (q_move rfl) fun a S => ?_
              refine lq (.bool (x175 != x139.1)) S (q_neq rfl rfl) fun a S => ?_
              refine lx_nil (thenN ?_)
              refine cond_b S rfl (fun hc179 => ?_) (fun hc179 => ?_)
              ·have hm := ite_t hc179 hm
               refine wp_seq (region_plain ?_)
               refine lq (.bool false) S (q_assign rfl) fun a S => ?_
               refine lx_nil (thenN ?_)
               refine wp_ret (then_ret ?_)
               obtain rfl := Option.some.inj hm
               have H : Heap w0 [] w173 := H.sel [] (by decide)
               exact leave1 S rfl rfl ⟨rfl, H⟩
              ·have hm := ite_f hc179 hm
               refine wp_skip (thenN ?_)
               refine wp_seq (region_plain ?_)
               refine lq (.bool true) S (q_assign rfl) fun a S => ?_
               refine lx_nil (thenN ?_)
               refine wp_ret ?_
               obtain rfl := Option.some.inj hm
               have H : Heap w0 [] w173 := H.sel [] (by decide)
               exact leave1 S rfl rfl ⟨rfl, H⟩
end Go.Proofs.YtmiebbfdkfofhaaGreatDoor
