/- The model of a statement and its walk (printed by a program of this repo). -/
import Derived.Test.YtecknjdlbmmmiaaF0
import Derived.Test.YtecknjdlbmmmiaaF1
import Derived.Test.YtecknjdlbmmmiaaF2
import Derived.Test.YtecknjdlbmmmiaaF4
import Derived.Test.YtecknjdlbmmmiaaF5
import Derived.Test.YtecknjdlbmmmiaaF6
import Derived.Test.YtecknjdlbmmmiaaF8
import Derived.Test.YtecknjdlbmmmiaaFS
import Derived.Test.YtecknjdlbmmmiaaGxT
namespace Go.Proofs.Ytecknjdlbmmmiaa
open Go.RowKit Go.Gx

/-- spec.DecidedEquations -/
def spec_DecidedEquations_m (fuel : Nat) (a0 : (List Timpl_Equation)) : Option (((List Int) × Int)) :=
  (spec_l22Is_m fuel a0).bind fun x33 => (if (!x33) = true then some (([], (1 : Int))) else (iter (fun (s : (List Int) × (Int)) => (match s with | (xs55, x57) => (if (decide (x57 < (a0.length : Int))) = true then (app xs55 [(-1 : Int)]).bind fun x1934 => some (.inl (x1934, (W (x57 + (1 : Int))))) else some (.inr (.inl (xs55)))) : Option (((List Int) × (Int)) ⊕ (((List Int)) ⊕ (((List Int) × Int)))))) fuel (([] : List Int), (0 : Int))).bind fun res74 => ctl (β := (List Int)) (ρ := ((List Int) × Int)) (τ := ((List Int) × Int)) res74 (fun (xs72) => (iter (fun (s : (List Int) × (Bool)) => (match s with | (xs692, x693) => (if x693 = true then (iter (fun (s : (List Int) × (Bool) × (Int)) => (match s with | (xs1517, x1518, x1519) => (if (decide (x1519 < (a0.length : Int))) = true then join (κ := List Int → Bool → Option (((List Int) × (Bool) × (Int)) ⊕ (((List Int) × Bool) ⊕ (((List Int) × Int))))) (fun (xs1731 : List Int) (x1732 : Bool) => some (.inl (xs1731, x1732, (W (x1519 + (1 : Int)))))) (fun K1733 => (idx xs1517 x1519).bind fun x1735 => (if (decide ((0 : Int) ≤ x1735)) = true then (K1733 xs1517 x1518) else join (κ := Int → Int → Option (((List Int) × (Bool) × (Int)) ⊕ (((List Int) × Bool) ⊕ (((List Int) × Int))))) (fun (x1741 : Int) (x1742 : Int) => (iter (fun (s : (Int) × (Int)) => (match s with | (x1796, x1797) => (idx a0 x1519).bind fun x1862 => (if (decide (x1797 < (x1862.2.2.length : Int))) = true then join (κ := Int → Option (((Int) × (Int)) ⊕ ((Int) ⊕ (((List Int) × Int))))) (fun (x1878 : Int) => some (.inl (x1878, (W (x1797 + (1 : Int)))))) (fun K1879 => (idx a0 x1519).bind fun x1881 => (idx x1881.2.2 x1797).bind fun x1896 => (idx xs1517 x1896).bind fun x1901 => (if (x1901 == x1742) = true then (K1879 x1742) else (if (decide (x1901 < (0 : Int))) = true then some (x1796 != x1742) else some false).bind fun t1907 => (if t1907 = true then (K1879 (-1 : Int)) else (K1879 x1796)))) else some (.inr (.inl (x1796)))) : Option (((Int) × (Int)) ⊕ ((Int) ⊕ (((List Int) × Int)))))) fuel (x1741, (0 : Int))).bind fun res1850 => ctl (β := Int) (ρ := ((List Int) × Int)) (τ := (((List Int) × (Bool) × (Int)) ⊕ (((List Int) × Bool) ⊕ (((List Int) × Int))))) res1850 (fun (x1849) => (if (decide ((0 : Int) ≤ x1849)) = true then (idx xs1517 x1519).bind fun _ => (K1733 (xs1517.set x1519.toNat x1849) true) else (K1733 xs1517 x1518))) (fun q => some (.inr (.inr q)))) (fun K1743 => (idx a0 x1519).bind fun x1911 => (if x1911.2.1 = true then (K1743 (1 : Int) (0 : Int)) else (K1743 (0 : Int) (1 : Int)))))) else some (.inr (.inl (xs1517, x1518)))) : Option (((List Int) × (Bool) × (Int)) ⊕ (((List Int) × Bool) ⊕ (((List Int) × Int)))))) fuel (xs692, false, (0 : Int))).bind fun res1722 => ctl (β := (List Int) × Bool) (ρ := ((List Int) × Int)) (τ := (((List Int) × (Bool)) ⊕ (((List Int)) ⊕ (((List Int) × Int))))) res1722 (fun (xs1720, x1721) => some (.inl (xs1720, x1721))) (fun q => some (.inr (.inr q))) else some (.inr (.inl (xs692)))) : Option (((List Int) × (Bool)) ⊕ (((List Int)) ⊕ (((List Int) × Int)))))) fuel (xs72, true)).bind fun res1308 => ctl (β := (List Int)) (ρ := ((List Int) × Int)) (τ := ((List Int) × Int)) res1308 (fun (xs1307) => some ((xs1307, (0 : Int)))) (fun q => some (q))) (fun q => some (q)))
set_option maxRecDepth 20000 in
theorem spec_DecidedEquations_ok {w0 : World} {fuel : Nat} {p0 : Value} {a0 : (List Timpl_Equation)} {r : ((List Int) × Int)} (h0 : Rd (rList Rimpl_Equation) w0 p0 a0) (hm : spec_DecidedEquations_m fuel a0 = some r) :
  Calls Try.prog 28 #[p0] w0 fun e w => ∃ (v0 : Value), e = .returned (.tuple #[v0, .int .i64 r.2]) ∧ Heap w0 [oA (rList (rInt .i64)) v0 r.1] w := by
 unfold spec_DecidedEquations_m at hm
 have H := Heap.start w0
 refine enter (args := [p0]) Try.func28 rfl 83 rfl (Nat.le_of_ble_eq_true rfl) (fun a S => ?_)
 refine wp_seq (region_plain ?_)
 refine lq (.slice none 0 0) S (q_assign rfl) fun a S => ?_
 refine lq (.int .i64 (0 : Int)) S (q_assign rfl) fun a S => ?_
 refine lx_nil (thenN ?_)
 refine wp_seq (wp_seq (region_plain ?_))
 refine lq p0 S (q_move rfl) fun a S => ?_
 obtain ⟨x33, e34, hm⟩ := bind_some hm
 refine lx_call (xs := [.tmp 13]) S trivial (by decide) rfl rfl Try.call68 ((spec_l22Is_ok (H.arg h0) e34).mono ?_)
 rintro e w31 ⟨rfl, Hc32⟩
 have H := H.call0 Hc32
 refine ⟨_, rfl, trivial, fun a S => ?_⟩
 refine lq (.bool (!x33)) S (q_not rfl) fun a S => ?_
 refine lx_nil (thenN ?_)
 refine cond_b S rfl (fun hc36 => ?_) (fun hc36 => ?_)
 ·have hm := ite_t hc36 hm
  refine wp_seq (region_plain ?_)
  refine lq (.slice none 0 0) S (q_assign rfl) fun a S => ?_
  refine lq (.int .i64 (1 : Int)) S (q_assign rfl) fun a S => ?_
  refine lx_nil (thenN ?_)
  refine wp_ret (then_ret ?_)
  obtain rfl := Option.some.inj hm
  have H : Heap w0 [oA (rList (rInt .i64)) (.slice none 0 0) ([] : List Int)] w31 := H.nilList (rInt .i64)
  exact leave2 S rfl rfl rfl ⟨(.slice none 0 0), rfl, H⟩
 ·have hm := ite_f hc36 hm
  refine wp_skip (thenN ?_)
  refine wp_seq (region_plain ?_)
  refine lx_buildSlice0 (r := (rInt .i64)) S trivial (by decide) rfl H Try.underlying23 Try.sizeOf2 (fun v38 w39 H => ⟨trivial, fun a S => ?_⟩)
  refine lq v38 S (q_assign rfl) fun a S => ?_
  refine lx_nil (thenN ?_)
  refine wp_seq (wp_seq (region_plain ?_))
  refine lq (.int .i64 (0 : Int)) S (q_assign rfl) fun a S => ?_
  refine lx_nil (thenN ?_)
  obtain ⟨res74, hit75, hk78⟩ := bind_some hm
  obtain ⟨f76, hf77, hit75⟩ := iter_name hit75
  refine block_loop (fun a w => ∃ (xs72 : List Int) (v71 : Value), Slots a 83 [(0, p0), (4, v71)] ∧ Heap w0 [oA (rList (rInt .i64)) v71 xs72] w ∧ res74 = .inl (xs72)) ?_ ?_
  ·rintro a w ⟨xs72, v71, S, H, rfl⟩
   have hm := ctl_inl hk78
   refine thenN ?_
   refine wp_seq (wp_seq (region_plain ?_))
   refine lq (.bool true) S (q_assign rfl) fun a S => ?_
   refine lx_nil (thenN ?_)
   obtain ⟨res1308, hit1309, hk1312⟩ := bind_some hm
   obtain ⟨f1310, hf1311, hit1309⟩ := iter_name hit1309
   refine block_loop (fun a w => ∃ (xs1307 : List Int), Slots a 83 [(4, v71)] ∧ Heap w0 [oA (rList (rInt .i64)) v71 xs1307] w ∧ res1308 = .inl (xs1307)) ?_ ?_
   ·rintro a w ⟨xs1307, S, H, rfl⟩
    have hm := ctl_inl hk1312
    refine thenN ?_
    refine wp_seq (region_plain ?_)
    refine lq v71 S (q_move rfl) fun a S => ?_
    refine lq v71 S (q_assign rfl) fun a S => ?_
    refine lq (.int .i64 (0 : Int)) S (q_assign rfl) fun a S => ?_
    refine lx_nil (thenN ?_)
    refine wp_ret ?_
    obtain rfl := Option.some.inj hm
    exact leave2 S rfl rfl rfl ⟨v71, rfl, H⟩
   ·skip
    refine loop_ghost (fun n a w => ∃ (xs692 : List Int) (x693 : Bool), Slots a 83 [(0, p0), (4, v71), (6, (.bool x693))] ∧ Heap w0 [oA (rList (rInt .i64)) v71 xs692] w ∧ iter f1310 n (xs692, x693) = some res1308) _ ⟨xs72, true, S.sub ⟨rfl, rfl, rfl, trivial⟩, H, hit1309⟩ ?_
    rintro n a w ⟨xs692, x693, S, H, hit1309⟩
    obtain ⟨m1313, o1314, rfl, hm, hc1315⟩ := iter_step hit1309
    rw [hf1311] at hm
    refine wp_seq (wp_seq (region_plain ?_))
    refine lq (.bool x693) S (q_move rfl) fun a S => ?_
    refine lx_nil (thenN ?_)
    refine cond_b S rfl (fun hc1316 => ?_) (fun hc1316 => ?_)
    ·have hm := ite_t hc1316 hm
     refine wp_skip (thenN ?_)
     refine wp_block ?_
     refine wp_seq (region_plain ?_)
     refine lq (.bool false) S (q_assign rfl) fun a S => ?_
     refine lx_nil (thenN ?_)
     refine wp_seq (region_plain ?_)
     refine lq (.int .i64 (0 : Int)) S (q_assign rfl) fun a S => ?_
     refine lx_nil (thenN ?_)
     obtain ⟨res1722, hit1723, hk1726⟩ := bind_some hm
     obtain ⟨f1724, hf1725, hit1723⟩ := iter_name hit1723
     refine block_loop (fun a w => ∃ (xs1720 : List Int) (x1721 : Bool), Slots a 83 [(0, p0), (4, v71), (6, (.bool x1721))] ∧ Heap w0 [oA (rList (rInt .i64)) v71 xs1720] w ∧ res1722 = .inl (xs1720, x1721)) ?_ ?_
     ·rintro a w ⟨xs1720, x1721, S, H, rfl⟩
      have hm := ctl_inl hk1726
      refine inBlock_norm ?_
      exact ⟨m1313, Nat.lt_succ_self _, xs1720, x1721, S.sub ⟨rfl, rfl, rfl, trivial⟩, H, it_cont hm hc1315⟩
     ·skip
      refine loop_ghost (fun n a w => ∃ (xs1517 : List Int) (x1518 : Bool) (x1519 : Int), Slots a 83 [(0, p0), (4, v71), (6, (.bool x1518)), (7, (.int .i64 x1519))] ∧ Heap w0 [oA (rList (rInt .i64)) v71 xs1517] w ∧ iter f1724 n (xs1517, x1518, x1519) = some res1722) _ ⟨xs692, false, (0 : Int), S.sub ⟨rfl, rfl, rfl, rfl, trivial⟩, H, hit1723⟩ ?_
      rintro n a w ⟨xs1517, x1518, x1519, S, H, hit1723⟩
      obtain ⟨m1727, o1728, rfl, hm, hc1729⟩ := iter_step hit1723
      rw [hf1725] at hm
      refine wp_seq (wp_seq (region_plain ?_))
      refine lq (.int .i64 x1519) S (q_move rfl) fun a S => ?_
      refine lq p0 S (q_move rfl) fun a S => ?_
      refine lq (.int .i64 (a0.length : Int)) S (q_lenSl rfl (h0).isSl rfl Try.underlying36) fun a S => ?_
      refine lq (.bool (decide (x1519 < (a0.length : Int)))) S (q_lss rfl rfl) fun a S => ?_
      refine lx_nil (thenN ?_)
      refine cond_b S rfl (fun hc1730 => ?_) (fun hc1730 => ?_)
      ·have hm := ite_t hc1730 hm
       refine wp_skip (thenN ?_)
       obtain ⟨K1733, hK1734, hm⟩ := join_elim hm
       refine seq_cut (fun a w => ∃ (xs1731 : List Int) (x1732 : Bool), Slots a 83 [(0, p0), (4, v71), (6, (.bool x1732)), (7, (.int .i64 x1519))] ∧ Heap w0 [oA (rList (rInt .i64)) v71 xs1731] w ∧ K1733 xs1731 x1732 = some o1728) ?_ ?_
       ·rintro a w ⟨xs1731, x1732, S, H, hm⟩
        subst hK1734
        refine region_plain ?_
        refine lq (.int .i64 x1519) S (q_move rfl) fun a S => ?_
        refine lq (.int .i64 (W (x1519 + (1 : Int)))) S (q_add rfl rfl) fun a S => ?_
        refine lq (.int .i64 (W (x1519 + (1 : Int)))) S (q_assign rfl) fun a S => ?_
        refine lx_nil ?_
        exact ⟨m1727, Nat.lt_succ_self _, xs1731, x1732, (W (x1519 + (1 : Int))), S.sub ⟨rfl, rfl, rfl, rfl, trivial⟩, H, it_cont hm hc1729⟩
       ·skip
        refine wp_block ?_
        refine wp_seq (wp_seq (region_plain ?_))
        refine lq v71 S (q_move rfl) fun a S => ?_
        refine lq (.int .i64 x1519) S (q_move rfl) fun a S => ?_
        obtain ⟨x1735, e1736, hm⟩ := bind_some hm
        have hlt := lt_of_idx (idx_some e1736).2
        refine lq (ePtr v71 (x1519.toNat * 1)) S (q_indexAddr rfl (H.isSl 0 rfl) rfl (idx_some e1736).1 hlt Try.underlying23 Try.sizeOf2) fun a S => ?_
        obtain ⟨c1737, h1738, hat1739⟩ := (H.rdAt 0 rfl).elem (idx_some e1736).2
        obtain rfl := h1738
        refine lx_e (.int .i64 x1735) S trivial (by decide) rfl trivial (q_load1 rfl Try.isAgg2 (by rintro _ rfl; exact (hat1739 0 _ rfl))) (fun a S => ?_)
        refine lq (.bool (decide ((0 : Int) ≤ x1735))) S (q_geq rfl rfl) fun a S => ?_
        refine lx_nil (thenN ?_)
        refine cond_b S rfl (fun hc1740 => ?_) (fun hc1740 => ?_)
        ·have hm := ite_t hc1740 hm
         refine wp_exit ?_
         refine then_exit ?_
         refine inBlock_exit ?_
         exact ⟨xs1517, x1518, S.sub ⟨rfl, rfl, rfl, rfl, trivial⟩, H, hm⟩
        ·have hm := ite_f hc1740 hm
         refine wp_skip (thenN ?_)
         refine wp_seq (region_plain ?_)
         refine lq (.int .i64 (0 : Int)) S (q_assign rfl) fun a S => ?_
         refine lx_nil (thenN ?_)
         refine wp_seq (region_plain ?_)
         refine lq (.int .i64 (1 : Int)) S (q_assign rfl) fun a S => ?_
         refine lx_nil (thenN ?_)
         obtain ⟨K1743, hK1744, hm⟩ := join_elim hm
         refine seq_cut (fun a w => ∃ (x1741 : Int) (x1742 : Int), Slots a 83 [(0, p0), (4, v71), (6, (.bool x1518)), (7, (.int .i64 x1519)), (8, (.int .i64 x1741)), (9, (.int .i64 x1742))] ∧ Heap w0 [oA (rList (rInt .i64)) v71 xs1517] w ∧ K1743 x1741 x1742 = some o1728) ?_ ?_
         ·rintro a w ⟨x1741, x1742, S, H, hm⟩
          subst hK1744
          refine wp_seq (region_plain ?_)
          refine lq (.int .i64 x1741) S (q_move rfl) fun a S => ?_
          refine lq (.int .i64 x1741) S (q_assign rfl) fun a S => ?_
          refine lx_nil (thenN ?_)
          refine wp_seq (wp_seq (region_plain ?_))
          refine lq (.int .i64 (0 : Int)) S (q_assign rfl) fun a S => ?_
          refine lx_nil (thenN ?_)
          obtain ⟨res1850, hit1851, hk1854⟩ := bind_some hm
          obtain ⟨f1852, hf1853, hit1851⟩ := iter_name hit1851
          refine block_loop (fun a w => ∃ (x1849 : Int), Slots a 83 [(0, p0), (4, v71), (6, (.bool x1518)), (7, (.int .i64 x1519)), (10, (.int .i64 x1849))] ∧ Heap w0 [oA (rList (rInt .i64)) v71 xs1517] w ∧ res1850 = .inl (x1849)) ?_ ?_
          ·rintro a w ⟨x1849, S, H, rfl⟩
           have hm := ctl_inl hk1854
           refine thenN ?_
           refine wp_seq (region_plain ?_)
           refine lq (.int .i64 x1849) S (q_move rfl) fun a S => ?_
           refine lq (.bool (decide ((0 : Int) ≤ x1849))) S (q_geq rfl rfl) fun a S => ?_
           refine lx_nil (thenN ?_)
           refine cond_b S rfl (fun hc1855 => ?_) (fun hc1855 => ?_)
           ·have hm := ite_t hc1855 hm
            refine wp_seq (region_plain ?_)
            refine lq v71 S (q_move rfl) fun a S => ?_
            refine lq (.int .i64 x1519) S (q_move rfl) fun a S => ?_
            refine lq (.int .i64 x1849) S (q_move rfl) fun a S => ?_
            obtain ⟨x1856, e1857, hm⟩ := bind_some hm
            have hlt := lt_of_idx (idx_some e1857).2
            refine lq (ePtr v71 (x1519.toNat * 1)) S (q_indexAddr rfl (H.isSl 0 rfl) rfl (idx_some e1857).1 hlt Try.underlying23 Try.sizeOf2) fun a S => ?_
            refine lx_storeElem (r := (rInt .i64)) (us := [(.int .i64 x1849)]) (off := 0) (e' := x1849) S trivial rfl H.putE (by rw [pAdd_zero]; rfl) rfl (idx_some e1857).2 rfl Try.sizeOf2 (Nat.le_of_ble_eq_true rfl) (List.forall_mem_cons.2 ⟨rfl, (fun _ h => nomatch h)⟩) (Upd.full rfl (fun w G hG => by cases (show G = [] from hG); exact ⟨rfl, rfl⟩)) (fun w1858 H => ⟨trivial, fun a S => ?_⟩)
            refine lx_nil (thenN ?_)
            refine region_plain ?_
            refine lq (.bool true) S (q_assign rfl) fun a S => ?_
            refine lx_nil ?_
            refine inBlock_norm ?_
            exact ⟨(xs1517.set x1519.toNat x1849), true, S.sub ⟨rfl, rfl, rfl, rfl, trivial⟩, H, hm⟩
           ·have hm := ite_f hc1855 hm
            refine wp_skip ?_
            refine inBlock_norm ?_
            exact ⟨xs1517, x1518, S.sub ⟨rfl, rfl, rfl, rfl, trivial⟩, H, hm⟩
          ·skip
           refine loop_ghost (fun n a w => ∃ (x1796 : Int) (x1797 : Int), Slots a 83 [(0, p0), (4, v71), (6, (.bool x1518)), (7, (.int .i64 x1519)), (9, (.int .i64 x1742)), (10, (.int .i64 x1796)), (11, (.int .i64 x1797))] ∧ Heap w0 [oA (rList (rInt .i64)) v71 xs1517] w ∧ iter f1852 n (x1796, x1797) = some res1850) _ ⟨x1741, (0 : Int), S.sub ⟨rfl, rfl, rfl, rfl, rfl, rfl, rfl, trivial⟩, H, hit1851⟩ ?_
           rintro n a w ⟨x1796, x1797, S, H, hit1851⟩
           obtain ⟨m1859, o1860, rfl, hm, hc1861⟩ := iter_step hit1851
           rw [hf1853] at hm
           refine wp_seq (wp_seq (region_plain ?_))
           refine lq (.int .i64 x1797) S (q_move rfl) fun a S => ?_
           refine lq p0 S (q_move rfl) fun a S => ?_
           refine lq (.int .i64 x1519) S (q_move rfl) fun a S => ?_
           obtain ⟨x1862, e1863, hm⟩ := bind_some hm
           obtain ⟨c1864, h1865, hat1866⟩ := (h0).elem (idx_some e1863).2
           obtain ⟨c1869, c1870, rfl, h1871, h1872⟩ := h1865
           obtain rfl := h1871
           obtain ⟨c1873, c1874, rfl, h1875, h1876⟩ := h1872
           obtain rfl := h1875
           obtain ⟨v1867, rfl, h1868⟩ := rd_list h1876
           have hlt := lt_of_idx (idx_some e1863).2
           refine lq (ePtr p0 (x1519.toNat * 3)) S (q_indexAddr rfl (h0).isSl rfl (idx_some e1863).1 hlt Try.underlying36 Try.sizeOf85) fun a S => ?_
           refine lq (pAdd (ePtr p0 (x1519.toNat * 3)) 2) S (q_fieldAddr' 2 23 rfl ((hat1866 0 _ rfl).isP) Try.underlying85 rfl Try.sizeOf23) fun a S => ?_
           refine lx_e v1867 S trivial (by decide) rfl trivial (q_load1 rfl Try.isAgg23 (by rintro _ rfl; exact (At.of_add (m := 2) (j := 0) ((hat1866 2 _ rfl).ext H.ext)))) (fun a S => ?_)
           refine lq (.int .i64 (x1862.2.2.length : Int)) S (q_lenSl rfl (h1868).isSl rfl Try.underlying23) fun a S => ?_
           refine lq (.bool (decide (x1797 < (x1862.2.2.length : Int)))) S (q_lss rfl rfl) fun a S => ?_
           refine lx_nil (thenN ?_)
           refine cond_b S rfl (fun hc1877 => ?_) (fun hc1877 => ?_)
           ·have hm := ite_t hc1877 hm
            refine wp_skip (thenN ?_)
            obtain ⟨K1879, hK1880, hm⟩ := join_elim hm
            refine seq_cut (fun a w => ∃ (x1878 : Int), Slots a 83 [(0, p0), (4, v71), (6, (.bool x1518)), (7, (.int .i64 x1519)), (9, (.int .i64 x1742)), (10, (.int .i64 x1878)), (11, (.int .i64 x1797))] ∧ Heap w0 [oA (rList (rInt .i64)) v71 xs1517] w ∧ K1879 x1878 = some o1860) ?_ ?_
            ·rintro a w ⟨x1878, S, H, hm⟩
             subst hK1880
             refine region_plain ?_
             refine lq (.int .i64 x1797) S (q_move rfl) fun a S => ?_
             refine lq (.int .i64 (W (x1797 + (1 : Int)))) S (q_add rfl rfl) fun a S => ?_
             refine lq (.int .i64 (W (x1797 + (1 : Int)))) S (q_assign rfl) fun a S => ?_
             refine lx_nil ?_
             exact ⟨m1859, Nat.lt_succ_self _, x1878, (W (x1797 + (1 : Int))), S.sub ⟨rfl, rfl, rfl, rfl, rfl, rfl, rfl, trivial⟩, H, it_cont hm hc1861⟩
            ·skip
             refine wp_block ?_
             refine wp_seq (region_plain ?_)
             refine lq v71 S (q_move rfl) fun a S => ?_
             refine lq p0 S (q_move rfl) fun a S => ?_
             refine lq (.int .i64 x1519) S (q_move rfl) fun a S => ?_
             obtain ⟨x1881, e1882, hm⟩ := bind_some hm
             obtain ⟨c1883, h1884, hat1885⟩ := (h0).elem (idx_some e1882).2
             obtain ⟨c1888, c1889, rfl, h1890, h1891⟩ := h1884
             obtain rfl := h1890
             obtain ⟨c1892, c1893, rfl, h1894, h1895⟩ := h1891
             obtain rfl := h1894
             obtain ⟨v1886, rfl, h1887⟩ := rd_list h1895
             have hlt := lt_of_idx (idx_some e1882).2
             refine lq (ePtr p0 (x1519.toNat * 3)) S (q_indexAddr rfl (h0).isSl rfl (idx_some e1882).1 hlt Try.underlying36 Try.sizeOf85) fun a S => ?_
             refine lq (pAdd (ePtr p0 (x1519.toNat * 3)) 2) S (q_fieldAddr' 2 23 rfl ((hat1885 0 _ rfl).isP) Try.underlying85 rfl Try.sizeOf23) fun a S => ?_
             refine lx_e v1886 S trivial (by decide) rfl trivial (q_load1 rfl Try.isAgg23 (by rintro _ rfl; exact (At.of_add (m := 2) (j := 0) ((hat1885 2 _ rfl).ext H.ext)))) (fun a S => ?_)
             refine lq (.int .i64 x1797) S (q_move rfl) fun a S => ?_
             obtain ⟨x1896, e1897, hm⟩ := bind_some hm
             obtain ⟨c1898, h1899, hat1900⟩ := (h1887).elem (idx_some e1897).2
             obtain rfl := h1899
             have hlt := lt_of_idx (idx_some e1897).2
             refine lq (ePtr v1886 (x1797.toNat * 1)) S (q_indexAddr rfl (h1887).isSl rfl (idx_some e1897).1 hlt Try.underlying23 Try.sizeOf2) fun a S => ?_
             refine lx_e (.int .i64 x1896) S trivial (by decide) rfl trivial (q_load1 rfl Try.isAgg2 (by rintro _ rfl; exact ((hat1900 0 _ rfl).ext H.ext))) (fun a S => ?_)
             obtain ⟨x1901, e1902, hm⟩ := bind_some hm
             have hlt := lt_of_idx (idx_some e1902).2
             refine lq (ePtr v71 (x1896.toNat * 1)) S (q_indexAddr rfl (H.isSl 0 rfl) rfl (idx_some e1902).1 hlt Try.underlying23 Try.sizeOf2) fun a S => ?_
             obtain ⟨c1903, h1904, hat1905⟩ := (H.rdAt 0 rfl).elem (idx_some e1902).2
             obtain rfl := h1904
             refine lx_e (.int .i64 x1901) S trivial (by decide) rfl trivial (q_load1 rfl Try.isAgg2 (by rintro _ rfl; exact (hat1905 0 _ rfl))) (fun a S => ?_)
             refine lq (.int .i64 x1901) S (q_assign rfl) fun a S => ?_
             refine lx_nil (thenN ?_)
             refine wp_seq (region_plain ?_)
             refine lq (.int .i64 x1901) S (q_move rfl) fun a S => ?_
             refine lq (.int .i64 x1742) S (q_move rfl) fun a S => ?_
             refine lq (.bool (x1901 == x1742)) S (q_eql rfl rfl) fun a S => ?_
             refine lx_nil (thenN ?_)
             refine cond_b S rfl (fun hc1906 => ?_) (fun hc1906 => ?_)
             ·have hm := ite_t hc1906 hm
              refine region_plain ?_
              refine lq (.int .i64 x1742) S (q_move rfl) fun a S => ?_
              refine lq (.int .i64 x1742) S (q_assign rfl) fun a S => ?_
              refine lx_nil ?_
              refine inBlock_norm ?_
              exact ⟨x1742, S.sub ⟨rfl, rfl, rfl, rfl, rfl, rfl, rfl, trivial⟩, H, hm⟩
             ·have hm := ite_f hc1906 hm
              refine wp_seq (region_plain ?_)
              refine lq (.int .i64 x1901) S (q_move rfl) fun a S => ?_
              refine lq (.bool (decide (x1901 < (0 : Int)))) S (q_lss rfl rfl) fun a S => ?_
              refine lq (.bool (decide (x1901 < (0 : Int)))) S (q_move rfl) fun a S => ?_
              obtain ⟨t1907, e1908, hm⟩ := bind_some hm
              refine lx_cut 4 (fun a w => Slots a 83 [(0, p0), (4, v71), (6, (.bool x1518)), (7, (.int .i64 x1519)), (9, (.int .i64 x1742)), (10, (.int .i64 x1796)), (11, (.int .i64 x1797)), (75, (.bool t1907))] ∧ Heap w0 [oA (rList (rInt .i64)) v71 xs1517] w) ?_ ?_
              ·by_cases hc1909 : (decide (x1901 < (0 : Int))) = true
               ·have hm := ite_t hc1909 e1908
                refine lx_q (.int .i64 x1796) S (want_b rfl rfl hc1909) (by decide) (q_move rfl) (fun a S => ?_)
                refine lx_q (.int .i64 x1742) S (want_b rfl rfl hc1909) (by decide) (q_move rfl) (fun a S => ?_)
                refine lx_q (.bool (x1796 != x1742)) S (want_b rfl rfl hc1909) (by decide) (q_neq rfl rfl) (fun a S => ?_)
                refine lq (.bool (x1796 != x1742)) S (q_pickT' rfl hc1909 rfl) fun a S => ?_
                refine lx_nil ?_
                obtain rfl := Option.some.inj hm
                exact ⟨S.sub ⟨rfl, rfl, rfl, rfl, rfl, rfl, rfl, rfl, trivial⟩, H⟩
               ·have hm := ite_f (eq_false_of_ne_true hc1909) e1908
                have hc1909 : (decide (x1901 < (0 : Int))) = false := eq_false_of_ne_true hc1909
                refine lx_skip S rfl rfl (isB_ne hc1909) (by decide) (fun a S => ?_)
                refine lx_skip S rfl rfl (isB_ne hc1909) (by decide) (fun a S => ?_)
                refine lx_skip S rfl rfl (isB_ne hc1909) (by decide) (fun a S => ?_)
                refine lq (.bool false) S (q_pickF' rfl hc1909 rfl) fun a S => ?_
                refine lx_nil ?_
                obtain rfl := Option.some.inj hm
                exact ⟨S.sub ⟨rfl, rfl, rfl, rfl, rfl, rfl, rfl, rfl, trivial⟩, H⟩
              ·rintro a w ⟨S, H⟩
               refine lx_nil (thenN ?_)
               refine cond_b S rfl (fun hc1910 => ?_) (fun hc1910 => ?_)
               ·have hm := ite_t hc1910 hm
                refine region_plain ?_
                refine lq (.int .i64 (-1 : Int)) S (q_assign rfl) fun a S => ?_
                refine lx_nil ?_
                refine inBlock_norm ?_
                exact ⟨(-1 : Int), S.sub ⟨rfl, rfl, rfl, rfl, rfl, rfl, rfl, trivial⟩, H, hm⟩
               ·have hm := ite_f hc1910 hm
                refine wp_skip ?_
                refine inBlock_norm ?_
                exact ⟨x1796, S.sub ⟨rfl, rfl, rfl, rfl, rfl, rfl, rfl, trivial⟩, H, hm⟩
           ·have hm := ite_f hc1877 hm
            refine wp_exit ?_
            refine then_exit ?_
            refine then_exit ?_
            refine inBlock_exit ?_
            obtain rfl := it_brk hm hc1861
            exact ⟨x1796, S.sub ⟨rfl, rfl, rfl, rfl, rfl, trivial⟩, H, rfl⟩
         ·skip
          refine wp_seq (region_plain ?_)
          refine lq p0 S (q_move rfl) fun a S => ?_
          refine lq (.int .i64 x1519) S (q_move rfl) fun a S => ?_
          obtain ⟨x1911, e1912, hm⟩ := bind_some hm
          obtain ⟨c1913, h1914, hat1915⟩ := (h0).elem (idx_some e1912).2
          obtain ⟨c1918, c1919, rfl, h1920, h1921⟩ := h1914
          obtain rfl := h1920
          obtain ⟨c1922, c1923, rfl, h1924, h1925⟩ := h1921
          obtain rfl := h1924
          obtain ⟨v1916, rfl, h1917⟩ := rd_list h1925
          have hlt := lt_of_idx (idx_some e1912).2
          refine lq (ePtr p0 (x1519.toNat * 3)) S (q_indexAddr rfl (h0).isSl rfl (idx_some e1912).1 hlt Try.underlying36 Try.sizeOf85) fun a S => ?_
          refine lq (pAdd (ePtr p0 (x1519.toNat * 3)) 1) S (q_fieldAddr' 1 4 rfl ((hat1915 0 _ rfl).isP) Try.underlying85 rfl Try.sizeOf4) fun a S => ?_
          refine lx_e (.bool x1911.2.1) S trivial (by decide) rfl trivial (q_load1 rfl Try.isAgg4 (by rintro _ rfl; exact (At.of_add (m := 1) (j := 0) ((hat1915 1 _ rfl).ext H.ext)))) (fun a S => ?_)
          refine lx_nil (thenN ?_)
          refine cond_b S rfl (fun hc1926 => ?_) (fun hc1926 => ?_)
          ·have hm := ite_t hc1926 hm
           refine wp_seq (region_plain ?_)
           refine lq (.int .i64 (1 : Int)) S (q_assign rfl) fun a S => ?_
           refine lx_nil (thenN ?_)
           refine region_plain ?_
           refine lq (.int .i64 (0 : Int)) S (q_assign rfl) fun a S => ?_
           refine lx_nil ?_
           exact ⟨(1 : Int), (0 : Int), S.sub ⟨rfl, rfl, rfl, rfl, rfl, rfl, trivial⟩, H, hm⟩
          ·have hm := ite_f hc1926 hm
           refine wp_skip ?_
           exact ⟨(0 : Int), (1 : Int), S.sub ⟨rfl, rfl, rfl, rfl, rfl, rfl, trivial⟩, H, hm⟩
      ·have hm := ite_f hc1730 hm
       refine wp_exit ?_
       refine then_exit ?_
       refine then_exit ?_
       refine inBlock_exit ?_
       obtain rfl := it_brk hm hc1729
       exact ⟨xs1517, x1518, S.sub ⟨rfl, rfl, rfl, trivial⟩, H, rfl⟩
    ·have hm := ite_f hc1316 hm
     refine wp_exit ?_
     refine then_exit ?_
     refine then_exit ?_
     refine inBlock_exit ?_
     obtain rfl := it_brk hm hc1315
     exact ⟨xs692, S.sub ⟨rfl, trivial⟩, H, rfl⟩
  ·skip
   refine loop_ghost (fun n a w => ∃ (xs55 : List Int) (x57 : Int) (v54 : Value), Slots a 83 [(0, p0), (4, v54), (5, (.int .i64 x57))] ∧ Heap w0 [oA (rList (rInt .i64)) v54 xs55] w ∧ iter f76 n (xs55, x57) = some res74) _ ⟨([] : List Int), (0 : Int), v38, S.sub ⟨rfl, rfl, rfl, trivial⟩, H, hit75⟩ ?_
   rintro n a w ⟨xs55, x57, v54, S, H, hit75⟩
   obtain ⟨m1927, o1928, rfl, hm, hc1929⟩ := iter_step hit75
   rw [hf77] at hm
   refine wp_seq (wp_seq (region_plain ?_))
   refine lq (.int .i64 x57) S (q_move rfl) fun a S => ?_
   refine lq p0 S (q_move rfl) fun a S => ?_
   refine lq (.int .i64 (a0.length : Int)) S (q_lenSl rfl (h0).isSl rfl Try.underlying36) fun a S => ?_
   refine lq (.bool (decide (x57 < (a0.length : Int)))) S (q_lss rfl rfl) fun a S => ?_
   refine lx_nil (thenN ?_)
   refine cond_b S rfl (fun hc1930 => ?_) (fun hc1930 => ?_)
   ·have hm := ite_t hc1930 hm
    refine wp_skip (thenN ?_)
    refine wp_seq ?_
    refine wp_block ?_
    refine region_plain ?_
    refine lq v54 S (q_move rfl) fun a S => ?_
    refine lx_buildSlice (r := (rInt .i64)) (xs := [(-1 : Int)]) (ps := [(0, [(.int .i64 (-1 : Int))])]) (cs := [(.int .i64 (-1 : Int))]) (parts := [(0, .const (.int .i64 (-1)))]) S trivial (by decide) rfl (H.put0 (A := eA) rfl) rfl Try.underlying23 Try.sizeOf2 Try.zeroValue2 (by decide) ⟨rfl, rfl, Nat.le_of_ble_eq_true rfl, trivial⟩ (by intro zs hz; exact fill_dense hz ⟨rfl, trivial⟩ rfl rfl) rfl (by decide) (fun w F hA => by cases (show F = [] from hA); exact ⟨_, _, [(.int .i64 (-1 : Int))], _, rfl, rfl, ⟨rfl, rfl⟩, ⟨rfl, rfl⟩⟩) (fun v1931 w1932 H => ⟨trivial, fun a S => ?_⟩)
    obtain ⟨x1934, e1935, hm⟩ := bind_some hm
    obtain ⟨hle, hap⟩ := app_some e1935
    replace hap := hap.symm
    subst hap
    have H : Heap w0 [oA (rList (rInt .i64)) v1931 [(-1 : Int)], oA (rList (rInt .i64)) v54 xs55] w1932 := H.front 0 rfl
    have H : Heap w0 [oA (rList (rInt .i64)) v54 xs55, oA (rList (rInt .i64)) v1931 [(-1 : Int)]] w1932 := H.front 1 rfl
    refine lx_appendOwn (r := (rInt .i64)) S trivial (by decide) rfl H rfl rfl Try.underlying23 Try.ti2 rfl rfl rfl (by decide) (by decide) hle (fun v1936 w1937 H => ⟨trivial, fun a S => ?_⟩)
    refine lq v1936 S (q_assign rfl) fun a S => ?_
    refine lx_nil ?_
    refine inBlock_norm ?_
    refine thenN ?_
    refine region_plain ?_
    refine lq (.int .i64 x57) S (q_move rfl) fun a S => ?_
    refine lq (.int .i64 (W (x57 + (1 : Int)))) S (q_add rfl rfl) fun a S => ?_
    refine lq (.int .i64 (W (x57 + (1 : Int)))) S (q_assign rfl) fun a S => ?_
    refine lx_nil ?_
    exact ⟨m1927, Nat.lt_succ_self _, (xs55 ++ [(-1 : Int)]), (W (x57 + (1 : Int))), v1936, S.sub ⟨rfl, rfl, rfl, trivial⟩, H, it_cont hm hc1929⟩
   ·have hm := ite_f hc1930 hm
    refine wp_exit ?_
    refine then_exit ?_
    refine then_exit ?_
    refine inBlock_exit ?_
    obtain rfl := it_brk hm hc1929
    exact ⟨xs55, v54, S.sub ⟨rfl, rfl, trivial⟩, H, rfl⟩

/-- slices.Repeat[[]int64,int64] -/
def slices_Repeat__int64_int64_m (fuel : Nat) (a0 : (List Int)) (a1 : Int) : Option ((List Int)) :=
  join (κ := Option (List Int)) ((math_bits_Mul_m fuel (IntKind.u64.wrap (a0.length : Int)) (IntKind.u64.wrap a1)).bind fun x35 => join (κ := Option (List Int)) ((mks (W x35.2) (0 : Int)).bind fun x40 => (iter (fun (s : (List Int) × (Int)) => (match s with | (xs57, x58) => (if (decide (x58 < (xs57.length : Int))) = true then (sub xs57 x58 (xs57.length : Int)).bind fun xs81 => (sub xs57 (0 : Int) x58).bind fun xs83 => some (.inl ((cpy xs57 (x58).toNat xs81.length xs83), (W (x58 + (((min xs83.length xs81.length : Nat) : Nat) : Int))))) else some (.inr (.inl (xs57)))) : Option (((List Int) × (Int)) ⊕ (((List Int)) ⊕ ((List Int)))))) fuel ((cpy x40 ((0 : Int)).toNat x40.length a0), (((min a0.length x40.length : Nat) : Nat) : Int))).bind fun res70 => ctl (β := (List Int)) (ρ := (List Int)) (τ := (List Int)) res70 (fun (xs69) => some (xs69)) (fun q => some (q))) (fun K38 => (if (decide ((0 : Int) < x35.1)) = true then some true else some (decide ((9223372036854775807 : Int) < x35.2))).bind fun t86 => (if t86 = true then none else K38))) (fun K31 => (if (decide (a1 < (0 : Int))) = true then none else K31))
set_option maxRecDepth 20000 in
theorem slices_Repeat__int64_int64_ok {w0 : World} {fuel : Nat} {p0 : Value} {a0 : (List Int)} {a1 : Int} {r : (List Int)} (h0 : Rd (rList (rInt .i64)) w0 p0 a0) (hm : slices_Repeat__int64_int64_m fuel a0 a1 = some r) :
  Calls Try.prog 74 #[p0, .int .i64 a1] w0 fun e w => ∃ (v0 : Value), e = .returned (v0) ∧ Heap w0 [oA (rList (rInt .i64)) v0 r] w := by
 unfold slices_Repeat__int64_int64_m at hm
 have H := Heap.start w0
 refine enter (args := [p0, .int .i64 a1]) Try.func74 rfl 48 rfl (Nat.le_of_ble_eq_true rfl) (fun a S => ?_)
 refine wp_seq (region_plain ?_)
 refine lq (.slice none 0 0) S (q_assign rfl) fun a S => ?_
 refine lx_nil (thenN ?_)
 obtain ⟨K31, hK32, hm⟩ := join_elim hm
 refine seq_cut (fun a w => Slots a 48 [(0, p0), (1, (.int .i64 a1))] ∧ Heap w0 [] w ∧ K31 = some r) ?_ ?_
 ·rintro a w ⟨S, H, hm⟩
  subst hK32
  refine wp_seq (region_plain ?_)
  refine lq p0 S (q_move rfl) fun a S => ?_
  refine lq (.int .i64 (a0.length : Int)) S (q_lenSl rfl (h0).isSl rfl Try.underlying23) fun a S => ?_
  refine lq (.int .u64 (IntKind.u64.wrap (a0.length : Int))) S (q_convInt rfl Try.underlying3 Try.underlying123) fun a S => ?_
  refine lq (.int .i64 a1) S (q_move rfl) fun a S => ?_
  refine lq (.int .u64 (IntKind.u64.wrap a1)) S (q_convInt rfl Try.underlying3 Try.underlying123) fun a S => ?_
  obtain ⟨x35, e36, hm⟩ := bind_some hm
  refine lx_call (xs := [.tmp 15, .tmp 17]) S trivial (by decide) rfl rfl Try.call123 ((math_bits_Mul_ok   e36).mono ?_)
  rintro e w33 ⟨rfl, Hc34⟩
  have H := H.call0 Hc34
  refine ⟨_, rfl, trivial, fun a S => ?_⟩
  refine lq (.tuple #[(.int .u64 x35.1), (.int .u64 x35.2)]) S (q_move rfl) fun a S => ?_
  refine lq (.int .u64 x35.1) S (q_extract rfl rfl) fun a S => ?_
  refine lq (.int .u64 x35.2) S (q_extract rfl rfl) fun a S => ?_
  refine lq (.int .u64 x35.1) S (q_assign rfl) fun a S => ?_
  refine lq (.int .u64 x35.2) S (q_assign rfl) fun a S => ?_
  refine lx_nil (thenN ?_)
  obtain ⟨K38, hK39, hm⟩ := join_elim hm
  refine seq_cut (fun a w => Slots a 48 [(0, p0), (6, (.int .u64 x35.2))] ∧ Heap w0 [] w ∧ K38 = some r) ?_ ?_
  ·rintro a w ⟨S, H, hm⟩
   subst hK39
   refine wp_seq (region_plain ?_)
   refine lq (.int .u64 x35.2) S (q_move rfl) fun a S => ?_
   refine lq (.int .i64 (W x35.2)) S (q_convInt rfl Try.underlying123 Try.underlying3) fun a S => ?_
   obtain ⟨x40, e41, hm⟩ := bind_some hm
   obtain ⟨m42, hn, hn2, rfl⟩ := mks_some e41
   refine lx_make (r := (rInt .i64)) (z0 := (0 : Int)) (n := m42) S trivial (by decide) rfl H (by rw [← hn]; rfl) (by rw [← hn]; rfl) Try.underlying23 (Try.ti2) rfl rfl (by decide) (fun w => ⟨rfl, rfl⟩) hn2 (by decide) (fun v43 w44 H => ⟨trivial, fun a S => ?_⟩)
   refine lq v43 S (q_assign rfl) fun a S => ?_
   refine lx_nil (thenN ?_)
   refine wp_seq (region_plain ?_)
   refine lq v43 S (q_move rfl) fun a S => ?_
   refine lq p0 S (q_move rfl) fun a S => ?_
   have hR := (H.arg h0)
   have hS := sub_self (xs := (List.replicate m42 (0 : Int)))
   have hxv := subV_self' (s := ((rInt .i64)).size) (H.isSl 0 rfl)
   refine lx_copy (r := (rInt .i64)) (lo := (0 : Int)) (hi := ((List.replicate m42 (0 : Int)).length : Int)) S trivial (by decide) rfl H (flat_int _) (by rw [hxv]; rfl) rfl hS hR Try.underlying23 Try.sizeOf2 (fun w46 H => ⟨trivial, fun a S => ?_⟩)
   refine lq (.int .i64 (((min a0.length (List.replicate m42 (0 : Int)).length : Nat) : Nat) : Int)) S (q_assign rfl) fun a S => ?_
   refine lx_nil (thenN ?_)
   refine wp_seq ?_
   obtain ⟨res70, hit71, hk74⟩ := bind_some hm
   obtain ⟨f72, hf73, hit71⟩ := iter_name hit71
   refine block_loop (fun a w => ∃ (xs69 : List Int), Slots a 48 [(7, v43)] ∧ Heap w0 [oA (rList (rInt .i64)) v43 xs69] w ∧ res70 = .inl (xs69)) ?_ ?_
   ·rintro a w ⟨xs69, S, H, rfl⟩
    have hm := ctl_inl hk74
    refine thenN ?_
    refine wp_seq (region_plain ?_)
    refine lq v43 S (q_move rfl) fun a S => ?_
    refine lq v43 S (q_assign rfl) fun a S => ?_
    refine lx_nil (thenN ?_)
    refine wp_ret ?_
    obtain rfl := Option.some.inj hm
    exact leave1 S rfl rfl ⟨v43, rfl, H⟩
   ·skip
    refine loop_ghost (fun n a w => ∃ (xs57 : List Int) (x58 : Int), Slots a 48 [(7, v43), (8, (.int .i64 x58))] ∧ Heap w0 [oA (rList (rInt .i64)) v43 xs57] w ∧ iter f72 n (xs57, x58) = some res70) _ ⟨(cpy (List.replicate m42 (0 : Int)) ((0 : Int)).toNat (List.replicate m42 (0 : Int)).length a0), (((min a0.length (List.replicate m42 (0 : Int)).length : Nat) : Nat) : Int), S.sub ⟨rfl, rfl, trivial⟩, H, hit71⟩ ?_
    rintro n a w ⟨xs57, x58, S, H, hit71⟩
    obtain ⟨m75, o76, rfl, hm, hc77⟩ := iter_step hit71
    rw [hf73] at hm
    refine wp_seq (wp_seq (region_plain ?_))
    refine lq (.int .i64 x58) S (q_move rfl) fun a S => ?_
    refine lq v43 S (q_move rfl) fun a S => ?_
    refine lq (.int .i64 (xs57.length : Int)) S (q_lenSl rfl (H.isSl 0 rfl) rfl Try.underlying23) fun a S => ?_
    refine lq (.bool (decide (x58 < (xs57.length : Int)))) S (q_lss rfl rfl) fun a S => ?_
    refine lx_nil (thenN ?_)
    refine cond_b S rfl (fun hc78 => ?_) (fun hc78 => ?_)
    ·have hm := ite_t hc78 hm
     refine wp_skip (thenN ?_)
     refine wp_block ?_
     refine region_drawG (fun w1 => Heap w0 [] w1) (fun i => [7].contains i) mixed (by kernel_rfl) (fun w80 he79 => ?_)
     have H := H.later he79
     refine ⟨H.sel [] (by decide), ?_⟩
     refine lq (.int .i64 x58) S (q_move rfl) fun a S => ?_
     refine lq v43 S (q_move rfl) fun a S => ?_
     refine lq (.int .i64 x58) S (q_move rfl) fun a S => ?_
     obtain ⟨xs81, e82, hm⟩ := bind_some hm
     have hsb := (sub_some e82).1
     refine lq (subV v43 (x58).toNat ((xs57.length : Int)).toNat 1) S (q_slice (lo := (some (.tmp 40))) (hi := none) (l := x58) (h := (xs57.length : Int)) (size := 1) rfl (H.isSl 0 rfl) Try.underlying23 Try.sizeOf2 rfl rfl hsb.1 hsb.2.1 hsb.2.2) fun a S => ?_
     refine lq v43 S (q_move rfl) fun a S => ?_
     refine lq (.int .i64 x58) S (q_move rfl) fun a S => ?_
     obtain ⟨xs83, e84, hm⟩ := bind_some hm
     have hsb := (sub_some e84).1
     refine lq (subV v43 ((0 : Int)).toNat (x58).toNat 1) S (q_slice (lo := none) (hi := (some (.tmp 43))) (l := (0 : Int)) (h := x58) (size := 1) rfl (H.isSl 0 rfl) Try.underlying23 Try.sizeOf2 rfl rfl hsb.1 hsb.2.1 hsb.2.2) fun a S => ?_
     have hR := ((H.rdAt 0 rfl).sub e84)
     have hS := e82
     refine lx_copy (r := (rInt .i64)) (lo := x58) (hi := (xs57.length : Int)) S trivial (by decide) rfl H (flat_int _) rfl rfl hS hR Try.underlying23 Try.sizeOf2 (fun w85 H => ⟨H.sel [] (by decide), fun a S => ?_⟩)
     refine lq (.int .i64 (W (x58 + (((min xs83.length xs81.length : Nat) : Nat) : Int)))) S (q_add rfl rfl) fun a S => ?_
     refine lq (.int .i64 (W (x58 + (((min xs83.length xs81.length : Nat) : Nat) : Int)))) S (q_assign rfl) fun a S => ?_
     refine lx_nil ?_
     refine inBlock_norm ?_
     exact ⟨m75, Nat.lt_succ_self _, (cpy xs57 (x58).toNat xs81.length xs83), (W (x58 + (((min xs83.length xs81.length : Nat) : Nat) : Int))), S.sub ⟨rfl, rfl, trivial⟩, H, it_cont hm hc77⟩
    ·have hm := ite_f hc78 hm
     refine wp_exit ?_
     refine then_exit ?_
     refine then_exit ?_
     refine inBlock_exit ?_
     obtain rfl := it_brk hm hc77
     exact ⟨xs57, S.sub ⟨rfl, trivial⟩, H, rfl⟩
  ·skip
   refine wp_seq (region_plain ?_)
   refine lq (.int .u64 x35.1) S (q_move rfl) fun a S => ?_
   refine lq (.bool (decide ((0 : Int) < x35.1))) S (q_gtr rfl rfl) fun a S => ?_
   refine lq (.bool (decide ((0 : Int) < x35.1))) S (q_move rfl) fun a S => ?_
   obtain ⟨t86, e87, hm⟩ := bind_some hm
   refine lx_cut 3 (fun a w => Slots a 48 [(0, p0), (6, (.int .u64 x35.2)), (26, (.bool t86))] ∧ Heap w0 [] w) ?_ ?_
   ·by_cases hc88 : (decide ((0 : Int) < x35.1)) = true
    ·have hm := ite_t hc88 e87
     refine lx_skip S rfl rfl (isB_ne hc88) (by decide) (fun a S => ?_)
     refine lx_skip S rfl rfl (isB_ne hc88) (by decide) (fun a S => ?_)
     refine lq (.bool true) S (q_pickT' rfl hc88 rfl) fun a S => ?_
     refine lx_nil ?_
     obtain rfl := Option.some.inj hm
     exact ⟨S.sub ⟨rfl, rfl, rfl, trivial⟩, H⟩
    ·have hm := ite_f (eq_false_of_ne_true hc88) e87
     have hc88 : (decide ((0 : Int) < x35.1)) = false := eq_false_of_ne_true hc88
     refine lx_q (.int .u64 x35.2) S (want_b rfl rfl hc88) (by decide) (q_move rfl) (fun a S => ?_)
     refine lx_q (.bool (decide ((9223372036854775807 : Int) < x35.2))) S (want_b rfl rfl hc88) (by decide) (q_gtr rfl rfl) (fun a S => ?_)
     refine lq (.bool (decide ((9223372036854775807 : Int) < x35.2))) S (q_pickF' rfl hc88 rfl) fun a S => ?_
     refine lx_nil ?_
     obtain rfl := Option.some.inj hm
     exact ⟨S.sub ⟨rfl, rfl, rfl, trivial⟩, H⟩
   ·rintro a w ⟨S, H⟩
    refine lx_nil (thenN ?_)
    refine cond_b S rfl (fun hc89 => ?_) (fun hc89 => ?_)
    ·have hm := ite_t hc89 hm
     refine region_plain ?_
     cases hm
    ·have hm := ite_f hc89 hm
     refine wp_skip ?_
     exact ⟨S.sub ⟨rfl, rfl, trivial⟩, H, hm⟩
 ·skip
  refine wp_seq (region_plain ?_)
  refine lq (.int .i64 a1) S (q_move rfl) fun a S => ?_
  refine lq (.bool (decide (a1 < (0 : Int)))) S (q_lss rfl rfl) fun a S => ?_
  refine lx_nil (thenN ?_)
  refine cond_b S rfl (fun hc90 => ?_) (fun hc90 => ?_)
  ·have hm := ite_t hc90 hm
   refine region_plain ?_
   cases hm
  ·have hm := ite_f hc90 hm
   refine wp_skip ?_
   exact ⟨S.sub ⟨rfl, rfl, trivial⟩, H, hm⟩

/-- impl.DecidedEquations$1 -/
def impl_DecidedEquations_1_m (_ : Nat) (a0 : Int) (a1 : (List Int)) (a2 : Int) : Option (Bool) :=
  (idx a1 a0).bind fun x41 => some ((x41 == (W ((1 : Int) - a2))))
set_option maxRecDepth 20000 in
theorem impl_DecidedEquations_1_ok {w0 : World} {fuel : Nat} {p1 p2 : Value} {a0 : Int} {a1 : (List Int)} {a2 : Int} {r : Bool} (h1 : Rd (rPtr (rList (rInt .i64))) w0 p1 a1) (h2 : Rd (rPtr (rInt .i64)) w0 p2 a2) (hm : impl_DecidedEquations_1_m fuel a0 a1 a2 = some r) :
  Calls Try.prog 76 #[.int .i64 a0, p1, p2] w0 fun e w => e = .returned (.bool r) ∧ Heap w0 [] w := by
 unfold impl_DecidedEquations_1_m at hm
 have H := Heap.start w0
 obtain ⟨c31, h32, hat33⟩ := h1.ptr
 obtain ⟨v34, rfl, h35⟩ := rd_list h32
 obtain ⟨c36, h37, hat38⟩ := h2.ptr
 obtain rfl := h37
 refine enter (args := [.int .i64 a0, p1, p2]) Try.func76 rfl 12 rfl (Nat.le_of_ble_eq_true rfl) (fun a S => ?_)
 refine wp_seq (region_plain ?_)
 refine lq (.bool false) S (q_assign rfl) fun a S => ?_
 refine lx_nil (thenN ?_)
 refine wp_seq ?_
 refine region_drawG (fun w1 => Heap w0 [] w1) (fun i => [].contains i) mixed (by kernel_rfl) (fun w40 he39 => ?_)
 have H := H.later he39
 refine ⟨H.sel [] (by decide), ?_⟩
 refine lq v34 S (q_load1 rfl Try.isAgg23 (fun w1 hC => ((hat33 0 _ rfl).ext hC.ext))) fun a S => ?_
 refine lq (.int .i64 a0) S (q_move rfl) fun a S => ?_
 obtain ⟨x41, e42, hm⟩ := bind_some hm
 obtain ⟨c43, h44, hat45⟩ := (h35).elem (idx_some e42).2
 obtain rfl := h44
 have hlt := lt_of_idx (idx_some e42).2
 refine lq (ePtr v34 (a0.toNat * 1)) S (q_indexAddr rfl (h35).isSl rfl (idx_some e42).1 hlt Try.underlying23 Try.sizeOf2) fun a S => ?_
 refine lq (.int .i64 x41) S (q_load1 rfl Try.isAgg2 (fun w1 hC => ((hat45 0 _ rfl).ext hC.ext))) fun a S => ?_
 refine lq (.int .i64 a2) S (q_load1 rfl Try.isAgg2 (fun w1 hC => ((hat38 0 _ rfl).ext hC.ext))) fun a S => ?_
 refine lq (.int .i64 (W ((1 : Int) - a2))) S (q_sub rfl rfl) fun a S => ?_
 refine lq (.bool (x41 == (W ((1 : Int) - a2)))) S (q_eql rfl rfl) fun a S => ?_
 refine lq (.bool (x41 == (W ((1 : Int) - a2)))) S (q_assign rfl) fun a S => ?_
 refine lx_nil (thenN ?_)
 refine wp_ret ?_
 obtain rfl := Option.some.inj hm
 exact leave1 S rfl rfl ⟨rfl, H⟩

/-- impl.DecidedEquations$2 -/
def impl_DecidedEquations_2_m (_ : Nat) (a0 : Int) (a1 : (List Int)) (a2 : Int) : Option (Bool) :=
  (idx a1 a0).bind fun x41 => some ((x41 != a2))
set_option maxRecDepth 20000 in
theorem impl_DecidedEquations_2_ok {w0 : World} {fuel : Nat} {p1 p2 : Value} {a0 : Int} {a1 : (List Int)} {a2 : Int} {r : Bool} (h1 : Rd (rPtr (rList (rInt .i64))) w0 p1 a1) (h2 : Rd (rPtr (rInt .i64)) w0 p2 a2) (hm : impl_DecidedEquations_2_m fuel a0 a1 a2 = some r) :
  Calls Try.prog 77 #[.int .i64 a0, p1, p2] w0 fun e w => e = .returned (.bool r) ∧ Heap w0 [] w := by
 unfold impl_DecidedEquations_2_m at hm
 have H := Heap.start w0
 obtain ⟨c31, h32, hat33⟩ := h1.ptr
 obtain ⟨v34, rfl, h35⟩ := rd_list h32
 obtain ⟨c36, h37, hat38⟩ := h2.ptr
 obtain rfl := h37
 refine enter (args := [.int .i64 a0, p1, p2]) Try.func77 rfl 11 rfl (Nat.le_of_ble_eq_true rfl) (fun a S => ?_)
 refine wp_seq (region_plain ?_)
 refine lq (.bool false) S (q_assign rfl) fun a S => ?_
 refine lx_nil (thenN ?_)
 refine wp_seq ?_
 refine region_drawG (fun w1 => Heap w0 [] w1) (fun i => [].contains i) mixed (by kernel_rfl) (fun w40 he39 => ?_)
 have H := H.later he39
 refine ⟨H.sel [] (by decide), ?_⟩
 refine lq v34 S (q_load1 rfl Try.isAgg23 (fun w1 hC => ((hat33 0 _ rfl).ext hC.ext))) fun a S => ?_
 refine lq (.int .i64 a0) S (q_move rfl) fun a S => ?_
 obtain ⟨x41, e42, hm⟩ := bind_some hm
 obtain ⟨c43, h44, hat45⟩ := (h35).elem (idx_some e42).2
 obtain rfl := h44
 have hlt := lt_of_idx (idx_some e42).2
 refine lq (ePtr v34 (a0.toNat * 1)) S (q_indexAddr rfl (h35).isSl rfl (idx_some e42).1 hlt Try.underlying23 Try.sizeOf2) fun a S => ?_
 refine lq (.int .i64 x41) S (q_load1 rfl Try.isAgg2 (fun w1 hC => ((hat45 0 _ rfl).ext hC.ext))) fun a S => ?_
 refine lq (.int .i64 a2) S (q_load1 rfl Try.isAgg2 (fun w1 hC => ((hat38 0 _ rfl).ext hC.ext))) fun a S => ?_
 refine lq (.bool (x41 != a2)) S (q_neq rfl rfl) fun a S => ?_
 refine lq (.bool (x41 != a2)) S (q_assign rfl) fun a S => ?_
 refine lx_nil (thenN ?_)
 refine wp_ret ?_
 obtain rfl := Option.some.inj hm
 exact leave1 S rfl rfl ⟨rfl, H⟩

/-- impl.DecidedEquations -/
def impl_DecidedEquations_m (fuel : Nat) (a0 : (List Timpl_Equation)) : Option (((List Int) × Int)) :=
  (impl_ValidEquations_m fuel a0).bind fun x33 => (if (!x33) = true then some (([], (1 : Int))) else (slices_Repeat__int64_int64_m fuel [(-1 : Int)] (a0.length : Int)).bind fun x43 => (iter (fun (s : (List Int) × (Bool)) => (match s with | (xs266, x267) => (if x267 = true then (iter (fun (s : (List Int) × (Bool) × (Int)) => (match s with | (xs559, x560, x561) => (if (decide (x561 < (a0.length : Int))) = true then join (κ := List Int → Bool → Option (((List Int) × (Bool) × (Int)) ⊕ (((List Int) × Bool) ⊕ (((List Int) × Int))))) (fun (xs640 : List Int) (x641 : Bool) => some (.inl (xs640, x641, (W (x561 + (1 : Int)))))) (fun K642 => (idx a0 x561).bind fun x644 => (idx xs559 x561).bind fun x663 => (if (decide ((0 : Int) ≤ x663)) = true then (K642 xs559 x560) else (impl_truth_m fuel x644.2.1).bind fun x671 => join (κ := List Int → Option (((List Int) × (Bool) × (Int)) ⊕ (((List Int) × Bool) ⊕ (((List Int) × Int))))) (fun (xs678 : List Int) => (K642 xs678 true)) (fun K679 => (slices_ContainsFunc__int64_int64_m fuel x644.2.2 (fun (z0 : Int) => impl_DecidedEquations_1_m fuel z0 xs559 x671)).bind fun x683 => (if x683 = true then (idx xs559 x561).bind fun _ => (K679 (xs559.set x561.toNat (W ((1 : Int) - x671)))) else (slices_ContainsFunc__int64_int64_m fuel x644.2.2 (fun (z0 : Int) => impl_DecidedEquations_2_m fuel z0 xs559 x671)).bind fun x694 => (if (!x694) = true then (idx xs559 x561).bind fun _ => (K679 (xs559.set x561.toNat x671)) else (K642 xs559 x560)))))) else some (.inr (.inl (xs559, x560)))) : Option (((List Int) × (Bool) × (Int)) ⊕ (((List Int) × Bool) ⊕ (((List Int) × Int)))))) fuel (xs266, false, (0 : Int))).bind fun res631 => ctl (β := (List Int) × Bool) (ρ := ((List Int) × Int)) (τ := (((List Int) × (Bool)) ⊕ (((List Int)) ⊕ (((List Int) × Int))))) res631 (fun (xs629, x630) => some (.inl (xs629, x630))) (fun q => some (.inr (.inr q))) else some (.inr (.inl (xs266)))) : Option (((List Int) × (Bool)) ⊕ (((List Int)) ⊕ (((List Int) × Int)))))) fuel (x43, true)).bind fun res483 => ctl (β := (List Int)) (ρ := ((List Int) × Int)) (τ := ((List Int) × Int)) res483 (fun (xs482) => some ((xs482, (0 : Int)))) (fun q => some (q)))
set_option maxRecDepth 20000 in
theorem impl_DecidedEquations_ok {w0 : World} {fuel : Nat} {p0 : Value} {a0 : (List Timpl_Equation)} {r : ((List Int) × Int)} (h0 : Rd (rList Rimpl_Equation) w0 p0 a0) (hm : impl_DecidedEquations_m fuel a0 = some r) :
  Calls Try.prog 29 #[p0] w0 fun e w => ∃ (v0 : Value), e = .returned (.tuple #[v0, .int .i64 r.2]) ∧ Heap w0 [oA (rList (rInt .i64)) v0 r.1] w := by
 unfold impl_DecidedEquations_m at hm
 have H := Heap.start w0
 refine enter (args := [p0]) Try.func29 rfl 54 rfl (Nat.le_of_ble_eq_true rfl) (fun a S => ?_)
 refine wp_seq (region_plain ?_)
 refine lq (.slice none 0 0) S (q_assign rfl) fun a S => ?_
 refine lq (.int .i64 (0 : Int)) S (q_assign rfl) fun a S => ?_
 refine lx_nil (thenN ?_)
 refine wp_seq (wp_seq (region_plain ?_))
 refine lq p0 S (q_move rfl) fun a S => ?_
 obtain ⟨x33, e34, hm⟩ := bind_some hm
 refine lx_call (xs := [.tmp 9]) S trivial (by decide) rfl rfl Try.call71 ((impl_ValidEquations_ok (H.arg h0) e34).mono ?_)
 rintro e w31 ⟨rfl, Hc32⟩
 have H := H.call0 Hc32
 refine ⟨_, rfl, trivial, fun a S => ?_⟩
 refine lq (.bool (!x33)) S (q_not rfl) fun a S => ?_
 refine lx_nil (thenN ?_)
 refine cond_b S rfl (fun hc36 => ?_) (fun hc36 => ?_)
 ·have hm := ite_t hc36 hm
  refine wp_seq (region_plain ?_)
  refine lq (.slice none 0 0) S (q_assign rfl) fun a S => ?_
  refine lq (.int .i64 (1 : Int)) S (q_assign rfl) fun a S => ?_
  refine lx_nil (thenN ?_)
  refine wp_ret (then_ret ?_)
  obtain rfl := Option.some.inj hm
  have H : Heap w0 [oA (rList (rInt .i64)) (.slice none 0 0) ([] : List Int)] w31 := H.nilList (rInt .i64)
  exact leave2 S rfl rfl rfl ⟨(.slice none 0 0), rfl, H⟩
 ·have hm := ite_f hc36 hm
  refine wp_skip (thenN ?_)
  refine wp_seq (region_plain ?_)
  refine lx_buildSlice (r := (rInt .i64)) (xs := [(-1 : Int)]) (ps := [(0, [(.int .i64 (-1 : Int))])]) (cs := [(.int .i64 (-1 : Int))]) (parts := [(0, .const (.int .i64 (-1)))]) S trivial (by decide) rfl (H.put0 (A := eA) rfl) rfl Try.underlying23 Try.sizeOf2 Try.zeroValue2 (by decide) ⟨rfl, rfl, Nat.le_of_ble_eq_true rfl, trivial⟩ (by intro zs hz; exact fill_dense hz ⟨rfl, trivial⟩ rfl rfl) rfl (by decide) (fun w F hA => by cases (show F = [] from hA); exact ⟨_, _, [(.int .i64 (-1 : Int))], _, rfl, rfl, ⟨rfl, rfl⟩, ⟨rfl, rfl⟩⟩) (fun v38 w39 H => ⟨trivial, fun a S => ?_⟩)
  refine lq p0 S (q_move rfl) fun a S => ?_
  refine lq (.int .i64 (a0.length : Int)) S (q_lenSl rfl (h0).isSl rfl Try.underlying36) fun a S => ?_
  obtain ⟨x43, e44, hm⟩ := bind_some hm
  refine lx_call (xs := [.tmp 12, .tmp 14]) S trivial (by decide) rfl rfl Try.call74 ((slices_Repeat__int64_int64_ok (H.rdAt 0 rfl)  e44).mono ?_)
  rintro e w41 ⟨v45, rfl, Hc42⟩
  have H := H.call1 Hc42
  refine ⟨_, rfl, trivial, fun a S => ?_⟩
  refine lx_alloc S trivial (by decide) rfl H Try.zeroValue23 rfl (fun b48 w49 H => ⟨trivial, fun a S => ?_⟩)
  refine lx_storeBox (o := 0) (i := 0) (us := [v45]) (cs' := [v45]) S trivial rfl H rfl rfl rfl (cells_sl (H.isSl 1 rfl)) Try.sizeOf23 (Nat.le_of_ble_eq_true rfl) (List.forall_mem_cons.2 ⟨one_sl (H.isSl 1 rfl), (fun _ h => nomatch h)⟩) rfl (fun w51 H => ⟨trivial, fun a S => ?_⟩)
  change Heap w0 [bA b48 [v45] 23, oA (rList (rInt .i64)) v45 x43, oA (rList (rInt .i64)) v38 [(-1 : Int)]] w51 at H
  refine lx_nil (thenN ?_)
  refine wp_seq (wp_seq (region_plain ?_))
  refine lq (.bool true) S (q_assign rfl) fun a S => ?_
  refine lx_nil (thenN ?_)
  obtain ⟨res483, hit484, hk487⟩ := bind_some hm
  obtain ⟨f485, hf486, hit484⟩ := iter_name hit484
  refine block_loop (fun a w => ∃ (xs482 : List Int), Slots a 54 [(4, (bp b48))] ∧ Heap w0 [bA b48 [v45] 23, oA (rList (rInt .i64)) v45 xs482] w ∧ res483 = .inl (xs482)) ?_ ?_
  ·rintro a w ⟨xs482, S, H, rfl⟩
   have hm := ctl_inl hk487
   refine thenN ?_
   refine wp_seq (region_plain ?_)
   refine lx_e v45 S trivial (by decide) rfl trivial (q_load1 rfl Try.isAgg23 (by rintro _ rfl; exact (boxAt (i := 0) H rfl (j := 0) rfl))) (fun a S => ?_)
   refine lq v45 S (q_assign rfl) fun a S => ?_
   refine lq (.int .i64 (0 : Int)) S (q_assign rfl) fun a S => ?_
   refine lx_nil (thenN ?_)
   refine wp_ret ?_
   obtain rfl := Option.some.inj hm
   have H : Heap w0 [oA (rList (rInt .i64)) v45 xs482] w := H.sel [1] (by decide)
   exact leave2 S rfl rfl rfl ⟨v45, rfl, H⟩
  ·skip
   have H : Heap w0 [bA b48 [v45] 23, oA (rList (rInt .i64)) v45 x43] w51 := H.sel [0, 1] (by decide)
   refine loop_ghost (fun n a w => ∃ (xs266 : List Int) (x267 : Bool), Slots a 54 [(0, p0), (4, (bp b48)), (5, (.bool x267))] ∧ Heap w0 [bA b48 [v45] 23, oA (rList (rInt .i64)) v45 xs266] w ∧ iter f485 n (xs266, x267) = some res483) _ ⟨x43, true, S.sub ⟨rfl, rfl, rfl, trivial⟩, H, hit484⟩ ?_
   rintro n a w ⟨xs266, x267, S, H, hit484⟩
   obtain ⟨m488, o489, rfl, hm, hc490⟩ := iter_step hit484
   rw [hf486] at hm
   refine wp_seq (wp_seq (region_plain ?_))
   refine lq (.bool x267) S (q_move rfl) fun a S => ?_
   refine lx_nil (thenN ?_)
   refine cond_b S rfl (fun hc491 => ?_) (fun hc491 => ?_)
   ·have hm := ite_t hc491 hm
    refine wp_skip (thenN ?_)
    refine wp_block ?_
    refine wp_seq (region_plain ?_)
    refine lq (.bool false) S (q_assign rfl) fun a S => ?_
    refine lx_nil (thenN ?_)
    refine wp_seq (region_plain ?_)
    refine lq p0 S (q_move rfl) fun a S => ?_
    refine lq (.int .i64 (a0.length : Int)) S (q_lenSl rfl (h0).isSl rfl Try.underlying36) fun a S => ?_
    refine lq (.int .i64 (0 : Int)) S (q_move rfl) fun a S => ?_
    refine lx_nil (thenN ?_)
    obtain ⟨res631, hit632, hk635⟩ := bind_some hm
    obtain ⟨f633, hf634, hit632⟩ := iter_name hit632
    refine block_loop (fun a w => ∃ (xs629 : List Int) (x630 : Bool), Slots a 54 [(0, p0), (4, (bp b48)), (5, (.bool x630))] ∧ Heap w0 [bA b48 [v45] 23, oA (rList (rInt .i64)) v45 xs629] w ∧ res631 = .inl (xs629, x630)) ?_ ?_
    ·rintro a w ⟨xs629, x630, S, H, rfl⟩
     have hm := ctl_inl hk635
     refine inBlock_norm ?_
     exact ⟨m488, Nat.lt_succ_self _, xs629, x630, S.sub ⟨rfl, rfl, rfl, trivial⟩, H, it_cont hm hc490⟩
    ·skip
     refine loop_ghost (fun n a w => ∃ (xs559 : List Int) (x560 : Bool) (x561 : Int), Slots a 54 [(0, p0), (4, (bp b48)), (5, (.bool x560)), (17, p0), (18, (.int .i64 (a0.length : Int))), (19, (.int .i64 x561))] ∧ Heap w0 [bA b48 [v45] 23, oA (rList (rInt .i64)) v45 xs559] w ∧ iter f633 n (xs559, x560, x561) = some res631) _ ⟨xs266, false, (0 : Int), S.sub ⟨rfl, rfl, rfl, rfl, rfl, rfl, trivial⟩, H, hit632⟩ ?_
     rintro n a w ⟨xs559, x560, x561, S, H, hit632⟩
     obtain ⟨m636, o637, rfl, hm, hc638⟩ := iter_step hit632
     rw [hf634] at hm
     refine wp_seq (region_plain ?_)
     refine lq (.bool (decide (x561 < (a0.length : Int)))) S (q_lss rfl rfl) fun a S => ?_
     refine lx_nil (thenN ?_)
     refine wp_seq ?_
     refine cond_b S rfl (fun hc639 => ?_) (fun hc639 => ?_)
     ·have hm := ite_t hc639 hm
      refine wp_skip (thenN ?_)
      obtain ⟨K642, hK643, hm⟩ := join_elim hm
      refine seq_cut (fun a w => ∃ (xs640 : List Int) (x641 : Bool), Slots a 54 [(0, p0), (4, (bp b48)), (5, (.bool x641)), (17, p0), (18, (.int .i64 (a0.length : Int))), (19, (.int .i64 x561))] ∧ Heap w0 [bA b48 [v45] 23, oA (rList (rInt .i64)) v45 xs640] w ∧ K642 xs640 x641 = some o637) ?_ ?_
      ·rintro a w ⟨xs640, x641, S, H, hm⟩
       subst hK643
       refine region_plain ?_
       refine lq (.int .i64 (W (x561 + (1 : Int)))) S (q_add rfl rfl) fun a S => ?_
       refine lq (.int .i64 (W (x561 + (1 : Int)))) S (q_move rfl) fun a S => ?_
       refine lx_nil ?_
       exact ⟨m636, Nat.lt_succ_self _, xs640, x641, (W (x561 + (1 : Int))), S.sub ⟨rfl, rfl, rfl, rfl, rfl, rfl, trivial⟩, H, it_cont hm hc638⟩
      ·skip
       refine wp_block ?_
       refine wp_seq (region_plain ?_)
       refine lq (.int .i64 x561) S (q_move rfl) fun a S => ?_
       obtain ⟨x644, e645, hm⟩ := bind_some hm
       obtain ⟨c646, h647, hat648⟩ := (h0).elem (idx_some e645).2
       obtain ⟨c651, c652, rfl, h653, h654⟩ := h647
       obtain rfl := h653
       obtain ⟨c655, c656, rfl, h657, h658⟩ := h654
       obtain rfl := h657
       obtain ⟨v649, rfl, h650⟩ := rd_list h658
       have hlt := lt_of_idx (idx_some e645).2
       refine lq (ePtr p0 (x561.toNat * 3)) S (q_indexAddr rfl (h0).isSl rfl (idx_some e645).1 hlt Try.underlying36 Try.sizeOf85) fun a S => ?_
       refine lx_e (.agg #[(.bool x644.1), (.bool x644.2.1), v649]) S trivial (by decide) rfl trivial (q_loadA (cs := [(.bool x644.1), (.bool x644.2.1), v649]) rfl ((hat648 0 _ rfl).isP) Try.isAgg85 Try.sizeOf85 (by rintro _ rfl; exact (fun j u hu => (hat648 j u hu).ext H.ext))) (fun a S => ?_)
       refine lx_alloc S trivial (by decide) rfl H Try.zeroValue85 rfl (fun b659 w660 H => ⟨trivial, fun a S => ?_⟩)
       refine lq (.int .i64 x561) S (q_assign rfl) fun a S => ?_
       refine lx_storeBox (o := 0) (i := 0) (us := [(.bool x644.1), (.bool x644.2.1), v649]) (cs' := [(.bool x644.1), (.bool x644.2.1), v649]) S trivial rfl H rfl rfl rfl rfl Try.sizeOf85 (Nat.le_of_ble_eq_true rfl) (List.forall_mem_cons.2 ⟨rfl, (List.forall_mem_cons.2 ⟨rfl, (List.forall_mem_cons.2 ⟨one_sl (h650).isSl, (fun _ h => nomatch h)⟩)⟩)⟩) rfl (fun w662 H => ⟨trivial, fun a S => ?_⟩)
       change Heap w0 [bA b659 [(.bool x644.1), (.bool x644.2.1), v649] 85, bA b48 [v45] 23, oA (rList (rInt .i64)) v45 xs559] w662 at H
       refine lx_nil (thenN ?_)
       refine wp_seq (wp_seq (region_plain ?_))
       refine lx_e v45 S trivial (by decide) rfl trivial (q_load1 rfl Try.isAgg23 (by rintro _ rfl; exact (boxAt (i := 1) H rfl (j := 0) rfl))) (fun a S => ?_)
       refine lq (.int .i64 x561) S (q_move rfl) fun a S => ?_
       obtain ⟨x663, e664, hm⟩ := bind_some hm
       have hlt := lt_of_idx (idx_some e664).2
       refine lq (ePtr v45 (x561.toNat * 1)) S (q_indexAddr rfl (H.isSl 2 rfl) rfl (idx_some e664).1 hlt Try.underlying23 Try.sizeOf2) fun a S => ?_
       obtain ⟨c665, h666, hat667⟩ := (H.rdAt 2 rfl).elem (idx_some e664).2
       obtain rfl := h666
       refine lx_e (.int .i64 x663) S trivial (by decide) rfl trivial (q_load1 rfl Try.isAgg2 (by rintro _ rfl; exact (hat667 0 _ rfl))) (fun a S => ?_)
       refine lq (.bool (decide ((0 : Int) ≤ x663))) S (q_geq rfl rfl) fun a S => ?_
       refine lx_nil (thenN ?_)
       refine cond_b S rfl (fun hc668 => ?_) (fun hc668 => ?_)
       ·have hm := ite_t hc668 hm
        refine wp_exit ?_
        refine then_exit ?_
        refine inBlock_exit ?_
        have H : Heap w0 [bA b48 [v45] 23, oA (rList (rInt .i64)) v45 xs559] w662 := H.sel [1, 2] (by decide)
        exact ⟨xs559, x560, S.sub ⟨rfl, rfl, rfl, rfl, rfl, rfl, trivial⟩, H, hm⟩
       ·have hm := ite_f hc668 hm
        refine wp_skip (thenN ?_)
        refine wp_seq (region_plain ?_)
        refine lq (pAdd (bp b659) 1) S (q_fieldAddr' 1 4 rfl (isP_bp _) Try.underlying85 rfl Try.sizeOf4) fun a S => ?_
        refine lx_e (.bool x644.2.1) S trivial (by decide) rfl trivial (q_load1 rfl Try.isAgg4 (by rintro _ rfl; exact (At.of_add (m := 1) (j := 0) (boxAt (i := 0) H rfl (j := 1) rfl)))) (fun a S => ?_)
        obtain ⟨x671, e672, hm⟩ := bind_some hm
        refine lx_call (xs := [.tmp 30]) S trivial (by decide) rfl rfl Try.call75 ((impl_truth_ok  e672).mono ?_)
        rintro e w669 ⟨rfl, Hc670⟩
        have H := H.call0 Hc670
        refine ⟨_, rfl, trivial, fun a S => ?_⟩
        refine lx_alloc S trivial (by decide) rfl H Try.zeroValue2 rfl (fun b674 w675 H => ⟨trivial, fun a S => ?_⟩)
        refine lx_storeBox (o := 0) (i := 0) (us := [(.int .i64 x671)]) (cs' := [(.int .i64 x671)]) S trivial rfl H rfl rfl rfl rfl Try.sizeOf2 (Nat.le_of_ble_eq_true rfl) (List.forall_mem_cons.2 ⟨rfl, (fun _ h => nomatch h)⟩) rfl (fun w677 H => ⟨trivial, fun a S => ?_⟩)
        change Heap w0 [bA b674 [(.int .i64 x671)] 2, bA b659 [(.bool x644.1), (.bool x644.2.1), v649] 85, bA b48 [v45] 23, oA (rList (rInt .i64)) v45 xs559] w677 at H
        refine lx_nil (thenN ?_)
        obtain ⟨K679, hK680, hm⟩ := join_elim hm
        refine seq_cut (fun a w => ∃ (xs678 : List Int), Slots a 54 [(0, p0), (4, (bp b48)), (17, p0), (18, (.int .i64 (a0.length : Int))), (19, (.int .i64 x561))] ∧ Heap w0 [bA b48 [v45] 23, oA (rList (rInt .i64)) v45 xs678] w ∧ K679 xs678 = some o637) ?_ ?_
        ·rintro a w ⟨xs678, S, H, hm⟩
         subst hK680
         refine region_plain ?_
         refine lq (.bool true) S (q_assign rfl) fun a S => ?_
         refine lx_nil ?_
         refine inBlock_norm ?_
         exact ⟨xs678, true, S.sub ⟨rfl, rfl, rfl, rfl, rfl, rfl, trivial⟩, H, hm⟩
        ·skip
         refine wp_block ?_
         refine wp_seq (region_plain ?_)
         refine lq (pAdd (bp b659) 2) S (q_fieldAddr' 2 23 rfl (isP_bp _) Try.underlying85 rfl Try.sizeOf23) fun a S => ?_
         refine lx_e v649 S trivial (by decide) rfl trivial (q_load1 rfl Try.isAgg23 (by rintro _ rfl; exact (At.of_add (m := 2) (j := 0) (boxAt (i := 1) H rfl (j := 2) rfl)))) (fun a S => ?_)
         refine lq (.func (.func 76) #[] #[(bp b48), (bp b674)]) S (q_makeFunc (xs := []) (ys := [.tmp 4, .tmp 8]) rfl rfl) fun a S => ?_
         obtain ⟨x683, e684, hm⟩ := bind_some hm
         have hcap685 : Rd (rPtr (rList (rInt .i64))) w677 (bp b48) xs559 := (rdPtr_box H 2 rfl ((H.rdAt 3 rfl)).list_rd)
         have hcap686 : Rd (rPtr (rInt .i64)) w677 (bp b674) x671 := (rdPtr_box H 0 rfl rfl)
         refine lx_call (xs := [.tmp 34, .tmp 35]) S trivial (by decide) rfl rfl Try.call63 ((slices_ContainsFunc__int64_int64_ok (f1 := 76) (fs1 := ([] : List Value)) (cp1 := ([(bp b48), (bp b674)] : List Value)) (a1 := (fun (z0 : Int) => impl_DecidedEquations_1_m fuel z0 xs559 x671)) (H.arg h650) Try.call76 (fun he  hm => impl_DecidedEquations_1_ok  (hcap685.ext he) (hcap686.ext he) hm) e684).mono ?_)
         rintro e w681 ⟨rfl, Hc682⟩
         have H := H.call0 Hc682
         refine ⟨_, rfl, trivial, fun a S => ?_⟩
         refine lq (.bool x683) S (q_assign rfl) fun a S => ?_
         refine lx_nil (thenN ?_)
         refine cond_b S rfl (fun hc688 => ?_) (fun hc688 => ?_)
         ·have hm := ite_t hc688 hm
          refine region_plain ?_
          refine lx_e v45 S trivial (by decide) rfl trivial (q_load1 rfl Try.isAgg23 (by rintro _ rfl; exact (boxAt (i := 2) H rfl (j := 0) rfl))) (fun a S => ?_)
          refine lq (.int .i64 x561) S (q_move rfl) fun a S => ?_
          refine lx_e (.int .i64 x671) S trivial (by decide) rfl trivial (q_load1 rfl Try.isAgg2 (by rintro _ rfl; exact (boxAt (i := 0) H rfl (j := 0) rfl))) (fun a S => ?_)
          refine lq (.int .i64 (W ((1 : Int) - x671))) S (q_sub rfl rfl) fun a S => ?_
          obtain ⟨x689, e690, hm⟩ := bind_some hm
          have hlt := lt_of_idx (idx_some e690).2
          refine lq (ePtr v45 (x561.toNat * 1)) S (q_indexAddr rfl (H.isSl 3 rfl) rfl (idx_some e690).1 hlt Try.underlying23 Try.sizeOf2) fun a S => ?_
          have H : Heap w0 [oA (rList (rInt .i64)) v45 xs559, bA b674 [(.int .i64 x671)] 2, bA b659 [(.bool x644.1), (.bool x644.2.1), v649] 85, bA b48 [v45] 23] w681 := H.front 3 rfl
          refine lx_storeElem (r := (rInt .i64)) (us := [(.int .i64 (W ((1 : Int) - x671)))]) (off := 0) (e' := (W ((1 : Int) - x671))) S trivial rfl H.putE (by rw [pAdd_zero]; rfl) rfl (idx_some e690).2 rfl Try.sizeOf2 (Nat.le_of_ble_eq_true rfl) (List.forall_mem_cons.2 ⟨rfl, (fun _ h => nomatch h)⟩) (Upd.full rfl (fun w G hG => by cases (show G = [] from hG); exact ⟨rfl, rfl⟩)) (fun w691 H => ⟨trivial, fun a S => ?_⟩)
          refine lx_nil ?_
          refine inBlock_norm ?_
          have H : Heap w0 [bA b48 [v45] 23, oA (rList (rInt .i64)) v45 (xs559.set x561.toNat (W ((1 : Int) - x671))), bA b674 [(.int .i64 x671)] 2, bA b659 [(.bool x644.1), (.bool x644.2.1), v649] 85] w691 := H.front 3 rfl
          have H : Heap w0 [bA b48 [v45] 23, oA (rList (rInt .i64)) v45 (xs559.set x561.toNat (W ((1 : Int) - x671)))] w691 := H.sel [0, 1] (by decide)
          exact ⟨(xs559.set x561.toNat (W ((1 : Int) - x671))), S.sub ⟨rfl, rfl, rfl, rfl, rfl, trivial⟩, H, hm⟩
         ·have hm := ite_f hc688 hm
          refine wp_seq (region_plain ?_)
          refine lq (pAdd (bp b659) 2) S (q_fieldAddr' 2 23 rfl (isP_bp _) Try.underlying85 rfl Try.sizeOf23) fun a S => ?_
          refine lx_e v649 S trivial (by decide) rfl trivial (q_load1 rfl Try.isAgg23 (by rintro _ rfl; exact (At.of_add (m := 2) (j := 0) (boxAt (i := 1) H rfl (j := 2) rfl)))) (fun a S => ?_)
          refine lq (.func (.func 77) #[] #[(bp b48), (bp b674)]) S (q_makeFunc (xs := []) (ys := [.tmp 4, .tmp 8]) rfl rfl) fun a S => ?_
          obtain ⟨x694, e695, hm⟩ := bind_some hm
          have hcap696 : Rd (rPtr (rList (rInt .i64))) w681 (bp b48) xs559 := (rdPtr_box H 2 rfl ((H.rdAt 3 rfl)).list_rd)
          have hcap697 : Rd (rPtr (rInt .i64)) w681 (bp b674) x671 := (rdPtr_box H 0 rfl rfl)
          refine lx_call (xs := [.tmp 44, .tmp 45]) S trivial (by decide) rfl rfl Try.call63 ((slices_ContainsFunc__int64_int64_ok (f1 := 77) (fs1 := ([] : List Value)) (cp1 := ([(bp b48), (bp b674)] : List Value)) (a1 := (fun (z0 : Int) => impl_DecidedEquations_2_m fuel z0 xs559 x671)) (H.arg h650) Try.call77 (fun he  hm => impl_DecidedEquations_2_ok  (hcap696.ext he) (hcap697.ext he) hm) e695).mono ?_)
          rintro e w692 ⟨rfl, Hc693⟩
          have H := H.call0 Hc693
          refine ⟨_, rfl, trivial, fun a S => ?_⟩
          refine lq (.bool (!x694)) S (q_not rfl) fun a S => ?_
          refine lq (.bool (!x694)) S (q_assign rfl) fun a S => ?_
          refine lx_nil (thenN ?_)
          refine cond_b S rfl (fun hc699 => ?_) (fun hc699 => ?_)
          ·have hm := ite_t hc699 hm
           refine region_plain ?_
           refine lx_e v45 S trivial (by decide) rfl trivial (q_load1 rfl Try.isAgg23 (by rintro _ rfl; exact (boxAt (i := 2) H rfl (j := 0) rfl))) (fun a S => ?_)
           refine lq (.int .i64 x561) S (q_move rfl) fun a S => ?_
           refine lx_e (.int .i64 x671) S trivial (by decide) rfl trivial (q_load1 rfl Try.isAgg2 (by rintro _ rfl; exact (boxAt (i := 0) H rfl (j := 0) rfl))) (fun a S => ?_)
           obtain ⟨x700, e701, hm⟩ := bind_some hm
           have hlt := lt_of_idx (idx_some e701).2
           refine lq (ePtr v45 (x561.toNat * 1)) S (q_indexAddr rfl (H.isSl 3 rfl) rfl (idx_some e701).1 hlt Try.underlying23 Try.sizeOf2) fun a S => ?_
           have H : Heap w0 [oA (rList (rInt .i64)) v45 xs559, bA b674 [(.int .i64 x671)] 2, bA b659 [(.bool x644.1), (.bool x644.2.1), v649] 85, bA b48 [v45] 23] w692 := H.front 3 rfl
           refine lx_storeElem (r := (rInt .i64)) (us := [(.int .i64 x671)]) (off := 0) (e' := x671) S trivial rfl H.putE (by rw [pAdd_zero]; rfl) rfl (idx_some e701).2 rfl Try.sizeOf2 (Nat.le_of_ble_eq_true rfl) (List.forall_mem_cons.2 ⟨rfl, (fun _ h => nomatch h)⟩) (Upd.full rfl (fun w G hG => by cases (show G = [] from hG); exact ⟨rfl, rfl⟩)) (fun w702 H => ⟨trivial, fun a S => ?_⟩)
           refine lx_nil ?_
           refine inBlock_norm ?_
           have H : Heap w0 [bA b48 [v45] 23, oA (rList (rInt .i64)) v45 (xs559.set x561.toNat x671), bA b674 [(.int .i64 x671)] 2, bA b659 [(.bool x644.1), (.bool x644.2.1), v649] 85] w702 := H.front 3 rfl
           have H : Heap w0 [bA b48 [v45] 23, oA (rList (rInt .i64)) v45 (xs559.set x561.toNat x671)] w702 := H.sel [0, 1] (by decide)
           exact ⟨(xs559.set x561.toNat x671), S.sub ⟨rfl, rfl, rfl, rfl, rfl, trivial⟩, H, hm⟩
          ·have hm := ite_f hc699 hm
           refine wp_exit ?_
           refine inBlock_other (by decide) ?_
           refine then_exit ?_
           refine inBlock_exit ?_
           have H : Heap w0 [bA b48 [v45] 23, oA (rList (rInt .i64)) v45 xs559] w692 := H.sel [2, 3] (by decide)
           exact ⟨xs559, x560, S.sub ⟨rfl, rfl, rfl, rfl, rfl, rfl, trivial⟩, H, hm⟩
     ·have hm := ite_f hc639 hm
      refine wp_exit ?_
      refine then_exit ?_
      refine then_exit ?_
      refine inBlock_exit ?_
      obtain rfl := it_brk hm hc638
      exact ⟨xs559, x560, S.sub ⟨rfl, rfl, rfl, trivial⟩, H, rfl⟩
   ·have hm := ite_f hc491 hm
    refine wp_exit ?_
    refine then_exit ?_
    refine then_exit ?_
    refine inBlock_exit ?_
    obtain rfl := it_brk hm hc490
    exact ⟨xs266, S.sub ⟨rfl, trivial⟩, H, rfl⟩

/-- laws.FnExactDecidedEquations -/
def laws_FnExactDecidedEquations_m (fuel : Nat) (a0 : (List Tlaws_Equation)) : Option (Bool) :=
  (laws_szEquationS_m fuel a0 (1048576 : Int)).bind fun x33 => (if (decide (x33 < (0 : Int))) = true then some (true) else (laws_toEquationS_m fuel a0).bind fun x39 => (spec_DecidedEquations_m fuel x39).bind fun x46 => (laws_toEquationS_m fuel a0).bind fun x53 => (impl_DecidedEquations_m fuel x53).bind fun x60 => (laws_eqInt64S_m fuel x60.1 x46.1).bind fun x67 => (if (!x67) = true then some true else some (x60.2 != x46.2)).bind fun t70 => (if t70 = true then some (false) else (laws_toEquationS_m fuel a0).bind fun x76 => (laws_eqEquationS_m fuel x53 x76).bind fun x83 => (if (!x83) = true then some (false) else (laws_markEquationS_m fuel x53 (1 : Int)).bind fun x89 => (if (decide (x89.1 < (0 : Int))) = true then some true else (laws_eqInt64S_m fuel x60.1 x46.1).bind fun x96 => some (!x96)).bind fun t91 => (if t91 = true then some true else some (x60.2 != x46.2)).bind fun t99 => (if t99 = true then some (false) else (laws_markInt64S_m fuel x60.1 (1 : Int)).bind fun x105 => (laws_heldInt64S_m fuel x105.2 (1 : Int)).bind fun x109 => (if (decide (x109 < (0 : Int))) = true then some (false) else (if (x109 != x105.1) = true then some (false) else (laws_toEquationS_m fuel a0).bind fun x116 => (impl_DecidedEquations_m fuel x116).bind fun x123 => (laws_eqInt64S_m fuel x123.1 x46.1).bind fun x130 => (if (!x130) = true then some true else some (x123.2 != x46.2)).bind fun t133 => (if t133 = true then some (false) else (laws_heldInt64S_m fuel x105.2 (1 : Int)).bind fun x139 => (if (decide (x139 < (0 : Int))) = true then some (false) else (if (x139 != x105.1) = true then some (false) else some (true))))))))))
set_option maxRecDepth 20000 in
theorem laws_FnExactDecidedEquations_ok {w0 : World} {fuel : Nat} {p0 : Value} {a0 : (List Tlaws_Equation)} {r : Bool} (h0 : Rd (rList Rlaws_Equation) w0 p0 a0) (hm : laws_FnExactDecidedEquations_m fuel a0 = some r) :
  Calls Try.prog 5 #[p0] w0 fun e w => e = .returned (.bool r) ∧ Heap w0 [] w := by
 unfold laws_FnExactDecidedEquations_m at hm
 have H := Heap.start w0
 refine enter (args := [p0]) Try.func5 rfl 96 rfl (Nat.le_of_ble_eq_true rfl) (fun a S => ?_)
 refine wp_seq (region_plain ?_)
 refine lq (.bool false) S (q_assign rfl) fun a S => ?_
 refine lx_nil (thenN ?_)
 refine wp_seq (region_plain ?_)
 refine lq (.int .i64 (1048576 : Int)) S (q_assign rfl) fun a S => ?_
 refine lx_nil (thenN ?_)
 refine wp_seq (region_plain ?_)
 refine lq p0 S (q_move rfl) fun a S => ?_
 refine lq (.int .i64 (1048576 : Int)) S (q_move rfl) fun a S => ?_
 obtain ⟨x33, e34, hm⟩ := bind_some hm
 refine lx_call (xs := [.tmp 14, .tmp 15]) S trivial (by decide) rfl rfl Try.call20 ((laws_szEquationS_ok (H.arg h0)  e34).mono ?_)
 rintro e w31 ⟨rfl, Hc32⟩
 have H := H.call0 Hc32
 refine ⟨_, rfl, trivial, fun a S => ?_⟩
 refine lq (.int .i64 x33) S (q_assign rfl) fun a S => ?_
 refine lx_nil (thenN ?_)
 refine wp_seq (wp_seq (region_plain ?_))
 refine lq (.int .i64 x33) S (q_move rfl) fun a S => ?_
 refine lq (.bool (decide (x33 < (0 : Int)))) S (q_lss rfl rfl) fun a S => ?_
 refine lx_nil (thenN ?_)
 refine cond_b S rfl (fun hc36 => ?_) (fun hc36 => ?_)
 ·have hm := ite_t hc36 hm
  refine wp_seq (region_plain ?_)
  refine lq (.bool true) S (q_assign rfl) fun a S => ?_
  refine lx_nil (thenN ?_)
  refine wp_ret (then_ret ?_)
  obtain rfl := Option.some.inj hm
  exact leave1 S rfl rfl ⟨rfl, H⟩
 ·have hm := ite_f hc36 hm
  refine wp_skip (thenN ?_)
  refine wp_seq (region_plain ?_)
  refine lq p0 S (q_move rfl) fun a S => ?_
  obtain ⟨x39, e40, hm⟩ := bind_some hm
  refine lx_call (xs := [.tmp 20]) S trivial (by decide) rfl rfl Try.call22 ((laws_toEquationS_ok (H.arg h0) e40).mono ?_)
  rintro e w37 ⟨v41, rfl, Hc38⟩
  have H := H.call1 Hc38
  refine ⟨_, rfl, trivial, fun a S => ?_⟩
  obtain ⟨x46, e47, hm⟩ := bind_some hm
  refine lx_call (xs := [.tmp 21]) S trivial (by decide) rfl rfl Try.call28 ((spec_DecidedEquations_ok (H.rdAt 0 rfl) e47).mono ?_)
  rintro e w44 ⟨v48, rfl, Hc45⟩
  have H := H.call1 Hc45
  refine ⟨_, rfl, trivial, fun a S => ?_⟩
  refine lq (.tuple #[v48, (.int .i64 x46.2)]) S (q_move rfl) fun a S => ?_
  refine lq v48 S (q_extract rfl rfl) fun a S => ?_
  refine lq (.int .i64 x46.2) S (q_extract rfl rfl) fun a S => ?_
  refine lq v48 S (q_assign rfl) fun a S => ?_
  refine lq (.int .i64 x46.2) S (q_assign rfl) fun a S => ?_
  refine lx_nil (thenN ?_)
  refine wp_seq (region_plain ?_)
  refine lq p0 S (q_move rfl) fun a S => ?_
  obtain ⟨x53, e54, hm⟩ := bind_some hm
  refine lx_call (xs := [.tmp 25]) S trivial (by decide) rfl rfl Try.call22 ((laws_toEquationS_ok (H.arg h0) e54).mono ?_)
  rintro e w51 ⟨v55, rfl, Hc52⟩
  have H := H.call1 Hc52
  refine ⟨_, rfl, trivial, fun a S => ?_⟩
  refine lq v55 S (q_assign rfl) fun a S => ?_
  refine lx_nil (thenN ?_)
  refine wp_seq (region_plain ?_)
  refine lq v55 S (q_move rfl) fun a S => ?_
  obtain ⟨x60, e61, hm⟩ := bind_some hm
  refine lx_call (xs := [.tmp 28]) S trivial (by decide) rfl rfl Try.call29 ((impl_DecidedEquations_ok (H.rdAt 0 rfl) e61).mono ?_)
  rintro e w58 ⟨v62, rfl, Hc59⟩
  have H := H.call1 Hc59
  refine ⟨_, rfl, trivial, fun a S => ?_⟩
  refine lq (.tuple #[v62, (.int .i64 x60.2)]) S (q_move rfl) fun a S => ?_
  refine lq v62 S (q_extract rfl rfl) fun a S => ?_
  refine lq (.int .i64 x60.2) S (q_extract rfl rfl) fun a S => ?_
  refine lq v62 S (q_assign rfl) fun a S => ?_
  refine lq (.int .i64 x60.2) S (q_assign rfl) fun a S => ?_
  refine lx_nil (thenN ?_)
  refine wp_seq (wp_seq (region_plain ?_))
  refine lq v62 S (q_move rfl) fun a S => ?_
  refine lq v48 S (q_move rfl) fun a S => ?_
  obtain ⟨x67, e68, hm⟩ := bind_some hm
  refine lx_call (xs := [.tmp 32, .tmp 33]) S trivial (by decide) rfl rfl Try.call19 ((laws_eqInt64S_ok (H.rdAt 0 rfl) (H.rdAt 2 rfl) e68).mono ?_)
  rintro e w65 ⟨rfl, Hc66⟩
  have H := H.call0 Hc66
  refine ⟨_, rfl, trivial, fun a S => ?_⟩
  refine lq (.bool (!x67)) S (q_not rfl) fun a S => ?_
  refine lq (.bool (!x67)) S (q_move rfl) fun a S => ?_
  obtain ⟨t70, e71, hm⟩ := bind_some hm
  refine lx_cut 4 (fun a w => Slots a 96 [(0, p0), (4, v48), (5, (.int .i64 x46.2)), (6, v55), (7, v62), (8, (.int .i64 x60.2)), (40, (.bool t70))] ∧ Heap w0 [oA (rList (rInt .i64)) v62 x60.1, oA (rList Rimpl_Equation) v55 x53, oA (rList (rInt .i64)) v48 x46.1] w) ?_ ?_
  ·by_cases hc72 : (!x67) = true
   ·have hm := ite_t hc72 e71
    refine lx_skip S rfl rfl (isB_ne hc72) (by decide) (fun a S => ?_)
    refine lx_skip S rfl rfl (isB_ne hc72) (by decide) (fun a S => ?_)
    refine lx_skip S rfl rfl (isB_ne hc72) (by decide) (fun a S => ?_)
    refine lq (.bool true) S (q_pickT' rfl hc72 rfl) fun a S => ?_
    refine lx_nil ?_
    obtain rfl := Option.some.inj hm
    have H := H.sel [0, 1, 2] (by decide)
    exact ⟨S.sub ⟨rfl, rfl, rfl, rfl, rfl, rfl, rfl, trivial⟩, H⟩
   ·have hm := ite_f (eq_false_of_ne_true hc72) e71
    have hc72 : (!x67) = false := eq_false_of_ne_true hc72
    refine lx_q (.int .i64 x60.2) S (want_b rfl rfl hc72) (by decide) (q_move rfl) (fun a S => ?_)
    refine lx_q (.int .i64 x46.2) S (want_b rfl rfl hc72) (by decide) (q_move rfl) (fun a S => ?_)
    refine lx_q (.bool (x60.2 != x46.2)) S (want_b rfl rfl hc72) (by decide) (q_neq rfl rfl) (fun a S => ?_)
    refine lq (.bool (x60.2 != x46.2)) S (q_pickF' rfl hc72 rfl) fun a S => ?_
    refine lx_nil ?_
    obtain rfl := Option.some.inj hm
    have H := H.sel [0, 1, 2] (by decide)
    exact ⟨S.sub ⟨rfl, rfl, rfl, rfl, rfl, rfl, rfl, trivial⟩, H⟩
  ·rintro a w ⟨S, H⟩
   refine lx_nil (thenN ?_)
   refine cond_b S rfl (fun hc73 => ?_) (fun hc73 => ?_)
   ·have hm := ite_t hc73 hm
    refine wp_seq (region_plain ?_)
    refine lq (.bool false) S (q_assign rfl) fun a S => ?_
    refine lx_nil (thenN ?_)
    refine wp_ret (then_ret ?_)
    obtain rfl := Option.some.inj hm
    have H : Heap w0 [] w := H.sel [] (by decide)
    exact leave1 S rfl rfl ⟨rfl, H⟩
   ·have hm := ite_f hc73 hm
    refine wp_skip (thenN ?_)
    refine wp_seq (wp_seq (region_plain ?_))
    refine lq v55 S (q_move rfl) fun a S => ?_
    refine lq p0 S (q_move rfl) fun a S => ?_
    obtain ⟨x76, e77, hm⟩ := bind_some hm
    refine lx_call (xs := [.tmp 42]) S trivial (by decide) rfl rfl Try.call22 ((laws_toEquationS_ok (H.arg h0) e77).mono ?_)
    rintro e w74 ⟨v78, rfl, Hc75⟩
    have H := H.call1 Hc75
    refine ⟨_, rfl, trivial, fun a S => ?_⟩
    obtain ⟨x83, e84, hm⟩ := bind_some hm
    refine lx_call (xs := [.tmp 41, .tmp 43]) S trivial (by decide) rfl rfl Try.call24 ((laws_eqEquationS_ok (H.rdAt 2 rfl) (H.rdAt 0 rfl) e84).mono ?_)
    rintro e w81 ⟨rfl, Hc82⟩
    have H := H.call0 Hc82
    refine ⟨_, rfl, trivial, fun a S => ?_⟩
    refine lq (.bool (!x83)) S (q_not rfl) fun a S => ?_
    refine lx_nil (thenN ?_)
    refine cond_b S rfl (fun hc86 => ?_) (fun hc86 => ?_)
    ·have hm := ite_t hc86 hm
     refine wp_seq (region_plain ?_)
     refine lq (.bool false) S (q_assign rfl) fun a S => ?_
     refine lx_nil (thenN ?_)
     refine wp_ret (then_ret ?_)
     obtain rfl := Option.some.inj hm
     have H : Heap w0 [] w81 := H.sel [] (by decide)
     exact leave1 S rfl rfl ⟨rfl, H⟩
    ·have hm := ite_f hc86 hm
     refine wp_skip (thenN ?_)
     refine wp_seq (region_plain ?_)
     refine lq (.int .i64 (1 : Int)) S (q_assign rfl) fun a S => ?_
     refine lx_nil (thenN ?_)
     refine wp_seq (region_plain ?_)
     refine lq v55 S (q_move rfl) fun a S => ?_
     refine lq (.int .i64 (1 : Int)) S (q_move rfl) fun a S => ?_
     obtain ⟨x89, e90, hm⟩ := bind_some hm
     have H : Heap w0 [oA (rList Rimpl_Equation) v55 x53, oA (rList Rimpl_Equation) v78 x76, oA (rList (rInt .i64)) v62 x60.1, oA (rList (rInt .i64)) v48 x46.1] w81 := H.front 2 rfl
     refine lx_call (xs := [.tmp 46, .tmp 47]) S trivial (by decide) rfl rfl Try.call25 ((laws_markEquationS_ok H  e90).mono ?_)
     rintro e w87 ⟨rfl, H⟩
     refine ⟨_, rfl, trivial, fun a S => ?_⟩
     refine lq (.int .i64 x89.1) S (q_assign rfl) fun a S => ?_
     refine lx_nil (thenN ?_)
     refine wp_seq (wp_seq (region_plain ?_))
     refine lq (.int .i64 x89.1) S (q_move rfl) fun a S => ?_
     refine lq (.bool (decide (x89.1 < (0 : Int)))) S (q_lss rfl rfl) fun a S => ?_
     refine lq (.bool (decide (x89.1 < (0 : Int)))) S (q_move rfl) fun a S => ?_
     obtain ⟨t91, e92, hm⟩ := bind_some hm
     refine lx_cut 5 (fun a w => Slots a 96 [(0, p0), (4, v48), (5, (.int .i64 x46.2)), (7, v62), (8, (.int .i64 x60.2)), (56, (.bool t91))] ∧ Heap w0 [oA (rList (rInt .i64)) v62 x60.1, oA (rList (rInt .i64)) v48 x46.1] w) ?_ ?_
     ·by_cases hc93 : (decide (x89.1 < (0 : Int))) = true
      ·have hm := ite_t hc93 e92
       refine lx_skip S rfl rfl (isB_ne hc93) (by decide) (fun a S => ?_)
       refine lx_skip S rfl rfl (isB_ne hc93) (by decide) (fun a S => ?_)
       refine lx_skip S rfl rfl (isB_ne hc93) (by decide) (fun a S => ?_)
       refine lx_skip S rfl rfl (isB_ne hc93) (by decide) (fun a S => ?_)
       refine lq (.bool true) S (q_pickT' rfl hc93 rfl) fun a S => ?_
       refine lx_nil ?_
       obtain rfl := Option.some.inj hm
       have H := H.sel [2, 3] (by decide)
       exact ⟨S.sub ⟨rfl, rfl, rfl, rfl, rfl, rfl, trivial⟩, H⟩
      ·have hm := ite_f (eq_false_of_ne_true hc93) e92
       have hc93 : (decide (x89.1 < (0 : Int))) = false := eq_false_of_ne_true hc93
       refine lx_q v62 S (want_b rfl rfl hc93) (by decide) (q_move rfl) (fun a S => ?_)
       refine lx_q v48 S (want_b rfl rfl hc93) (by decide) (q_move rfl) (fun a S => ?_)
       obtain ⟨x96, e97, hm⟩ := bind_some hm
       refine lx_call (xs := [.tmp 52, .tmp 53]) S (want_b rfl rfl hc93) (by decide) rfl rfl Try.call19 ((laws_eqInt64S_ok (H.rdAt 2 rfl) (H.rdAt 3 rfl) e97).mono ?_)
       rintro e w94 ⟨rfl, Hc95⟩
       have H := H.call0 Hc95
       refine ⟨_, rfl, trivial, fun a S => ?_⟩
       refine lx_q (.bool (!x96)) S (want_b rfl rfl hc93) (by decide) (q_not rfl) (fun a S => ?_)
       refine lq (.bool (!x96)) S (q_pickF' rfl hc93 rfl) fun a S => ?_
       refine lx_nil ?_
       obtain rfl := Option.some.inj hm
       have H := H.sel [2, 3] (by decide)
       exact ⟨S.sub ⟨rfl, rfl, rfl, rfl, rfl, rfl, trivial⟩, H⟩
     ·rintro a w ⟨S, H⟩
      refine lq (.bool t91) S (q_move rfl) fun a S => ?_
      obtain ⟨t99, e100, hm⟩ := bind_some hm
      refine lx_cut 4 (fun a w => Slots a 96 [(0, p0), (4, v48), (5, (.int .i64 x46.2)), (7, v62), (61, (.bool t99))] ∧ Heap w0 [oA (rList (rInt .i64)) v62 x60.1, oA (rList (rInt .i64)) v48 x46.1] w) ?_ ?_
      ·by_cases hc101 : t91 = true
       ·have hm := ite_t hc101 e100
        refine lx_skip S rfl rfl (isB_ne hc101) (by decide) (fun a S => ?_)
        refine lx_skip S rfl rfl (isB_ne hc101) (by decide) (fun a S => ?_)
        refine lx_skip S rfl rfl (isB_ne hc101) (by decide) (fun a S => ?_)
        refine lq (.bool true) S (q_pickT' rfl hc101 rfl) fun a S => ?_
        refine lx_nil ?_
        obtain rfl := Option.some.inj hm
        exact ⟨S.sub ⟨rfl, rfl, rfl, rfl, rfl, trivial⟩, H⟩
       ·have hm := ite_f (eq_false_of_ne_true hc101) e100
        have hc101 : t91 = false := eq_false_of_ne_true hc101
        refine lx_q (.int .i64 x60.2) S (want_b rfl rfl hc101) (by decide) (q_move rfl) (fun a S => ?_)
        refine lx_q (.int .i64 x46.2) S (want_b rfl rfl hc101) (by decide) (q_move rfl) (fun a S => ?_)
        refine lx_q (.bool (x60.2 != x46.2)) S (want_b rfl rfl hc101) (by decide) (q_neq rfl rfl) (fun a S => ?_)
        refine lq (.bool (x60.2 != x46.2)) S (q_pickF' rfl hc101 rfl) fun a S => ?_
        refine lx_nil ?_
        obtain rfl := Option.some.inj hm
        exact ⟨S.sub ⟨rfl, rfl, rfl, rfl, rfl, trivial⟩, H⟩
      ·rintro a w ⟨S, H⟩
       refine lx_nil (thenN ?_)
       refine cond_b S rfl (fun hc102 => ?_) (fun hc102 => ?_)
       ·have hm := ite_t hc102 hm
        refine wp_seq (region_plain ?_)
        refine lq (.bool false) S (q_assign rfl) fun a S => ?_
        refine lx_nil (thenN ?_)
        refine wp_ret (then_ret ?_)
        obtain rfl := Option.some.inj hm
        have H : Heap w0 [] w := H.sel [] (by decide)
        exact leave1 S rfl rfl ⟨rfl, H⟩
       ·have hm := ite_f hc102 hm
        refine wp_skip (thenN ?_)
        refine wp_seq (region_plain ?_)
        refine lq (.int .i64 (1 : Int)) S (q_assign rfl) fun a S => ?_
        refine lx_nil (thenN ?_)
        refine wp_seq (region_plain ?_)
        refine lq v62 S (q_move rfl) fun a S => ?_
        refine lq (.int .i64 (1 : Int)) S (q_move rfl) fun a S => ?_
        obtain ⟨x105, e106, hm⟩ := bind_some hm
        refine lx_call (xs := [.tmp 62, .tmp 63]) S trivial (by decide) rfl rfl Try.call30 ((laws_markInt64S_ok H  e106).mono ?_)
        rintro e w103 ⟨rfl, H⟩
        refine ⟨_, rfl, trivial, fun a S => ?_⟩
        refine lq (.int .i64 x105.1) S (q_assign rfl) fun a S => ?_
        refine lx_nil (thenN ?_)
        refine wp_seq (region_plain ?_)
        refine lq (.int .i64 (1 : Int)) S (q_assign rfl) fun a S => ?_
        refine lx_nil (thenN ?_)
        refine wp_seq (region_plain ?_)
        refine lq v62 S (q_move rfl) fun a S => ?_
        refine lq (.int .i64 (1 : Int)) S (q_move rfl) fun a S => ?_
        obtain ⟨x109, e110, hm⟩ := bind_some hm
        refine lx_call (xs := [.tmp 65, .tmp 66]) S trivial (by decide) rfl rfl Try.call31 ((laws_heldInt64S_ok (H.rdAt 0 rfl)  e110).mono ?_)
        rintro e w107 ⟨rfl, Hc108⟩
        have H := H.call0 Hc108
        refine ⟨_, rfl, trivial, fun a S => ?_⟩
        refine lq (.int .i64 x109) S (q_assign rfl) fun a S => ?_
        refine lx_nil (thenN ?_)
        refine wp_seq (wp_seq (region_plain ?_))
        refine lq (.int .i64 x109) S (q_move rfl) fun a S => ?_
        refine lq (.bool (decide (x109 < (0 : Int)))) S (q_lss rfl rfl) fun a S => ?_
        refine lx_nil (thenN ?_)
        refine cond_b S rfl (fun hc112 => ?_) (fun hc112 => ?_)
        ·have hm := ite_t hc112 hm
         refine wp_seq (region_plain ?_)
         refine lq (.bool false) S (q_assign rfl) fun a S => ?_
         refine lx_nil (thenN ?_)
         refine wp_ret (then_ret ?_)
         obtain rfl := Option.some.inj hm
         have H : Heap w0 [] w107 := H.sel [] (by decide)
         exact leave1 S rfl rfl ⟨rfl, H⟩
        ·have hm := ite_f hc112 hm
         refine wp_skip (thenN ?_)
         refine wp_seq (wp_seq (region_plain ?_))
         refine lq (.int .i64 x109) S (q_move rfl) fun a S => ?_
         refine lq (.int .i64 x105.1) S (q_move rfl) fun a S => ?_
         refine lq (.bool (x109 != x105.1)) S (q_neq rfl rfl) fun a S => ?_
         refine lx_nil (thenN ?_)
         refine cond_b S rfl (fun hc113 => ?_) (fun hc113 => ?_)
         ·have hm := ite_t hc113 hm
          refine wp_seq (region_plain ?_)
          refine lq (.bool false) S (q_assign rfl) fun a S => ?_
          refine lx_nil (thenN ?_)
          refine wp_ret (then_ret ?_)
          obtain rfl := Option.some.inj hm
          have H : Heap w0 [] w107 := H.sel [] (by decide)
          exact leave1 S rfl rfl ⟨rfl, H⟩
         ·have hm := ite_f hc113 hm
          refine wp_skip (thenN ?_)
          refine wp_seq (region_plain ?_)
          refine lq p0 S (q_move rfl) fun a S => ?_
          obtain ⟨x116, e117, hm⟩ := bind_some hm
          refine lx_call (xs := [.tmp 74]) S trivial (by decide) rfl rfl Try.call22 ((laws_toEquationS_ok (H.arg h0) e117).mono ?_)
          rintro e w114 ⟨v118, rfl, Hc115⟩
          have H := H.call1 Hc115
          refine ⟨_, rfl, trivial, fun a S => ?_⟩
          obtain ⟨x123, e124, hm⟩ := bind_some hm
          refine lx_call (xs := [.tmp 75]) S trivial (by decide) rfl rfl Try.call29 ((impl_DecidedEquations_ok (H.rdAt 0 rfl) e124).mono ?_)
          rintro e w121 ⟨v125, rfl, Hc122⟩
          have H := H.call1 Hc122
          refine ⟨_, rfl, trivial, fun a S => ?_⟩
          refine lq (.tuple #[v125, (.int .i64 x123.2)]) S (q_move rfl) fun a S => ?_
          refine lq v125 S (q_extract rfl rfl) fun a S => ?_
          refine lq (.int .i64 x123.2) S (q_extract rfl rfl) fun a S => ?_
          refine lq v125 S (q_assign rfl) fun a S => ?_
          refine lq (.int .i64 x123.2) S (q_assign rfl) fun a S => ?_
          refine lx_nil (thenN ?_)
          refine wp_seq (wp_seq (region_plain ?_))
          refine lq v125 S (q_move rfl) fun a S => ?_
          refine lq v48 S (q_move rfl) fun a S => ?_
          obtain ⟨x130, e131, hm⟩ := bind_some hm
          refine lx_call (xs := [.tmp 79, .tmp 80]) S trivial (by decide) rfl rfl Try.call19 ((laws_eqInt64S_ok (H.rdAt 0 rfl) (H.rdAt 3 rfl) e131).mono ?_)
          rintro e w128 ⟨rfl, Hc129⟩
          have H := H.call0 Hc129
          refine ⟨_, rfl, trivial, fun a S => ?_⟩
          refine lq (.bool (!x130)) S (q_not rfl) fun a S => ?_
          refine lq (.bool (!x130)) S (q_move rfl) fun a S => ?_
          obtain ⟨t133, e134, hm⟩ := bind_some hm
          refine lx_cut 4 (fun a w => Slots a 96 [(7, v62), (10, (.int .i64 x105.1)), (87, (.bool t133))] ∧ Heap w0 [oA (rList (rInt .i64)) v62 x105.2] w) ?_ ?_
          ·by_cases hc135 : (!x130) = true
           ·have hm := ite_t hc135 e134
            refine lx_skip S rfl rfl (isB_ne hc135) (by decide) (fun a S => ?_)
            refine lx_skip S rfl rfl (isB_ne hc135) (by decide) (fun a S => ?_)
            refine lx_skip S rfl rfl (isB_ne hc135) (by decide) (fun a S => ?_)
            refine lq (.bool true) S (q_pickT' rfl hc135 rfl) fun a S => ?_
            refine lx_nil ?_
            obtain rfl := Option.some.inj hm
            have H := H.sel [2] (by decide)
            exact ⟨S.sub ⟨rfl, rfl, rfl, trivial⟩, H⟩
           ·have hm := ite_f (eq_false_of_ne_true hc135) e134
            have hc135 : (!x130) = false := eq_false_of_ne_true hc135
            refine lx_q (.int .i64 x123.2) S (want_b rfl rfl hc135) (by decide) (q_move rfl) (fun a S => ?_)
            refine lx_q (.int .i64 x46.2) S (want_b rfl rfl hc135) (by decide) (q_move rfl) (fun a S => ?_)
            refine lx_q (.bool (x123.2 != x46.2)) S (want_b rfl rfl hc135) (by decide) (q_neq rfl rfl) (fun a S => ?_)
            refine lq (.bool (x123.2 != x46.2)) S (q_pickF' rfl hc135 rfl) fun a S => ?_
            refine lx_nil ?_
            obtain rfl := Option.some.inj hm
            have H := H.sel [2] (by decide)
            exact ⟨S.sub ⟨rfl, rfl, rfl, trivial⟩, H⟩
          ·rintro a w ⟨S, H⟩
           refine lx_nil (thenN ?_)
           refine cond_b S rfl (fun hc136 => ?_) (fun hc136 => ?_)
           ·have hm := ite_t hc136 hm
            refine wp_seq (region_plain ?_)
            refine lq (.bool false) S (q_assign rfl) fun a S => ?_
            refine lx_nil (thenN ?_)
            refine wp_ret (then_ret ?_)
            obtain rfl := Option.some.inj hm
            have H : Heap w0 [] w := H.sel [] (by decide)
            exact leave1 S rfl rfl ⟨rfl, H⟩
           ·have hm := ite_f hc136 hm
            refine wp_skip (thenN ?_)
            refine wp_seq (region_plain ?_)
            refine lq (.int .i64 (1 : Int)) S (q_assign rfl) fun a S => ?_
            refine lx_nil (thenN ?_)
            refine wp_seq (region_plain ?_)
            refine lq v62 S (q_move rfl) fun a S => ?_
            refine lq (.int .i64 (1 : Int)) S (q_move rfl) fun a S => ?_
            obtain ⟨x139, e140, hm⟩ := bind_some hm
            refine lx_call (xs := [.tmp 88, .tmp 89]) S trivial (by decide) rfl rfl Try.call31 ((laws_heldInt64S_ok (H.rdAt 0 rfl)  e140).mono ?_)
            rintro e w137 ⟨rfl, Hc138⟩
            have H := H.call0 Hc138
            refine ⟨_, rfl, trivial, fun a S => ?_⟩
            refine lq (.int .i64 x139) S (q_assign rfl) fun a S => ?_
            refine lx_nil (thenN ?_)
            refine wp_seq (wp_seq (region_plain ?_))
            refine lq (.int .i64 x139) S (q_move rfl) fun a S => ?_
            refine lq (.bool (decide (x139 < (0 : Int)))) S (q_lss rfl rfl) fun a S => ?_
            refine lx_nil (thenN ?_)
            refine cond_b S rfl (fun hc142 => ?_) (fun hc142 => ?_)
            ·have hm := ite_t hc142 hm
             refine wp_seq (region_plain ?_)
             refine lq (.bool false) S (q_assign rfl) fun a S => ?_
             refine lx_nil (thenN ?_)
             refine wp_ret (then_ret ?_)
             obtain rfl := Option.some.inj hm
             have H : Heap w0 [] w137 := H.sel [] (by decide)
             exact leave1 S rfl rfl ⟨rfl, H⟩
            ·have hm := ite_f hc142 hm
             refine wp_skip (thenN ?_)
             refine wp_seq (wp_seq (region_plain ?_))
             refine lq (.int .i64 x139) S (q_move rfl) fun a S => ?_
             refine lq (.int .i64 x105.1) S (q_move rfl) fun a S => ?_
             refine lq (.bool (x139 != x105.1)) S (q_neq rfl rfl) fun a S => ?_
             refine lx_nil (thenN ?_)
             refine cond_b S rfl (fun hc143 => ?_) (fun hc143 => ?_)
             ·have hm := ite_t hc143 hm
              refine wp_seq (region_plain ?_)
              refine lq (.bool false) S (q_assign rfl) fun a S => ?_
              refine lx_nil (thenN ?_)
              refine wp_ret (then_ret ?_)
              obtain rfl := Option.some.inj hm
              have H : Heap w0 [] w137 := H.sel [] (by decide)
              exact leave1 S rfl rfl ⟨rfl, H⟩
             ·have hm := ite_f hc143 hm
              refine wp_skip (thenN ?_)
              refine wp_seq (region_plain ?_)
              refine lq (.bool true) S (q_assign rfl) fun a S => ?_
              refine lx_nil (thenN ?_)
              refine wp_ret ?_
              obtain rfl := Option.some.inj hm
              have H : Heap w0 [] w137 := H.sel [] (by decide)
              exact leave1 S rfl rfl ⟨rfl, H⟩
end Go.Proofs.Ytecknjdlbmmmiaa
