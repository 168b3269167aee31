/- The models of some functions and their walks (printed by a program of this repo). -/
import Derived.Test.YtecknjdlbmmmiaaF0
import Derived.Test.YtecknjdlbmmmiaaF1
import Derived.Test.YtecknjdlbmmmiaaF3
import Derived.Test.YtecknjdlbmmmiaaF4
import Derived.Test.YtecknjdlbmmmiaaFS
import Derived.Test.YtecknjdlbmmmiaaGxT
namespace Go.Proofs.Ytecknjdlbmmmiaa
open Go.RowKit Go.Gx

/-- spec.DecidedEquations -/
def spec_DecidedEquations_m (fuel : Nat) (a0 : (List Timpl_Equation)) : Option (((List Int) × Int)) :=
  (spec_l22Is_m fuel a0).bind fun x33 => (if (!x33) = true then some (([], (1 : Int))) else (iter (fun (s : (List Int) × (Int)) => (match s with | (xs55, x57) => (if (decide (x57 < (a0.length : Int))) = true then (app xs55 [(-1 : Int)]).bind fun x1934 => some (.inl (x1934, (W (x57 + (1 : Int))))) else some (.inr (.inl (xs55)))) : Option (((List Int) × (Int)) ⊕ (((List Int)) ⊕ (((List Int) × Int)))))) fuel (([] : List Int), (0 : Int))).bind fun res74 => ctl (β := (List Int)) (ρ := ((List Int) × Int)) (τ := ((List Int) × Int)) res74 (fun (xs72) => (iter (fun (s : (List Int) × (Bool)) => (match s with | (xs692, x693) => (if x693 = true then (iter (fun (s : (List Int) × (Bool) × (Int)) => (match s with | (xs1517, x1518, x1519) => (if (decide (x1519 < (a0.length : Int))) = true then join (κ := List Int → Bool → Option (((List Int) × (Bool) × (Int)) ⊕ (((List Int) × Bool) ⊕ (((List Int) × Int))))) (fun (xs1731 : List Int) (x1732 : Bool) => some (.inl (xs1731, x1732, (W (x1519 + (1 : Int)))))) (fun K1733 => (idx xs1517 x1519).bind fun x1735 => (if (decide ((0 : Int) ≤ x1735)) = true then (K1733 xs1517 x1518) else join (κ := Int → Int → Option (((List Int) × (Bool) × (Int)) ⊕ (((List Int) × Bool) ⊕ (((List Int) × Int))))) (fun (x1741 : Int) (x1742 : Int) => (iter (fun (s : (Int) × (Int)) => (match s with | (x1796, x1797) => (idx a0 x1519).bind fun x1862 => (if (decide (x1797 < (x1862.2.2.length : Int))) = true then join (κ := Int → Option (((Int) × (Int)) ⊕ ((Int) ⊕ (((List Int) × Int))))) (fun (x1878 : Int) => some (.inl (x1878, (W (x1797 + (1 : Int)))))) (fun K1879 => (idx a0 x1519).bind fun x1881 => (idx x1881.2.2 x1797).bind fun x1896 => (idx xs1517 x1896).bind fun x1901 => (if (x1901 == x1742) = true then (K1879 x1742) else (if (decide (x1901 < (0 : Int))) = true then some (x1796 != x1742) else some false).bind fun t1907 => (if t1907 = true then (K1879 (-1 : Int)) else (K1879 x1796)))) else some (.inr (.inl (x1796)))) : Option (((Int) × (Int)) ⊕ ((Int) ⊕ (((List Int) × Int)))))) fuel (x1741, (0 : Int))).bind fun res1850 => ctl (β := Int) (ρ := ((List Int) × Int)) (τ := (((List Int) × (Bool) × (Int)) ⊕ (((List Int) × Bool) ⊕ (((List Int) × Int))))) res1850 (fun (x1849) => (if (decide ((0 : Int) ≤ x1849)) = true then (idx xs1517 x1519).bind fun _ => (K1733 (xs1517.set x1519.toNat x1849) true) else (K1733 xs1517 x1518))) (fun q => some (.inr (.inr q)))) (fun K1743 => (idx a0 x1519).bind fun x1911 => (if x1911.2.1 = true then (K1743 (1 : Int) (0 : Int)) else (K1743 (0 : Int) (1 : Int)))))) else some (.inr (.inl (xs1517, x1518)))) : Option (((List Int) × (Bool) × (Int)) ⊕ (((List Int) × Bool) ⊕ (((List Int) × Int)))))) fuel (xs692, false, (0 : Int))).bind fun res1722 => ctl (β := (List Int) × Bool) (ρ := ((List Int) × Int)) (τ := (((List Int) × (Bool)) ⊕ (((List Int)) ⊕ (((List Int) × Int))))) res1722 (fun (xs1720, x1721) => some (.inl (xs1720, x1721))) (fun q => some (.inr (.inr q))) else some (.inr (.inl (xs692)))) : Option (((List Int) × (Bool)) ⊕ (((List Int)) ⊕ (((List Int) × Int)))))) fuel (xs72, true)).bind fun res1308 => ctl (β := (List Int)) (ρ := ((List Int) × Int)) (τ := ((List Int) × Int)) res1308 (fun (xs1307) => some ((xs1307, (0 : Int)))) (fun q => some (q))) (fun q => some (q)))
set_option maxRecDepth 20000 in
theorem spec_DecidedEquations_ok {w0 : World} {fuel : Nat} {p0 : Value} {a0 : (List Timpl_Equation)} {r : ((List Int) × Int)} (h0 : Rd (rList Rimpl_Equation) w0 p0 a0) (hm : spec_DecidedEquations_m fuel a0 = some r) :
    Calls Try.prog 28 #[p0] w0 fun e w => ∃ (v0 : Value), e = .returned (.tuple #[v0, .int .i64 r.2]) ∧ Heap w0 [oA (rList (rInt .i64)) v0 r.1] w := by
  unfold spec_DecidedEquations_m at hm
  have H := Heap.start w0
  refine enter (args := [p0]) Try.func28 rfl 83 rfl (Nat.le_of_ble_eq_true rfl) (fun a S => ?_)
  refine wp_seq ?_
  refine region_plain ?_
  refine lx_q (.slice none 0 0) S trivial (by decide) (q_assign rfl) (fun a S => ?_)
  refine lx_q (.int .i64 (0 : Int)) S trivial (by decide) (q_assign rfl) (fun a S => ?_)
  refine lx_nil ?_
  refine thenN ?_
  refine wp_seq ?_
  refine wp_seq ?_
  refine region_plain ?_
  refine lx_q p0 S trivial (by decide) (q_move rfl) (fun a S => ?_)
  obtain ⟨x33, e34, hm⟩ := bind_some hm
  refine lx_call (xs := [.tmp 13]) S trivial (by decide) rfl rfl Try.call68 ((spec_l22Is_ok (H.arg h0) e34).mono ?_)
  rintro e w31 ⟨rfl, Hc32⟩
  have he35 := Hc32.ext
  have H := H.call0 Hc32
  refine ⟨_, rfl, trivial, fun a S => ?_⟩
  refine lx_q (.bool (!x33)) S trivial (by decide) (q_not rfl) (fun a S => ?_)
  refine lx_nil ?_
  refine thenN ?_
  refine cond_b S rfl (fun hc36 => ?_) (fun hc36 => ?_)
  · have hm := ite_t hc36 hm
    refine wp_seq ?_
    refine region_plain ?_
    refine lx_q (.slice none 0 0) S trivial (by decide) (q_assign rfl) (fun a S => ?_)
    refine lx_q (.int .i64 (1 : Int)) S trivial (by decide) (q_assign rfl) (fun a S => ?_)
    refine lx_nil ?_
    refine thenN ?_
    refine wp_ret ?_
    refine then_ret ?_
    obtain rfl := Option.some.inj hm
    have H : Heap w0 [oA (rList (rInt .i64)) (.slice none 0 0) ([] : List Int)] w31 := H.nilList (rInt .i64)
    exact leave2 S rfl rfl rfl ⟨(.slice none 0 0), rfl, H⟩
  · have hm := ite_f hc36 hm
    refine wp_skip ?_
    refine thenN ?_
    refine wp_seq ?_
    refine region_plain ?_
    refine lx_buildSlice0 (r := (rInt .i64)) S trivial (by decide) rfl H Try.underlying23 Try.sizeOf2 (fun v38 w39 H => ⟨trivial, fun a S => ?_⟩)
    refine lx_q v38 S trivial (by decide) (q_assign rfl) (fun a S => ?_)
    refine lx_nil ?_
    refine thenN ?_
    refine wp_seq ?_
    refine wp_seq ?_
    refine region_plain ?_
    refine lx_q (.int .i64 (0 : Int)) S trivial (by decide) (q_assign rfl) (fun a S => ?_)
    refine lx_nil ?_
    refine thenN ?_
    obtain ⟨res74, hit75, hk78⟩ := bind_some hm
    obtain ⟨f76, hf77, hit75⟩ := iter_name hit75
    refine block_loop (fun a w => ∃ (xs72 : List Int) (v71 : Value), Slots a 83 [(0, p0), (4, v71)] ∧ Heap w0 [oA (rList (rInt .i64)) v71 xs72] w ∧ res74 = .inl (xs72)) ?_ ?_
    · rintro a w ⟨xs72, v71, S, H, rfl⟩
      have hm := ctl_inl hk78
      refine thenN ?_
      refine wp_seq ?_
      refine wp_seq ?_
      refine region_plain ?_
      refine lx_q (.bool true) S trivial (by decide) (q_assign rfl) (fun a S => ?_)
      refine lx_nil ?_
      refine thenN ?_
      obtain ⟨res1308, hit1309, hk1312⟩ := bind_some hm
      obtain ⟨f1310, hf1311, hit1309⟩ := iter_name hit1309
      refine block_loop (fun a w => ∃ (xs1307 : List Int), Slots a 83 [(4, v71)] ∧ Heap w0 [oA (rList (rInt .i64)) v71 xs1307] w ∧ res1308 = .inl (xs1307)) ?_ ?_
      · rintro a w ⟨xs1307, S, H, rfl⟩
        have hm := ctl_inl hk1312
        refine thenN ?_
        refine wp_seq ?_
        refine region_plain ?_
        refine lx_q v71 S trivial (by decide) (q_move rfl) (fun a S => ?_)
        refine lx_q v71 S trivial (by decide) (q_assign rfl) (fun a S => ?_)
        refine lx_q (.int .i64 (0 : Int)) S trivial (by decide) (q_assign rfl) (fun a S => ?_)
        refine lx_nil ?_
        refine thenN ?_
        refine wp_ret ?_
        obtain rfl := Option.some.inj hm
        exact leave2 S rfl rfl rfl ⟨v71, rfl, H⟩
      · skip
        refine loop_ghost (fun n a w => ∃ (xs692 : List Int) (x693 : Bool), Slots a 83 [(0, p0), (4, v71), (6, (.bool x693))] ∧ Heap w0 [oA (rList (rInt .i64)) v71 xs692] w ∧ iter f1310 n (xs692, x693) = some res1308) _ ⟨xs72, true, S.sub ⟨rfl, rfl, rfl, trivial⟩, H, hit1309⟩ ?_
        rintro n a w ⟨xs692, x693, S, H, hit1309⟩
        obtain ⟨m1313, o1314, rfl, hm, hc1315⟩ := iter_step hit1309
        rw [hf1311] at hm
        refine wp_seq ?_
        refine wp_seq ?_
        refine region_plain ?_
        refine lx_q (.bool x693) S trivial (by decide) (q_move rfl) (fun a S => ?_)
        refine lx_nil ?_
        refine thenN ?_
        refine cond_b S rfl (fun hc1316 => ?_) (fun hc1316 => ?_)
        · have hm := ite_t hc1316 hm
          refine wp_skip ?_
          refine thenN ?_
          refine wp_block ?_
          refine wp_seq ?_
          refine region_plain ?_
          refine lx_q (.bool false) S trivial (by decide) (q_assign rfl) (fun a S => ?_)
          refine lx_nil ?_
          refine thenN ?_
          refine wp_seq ?_
          refine region_plain ?_
          refine lx_q (.int .i64 (0 : Int)) S trivial (by decide) (q_assign rfl) (fun a S => ?_)
          refine lx_nil ?_
          refine thenN ?_
          obtain ⟨res1722, hit1723, hk1726⟩ := bind_some hm
          obtain ⟨f1724, hf1725, hit1723⟩ := iter_name hit1723
          refine block_loop (fun a w => ∃ (xs1720 : List Int) (x1721 : Bool), Slots a 83 [(0, p0), (4, v71), (6, (.bool x1721))] ∧ Heap w0 [oA (rList (rInt .i64)) v71 xs1720] w ∧ res1722 = .inl (xs1720, x1721)) ?_ ?_
          · rintro a w ⟨xs1720, x1721, S, H, rfl⟩
            have hm := ctl_inl hk1726
            refine inBlock_norm ?_
            exact ⟨m1313, Nat.lt_succ_self _, xs1720, x1721, S.sub ⟨rfl, rfl, rfl, trivial⟩, H, it_cont hm hc1315⟩
          · skip
            refine loop_ghost (fun n a w => ∃ (xs1517 : List Int) (x1518 : Bool) (x1519 : Int), Slots a 83 [(0, p0), (4, v71), (6, (.bool x1518)), (7, (.int .i64 x1519))] ∧ Heap w0 [oA (rList (rInt .i64)) v71 xs1517] w ∧ iter f1724 n (xs1517, x1518, x1519) = some res1722) _ ⟨xs692, false, (0 : Int), S.sub ⟨rfl, rfl, rfl, rfl, trivial⟩, H, hit1723⟩ ?_
            rintro n a w ⟨xs1517, x1518, x1519, S, H, hit1723⟩
            obtain ⟨m1727, o1728, rfl, hm, hc1729⟩ := iter_step hit1723
            rw [hf1725] at hm
            refine wp_seq ?_
            refine wp_seq ?_
            refine region_plain ?_
            refine lx_q (.int .i64 x1519) S trivial (by decide) (q_move rfl) (fun a S => ?_)
            refine lx_q p0 S trivial (by decide) (q_move rfl) (fun a S => ?_)
            refine lx_q (.int .i64 (a0.length : Int)) S trivial (by decide) (q_lenSl rfl (h0).isSl rfl Try.underlying36) (fun a S => ?_)
            refine lx_q (.bool (decide (x1519 < (a0.length : Int)))) S trivial (by decide) (q_lss rfl rfl) (fun a S => ?_)
            refine lx_nil ?_
            refine thenN ?_
            refine cond_b S rfl (fun hc1730 => ?_) (fun hc1730 => ?_)
            · have hm := ite_t hc1730 hm
              refine wp_skip ?_
              refine thenN ?_
              obtain ⟨K1733, hK1734, hm⟩ := join_elim hm
              refine seq_cut (fun a w => ∃ (xs1731 : List Int) (x1732 : Bool), Slots a 83 [(0, p0), (4, v71), (6, (.bool x1732)), (7, (.int .i64 x1519))] ∧ Heap w0 [oA (rList (rInt .i64)) v71 xs1731] w ∧ K1733 xs1731 x1732 = some o1728) ?_ ?_
              · rintro a w ⟨xs1731, x1732, S, H, hm⟩
                subst hK1734
                refine region_plain ?_
                refine lx_q (.int .i64 x1519) S trivial (by decide) (q_move rfl) (fun a S => ?_)
                refine lx_q (.int .i64 (W (x1519 + (1 : Int)))) S trivial (by decide) (q_add rfl rfl) (fun a S => ?_)
                refine lx_q (.int .i64 (W (x1519 + (1 : Int)))) S trivial (by decide) (q_assign rfl) (fun a S => ?_)
                refine lx_nil ?_
                exact ⟨m1727, Nat.lt_succ_self _, xs1731, x1732, (W (x1519 + (1 : Int))), S.sub ⟨rfl, rfl, rfl, rfl, trivial⟩, H, it_cont hm hc1729⟩
              · skip
                refine wp_block ?_
                refine wp_seq ?_
                refine wp_seq ?_
                refine region_plain ?_
                refine lx_q v71 S trivial (by decide) (q_move rfl) (fun a S => ?_)
                refine lx_q (.int .i64 x1519) S trivial (by decide) (q_move rfl) (fun a S => ?_)
                obtain ⟨x1735, e1736, hm⟩ := bind_some hm
                have hlt := lt_of_idx (idx_some e1736).2
                refine lx_q (ePtr v71 (x1519.toNat * 1)) S trivial (by decide) (q_indexAddr rfl (H.isSl 0 rfl) rfl (idx_some e1736).1 hlt Try.underlying23 Try.sizeOf2) (fun a S => ?_)
                obtain ⟨c1737, h1738, hat1739⟩ := (H.rdAt 0 rfl).elem (idx_some e1736).2
                obtain rfl := h1738
                refine lx_e (.int .i64 x1735) S trivial (by decide) rfl trivial (q_load1 rfl Try.isAgg2 (by rintro _ rfl; exact (hat1739 0 _ rfl))) (fun a S => ?_)
                refine lx_q (.bool (decide ((0 : Int) ≤ x1735))) S trivial (by decide) (q_geq rfl rfl) (fun a S => ?_)
                refine lx_nil ?_
                refine thenN ?_
                refine cond_b S rfl (fun hc1740 => ?_) (fun hc1740 => ?_)
                · have hm := ite_t hc1740 hm
                  refine wp_exit ?_
                  refine then_exit ?_
                  refine inBlock_exit ?_
                  exact ⟨xs1517, x1518, S.sub ⟨rfl, rfl, rfl, rfl, trivial⟩, H, hm⟩
                · have hm := ite_f hc1740 hm
                  refine wp_skip ?_
                  refine thenN ?_
                  refine wp_seq ?_
                  refine region_plain ?_
                  refine lx_q (.int .i64 (0 : Int)) S trivial (by decide) (q_assign rfl) (fun a S => ?_)
                  refine lx_nil ?_
                  refine thenN ?_
                  refine wp_seq ?_
                  refine region_plain ?_
                  refine lx_q (.int .i64 (1 : Int)) S trivial (by decide) (q_assign rfl) (fun a S => ?_)
                  refine lx_nil ?_
                  refine thenN ?_
                  obtain ⟨K1743, hK1744, hm⟩ := join_elim hm
                  refine seq_cut (fun a w => ∃ (x1741 : Int) (x1742 : Int), Slots a 83 [(0, p0), (4, v71), (6, (.bool x1518)), (7, (.int .i64 x1519)), (8, (.int .i64 x1741)), (9, (.int .i64 x1742))] ∧ Heap w0 [oA (rList (rInt .i64)) v71 xs1517] w ∧ K1743 x1741 x1742 = some o1728) ?_ ?_
                  · rintro a w ⟨x1741, x1742, S, H, hm⟩
                    subst hK1744
                    refine wp_seq ?_
                    refine region_plain ?_
                    refine lx_q (.int .i64 x1741) S trivial (by decide) (q_move rfl) (fun a S => ?_)
                    refine lx_q (.int .i64 x1741) S trivial (by decide) (q_assign rfl) (fun a S => ?_)
                    refine lx_nil ?_
                    refine thenN ?_
                    refine wp_seq ?_
                    refine wp_seq ?_
                    refine region_plain ?_
                    refine lx_q (.int .i64 (0 : Int)) S trivial (by decide) (q_assign rfl) (fun a S => ?_)
                    refine lx_nil ?_
                    refine thenN ?_
                    obtain ⟨res1850, hit1851, hk1854⟩ := bind_some hm
                    obtain ⟨f1852, hf1853, hit1851⟩ := iter_name hit1851
                    refine block_loop (fun a w => ∃ (x1849 : Int), Slots a 83 [(0, p0), (4, v71), (6, (.bool x1518)), (7, (.int .i64 x1519)), (10, (.int .i64 x1849))] ∧ Heap w0 [oA (rList (rInt .i64)) v71 xs1517] w ∧ res1850 = .inl (x1849)) ?_ ?_
                    · rintro a w ⟨x1849, S, H, rfl⟩
                      have hm := ctl_inl hk1854
                      refine thenN ?_
                      refine wp_seq ?_
                      refine region_plain ?_
                      refine lx_q (.int .i64 x1849) S trivial (by decide) (q_move rfl) (fun a S => ?_)
                      refine lx_q (.bool (decide ((0 : Int) ≤ x1849))) S trivial (by decide) (q_geq rfl rfl) (fun a S => ?_)
                      refine lx_nil ?_
                      refine thenN ?_
                      refine cond_b S rfl (fun hc1855 => ?_) (fun hc1855 => ?_)
                      · have hm := ite_t hc1855 hm
                        refine wp_seq ?_
                        refine region_plain ?_
                        refine lx_q v71 S trivial (by decide) (q_move rfl) (fun a S => ?_)
                        refine lx_q (.int .i64 x1519) S trivial (by decide) (q_move rfl) (fun a S => ?_)
                        refine lx_q (.int .i64 x1849) S trivial (by decide) (q_move rfl) (fun a S => ?_)
                        obtain ⟨x1856, e1857, hm⟩ := bind_some hm
                        have hlt := lt_of_idx (idx_some e1857).2
                        refine lx_q (ePtr v71 (x1519.toNat * 1)) S trivial (by decide) (q_indexAddr rfl (H.isSl 0 rfl) rfl (idx_some e1857).1 hlt Try.underlying23 Try.sizeOf2) (fun a S => ?_)
                        refine lx_storeElem (r := (rInt .i64)) (us := [(.int .i64 x1849)]) (off := 0) (e' := x1849) S trivial rfl H.putE (by rw [pAdd_zero]; rfl) rfl (idx_some e1857).2 rfl Try.sizeOf2 (Nat.le_of_ble_eq_true rfl) (List.forall_mem_cons.2 ⟨rfl, (fun _ h => nomatch h)⟩) (Upd.full rfl (fun w G hG => by cases (show G = [] from hG); exact ⟨rfl, rfl⟩)) (fun w1858 H => ⟨trivial, fun a S => ?_⟩)
                        refine lx_nil ?_
                        refine thenN ?_
                        refine region_plain ?_
                        refine lx_q (.bool true) S trivial (by decide) (q_assign rfl) (fun a S => ?_)
                        refine lx_nil ?_
                        refine inBlock_norm ?_
                        exact ⟨(xs1517.set x1519.toNat x1849), true, S.sub ⟨rfl, rfl, rfl, rfl, trivial⟩, H, hm⟩
                      · have hm := ite_f hc1855 hm
                        refine wp_skip ?_
                        refine inBlock_norm ?_
                        exact ⟨xs1517, x1518, S.sub ⟨rfl, rfl, rfl, rfl, trivial⟩, H, hm⟩
                    · skip
                      refine loop_ghost (fun n a w => ∃ (x1796 : Int) (x1797 : Int), Slots a 83 [(0, p0), (4, v71), (6, (.bool x1518)), (7, (.int .i64 x1519)), (9, (.int .i64 x1742)), (10, (.int .i64 x1796)), (11, (.int .i64 x1797))] ∧ Heap w0 [oA (rList (rInt .i64)) v71 xs1517] w ∧ iter f1852 n (x1796, x1797) = some res1850) _ ⟨x1741, (0 : Int), S.sub ⟨rfl, rfl, rfl, rfl, rfl, rfl, rfl, trivial⟩, H, hit1851⟩ ?_
                      rintro n a w ⟨x1796, x1797, S, H, hit1851⟩
                      obtain ⟨m1859, o1860, rfl, hm, hc1861⟩ := iter_step hit1851
                      rw [hf1853] at hm
                      refine wp_seq ?_
                      refine wp_seq ?_
                      refine region_plain ?_
                      refine lx_q (.int .i64 x1797) S trivial (by decide) (q_move rfl) (fun a S => ?_)
                      refine lx_q p0 S trivial (by decide) (q_move rfl) (fun a S => ?_)
                      refine lx_q (.int .i64 x1519) S trivial (by decide) (q_move rfl) (fun a S => ?_)
                      obtain ⟨x1862, e1863, hm⟩ := bind_some hm
                      obtain ⟨c1864, h1865, hat1866⟩ := (h0).elem (idx_some e1863).2
                      obtain ⟨c1869, c1870, rfl, h1871, h1872⟩ := h1865
                      obtain rfl := h1871
                      obtain ⟨c1873, c1874, rfl, h1875, h1876⟩ := h1872
                      obtain rfl := h1875
                      obtain ⟨v1867, rfl, h1868⟩ := rd_list h1876
                      have hlt := lt_of_idx (idx_some e1863).2
                      refine lx_q (ePtr p0 (x1519.toNat * 3)) S trivial (by decide) (q_indexAddr rfl (h0).isSl rfl (idx_some e1863).1 hlt Try.underlying36 Try.sizeOf85) (fun a S => ?_)
                      refine lx_q (pAdd (ePtr p0 (x1519.toNat * 3)) 2) S trivial (by decide) (q_fieldAddr' 2 23 rfl ((hat1866 0 _ rfl).isP) Try.underlying85 rfl Try.sizeOf23) (fun a S => ?_)
                      refine lx_e v1867 S trivial (by decide) rfl trivial (q_load1 rfl Try.isAgg23 (by rintro _ rfl; exact (At.of_add (m := 2) (j := 0) ((hat1866 2 _ rfl).ext H.ext)))) (fun a S => ?_)
                      refine lx_q (.int .i64 (x1862.2.2.length : Int)) S trivial (by decide) (q_lenSl rfl (h1868).isSl rfl Try.underlying23) (fun a S => ?_)
                      refine lx_q (.bool (decide (x1797 < (x1862.2.2.length : Int)))) S trivial (by decide) (q_lss rfl rfl) (fun a S => ?_)
                      refine lx_nil ?_
                      refine thenN ?_
                      refine cond_b S rfl (fun hc1877 => ?_) (fun hc1877 => ?_)
                      · have hm := ite_t hc1877 hm
                        refine wp_skip ?_
                        refine thenN ?_
                        obtain ⟨K1879, hK1880, hm⟩ := join_elim hm
                        refine seq_cut (fun a w => ∃ (x1878 : Int), Slots a 83 [(0, p0), (4, v71), (6, (.bool x1518)), (7, (.int .i64 x1519)), (9, (.int .i64 x1742)), (10, (.int .i64 x1878)), (11, (.int .i64 x1797))] ∧ Heap w0 [oA (rList (rInt .i64)) v71 xs1517] w ∧ K1879 x1878 = some o1860) ?_ ?_
                        · rintro a w ⟨x1878, S, H, hm⟩
                          subst hK1880
                          refine region_plain ?_
                          refine lx_q (.int .i64 x1797) S trivial (by decide) (q_move rfl) (fun a S => ?_)
                          refine lx_q (.int .i64 (W (x1797 + (1 : Int)))) S trivial (by decide) (q_add rfl rfl) (fun a S => ?_)
                          refine lx_q (.int .i64 (W (x1797 + (1 : Int)))) S trivial (by decide) (q_assign rfl) (fun a S => ?_)
                          refine lx_nil ?_
                          exact ⟨m1859, Nat.lt_succ_self _, x1878, (W (x1797 + (1 : Int))), S.sub ⟨rfl, rfl, rfl, rfl, rfl, rfl, rfl, trivial⟩, H, it_cont hm hc1861⟩
                        · skip
                          refine wp_block ?_
                          refine wp_seq ?_
                          refine region_plain ?_
                          refine lx_q v71 S trivial (by decide) (q_move rfl) (fun a S => ?_)
                          refine lx_q p0 S trivial (by decide) (q_move rfl) (fun a S => ?_)
                          refine lx_q (.int .i64 x1519) S trivial (by decide) (q_move rfl) (fun a S => ?_)
                          obtain ⟨x1881, e1882, hm⟩ := bind_some hm
                          obtain ⟨c1883, h1884, hat1885⟩ := (h0).elem (idx_some e1882).2
                          obtain ⟨c1888, c1889, rfl, h1890, h1891⟩ := h1884
                          obtain rfl := h1890
                          obtain ⟨c1892, c1893, rfl, h1894, h1895⟩ := h1891
                          obtain rfl := h1894
                          obtain ⟨v1886, rfl, h1887⟩ := rd_list h1895
                          have hlt := lt_of_idx (idx_some e1882).2
                          refine lx_q (ePtr p0 (x1519.toNat * 3)) S trivial (by decide) (q_indexAddr rfl (h0).isSl rfl (idx_some e1882).1 hlt Try.underlying36 Try.sizeOf85) (fun a S => ?_)
                          refine lx_q (pAdd (ePtr p0 (x1519.toNat * 3)) 2) S trivial (by decide) (q_fieldAddr' 2 23 rfl ((hat1885 0 _ rfl).isP) Try.underlying85 rfl Try.sizeOf23) (fun a S => ?_)
                          refine lx_e v1886 S trivial (by decide) rfl trivial (q_load1 rfl Try.isAgg23 (by rintro _ rfl; exact (At.of_add (m := 2) (j := 0) ((hat1885 2 _ rfl).ext H.ext)))) (fun a S => ?_)
                          refine lx_q (.int .i64 x1797) S trivial (by decide) (q_move rfl) (fun a S => ?_)
                          obtain ⟨x1896, e1897, hm⟩ := bind_some hm
                          obtain ⟨c1898, h1899, hat1900⟩ := (h1887).elem (idx_some e1897).2
                          obtain rfl := h1899
                          have hlt := lt_of_idx (idx_some e1897).2
                          refine lx_q (ePtr v1886 (x1797.toNat * 1)) S trivial (by decide) (q_indexAddr rfl (h1887).isSl rfl (idx_some e1897).1 hlt Try.underlying23 Try.sizeOf2) (fun a S => ?_)
                          refine lx_e (.int .i64 x1896) S trivial (by decide) rfl trivial (q_load1 rfl Try.isAgg2 (by rintro _ rfl; exact ((hat1900 0 _ rfl).ext H.ext))) (fun a S => ?_)
                          obtain ⟨x1901, e1902, hm⟩ := bind_some hm
                          have hlt := lt_of_idx (idx_some e1902).2
                          refine lx_q (ePtr v71 (x1896.toNat * 1)) S trivial (by decide) (q_indexAddr rfl (H.isSl 0 rfl) rfl (idx_some e1902).1 hlt Try.underlying23 Try.sizeOf2) (fun a S => ?_)
                          obtain ⟨c1903, h1904, hat1905⟩ := (H.rdAt 0 rfl).elem (idx_some e1902).2
                          obtain rfl := h1904
                          refine lx_e (.int .i64 x1901) S trivial (by decide) rfl trivial (q_load1 rfl Try.isAgg2 (by rintro _ rfl; exact (hat1905 0 _ rfl))) (fun a S => ?_)
                          refine lx_q (.int .i64 x1901) S trivial (by decide) (q_assign rfl) (fun a S => ?_)
                          refine lx_nil ?_
                          refine thenN ?_
                          refine wp_seq ?_
                          refine region_plain ?_
                          refine lx_q (.int .i64 x1901) S trivial (by decide) (q_move rfl) (fun a S => ?_)
                          refine lx_q (.int .i64 x1742) S trivial (by decide) (q_move rfl) (fun a S => ?_)
                          refine lx_q (.bool (x1901 == x1742)) S trivial (by decide) (q_eql rfl rfl) (fun a S => ?_)
                          refine lx_nil ?_
                          refine thenN ?_
                          refine cond_b S rfl (fun hc1906 => ?_) (fun hc1906 => ?_)
                          · have hm := ite_t hc1906 hm
                            refine region_plain ?_
                            refine lx_q (.int .i64 x1742) S trivial (by decide) (q_move rfl) (fun a S => ?_)
                            refine lx_q (.int .i64 x1742) S trivial (by decide) (q_assign rfl) (fun a S => ?_)
                            refine lx_nil ?_
                            refine inBlock_norm ?_
                            exact ⟨x1742, S.sub ⟨rfl, rfl, rfl, rfl, rfl, rfl, rfl, trivial⟩, H, hm⟩
                          · have hm := ite_f hc1906 hm
                            refine wp_seq ?_
                            refine region_plain ?_
                            refine lx_q (.int .i64 x1901) S trivial (by decide) (q_move rfl) (fun a S => ?_)
                            refine lx_q (.bool (decide (x1901 < (0 : Int)))) S trivial (by decide) (q_lss rfl rfl) (fun a S => ?_)
                            refine lx_q (.bool (decide (x1901 < (0 : Int)))) S trivial (by decide) (q_move rfl) (fun a S => ?_)
                            obtain ⟨t1907, e1908, hm⟩ := bind_some hm
                            refine lx_cut 4 (fun a w => Slots a 83 [(0, p0), (4, v71), (6, (.bool x1518)), (7, (.int .i64 x1519)), (9, (.int .i64 x1742)), (10, (.int .i64 x1796)), (11, (.int .i64 x1797)), (75, (.bool t1907))] ∧ Heap w0 [oA (rList (rInt .i64)) v71 xs1517] w) ?_ ?_
                            · by_cases hc1909 : (decide (x1901 < (0 : Int))) = true
                              · have hm := ite_t hc1909 e1908
                                refine lx_q (.int .i64 x1796) S (want_b rfl rfl hc1909) (by decide) (q_move rfl) (fun a S => ?_)
                                refine lx_q (.int .i64 x1742) S (want_b rfl rfl hc1909) (by decide) (q_move rfl) (fun a S => ?_)
                                refine lx_q (.bool (x1796 != x1742)) S (want_b rfl rfl hc1909) (by decide) (q_neq rfl rfl) (fun a S => ?_)
                                refine lx_q (.bool (x1796 != x1742)) S trivial (by decide) (q_pickT' rfl hc1909 rfl) (fun a S => ?_)
                                refine lx_nil ?_
                                obtain rfl := Option.some.inj hm
                                exact ⟨S.sub ⟨rfl, rfl, rfl, rfl, rfl, rfl, rfl, rfl, trivial⟩, H⟩
                              · have hm := ite_f (eq_false_of_ne_true hc1909) e1908
                                have hc1909 : (decide (x1901 < (0 : Int))) = false := eq_false_of_ne_true hc1909
                                refine lx_skip S rfl rfl (isB_ne hc1909) (by decide) (fun a S => ?_)
                                refine lx_skip S rfl rfl (isB_ne hc1909) (by decide) (fun a S => ?_)
                                refine lx_skip S rfl rfl (isB_ne hc1909) (by decide) (fun a S => ?_)
                                refine lx_q (.bool false) S trivial (by decide) (q_pickF' rfl hc1909 rfl) (fun a S => ?_)
                                refine lx_nil ?_
                                obtain rfl := Option.some.inj hm
                                exact ⟨S.sub ⟨rfl, rfl, rfl, rfl, rfl, rfl, rfl, rfl, trivial⟩, H⟩
                            · rintro a w ⟨S, H⟩
                              refine lx_nil ?_
                              refine thenN ?_
                              refine cond_b S rfl (fun hc1910 => ?_) (fun hc1910 => ?_)
                              · have hm := ite_t hc1910 hm
                                refine region_plain ?_
                                refine lx_q (.int .i64 (-1 : Int)) S trivial (by decide) (q_assign rfl) (fun a S => ?_)
                                refine lx_nil ?_
                                refine inBlock_norm ?_
                                exact ⟨(-1 : Int), S.sub ⟨rfl, rfl, rfl, rfl, rfl, rfl, rfl, trivial⟩, H, hm⟩
                              · have hm := ite_f hc1910 hm
                                refine wp_skip ?_
                                refine inBlock_norm ?_
                                exact ⟨x1796, S.sub ⟨rfl, rfl, rfl, rfl, rfl, rfl, rfl, trivial⟩, H, hm⟩
                      · have hm := ite_f hc1877 hm
                        refine wp_exit ?_
                        refine then_exit ?_
                        refine then_exit ?_
                        refine inBlock_exit ?_
                        obtain rfl := it_brk hm hc1861
                        exact ⟨x1796, S.sub ⟨rfl, rfl, rfl, rfl, rfl, trivial⟩, H, rfl⟩
                  · skip
                    refine wp_seq ?_
                    refine region_plain ?_
                    refine lx_q p0 S trivial (by decide) (q_move rfl) (fun a S => ?_)
                    refine lx_q (.int .i64 x1519) S trivial (by decide) (q_move rfl) (fun a S => ?_)
                    obtain ⟨x1911, e1912, hm⟩ := bind_some hm
                    obtain ⟨c1913, h1914, hat1915⟩ := (h0).elem (idx_some e1912).2
                    obtain ⟨c1918, c1919, rfl, h1920, h1921⟩ := h1914
                    obtain rfl := h1920
                    obtain ⟨c1922, c1923, rfl, h1924, h1925⟩ := h1921
                    obtain rfl := h1924
                    obtain ⟨v1916, rfl, h1917⟩ := rd_list h1925
                    have hlt := lt_of_idx (idx_some e1912).2
                    refine lx_q (ePtr p0 (x1519.toNat * 3)) S trivial (by decide) (q_indexAddr rfl (h0).isSl rfl (idx_some e1912).1 hlt Try.underlying36 Try.sizeOf85) (fun a S => ?_)
                    refine lx_q (pAdd (ePtr p0 (x1519.toNat * 3)) 1) S trivial (by decide) (q_fieldAddr' 1 4 rfl ((hat1915 0 _ rfl).isP) Try.underlying85 rfl Try.sizeOf4) (fun a S => ?_)
                    refine lx_e (.bool x1911.2.1) S trivial (by decide) rfl trivial (q_load1 rfl Try.isAgg4 (by rintro _ rfl; exact (At.of_add (m := 1) (j := 0) ((hat1915 1 _ rfl).ext H.ext)))) (fun a S => ?_)
                    refine lx_nil ?_
                    refine thenN ?_
                    refine cond_b S rfl (fun hc1926 => ?_) (fun hc1926 => ?_)
                    · have hm := ite_t hc1926 hm
                      refine wp_seq ?_
                      refine region_plain ?_
                      refine lx_q (.int .i64 (1 : Int)) S trivial (by decide) (q_assign rfl) (fun a S => ?_)
                      refine lx_nil ?_
                      refine thenN ?_
                      refine region_plain ?_
                      refine lx_q (.int .i64 (0 : Int)) S trivial (by decide) (q_assign rfl) (fun a S => ?_)
                      refine lx_nil ?_
                      exact ⟨(1 : Int), (0 : Int), S.sub ⟨rfl, rfl, rfl, rfl, rfl, rfl, trivial⟩, H, hm⟩
                    · have hm := ite_f hc1926 hm
                      refine wp_skip ?_
                      exact ⟨(0 : Int), (1 : Int), S.sub ⟨rfl, rfl, rfl, rfl, rfl, rfl, trivial⟩, H, hm⟩
            · have hm := ite_f hc1730 hm
              refine wp_exit ?_
              refine then_exit ?_
              refine then_exit ?_
              refine inBlock_exit ?_
              obtain rfl := it_brk hm hc1729
              exact ⟨xs1517, x1518, S.sub ⟨rfl, rfl, rfl, trivial⟩, H, rfl⟩
        · have hm := ite_f hc1316 hm
          refine wp_exit ?_
          refine then_exit ?_
          refine then_exit ?_
          refine inBlock_exit ?_
          obtain rfl := it_brk hm hc1315
          exact ⟨xs692, S.sub ⟨rfl, trivial⟩, H, rfl⟩
    · skip
      refine loop_ghost (fun n a w => ∃ (xs55 : List Int) (x57 : Int) (v54 : Value), Slots a 83 [(0, p0), (4, v54), (5, (.int .i64 x57))] ∧ Heap w0 [oA (rList (rInt .i64)) v54 xs55] w ∧ iter f76 n (xs55, x57) = some res74) _ ⟨([] : List Int), (0 : Int), v38, S.sub ⟨rfl, rfl, rfl, trivial⟩, H, hit75⟩ ?_
      rintro n a w ⟨xs55, x57, v54, S, H, hit75⟩
      obtain ⟨m1927, o1928, rfl, hm, hc1929⟩ := iter_step hit75
      rw [hf77] at hm
      refine wp_seq ?_
      refine wp_seq ?_
      refine region_plain ?_
      refine lx_q (.int .i64 x57) S trivial (by decide) (q_move rfl) (fun a S => ?_)
      refine lx_q p0 S trivial (by decide) (q_move rfl) (fun a S => ?_)
      refine lx_q (.int .i64 (a0.length : Int)) S trivial (by decide) (q_lenSl rfl (h0).isSl rfl Try.underlying36) (fun a S => ?_)
      refine lx_q (.bool (decide (x57 < (a0.length : Int)))) S trivial (by decide) (q_lss rfl rfl) (fun a S => ?_)
      refine lx_nil ?_
      refine thenN ?_
      refine cond_b S rfl (fun hc1930 => ?_) (fun hc1930 => ?_)
      · have hm := ite_t hc1930 hm
        refine wp_skip ?_
        refine thenN ?_
        refine wp_seq ?_
        refine wp_block ?_
        refine region_plain ?_
        refine lx_q v54 S trivial (by decide) (q_move rfl) (fun a S => ?_)
        refine lx_buildSlice (r := (rInt .i64)) (xs := [(-1 : Int)]) (ps := [(0, [(.int .i64 (-1 : Int))])]) (cs := [(.int .i64 (-1 : Int))]) (parts := [(0, .const (.int .i64 (-1)))]) S trivial (by decide) rfl (H.put0 (A := eA) rfl) rfl Try.underlying23 Try.sizeOf2 Try.zeroValue2 (by decide) ⟨rfl, rfl, Nat.le_of_ble_eq_true rfl, trivial⟩ (by intro zs hz; exact fill_dense hz ⟨rfl, trivial⟩ rfl rfl) rfl (by decide) (fun w F hA => by cases (show F = [] from hA); exact ⟨_, _, [(.int .i64 (-1 : Int))], _, rfl, rfl, ⟨rfl, rfl⟩, ⟨rfl, rfl⟩⟩) (fun v1931 w1932 H => ⟨trivial, fun a S => ?_⟩)
        obtain ⟨x1934, e1935, hm⟩ := bind_some hm
        obtain ⟨hle, hap⟩ := app_some e1935
        replace hap := hap.symm
        subst hap
        have H : Heap w0 [oA (rList (rInt .i64)) v1931 [(-1 : Int)], oA (rList (rInt .i64)) v54 xs55] w1932 := H.front 0 rfl
        have H : Heap w0 [oA (rList (rInt .i64)) v54 xs55, oA (rList (rInt .i64)) v1931 [(-1 : Int)]] w1932 := H.front 1 rfl
        refine lx_appendOwn (r := (rInt .i64)) S trivial (by decide) rfl H rfl rfl Try.underlying23 Try.ti2 rfl rfl rfl (by decide) (by decide) hle (fun v1936 w1937 H => ⟨trivial, fun a S => ?_⟩)
        refine lx_q v1936 S trivial (by decide) (q_assign rfl) (fun a S => ?_)
        refine lx_nil ?_
        refine inBlock_norm ?_
        refine thenN ?_
        refine region_plain ?_
        refine lx_q (.int .i64 x57) S trivial (by decide) (q_move rfl) (fun a S => ?_)
        refine lx_q (.int .i64 (W (x57 + (1 : Int)))) S trivial (by decide) (q_add rfl rfl) (fun a S => ?_)
        refine lx_q (.int .i64 (W (x57 + (1 : Int)))) S trivial (by decide) (q_assign rfl) (fun a S => ?_)
        refine lx_nil ?_
        exact ⟨m1927, Nat.lt_succ_self _, (xs55 ++ [(-1 : Int)]), (W (x57 + (1 : Int))), v1936, S.sub ⟨rfl, rfl, rfl, trivial⟩, H, it_cont hm hc1929⟩
      · have hm := ite_f hc1930 hm
        refine wp_exit ?_
        refine then_exit ?_
        refine then_exit ?_
        refine inBlock_exit ?_
        obtain rfl := it_brk hm hc1929
        exact ⟨xs55, v54, S.sub ⟨rfl, rfl, trivial⟩, H, rfl⟩

/-- slices.Repeat[[]int64,int64] -/
def slices_Repeat__int64_int64_m (fuel : Nat) (a0 : (List Int)) (a1 : Int) : Option ((List Int)) :=
  join (κ := Option (List Int)) ((math_bits_Mul_m fuel (IntKind.u64.wrap (a0.length : Int)) (IntKind.u64.wrap a1)).bind fun x35 => join (κ := Option (List Int)) ((mks (W x35.2) (0 : Int)).bind fun x40 => (iter (fun (s : (List Int) × (Int)) => (match s with | (xs57, x58) => (if (decide (x58 < (xs57.length : Int))) = true then (sub xs57 x58 (xs57.length : Int)).bind fun xs81 => (sub xs57 (0 : Int) x58).bind fun xs83 => some (.inl ((cpy xs57 (x58).toNat xs81.length xs83), (W (x58 + (((min xs83.length xs81.length : Nat) : Nat) : Int))))) else some (.inr (.inl (xs57)))) : Option (((List Int) × (Int)) ⊕ (((List Int)) ⊕ ((List Int)))))) fuel ((cpy x40 ((0 : Int)).toNat x40.length a0), (((min a0.length x40.length : Nat) : Nat) : Int))).bind fun res70 => ctl (β := (List Int)) (ρ := (List Int)) (τ := (List Int)) res70 (fun (xs69) => some (xs69)) (fun q => some (q))) (fun K38 => (if (decide ((0 : Int) < x35.1)) = true then some true else some (decide ((9223372036854775807 : Int) < x35.2))).bind fun t86 => (if t86 = true then none else K38))) (fun K31 => (if (decide (a1 < (0 : Int))) = true then none else K31))
set_option maxRecDepth 20000 in
theorem slices_Repeat__int64_int64_ok {w0 : World} {fuel : Nat} {p0 : Value} {a0 : (List Int)} {a1 : Int} {r : (List Int)} (h0 : Rd (rList (rInt .i64)) w0 p0 a0) (hm : slices_Repeat__int64_int64_m fuel a0 a1 = some r) :
    Calls Try.prog 74 #[p0, .int .i64 a1] w0 fun e w => ∃ (v0 : Value), e = .returned (v0) ∧ Heap w0 [oA (rList (rInt .i64)) v0 r] w := by
  unfold slices_Repeat__int64_int64_m at hm
  have H := Heap.start w0
  refine enter (args := [p0, .int .i64 a1]) Try.func74 rfl 48 rfl (Nat.le_of_ble_eq_true rfl) (fun a S => ?_)
  refine wp_seq ?_
  refine region_plain ?_
  refine lx_q (.slice none 0 0) S trivial (by decide) (q_assign rfl) (fun a S => ?_)
  refine lx_nil ?_
  refine thenN ?_
  obtain ⟨K31, hK32, hm⟩ := join_elim hm
  refine seq_cut (fun a w => Slots a 48 [(0, p0), (1, (.int .i64 a1))] ∧ Heap w0 [] w ∧ K31 = some r) ?_ ?_
  · rintro a w ⟨S, H, hm⟩
    subst hK32
    refine wp_seq ?_
    refine region_plain ?_
    refine lx_q p0 S trivial (by decide) (q_move rfl) (fun a S => ?_)
    refine lx_q (.int .i64 (a0.length : Int)) S trivial (by decide) (q_lenSl rfl (h0).isSl rfl Try.underlying23) (fun a S => ?_)
    refine lx_q (.int .u64 (IntKind.u64.wrap (a0.length : Int))) S trivial (by decide) (q_convInt rfl Try.underlying3 Try.underlying123) (fun a S => ?_)
    refine lx_q (.int .i64 a1) S trivial (by decide) (q_move rfl) (fun a S => ?_)
    refine lx_q (.int .u64 (IntKind.u64.wrap a1)) S trivial (by decide) (q_convInt rfl Try.underlying3 Try.underlying123) (fun a S => ?_)
    obtain ⟨x35, e36, hm⟩ := bind_some hm
    refine lx_call (xs := [.tmp 15, .tmp 17]) S trivial (by decide) rfl rfl Try.call123 ((math_bits_Mul_ok   e36).mono ?_)
    rintro e w33 ⟨rfl, Hc34⟩
    have he37 := Hc34.ext
    have H := H.call0 Hc34
    refine ⟨_, rfl, trivial, fun a S => ?_⟩
    refine lx_q (.tuple #[(.int .u64 x35.1), (.int .u64 x35.2)]) S trivial (by decide) (q_move rfl) (fun a S => ?_)
    refine lx_q (.int .u64 x35.1) S trivial (by decide) (q_extract rfl rfl) (fun a S => ?_)
    refine lx_q (.int .u64 x35.2) S trivial (by decide) (q_extract rfl rfl) (fun a S => ?_)
    refine lx_q (.int .u64 x35.1) S trivial (by decide) (q_assign rfl) (fun a S => ?_)
    refine lx_q (.int .u64 x35.2) S trivial (by decide) (q_assign rfl) (fun a S => ?_)
    refine lx_nil ?_
    refine thenN ?_
    obtain ⟨K38, hK39, hm⟩ := join_elim hm
    refine seq_cut (fun a w => Slots a 48 [(0, p0), (6, (.int .u64 x35.2))] ∧ Heap w0 [] w ∧ K38 = some r) ?_ ?_
    · rintro a w ⟨S, H, hm⟩
      subst hK39
      refine wp_seq ?_
      refine region_plain ?_
      refine lx_q (.int .u64 x35.2) S trivial (by decide) (q_move rfl) (fun a S => ?_)
      refine lx_q (.int .i64 (W x35.2)) S trivial (by decide) (q_convInt rfl Try.underlying123 Try.underlying3) (fun a S => ?_)
      obtain ⟨x40, e41, hm⟩ := bind_some hm
      obtain ⟨m42, hn, hn2, rfl⟩ := mks_some e41
      refine lx_make (r := (rInt .i64)) (z0 := (0 : Int)) (n := m42) S trivial (by decide) rfl H (by rw [← hn]; rfl) (by rw [← hn]; rfl) Try.underlying23 (Try.ti2) rfl rfl (by decide) (fun w => ⟨rfl, rfl⟩) hn2 (by decide) (fun v43 w44 H => ⟨trivial, fun a S => ?_⟩)
      refine lx_q v43 S trivial (by decide) (q_assign rfl) (fun a S => ?_)
      refine lx_nil ?_
      refine thenN ?_
      refine wp_seq ?_
      refine region_plain ?_
      refine lx_q v43 S trivial (by decide) (q_move rfl) (fun a S => ?_)
      refine lx_q p0 S trivial (by decide) (q_move rfl) (fun a S => ?_)
      have hR := (H.arg h0)
      have hS := sub_self (xs := (List.replicate m42 (0 : Int)))
      have hxv := subV_self' (s := ((rInt .i64)).size) (H.isSl 0 rfl)
      refine lx_copy (r := (rInt .i64)) (lo := (0 : Int)) (hi := ((List.replicate m42 (0 : Int)).length : Int)) S trivial (by decide) rfl H (flat_int _) (by rw [hxv]; rfl) rfl hS hR Try.underlying23 Try.sizeOf2 (fun w46 H => ⟨trivial, fun a S => ?_⟩)
      refine lx_q (.int .i64 (((min a0.length (List.replicate m42 (0 : Int)).length : Nat) : Nat) : Int)) S trivial (by decide) (q_assign rfl) (fun a S => ?_)
      refine lx_nil ?_
      refine thenN ?_
      refine wp_seq ?_
      obtain ⟨res70, hit71, hk74⟩ := bind_some hm
      obtain ⟨f72, hf73, hit71⟩ := iter_name hit71
      refine block_loop (fun a w => ∃ (xs69 : List Int), Slots a 48 [(7, v43)] ∧ Heap w0 [oA (rList (rInt .i64)) v43 xs69] w ∧ res70 = .inl (xs69)) ?_ ?_
      · rintro a w ⟨xs69, S, H, rfl⟩
        have hm := ctl_inl hk74
        refine thenN ?_
        refine wp_seq ?_
        refine region_plain ?_
        refine lx_q v43 S trivial (by decide) (q_move rfl) (fun a S => ?_)
        refine lx_q v43 S trivial (by decide) (q_assign rfl) (fun a S => ?_)
        refine lx_nil ?_
        refine thenN ?_
        refine wp_ret ?_
        obtain rfl := Option.some.inj hm
        exact leave1 S rfl rfl ⟨v43, rfl, H⟩
      · skip
        refine loop_ghost (fun n a w => ∃ (xs57 : List Int) (x58 : Int), Slots a 48 [(7, v43), (8, (.int .i64 x58))] ∧ Heap w0 [oA (rList (rInt .i64)) v43 xs57] w ∧ iter f72 n (xs57, x58) = some res70) _ ⟨(cpy (List.replicate m42 (0 : Int)) ((0 : Int)).toNat (List.replicate m42 (0 : Int)).length a0), (((min a0.length (List.replicate m42 (0 : Int)).length : Nat) : Nat) : Int), S.sub ⟨rfl, rfl, trivial⟩, H, hit71⟩ ?_
        rintro n a w ⟨xs57, x58, S, H, hit71⟩
        obtain ⟨m75, o76, rfl, hm, hc77⟩ := iter_step hit71
        rw [hf73] at hm
        refine wp_seq ?_
        refine wp_seq ?_
        refine region_plain ?_
        refine lx_q (.int .i64 x58) S trivial (by decide) (q_move rfl) (fun a S => ?_)
        refine lx_q v43 S trivial (by decide) (q_move rfl) (fun a S => ?_)
        refine lx_q (.int .i64 (xs57.length : Int)) S trivial (by decide) (q_lenSl rfl (H.isSl 0 rfl) rfl Try.underlying23) (fun a S => ?_)
        refine lx_q (.bool (decide (x58 < (xs57.length : Int)))) S trivial (by decide) (q_lss rfl rfl) (fun a S => ?_)
        refine lx_nil ?_
        refine thenN ?_
        refine cond_b S rfl (fun hc78 => ?_) (fun hc78 => ?_)
        · have hm := ite_t hc78 hm
          refine wp_skip ?_
          refine thenN ?_
          refine wp_block ?_
          refine region_drawG (fun w1 => Heap w0 [] w1) (fun i => [7].contains i) mixed (by kernel_rfl) (fun w80 he79 => ?_)
          have H := H.later he79
          refine ⟨H.sel [] (by decide), ?_⟩
          refine lx_q (.int .i64 x58) S trivial (by decide) (q_move rfl) (fun a S => ?_)
          refine lx_q v43 S trivial (by decide) (q_move rfl) (fun a S => ?_)
          refine lx_q (.int .i64 x58) S trivial (by decide) (q_move rfl) (fun a S => ?_)
          obtain ⟨xs81, e82, hm⟩ := bind_some hm
          have hsb := (sub_some e82).1
          refine lx_q (subV v43 (x58).toNat ((xs57.length : Int)).toNat 1) S trivial (by decide) (q_slice (lo := (some (.tmp 40))) (hi := none) (l := x58) (h := (xs57.length : Int)) (size := 1) rfl (H.isSl 0 rfl) Try.underlying23 Try.sizeOf2 rfl rfl hsb.1 hsb.2.1 hsb.2.2) (fun a S => ?_)
          refine lx_q v43 S trivial (by decide) (q_move rfl) (fun a S => ?_)
          refine lx_q (.int .i64 x58) S trivial (by decide) (q_move rfl) (fun a S => ?_)
          obtain ⟨xs83, e84, hm⟩ := bind_some hm
          have hsb := (sub_some e84).1
          refine lx_q (subV v43 ((0 : Int)).toNat (x58).toNat 1) S trivial (by decide) (q_slice (lo := none) (hi := (some (.tmp 43))) (l := (0 : Int)) (h := x58) (size := 1) rfl (H.isSl 0 rfl) Try.underlying23 Try.sizeOf2 rfl rfl hsb.1 hsb.2.1 hsb.2.2) (fun a S => ?_)
          have hR := ((H.rdAt 0 rfl).sub e84)
          have hS := e82
          refine lx_copy (r := (rInt .i64)) (lo := x58) (hi := (xs57.length : Int)) S trivial (by decide) rfl H (flat_int _) rfl rfl hS hR Try.underlying23 Try.sizeOf2 (fun w85 H => ⟨H.sel [] (by decide), fun a S => ?_⟩)
          refine lx_q (.int .i64 (W (x58 + (((min xs83.length xs81.length : Nat) : Nat) : Int)))) S trivial (by decide) (q_add rfl rfl) (fun a S => ?_)
          refine lx_q (.int .i64 (W (x58 + (((min xs83.length xs81.length : Nat) : Nat) : Int)))) S trivial (by decide) (q_assign rfl) (fun a S => ?_)
          refine lx_nil ?_
          refine inBlock_norm ?_
          exact ⟨m75, Nat.lt_succ_self _, (cpy xs57 (x58).toNat xs81.length xs83), (W (x58 + (((min xs83.length xs81.length : Nat) : Nat) : Int))), S.sub ⟨rfl, rfl, trivial⟩, H, it_cont hm hc77⟩
        · have hm := ite_f hc78 hm
          refine wp_exit ?_
          refine then_exit ?_
          refine then_exit ?_
          refine inBlock_exit ?_
          obtain rfl := it_brk hm hc77
          exact ⟨xs57, S.sub ⟨rfl, trivial⟩, H, rfl⟩
    · skip
      refine wp_seq ?_
      refine region_plain ?_
      refine lx_q (.int .u64 x35.1) S trivial (by decide) (q_move rfl) (fun a S => ?_)
      refine lx_q (.bool (decide ((0 : Int) < x35.1))) S trivial (by decide) (q_gtr rfl rfl) (fun a S => ?_)
      refine lx_q (.bool (decide ((0 : Int) < x35.1))) S trivial (by decide) (q_move rfl) (fun a S => ?_)
      obtain ⟨t86, e87, hm⟩ := bind_some hm
      refine lx_cut 3 (fun a w => Slots a 48 [(0, p0), (6, (.int .u64 x35.2)), (26, (.bool t86))] ∧ Heap w0 [] w) ?_ ?_
      · by_cases hc88 : (decide ((0 : Int) < x35.1)) = true
        · have hm := ite_t hc88 e87
          refine lx_skip S rfl rfl (isB_ne hc88) (by decide) (fun a S => ?_)
          refine lx_skip S rfl rfl (isB_ne hc88) (by decide) (fun a S => ?_)
          refine lx_q (.bool true) S trivial (by decide) (q_pickT' rfl hc88 rfl) (fun a S => ?_)
          refine lx_nil ?_
          obtain rfl := Option.some.inj hm
          exact ⟨S.sub ⟨rfl, rfl, rfl, trivial⟩, H⟩
        · have hm := ite_f (eq_false_of_ne_true hc88) e87
          have hc88 : (decide ((0 : Int) < x35.1)) = false := eq_false_of_ne_true hc88
          refine lx_q (.int .u64 x35.2) S (want_b rfl rfl hc88) (by decide) (q_move rfl) (fun a S => ?_)
          refine lx_q (.bool (decide ((9223372036854775807 : Int) < x35.2))) S (want_b rfl rfl hc88) (by decide) (q_gtr rfl rfl) (fun a S => ?_)
          refine lx_q (.bool (decide ((9223372036854775807 : Int) < x35.2))) S trivial (by decide) (q_pickF' rfl hc88 rfl) (fun a S => ?_)
          refine lx_nil ?_
          obtain rfl := Option.some.inj hm
          exact ⟨S.sub ⟨rfl, rfl, rfl, trivial⟩, H⟩
      · rintro a w ⟨S, H⟩
        refine lx_nil ?_
        refine thenN ?_
        refine cond_b S rfl (fun hc89 => ?_) (fun hc89 => ?_)
        · have hm := ite_t hc89 hm
          refine region_plain ?_
          cases hm
        · have hm := ite_f hc89 hm
          refine wp_skip ?_
          exact ⟨S.sub ⟨rfl, rfl, trivial⟩, H, hm⟩
  · skip
    refine wp_seq ?_
    refine region_plain ?_
    refine lx_q (.int .i64 a1) S trivial (by decide) (q_move rfl) (fun a S => ?_)
    refine lx_q (.bool (decide (a1 < (0 : Int)))) S trivial (by decide) (q_lss rfl rfl) (fun a S => ?_)
    refine lx_nil ?_
    refine thenN ?_
    refine cond_b S rfl (fun hc90 => ?_) (fun hc90 => ?_)
    · have hm := ite_t hc90 hm
      refine region_plain ?_
      cases hm
    · have hm := ite_f hc90 hm
      refine wp_skip ?_
      exact ⟨S.sub ⟨rfl, rfl, trivial⟩, H, hm⟩

/-- impl.DecidedEquations$1 -/
def impl_DecidedEquations_1_m (_ : Nat) (a0 : Int) (a1 : (List Int)) (a2 : Int) : Option (Bool) :=
  (idx a1 a0).bind fun x41 => some ((x41 == (W ((1 : Int) - a2))))
set_option maxRecDepth 20000 in
theorem impl_DecidedEquations_1_ok {w0 : World} {fuel : Nat} {p1 p2 : Value} {a0 : Int} {a1 : (List Int)} {a2 : Int} {r : Bool} (h1 : Rd (rPtr (rList (rInt .i64))) w0 p1 a1) (h2 : Rd (rPtr (rInt .i64)) w0 p2 a2) (hm : impl_DecidedEquations_1_m fuel a0 a1 a2 = some r) :
    Calls Try.prog 76 #[.int .i64 a0, p1, p2] w0 fun e w => e = .returned (.bool r) ∧ Heap w0 [] w := by
  unfold impl_DecidedEquations_1_m at hm
  have H := Heap.start w0
  obtain ⟨c31, h32, hat33⟩ := h1.ptr
  obtain ⟨v34, rfl, h35⟩ := rd_list h32
  obtain ⟨c36, h37, hat38⟩ := h2.ptr
  obtain rfl := h37
  refine enter (args := [.int .i64 a0, p1, p2]) Try.func76 rfl 12 rfl (Nat.le_of_ble_eq_true rfl) (fun a S => ?_)
  refine wp_seq ?_
  refine region_plain ?_
  refine lx_q (.bool false) S trivial (by decide) (q_assign rfl) (fun a S => ?_)
  refine lx_nil ?_
  refine thenN ?_
  refine wp_seq ?_
  refine region_drawG (fun w1 => Heap w0 [] w1) (fun i => [].contains i) mixed (by kernel_rfl) (fun w40 he39 => ?_)
  have H := H.later he39
  refine ⟨H.sel [] (by decide), ?_⟩
  refine lx_q v34 S trivial (by decide) (q_load1 rfl Try.isAgg23 (fun w1 hC => ((hat33 0 _ rfl).ext hC.ext))) (fun a S => ?_)
  refine lx_q (.int .i64 a0) S trivial (by decide) (q_move rfl) (fun a S => ?_)
  obtain ⟨x41, e42, hm⟩ := bind_some hm
  obtain ⟨c43, h44, hat45⟩ := (h35).elem (idx_some e42).2
  obtain rfl := h44
  have hlt := lt_of_idx (idx_some e42).2
  refine lx_q (ePtr v34 (a0.toNat * 1)) S trivial (by decide) (q_indexAddr rfl (h35).isSl rfl (idx_some e42).1 hlt Try.underlying23 Try.sizeOf2) (fun a S => ?_)
  refine lx_q (.int .i64 x41) S trivial (by decide) (q_load1 rfl Try.isAgg2 (fun w1 hC => ((hat45 0 _ rfl).ext hC.ext))) (fun a S => ?_)
  refine lx_q (.int .i64 a2) S trivial (by decide) (q_load1 rfl Try.isAgg2 (fun w1 hC => ((hat38 0 _ rfl).ext hC.ext))) (fun a S => ?_)
  refine lx_q (.int .i64 (W ((1 : Int) - a2))) S trivial (by decide) (q_sub rfl rfl) (fun a S => ?_)
  refine lx_q (.bool (x41 == (W ((1 : Int) - a2)))) S trivial (by decide) (q_eql rfl rfl) (fun a S => ?_)
  refine lx_q (.bool (x41 == (W ((1 : Int) - a2)))) S trivial (by decide) (q_assign rfl) (fun a S => ?_)
  refine lx_nil ?_
  refine thenN ?_
  refine wp_ret ?_
  obtain rfl := Option.some.inj hm
  exact leave1 S rfl rfl ⟨rfl, H⟩

/-- impl.DecidedEquations$2 -/
def impl_DecidedEquations_2_m (_ : Nat) (a0 : Int) (a1 : (List Int)) (a2 : Int) : Option (Bool) :=
  (idx a1 a0).bind fun x41 => some ((x41 != a2))
set_option maxRecDepth 20000 in
theorem impl_DecidedEquations_2_ok {w0 : World} {fuel : Nat} {p1 p2 : Value} {a0 : Int} {a1 : (List Int)} {a2 : Int} {r : Bool} (h1 : Rd (rPtr (rList (rInt .i64))) w0 p1 a1) (h2 : Rd (rPtr (rInt .i64)) w0 p2 a2) (hm : impl_DecidedEquations_2_m fuel a0 a1 a2 = some r) :
    Calls Try.prog 77 #[.int .i64 a0, p1, p2] w0 fun e w => e = .returned (.bool r) ∧ Heap w0 [] w := by
  unfold impl_DecidedEquations_2_m at hm
  have H := Heap.start w0
  obtain ⟨c31, h32, hat33⟩ := h1.ptr
  obtain ⟨v34, rfl, h35⟩ := rd_list h32
  obtain ⟨c36, h37, hat38⟩ := h2.ptr
  obtain rfl := h37
  refine enter (args := [.int .i64 a0, p1, p2]) Try.func77 rfl 11 rfl (Nat.le_of_ble_eq_true rfl) (fun a S => ?_)
  refine wp_seq ?_
  refine region_plain ?_
  refine lx_q (.bool false) S trivial (by decide) (q_assign rfl) (fun a S => ?_)
  refine lx_nil ?_
  refine thenN ?_
  refine wp_seq ?_
  refine region_drawG (fun w1 => Heap w0 [] w1) (fun i => [].contains i) mixed (by kernel_rfl) (fun w40 he39 => ?_)
  have H := H.later he39
  refine ⟨H.sel [] (by decide), ?_⟩
  refine lx_q v34 S trivial (by decide) (q_load1 rfl Try.isAgg23 (fun w1 hC => ((hat33 0 _ rfl).ext hC.ext))) (fun a S => ?_)
  refine lx_q (.int .i64 a0) S trivial (by decide) (q_move rfl) (fun a S => ?_)
  obtain ⟨x41, e42, hm⟩ := bind_some hm
  obtain ⟨c43, h44, hat45⟩ := (h35).elem (idx_some e42).2
  obtain rfl := h44
  have hlt := lt_of_idx (idx_some e42).2
  refine lx_q (ePtr v34 (a0.toNat * 1)) S trivial (by decide) (q_indexAddr rfl (h35).isSl rfl (idx_some e42).1 hlt Try.underlying23 Try.sizeOf2) (fun a S => ?_)
  refine lx_q (.int .i64 x41) S trivial (by decide) (q_load1 rfl Try.isAgg2 (fun w1 hC => ((hat45 0 _ rfl).ext hC.ext))) (fun a S => ?_)
  refine lx_q (.int .i64 a2) S trivial (by decide) (q_load1 rfl Try.isAgg2 (fun w1 hC => ((hat38 0 _ rfl).ext hC.ext))) (fun a S => ?_)
  refine lx_q (.bool (x41 != a2)) S trivial (by decide) (q_neq rfl rfl) (fun a S => ?_)
  refine lx_q (.bool (x41 != a2)) S trivial (by decide) (q_assign rfl) (fun a S => ?_)
  refine lx_nil ?_
  refine thenN ?_
  refine wp_ret ?_
  obtain rfl := Option.some.inj hm
  exact leave1 S rfl rfl ⟨rfl, H⟩

/-- impl.DecidedEquations -/
def impl_DecidedEquations_m (fuel : Nat) (a0 : (List Timpl_Equation)) : Option (((List Int) × Int)) :=
  (impl_ValidEquations_m fuel a0).bind fun x33 => (if (!x33) = true then some (([], (1 : Int))) else (slices_Repeat__int64_int64_m fuel [(-1 : Int)] (a0.length : Int)).bind fun x43 => (iter (fun (s : (List Int) × (Bool)) => (match s with | (xs266, x267) => (if x267 = true then (iter (fun (s : (List Int) × (Bool) × (Int)) => (match s with | (xs559, x560, x561) => (if (decide (x561 < (a0.length : Int))) = true then join (κ := List Int → Bool → Option (((List Int) × (Bool) × (Int)) ⊕ (((List Int) × Bool) ⊕ (((List Int) × Int))))) (fun (xs640 : List Int) (x641 : Bool) => some (.inl (xs640, x641, (W (x561 + (1 : Int)))))) (fun K642 => (idx a0 x561).bind fun x644 => (idx xs559 x561).bind fun x663 => (if (decide ((0 : Int) ≤ x663)) = true then (K642 xs559 x560) else (impl_truth_m fuel x644.2.1).bind fun x671 => join (κ := List Int → Option (((List Int) × (Bool) × (Int)) ⊕ (((List Int) × Bool) ⊕ (((List Int) × Int))))) (fun (xs678 : List Int) => (K642 xs678 true)) (fun K679 => (slices_ContainsFunc__int64_int64_m fuel x644.2.2 (fun (z0 : Int) => impl_DecidedEquations_1_m fuel z0 xs559 x671)).bind fun x683 => (if x683 = true then (idx xs559 x561).bind fun _ => (K679 (xs559.set x561.toNat (W ((1 : Int) - x671)))) else (slices_ContainsFunc__int64_int64_m fuel x644.2.2 (fun (z0 : Int) => impl_DecidedEquations_2_m fuel z0 xs559 x671)).bind fun x694 => (if (!x694) = true then (idx xs559 x561).bind fun _ => (K679 (xs559.set x561.toNat x671)) else (K642 xs559 x560)))))) else some (.inr (.inl (xs559, x560)))) : Option (((List Int) × (Bool) × (Int)) ⊕ (((List Int) × Bool) ⊕ (((List Int) × Int)))))) fuel (xs266, false, (0 : Int))).bind fun res631 => ctl (β := (List Int) × Bool) (ρ := ((List Int) × Int)) (τ := (((List Int) × (Bool)) ⊕ (((List Int)) ⊕ (((List Int) × Int))))) res631 (fun (xs629, x630) => some (.inl (xs629, x630))) (fun q => some (.inr (.inr q))) else some (.inr (.inl (xs266)))) : Option (((List Int) × (Bool)) ⊕ (((List Int)) ⊕ (((List Int) × Int)))))) fuel (x43, true)).bind fun res483 => ctl (β := (List Int)) (ρ := ((List Int) × Int)) (τ := ((List Int) × Int)) res483 (fun (xs482) => some ((xs482, (0 : Int)))) (fun q => some (q)))
set_option maxRecDepth 20000 in
theorem impl_DecidedEquations_ok {w0 : World} {fuel : Nat} {p0 : Value} {a0 : (List Timpl_Equation)} {r : ((List Int) × Int)} (h0 : Rd (rList Rimpl_Equation) w0 p0 a0) (hm : impl_DecidedEquations_m fuel a0 = some r) :
    Calls Try.prog 29 #[p0] w0 fun e w => ∃ (v0 : Value), e = .returned (.tuple #[v0, .int .i64 r.2]) ∧ Heap w0 [oA (rList (rInt .i64)) v0 r.1] w := by
  unfold impl_DecidedEquations_m at hm
  have H := Heap.start w0
  refine enter (args := [p0]) Try.func29 rfl 54 rfl (Nat.le_of_ble_eq_true rfl) (fun a S => ?_)
  refine wp_seq ?_
  refine region_plain ?_
  refine lx_q (.slice none 0 0) S trivial (by decide) (q_assign rfl) (fun a S => ?_)
  refine lx_q (.int .i64 (0 : Int)) S trivial (by decide) (q_assign rfl) (fun a S => ?_)
  refine lx_nil ?_
  refine thenN ?_
  refine wp_seq ?_
  refine wp_seq ?_
  refine region_plain ?_
  refine lx_q p0 S trivial (by decide) (q_move rfl) (fun a S => ?_)
  obtain ⟨x33, e34, hm⟩ := bind_some hm
  refine lx_call (xs := [.tmp 9]) S trivial (by decide) rfl rfl Try.call71 ((impl_ValidEquations_ok (H.arg h0) e34).mono ?_)
  rintro e w31 ⟨rfl, Hc32⟩
  have he35 := Hc32.ext
  have H := H.call0 Hc32
  refine ⟨_, rfl, trivial, fun a S => ?_⟩
  refine lx_q (.bool (!x33)) S trivial (by decide) (q_not rfl) (fun a S => ?_)
  refine lx_nil ?_
  refine thenN ?_
  refine cond_b S rfl (fun hc36 => ?_) (fun hc36 => ?_)
  · have hm := ite_t hc36 hm
    refine wp_seq ?_
    refine region_plain ?_
    refine lx_q (.slice none 0 0) S trivial (by decide) (q_assign rfl) (fun a S => ?_)
    refine lx_q (.int .i64 (1 : Int)) S trivial (by decide) (q_assign rfl) (fun a S => ?_)
    refine lx_nil ?_
    refine thenN ?_
    refine wp_ret ?_
    refine then_ret ?_
    obtain rfl := Option.some.inj hm
    have H : Heap w0 [oA (rList (rInt .i64)) (.slice none 0 0) ([] : List Int)] w31 := H.nilList (rInt .i64)
    exact leave2 S rfl rfl rfl ⟨(.slice none 0 0), rfl, H⟩
  · have hm := ite_f hc36 hm
    refine wp_skip ?_
    refine thenN ?_
    refine wp_seq ?_
    refine region_plain ?_
    refine lx_buildSlice (r := (rInt .i64)) (xs := [(-1 : Int)]) (ps := [(0, [(.int .i64 (-1 : Int))])]) (cs := [(.int .i64 (-1 : Int))]) (parts := [(0, .const (.int .i64 (-1)))]) S trivial (by decide) rfl (H.put0 (A := eA) rfl) rfl Try.underlying23 Try.sizeOf2 Try.zeroValue2 (by decide) ⟨rfl, rfl, Nat.le_of_ble_eq_true rfl, trivial⟩ (by intro zs hz; exact fill_dense hz ⟨rfl, trivial⟩ rfl rfl) rfl (by decide) (fun w F hA => by cases (show F = [] from hA); exact ⟨_, _, [(.int .i64 (-1 : Int))], _, rfl, rfl, ⟨rfl, rfl⟩, ⟨rfl, rfl⟩⟩) (fun v38 w39 H => ⟨trivial, fun a S => ?_⟩)
    refine lx_q p0 S trivial (by decide) (q_move rfl) (fun a S => ?_)
    refine lx_q (.int .i64 (a0.length : Int)) S trivial (by decide) (q_lenSl rfl (h0).isSl rfl Try.underlying36) (fun a S => ?_)
    obtain ⟨x43, e44, hm⟩ := bind_some hm
    refine lx_call (xs := [.tmp 12, .tmp 14]) S trivial (by decide) rfl rfl Try.call74 ((slices_Repeat__int64_int64_ok (H.rdAt 0 rfl)  e44).mono ?_)
    rintro e w41 ⟨v45, rfl, Hc42⟩
    have he47 := Hc42.ext
    have H := H.call1 Hc42
    refine ⟨_, rfl, trivial, fun a S => ?_⟩
    refine lx_alloc S trivial (by decide) rfl H Try.zeroValue23 rfl (fun b48 w49 H => ⟨trivial, fun a S => ?_⟩)
    refine lx_storeBox (o := 0) (i := 0) (us := [v45]) (cs' := [v45]) S trivial rfl H rfl rfl rfl (cells_sl (H.isSl 1 rfl)) Try.sizeOf23 (Nat.le_of_ble_eq_true rfl) (List.forall_mem_cons.2 ⟨one_sl (H.isSl 1 rfl), (fun _ h => nomatch h)⟩) rfl (fun w51 H => ⟨trivial, fun a S => ?_⟩)
    change Heap w0 [bA b48 [v45] 23, oA (rList (rInt .i64)) v45 x43, oA (rList (rInt .i64)) v38 [(-1 : Int)]] w51 at H
    refine lx_nil ?_
    refine thenN ?_
    refine wp_seq ?_
    refine wp_seq ?_
    refine region_plain ?_
    refine lx_q (.bool true) S trivial (by decide) (q_assign rfl) (fun a S => ?_)
    refine lx_nil ?_
    refine thenN ?_
    obtain ⟨res483, hit484, hk487⟩ := bind_some hm
    obtain ⟨f485, hf486, hit484⟩ := iter_name hit484
    refine block_loop (fun a w => ∃ (xs482 : List Int), Slots a 54 [(4, (bp b48))] ∧ Heap w0 [bA b48 [v45] 23, oA (rList (rInt .i64)) v45 xs482] w ∧ res483 = .inl (xs482)) ?_ ?_
    · rintro a w ⟨xs482, S, H, rfl⟩
      have hm := ctl_inl hk487
      refine thenN ?_
      refine wp_seq ?_
      refine region_plain ?_
      refine lx_e v45 S trivial (by decide) rfl trivial (q_load1 rfl Try.isAgg23 (by rintro _ rfl; exact (boxAt (i := 0) H rfl (j := 0) rfl))) (fun a S => ?_)
      refine lx_q v45 S trivial (by decide) (q_assign rfl) (fun a S => ?_)
      refine lx_q (.int .i64 (0 : Int)) S trivial (by decide) (q_assign rfl) (fun a S => ?_)
      refine lx_nil ?_
      refine thenN ?_
      refine wp_ret ?_
      obtain rfl := Option.some.inj hm
      have H : Heap w0 [oA (rList (rInt .i64)) v45 xs482] w := H.sel [1] (by decide)
      exact leave2 S rfl rfl rfl ⟨v45, rfl, H⟩
    · skip
      have H : Heap w0 [bA b48 [v45] 23, oA (rList (rInt .i64)) v45 x43] w51 := H.sel [0, 1] (by decide)
      refine loop_ghost (fun n a w => ∃ (xs266 : List Int) (x267 : Bool), Slots a 54 [(0, p0), (4, (bp b48)), (5, (.bool x267))] ∧ Heap w0 [bA b48 [v45] 23, oA (rList (rInt .i64)) v45 xs266] w ∧ iter f485 n (xs266, x267) = some res483) _ ⟨x43, true, S.sub ⟨rfl, rfl, rfl, trivial⟩, H, hit484⟩ ?_
      rintro n a w ⟨xs266, x267, S, H, hit484⟩
      obtain ⟨m488, o489, rfl, hm, hc490⟩ := iter_step hit484
      rw [hf486] at hm
      refine wp_seq ?_
      refine wp_seq ?_
      refine region_plain ?_
      refine lx_q (.bool x267) S trivial (by decide) (q_move rfl) (fun a S => ?_)
      refine lx_nil ?_
      refine thenN ?_
      refine cond_b S rfl (fun hc491 => ?_) (fun hc491 => ?_)
      · have hm := ite_t hc491 hm
        refine wp_skip ?_
        refine thenN ?_
        refine wp_block ?_
        refine wp_seq ?_
        refine region_plain ?_
        refine lx_q (.bool false) S trivial (by decide) (q_assign rfl) (fun a S => ?_)
        refine lx_nil ?_
        refine thenN ?_
        refine wp_seq ?_
        refine region_plain ?_
        refine lx_q p0 S trivial (by decide) (q_move rfl) (fun a S => ?_)
        refine lx_q (.int .i64 (a0.length : Int)) S trivial (by decide) (q_lenSl rfl (h0).isSl rfl Try.underlying36) (fun a S => ?_)
        refine lx_q (.int .i64 (0 : Int)) S trivial (by decide) (q_move rfl) (fun a S => ?_)
        refine lx_nil ?_
        refine thenN ?_
        obtain ⟨res631, hit632, hk635⟩ := bind_some hm
        obtain ⟨f633, hf634, hit632⟩ := iter_name hit632
        refine block_loop (fun a w => ∃ (xs629 : List Int) (x630 : Bool), Slots a 54 [(0, p0), (4, (bp b48)), (5, (.bool x630))] ∧ Heap w0 [bA b48 [v45] 23, oA (rList (rInt .i64)) v45 xs629] w ∧ res631 = .inl (xs629, x630)) ?_ ?_
        · rintro a w ⟨xs629, x630, S, H, rfl⟩
          have hm := ctl_inl hk635
          refine inBlock_norm ?_
          exact ⟨m488, Nat.lt_succ_self _, xs629, x630, S.sub ⟨rfl, rfl, rfl, trivial⟩, H, it_cont hm hc490⟩
        · skip
          refine loop_ghost (fun n a w => ∃ (xs559 : List Int) (x560 : Bool) (x561 : Int), Slots a 54 [(0, p0), (4, (bp b48)), (5, (.bool x560)), (17, p0), (18, (.int .i64 (a0.length : Int))), (19, (.int .i64 x561))] ∧ Heap w0 [bA b48 [v45] 23, oA (rList (rInt .i64)) v45 xs559] w ∧ iter f633 n (xs559, x560, x561) = some res631) _ ⟨xs266, false, (0 : Int), S.sub ⟨rfl, rfl, rfl, rfl, rfl, rfl, trivial⟩, H, hit632⟩ ?_
          rintro n a w ⟨xs559, x560, x561, S, H, hit632⟩
          obtain ⟨m636, o637, rfl, hm, hc638⟩ := iter_step hit632
          rw [hf634] at hm
          refine wp_seq ?_
          refine region_plain ?_
          refine lx_q (.bool (decide (x561 < (a0.length : Int)))) S trivial (by decide) (q_lss rfl rfl) (fun a S => ?_)
          refine lx_nil ?_
          refine thenN ?_
          refine wp_seq ?_
          refine cond_b S rfl (fun hc639 => ?_) (fun hc639 => ?_)
          · have hm := ite_t hc639 hm
            refine wp_skip ?_
            refine thenN ?_
            obtain ⟨K642, hK643, hm⟩ := join_elim hm
            refine seq_cut (fun a w => ∃ (xs640 : List Int) (x641 : Bool), Slots a 54 [(0, p0), (4, (bp b48)), (5, (.bool x641)), (17, p0), (18, (.int .i64 (a0.length : Int))), (19, (.int .i64 x561))] ∧ Heap w0 [bA b48 [v45] 23, oA (rList (rInt .i64)) v45 xs640] w ∧ K642 xs640 x641 = some o637) ?_ ?_
            · rintro a w ⟨xs640, x641, S, H, hm⟩
              subst hK643
              refine region_plain ?_
              refine lx_q (.int .i64 (W (x561 + (1 : Int)))) S trivial (by decide) (q_add rfl rfl) (fun a S => ?_)
              refine lx_q (.int .i64 (W (x561 + (1 : Int)))) S trivial (by decide) (q_move rfl) (fun a S => ?_)
              refine lx_nil ?_
              exact ⟨m636, Nat.lt_succ_self _, xs640, x641, (W (x561 + (1 : Int))), S.sub ⟨rfl, rfl, rfl, rfl, rfl, rfl, trivial⟩, H, it_cont hm hc638⟩
            · skip
              refine wp_block ?_
              refine wp_seq ?_
              refine region_plain ?_
              refine lx_q (.int .i64 x561) S trivial (by decide) (q_move rfl) (fun a S => ?_)
              obtain ⟨x644, e645, hm⟩ := bind_some hm
              obtain ⟨c646, h647, hat648⟩ := (h0).elem (idx_some e645).2
              obtain ⟨c651, c652, rfl, h653, h654⟩ := h647
              obtain rfl := h653
              obtain ⟨c655, c656, rfl, h657, h658⟩ := h654
              obtain rfl := h657
              obtain ⟨v649, rfl, h650⟩ := rd_list h658
              have hlt := lt_of_idx (idx_some e645).2
              refine lx_q (ePtr p0 (x561.toNat * 3)) S trivial (by decide) (q_indexAddr rfl (h0).isSl rfl (idx_some e645).1 hlt Try.underlying36 Try.sizeOf85) (fun a S => ?_)
              refine lx_e (.agg #[(.bool x644.1), (.bool x644.2.1), v649]) S trivial (by decide) rfl trivial (q_loadA (cs := [(.bool x644.1), (.bool x644.2.1), v649]) rfl ((hat648 0 _ rfl).isP) Try.isAgg85 Try.sizeOf85 (by rintro _ rfl; exact (fun j u hu => (hat648 j u hu).ext H.ext))) (fun a S => ?_)
              refine lx_alloc S trivial (by decide) rfl H Try.zeroValue85 rfl (fun b659 w660 H => ⟨trivial, fun a S => ?_⟩)
              refine lx_q (.int .i64 x561) S trivial (by decide) (q_assign rfl) (fun a S => ?_)
              refine lx_storeBox (o := 0) (i := 0) (us := [(.bool x644.1), (.bool x644.2.1), v649]) (cs' := [(.bool x644.1), (.bool x644.2.1), v649]) S trivial rfl H rfl rfl rfl rfl Try.sizeOf85 (Nat.le_of_ble_eq_true rfl) (List.forall_mem_cons.2 ⟨rfl, (List.forall_mem_cons.2 ⟨rfl, (List.forall_mem_cons.2 ⟨one_sl (h650).isSl, (fun _ h => nomatch h)⟩)⟩)⟩) rfl (fun w662 H => ⟨trivial, fun a S => ?_⟩)
              change Heap w0 [bA b659 [(.bool x644.1), (.bool x644.2.1), v649] 85, bA b48 [v45] 23, oA (rList (rInt .i64)) v45 xs559] w662 at H
              refine lx_nil ?_
              refine thenN ?_
              refine wp_seq ?_
              refine wp_seq ?_
              refine region_plain ?_
              refine lx_e v45 S trivial (by decide) rfl trivial (q_load1 rfl Try.isAgg23 (by rintro _ rfl; exact (boxAt (i := 1) H rfl (j := 0) rfl))) (fun a S => ?_)
              refine lx_q (.int .i64 x561) S trivial (by decide) (q_move rfl) (fun a S => ?_)
              obtain ⟨x663, e664, hm⟩ := bind_some hm
              have hlt := lt_of_idx (idx_some e664).2
              refine lx_q (ePtr v45 (x561.toNat * 1)) S trivial (by decide) (q_indexAddr rfl (H.isSl 2 rfl) rfl (idx_some e664).1 hlt Try.underlying23 Try.sizeOf2) (fun a S => ?_)
              obtain ⟨c665, h666, hat667⟩ := (H.rdAt 2 rfl).elem (idx_some e664).2
              obtain rfl := h666
              refine lx_e (.int .i64 x663) S trivial (by decide) rfl trivial (q_load1 rfl Try.isAgg2 (by rintro _ rfl; exact (hat667 0 _ rfl))) (fun a S => ?_)
              refine lx_q (.bool (decide ((0 : Int) ≤ x663))) S trivial (by decide) (q_geq rfl rfl) (fun a S => ?_)
              refine lx_nil ?_
              refine thenN ?_
              refine cond_b S rfl (fun hc668 => ?_) (fun hc668 => ?_)
              · have hm := ite_t hc668 hm
                refine wp_exit ?_
                refine then_exit ?_
                refine inBlock_exit ?_
                have H : Heap w0 [bA b48 [v45] 23, oA (rList (rInt .i64)) v45 xs559] w662 := H.sel [1, 2] (by decide)
                exact ⟨xs559, x560, S.sub ⟨rfl, rfl, rfl, rfl, rfl, rfl, trivial⟩, H, hm⟩
              · have hm := ite_f hc668 hm
                refine wp_skip ?_
                refine thenN ?_
                refine wp_seq ?_
                refine region_plain ?_
                refine lx_q (pAdd (bp b659) 1) S trivial (by decide) (q_fieldAddr' 1 4 rfl (isP_bp _) Try.underlying85 rfl Try.sizeOf4) (fun a S => ?_)
                refine lx_e (.bool x644.2.1) S trivial (by decide) rfl trivial (q_load1 rfl Try.isAgg4 (by rintro _ rfl; exact (At.of_add (m := 1) (j := 0) (boxAt (i := 0) H rfl (j := 1) rfl)))) (fun a S => ?_)
                obtain ⟨x671, e672, hm⟩ := bind_some hm
                refine lx_call (xs := [.tmp 30]) S trivial (by decide) rfl rfl Try.call75 ((impl_truth_ok  e672).mono ?_)
                rintro e w669 ⟨rfl, Hc670⟩
                have he673 := Hc670.ext
                have H := H.call0 Hc670
                refine ⟨_, rfl, trivial, fun a S => ?_⟩
                refine lx_alloc S trivial (by decide) rfl H Try.zeroValue2 rfl (fun b674 w675 H => ⟨trivial, fun a S => ?_⟩)
                refine lx_storeBox (o := 0) (i := 0) (us := [(.int .i64 x671)]) (cs' := [(.int .i64 x671)]) S trivial rfl H rfl rfl rfl rfl Try.sizeOf2 (Nat.le_of_ble_eq_true rfl) (List.forall_mem_cons.2 ⟨rfl, (fun _ h => nomatch h)⟩) rfl (fun w677 H => ⟨trivial, fun a S => ?_⟩)
                change Heap w0 [bA b674 [(.int .i64 x671)] 2, bA b659 [(.bool x644.1), (.bool x644.2.1), v649] 85, bA b48 [v45] 23, oA (rList (rInt .i64)) v45 xs559] w677 at H
                refine lx_nil ?_
                refine thenN ?_
                obtain ⟨K679, hK680, hm⟩ := join_elim hm
                refine seq_cut (fun a w => ∃ (xs678 : List Int), Slots a 54 [(0, p0), (4, (bp b48)), (17, p0), (18, (.int .i64 (a0.length : Int))), (19, (.int .i64 x561))] ∧ Heap w0 [bA b48 [v45] 23, oA (rList (rInt .i64)) v45 xs678] w ∧ K679 xs678 = some o637) ?_ ?_
                · rintro a w ⟨xs678, S, H, hm⟩
                  subst hK680
                  refine region_plain ?_
                  refine lx_q (.bool true) S trivial (by decide) (q_assign rfl) (fun a S => ?_)
                  refine lx_nil ?_
                  refine inBlock_norm ?_
                  exact ⟨xs678, true, S.sub ⟨rfl, rfl, rfl, rfl, rfl, rfl, trivial⟩, H, hm⟩
                · skip
                  refine wp_block ?_
                  refine wp_seq ?_
                  refine region_plain ?_
                  refine lx_q (pAdd (bp b659) 2) S trivial (by decide) (q_fieldAddr' 2 23 rfl (isP_bp _) Try.underlying85 rfl Try.sizeOf23) (fun a S => ?_)
                  refine lx_e v649 S trivial (by decide) rfl trivial (q_load1 rfl Try.isAgg23 (by rintro _ rfl; exact (At.of_add (m := 2) (j := 0) (boxAt (i := 1) H rfl (j := 2) rfl)))) (fun a S => ?_)
                  refine lx_q (.func (.func 76) #[] #[(bp b48), (bp b674)]) S trivial (by decide) (q_makeFunc (xs := []) (ys := [.tmp 4, .tmp 8]) rfl rfl) (fun a S => ?_)
                  obtain ⟨x683, e684, hm⟩ := bind_some hm
                  have hcap685 : Rd (rPtr (rList (rInt .i64))) w677 (bp b48) xs559 := (rdPtr_box H 2 rfl ((H.rdAt 3 rfl)).list_rd)
                  have hcap686 : Rd (rPtr (rInt .i64)) w677 (bp b674) x671 := (rdPtr_box H 0 rfl rfl)
                  refine lx_call (xs := [.tmp 34, .tmp 35]) S trivial (by decide) rfl rfl Try.call63 ((slices_ContainsFunc__int64_int64_ok (f1 := 76) (fs1 := ([] : List Value)) (cp1 := ([(bp b48), (bp b674)] : List Value)) (a1 := (fun (z0 : Int) => impl_DecidedEquations_1_m fuel z0 xs559 x671)) (H.arg h650) Try.call76 (fun he  hm => impl_DecidedEquations_1_ok  (hcap685.ext he) (hcap686.ext he) hm) e684).mono ?_)
                  rintro e w681 ⟨rfl, Hc682⟩
                  have he687 := Hc682.ext
                  have H := H.call0 Hc682
                  refine ⟨_, rfl, trivial, fun a S => ?_⟩
                  refine lx_q (.bool x683) S trivial (by decide) (q_assign rfl) (fun a S => ?_)
                  refine lx_nil ?_
                  refine thenN ?_
                  refine cond_b S rfl (fun hc688 => ?_) (fun hc688 => ?_)
                  · have hm := ite_t hc688 hm
                    refine region_plain ?_
                    refine lx_e v45 S trivial (by decide) rfl trivial (q_load1 rfl Try.isAgg23 (by rintro _ rfl; exact (boxAt (i := 2) H rfl (j := 0) rfl))) (fun a S => ?_)
                    refine lx_q (.int .i64 x561) S trivial (by decide) (q_move rfl) (fun a S => ?_)
                    refine lx_e (.int .i64 x671) S trivial (by decide) rfl trivial (q_load1 rfl Try.isAgg2 (by rintro _ rfl; exact (boxAt (i := 0) H rfl (j := 0) rfl))) (fun a S => ?_)
                    refine lx_q (.int .i64 (W ((1 : Int) - x671))) S trivial (by decide) (q_sub rfl rfl) (fun a S => ?_)
                    obtain ⟨x689, e690, hm⟩ := bind_some hm
                    have hlt := lt_of_idx (idx_some e690).2
                    refine lx_q (ePtr v45 (x561.toNat * 1)) S trivial (by decide) (q_indexAddr rfl (H.isSl 3 rfl) rfl (idx_some e690).1 hlt Try.underlying23 Try.sizeOf2) (fun a S => ?_)
                    have H : Heap w0 [oA (rList (rInt .i64)) v45 xs559, bA b674 [(.int .i64 x671)] 2, bA b659 [(.bool x644.1), (.bool x644.2.1), v649] 85, bA b48 [v45] 23] w681 := H.front 3 rfl
                    refine lx_storeElem (r := (rInt .i64)) (us := [(.int .i64 (W ((1 : Int) - x671)))]) (off := 0) (e' := (W ((1 : Int) - x671))) S trivial rfl H.putE (by rw [pAdd_zero]; rfl) rfl (idx_some e690).2 rfl Try.sizeOf2 (Nat.le_of_ble_eq_true rfl) (List.forall_mem_cons.2 ⟨rfl, (fun _ h => nomatch h)⟩) (Upd.full rfl (fun w G hG => by cases (show G = [] from hG); exact ⟨rfl, rfl⟩)) (fun w691 H => ⟨trivial, fun a S => ?_⟩)
                    refine lx_nil ?_
                    refine inBlock_norm ?_
                    have H : Heap w0 [bA b48 [v45] 23, oA (rList (rInt .i64)) v45 (xs559.set x561.toNat (W ((1 : Int) - x671))), bA b674 [(.int .i64 x671)] 2, bA b659 [(.bool x644.1), (.bool x644.2.1), v649] 85] w691 := H.front 3 rfl
                    have H : Heap w0 [bA b48 [v45] 23, oA (rList (rInt .i64)) v45 (xs559.set x561.toNat (W ((1 : Int) - x671)))] w691 := H.sel [0, 1] (by decide)
                    exact ⟨(xs559.set x561.toNat (W ((1 : Int) - x671))), S.sub ⟨rfl, rfl, rfl, rfl, rfl, trivial⟩, H, hm⟩
                  · have hm := ite_f hc688 hm
                    refine wp_seq ?_
                    refine region_plain ?_
                    refine lx_q (pAdd (bp b659) 2) S trivial (by decide) (q_fieldAddr' 2 23 rfl (isP_bp _) Try.underlying85 rfl Try.sizeOf23) (fun a S => ?_)
                    refine lx_e v649 S trivial (by decide) rfl trivial (q_load1 rfl Try.isAgg23 (by rintro _ rfl; exact (At.of_add (m := 2) (j := 0) (boxAt (i := 1) H rfl (j := 2) rfl)))) (fun a S => ?_)
                    refine lx_q (.func (.func 77) #[] #[(bp b48), (bp b674)]) S trivial (by decide) (q_makeFunc (xs := []) (ys := [.tmp 4, .tmp 8]) rfl rfl) (fun a S => ?_)
                    obtain ⟨x694, e695, hm⟩ := bind_some hm
                    have hcap696 : Rd (rPtr (rList (rInt .i64))) w681 (bp b48) xs559 := (rdPtr_box H 2 rfl ((H.rdAt 3 rfl)).list_rd)
                    have hcap697 : Rd (rPtr (rInt .i64)) w681 (bp b674) x671 := (rdPtr_box H 0 rfl rfl)
                    refine lx_call (xs := [.tmp 44, .tmp 45]) S trivial (by decide) rfl rfl Try.call63 ((slices_ContainsFunc__int64_int64_ok (f1 := 77) (fs1 := ([] : List Value)) (cp1 := ([(bp b48), (bp b674)] : List Value)) (a1 := (fun (z0 : Int) => impl_DecidedEquations_2_m fuel z0 xs559 x671)) (H.arg h650) Try.call77 (fun he  hm => impl_DecidedEquations_2_ok  (hcap696.ext he) (hcap697.ext he) hm) e695).mono ?_)
                    rintro e w692 ⟨rfl, Hc693⟩
                    have he698 := Hc693.ext
                    have H := H.call0 Hc693
                    refine ⟨_, rfl, trivial, fun a S => ?_⟩
                    refine lx_q (.bool (!x694)) S trivial (by decide) (q_not rfl) (fun a S => ?_)
                    refine lx_q (.bool (!x694)) S trivial (by decide) (q_assign rfl) (fun a S => ?_)
                    refine lx_nil ?_
                    refine thenN ?_
                    refine cond_b S rfl (fun hc699 => ?_) (fun hc699 => ?_)
                    · have hm := ite_t hc699 hm
                      refine region_plain ?_
                      refine lx_e v45 S trivial (by decide) rfl trivial (q_load1 rfl Try.isAgg23 (by rintro _ rfl; exact (boxAt (i := 2) H rfl (j := 0) rfl))) (fun a S => ?_)
                      refine lx_q (.int .i64 x561) S trivial (by decide) (q_move rfl) (fun a S => ?_)
                      refine lx_e (.int .i64 x671) S trivial (by decide) rfl trivial (q_load1 rfl Try.isAgg2 (by rintro _ rfl; exact (boxAt (i := 0) H rfl (j := 0) rfl))) (fun a S => ?_)
                      obtain ⟨x700, e701, hm⟩ := bind_some hm
                      have hlt := lt_of_idx (idx_some e701).2
                      refine lx_q (ePtr v45 (x561.toNat * 1)) S trivial (by decide) (q_indexAddr rfl (H.isSl 3 rfl) rfl (idx_some e701).1 hlt Try.underlying23 Try.sizeOf2) (fun a S => ?_)
                      have H : Heap w0 [oA (rList (rInt .i64)) v45 xs559, bA b674 [(.int .i64 x671)] 2, bA b659 [(.bool x644.1), (.bool x644.2.1), v649] 85, bA b48 [v45] 23] w692 := H.front 3 rfl
                      refine lx_storeElem (r := (rInt .i64)) (us := [(.int .i64 x671)]) (off := 0) (e' := x671) S trivial rfl H.putE (by rw [pAdd_zero]; rfl) rfl (idx_some e701).2 rfl Try.sizeOf2 (Nat.le_of_ble_eq_true rfl) (List.forall_mem_cons.2 ⟨rfl, (fun _ h => nomatch h)⟩) (Upd.full rfl (fun w G hG => by cases (show G = [] from hG); exact ⟨rfl, rfl⟩)) (fun w702 H => ⟨trivial, fun a S => ?_⟩)
                      refine lx_nil ?_
                      refine inBlock_norm ?_
                      have H : Heap w0 [bA b48 [v45] 23, oA (rList (rInt .i64)) v45 (xs559.set x561.toNat x671), bA b674 [(.int .i64 x671)] 2, bA b659 [(.bool x644.1), (.bool x644.2.1), v649] 85] w702 := H.front 3 rfl
                      have H : Heap w0 [bA b48 [v45] 23, oA (rList (rInt .i64)) v45 (xs559.set x561.toNat x671)] w702 := H.sel [0, 1] (by decide)
                      exact ⟨(xs559.set x561.toNat x671), S.sub ⟨rfl, rfl, rfl, rfl, rfl, trivial⟩, H, hm⟩
                    · have hm := ite_f hc699 hm
                      refine wp_exit ?_
                      refine inBlock_other (by decide) ?_
                      refine then_exit ?_
                      refine inBlock_exit ?_
                      have H : Heap w0 [bA b48 [v45] 23, oA (rList (rInt .i64)) v45 xs559] w692 := H.sel [2, 3] (by decide)
                      exact ⟨xs559, x560, S.sub ⟨rfl, rfl, rfl, rfl, rfl, rfl, trivial⟩, H, hm⟩
          · have hm := ite_f hc639 hm
            refine wp_exit ?_
            refine then_exit ?_
            refine then_exit ?_
            refine inBlock_exit ?_
            obtain rfl := it_brk hm hc638
            exact ⟨xs559, x560, S.sub ⟨rfl, rfl, rfl, trivial⟩, H, rfl⟩
      · have hm := ite_f hc491 hm
        refine wp_exit ?_
        refine then_exit ?_
        refine then_exit ?_
        refine inBlock_exit ?_
        obtain rfl := it_brk hm hc490
        exact ⟨xs266, S.sub ⟨rfl, trivial⟩, H, rfl⟩

/-- laws.szInt64SS -/
def laws_szInt64SS_m (fuel : Nat) (a0 : (List (List Int))) (a1 : Int) : Option (Int) :=
  (if (decide ((W (a1 - (a0.length : Int))) < (0 : Int))) = true then some ((-1 : Int)) else (iter (fun (s : (Int) × (Int)) => (match s with | (x48, x49) => (if (decide (x49 < (a0.length : Int))) = true then (idx a0 x49).bind fun x76 => (laws_szInt64S_m fuel x76 x48).bind fun x85 => (if (decide (x85 < (0 : Int))) = true then some (.inr (.inr (-1 : Int))) else some (.inl (x85, (W (x49 + (1 : Int)))))) else some (.inr (.inl (x48)))) : Option (((Int) × (Int)) ⊕ ((Int) ⊕ (Int))))) fuel ((W (a1 - (a0.length : Int))), (0 : Int))).bind fun res67 => ctl (β := Int) (ρ := Int) (τ := Int) res67 (fun (x66) => some (x66)) (fun q => some (q)))
set_option maxRecDepth 20000 in
theorem laws_szInt64SS_ok {w0 : World} {fuel : Nat} {p0 : Value} {a0 : (List (List Int))} {a1 : Int} {r : Int} (h0 : Rd (rList (rList (rInt .i64))) w0 p0 a0) (hm : laws_szInt64SS_m fuel a0 a1 = some r) :
    Calls Try.prog 32 #[p0, .int .i64 a1] w0 fun e w => e = .returned (.int .i64 r) ∧ Heap w0 [] w := by
  unfold laws_szInt64SS_m at hm
  have H := Heap.start w0
  refine enter (args := [p0, .int .i64 a1]) Try.func32 rfl 27 rfl (Nat.le_of_ble_eq_true rfl) (fun a S => ?_)
  refine wp_seq ?_
  refine region_plain ?_
  refine lx_q (.int .i64 (0 : Int)) S trivial (by decide) (q_assign rfl) (fun a S => ?_)
  refine lx_nil ?_
  refine thenN ?_
  refine wp_seq ?_
  refine region_plain ?_
  refine lx_q (.int .i64 a1) S trivial (by decide) (q_move rfl) (fun a S => ?_)
  refine lx_q p0 S trivial (by decide) (q_move rfl) (fun a S => ?_)
  refine lx_q (.int .i64 (a0.length : Int)) S trivial (by decide) (q_lenSl rfl (h0).isSl rfl Try.underlying45) (fun a S => ?_)
  refine lx_q (.int .i64 (W (a1 - (a0.length : Int)))) S trivial (by decide) (q_sub rfl rfl) (fun a S => ?_)
  refine lx_q (.int .i64 (W (a1 - (a0.length : Int)))) S trivial (by decide) (q_assign rfl) (fun a S => ?_)
  refine lx_nil ?_
  refine thenN ?_
  refine wp_seq ?_
  refine wp_seq ?_
  refine region_plain ?_
  refine lx_q (.int .i64 (W (a1 - (a0.length : Int)))) S trivial (by decide) (q_move rfl) (fun a S => ?_)
  refine lx_q (.bool (decide ((W (a1 - (a0.length : Int))) < (0 : Int)))) S trivial (by decide) (q_lss rfl rfl) (fun a S => ?_)
  refine lx_nil ?_
  refine thenN ?_
  refine cond_b S rfl (fun hc31 => ?_) (fun hc31 => ?_)
  · have hm := ite_t hc31 hm
    refine wp_seq ?_
    refine region_plain ?_
    refine lx_q (.int .i64 (-1 : Int)) S trivial (by decide) (q_assign rfl) (fun a S => ?_)
    refine lx_nil ?_
    refine thenN ?_
    refine wp_ret ?_
    refine then_ret ?_
    obtain rfl := Option.some.inj hm
    exact leave1 S rfl rfl ⟨rfl, H⟩
  · have hm := ite_f hc31 hm
    refine wp_skip ?_
    refine thenN ?_
    refine wp_seq ?_
    refine wp_seq ?_
    refine region_plain ?_
    refine lx_q (.int .i64 (0 : Int)) S trivial (by decide) (q_assign rfl) (fun a S => ?_)
    refine lx_nil ?_
    refine thenN ?_
    obtain ⟨res67, hit68, hk71⟩ := bind_some hm
    obtain ⟨f69, hf70, hit68⟩ := iter_name hit68
    refine block_loop (fun a w => ∃ (x66 : Int), Slots a 27 [(1, (.int .i64 x66))] ∧ Heap w0 [] w ∧ res67 = .inl (x66)) ?_ ?_
    · rintro a w ⟨x66, S, H, rfl⟩
      have hm := ctl_inl hk71
      refine thenN ?_
      refine wp_seq ?_
      refine region_plain ?_
      refine lx_q (.int .i64 x66) S trivial (by decide) (q_move rfl) (fun a S => ?_)
      refine lx_q (.int .i64 x66) S trivial (by decide) (q_assign rfl) (fun a S => ?_)
      refine lx_nil ?_
      refine thenN ?_
      refine wp_ret ?_
      obtain rfl := Option.some.inj hm
      exact leave1 S rfl rfl ⟨rfl, H⟩
    · skip
      refine loop_ghost (fun n a w => ∃ (x48 : Int) (x49 : Int), Slots a 27 [(0, p0), (1, (.int .i64 x48)), (5, (.int .i64 x49))] ∧ Heap w0 [] w ∧ iter f69 n (x48, x49) = some res67) _ ⟨(W (a1 - (a0.length : Int))), (0 : Int), S.sub ⟨rfl, rfl, rfl, trivial⟩, H, hit68⟩ ?_
      rintro n a w ⟨x48, x49, S, H, hit68⟩
      obtain ⟨m72, o73, rfl, hm, hc74⟩ := iter_step hit68
      rw [hf70] at hm
      refine wp_seq ?_
      refine wp_seq ?_
      refine region_plain ?_
      refine lx_q (.int .i64 x49) S trivial (by decide) (q_move rfl) (fun a S => ?_)
      refine lx_q p0 S trivial (by decide) (q_move rfl) (fun a S => ?_)
      refine lx_q (.int .i64 (a0.length : Int)) S trivial (by decide) (q_lenSl rfl (h0).isSl rfl Try.underlying45) (fun a S => ?_)
      refine lx_q (.bool (decide (x49 < (a0.length : Int)))) S trivial (by decide) (q_lss rfl rfl) (fun a S => ?_)
      refine lx_nil ?_
      refine thenN ?_
      refine cond_b S rfl (fun hc75 => ?_) (fun hc75 => ?_)
      · have hm := ite_t hc75 hm
        refine wp_skip ?_
        refine thenN ?_
        refine wp_seq ?_
        refine wp_block ?_
        refine wp_seq ?_
        refine region_plain ?_
        refine lx_q p0 S trivial (by decide) (q_move rfl) (fun a S => ?_)
        refine lx_q (.int .i64 x49) S trivial (by decide) (q_move rfl) (fun a S => ?_)
        obtain ⟨x76, e77, hm⟩ := bind_some hm
        obtain ⟨c78, h79, hat80⟩ := (h0).elem (idx_some e77).2
        obtain ⟨v81, rfl, h82⟩ := rd_list h79
        have hlt := lt_of_idx (idx_some e77).2
        refine lx_q (ePtr p0 (x49.toNat * 1)) S trivial (by decide) (q_indexAddr rfl (h0).isSl rfl (idx_some e77).1 hlt Try.underlying45 Try.sizeOf23) (fun a S => ?_)
        refine lx_e v81 S trivial (by decide) rfl trivial (q_load1 rfl Try.isAgg23 (by rintro _ rfl; exact ((hat80 0 _ rfl).ext H.ext))) (fun a S => ?_)
        refine lx_q (.int .i64 x48) S trivial (by decide) (q_move rfl) (fun a S => ?_)
        obtain ⟨x85, e86, hm⟩ := bind_some hm
        refine lx_call (xs := [.tmp 21, .tmp 22]) S trivial (by decide) rfl rfl Try.call78 ((laws_szInt64S_ok (H.arg h82)  e86).mono ?_)
        rintro e w83 ⟨rfl, Hc84⟩
        have he87 := Hc84.ext
        have H := H.call0 Hc84
        refine ⟨_, rfl, trivial, fun a S => ?_⟩
        refine lx_q (.int .i64 x85) S trivial (by decide) (q_assign rfl) (fun a S => ?_)
        refine lx_nil ?_
        refine thenN ?_
        refine wp_seq ?_
        refine region_plain ?_
        refine lx_q (.int .i64 x85) S trivial (by decide) (q_move rfl) (fun a S => ?_)
        refine lx_q (.bool (decide (x85 < (0 : Int)))) S trivial (by decide) (q_lss rfl rfl) (fun a S => ?_)
        refine lx_nil ?_
        refine thenN ?_
        refine cond_b S rfl (fun hc88 => ?_) (fun hc88 => ?_)
        · have hm := ite_t hc88 hm
          refine wp_seq ?_
          refine region_plain ?_
          refine lx_q (.int .i64 (-1 : Int)) S trivial (by decide) (q_assign rfl) (fun a S => ?_)
          refine lx_nil ?_
          refine thenN ?_
          refine wp_ret ?_
          refine inBlock_ret ?_
          refine then_ret ?_
          refine then_ret ?_
          refine inBlock_ret ?_
          refine then_ret ?_
          refine then_ret ?_
          obtain rfl := it_brk hm hc74
          have hm := ctl_inr hk71
          obtain rfl := Option.some.inj hm
          exact leave1 S rfl rfl ⟨rfl, H⟩
        · have hm := ite_f hc88 hm
          refine wp_skip ?_
          refine inBlock_norm ?_
          refine thenN ?_
          refine region_plain ?_
          refine lx_q (.int .i64 x49) S trivial (by decide) (q_move rfl) (fun a S => ?_)
          refine lx_q (.int .i64 (W (x49 + (1 : Int)))) S trivial (by decide) (q_add rfl rfl) (fun a S => ?_)
          refine lx_q (.int .i64 (W (x49 + (1 : Int)))) S trivial (by decide) (q_assign rfl) (fun a S => ?_)
          refine lx_nil ?_
          exact ⟨m72, Nat.lt_succ_self _, x85, (W (x49 + (1 : Int))), S.sub ⟨rfl, rfl, rfl, trivial⟩, H, it_cont hm hc74⟩
      · have hm := ite_f hc75 hm
        refine wp_exit ?_
        refine then_exit ?_
        refine then_exit ?_
        refine inBlock_exit ?_
        obtain rfl := it_brk hm hc74
        exact ⟨x48, S.sub ⟨rfl, trivial⟩, H, rfl⟩

/-- laws.toInt64SS -/
def laws_toInt64SS_m (fuel : Nat) (a0 : (List (List Int))) : Option ((List (List Int))) :=
  (mks (a0.length : Int) []).bind fun x31 => (iter (fun (s : (List (List Int)) × (Int)) => (match s with | (xs57, x58) => (if (decide (x58 < (a0.length : Int))) = true then (idx a0 x58).bind fun x89 => (laws_toInt64S_m fuel x89).bind fun x98 => (idx xs57 x58).bind fun _ => some (.inl ((xs57.set x58.toNat x98), (W (x58 + (1 : Int))))) else some (.inr (.inl (xs57)))) : Option (((List (List Int)) × (Int)) ⊕ (((List (List Int))) ⊕ ((List (List Int))))))) fuel (x31, (0 : Int))).bind fun res80 => ctl (β := (List (List Int))) (ρ := (List (List Int))) (τ := (List (List Int))) res80 (fun (xs79) => some (xs79)) (fun q => some (q))
set_option maxRecDepth 20000 in
theorem laws_toInt64SS_ok {w0 : World} {fuel : Nat} {p0 : Value} {a0 : (List (List Int))} {r : (List (List Int))} (h0 : Rd (rList (rList (rInt .i64))) w0 p0 a0) (hm : laws_toInt64SS_m fuel a0 = some r) :
    Calls Try.prog 34 #[p0] w0 fun e w => ∃ (v0 : Value), e = .returned (v0) ∧ Heap w0 [oA (rList (rList (rInt .i64))) v0 r] w := by
  unfold laws_toInt64SS_m at hm
  have H := Heap.start w0
  refine enter (args := [p0]) Try.func34 rfl 23 rfl (Nat.le_of_ble_eq_true rfl) (fun a S => ?_)
  refine wp_seq ?_
  refine region_plain ?_
  refine lx_q (.slice none 0 0) S trivial (by decide) (q_assign rfl) (fun a S => ?_)
  refine lx_nil ?_
  refine thenN ?_
  refine wp_seq ?_
  refine region_plain ?_
  refine lx_q p0 S trivial (by decide) (q_move rfl) (fun a S => ?_)
  refine lx_q (.int .i64 (a0.length : Int)) S trivial (by decide) (q_lenSl rfl (h0).isSl rfl Try.underlying45) (fun a S => ?_)
  obtain ⟨x31, e32, hm⟩ := bind_some hm
  obtain ⟨m33, hn, hn2, rfl⟩ := mks_some e32
  refine lx_make (r := (rList (rInt .i64))) (z0 := []) (n := m33) S trivial (by decide) rfl H (by rw [← hn]; rfl) (by rw [← hn]; rfl) Try.underlying45 (Try.ti23) rfl rfl (by decide) (fun w => (oA_list.1 drop_nil_own)) hn2 (by decide) (fun v34 w35 H => ⟨trivial, fun a S => ?_⟩)
  refine lx_q v34 S trivial (by decide) (q_assign rfl) (fun a S => ?_)
  refine lx_nil ?_
  refine thenN ?_
  refine wp_seq ?_
  refine wp_seq ?_
  refine region_plain ?_
  refine lx_q (.int .i64 (0 : Int)) S trivial (by decide) (q_assign rfl) (fun a S => ?_)
  refine lx_nil ?_
  refine thenN ?_
  obtain ⟨res80, hit81, hk84⟩ := bind_some hm
  obtain ⟨f82, hf83, hit81⟩ := iter_name hit81
  refine block_loop (fun a w => ∃ (xs79 : List (List Int)), Slots a 23 [(3, v34)] ∧ Heap w0 [oA (rList (rList (rInt .i64))) v34 xs79] w ∧ res80 = .inl (xs79)) ?_ ?_
  · rintro a w ⟨xs79, S, H, rfl⟩
    have hm := ctl_inl hk84
    refine thenN ?_
    refine wp_seq ?_
    refine region_plain ?_
    refine lx_q v34 S trivial (by decide) (q_move rfl) (fun a S => ?_)
    refine lx_q v34 S trivial (by decide) (q_assign rfl) (fun a S => ?_)
    refine lx_nil ?_
    refine thenN ?_
    refine wp_ret ?_
    obtain rfl := Option.some.inj hm
    exact leave1 S rfl rfl ⟨v34, rfl, H⟩
  · skip
    refine loop_ghost (fun n a w => ∃ (xs57 : List (List Int)) (x58 : Int), Slots a 23 [(0, p0), (3, v34), (4, (.int .i64 x58))] ∧ Heap w0 [oA (rList (rList (rInt .i64))) v34 xs57] w ∧ iter f82 n (xs57, x58) = some res80) _ ⟨(List.replicate m33 []), (0 : Int), S.sub ⟨rfl, rfl, rfl, trivial⟩, H, hit81⟩ ?_
    rintro n a w ⟨xs57, x58, S, H, hit81⟩
    obtain ⟨m85, o86, rfl, hm, hc87⟩ := iter_step hit81
    rw [hf83] at hm
    refine wp_seq ?_
    refine wp_seq ?_
    refine region_plain ?_
    refine lx_q (.int .i64 x58) S trivial (by decide) (q_move rfl) (fun a S => ?_)
    refine lx_q p0 S trivial (by decide) (q_move rfl) (fun a S => ?_)
    refine lx_q (.int .i64 (a0.length : Int)) S trivial (by decide) (q_lenSl rfl (h0).isSl rfl Try.underlying45) (fun a S => ?_)
    refine lx_q (.bool (decide (x58 < (a0.length : Int)))) S trivial (by decide) (q_lss rfl rfl) (fun a S => ?_)
    refine lx_nil ?_
    refine thenN ?_
    refine cond_b S rfl (fun hc88 => ?_) (fun hc88 => ?_)
    · have hm := ite_t hc88 hm
      refine wp_skip ?_
      refine thenN ?_
      refine wp_seq ?_
      refine wp_block ?_
      refine region_plain ?_
      refine lx_q v34 S trivial (by decide) (q_move rfl) (fun a S => ?_)
      refine lx_q (.int .i64 x58) S trivial (by decide) (q_move rfl) (fun a S => ?_)
      refine lx_q p0 S trivial (by decide) (q_move rfl) (fun a S => ?_)
      refine lx_q (.int .i64 x58) S trivial (by decide) (q_move rfl) (fun a S => ?_)
      obtain ⟨x89, e90, hm⟩ := bind_some hm
      obtain ⟨c91, h92, hat93⟩ := (h0).elem (idx_some e90).2
      obtain ⟨v94, rfl, h95⟩ := rd_list h92
      have hlt := lt_of_idx (idx_some e90).2
      refine lx_q (ePtr p0 (x58.toNat * 1)) S trivial (by decide) (q_indexAddr rfl (h0).isSl rfl (idx_some e90).1 hlt Try.underlying45 Try.sizeOf23) (fun a S => ?_)
      refine lx_e v94 S trivial (by decide) rfl trivial (q_load1 rfl Try.isAgg23 (by rintro _ rfl; exact ((hat93 0 _ rfl).ext H.ext))) (fun a S => ?_)
      obtain ⟨x98, e99, hm⟩ := bind_some hm
      refine lx_call (xs := [.tmp 19]) S trivial (by decide) rfl rfl Try.call16 ((laws_toInt64S_ok (H.arg h95) e99).mono ?_)
      rintro e w96 ⟨v100, rfl, Hc97⟩
      have he102 := Hc97.ext
      have H := H.call1 Hc97
      refine ⟨_, rfl, trivial, fun a S => ?_⟩
      obtain ⟨x103, e104, hm⟩ := bind_some hm
      have hlt := lt_of_idx (idx_some e104).2
      refine lx_q (ePtr v34 (x58.toNat * 1)) S trivial (by decide) (q_indexAddr rfl (H.isSl 1 rfl) rfl (idx_some e104).1 hlt Try.underlying45 Try.sizeOf23) (fun a S => ?_)
      have hcl : Value.cells v100 = List.toArray [v100] := (cells_sl (H.isSl 0 rfl))
      have hon : ∀ c ∈ ([v100] : List Value), c.oneCell' = true := (List.forall_mem_cons.2 ⟨one_sl (H.isSl 0 rfl), (fun _ h => nomatch h)⟩)
      have H : Heap w0 [oA (rList (rList (rInt .i64))) v34 xs57, oA (rList (rInt .i64)) v100 x98] w96 := H.front 1 rfl
      refine lx_storeElem (r := (rList (rInt .i64))) (us := [v100]) (off := 0) (e' := x98) S trivial rfl H (by rw [pAdd_zero]; rfl) rfl (idx_some e104).2 hcl Try.sizeOf23 (Nat.le_of_ble_eq_true rfl) hon (Upd.full rfl (fun w G hG => oA_list.1 hG)) (fun w105 H => ⟨trivial, fun a S => ?_⟩)
      refine lx_nil ?_
      refine inBlock_norm ?_
      refine thenN ?_
      refine region_plain ?_
      refine lx_q (.int .i64 x58) S trivial (by decide) (q_move rfl) (fun a S => ?_)
      refine lx_q (.int .i64 (W (x58 + (1 : Int)))) S trivial (by decide) (q_add rfl rfl) (fun a S => ?_)
      refine lx_q (.int .i64 (W (x58 + (1 : Int)))) S trivial (by decide) (q_assign rfl) (fun a S => ?_)
      refine lx_nil ?_
      exact ⟨m85, Nat.lt_succ_self _, (xs57.set x58.toNat x98), (W (x58 + (1 : Int))), S.sub ⟨rfl, rfl, rfl, trivial⟩, H, it_cont hm hc87⟩
    · have hm := ite_f hc88 hm
      refine wp_exit ?_
      refine then_exit ?_
      refine then_exit ?_
      refine inBlock_exit ?_
      obtain rfl := it_brk hm hc87
      exact ⟨xs57, S.sub ⟨rfl, trivial⟩, H, rfl⟩

/-- spec.l23Bad -/
def spec_l23Bad_m (_ : Nat) (a0 : Int) (a1 : Int) : Option (Int) :=
  (if ((a1.tmod (2 : Int)) == a0) = true then some ((-1 : Int)) else some ((W (a1.tdiv (2 : Int)))))
set_option maxRecDepth 20000 in
theorem spec_l23Bad_ok {w0 : World} {fuel : Nat} {a0 : Int} {a1 : Int} {r : Int} (hm : spec_l23Bad_m fuel a0 a1 = some r) :
    Calls Try.prog 124 #[.int .i64 a0, .int .i64 a1] w0 fun e w => e = .returned (.int .i64 r) ∧ Heap w0 [] w := by
  unfold spec_l23Bad_m at hm
  have H := Heap.start w0
  refine enter (args := [.int .i64 a0, .int .i64 a1]) Try.func124 rfl 11 rfl (Nat.le_of_ble_eq_true rfl) (fun a S => ?_)
  refine wp_seq ?_
  refine region_plain ?_
  refine lx_q (.int .i64 (0 : Int)) S trivial (by decide) (q_assign rfl) (fun a S => ?_)
  refine lx_nil ?_
  refine thenN ?_
  refine wp_seq ?_
  refine wp_seq ?_
  refine region_plain ?_
  refine lx_q (.int .i64 a1) S trivial (by decide) (q_move rfl) (fun a S => ?_)
  refine lx_q (.int .i64 (a1.tmod (2 : Int))) S trivial (by decide) (q_rem rfl rfl (show (2 : Int) ≠ 0 from by decide)) (fun a S => ?_)
  refine lx_q (.int .i64 a0) S trivial (by decide) (q_move rfl) (fun a S => ?_)
  refine lx_q (.bool ((a1.tmod (2 : Int)) == a0)) S trivial (by decide) (q_eql rfl rfl) (fun a S => ?_)
  refine lx_nil ?_
  refine thenN ?_
  refine cond_b S rfl (fun hc31 => ?_) (fun hc31 => ?_)
  · have hm := ite_t hc31 hm
    refine wp_seq ?_
    refine region_plain ?_
    refine lx_q (.int .i64 (-1 : Int)) S trivial (by decide) (q_assign rfl) (fun a S => ?_)
    refine lx_nil ?_
    refine thenN ?_
    refine wp_ret ?_
    refine then_ret ?_
    obtain rfl := Option.some.inj hm
    exact leave1 S rfl rfl ⟨rfl, H⟩
  · have hm := ite_f hc31 hm
    refine wp_skip ?_
    refine thenN ?_
    refine wp_seq ?_
    refine region_plain ?_
    refine lx_q (.int .i64 a1) S trivial (by decide) (q_move rfl) (fun a S => ?_)
    refine lx_q (.int .i64 (W (a1.tdiv (2 : Int)))) S trivial (by decide) (q_quo rfl rfl (show (2 : Int) ≠ 0 from by decide)) (fun a S => ?_)
    refine lx_q (.int .i64 (W (a1.tdiv (2 : Int)))) S trivial (by decide) (q_assign rfl) (fun a S => ?_)
    refine lx_nil ?_
    refine thenN ?_
    refine wp_ret ?_
    obtain rfl := Option.some.inj hm
    exact leave1 S rfl rfl ⟨rfl, H⟩

/-- spec.l23Tops -/
def spec_l23Tops_m (fuel : Nat) (a0 : (List Timpl_Vertex)) (a1 : Int) : Option ((List Int)) :=
  (mks (5 : Int) (0 : Int)).bind fun x31 => (iter (fun (s : (List Int) × (Int)) => (match s with | (xs72, x73) => (if (decide (x73 < (a0.length : Int))) = true then join (κ := List Int → Option (((List Int) × (Int)) ⊕ (((List Int)) ⊕ ((List Int))))) (fun (xs119 : List Int) => some (.inl (xs119, (W (x73 + (1 : Int)))))) (fun K120 => (idx a0 x73).bind fun x122 => (spec_l23Bad_m fuel a1 x122.2.1).bind fun x139 => (if (decide ((0 : Int) ≤ x139)) = true then (idx xs72 x139).bind fun x143 => (idx xs72 x139).bind fun _ => (K120 (xs72.set x139.toNat (W (x143 + (1 : Int))))) else (K120 xs72))) else some (.inr (.inl (xs72)))) : Option (((List Int) × (Int)) ⊕ (((List Int)) ⊕ ((List Int)))))) fuel (x31, (0 : Int))).bind fun res110 => ctl (β := (List Int)) (ρ := (List Int)) (τ := (List Int)) res110 (fun (xs109) => some (xs109)) (fun q => some (q))
set_option maxRecDepth 20000 in
theorem spec_l23Tops_ok {w0 : World} {fuel : Nat} {p0 : Value} {a0 : (List Timpl_Vertex)} {a1 : Int} {r : (List Int)} (h0 : Rd (rList Rimpl_Vertex) w0 p0 a0) (hm : spec_l23Tops_m fuel a0 a1 = some r) :
    Calls Try.prog 79 #[p0, .int .i64 a1] w0 fun e w => ∃ (v0 : Value), e = .returned (v0) ∧ Heap w0 [oA (rList (rInt .i64)) v0 r] w := by
  unfold spec_l23Tops_m at hm
  have H := Heap.start w0
  refine enter (args := [p0, .int .i64 a1]) Try.func79 rfl 31 rfl (Nat.le_of_ble_eq_true rfl) (fun a S => ?_)
  refine wp_seq ?_
  refine region_plain ?_
  refine lx_q (.slice none 0 0) S trivial (by decide) (q_assign rfl) (fun a S => ?_)
  refine lx_nil ?_
  refine thenN ?_
  refine wp_seq ?_
  refine region_plain ?_
  obtain ⟨x31, e32, hm⟩ := bind_some hm
  obtain ⟨m33, hn, hn2, rfl⟩ := mks_some e32
  refine lx_make (r := (rInt .i64)) (z0 := (0 : Int)) (n := m33) S trivial (by decide) rfl H (by rw [← hn]; rfl) (by rw [← hn]; rfl) Try.underlying23 (Try.ti2) rfl rfl (by decide) (fun w => ⟨rfl, rfl⟩) hn2 (by decide) (fun v34 w35 H => ⟨trivial, fun a S => ?_⟩)
  refine lx_q v34 S trivial (by decide) (q_assign rfl) (fun a S => ?_)
  refine lx_nil ?_
  refine thenN ?_
  refine wp_seq ?_
  refine wp_seq ?_
  refine region_plain ?_
  refine lx_q (.int .i64 (0 : Int)) S trivial (by decide) (q_assign rfl) (fun a S => ?_)
  refine lx_nil ?_
  refine thenN ?_
  obtain ⟨res110, hit111, hk114⟩ := bind_some hm
  obtain ⟨f112, hf113, hit111⟩ := iter_name hit111
  refine block_loop (fun a w => ∃ (xs109 : List Int), Slots a 31 [(5, v34)] ∧ Heap w0 [oA (rList (rInt .i64)) v34 xs109] w ∧ res110 = .inl (xs109)) ?_ ?_
  · rintro a w ⟨xs109, S, H, rfl⟩
    have hm := ctl_inl hk114
    refine thenN ?_
    refine wp_seq ?_
    refine region_plain ?_
    refine lx_q v34 S trivial (by decide) (q_move rfl) (fun a S => ?_)
    refine lx_q v34 S trivial (by decide) (q_assign rfl) (fun a S => ?_)
    refine lx_nil ?_
    refine thenN ?_
    refine wp_ret ?_
    obtain rfl := Option.some.inj hm
    exact leave1 S rfl rfl ⟨v34, rfl, H⟩
  · skip
    refine loop_ghost (fun n a w => ∃ (xs72 : List Int) (x73 : Int), Slots a 31 [(0, p0), (1, (.int .i64 a1)), (5, v34), (6, (.int .i64 x73))] ∧ Heap w0 [oA (rList (rInt .i64)) v34 xs72] w ∧ iter f112 n (xs72, x73) = some res110) _ ⟨(List.replicate m33 (0 : Int)), (0 : Int), S.sub ⟨rfl, rfl, rfl, rfl, trivial⟩, H, hit111⟩ ?_
    rintro n a w ⟨xs72, x73, S, H, hit111⟩
    obtain ⟨m115, o116, rfl, hm, hc117⟩ := iter_step hit111
    rw [hf113] at hm
    refine wp_seq ?_
    refine wp_seq ?_
    refine region_plain ?_
    refine lx_q (.int .i64 x73) S trivial (by decide) (q_move rfl) (fun a S => ?_)
    refine lx_q p0 S trivial (by decide) (q_move rfl) (fun a S => ?_)
    refine lx_q (.int .i64 (a0.length : Int)) S trivial (by decide) (q_lenSl rfl (h0).isSl rfl Try.underlying26) (fun a S => ?_)
    refine lx_q (.bool (decide (x73 < (a0.length : Int)))) S trivial (by decide) (q_lss rfl rfl) (fun a S => ?_)
    refine lx_nil ?_
    refine thenN ?_
    refine cond_b S rfl (fun hc118 => ?_) (fun hc118 => ?_)
    · have hm := ite_t hc118 hm
      refine wp_skip ?_
      refine thenN ?_
      obtain ⟨K120, hK121, hm⟩ := join_elim hm
      refine seq_cut (fun a w => ∃ (xs119 : List Int), Slots a 31 [(0, p0), (1, (.int .i64 a1)), (5, v34), (6, (.int .i64 x73))] ∧ Heap w0 [oA (rList (rInt .i64)) v34 xs119] w ∧ K120 xs119 = some o116) ?_ ?_
      · rintro a w ⟨xs119, S, H, hm⟩
        subst hK121
        refine region_plain ?_
        refine lx_q (.int .i64 x73) S trivial (by decide) (q_move rfl) (fun a S => ?_)
        refine lx_q (.int .i64 (W (x73 + (1 : Int)))) S trivial (by decide) (q_add rfl rfl) (fun a S => ?_)
        refine lx_q (.int .i64 (W (x73 + (1 : Int)))) S trivial (by decide) (q_assign rfl) (fun a S => ?_)
        refine lx_nil ?_
        exact ⟨m115, Nat.lt_succ_self _, xs119, (W (x73 + (1 : Int))), S.sub ⟨rfl, rfl, rfl, rfl, trivial⟩, H, it_cont hm hc117⟩
      · skip
        refine wp_block ?_
        refine wp_seq ?_
        refine region_plain ?_
        refine lx_q (.int .i64 a1) S trivial (by decide) (q_move rfl) (fun a S => ?_)
        refine lx_q p0 S trivial (by decide) (q_move rfl) (fun a S => ?_)
        refine lx_q (.int .i64 x73) S trivial (by decide) (q_move rfl) (fun a S => ?_)
        obtain ⟨x122, e123, hm⟩ := bind_some hm
        obtain ⟨c124, h125, hat126⟩ := (h0).elem (idx_some e123).2
        obtain ⟨c129, c130, rfl, h131, h132⟩ := h125
        obtain rfl := h131
        obtain ⟨c133, c134, rfl, h135, h136⟩ := h132
        obtain rfl := h135
        obtain ⟨v127, rfl, h128⟩ := rd_list h136
        have hlt := lt_of_idx (idx_some e123).2
        refine lx_q (ePtr p0 (x73.toNat * 3)) S trivial (by decide) (q_indexAddr rfl (h0).isSl rfl (idx_some e123).1 hlt Try.underlying26 Try.sizeOf71) (fun a S => ?_)
        refine lx_q (pAdd (ePtr p0 (x73.toNat * 3)) 1) S trivial (by decide) (q_fieldAddr' 1 2 rfl ((hat126 0 _ rfl).isP) Try.underlying71 rfl Try.sizeOf2) (fun a S => ?_)
        refine lx_e (.int .i64 x122.2.1) S trivial (by decide) rfl trivial (q_load1 rfl Try.isAgg2 (by rintro _ rfl; exact (At.of_add (m := 1) (j := 0) ((hat126 1 _ rfl).ext H.ext)))) (fun a S => ?_)
        obtain ⟨x139, e140, hm⟩ := bind_some hm
        refine lx_call (xs := [.tmp 15, .tmp 20]) S trivial (by decide) rfl rfl Try.call124 ((spec_l23Bad_ok   e140).mono ?_)
        rintro e w137 ⟨rfl, Hc138⟩
        have he141 := Hc138.ext
        have H := H.call0 Hc138
        refine ⟨_, rfl, trivial, fun a S => ?_⟩
        refine lx_q (.int .i64 x139) S trivial (by decide) (q_assign rfl) (fun a S => ?_)
        refine lx_nil ?_
        refine thenN ?_
        refine wp_seq ?_
        refine region_plain ?_
        refine lx_q (.int .i64 x139) S trivial (by decide) (q_move rfl) (fun a S => ?_)
        refine lx_q (.bool (decide ((0 : Int) ≤ x139))) S trivial (by decide) (q_geq rfl rfl) (fun a S => ?_)
        refine lx_nil ?_
        refine thenN ?_
        refine cond_b S rfl (fun hc142 => ?_) (fun hc142 => ?_)
        · have hm := ite_t hc142 hm
          refine region_plain ?_
          refine lx_q v34 S trivial (by decide) (q_move rfl) (fun a S => ?_)
          refine lx_q (.int .i64 x139) S trivial (by decide) (q_move rfl) (fun a S => ?_)
          obtain ⟨x143, e144, hm⟩ := bind_some hm
          have hlt := lt_of_idx (idx_some e144).2
          refine lx_q (ePtr v34 (x139.toNat * 1)) S trivial (by decide) (q_indexAddr rfl (H.isSl 0 rfl) rfl (idx_some e144).1 hlt Try.underlying23 Try.sizeOf2) (fun a S => ?_)
          obtain ⟨c145, h146, hat147⟩ := (H.rdAt 0 rfl).elem (idx_some e144).2
          obtain rfl := h146
          refine lx_e (.int .i64 x143) S trivial (by decide) rfl trivial (q_load1 rfl Try.isAgg2 (by rintro _ rfl; exact (hat147 0 _ rfl))) (fun a S => ?_)
          refine lx_q (.int .i64 (W (x143 + (1 : Int)))) S trivial (by decide) (q_add rfl rfl) (fun a S => ?_)
          obtain ⟨x148, e149, hm⟩ := bind_some hm
          have hlt := lt_of_idx (idx_some e149).2
          refine lx_q (ePtr v34 (x139.toNat * 1)) S trivial (by decide) (q_indexAddr rfl (H.isSl 0 rfl) rfl (idx_some e149).1 hlt Try.underlying23 Try.sizeOf2) (fun a S => ?_)
          refine lx_storeElem (r := (rInt .i64)) (us := [(.int .i64 (W (x143 + (1 : Int))))]) (off := 0) (e' := (W (x143 + (1 : Int)))) S trivial rfl H.putE (by rw [pAdd_zero]; rfl) rfl (idx_some e149).2 rfl Try.sizeOf2 (Nat.le_of_ble_eq_true rfl) (List.forall_mem_cons.2 ⟨rfl, (fun _ h => nomatch h)⟩) (Upd.full rfl (fun w G hG => by cases (show G = [] from hG); exact ⟨rfl, rfl⟩)) (fun w150 H => ⟨trivial, fun a S => ?_⟩)
          refine lx_nil ?_
          refine inBlock_norm ?_
          exact ⟨(xs72.set x139.toNat (W (x143 + (1 : Int)))), S.sub ⟨rfl, rfl, rfl, rfl, trivial⟩, H, hm⟩
        · have hm := ite_f hc142 hm
          refine wp_skip ?_
          refine inBlock_norm ?_
          exact ⟨xs72, S.sub ⟨rfl, rfl, rfl, rfl, trivial⟩, H, hm⟩
    · have hm := ite_f hc118 hm
      refine wp_exit ?_
      refine then_exit ?_
      refine then_exit ?_
      refine inBlock_exit ?_
      obtain rfl := it_brk hm hc117
      exact ⟨xs72, S.sub ⟨rfl, trivial⟩, H, rfl⟩

/-- spec.l23Places -/
def spec_l23Places_m (_ : Nat) (a0 : Int) (a1 : Int) : Option (Int) :=
  (if (a0 == (0 : Int)) = true then some ((W ((W (a1 + (1 : Int))).tdiv (2 : Int)))) else some ((W ((W (a1.tdiv (2 : Int))) + (1 : Int)))))
set_option maxRecDepth 20000 in
theorem spec_l23Places_ok {w0 : World} {fuel : Nat} {a0 : Int} {a1 : Int} {r : Int} (hm : spec_l23Places_m fuel a0 a1 = some r) :
    Calls Try.prog 144 #[.int .i64 a0, .int .i64 a1] w0 fun e w => e = .returned (.int .i64 r) ∧ Heap w0 [] w := by
  unfold spec_l23Places_m at hm
  have H := Heap.start w0
  refine enter (args := [.int .i64 a0, .int .i64 a1]) Try.func144 rfl 13 rfl (Nat.le_of_ble_eq_true rfl) (fun a S => ?_)
  refine wp_seq ?_
  refine region_plain ?_
  refine lx_q (.int .i64 (0 : Int)) S trivial (by decide) (q_assign rfl) (fun a S => ?_)
  refine lx_nil ?_
  refine thenN ?_
  refine wp_seq ?_
  refine wp_seq ?_
  refine region_plain ?_
  refine lx_q (.int .i64 a0) S trivial (by decide) (q_move rfl) (fun a S => ?_)
  refine lx_q (.bool (a0 == (0 : Int))) S trivial (by decide) (q_eql rfl rfl) (fun a S => ?_)
  refine lx_nil ?_
  refine thenN ?_
  refine cond_b S rfl (fun hc31 => ?_) (fun hc31 => ?_)
  · have hm := ite_t hc31 hm
    refine wp_seq ?_
    refine region_plain ?_
    refine lx_q (.int .i64 a1) S trivial (by decide) (q_move rfl) (fun a S => ?_)
    refine lx_q (.int .i64 (W (a1 + (1 : Int)))) S trivial (by decide) (q_add rfl rfl) (fun a S => ?_)
    refine lx_q (.int .i64 (W ((W (a1 + (1 : Int))).tdiv (2 : Int)))) S trivial (by decide) (q_quo rfl rfl (show (2 : Int) ≠ 0 from by decide)) (fun a S => ?_)
    refine lx_q (.int .i64 (W ((W (a1 + (1 : Int))).tdiv (2 : Int)))) S trivial (by decide) (q_assign rfl) (fun a S => ?_)
    refine lx_nil ?_
    refine thenN ?_
    refine wp_ret ?_
    refine then_ret ?_
    obtain rfl := Option.some.inj hm
    exact leave1 S rfl rfl ⟨rfl, H⟩
  · have hm := ite_f hc31 hm
    refine wp_skip ?_
    refine thenN ?_
    refine wp_seq ?_
    refine region_plain ?_
    refine lx_q (.int .i64 a1) S trivial (by decide) (q_move rfl) (fun a S => ?_)
    refine lx_q (.int .i64 (W (a1.tdiv (2 : Int)))) S trivial (by decide) (q_quo rfl rfl (show (2 : Int) ≠ 0 from by decide)) (fun a S => ?_)
    refine lx_q (.int .i64 (W ((W (a1.tdiv (2 : Int))) + (1 : Int)))) S trivial (by decide) (q_add rfl rfl) (fun a S => ?_)
    refine lx_q (.int .i64 (W ((W (a1.tdiv (2 : Int))) + (1 : Int)))) S trivial (by decide) (q_assign rfl) (fun a S => ?_)
    refine lx_nil ?_
    refine thenN ?_
    refine wp_ret ?_
    obtain rfl := Option.some.inj hm
    exact leave1 S rfl rfl ⟨rfl, H⟩
end Go.Proofs.Ytecknjdlbmmmiaa
