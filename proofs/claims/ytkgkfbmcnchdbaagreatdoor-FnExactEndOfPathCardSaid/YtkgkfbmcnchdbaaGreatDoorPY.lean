/-
  Systems in plain words: the program's check.
-/
import Derived.Test.YtkgkfbmcnchdbaaGreatDoorF0
import Derived.Test.YtkgkfbmcnchdbaaGreatDoorF3
import Derived.Test.YtkgkfbmcnchdbaaGreatDoorGxP
import Derived.Test.YtkgkfbmcnchdbaaGreatDoorGxU
import Derived.Test.YtkgkfbmcnchdbaaGreatDoorGxZ
import Derived.Test.YtkgkfbmcnchdbaaGreatDoorP1
import Derived.Test.YtkgkfbmcnchdbaaGreatDoorPX
namespace Go.Proofs.YtkgkfbmcnchdbaaGreatDoor
open Go.Gx

theorem valid_impl {t : Timpl_Lts} (hl : t.2.2.1.length ≤ 1048576) (hs : ∀ s ∈ t.2.2.1, s.length ≤ 1048576) (he : t.2.2.2.length ≤ 1048576) : Ev (fun m => impl_ValidLts_m m t) (validP t) := by
  have hm := mx
  unfold impl_ValidLts_m validP
  simp only [within_eq, isState_m, index_eq, Option.bind_some]
  cases h1 : inn t.1 1 40
  · unfold inn at h1
    exact Ev.eq (r := false) (Ev.const' fun m => by simp only [h1, Bool.not_false, if_true, Option.bind_some]) rfl
  · unfold inn at h1
    cases h2 : inn t.2.1 0 (W (t.1 - 1))
    · exact Ev.eq (r := false) (Ev.const' fun m => by simp only [h1, Bool.not_false, Bool.not_true, Bool.false_eq_true, if_true, if_false, Option.bind_some]) rfl
    · simp only [h1, Bool.not_true, Bool.false_eq_true, if_false, Option.bind_some, Bool.true_and]
      by_cases h3 : 1 ≤ t.2.2.1.length ∧ t.2.2.1.length ≤ 12
      · have e3 : (decide ((1 : Int) ≤ (t.2.2.1.length : Int)) && decide ((t.2.2.1.length : Int) ≤ 12)) = true := by
          rw [decide_eq_true (by omega : (1 : Int) ≤ (t.2.2.1.length : Int)), decide_eq_true (by omega : (t.2.2.1.length : Int) ≤ 12)]; rfl
        simp only [e3, Bool.not_true, Bool.false_eq_true, if_false, Option.bind_some]
        unfold edgesP
        by_cases h4 : 300 < t.2.2.2.length
        · rw [decide_eq_false (show ¬ t.2.2.2.length ≤ 300 by omega), Bool.false_and, Bool.and_false]
          exact Ev.ite_t (decide_eq_true (by omega)) (Ev.pure _)
        · rw [decide_eq_true (show t.2.2.2.length ≤ 300 by omega), Bool.true_and]
          refine Ev.ite_f (by simp; omega) ?_
          have hlab : labsP t.2.2.1 = decide (∀ k, k < t.2.2.1.length → okL t.2.2.1 k = true) := by
            unfold labsP
            rw [decide_eq_true h3.1, decide_eq_true h3.2]; rfl
          rw [hlab]
          have cond : ∀ k s, k < t.2.2.1.length → t.2.2.1[k]? = some s → Ev (fun m => (impl_IsLabel_m m s).bind fun x357 => (if (!x357) = true then some true else some ((s == ([116, 97, 117] : Str)) != ((k : Int) == (0 : Int)))).bind fun t360 => (if t360 = true then some true else (if (decide ((1 : Int) < (k : Int))) = true then (idx t.2.2.1 (W ((k : Int) - (1 : Int)))).bind fun x369 => some (Op.bytesLess s x369 || s == x369) else some false).bind fun t366 => some t366).bind fun t363 => (if t363 = true then some (.inr (.inr false)) else some (.inl ((W ((k : Int) + (1 : Int))))) : Option (Int ⊕ (Unit ⊕ Bool)))) (if okL t.2.2.1 k = true then .inl ((k + 1 : Nat) : Int) else .inr (.inr false)) := by
            intro k s hk hs'
            refine Ev.bind (label_impl (hs s (List.mem_of_getElem? hs'))) (Ev.const ?_)
            have e : ∀ (c : Bool) (x y : Int ⊕ (Unit ⊕ Bool)), some (if c = true then x else y) = some (if (!c) = true then y else x) := by intro c x y; cases c <;> rfl
            unfold okL condX
            rw [hs']
            cases k with
            | zero =>
              simp only [Option.bind_some, or_some, show decide ((1 : Int) < ((0 : Nat) : Int)) = false from rfl, Bool.false_eq_true, if_false, W_succ hk (by omega), Bool.false_and, Bool.or_false]
              rw [ite_some, e]
              rfl
            | succ j =>
              obtain ⟨p, hp⟩ := get_lt (xs := t.2.2.1) (k := j) (by omega)
              have w2 := W_pred (k := j) (n := t.2.2.1.length) (by omega) (by omega)
              simp only [hp, w2, idx_at hp, Option.bind_some, or_some, and_some, W_succ hk (by omega), Nat.add_sub_cancel, bl_le]
              rw [ite_some, e, Bool.or_assoc]
              rfl
          refine Ev.bind (EvI.all t.2.2.1.length (okL t.2.2.1) false (fun k hk hok => ?_) (fun k hk hok => ?_) (Ev.ite_f (by simp) (Ev.pure _))).ev ?_
          · obtain ⟨s, hs'⟩ := get_lt hk
            have hk' : decide ((k : Int) < (t.2.2.1.length : Int)) = true := by simpa using hk
            exact Ev.ite_t hk' (Ev.bindc (idx_at hs') ((cond k s hk hs').eq (by rw [hok]; rfl)))
          · obtain ⟨s, hs'⟩ := get_lt hk
            have hk' : decide ((k : Int) < (t.2.2.1.length : Int)) = true := by simpa using hk
            exact Ev.ite_t hk' (Ev.bindc (idx_at hs') ((cond k s hk hs').eq (by rw [hok]; rfl)))
          · by_cases h5 : ∀ k, k < t.2.2.1.length → okL t.2.2.1 k = true
            · rw [if_pos h5, decide_eq_true h5, Bool.true_and]
              have c3 : ∀ k e, k < t.2.2.2.length → t.2.2.2[k]? = some e → Ev (fun m => (if (decide ((0 : Int) < (k : Int))) = true then (idx t.2.2.2 (W ((k : Int) - (1 : Int)))).bind fun x327 => (impl_compareEdges_m m (x327.1, x327.2.1, x327.2.2) (e.1, e.2.1, e.2.2)).bind fun x342 => some (decide ((0 : Int) ≤ x342)) else some false)) (decide ((0 : Int) < (k : Int)) && (match t.2.2.2[k - 1]? with | none => false | some p => !edgeLess p e)) := by
                intro k e hk he'
                cases k with
                | zero => exact Ev.const' fun m => rfl
                | succ j =>
                  obtain ⟨p, hp⟩ := get_lt (xs := t.2.2.2) (k := j) (by omega)
                  have hpos : decide ((0 : Int) < ((j + 1 : Nat) : Int)) = true := decide_eq_true (by omega)
                  obtain ⟨r, hr1, hr2⟩ := edges_cmp p e
                  rw [W_pred (k := j) (n := t.2.2.2.length) (by omega) (by omega), Nat.add_sub_cancel, hp, hpos, Bool.true_and]
                  exact Ev.ite_t rfl (Ev.bindc (idx_at hp) (Ev.bind hr1 (Ev.const (by rw [hr2]))))
              refine (Ev.all t.2.2.2.length (fun k => !condE (W (t.1 - 1)) (W ((t.2.2.1.length : Int) - 1)) t.2.2.2 k) false true (fun k hk hok => ?_) (fun k hk hok => ?_) (Ev.ite_f (by simp) (Ev.pure _))).eq (by split <;> simp_all)
              all_goals
                obtain ⟨e, he'⟩ := get_lt hk
                have hk' : decide ((k : Int) < (t.2.2.2.length : Int)) = true := by simpa using hk
              · have hc : condE (W (t.1 - 1)) (W ((t.2.2.1.length : Int) - 1)) t.2.2.2 k = false := by rwa [Bool.not_eq_true'] at hok
                unfold condE at hc
                rw [he'] at hc
                simp only [Bool.or_eq_false_iff] at hc
                obtain ⟨⟨g1, g2⟩, g3, g4⟩ := hc
                have c := (c3 k e hk he').eq g4
                unfold inn at g3
                refine Ev.ite_t hk' (Ev.bindc (idx_at he') (Ev.bindc (a := false) ?_ (Ev.bindc (a := false) ?_ (Ev.bind (a := false) (Ev.ite_f (by simp) (Ev.bind c (Ev.pure _))) (Ev.ite_f (by simp) (Ev.const ?_))))))
                · simp only [g1, g2, Bool.false_eq_true, if_false]
                · simp only [g3, Bool.false_eq_true, if_false]
                · rw [W_succ hk (by omega)]
              · have hc : condE (W (t.1 - 1)) (W ((t.2.2.1.length : Int) - 1)) t.2.2.2 k = true := by rwa [Bool.not_eq_false'] at hok
                unfold condE at hc
                rw [he'] at hc
                have c := c3 k e hk he'
                refine Ev.ite_t hk' (Ev.bindc (idx_at he') (Ev.bindc (a := (!inn e.1 0 (W (t.1 - 1)) || !inn e.2.2 0 (W (t.1 - 1)))) (by rw [or_some]) (Ev.bindc (a := ((!inn e.1 0 (W (t.1 - 1)) || !inn e.2.2 0 (W (t.1 - 1))) || !inn e.2.1 0 (W ((t.2.2.1.length : Int) - 1)))) (by rw [or_some]; rfl) ?_)))
                refine Ev.bind (a := true) ?_ (Ev.ite_t rfl (Ev.pure _))
                cases ha : ((!inn e.1 0 (W (t.1 - 1)) || !inn e.2.2 0 (W (t.1 - 1))) || !inn e.2.1 0 (W ((t.2.2.1.length : Int) - 1)))
                · refine Ev.ite_f (by simp) (Ev.bind c (Ev.const ?_))
                  have hc' : ((!inn e.1 0 (W (t.1 - 1)) || !inn e.2.2 0 (W (t.1 - 1))) || (!inn e.2.1 0 (W ((t.2.2.1.length : Int) - 1)) || (decide ((0 : Int) < (k : Int)) && (match t.2.2.2[k - 1]? with | none => false | some p => !edgeLess p e)))) = true := hc
                  rw [← Bool.or_assoc, ha, Bool.false_or] at hc'
                  rw [hc']
                · exact Ev.ite_t rfl (Ev.pure _)
            · rw [if_neg h5, decide_eq_false h5, Bool.false_and]
              exact Ev.const' fun m => rfl
      · have e3 : (decide ((1 : Int) ≤ (t.2.2.1.length : Int)) && decide ((t.2.2.1.length : Int) ≤ 12)) = false := by
          apply Bool.eq_false_iff.2
          intro h
          rw [Bool.and_eq_true] at h
          exact h3 ⟨by have := of_decide_eq_true h.1; omega, by have := of_decide_eq_true h.2; omega⟩
        have hlab : labsP t.2.2.1 = false := by
          unfold labsP
          apply Bool.eq_false_iff.2
          intro h
          rw [Bool.and_eq_true, Bool.and_eq_true] at h
          exact h3 ⟨of_decide_eq_true h.1.1, of_decide_eq_true h.1.2⟩
        rw [hlab, Bool.false_and]
        exact Ev.const' fun m => by simp only [e3, Bool.not_false, if_true, Option.bind_some]
end Go.Proofs.YtkgkfbmcnchdbaaGreatDoor
