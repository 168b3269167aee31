/-
  Statement 10 in plain words: what is decided by the terms alone.
-/
import Derived.Test.YtecknjdlbmmmiaaF0
import Derived.Test.YtecknjdlbmmmiaaF6
import Derived.Test.YtecknjdlbmmmiaaLDecidedEquations
import Derived.Test.YtecknjdlbmmmiaaP3
import Derived.Test.YtecknjdlbmmmiaaP9
namespace Go.Proofs.Ytecknjdlbmmmiaa
open Go.Gx

theorem any_ints {a : List Int} (hl : a.length ≤ maxLen) {f : Nat → Int → Option Bool} {p : Int → Bool} (hf : ∀ x ∈ a, Ev (fun m => f m x) (p x)) : Ev (fun m => slices_ContainsFunc__int64_int64_m m a (f m)) (a.any p) :=
  Ev.eq (contains_loop hl (f := f) (ok := fun x => !(p x)) (fun x hx => by simpa using hf x hx)) (by rw [List.any_eq_not_all_not])

def atI (v : List Int) (t : Int) : Int := (idx v t).getD 0
def ownE (x : Timpl_Equation) : Int := if x.2.1 = true then 1 else 0
def decOne (v : List Int) (x : Timpl_Equation) : Int := if (x.2.2.any fun t => atI v t == 1 - ownE x) = true then 1 - ownE x else if (x.2.2.any fun t => atI v t != ownE x) = true then -1 else ownE x
def pstep (a : List Timpl_Equation) (i : Nat) (s : List Int × Bool) : List Int × Bool := match a[i]?, s.1[i]? with
  | some x, some y => if 0 ≤ y then s else if 0 ≤ decOne s.1 x then (s.1.set i (decOne s.1 x), true) else s
  | _, _ => s
def pass (a : List Timpl_Equation) (v : List Int) : List Int × Bool := upfold (pstep a) a.length (v, false)
def okV (a : List Timpl_Equation) (v : List Int) : Prop := v.length = a.length ∧ ∀ y ∈ v, y = -1 ∨ y = 0 ∨ y = 1

theorem decOne_range (v : List Int) (x : Timpl_Equation) : decOne v x = -1 ∨ decOne v x = 0 ∨ decOne v x = 1 := by
  unfold decOne ownE
  repeat' split
  all_goals simp
theorem okV_step {a : List Timpl_Equation} {i : Nat} {s : List Int × Bool} (h : okV a s.1) : okV a (pstep a i s).1 := by
  unfold pstep
  repeat' split
  all_goals first
    | exact h
    | refine ⟨by simpa using h.1, fun y hy => ?_⟩
      rcases List.mem_or_eq_of_mem_set hy with hy | rfl
      · exact h.2 y hy
      · exact decOne_range _ _
theorem okV_pass {a : List Timpl_Equation} {v : List Int} (h : okV a v) : okV a (pass a v).1 := upfold_inv (fun (s : List Int × Bool) => okV a s.1) a.length h fun i s _ hs => okV_step hs

def negs (v : List Int) : Nat := v.countP fun y => decide (y < 0)
theorem negs_set {v : List Int} {i : Nat} {y d : Int} (hi : v[i]? = some y) (hy : y < 0) (hd : 0 ≤ d) : negs (v.set i d) < negs v := by
  unfold negs
  obtain ⟨hlt, rfl⟩ := List.getElem?_eq_some_iff.1 hi
  rw [List.countP_set hlt]
  have hpos : 0 < v.countP (fun y => decide (y < 0)) := List.countP_pos_iff.2 ⟨v[i], List.getElem_mem hlt, by simpa using hy⟩
  simp [hy, show ¬ d < 0 by omega]
  omega
theorem negs_pass {a : List Timpl_Equation} {v : List Int} : negs (pass a v).1 ≤ negs v ∧ ((pass a v).2 = true → negs (pass a v).1 < negs v) := by
  refine upfold_inv (fun (s : List Int × Bool) => negs s.1 ≤ negs v ∧ (s.2 = true → negs s.1 < negs v)) a.length ⟨Nat.le_refl _, fun h => by cases h⟩ fun i s _ ⟨h1, h2⟩ => ?_
  unfold pstep
  repeat' split
  all_goals first
    | exact ⟨h1, h2⟩
    | rename_i x y _ hy hny hd
      have := negs_set hy (by omega) hd
      exact ⟨by show negs (s.1.set i _) ≤ _; omega, fun _ => by show negs (s.1.set i _) < _; omega⟩

/-- The place of a term. -/
theorem term_i {a : List Timpl_Equation} (hv : validE a = true) {v : List Int} (hl : v.length = a.length) {x : Timpl_Equation} (hx : x ∈ a) {t : Int} (ht : t ∈ x.2.2) : idx v t = some (atI v t) ∧ atI v t ∈ v := by
  obtain ⟨y, h1, h2⟩ := term_at hv (v := List.replicate a.length true) (by simp) hx ht
  have h3 : 0 ≤ t ∧ t.toNat < a.length := ⟨(idx_some h1).1, by have := (List.getElem?_eq_some_iff.1 h2).1; simpa using this⟩
  have h4 : idx v t = some v[t.toNat] := by
    unfold idx
    rw [if_pos h3.1, List.getElem?_eq_getElem (by omega)]
  unfold atI
  rw [h4]
  exact ⟨rfl, List.getElem_mem _⟩

/-- What the reference's inner loop finds. -/
theorem dec_spec {R : Type} {v : List Int} {x : Timpl_Equation} (hl : x.2.2.length ≤ 1048576) (ht : ∀ t ∈ x.2.2, idx v t = some (atI v t)) (hr : ∀ t ∈ x.2.2, atI v t = -1 ∨ atI v t = 0 ∨ atI v t = 1) :
    EvI (β := Int ⊕ R) (fun _ (s : (Int) × (Int)) => if decide (s.2 < (x.2.2.length : Int)) = true then (idx x.2.2 s.2).bind fun t => (idx v t).bind fun d => (if (d == (1 - ownE x)) = true then some (.inl (1 - ownE x, W (s.2 + 1))) else (if decide (d < 0) = true then some (s.1 != (1 - ownE x)) else some false).bind fun t1907 => (if t1907 = true then some (.inl (-1, W (s.2 + 1))) else some (.inl (s.1, W (s.2 + 1))))) else some (.inr (.inl s.1))) (ownE x, 0) (.inl (decOne v x)) := by
  let now : Nat → Int := fun k => if ((x.2.2.take k).any fun t => atI v t == 1 - ownE x) = true then 1 - ownE x else if ((x.2.2.take k).any fun t => atI v t != ownE x) = true then -1 else ownE x
  have ho : ownE x = 0 ∨ ownE x = 1 := by unfold ownE; split <;> simp
  refine EvI.upto x.2.2.length (fun k (_ : Unit) => (now k, (k : Int))) (fun _ _ => True) (k := 0) (t := ()) (by simp [now]) (Nat.zero_le _) trivial (fun k t hk _ => ⟨(), Ev.const ?_, trivial⟩) (fun t _ => Ev.const ?_)
  · obtain ⟨t, htk⟩ := get_lt hk
    have hm := List.mem_of_getElem? htk
    have hr' := hr t hm
    simp only [Option.bind_some, decide_eq_true (show (k : Int) < (x.2.2.length : Int) by omega), if_true, idx_at htk, ht t hm, W_succ hk (show x.2.2.length ≤ 9223372036854775807 by omega)]
    have hnow : now (k + 1) = if atI v t = 1 - ownE x then 1 - ownE x else if atI v t < 0 ∧ now k ≠ 1 - ownE x then -1 else now k := by
      have e : now (k + 1) = if (((x.2.2.take k).any fun t => atI v t == 1 - ownE x) || (atI v t == 1 - ownE x)) = true then 1 - ownE x else if (((x.2.2.take k).any fun t => atI v t != ownE x) || (atI v t != ownE x)) = true then -1 else ownE x := by
        simp only [now, List.take_add_one, htk, Option.toList_some, List.any_append, List.any_cons, List.any_nil, Bool.or_false]
      rw [e]
      simp only [now]
      generalize ((x.2.2.take k).any fun t => atI v t == 1 - ownE x) = A
      generalize ((x.2.2.take k).any fun t => atI v t != ownE x) = B
      generalize atI v t = d at hr'
      generalize ownE x = w at ho
      rcases ho with rfl | rfl <;> rcases hr' with rfl | rfl | rfl <;> cases A <;> cases B <;> simp
    rw [hnow]
    by_cases d1 : atI v t = 1 - ownE x
    · simp [d1]
    · by_cases d2 : atI v t < 0
      · by_cases d3 : now k = 1 - ownE x
        · simp [d1, d2, d3]
        · simp [d1, d2, d3]
      · simp [d1, d2]
  · simp [now, decOne]

theorem dec_core {a : List Timpl_Equation} (B : a.length ≤ 1048576 ∧ ∀ x ∈ a, x.2.2.length ≤ 1048576) :
    ∃ r, Ev (fun m => spec_DecidedEquations_m m a) r ∧ Ev (fun m => impl_DecidedEquations_m m a) r ∧ r.1.length ≤ 1048576 := by
  obtain ⟨hl, g⟩ := B
  have hm : maxLen = 9223372036854775807 := by unfold maxLen; rfl
  unfold spec_DecidedEquations_m impl_DecidedEquations_m
  cases hv : validE a with
  | false =>
    refine ⟨([], 1), Ev.bind (l22Is_law hl g) ?_, Ev.bind (validE_impl hl g) ?_, Nat.zero_le _⟩ <;> rw [hv] <;> exact Ev.ite_t rfl (Ev.pure _)
  | true =>
  have hn : a.length ≤ 120 := (validE_wf hv).2
  have h0 : okV a (List.replicate a.length (-1)) := ⟨by simp, fun y hy => .inl (List.eq_of_mem_replicate hy)⟩
  obtain ⟨r, hr, hk⟩ := EvI.until (pass a) (okV a) negs (fun _ => okV_pass) (fun _ _ h => negs_pass.2 h) h0
  have facts : ∀ {s : List Int} (x : Timpl_Equation), okV a s → x ∈ a → (∀ t ∈ x.2.2, idx s t = some (atI s t)) ∧ (∀ t ∈ x.2.2, atI s t = -1 ∨ atI s t = 0 ∨ atI s t = 1) := fun x hs hx =>
    ⟨fun t ht => (term_i hv hs.1 hx ht).1, fun t ht => hs.2 _ (term_i hv hs.1 hx ht).2⟩
  refine ⟨(r, 0), Ev.bind (l22Is_law hl g) ?_, Ev.bind (validE_impl hl g) ?_, by have := hr.1; show r.length ≤ _; omega⟩ <;> rw [hv]
  · refine Ev.ite_f (by simp) (Ev.bind (a := Sum.inl (List.replicate a.length (-1))) (EvI.ev ?_) (Ev.bind (hk (step := _) (fun s hs => ?_) (fun s hs => ?_)).ev (Ev.pure _)))
    · refine EvI.upto a.length (fun k (_ : Unit) => (List.replicate k (-1), (k : Int))) (fun _ _ => True) (k := 0) (t := ()) rfl (Nat.zero_le _) trivial (fun k t hk _ => ⟨(), Ev.const ?_, trivial⟩) (fun t _ => Ev.const (by simp))
      simp only [decide_eq_true (show (k : Int) < (a.length : Int) by omega), if_true, app_ok (show (List.replicate k (-1 : Int)).length + [(-1 : Int)].length ≤ 1099511627776 by simp; omega), Option.bind_some, W_succ hk (show a.length ≤ 9223372036854775807 by omega), List.replicate_succ']
    · refine Ev.ite_t rfl (Ev.bind (a := Sum.inl ((pass a s).1, (pass a s).2)) (EvI.fold (τ := List Int × Bool) (step := _) a.length (fun s i => (s.1, s.2, (i : Int))) (pstep a) (fun s => okV a s.1) (fun s => Sum.inl (s.1, s.2)) (s0 := (s, false)) rfl rfl hs (fun i s _ h => okV_step h) (fun i s hi h => ?_) (fun s h => Ev.ite_f (by simp) (Ev.pure _))).ev (Ev.pure _))
      obtain ⟨x, hx⟩ := get_lt hi
      obtain ⟨y, hy⟩ := get_lt (xs := s.1) (k := i) (by rw [h.1]; exact hi)
      obtain ⟨f1, f2⟩ := facts x h (List.mem_of_getElem? hx)
      have hd := decOne_range s.1 x
      refine Ev.ite_t (decide_eq_true (by omega)) ?_
      simp only [join, idx_at hx, idx_at hy, Option.bind_some, pstep, hx, hy, W_succ hi (show a.length ≤ 9223372036854775807 by omega)]
      by_cases hy0 : 0 ≤ y
      · exact Ev.const' fun m => by simp [hy0]
      · refine Ev.ite_f (by simpa using hy0) ?_
        rw [if_neg hy0]
        have key := (dec_spec (R := List Int × Int) (v := s.1) (g x (List.mem_of_getElem? hx)) f1 f2).ev
        have ho : (if x.2.1 = true then (1 : Int) else 0) = ownE x := rfl
        cases hb : x.2.1 with
        | true =>
          have e1 : ownE x = 1 := by simp [ownE, hb]
          have e2 : 1 - ownE x = 0 := by omega
          rw [e2, e1] at key
          refine Ev.ite_t rfl (Ev.bind key (Ev.const ?_))
          simp only [ctl]
          by_cases hd0 : 0 ≤ decOne s.1 x
          · simp [hd0]
          · simp [hd0]
        | false =>
          have e1 : ownE x = 0 := by simp [ownE, hb]
          have e2 : 1 - ownE x = 1 := by omega
          rw [e2, e1] at key
          refine Ev.ite_f (by simp) (Ev.bind key (Ev.const ?_))
          simp only [ctl]
          by_cases hd0 : 0 ≤ decOne s.1 x
          · simp [hd0]
          · simp [hd0]
    · exact Ev.ite_f (by simp) (Ev.pure _)
  · refine Ev.ite_f (by simp) (Ev.bind (repeat_ints hl) (Ev.bind (hk (step := _) (fun s hs => ?_) (fun s hs => ?_)).ev (Ev.pure _)))
    · refine Ev.ite_t rfl (Ev.bind (a := Sum.inl ((pass a s).1, (pass a s).2)) (EvI.fold (τ := List Int × Bool) (step := _) a.length (fun s i => (s.1, s.2, (i : Int))) (pstep a) (fun s => okV a s.1) (fun s => Sum.inl (s.1, s.2)) (s0 := (s, false)) rfl rfl hs (fun i s _ h => okV_step h) (fun i s hi h => ?_) (fun s h => Ev.ite_f (by simp) (Ev.pure _))).ev (Ev.pure _))
      obtain ⟨x, hx⟩ := get_lt hi
      obtain ⟨y, hy⟩ := get_lt (xs := s.1) (k := i) (by rw [h.1]; exact hi)
      obtain ⟨f1, f2⟩ := facts x h (List.mem_of_getElem? hx)
      have hxl := g x (List.mem_of_getElem? hx)
      have ho : ownE x = 0 ∨ ownE x = 1 := by unfold ownE; split <;> simp
      have hw : W (1 - ownE x) = 1 - ownE x := W_of (by omega) (by omega)
      refine Ev.ite_t (decide_eq_true (by omega)) ?_
      simp only [join, idx_at hx, idx_at hy, Option.bind_some, pstep, hx, hy, W_succ hi (show a.length ≤ 9223372036854775807 by omega), truth_eq]
      by_cases hy0 : 0 ≤ y
      · exact Ev.const' fun m => by simp [hy0]
      · refine Ev.ite_f (by simpa using hy0) ?_
        rw [if_neg hy0]
        have c1 := any_ints (a := x.2.2) (by omega) (f := fun m z0 => impl_DecidedEquations_1_m m z0 s.1 (ownE x)) (p := fun t => atI s.1 t == 1 - ownE x) (fun t ht => Ev.const' fun m => by unfold impl_DecidedEquations_1_m; rw [f1 t ht, hw]; rfl)
        have c2 := any_ints (a := x.2.2) (by omega) (f := fun m z0 => impl_DecidedEquations_2_m m z0 s.1 (ownE x)) (p := fun t => atI s.1 t != ownE x) (fun t ht => Ev.const' fun m => by unfold impl_DecidedEquations_2_m; rw [f1 t ht]; rfl)
        refine c1.use2 c2 fun m h1 h2 => ?_
        have ho' : (if x.2.1 = true then (1 : Int) else 0) = ownE x := rfl
        simp only [ho', h1, h2, Option.bind_some, hw, decOne, Int.toNat_natCast]
        have hA : (x.2.2.any fun t => atI s.1 t == 1 - ownE x) = true ∨ (x.2.2.any fun t => atI s.1 t == 1 - ownE x) = false := by cases (x.2.2.any fun t => atI s.1 t == 1 - ownE x) <;> simp
        have hB : (x.2.2.any fun t => atI s.1 t != ownE x) = true ∨ (x.2.2.any fun t => atI s.1 t != ownE x) = false := by cases (x.2.2.any fun t => atI s.1 t != ownE x) <;> simp
        rcases hA with hA | hA <;> rcases hB with hB | hB <;> simp only [hA, hB, if_true, Bool.false_eq_true, if_false, Bool.not_true, Bool.not_false] <;> clear h1 h2 hA hB c1 c2 <;> rcases ho with e | e <;> simp [e]
    · exact Ev.ite_f (by simp) (Ev.pure _)
end Go.Proofs.Ytecknjdlbmmmiaa
