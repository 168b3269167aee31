/-
  The plain laws of a statement, joined into one text.
-/
import Derived.Test.YtepcckhcocjgaaaGreatDoorF0
import Derived.Test.YtepcckhcocjgaaaGreatDoorF1
import Derived.Test.YtepcckhcocjgaaaGreatDoorF2
import Derived.Test.YtepcckhcocjgaaaGreatDoorFS
import Derived.Test.YtepcckhcocjgaaaGreatDoorGxP
import Derived.Test.YtepcckhcocjgaaaGreatDoorGxU
import Derived.Test.YtepcckhcocjgaaaGreatDoorGxZ
import Derived.Test.YtepcckhcocjgaaaGreatDoorLReadEquations
namespace Go.Proofs.YtepcckhcocjgaaaGreatDoor
open Go.Gx
theorem eq_ints {a : List Int} (hl : a.length ≤ maxLen) : Ev (fun n => laws_eqInt64S_m n a a) true := eq_loop_ints hl
theorem eq_eqn {x : Timpl_Equation} (hl : x.2.2.length ≤ maxLen) : Ev (fun n => laws_eqEquation_m n x x) true :=
  Ev.ite_f (by simp) (Ev.ite_f (by simp) (Ev.bind (eq_ints hl) (Ev.ite_f (by simp) (Ev.pure _))))
theorem eq_eqns {a : List Timpl_Equation} (hl : a.length ≤ maxLen) (h : ∀ x ∈ a, x.2.2.length ≤ maxLen) : Ev (fun n => laws_eqEquationS_m n a a) true :=
  eq_loop (eq := fun n x y => laws_eqEquation_m n x y) (fun x hx => eq_eqn (h x hx)) hl

/-! ### rising lists -/
def okAt (xs : List Int) (n : Int) (k : Nat) : Bool := match xs[k]? with
  | none => true
  | some x => decide (0 ≤ x) && decide (x ≤ n) && (k == 0 || (match xs[k - 1]? with | none => true | some y => decide (y < x)))
def rises (xs : List Int) (n : Int) : Bool := decide (∀ k, k < xs.length → okAt xs n k = true)

theorem l00In_eq {n : Nat} {a b c : Int} : spec_l00In_m n a b c = some (decide (b ≤ a) && decide (a ≤ c)) := by
  unfold spec_l00In_m
  by_cases h : b ≤ a <;> simp [h]
theorem within_eq {n : Nat} {a b c : Int} : impl_within_m n a b c = some (decide (b ≤ a) && decide (a ≤ c)) := by
  unfold impl_within_m
  by_cases h : b ≤ a <;> simp [h]
theorem index_eq {n : Nat} {a b : Int} : impl_index_m n a b = some (decide (0 ≤ a) && decide (a ≤ W (b - 1))) := by
  unfold impl_index_m
  simp [within_eq]

theorem rises_spec {xs : List Int} (hl : xs.length ≤ maxLen) {n : Int} : Ev (fun m => spec_l00Rises_m m xs 0 n) (rises xs n) := by
  have hm := maxLen_le
  unfold spec_l00Rises_m
  refine (Ev.all xs.length (okAt xs n) false true (fun k hk hok => Ev.const' fun m => ?_) (fun k hk hok => Ev.const' fun m => ?_) (Ev.ite_f (by simp) (Ev.pure _))).eq (by unfold rises; split <;> simp_all)
  all_goals
    obtain ⟨x, hx⟩ := get_lt hk
    have w1 := W_succ hk (by omega)
    have hk' : decide ((k : Int) < (xs.length : Int)) = true := by simpa using hk
    simp only [hk', if_true, idx_at hx, l00In_eq, Option.bind_some]
    cases k with
    | zero => simp only [okAt, hx, w1] at hok ⊢; by_cases h1 : 0 ≤ x <;> by_cases h2 : x ≤ n <;> simp [h1, h2] at hok ⊢
    | succ j =>
      obtain ⟨y, hy⟩ := get_lt (xs := xs) (k := j) (by omega)
      have w2 := W_pred (k := j) (n := xs.length) (by omega) (by omega)
      simp only [okAt, hx, hy, w1, w2, idx_at hy, Option.bind_some, Nat.add_sub_cancel] at hok ⊢
      by_cases h1 : 0 ≤ x <;> by_cases h2 : x ≤ n <;> by_cases h3 : y < x <;> simp [h1, h2, h3] at hok ⊢

theorem increasing_law {xs : List Int} (hl : xs.length ≤ maxLen) {n : Int} : Ev (fun m => impl_increasing_m m xs n) (rises xs (W (n - 1))) := by
  have hm := maxLen_le
  unfold impl_increasing_m
  refine (Ev.all xs.length (okAt xs (W (n - 1))) false true (fun k hk hok => Ev.const' fun m => ?_) (fun k hk hok => Ev.const' fun m => ?_) (Ev.ite_f (by simp) (Ev.pure _))).eq (by unfold rises; split <;> simp_all)
  all_goals
    obtain ⟨x, hx⟩ := get_lt hk
    have w1 := W_succ hk (by omega)
    have hk' : decide ((k : Int) < (xs.length : Int)) = true := by simpa using hk
    simp only [hk', if_true, idx_at hx, index_eq, Option.bind_some]
    generalize W (n - 1) = n at *
    cases k with
    | zero => simp only [okAt, hx, w1] at hok ⊢; by_cases h1 : 0 ≤ x <;> by_cases h2 : x ≤ n <;> simp [h1, h2] at hok ⊢
    | succ j =>
      obtain ⟨y, hy⟩ := get_lt (xs := xs) (k := j) (by omega)
      have w2 := W_pred (k := j) (n := xs.length) (by omega) (by omega)
      simp only [okAt, hx, hy, w1, w2, idx_at hy, Option.bind_some, Nat.add_sub_cancel] at hok ⊢
      by_cases h1 : 0 ≤ x <;> by_cases h2 : x ≤ n <;> by_cases h3 : y < x <;> simp [h1, h2, h3] at hok ⊢

/-! ### changes of the sign -/
def chg (a : List Timpl_Equation) (k : Nat) : Bool := k != 0 && (match a[k]?, a[k - 1]? with | some x, some y => x.1 != y.1 | _, _ => false)
def cnt (a : List Timpl_Equation) : Nat → Nat
  | 0 => 0
  | k + 1 => cnt a k + (if chg a k = true then 1 else 0)
theorem cnt_le (a : List Timpl_Equation) : ∀ k, cnt a k ≤ k
  | 0 => Nat.le_refl _
  | k + 1 => by have := cnt_le a k; simp only [cnt]; split <;> omega

theorem count_law {a : List Timpl_Equation} (hl : a.length ≤ maxLen - 1) (h0 : 0 < a.length) : Ev (fun m => spec_l22Count_m m a) (1 + cnt a a.length : Nat) := by
  have hm := maxLen_le
  unfold spec_l22Count_m
  refine Exists.elim (EvI.count (step := _) a.length (fun k (_ : Unit) => (((1 + cnt a k : Nat) : Int), (k : Int))) (fun k _ => 0 < k) (fun r => r = .inl ((1 + cnt a a.length : Nat) : Int)) (fun k t hk hI => ?_) (fun t _ => ⟨_, Ev.ite_f (by simp) (Ev.pure _), rfl⟩) (k := 1) (t := ()) h0 Nat.one_pos)
    (fun res ⟨h1, h2⟩ => Ev.bind h1.ev (by subst h2; exact Ev.pure _))
  refine .inl ⟨(), Ev.const' fun m => ?_, by omega⟩
  obtain ⟨j, rfl⟩ : ∃ j, k = j + 1 := ⟨k - 1, by omega⟩
  obtain ⟨x, hx⟩ := get_lt hk
  obtain ⟨y, hy⟩ := get_lt (xs := a) (k := j) (by omega)
  have w1 := W_succ hk (by omega)
  have w2 := W_pred (k := j) (n := a.length) (by omega) (by omega)
  have w3 : W (((1 + cnt a (j + 1) : Nat) : Int) + 1) = ((1 + (cnt a (j + 1) + 1) : Nat) : Int) := by
    have := cnt_le a (j + 1)
    rw [W_of (by omega) (by omega)]; omega
  have hk' : decide (((j + 1 : Nat) : Int) < (a.length : Int)) = true := decide_eq_true (by omega)
  have hc : chg a (j + 1) = (x.1 != y.1) := by simp [chg, hx, hy]
  simp only [hk', if_true, idx_at hx, idx_at hy, Option.bind_some, w1, w2, w3, join]
  show _ = some (Sum.inl (((1 + (cnt a (j + 1) + (if chg a (j + 1) = true then 1 else 0)) : Nat) : Int), ((j + 1 + 1 : Nat) : Int)))
  rw [hc]
  cases x.1 != y.1 <;> simp

theorem blocks_law {a : List Timpl_Equation} (hl : a.length ≤ 1048576) : Ev (fun m => impl_equationBlocks_m m a) ((List.range a.length).map fun k => ((cnt a (k + 1) : Nat) : Int)) := by
  unfold impl_equationBlocks_m
  refine Exists.elim (EvI.count (step := _) a.length (fun k (_ : Unit) => ((List.range k).map (fun k => ((cnt a (k + 1) : Nat) : Int)), ((cnt a k : Nat) : Int), (k : Int))) (fun k _ => True) (fun r => r = .inl ((List.range a.length).map fun k => ((cnt a (k + 1) : Nat) : Int))) (fun k t hk hI => ?_) (fun t _ => ⟨_, Ev.ite_f (by simp) (Ev.pure _), rfl⟩) (k := 0) (t := ()) (Nat.zero_le _) trivial)
    (fun res ⟨h1, h2⟩ => Ev.bind h1.ev (by subst h2; exact Ev.pure _))
  refine .inl ⟨(), Ev.const' fun m => ?_, trivial⟩
  obtain ⟨x, hx⟩ := get_lt hk
  have w1 := W_succ hk (by omega)
  have hk' : decide ((k : Int) < (a.length : Int)) = true := decide_eq_true (by omega)
  have w3 : W ((cnt a k : Int) + 1) = ((cnt a k + 1 : Nat) : Int) := by
    have := cnt_le a k
    rw [W_of (by omega) (by omega)]; omega
  have happ : ∀ z : Int, app ((List.range k).map (fun k => ((cnt a (k + 1) : Nat) : Int))) [z] = some ((List.range k).map (fun k => ((cnt a (k + 1) : Nat) : Int)) ++ [z]) := fun z => app_ok (by simp; omega)
  simp only [hk', if_true, idx_at hx, Option.bind_some, join, happ, w1, w3]
  have hstep : (List.range (k + 1)).map (fun k => ((cnt a (k + 1) : Nat) : Int)) = (List.range k).map (fun k => ((cnt a (k + 1) : Nat) : Int)) ++ [((cnt a (k + 1) : Nat) : Int)] := by rw [List.range_succ, List.map_append]; rfl
  rw [hstep]
  cases k with
  | zero =>
    have hc : chg a 0 = false := rfl
    simp [cnt, hc]
  | succ j =>
    obtain ⟨y, hy⟩ := get_lt (xs := a) (k := j) (by omega)
    have w2 := W_pred (k := j) (n := a.length) (by omega) (by omega)
    have hc : chg a (j + 1) = (x.1 != y.1) := by simp [chg, hx, hy]
    have h0 : decide ((0 : Int) < ((j + 1 : Nat) : Int)) = true := decide_eq_true (by omega)
    simp only [h0, if_true, w2, idx_at hy, Option.bind_some]
    have e : cnt a (j + 1 + 1) = cnt a (j + 1) + (if chg a (j + 1) = true then 1 else 0) := rfl
    rw [e, hc]
    cases x.1 != y.1 <;> simp

theorem fit_law {a : List Timpl_Equation} (hl : a.length ≤ 1048576) (h0 : 0 < a.length) : Ev (fun m => impl_blocksFit_m m a) (decide ((cnt a a.length : Int) < 9)) := by
  unfold impl_blocksFit_m
  refine Ev.bind (blocks_law hl) (Ev.bind (a := ((cnt a a.length : Nat) : Int)) (Ev.const' fun m => ?_) (Ev.pure _))
  unfold impl_last_int64_m
  obtain ⟨j, hj⟩ : ∃ j, a.length = j + 1 := ⟨a.length - 1, by omega⟩
  have w2 := W_pred (k := j) (n := j + 1) (by omega) (by omega)
  have hi : ((List.range (j + 1)).map fun k => ((cnt a (k + 1) : Nat) : Int))[j]? = some ((cnt a (j + 1) : Nat) : Int) := by simp
  simp only [List.length_map, List.length_range, hj, w2, idx_at hi, Option.bind_some]

theorem find_law {a : List Timpl_Equation} (hl : a.length ≤ maxLen) {f : Nat → Timpl_Equation → Option Bool} {ok : Timpl_Equation → Bool} (hf : ∀ x ∈ a, Ev (fun m => f m x) (!(ok x))) :
    Ev (fun m => slices_ContainsFunc__impl_Equation_impl_Equation_m m a (f m)) (!(a.all ok)) := by
  have hm := maxLen_le
  unfold slices_ContainsFunc__impl_Equation_impl_Equation_m slices_IndexFunc__impl_Equation_impl_Equation_m
  have key : ∀ k, k < a.length → ∀ x, a[k]? = some x → Ev (fun m => f m x) (!(ok x)) := fun k hk x hx => hf x (List.mem_of_getElem? hx)
  obtain ⟨res, h1, h2⟩ := EvI.find (step := fun m (s : (Int)) => (match s with | (x26) => (if (decide (x26 < (a.length : Int))) = true then (idx a x26).bind fun x61 => (f m (x61.1, x61.2.1, x61.2.2)).bind fun x80 => (if x80 = true then some (.inr (.inr x26)) else some (.inl ((W (x26 + (1 : Int)))))) else some (.inr (.inl ()))) : Option (((Int)) ⊕ ((Unit) ⊕ (Int)))))
    a.length (fun k => match a[k]? with | none => true | some x => ok x) (fun k => (k : Int)) (fun k hk hok => by
      obtain ⟨x, hx⟩ := get_lt hk
      simp only [hx] at hok
      have := key k hk x hx
      rw [hok] at this
      exact (Ev.ite_t (decide_eq_true (by omega)) (Ev.bindc (idx_at hx) (Ev.bind this (Ev.ite_f (by simp) (Ev.pure _))))).eq (by rw [W_succ hk (by omega)])) (fun k hk hok => by
      obtain ⟨x, hx⟩ := get_lt hk
      simp only [hx] at hok
      have := key k hk x hx
      rw [hok] at this
      exact Ev.ite_t (decide_eq_true (by omega)) (Ev.bindc (idx_at hx) (Ev.bind this (Ev.ite_t (by simp) (Ev.pure _))))) (Ev.ite_f (by simp) (Ev.pure _)) (Nat.zero_le _)
  rcases h2 with ⟨rfl, h3⟩ | ⟨k, _, hk, hok, _, rfl⟩
  · have : a.all ok = true := by
      rw [List.all_eq_true]
      intro x hx
      obtain ⟨i, hi, rfl⟩ := List.getElem_of_mem hx
      have := h3 i (Nat.zero_le _) hi
      simpa [List.getElem?_eq_getElem hi] using this
    rw [this]
    exact Ev.bind (a := -1) (Ev.bind h1.ev (Ev.pure _)) (Ev.pure _)
  · obtain ⟨x, hx⟩ := get_lt hk
    simp only [hx] at hok
    have : a.all ok = false := by
      rw [← Bool.not_eq_true, List.all_eq_true]
      intro h
      rw [h x (List.mem_of_getElem? hx)] at hok
      cases hok
    rw [this]
    exact Ev.bind (a := (k : Int)) (Ev.bind h1.ev (Ev.pure _)) (Ev.const (by simp))

/-- What both take for a valid system. -/
def validE (a : List Timpl_Equation) : Bool := decide (1 ≤ a.length ∧ a.length ≤ 120 ∧ cnt a a.length < 9) && a.all fun x => rises x.2.2 (W ((a.length : Int) - 1))

theorem validE_impl {a : List Timpl_Equation} (hl : a.length ≤ 1048576) (g : ∀ x ∈ a, x.2.2.length ≤ 1048576) :
    Ev (fun m => impl_ValidEquations_m m a) (validE a) := by
  have hm : maxLen = 9223372036854775807 := by unfold maxLen; rfl
  unfold impl_ValidEquations_m validE
  simp only [within_eq, Option.bind_some]
  have hfind : Ev (fun m => slices_ContainsFunc__impl_Equation_impl_Equation_m m a (fun (z0 : Timpl_Equation) => impl_ValidEquations_1_m m z0 a)) (!(a.all fun x => rises x.2.2 (W ((a.length : Int) - 1)))) :=
    find_law (f := fun m z0 => impl_ValidEquations_1_m m z0 a) (by omega) (fun x hx => Ev.bind (increasing_law (by have := g x hx; omega)) (Ev.pure _))
  by_cases h1 : 1 ≤ a.length ∧ a.length ≤ 120
  · refine Ev.bind (a := !(decide ((cnt a a.length : Int) < 9))) (Ev.ite_f (by simp; omega) (Ev.bind (fit_law hl (by omega)) (Ev.pure _))) ?_
    by_cases h2 : cnt a a.length < 9
    · refine Ev.eq (Ev.ite_f (by simp; omega) (Ev.bind hfind (Ev.pure _))) ?_
      simp [h1, h2]
    · refine Ev.eq (Ev.ite_t (by simp; omega) (Ev.pure _)) ?_
      simp [h2]
  · refine Ev.bind (a := true) (Ev.ite_t (by simp; omega) (Ev.pure _)) (Ev.eq (Ev.ite_t rfl (Ev.pure _)) ?_)
    simp; omega

theorem l22Is_law {a : List Timpl_Equation} (hl : a.length ≤ 1048576) (g : ∀ x ∈ a, x.2.2.length ≤ 1048576) :
    Ev (fun m => spec_l22Is_m m a) (validE a) := by
  have hm : maxLen = 9223372036854775807 := by unfold maxLen; rfl
  unfold spec_l22Is_m validE
  simp only [or_some, Option.bind_some]
  by_cases h1 : 1 ≤ a.length ∧ a.length ≤ 120
  · refine Ev.bind (a := decide ((9 : Int) < ((1 + cnt a a.length : Nat) : Int))) (Ev.ite_f (by simp; omega) (Ev.bind (count_law (by omega) (by omega)) (Ev.pure _))) ?_
    by_cases h2 : cnt a a.length < 9
    · refine Ev.ite_f (by simp; omega) ?_
      refine (Ev.all (step := _) a.length (fun k => match a[k]? with | none => true | some x => rises x.2.2 (W ((a.length : Int) - 1))) false true (fun k hk hok => ?_) (fun k hk hok => ?_) (Ev.ite_f (by simp) (Ev.pure _))).eq ?_
      · obtain ⟨x, hx⟩ := get_lt hk
        simp only [hx] at hok
        have := rises_spec (xs := x.2.2) (n := W ((a.length : Int) - 1)) (by have := g x (List.mem_of_getElem? hx); omega)
        rw [hok] at this
        exact (Ev.ite_t (decide_eq_true (by omega)) (Ev.bindc (idx_at hx) (Ev.bind this (Ev.ite_f (by simp) (Ev.pure _))))).eq (by rw [W_succ hk (by omega)])
      · obtain ⟨x, hx⟩ := get_lt hk
        simp only [hx] at hok
        have := rises_spec (xs := x.2.2) (n := W ((a.length : Int) - 1)) (by have := g x (List.mem_of_getElem? hx); omega)
        rw [hok] at this
        exact Ev.ite_t (decide_eq_true (by omega)) (Ev.bindc (idx_at hx) (Ev.bind this (Ev.ite_t (by simp) (Ev.pure _))))
      · rw [decide_eq_true (by omega), Bool.true_and]
        split
        · rename_i h
          symm
          rw [List.all_eq_true]
          intro x hx
          obtain ⟨i, hi, rfl⟩ := List.getElem_of_mem hx
          have := h i hi
          simpa [List.getElem?_eq_getElem hi] using this
        · rename_i h
          symm
          rw [← Bool.not_eq_true, List.all_eq_true]
          intro h'
          refine h fun k hk => ?_
          obtain ⟨x, hx⟩ := get_lt hk
          simp only [hx]
          exact h' x (List.mem_of_getElem? hx)
    · refine Ev.eq (Ev.ite_t (by simp; omega) (Ev.pure _)) ?_
      simp [h2]
  · refine Ev.bind (a := true) (Ev.ite_t (by simp; omega) (Ev.pure _)) (Ev.eq (Ev.ite_t rfl (Ev.pure _)) ?_)
    simp; omega
/-! ### marks -/
theorem marks_ints {a : List Int} {k : Int} (hl : a.length ≤ 1048576) (h0 : 1 ≤ k) (hk : k ≤ 4611686018427387904 - 1048576) :
    ∃ k' ys, Ev (fun n => laws_markInt64S_m n a k) (k', ys) ∧ Ev (fun n => laws_heldInt64S_m n ys k) k' ∧ k ≤ k' ∧ k' ≤ k + (a.length * 1 : Nat) ∧ ys.length = a.length := by
  unfold laws_markInt64S_m laws_heldInt64S_m
  refine mark_held (p := fun _ => True) (fun _ _ => trivial) h0 (by omega)
    (fun xs k i x hxl hx _ h1 h2 => ⟨k, k + 1, Ev.const' fun m => ?_, by omega, by omega, fun ys hyl hy => Ev.const' fun m => ?_⟩) (fun xs k hxl => ?_) (fun ys k hyl => ?_)
  · have hi : i < xs.length := (List.getElem?_eq_some_iff.1 hx).1
    simp [idx_at hx, W_succ (k := i) (n := xs.length) hi (by omega), W_of (n := k + 1) (by omega) (by omega), hi]
  · have hi : i < ys.length := (List.getElem?_eq_some_iff.1 hy).1
    simp [idx_at hy, W_succ (k := i) (n := ys.length) hi (by omega), W_of (n := k + 1) (by omega) (by omega), hi]
  · exact Ev.const' fun m => by simp [hxl]
  · exact Ev.const' fun m => by simp [hyl]

theorem marksH_eqns {a : List Timpl_Equation} {k : Int} (hl : a.length ≤ 1048576) (g : ∀ x ∈ a, x.2.2.length ≤ 1048576) (h0 : 1 ≤ k) (hk : k ≤ 4503599627370496) :
    ∃ k' ys, Ev (fun n => laws_markEquationS_m n a k) (k', ys) ∧ Ev (fun n => laws_heldEquationS_m n ys k) k' ∧ k ≤ k' ∧ k' ≤ k + (a.length * 1048578 : Nat) ∧ ys.length = a.length := by
  unfold laws_markEquationS_m laws_heldEquationS_m
  refine mark_held (p := fun x => x.2.2.length ≤ 1048576) g h0 (by omega) (fun xs k i x hxl hx hp h1 h2 => ?_) (fun xs k hxl => Ev.const' fun m => by simp [hxl]) (fun ys k hyl => Ev.const' fun m => by simp [hyl])
  have hi : i < xs.length := (List.getElem?_eq_some_iff.1 hx).1
  have w2 : W (k + 1) = k + 1 := W_of (by omega) (by omega)
  have w3 : W (k + 1 + 1) = k + 1 + 1 := W_of (by omega) (by omega)
  obtain ⟨k', ys, e1, e2, e3, e4, _⟩ := marks_ints (a := x.2.2) (k := k + 1 + 1) hp (by omega) (by omega)
  refine ⟨(k.tmod 3 == 0, (W (k + 1)).tmod 3 == 0, ys), k', Ev.eq (Ev.ite_t (by simp [hi]) (Ev.bindc (idx_at hx) (Ev.bindc (idx_set hi) (Ev.bindc (idx_set (by simpa using hi)) (Ev.bind (a := (k', ys)) ?_ (Ev.pure _)))))) ?_, by omega, by omega, fun zs hzl hz => ?_⟩
  · rw [w2, w3]; exact e1
  · simp only [Int.toNat_natCast, List.set_set, W_succ (k := i) (n := xs.length) hi (by omega)]
  · have hi : i < zs.length := (List.getElem?_eq_some_iff.1 hz).1
    refine Ev.eq (Ev.ite_t (by simp [hi]) (Ev.bindc (idx_at hz) (Ev.ite_f (by simp) (Ev.bindc (idx_at hz) (Ev.ite_f (by simp) (Ev.bindc (idx_at hz) (Ev.bind (a := k') ?_ (Ev.ite_f (by simp; omega) (Ev.pure _))))))))) ?_
    · rw [w2, w3]; exact e2
    · rw [W_succ (k := i) (n := zs.length) hi (by omega)]

theorem validE_wf {a : List Timpl_Equation} (hv : validE a = true) : 0 < a.length ∧ a.length ≤ 120 := by
  simp only [validE, Bool.and_eq_true, decide_eq_true_eq] at hv
  omega
def dg (b : UInt8) : Bool := decide ((48 : Int) ≤ (b.toNat : Int)) && decide ((b.toNat : Int) ≤ 57)
theorem dg_eq (b : UInt8) : dg b = isDig b := by
  unfold dg isDig
  rw [show decide ((48 : Int) ≤ (b.toNat : Int)) = decide (48 ≤ b.toNat) from decide_eq_decide.2 (by omega), show decide ((b.toNat : Int) ≤ 57) = decide (b.toNat ≤ 57) from decide_eq_decide.2 (by omega)]
theorem dg_m {m : Nat} {b : UInt8} : spec_l01Digit_m m (b.toNat : Int) = some (dg b) := by unfold spec_l01Digit_m; rw [and_some]; rfl
/-! ### numbers -/
def numV (w : Str) : Int := (num w).getD 0
def numB (w : Str) : Bool := (num w).isSome
theorem dec_m {m : Nat} {n : Int} (h1 : -9223372036854775808 ≤ n) (h2 : n ≤ 9223372036854775807) : impl_Decimal_m m n = some (Lib.itoa n) := by
  unfold impl_Decimal_m strconv_FormatInt_m
  rw [if_pos ⟨rfl, h1, h2⟩]
  rfl
theorem read_dec {m : Nat} {w : Str} (hl : w.length ≤ 281474976710656) : impl_ReadDecimal_m m w = some (numV w, numB w) := by
  unfold impl_ReadDecimal_m strings_TrimPrefix_m
  rw [if_pos trivial]
  simp only [Option.bind_some]
  unfold numV numB
  rw [← rdDec_eq]
  unfold rdDec
  by_cases h : 18 < (Lib.trimPrefix w [45]).length
  · rw [if_pos h, if_pos (decide_eq_true (by omega))]; rfl
  · rw [if_neg h, if_neg (by rw [decide_eq_false (by omega)]; simp)]
    unfold strconv_ParseInt_m
    rw [if_pos ⟨rfl, rfl, hl⟩]
    cases hp : Lib.parseIntB 64 w with
    | ok v =>
      obtain ⟨h1, h2⟩ := parse_range hp
      simp only [Option.bind_some, dec_m h1 h2, Bool.false_eq_true, if_false]
      by_cases hi : Lib.itoa v = w
      · simp [hi]
      · have : (Lib.itoa v != w) = true := by simpa using hi
        simp [hi, this]
    | range => rfl
    | _ => rfl

theorem drop_take_succ {s : Str} {k i : Nat} {b : UInt8} (h : s[k]? = some b) (hi : i ≤ k) : (s.take (k + 1)).drop i = (s.take k).drop i ++ [b] := by
  rw [List.take_add_one, h, List.drop_append_of_le_length (by
    have : k < s.length := by
      rcases Nat.lt_or_ge k s.length with h' | h'
      · exact h'
      · rw [List.getElem?_eq_none h'] at h; cases h
    simp; omega)]
  rfl

theorem digits_loop {w : Str} (hl : w.length ≤ maxLen) {i : Nat} (hi : i ≤ w.length) (h18 : w.length - i ≤ 18) :
    Ev (fun m => iter (fun (s : (Int) × (Int)) => (match s with | (x59, x60) => (if (decide (x60 < (w.length : Int))) = true then (idx w x60).bind fun b88 => (spec_l01Digit_m m (b88.toNat : Int)).bind fun x92 => (if (!x92) = true then some (.inr (.inr ((0 : Int), false))) else (idx w x60).bind fun b96 => some (.inl ((W ((W ((10 : Int) * x59)) + (W (IntKind.u8.wrap ((b96.toNat : Int) - (48 : Int)))))), (W (x60 + (1 : Int)))))) else some (.inr (.inl (x59)))) : Option (((Int) × (Int)) ⊕ ((Int) ⊕ ((Int × Bool)))))) m ((0 : Int), (i : Int)))
      (if (w.drop i).all isDig = true then .inl (valN (w.drop i) : Int) else .inr ((0 : Int), false)) := by
  have hm := maxLen_le
  refine Exists.elim (EvI.count (step := fun m (s : (Int) × (Int)) => (match s with | (x59, x60) => (if (decide (x60 < (w.length : Int))) = true then (idx w x60).bind fun b88 => (spec_l01Digit_m m (b88.toNat : Int)).bind fun x92 => (if (!x92) = true then some (.inr (.inr ((0 : Int), false))) else (idx w x60).bind fun b96 => some (.inl ((W ((W ((10 : Int) * x59)) + (W (IntKind.u8.wrap ((b96.toNat : Int) - (48 : Int)))))), (W (x60 + (1 : Int)))))) else some (.inr (.inl (x59)))) : Option (((Int) × (Int)) ⊕ ((Int) ⊕ ((Int × Bool))))))
    w.length (fun k (_ : Unit) => ((valN ((w.take k).drop i) : Int), (k : Int))) (fun k _ => i ≤ k ∧ ((w.take k).drop i).all isDig = true)
    (fun r => r = (if (w.drop i).all isDig = true then .inl (valN (w.drop i) : Int) else .inr ((0 : Int), false))) ?hs ?hn hi (t := ()) ⟨Nat.le_refl _, by rw [List.drop_take_self]; rfl⟩) (fun res ⟨h1, h2⟩ => by
    subst h2
    rw [List.drop_take_self] at h1
    exact h1.ev)
  · rintro k t hk ⟨hik, hI⟩
    obtain ⟨b, hb⟩ := get_lt hk
    have hk' : decide ((k : Int) < (w.length : Int)) = true := by simpa using hk
    cases hd : isDig b with
    | true =>
      refine .inl ⟨(), Ev.const' fun m => ?_, by omega, ?_⟩
      · simp only [hk', if_true, idx_at hb, Option.bind_some, dg_m, dg_eq, hd, Bool.not_true, Bool.false_eq_true, if_false, W_succ hk (by omega)]
        have hb2 := dig_le hd
        have hv : valN ((w.take k).drop i) < 10 ^ 18 := val_small (by simp; omega) hI
        have hv2 : valN ((w.take (k + 1)).drop i) < 10 ^ 18 := val_small (by simp; omega) (by rw [drop_take_succ hb hik, List.all_append, hI]; simp [hd])
        rw [drop_take_succ hb hik, valN_snoc] at hv2 ⊢
        have e1 : IntKind.u8.wrap ((b.toNat : Int) - 48) = ((b.toNat - 48 : Nat) : Int) := by
          unfold IntKind.wrap
          simp [IntKind.signed, IntKind.bits]
          omega
        rw [e1, W_of (n := ((b.toNat - 48 : Nat) : Int)) (by omega) (by omega), W_of (n := 10 * (valN ((w.take k).drop i) : Int)) (by omega) (by omega), W_of (by omega) (by omega)]
        congr 3
      · rw [drop_take_succ hb hik, List.all_append, hI]; simp [hd]
    | false =>
      refine .inr ⟨.inr ((0 : Int), false), Ev.const' fun m => ?_, ?_⟩
      · simp only [hk', if_true, idx_at hb, Option.bind_some, dg_m, dg_eq, hd, Bool.not_false]
      · rw [if_neg]
        intro h
        rw [List.all_eq_true] at h
        have : b ∈ w.drop i := by
          have : (w.drop i)[k - i]? = some b := by rw [List.getElem?_drop, show i + (k - i) = k by omega]; exact hb
          exact List.mem_of_getElem? this
        rw [h b this] at hd
        cases hd
  · rintro t ⟨hik, hI⟩
    refine ⟨.inl (valN (w.drop i) : Int), Ev.const' fun m => ?_, ?_⟩
    · rw [List.take_length] at *
      simp
    · rw [List.take_length] at hI
      rw [if_pos hI]


def numRes (w : Str) (i : Nat) : Int × Bool :=
  if w.length = i ∨ 18 < w.length - i ∨ ((w.drop i).head? = some 48 ∧ 1 < w.length) then (0, false)
  else if (w.drop i).all isDig = true then (if i = 1 then -(valN (w.drop i) : Int) else (valN (w.drop i) : Int), true) else (0, false)

theorem num_body {w : Str} (hl : w.length ≤ maxLen) {i : Nat} {x : Int} (hx : x = (i : Int)) (hi : i ≤ w.length) :
    Ev (fun fuel => (if ((w.length : Int) == x) = true then some true else some (decide ((18 : Int) < (W ((w.length : Int) - x))))).bind fun t34 => (if t34 = true then some true else (idx w x).bind fun b40 => (if ((b40.toNat : Int) == (48 : Int)) = true then some (decide ((1 : Int) < (w.length : Int))) else some false).bind fun t42 => some t42).bind fun t37 => (if t37 = true then some (((0 : Int), false)) else (iter (fun (s : (Int) × (Int)) => (match s with | (x59, x60) => (if (decide (x60 < (w.length : Int))) = true then (idx w x60).bind fun b88 => (spec_l01Digit_m fuel (b88.toNat : Int)).bind fun x92 => (if (!x92) = true then some (.inr (.inr ((0 : Int), false))) else (idx w x60).bind fun b96 => some (.inl ((W ((W ((10 : Int) * x59)) + (W (IntKind.u8.wrap ((b96.toNat : Int) - (48 : Int)))))), (W (x60 + (1 : Int)))))) else some (.inr (.inl (x59)))) : Option (((Int) × (Int)) ⊕ ((Int) ⊕ ((Int × Bool)))))) fuel ((0 : Int), x)).bind fun res75 => ctl (β := Int) (ρ := (Int × Bool)) (τ := (Int × Bool)) res75 (fun (x74) => join (κ := Int → Option (Int × Bool)) (fun (x80 : Int) => some ((x80, true))) (fun K81 => (if (x == (1 : Int)) = true then (K81 (W (0 - x74))) else (K81 x74)))) (fun q => some (q)))) (numRes w i) := by
  have hm := maxLen_le
  subst hx
  unfold numRes
  by_cases h1 : w.length = i
  · have e1 : ((w.length : Int) == (i : Int)) = true := by rw [h1]; simp
    exact Ev.eq (r := ((0 : Int), false)) (Ev.const' fun m => by simp only [e1, if_true, Option.bind_some]) (if_pos (.inl h1)).symm
  · have e1 : ((w.length : Int) == (i : Int)) = false := beq_false_of_ne (by omega)
    have w1 : W ((w.length : Int) - (i : Int)) = (w.length : Int) - (i : Int) := W_of (by omega) (by omega)
    simp only [e1, Bool.false_eq_true, if_false, Option.bind_some, w1]
    by_cases h2 : 18 < w.length - i
    · have e2 : decide ((18 : Int) < (w.length : Int) - (i : Int)) = true := decide_eq_true (by omega)
      exact Ev.eq (r := ((0 : Int), false)) (Ev.const' fun m => by simp only [e2, if_true, Option.bind_some]) (if_pos (.inr (.inl h2))).symm
    · have e2 : decide ((18 : Int) < (w.length : Int) - (i : Int)) = false := decide_eq_false (by omega)
      obtain ⟨b, hb⟩ := get_lt (xs := w) (k := i) (by omega)
      have hh : (w.drop i).head? = some b := by rw [List.head?_drop]; exact hb
      simp only [e2, Bool.false_eq_true, if_false, idx_at hb, Option.bind_some, and_some]
      by_cases h3 : b = 48 ∧ 1 < w.length
      · have e3 : ((((b.toNat : Int) == 48) && decide ((1 : Int) < (w.length : Int)))) = true := by
          rw [h3.1, decide_eq_true (by omega : (1 : Int) < (w.length : Int))]; rfl
        exact Ev.eq (r := ((0 : Int), false)) (Ev.ite_t e3 (Ev.pure _)) (if_pos (.inr (.inr ⟨by rw [hh, h3.1], h3.2⟩))).symm
      · have e3 : ¬ ((((b.toNat : Int) == 48) && decide ((1 : Int) < (w.length : Int)))) = true := by
          intro h
          rw [Bool.and_eq_true] at h
          refine h3 ⟨?_, by have := of_decide_eq_true h.2; omega⟩
          have := beq_iff_eq.1 h.1
          exact UInt8.toNat_inj.1 (show b.toNat = 48 by omega)
        refine Ev.eq ?_ (if_neg (by
          rintro (h | h | ⟨h, h'⟩)
          · exact h1 h
          · exact h2 h
          · rw [hh] at h; exact h3 ⟨by simpa using h, h'⟩)).symm
        refine Ev.ite_f e3 (Ev.bind (digits_loop hl hi (by omega)) (Ev.const ?_))
        by_cases hd : (w.drop i).all isDig = true
        · have hv := val_small (ds := w.drop i) (by simp; omega) hd
          rw [if_pos hd, if_pos hd, ctl_l]
          show (if ((i : Int) == (1 : Int)) = true then some (W (0 - (valN (w.drop i) : Int)), true) else some ((valN (w.drop i) : Int), true)) = _
          by_cases hi1 : i = 1
          · subst hi1
            rw [if_pos (by rfl), if_pos rfl, W_of (by omega) (by omega)]
            congr 2
            omega
          · rw [if_neg (by intro h; have := beq_iff_eq.1 h; omega), if_neg hi1]
        · rw [if_neg hd, if_neg hd, ctl_r]

theorem num_minus (r : Str) : num (45 :: r) = if okD r = true ∧ r.head? ≠ some 48 then some (-(valN r : Int)) else none := by
  unfold num
  rw [if_pos (show (45 :: r : Str).head? = some 45 from rfl)]
  rfl
theorem numRes_neg (r : Str) : numRes (45 :: r) 1 = (numV (45 :: r), numB (45 :: r)) := by
  unfold numRes numV numB
  rw [num_minus]
  simp only [List.drop_succ_cons, List.drop_zero, List.length_cons, Nat.add_sub_cancel, if_true]
  by_cases h : okD r = true ∧ r.head? ≠ some 48
  · obtain ⟨h1, h2, h3⟩ := okD_iff.1 h.1
    have hp := List.length_pos_iff.2 h1
    rw [if_pos h, if_neg (by rintro (g | g | ⟨g, _⟩) <;> first | omega | exact h.2 g), if_pos h3]
    rfl
  · rw [if_neg h]
    split
    · rfl
    · rename_i hc
      split
      · rename_i hd
        exfalso
        apply h
        refine ⟨okD_iff.2 ⟨fun e => hc (.inl (by rw [e]; rfl)), by omega, hd⟩, fun e => hc (.inr (.inr ⟨e, ?_⟩))⟩
        cases r with
        | nil => cases e
        | cons _ _ => simp
      · rfl
theorem numRes_pos {w : Str} (hw : w.head? ≠ some 45) : numRes w 0 = (numV w, numB w) := by
  unfold numRes numV numB num
  rw [if_neg hw]
  simp only [List.drop_zero, Nat.sub_zero, Nat.zero_ne_one, if_false]
  by_cases h : okD w = true ∧ (w.head? ≠ some 48 ∨ w.length = 1)
  · obtain ⟨h1, h2, h3⟩ := okD_iff.1 h.1
    have hp := List.length_pos_iff.2 h1
    rw [if_pos h, if_neg (by rintro (g | g | ⟨g, g'⟩) <;> first | omega | exact h.2.elim (fun x => x g) (fun x => by omega)), if_pos h3]
    rfl
  · rw [if_neg h]
    split
    · rfl
    · rename_i hc
      split
      · rename_i hd
        exfalso
        apply h
        have hp : 0 < w.length := by
          rcases Nat.eq_zero_or_pos w.length with g | g
          · exact absurd (.inl g) hc
          · exact g
        refine ⟨okD_iff.2 ⟨fun e => hc (.inl (by rw [e]; rfl)), by omega, hd⟩, ?_⟩
        by_cases g : w.head? = some 48
        · right
          rcases Nat.lt_or_ge 1 w.length with g' | g'
          · exact absurd (.inr (.inr ⟨g, g'⟩)) hc
          · omega
        · exact .inl g
      · rfl

theorem num_spec {w : Str} (hl : w.length ≤ maxLen) : Ev (fun m => spec_l01Number_m m w) (numV w, numB w) := by
  have hm := maxLen_le
  unfold spec_l01Number_m
  refine Ev.join ?_
  cases hw : w with
  | nil => 
    rw [← hw]
    have e : decide ((0 : Int) < (w.length : Int)) = false := by rw [hw]; rfl
    simp only [e, Bool.false_eq_true, if_false, Option.bind_some]
    exact (num_body hl (i := 0) (x := 0) rfl (Nat.zero_le _)).eq (numRes_pos (by rw [hw]; simp))
  | cons b r =>
    rw [← hw]
    have e : decide ((0 : Int) < (w.length : Int)) = true := by rw [hw]; simp
    have hb : idx w (0 : Int) = some b := idx_at (k := 0) (by rw [hw]; rfl)
    refine Ev.bindc (a := ((b.toNat : Int) == (45 : Int))) (by simp only [e, if_true, hb, Option.bind_some]) ?_
    by_cases h : b = 45
    · subst h
      refine Ev.ite_t (by rfl) ?_
      exact (num_body hl (i := 1) (x := 1) rfl (by rw [hw]; simp)).eq (by rw [hw]; exact numRes_neg r)
    · refine Ev.ite_f (fun g => h ?_) ?_
      · have := beq_iff_eq.1 g
        exact UInt8.toNat_inj.1 (show b.toNat = 45 by omega)
      · exact (num_body hl (i := 0) (x := 0) rfl (Nat.zero_le _)).eq (numRes_pos (by rw [hw]; simpa using h))
theorem mx : 4294967296 ≤ maxLen ∧ maxLen ≤ 9223372036854775807 := by unfold maxLen; omega

/-! ### splitting -/
theorem splitC_snoc_eq (c : UInt8) : ∀ s : Str, splitC c (s ++ [c]) = splitC c s ++ [[]]
  | [] => by simp [splitC]
  | a :: r => by
    have ih := splitC_snoc_eq c r
    rw [List.cons_append]
    unfold splitC
    rw [ih]
    split
    · rfl
    · cases hr : splitC c r with
      | nil => exact absurd hr (splitC_ne c r)
      | cons x t => rfl
theorem splitC_snoc_ne {c b : UInt8} (hb : b ≠ c) : ∀ (s : Str) (o : List Str) (l : Str), splitC c s = o ++ [l] → splitC c (s ++ [b]) = o ++ [l ++ [b]]
  | [], o, l, h => by
    have h' : [([] : Str)] = o ++ [l] := h
    have : o = [] := by
      cases o with
      | nil => rfl
      | cons _ t => simp at h'
    subst this
    have : l = [] := by simpa using h'.symm
    subst this
    simp [splitC, hb]
  | a :: r, o, l, h => by
    rw [List.cons_append]
    unfold splitC at h ⊢
    by_cases ha : a = c
    · rw [if_pos ha] at h ⊢
      cases o with
      | nil =>
        exfalso
        have : splitC c r = [] := by simpa using (List.cons.inj h).2
        exact splitC_ne c r this
      | cons x o' =>
        rw [List.cons_append] at h ⊢
        obtain ⟨h1, h2⟩ := List.cons.inj h
        rw [← h1, splitC_snoc_ne hb r o' l h2]
    · rw [if_neg ha] at h ⊢
      rcases snoc_or (splitC c r) with hr | ⟨o', l', hr⟩
      · exact absurd hr (splitC_ne c r)
      · have ih := splitC_snoc_ne hb r o' l' hr
        rw [ih]
        rw [hr] at h
        cases o' with
        | nil =>
          simp only [List.nil_append, List.headD_cons, List.tail_cons] at h ⊢
          have : o = [] := by
            cases o with
            | nil => rfl
            | cons _ t => simp at h
          subst this
          have : l = a :: l' := by simpa using h.symm
          subst this
          rfl
        | cons x o'' =>
          simp only [List.cons_append, List.headD_cons, List.tail_cons] at h ⊢
          cases o with
          | nil => simp at h
          | cons y o3 =>
            rw [List.cons_append] at h ⊢
            obtain ⟨h1, h2⟩ := List.cons.inj h
            obtain ⟨h3, h4⟩ := List.append_inj' h2 rfl
            have : l' = l := by simpa using h4
            rw [h1, h3, this]

/-! ### lists of numbers -/
theorem fill_iter {α β ρ : Type} {to' : Nat → α → Option β} {f : α → β} {a : List α} {z : β} (hto : ∀ x ∈ a, Ev (fun n => to' n x) (f x)) (hl : a.length ≤ 1048576) :
    EvI (fun n (s : (List β) × (Int)) => (match s with | (xs35, x36) => (if (decide (x36 < (a.length : Int))) = true then (idx a x36).bind fun x75 => (to' n x75).bind fun x92 => (idx xs35 x36).bind fun _ => some (.inl ((xs35.set x36.toNat x92), (W (x36 + (1 : Int))))) else some (.inr (.inl (xs35)))) : Option (((List β) × (Int)) ⊕ (((List β)) ⊕ (ρ))))) (List.replicate a.length z, (0 : Int)) (.inl (a.map f)) := by
  refine EvI.upto a.length (fun k (t : List β) => (t, (k : Int))) (fun k t => t = (a.take k).map f ++ List.replicate (a.length - k) z) (k := 0) (t := List.replicate a.length z) rfl (Nat.zero_le _) (by simp) (fun k t hk ht => ?_) (fun t ht => ?_)
  · obtain ⟨x, hx⟩ : ∃ x, a[k]? = some x := ⟨a[k], List.getElem?_eq_getElem hk⟩
    have hlen : ((a.take k).map f).length = k := by simp; omega
    have hi : t[k]? = some z := by
      rw [ht, List.getElem?_append_right (by omega), hlen, List.getElem?_replicate, if_pos (by omega)]
    refine ⟨_, (Ev.ite_t (by simpa using hk) (Ev.bindc (idx_at hx) (Ev.bind (hto x (List.mem_of_getElem? hx)) (Ev.bindc (idx_at hi) (Ev.pure (Sum.inl (t.set (k : Int).toNat (f x), W ((k : Int) + 1)))))))).eq ?_, rfl⟩
    rw [W_of (by omega) (by omega)]
    refine congrArg Sum.inl (Prod.ext ?_ rfl)
    show t.set (k : Int).toNat (f x) = _
    rw [ht, Int.toNat_natCast, List.set_append_right _ _ (by omega), hlen]
    rw [List.take_add_one, hx, List.map_append, List.append_assoc]
    congr 1
    rw [show a.length - k = (a.length - (k + 1)) + 1 by omega, List.replicate_succ]
    simp
  · refine (Ev.ite_f (by simp) (Ev.pure _)).eq ?_
    rw [ht]; simp

theorem read_nums {ws : List Str} (hl : ws.length < 4294967282) (hw : ∀ w ∈ ws, w.length ≤ 281474976710656) :
    Ev (fun m => impl_readNumbers_m m ws) (if ws.all numB = true then (ws.map numV, true) else ([], false)) := by
  have hm := mx
  unfold impl_readNumbers_m
  refine Exists.elim (EvI.count (step := _) ws.length (fun k (_ : Unit) => ((ws.take k).map numV, (k : Int))) (fun k _ => (ws.take k).all numB = true)
    (fun r => r = (if ws.all numB = true then .inl (ws.map numV) else .inr ([], false))) ?_ ?_ (k := 0) (t := ()) (Nat.zero_le _) rfl)
    (fun res ⟨h1, h2⟩ => Ev.bind h1.ev (by
      subst h2
      by_cases h : ws.all numB = true
      · rw [if_pos h, if_pos h]; exact Ev.pure _
      · rw [if_neg h, if_neg h]; exact Ev.pure _))
  · intro k t hk hI
    obtain ⟨w, hw'⟩ := get_lt hk
    have hk' : decide ((k : Int) < (ws.length : Int)) = true := by simpa using hk
    have htk : ws.take (k + 1) = ws.take k ++ [w] := by rw [List.take_add_one, hw']; rfl
    have hrd : ∀ m, impl_ReadDecimal_m m w = some (numV w, numB w) := fun m => read_dec (hw w (List.mem_of_getElem? hw'))
    cases hb : numB w with
    | true =>
      left
      refine ⟨(), Ev.ite_t hk' (Ev.bindc (idx_at hw') (Ev.bind (Ev.const' hrd) (Ev.ite_f (by simp [hb]) (Ev.bindc (app_ok (by simp; omega)) (Ev.const ?_))))), ?_⟩
      · rw [W_succ hk (by omega), htk, List.map_append]; rfl
      · rw [htk, List.all_append, hI]; simp [hb]
    | false =>
      right
      refine ⟨_, Ev.ite_t hk' (Ev.bindc (idx_at hw') (Ev.bind (Ev.const' hrd) (Ev.ite_t (by simp [hb]) (Ev.pure _)))), ?_⟩
      rw [if_neg]
      intro h
      rw [List.all_eq_true] at h
      rw [h w (List.mem_of_getElem? hw')] at hb
      cases hb
  · intro t hI
    refine ⟨_, Ev.ite_f (by simp) (Ev.pure _), ?_⟩
    rw [List.take_length] at *
    rw [if_pos hI]

theorem cat_ev {a b : Str} (h : a.length + b.length ≤ 140737488355328) : cat a b = some (a ++ b) := by
  unfold cat
  rw [if_pos (by first | exact h | omega)]

/-! ### the reference's decimals -/
def rvD (u : Nat) : List Int := (Lib.decDigits u).reverse.map fun b => (b.toNat : Int)
theorem rvD_small {u : Nat} (h : u < 10) : rvD u = [((48 + u : Nat) : Int)] := by
  unfold rvD
  rw [Lib.decDigits_one h]
  simp
  omega
theorem rvD_big {u : Nat} (h : 10 ≤ u) : rvD u = ((48 + u % 10 : Nat) : Int) :: rvD (u / 10) := by
  unfold rvD
  rw [dec_big (by omega), List.reverse_append]
  simp
  omega
def rvE (u : Nat) : List Int := if u = 0 then [] else rvD u
theorem rvE_step {u : Nat} (h : 0 < u) : rvE u = ((48 + u % 10 : Nat) : Int) :: rvE (u / 10) := by
  unfold rvE
  rw [if_neg (by omega)]
  by_cases h1 : u < 10
  · rw [rvD_small h1, if_pos (by omega), Nat.mod_eq_of_lt h1]
  · rw [rvD_big (by omega), if_neg (by omega)]
theorem dec_loop (_n0 : Int) : ∀ (u : Nat) (x : Int) (xs : List Int), x.natAbs = u → u ≤ 4611686018427387904 → xs.length + u ≤ 4611686018427387904 + 100 → xs.length ≤ 1000 - 10 * 0 →
    (∀ d, u < 10 ^ d → xs.length + d ≤ 1000 → EvI (fun (_ : Nat) (s : (List Int) × (Int)) => (match s with | (xs53, x55) => (if (x55 != (0 : Int)) = true then join (κ := Int → Option (((List Int) × (Int)) ⊕ (((List Int)) ⊕ (Str)))) (fun (x167 : Int) => (app xs53 [(IntKind.u8.wrap (W ((48 : Int) + x167)))]).bind fun x173 => some (.inl (x173, (W (x55.tdiv (10 : Int)))))) (fun K168 => (if (decide ((x55.tmod (10 : Int)) < (0 : Int))) = true then (K168 (W (0 - (x55.tmod (10 : Int))))) else (K168 (x55.tmod (10 : Int))))) else some (.inr (.inl (xs53)))) : Option (((List Int) × (Int)) ⊕ (((List Int)) ⊕ (Str))))) (xs, x) (.inl (xs ++ rvE u))) := by
  intro u
  induction u using Nat.strongRecOn with
  | ind u ih =>
    intro x xs hx hu hl hl2 d hd hd2
    by_cases h0 : u = 0
    · subst h0
      have hx0 : x = 0 := by omega
      subst hx0
      refine EvI.stop (Ev.ite_f (by simp) (Ev.const ?_))
      simp [rvE]
    · rw [rvE_step (by omega)]
      have hd0 : d ≠ 0 := by intro e; subst e; simp at hd; omega
      obtain ⟨d', rfl⟩ : ∃ d', d = d' + 1 := ⟨d - 1, by omega⟩
      have hmod : x.tmod 10 = (if x < 0 then -((u % 10 : Nat) : Int) else ((u % 10 : Nat) : Int)) := by
        by_cases hn : x < 0
        · rw [if_pos hn]
          have : x = -(u : Int) := by omega
          rw [this, Int.neg_tmod]
          rfl
        · rw [if_neg hn]
          have : x = (u : Int) := by omega
          rw [this]; rfl
      have hdiv : x.tdiv 10 = (if x < 0 then -((u / 10 : Nat) : Int) else ((u / 10 : Nat) : Int)) := by
        by_cases hn : x < 0
        · rw [if_pos hn]
          have : x = -(u : Int) := by omega
          rw [this, Int.neg_tdiv]
          rfl
        · rw [if_neg hn]
          have : x = (u : Int) := by omega
          rw [this]; rfl
      have hwd : W (x.tdiv 10) = x.tdiv 10 := by
        rw [hdiv]
        split <;> exact W_of (by omega) (by omega)
      have hch : IntKind.u8.wrap (W ((48 : Int) + ((u % 10 : Nat) : Int))) = ((48 + u % 10 : Nat) : Int) := by
        rw [W_of (by omega) (by omega)]
        unfold IntKind.wrap
        simp [IntKind.signed, IntKind.bits]
        omega
      have hstep : Ev (fun (_ : Nat) => (if (x != (0 : Int)) = true then join (κ := Int → Option (((List Int) × (Int)) ⊕ (((List Int)) ⊕ (Str)))) (fun (x167 : Int) => (app xs [(IntKind.u8.wrap (W ((48 : Int) + x167)))]).bind fun x173 => some (.inl (x173, (W (x.tdiv (10 : Int)))))) (fun K168 => (if (decide ((x.tmod (10 : Int)) < (0 : Int))) = true then (K168 (W (0 - (x.tmod (10 : Int))))) else (K168 (x.tmod (10 : Int))))) else some (.inr (.inl (xs))) : Option (((List Int) × (Int)) ⊕ (((List Int)) ⊕ (Str))))) (.inl (xs ++ [((48 + u % 10 : Nat) : Int)], x.tdiv 10)) := by
        refine Ev.ite_t (by simp; omega) (Ev.join ?_)
        rw [hwd]
        have hfin : ∀ z : Int, z = ((u % 10 : Nat) : Int) → (app xs [(IntKind.u8.wrap (W ((48 : Int) + z)))]).bind (fun x173 => (some (.inl (x173, x.tdiv 10)) : Option (((List Int) × (Int)) ⊕ (((List Int)) ⊕ (Str))))) = some (.inl (xs ++ [((48 + u % 10 : Nat) : Int)], x.tdiv 10)) := by
          intro z hz
          rw [hz, hch, app_ok (by simp; omega)]; rfl
        by_cases hneg : x.tmod 10 < 0
        · refine Ev.ite_t (decide_eq_true hneg) (Ev.const (hfin _ ?_))
          rw [hmod] at hneg ⊢
          split
          · rw [W_of (by omega) (by omega)]; omega
          · rename_i h; rw [if_neg h] at hneg; omega
        · refine Ev.ite_f (by simpa using hneg) (Ev.const (hfin _ ?_))
          rw [hmod] at hneg ⊢
          split
          · rename_i h; rw [if_pos h] at hneg; omega
          · rfl
      refine EvI.go hstep ?_
      have := ih (u / 10) (by omega) (x.tdiv 10) (xs ++ [((48 + u % 10 : Nat) : Int)]) (by rw [hdiv]; split <;> omega) (by omega) (by simp; omega) (by simp at hd2 ⊢; omega) d' (by
        rw [Nat.pow_succ] at hd; omega) (by simp; omega)
      rw [List.append_assoc] at this
      exact this
theorem decD_len : ∀ (d u : Nat), u < 10 ^ (d + 1) → (Lib.decDigits u).length ≤ d + 1
  | 0, u, h => by rw [Lib.decDigits_one (by omega)]; simp
  | d + 1, u, h => by
    by_cases hu : u < 10
    · rw [Lib.decDigits_one hu]; simp
    · rw [dec_big hu, List.length_append]
      have := decD_len d (u / 10) (by rw [Nat.pow_succ] at h; omega)
      simp; omega
theorem itoa_len {n : Int} (h1 : -1000000000000000 ≤ n) (h2 : n ≤ 1000000000000000) : (Lib.itoa n).length ≤ 21 := by
  unfold Lib.itoa
  split
  · have := decD_len 17 n.natAbs (by omega)
    simp; omega
  · have := decD_len 17 n.toNat (by omega)
    omega
theorem dec_ref {n : Int} (h1 : -1000000000000000 ≤ n) (h2 : n ≤ 1000000000000000) : Ev (fun m => spec_l01Dec_m m n) (Lib.itoa n) := by
  unfold spec_l01Dec_m
  by_cases h0 : n = 0
  · subst h0
    exact (Ev.ite_t (by simp) (Ev.pure _)).eq (by
      unfold Lib.itoa
      rw [if_neg (by omega)]
      exact (Lib.decDigits_one (i := 0) (by omega)).symm)
  refine Ev.ite_f (by simpa using h0) ?_
  have hl := dec_loop n n.natAbs n [] rfl (by omega) (by simp; omega) (by simp) 18 (by omega) (by simp)
  rw [List.nil_append] at hl
  have hrv : rvE n.natAbs = rvD n.natAbs := by unfold rvE; rw [if_neg (by omega)]
  have hdl : (Lib.decDigits n.natAbs).length ≤ 40 := by
    have := decD_len 17 n.natAbs (by omega)
    omega
  have hrl : (rvD n.natAbs).length ≤ 40 := by unfold rvD; simpa using hdl
  rw [hrv] at hl
  let ds : List Int := if n < 0 then rvD n.natAbs ++ [45] else rvD n.natAbs
  have hdsl : ds.length ≤ 41 := by
    show (if n < 0 then _ else _ : List Int).length ≤ 41
    split
    · simp; omega
    · omega
  have hres : bstr ds.reverse = Lib.itoa n := by
    have hb : ∀ l : Str, bstr (l.map fun b => (b.toNat : Int)) = l := by
      intro l
      unfold bstr
      rw [List.map_map]
      refine (List.map_congr_left fun b _ => ?_).trans (List.map_id _)
      simp
    show bstr (if n < 0 then rvD n.natAbs ++ [45] else rvD n.natAbs).reverse = _
    unfold rvD Lib.itoa
    by_cases hn : n < 0
    · rw [if_pos hn, if_pos hn, List.reverse_append, ← List.map_reverse, List.reverse_reverse]
      have := hb (45 :: Lib.decDigits n.natAbs)
      simpa using this
    · rw [if_neg hn, if_neg hn, ← List.map_reverse, List.reverse_reverse, show n.toNat = n.natAbs by omega]
      exact hb _
  have hrev : ∀ ds : List Int, ds.length ≤ 41 → Ev (fun m => (iter (fun (s : (List Int) × (Int)) => (match s with | (xs108, x110) => (if (decide ((0 : Int) ≤ x110)) = true then (idx ds x110).bind fun x141 => (app xs108 [x141]).bind fun x149 => some (.inl (x149, (W (x110 - (1 : Int))))) else some (.inr (.inl (xs108)))) : Option (((List Int) × (Int)) ⊕ (((List Int)) ⊕ (Str))))) m (([] : List Int), (W ((ds.length : Int) - (1 : Int))))).bind fun res132 => ctl (β := (List Int)) (ρ := Str) (τ := Str) res132 (fun (xs130) => some ((bstr xs130))) (fun q => some (q))) (bstr ds.reverse) := by
    intro ds hdsl
    refine Ev.bind (a := Sum.inl ds.reverse) (EvI.ev ?_) (Ev.pure _)
    refine EvI.upto ds.length (fun k (_ : Unit) => (ds.reverse.take k, (ds.length : Int) - 1 - (k : Int))) (fun _ _ => True) (k := 0) (t := ()) (by rw [W_of (by omega) (by omega)]; simp) (Nat.zero_le _) trivial (fun k _ hk _ => ⟨(), ?_, trivial⟩) (fun _ _ => by
      dsimp only
      refine Ev.ite_f (by simp; omega) (Ev.const ?_)
      rw [List.take_of_length_le (by simp)])
    obtain ⟨x, hx⟩ := get_lt (xs := ds.reverse) (k := k) (by simpa using hk)
    have hx' : ds[ds.length - 1 - k]? = some x := by rw [← List.getElem?_reverse hk]; exact hx
    dsimp only
    refine Ev.ite_t (decide_eq_true (by omega)) (Ev.bindc (a := x) ?_ (Ev.bindc (app_ok (by simp; omega)) (Ev.const ?_)))
    · have := idx_at hx'
      rwa [show ((ds.length - 1 - k : Nat) : Int) = (ds.length : Int) - 1 - (k : Int) by omega] at this
    · rw [List.take_add_one, hx, W_of (by omega) (by omega), show (ds.length : Int) - 1 - (k : Int) - 1 = (ds.length : Int) - 1 - ((k + 1 : Nat) : Int) by omega]
      rfl
  refine Ev.bind (a := Sum.inl (rvD n.natAbs)) (EvI.ev hl) (Ev.join ?_)
  rw [← hres]
  by_cases hn : n < 0
  · refine Ev.ite_t (decide_eq_true hn) (Ev.bindc (app_ok (by simp; omega)) ?_)
    have e : ds = rvD n.natAbs ++ [45] := if_pos hn
    rw [e]
    exact hrev _ (by simp; omega)
  · refine Ev.ite_f (by simpa using hn) ?_
    have e : ds = rvD n.natAbs := if_neg hn
    rw [e]
    exact hrev _ (by omega)

/-! ### lists of decimals -/
def val12 (n : Int) : Bool := decide (-1000000000000 ≤ n) && decide (n ≤ 1000000000000)
def listP (vs : List Int) : Bool := decide (vs.length ≤ 64) && vs.all val12
theorem val12_iff {n : Int} : val12 n = true ↔ -1000000000000 ≤ n ∧ n ≤ 1000000000000 := by unfold val12; simp
/-- The text of a list. -/
def lstT (vs : List Int) : Str := if vs = [] then [45] else Lib.join (vs.map Lib.itoa) [44]
theorem join_snoc (c : Str) (xs : List Str) (y : Str) : Lib.join (xs ++ [y]) c = if xs = [] then y else Lib.join xs c ++ c ++ y := by
  cases xs with
  | nil => simp [Lib.join_one]
  | cons x r =>
    rw [if_neg (by simp), List.cons_append, Lib.join_cons, Lib.join_cons]
    simp [Lib.joinTail]
theorem join_le {c : Str} {L : Nat} : ∀ (xs : List Str), (∀ x ∈ xs, x.length ≤ L) → (Lib.join xs c).length ≤ xs.length * (L + c.length) := by
  refine rev_ind (fun _ => by simp [Lib.join_nil]) fun xs y ih h => ?_
  have h1 := ih fun x hx => h x (by simp [hx])
  have h2 := h y (by simp)
  rw [join_snoc, List.length_append, Nat.add_mul]
  split
  · simp; omega
  · simp; omega
theorem lst_spec {vs : List Int} (hl : vs.length ≤ 100000) (h : ∀ v ∈ vs, -1000000000000000 ≤ v ∧ v ≤ 1000000000000000) : Ev (fun m => spec_l01List_m m vs) (lstT vs) := by
  unfold spec_l01List_m lstT
  by_cases h0 : vs = []
  · rw [if_pos h0]
    subst h0
    exact Ev.ite_t (by simp) (Ev.pure _)
  rw [if_neg h0]
  have hne : ¬ ((vs.length : Int) == 0) = true := by
    intro e
    exact h0 (List.eq_nil_of_length_eq_zero (by have := beq_iff_eq.1 e; omega))
  refine Ev.ite_f hne (Ev.bind (a := Sum.inl (Lib.join (vs.map Lib.itoa) [44])) (EvI.ev ?_) (Ev.pure _))
  refine EvI.upto vs.length (fun k (_ : Unit) => (Lib.join ((vs.take k).map Lib.itoa) [44], (k : Int))) (fun _ _ => True) (k := 0) (t := ()) (by simp [Lib.join_nil]) (Nat.zero_le _) trivial (fun k _ hk _ => ⟨(), ?_, trivial⟩) (fun _ _ => by
    dsimp only
    exact Ev.ite_f (by simp) (Ev.const (by rw [List.take_length])))
  obtain ⟨v, hv⟩ := get_lt hk
  have hb := h v (List.mem_of_getElem? hv)
  have hil := itoa_len hb.1 hb.2
  have hjl := join_le (c := [44]) (L := 21) ((vs.take k).map Lib.itoa) (fun x hx => by
    obtain ⟨v, hv, rfl⟩ := List.mem_map.1 hx
    have := h v (List.mem_of_mem_take hv)
    exact itoa_len this.1 this.2)
  rw [List.length_map] at hjl
  have hjl : (Lib.join ((vs.take k).map Lib.itoa) [44]).length ≤ 100000 * 22 := Nat.le_trans hjl (Nat.mul_le_mul (by rw [List.length_take]; omega) (Nat.le_refl _))
  dsimp only
  rw [List.take_add_one, hv, List.map_append]
  rw [show (some v).toList.map Lib.itoa = [Lib.itoa v] from rfl, join_snoc]
  generalize hg : Lib.join ((vs.take k).map Lib.itoa) [44] = j at hjl ⊢
  refine Ev.ite_t (decide_eq_true (by omega)) (Ev.join ?_)
  by_cases hk0 : k = 0
  · subst hk0
    rw [if_pos (by simp)]
    have hj : j = [] := by rw [← hg]; simp [Lib.join_nil]
    refine Ev.ite_f (by simp) (Ev.bindc (idx_at hv) (Ev.bind (dec_ref hb.1 hb.2) (Ev.bindc (cat_ev (by omega)) (Ev.const ?_))))
    rw [hj, W_succ hk (by omega)]; rfl
  · rw [if_neg (by intro e; have h3 := congrArg List.length e; rw [List.length_map, List.length_take, List.length_nil] at h3; omega)]
    refine Ev.ite_t (decide_eq_true (by omega)) (Ev.bindc (cat_ev (by simp; omega)) (Ev.bindc (idx_at hv) (Ev.bind (dec_ref hb.1 hb.2) (Ev.bindc (cat_ev (by simp; omega)) (Ev.const ?_)))))
    rw [W_succ hk (by omega)]
theorem joined_law {vs : List Int} {c : UInt8} (hl : vs.length ≤ 100000) (h : ∀ v ∈ vs, -1000000000000000 ≤ v ∧ v ≤ 1000000000000000) : Ev (fun m => impl_joined_m m vs [c]) (Lib.join (vs.map Lib.itoa) [c]) := by
  unfold impl_joined_m
  have hjl := join_le (c := [c]) (L := 21) (vs.map Lib.itoa) (fun x hx => by
    obtain ⟨v, hv, rfl⟩ := List.mem_map.1 hx
    have := h v hv
    exact itoa_len this.1 this.2)
  rw [List.length_map] at hjl
  simp at hjl
  refine Ev.bindc (mks_ok (by omega)) (Ev.bind (fill_iter (f := Lib.itoa) (to' := impl_Decimal_m) (a := vs) (z := ([] : Str)) (fun x hx => Ev.const' fun m => by
    have := h x hx
    exact dec_m (by omega) (by omega)) (by omega)).ev (Ev.const' fun m => ?_))
  rw [ctl_l]
  unfold strings_Join_m
  rw [if_pos ⟨by simp; omega, by omega⟩]
  rfl
theorem listOk_ev {vs : List Int} (hl : vs.length ≤ maxLen) : Ev (fun m => impl_listOk_m m vs) (listP vs) := by
  unfold impl_listOk_m listP
  by_cases h : vs.length ≤ 64
  · rw [decide_eq_true h, Bool.true_and]
    refine Ev.bind (a := vs.all val12) (Ev.ite_t (decide_eq_true (by omega)) (Ev.bind (a := !(vs.all val12)) ?_ (Ev.const (by rw [Bool.not_not])))) (Ev.pure _)
    have := contains_loop hl (f := fun m z => impl_listOk_1_m m z) (ok := val12) (fun x _ => Ev.const' fun m => by
      unfold impl_listOk_1_m
      simp only [within_eq, Option.bind_some]
      rfl)
    unfold slices_ContainsFunc__int64_int64_m slices_IndexFunc__int64_int64_m
    exact this
  · rw [decide_eq_false h, Bool.false_and]
    exact Ev.bind (a := false) (Ev.ite_f (by simp; omega) (Ev.pure _)) (Ev.pure _)
theorem lstT_impl {vs : List Int} (hl : vs.length ≤ maxLen) : Ev (fun m => impl_ListText_m m vs) (if listP vs = true then lstT vs else []) := by
  unfold impl_ListText_m
  refine Ev.bind (listOk_ev hl) ?_
  cases hp : listP vs
  · exact Ev.ite_t rfl (Ev.pure _)
  · refine Ev.ite_f (by simp) ?_
    unfold listP at hp
    simp only [Bool.and_eq_true, decide_eq_true_eq, List.all_eq_true] at hp
    rw [if_pos rfl]
    unfold lstT
    by_cases h0 : vs = []
    · rw [if_pos h0]
      subst h0
      exact Ev.ite_t (by simp) (Ev.pure _)
    · rw [if_neg h0]
      have hne : ¬ ((vs.length : Int) == 0) = true := by
        intro e
        exact h0 (List.eq_nil_of_length_eq_zero (by have := beq_iff_eq.1 e; omega))
      refine Ev.ite_f hne (Ev.bind (joined_law (by omega) fun v hv => ?_) (Ev.pure _))
      have := val12_iff.1 (hp.2 v hv)
      omega
theorem lstT_len {vs : List Int} (hp : listP vs = true) : (lstT vs).length ≤ 1408 := by
  unfold listP at hp
  simp only [Bool.and_eq_true, decide_eq_true_eq, List.all_eq_true] at hp
  unfold lstT
  split
  · simp
  · have := join_le (c := [44]) (L := 21) (vs.map Lib.itoa) (fun x hx => by
      obtain ⟨v, hv, rfl⟩ := List.mem_map.1 hx
      have := val12_iff.1 (hp.2 v hv)
      exact itoa_len (by omega) (by omega))
    rw [List.length_map] at this
    simp at this
    omega
def fitsE (a : List Timpl_Equation) : Bool := a.all fun x => decide (x.2.2.length ≤ 64)
def eqnT (x : Timpl_Equation) : Str := (if x.1 = true then [110, 117] else [109, 117]) ++ [32] ++ (if x.2.1 = true then [97, 108, 108] else [97, 110, 121]) ++ [32] ++ lstT x.2.2
def eqnsT (a : List Timpl_Equation) : Str := Lib.join (a.map eqnT) [10]
theorem terms_ok {a : List Timpl_Equation} (hv : validE a = true) (hf : fitsE a = true) {x : Timpl_Equation} (hx : x ∈ a) : listP x.2.2 = true := by
  have hwf := validE_wf hv
  simp only [validE, Bool.and_eq_true, decide_eq_true_eq, List.all_eq_true] at hv
  have hr := hv.2 x hx
  rw [W_of (by omega) (by omega)] at hr
  unfold fitsE at hf
  have h64 := of_decide_eq_true (List.all_eq_true.1 hf x hx)
  unfold listP
  rw [decide_eq_true h64, Bool.true_and, List.all_eq_true]
  intro v hv'
  obtain ⟨k, hk⟩ := List.mem_iff_getElem?.1 hv'
  have hkl := (List.getElem?_eq_some_iff.1 hk).1
  simp only [rises, decide_eq_true_eq] at hr
  have := hr k hkl
  simp only [okAt, hk, Bool.and_eq_true, decide_eq_true_eq] at this
  exact val12_iff.2 (by omega)
theorem eqnT_len {x : Timpl_Equation} (h : listP x.2.2 = true) : (eqnT x).length ≤ 1500 := by
  have := lstT_len h
  unfold eqnT
  simp only [List.length_append]
  split <;> split <;> simp <;> omega
theorem fits_ref {a : List Timpl_Equation} (hl : a.length ≤ 1048576) : Ev (fun m => spec_l22Fits_m m a) (fitsE a) := by
  unfold spec_l22Fits_m
  refine (Ev.all a.length (fun k => match a[k]? with | none => true | some x => decide (x.2.2.length ≤ 64)) false true (fun k hk hok => ?_) (fun k hk hok => ?_) (Ev.ite_f (by simp) (Ev.pure _))).eq ?_
  · obtain ⟨x, hx⟩ := get_lt hk
    simp only [hx, decide_eq_true_eq] at hok
    exact Ev.ite_t (decide_eq_true (by omega)) (Ev.bindc (idx_at hx) (Ev.ite_f (by simp; omega) (Ev.const (by rw [W_succ hk (by omega)]))))
  · obtain ⟨x, hx⟩ := get_lt hk
    simp only [hx, decide_eq_false_iff_not] at hok
    exact Ev.ite_t (decide_eq_true (by omega)) (Ev.bindc (idx_at hx) (Ev.ite_t (by simp; omega) (Ev.pure _)))
  · rw [all_list (a := a) (ok := fun x => decide (x.2.2.length ≤ 64)) (h := fun k => match a[k]? with | none => true | some x => decide (x.2.2.length ≤ 64)) (fun k => by cases a[k]? <;> rfl)]
    unfold fitsE
    cases a.all fun x => decide (x.2.2.length ≤ 64) <;> rfl
theorem pre_len {a : List Timpl_Equation} (hv : validE a = true) (hf : fitsE a = true) (k : Nat) : (Lib.join ((a.take k).map eqnT) [10]).length ≤ 200000 := by
  have hwf := validE_wf hv
  have h := join_le (c := [10]) (L := 1500) ((a.take k).map eqnT) (fun x hx => by
    obtain ⟨y, hy, rfl⟩ := List.mem_map.1 hx
    exact eqnT_len (terms_ok hv hf (List.mem_of_mem_take hy)))
  rw [List.length_map] at h
  have h2 : (a.take k).length ≤ 120 := by rw [List.length_take]; omega
  have h3 := Nat.mul_le_mul h2 (Nat.le_refl (1500 + ([10] : Str).length))
  have h4 : 120 * (1500 + ([10] : Str).length) ≤ 200000 := by decide
  omega
theorem text_ref {a : List Timpl_Equation} (hv : validE a = true) (hf : fitsE a = true) : Ev (fun m => spec_l22Text_m m a) (eqnsT a) := by
  have hwf := validE_wf hv
  unfold spec_l22Text_m eqnsT
  refine Ev.bind (a := Sum.inl (Lib.join (a.map eqnT) [10])) (EvI.ev ?_) (Ev.pure _)
  refine EvI.upto a.length (fun k (_ : Unit) => (Lib.join ((a.take k).map eqnT) [10], (k : Int))) (fun _ _ => True) (k := 0) (t := ()) (by simp [Lib.join_nil]) (Nat.zero_le _) trivial (fun k _ hk _ => ⟨(), ?_, trivial⟩) (fun _ _ => by
    dsimp only
    exact Ev.ite_f (by simp) (Ev.const (by rw [List.take_length])))
  obtain ⟨x, hx⟩ := get_lt hk
  have hxm := List.mem_of_getElem? hx
  have hp := terms_ok hv hf hxm
  have hll := lstT_len hp
  have hjl := pre_len hv hf k
  have hlst : Ev (fun m => spec_l01List_m m x.2.2) (lstT x.2.2) := by
    have hp' := hp
    unfold listP at hp'
    simp only [Bool.and_eq_true, decide_eq_true_eq, List.all_eq_true] at hp'
    exact lst_spec (by omega) fun v hv => by have := val12_iff.1 (hp'.2 v hv); omega
  dsimp only
  rw [List.take_add_one, hx, List.map_append]
  rw [show (some x).toList.map eqnT = [eqnT x] from rfl, join_snoc]
  generalize hg : Lib.join ((a.take k).map eqnT) [10] = j at hjl ⊢
  -- what stands behind the line's end
  have rest : ∀ j' : Str, j'.length ≤ 200100 → Ev (fun fuel => join (κ := Str → Option (((Str) × (Int)) ⊕ ((Str) ⊕ (Str)))) (fun (x200 : Str) => join (κ := Str → Option (((Str) × (Int)) ⊕ ((Str) ⊕ (Str)))) (fun (x203 : Str) => (idx a (k : Int)).bind fun x206 => (spec_l01List_m fuel x206.2.2).bind fun x223 => (cat x203 x223).bind fun x226 => some (.inl (x226, (W ((k : Int) + (1 : Int)))))) (fun K204 => (idx a (k : Int)).bind fun x228 => (if x228.2.1 = true then (cat x200 ([97, 108, 108, 32] : Str)).bind fun x244 => (K204 x244) else (cat x200 ([97, 110, 121, 32] : Str)).bind fun x246 => (K204 x246)))) (fun K201 => (idx a (k : Int)).bind fun x248 => (if x248.1 = true then (cat j' ([110, 117, 32] : Str)).bind fun x264 => (K201 x264) else (cat j' ([109, 117, 32] : Str)).bind fun x266 => (K201 x266)))) (.inl (j' ++ eqnT x, ((k + 1 : Nat) : Int))) := by
    intro j' hj'
    have last : ∀ z : Str, z.length ≤ 200200 → z ++ lstT x.2.2 = j' ++ eqnT x → Ev (fun fuel => (idx a (k : Int)).bind fun x206 => (spec_l01List_m fuel x206.2.2).bind fun x223 => (cat z x223).bind fun x226 => (some (.inl (x226, (W ((k : Int) + (1 : Int))))) : Option (((Str) × (Int)) ⊕ ((Str) ⊕ (Str))))) (.inl (j' ++ eqnT x, ((k + 1 : Nat) : Int))) := by
      intro z hz he
      refine Ev.bindc (idx_at hx) (Ev.bind hlst (Ev.bindc (cat_ev (by omega)) (Ev.const ?_)))
      rw [he, W_succ hk (by omega)]
    refine Ev.join (Ev.bindc (idx_at hx) ?_)
    by_cases h1 : x.1 = true
    · refine Ev.ite_t h1 (Ev.bindc (cat_ev (by simp; omega)) (Ev.join (Ev.bindc (idx_at hx) ?_)))
      by_cases h2 : x.2.1 = true
      · refine Ev.ite_t h2 (Ev.bindc (cat_ev (by simp; omega)) (last _ (by simp; omega) ?_))
        unfold eqnT
        simp [h1, h2]
      · refine Ev.ite_f h2 (Ev.bindc (cat_ev (by simp; omega)) (last _ (by simp; omega) ?_))
        unfold eqnT
        simp [h1, h2]
    · refine Ev.ite_f h1 (Ev.bindc (cat_ev (by simp; omega)) (Ev.join (Ev.bindc (idx_at hx) ?_)))
      by_cases h2 : x.2.1 = true
      · refine Ev.ite_t h2 (Ev.bindc (cat_ev (by simp; omega)) (last _ (by simp; omega) ?_))
        unfold eqnT
        simp [h1, h2]
      · refine Ev.ite_f h2 (Ev.bindc (cat_ev (by simp; omega)) (last _ (by simp; omega) ?_))
        unfold eqnT
        simp [h1, h2]
  refine Ev.ite_t (decide_eq_true (by omega)) (Ev.join ?_)
  by_cases hk0 : k = 0
  · subst hk0
    rw [if_pos (by simp)]
    have hj : j = [] := by rw [← hg]; simp [Lib.join_nil]
    subst hj
    exact Ev.ite_f (by simp) (rest [] (by simp))
  · rw [if_neg (by intro e; have h3 := congrArg List.length e; rw [List.length_map, List.length_take, List.length_nil] at h3; omega)]
    refine Ev.ite_t (decide_eq_true (by omega)) (Ev.bindc (cat_ev (by simp; omega)) ?_)
    exact rest (j ++ [10]) (by simp; omega)
theorem etext_impl {a : List Timpl_Equation} (hl : a.length ≤ 1048576) (g : ∀ x ∈ a, x.2.2.length ≤ 1048576) : Ev (fun m => impl_EquationsText_m m a) (if validE a = true ∧ fitsE a = true then eqnsT a else []) := by
  unfold impl_EquationsText_m
  have hm : maxLen = 9223372036854775807 := by unfold maxLen; rfl
  have hfind : Ev (fun m => slices_ContainsFunc__impl_Equation_impl_Equation_m m a (fun (z0 : Timpl_Equation) => impl_EquationsText_1_m m z0)) (!(fitsE a)) :=
    find_law (f := fun m z0 => impl_EquationsText_1_m m z0) (by omega) (fun x hx => by
      unfold impl_EquationsText_1_m
      refine Ev.const (congrArg some ?_)
      rw [← decide_not]
      exact decide_eq_decide.2 (by omega))
  refine Ev.bind (validE_impl hl g) (Ev.bind (a := !(validE a && fitsE a)) ?_ ?_)
  · cases hv : validE a
    · exact Ev.ite_t rfl (Ev.pure _)
    · exact (Ev.ite_f (by simp) (Ev.bind hfind (Ev.pure _))).eq (by simp)
  · cases hv : validE a
    · exact (Ev.ite_t (by simp) (Ev.pure _)).eq (by simp)
    cases hf : fitsE a
    · exact (Ev.ite_t (by simp) (Ev.pure _)).eq (by simp)
    refine Ev.eq ?_ (if_pos ⟨rfl, rfl⟩).symm
    refine Ev.ite_f (by simp) ?_
    have hwf := validE_wf hv
    refine Ev.bind (a := Sum.inl (a.map eqnT)) (append_map (step := _) a eqnT (fun k x hx => ?_) (fun xs => Ev.ite_f (by simp) (Ev.pure _))).ev ?_
    · have hk := (List.getElem?_eq_some_iff.1 hx).1
      have hxm := List.mem_of_getElem? hx
      have hp := terms_ok hv hf hxm
      have hll := lstT_len hp
      have hlst := lstT_impl (vs := x.2.2) (by have := g x hxm; omega)
      rw [if_pos hp] at hlst
      have last : ∀ p q : Str, p.length ≤ 100 → q.length ≤ 100 → p ++ [32] ++ q ++ [32] ++ lstT x.2.2 = eqnT x → Ev (fun fuel => (cat p ([32] : Str)).bind fun x199 => (cat x199 q).bind fun x201 => (cat x201 ([32] : Str)).bind fun x203 => (impl_ListText_m fuel x.2.2).bind fun x207 => (cat x203 x207).bind fun x210 => (app ((a.take k).map eqnT) [x210]).bind fun x215 => (some (.inl (x215, (W ((k : Int) + (1 : Int))))) : Option (((List Str) × (Int)) ⊕ (((List Str)) ⊕ (Str))))) (.inl ((a.take k).map eqnT ++ [eqnT x], ((k + 1 : Nat) : Int))) := by
        intro p q hp hq he
        refine Ev.bindc (cat_ev (by simp; omega)) (Ev.bindc (cat_ev (by simp; omega)) (Ev.bindc (cat_ev (by simp; omega)) (Ev.bind hlst (Ev.bindc (cat_ev (by simp; omega)) (Ev.bindc (app_ok (by rw [List.length_map, List.length_take]; simp; omega)) (Ev.const ?_))))))
        rw [he, W_succ hk (by omega)]
      refine Ev.ite_t (decide_eq_true (by omega)) (Ev.bindc (idx_at hx) (Ev.join ?_))
      by_cases h1 : x.1 = true
      · refine Ev.ite_t h1 (Ev.join ?_)
        by_cases h2 : x.2.1 = true
        · exact Ev.ite_t h2 (last _ _ (by simp) (by simp) (by unfold eqnT; simp [h1, h2]))
        · exact Ev.ite_f h2 (last _ _ (by simp) (by simp) (by unfold eqnT; simp [h1, h2]))
      · refine Ev.ite_f h1 (Ev.join ?_)
        by_cases h2 : x.2.1 = true
        · exact Ev.ite_t h2 (last _ _ (by simp) (by simp) (by unfold eqnT; simp [h1, h2]))
        · exact Ev.ite_f h2 (last _ _ (by simp) (by simp) (by unfold eqnT; simp [h1, h2]))
    · have hjl := pre_len hv hf a.length
      rw [List.take_length] at hjl
      show Ev (fun m => (strings_Join_m m (a.map eqnT) ([10] : Str)).bind fun x => some x) _
      refine Ev.bind (a := eqnsT a) (Ev.const' fun m => ?_) (Ev.pure _)
      unfold strings_Join_m
      rw [if_pos ⟨by simp; omega, by omega⟩]
      rfl
theorem splitL {m : Nat} {s : Str} (c : UInt8) (hl : s.length < 4294967281) : strings_Split_m m s [c] = some (splitC c s) := by
  unfold strings_Split_m
  have hc : Lib.countB ⟨s.toArray⟩ ⟨([c] : Str).toArray⟩ = Lib.count s [c] := rfl
  have hs1 : (⟨([c] : Str).toArray⟩ : ByteArray).size = 1 := size_sv [c]
  have h3 := Lib.splitB_all ⟨([c] : Str).toArray⟩ (by rw [hs1]; decide) 0 _ ⟨s.toArray⟩ rfl
  have h4 := Lib.countB_le ⟨([c] : Str).toArray⟩ (by rw [hs1]; decide) _ ⟨s.toArray⟩ (Nat.le_refl _)
  have h5 : (⟨s.toArray⟩ : ByteArray).size = s.length := size_sv s
  have h6 := mx
  rw [if_pos ⟨hl, by simp, h3, by omega⟩, Lib.splitB_data]
  exact congrArg some (splitK_eq c s)

theorem splitR {s : Str} (c : UInt8) (hl : s.length < 4294967281) : Ev (fun m => spec_l01Split_m m s (c.toNat : Int)) (splitC c s) := by
  have hm := mx
  unfold spec_l01Split_m
  refine Exists.elim (EvI.count (step := _) s.length (fun k (t : List Str × Nat) => (t.1, (t.2 : Int), (k : Int))) (fun k t => t.2 ≤ k ∧ splitC c (s.take k) = t.1 ++ [(s.take k).drop t.2])
    (fun r => ∃ (o : List Str) (f : Nat), r = .inl (o, (f : Int)) ∧ f ≤ s.length ∧ splitC c s = o ++ [s.drop f]) ?_ ?_ (k := 0) (t := ([], 0)) (Nat.zero_le _) ⟨Nat.le_refl _, rfl⟩)
    (fun res ⟨h1, o, f, h2, h3, h4⟩ => Ev.bind h1.ev (by
      subst h2
      have hlen : o.length ≤ s.length + 1 := by
        have := splitC_len c s
        rw [h4] at this
        simp at this
        omega
      rw [h4]
      have hs : sub s (f : Int) (s.length : Int) = some (s.drop f) := by rw [sub_ok h3 (Nat.le_refl _), List.take_length]
      exact Ev.bindc hs (Ev.bindc (app_ok (by simp; omega)) (Ev.pure _))))
  · rintro k ⟨o, f⟩ hk ⟨hf, hI⟩
    have hf : f ≤ k := hf
    have hI : splitC c (s.take k) = o ++ [(s.take k).drop f] := hI
    obtain ⟨b, hb⟩ := get_lt hk
    have hk' : decide ((k : Int) < (s.length : Int)) = true := by simpa using hk
    have htk : s.take (k + 1) = s.take k ++ [b] := by rw [List.take_add_one, hb]; rfl
    left
    by_cases h : b = c
    · subst h
      have hlen : o.length ≤ s.length := by
        have := splitC_len b (s.take k)
        rw [hI] at this
        simp at this
        omega
      refine ⟨(o ++ [(s.take k).drop f], k + 1), Ev.ite_t hk' (Ev.join (Ev.bindc (idx_at hb) (Ev.ite_t (by simp) (Ev.bindc (sub_ok hf (by omega)) (Ev.bindc (app_ok (by simp; omega)) (Ev.const ?_)))))), Nat.le_refl _, ?_⟩
      · rw [W_succ hk (by omega)]
      · show splitC b (s.take (k + 1)) = _
        rw [htk, splitC_snoc_eq, hI]
        congr 2
        rw [List.drop_eq_nil_of_le (by simp; omega)]
    · refine ⟨(o, f), Ev.ite_t hk' (Ev.join (Ev.bindc (idx_at hb) (Ev.ite_f ?_ (Ev.const ?_)))), by show f ≤ k + 1; omega, ?_⟩
      · intro g
        have := beq_iff_eq.1 g
        exact h (UInt8.toNat_inj.1 (show b.toNat = c.toNat by omega))
      · rw [W_succ hk (by omega)]
      · show splitC c (s.take (k + 1)) = o ++ [(s.take (k + 1)).drop f]
        rw [htk, splitC_snoc_ne h _ _ _ hI, List.drop_append_of_le_length (by simp; omega)]
  · rintro ⟨o, f⟩ ⟨hf, hI⟩
    refine ⟨_, Ev.ite_f (by simp) (Ev.pure _), o, f, rfl, hf, ?_⟩
    rw [List.take_length] at hI
    exact hI

theorem splitC_piece (c : UInt8) : ∀ (s : Str) (w : Str), w ∈ splitC c s → w.length ≤ s.length
  | [], w, h => by
    have : w ∈ [([] : Str)] := h
    have : w = [] := by simpa using this
    subst this; simp
  | a :: r, w, h => by
    unfold splitC at h
    split at h
    · rcases List.mem_cons.1 h with rfl | h
      · simp
      · have := splitC_piece c r w h
        simp; omega
    · rcases snoc_or (splitC c r) with hr | ⟨o', l', hr⟩
      · exact absurd hr (splitC_ne c r)
      · cases hq : splitC c r with
        | nil => exact absurd hq (splitC_ne c r)
        | cons x t =>
          rw [hq] at h
          simp only [List.headD_cons, List.tail_cons] at h
          have hx := splitC_piece c r x (by rw [hq]; simp)
          rcases List.mem_cons.1 h with rfl | h
          · simp; omega
          · have := splitC_piece c r w (by rw [hq]; simp [h])
            simp; omega

/-- A list read. -/
def readL (s : Str) : List Int × Bool :=
  if s = [45] then ([], true) else
  if (splitC 44 s).all numB = true ∧ listP ((splitC 44 s).map numV) = true then ((splitC 44 s).map numV, true) else ([], false)
theorem readL_impl {s : Str} (hl : s.length ≤ 1048576) : Ev (fun m => impl_ReadList_m m s) (readL s) := by
  have hmx := mx
  have hsl := splitC_len 44 s
  unfold impl_ReadList_m readL
  by_cases h : s = [45]
  · rw [if_pos h]
    exact Ev.ite_t (by rw [h]; rfl) (Ev.pure _)
  rw [if_neg h]
  refine Ev.ite_f (by simpa using h) (Ev.bind (Ev.const' fun m => splitL 44 (by omega)) (Ev.bind (read_nums (by omega) fun w hw => by have := splitC_piece 44 s w hw; omega) ?_))
  by_cases h1 : (splitC 44 s).all numB = true
  · rw [if_pos h1]
    have hlo := listOk_ev (vs := (splitC 44 s).map numV) (by simp; omega)
    refine Ev.bind (a := !(listP ((splitC 44 s).map numV))) (Ev.ite_f (by simp) (Ev.bind hlo (Ev.pure _))) ?_
    cases h2 : listP ((splitC 44 s).map numV)
    · exact Ev.eq (r := ([], false)) (Ev.ite_t rfl (Ev.pure _)) (if_neg (fun q => by cases q.2)).symm
    · exact Ev.eq (r := ((splitC 44 s).map numV, true)) (Ev.ite_f (by simp) (Ev.pure _)) (if_pos ⟨h1, rfl⟩).symm
  · rw [if_neg h1, if_neg (fun q => h1 q.1)]
    exact Ev.bind (a := true) (Ev.ite_t rfl (Ev.pure _)) (Ev.ite_t rfl (Ev.pure _))
theorem readL_spec {s : Str} (hl : s.length ≤ 1048576) : Ev (fun m => spec_ReadList_m m s) (readL s) := by
  have hmx := mx
  have hsl := splitC_len 44 s
  unfold spec_ReadList_m readL
  by_cases h : s = [45]
  · rw [if_pos h]
    exact Ev.ite_t (by rw [h]; rfl) (Ev.pure _)
  rw [if_neg h]
  refine Ev.ite_f (by simpa using h) (Ev.bind (splitR 44 (by omega)) ?_)
  by_cases h64 : 64 < (splitC 44 s).length
  · refine Ev.eq (r := ([], false)) (Ev.ite_t (decide_eq_true (by omega)) (Ev.pure _)) ?_
    rw [if_neg]
    rintro ⟨_, h2⟩
    unfold listP at h2
    simp only [Bool.and_eq_true, decide_eq_true_eq, List.length_map] at h2
    omega
  refine Ev.ite_f (by simp; omega) ?_
  have hpc := splitC_piece 44 s
  generalize splitC 44 s = ws at *
  have hA : ((ws.all numB = true ∧ listP (ws.map numV) = true) ↔ ws.all (fun w => numB w && val12 (numV w)) = true) := by
    unfold listP
    simp only [List.length_map, Bool.and_eq_true, decide_eq_true_eq, List.all_eq_true, List.mem_map, forall_exists_index, and_imp, forall_apply_eq_imp_iff₂]
    constructor
    · rintro ⟨a, _, b⟩ w hw; exact ⟨a w hw, b w hw⟩
    · intro q; exact ⟨fun w hw => (q w hw).1, by omega, fun w hw => (q w hw).2⟩
  refine Exists.elim (EvI.count (β := List Int ⊕ (List Int × Bool)) (step := _) ws.length (fun k (_ : Unit) => ((ws.take k).map numV, (k : Int))) (fun k _ => (ws.take k).all (fun w => numB w && val12 (numV w)) = true)
    (fun r => r = (if ws.all (fun w => numB w && val12 (numV w)) = true then .inl (ws.map numV) else .inr ([], false))) ?_ ?_ (k := 0) (t := ()) (Nat.zero_le _) (by simp)) (fun res ⟨e1, e2⟩ => Ev.bind e1.ev ?_)
  · intro k _ hk hI
    obtain ⟨w, hw⟩ := get_lt hk
    have hwl := hpc w (List.mem_of_getElem? hw)
    have htk : ws.take (k + 1) = ws.take k ++ [w] := by rw [List.take_add_one, hw]; rfl
    have hns := num_spec (w := w) (by omega)
    have hbad : Ev (fun m => (if (!(numV w, numB w).2) = true then some true else (spec_l00In_m m (numV w, numB w).1 (-1000000000000 : Int) (1000000000000 : Int)).bind fun x142 => some (!x142))) (!(numB w && val12 (numV w))) := by
      cases hb : numB w
      · exact Ev.ite_t rfl (Ev.pure _)
      · refine Ev.ite_f (by simp) (Ev.bind (Ev.const' fun m => l00In_eq) (Ev.const ?_))
        unfold val12; simp
    cases hr : (numB w && val12 (numV w))
    · right
      rw [hr] at hbad
      refine ⟨.inr ([], false), Ev.ite_t (decide_eq_true (by omega)) (Ev.bindc (idx_at hw) (Ev.bind hns (Ev.bind hbad (Ev.ite_t rfl (Ev.pure _))))), ?_⟩
      rw [if_neg]
      intro q
      rw [List.all_eq_true] at q
      rw [q w (List.mem_of_getElem? hw)] at hr
      cases hr
    · left
      rw [hr] at hbad
      refine ⟨(), Ev.ite_t (decide_eq_true (by omega)) (Ev.bindc (idx_at hw) (Ev.bind hns (Ev.bind hbad (Ev.ite_f (by simp) (Ev.bindc (app_ok (by rw [List.length_map, List.length_take]; simp; omega)) (Ev.const ?_)))))), by rw [htk, List.all_append, hI]; simp [hr]⟩
      rw [W_succ hk (by omega), htk, List.map_append]
      rfl
  · intro _ hI
    rw [List.take_length] at hI
    exact ⟨.inl (ws.map numV), Ev.ite_f (by simp) (Ev.const (by rw [List.take_length])), by rw [if_pos hI]⟩
  · subst e2
    by_cases q : ws.all (fun w => numB w && val12 (numV w)) = true
    · rw [if_pos q, if_pos (hA.2 q)]; exact Ev.const rfl
    · rw [if_neg q, if_neg (fun z => q (hA.1 z))]; exact Ev.const rfl
theorem readL_ok {s : Str} (h : (readL s).2 = true) : listP (readL s).1 = true := by
  unfold readL at h ⊢
  split
  · decide
  · rename_i h1
    rw [if_neg h1] at h
    split
    · rename_i h2; exact h2.2
    · rename_i h2; rw [if_neg h2] at h; cases h
theorem readers {α β ρ : Type} {step : Nat → List β × Int → Option ((List β × Int) ⊕ (List β ⊕ ρ))} {s0 : List β × Int} (l : List α) (j : Nat → Int) (ok : α → Bool) (g : α → β) (bad : ρ) (h0 : s0 = ([], j 0))
    (hgo : ∀ (k : Nat) (x : α) (xs : List β), k < l.length → l[k]? = some x → xs.length = k → ok x = true → Ev (fun m => step m (xs, j k)) (.inl (xs ++ [g x], j (k + 1))))
    (hbad : ∀ (k : Nat) (x : α) (xs : List β), k < l.length → l[k]? = some x → xs.length = k → ok x = false → Ev (fun m => step m (xs, j k)) (.inr (.inr bad)))
    (hend : ∀ xs, Ev (fun m => step m (xs, j l.length)) (.inr (.inl xs))) : EvI step s0 (if l.all ok = true then .inl (l.map g) else .inr bad) := by
  subst h0
  refine Exists.elim (EvI.count (step := step) l.length (fun k (_ : Unit) => ((l.take k).map g, j k)) (fun k _ => (l.take k).all ok = true)
    (fun r => r = (if l.all ok = true then .inl (l.map g) else .inr bad)) ?_ ?_ (k := 0) (t := ()) (Nat.zero_le _) (by simp)) (fun res ⟨e1, e2⟩ => by subst e2; exact e1)
  · intro k _ hk hI
    obtain ⟨x, hx⟩ := get_lt hk
    have htk : l.take (k + 1) = l.take k ++ [x] := by rw [List.take_add_one, hx]; rfl
    have hl : ((l.take k).map g).length = k := by rw [List.length_map, List.length_take]; omega
    cases hr : ok x
    · right
      refine ⟨_, hbad k x _ hk hx hl hr, ?_⟩
      rw [if_neg]
      intro q
      rw [List.all_eq_true] at q
      rw [q x (List.mem_of_getElem? hx)] at hr
      cases hr
    · left
      refine ⟨(), (hgo k x _ hk hx hl hr).eq ?_, by rw [htk, List.all_append, hI]; simp [hr]⟩
      rw [htk, List.map_append]
      rfl
  · intro _ hI
    rw [List.take_length] at hI
    exact ⟨_, hend _, by rw [if_pos hI, List.take_length]⟩
def okQ (w : Str) : Bool := decide ((splitC 32 w).length = 3) && (readL ((splitC 32 w).getD 2 [])).2
def rdQ (w : Str) : Timpl_Equation := ((splitC 32 w).getD 0 [] == ([110, 117] : Str), (splitC 32 w).getD 1 [] == ([97, 108, 108] : Str), (readL ((splitC 32 w).getD 2 [])).1)
def readQ (s : Str) : List Timpl_Equation × Bool :=
  if (splitC 10 s).all okQ = true then (if (validE ((splitC 10 s).map rdQ) && fitsE ((splitC 10 s).map rdQ) && (eqnsT ((splitC 10 s).map rdQ) == s)) = true then ((splitC 10 s).map rdQ, true) else ([], false)) else ([], false)
theorem okQ_ne {w : Str} (h : okQ w = true) : w ≠ [] := by
  rintro rfl
  revert h
  decide
theorem okQ_read {w : Str} (h : okQ w = true) : ∃ a b c, splitC 32 w = [a, b, c] ∧ (readL c).2 = true ∧ rdQ w = ((a == ([110, 117] : Str)), (b == ([97, 108, 108] : Str)), (readL c).1) := by
  unfold okQ at h
  unfold rdQ
  simp only [Bool.and_eq_true, decide_eq_true_eq] at h
  obtain ⟨h1, h2⟩ := h
  match hs : splitC 32 w with
  | [a, b, c] =>
    rw [hs] at h2
    exact ⟨a, b, c, rfl, h2, rfl⟩
  | [] => rw [hs] at h1; cases h1
  | [_] => rw [hs] at h1; cases h1
  | [_, _] => rw [hs] at h1; cases h1
  | _ :: _ :: _ :: _ :: _ => rw [hs] at h1; simp at h1
theorem okQ_bad {w : Str} (h : okQ w = false) : (splitC 32 w).length ≠ 3 ∨ ∃ a b c, splitC 32 w = [a, b, c] ∧ (readL c).2 = false := by
  unfold okQ at h
  match hs : splitC 32 w with
  | [a, b, c] =>
    rw [hs] at h
    exact .inr ⟨a, b, c, rfl, by simpa using h⟩
  | [] => left; simp
  | [_] => left; simp
  | [_, _] => left; simp
  | _ :: _ :: _ :: _ :: _ => left; simp
theorem rdQ_len {w : Str} (h : okQ w = true) : (rdQ w).2.2.length ≤ 1048576 := by
  obtain ⟨a, b, c, h1, h2, h3⟩ := okQ_read h
  rw [h3]
  have := readL_ok h2
  unfold listP at this
  simp only [Bool.and_eq_true, decide_eq_true_eq] at this
  show (readL c).1.length ≤ _
  omega
theorem rq_len {s : Str} (hl : s.length ≤ 1048576) (h : (splitC 10 s).all okQ = true) : ((splitC 10 s).map rdQ).length ≤ 1048577 ∧ ∀ x ∈ (splitC 10 s).map rdQ, x.2.2.length ≤ 1048576 := by
  have hsl := splitC_len 10 s
  refine ⟨by rw [List.length_map]; omega, fun x hx => ?_⟩
  obtain ⟨w, hw, rfl⟩ := List.mem_map.1 hx
  exact rdQ_len (List.all_eq_true.1 h w hw)
theorem rq_full : ∀ (s : Str), (splitC 10 s).all okQ = true → (splitC 10 s).length ≤ s.length := fun s h => by
  by_cases hs : s.length < (splitC 10 s).length
  · exfalso
    have hne : ∀ (t : Str), (splitC 10 t).length = t.length + 1 → ∀ w ∈ splitC 10 t, w = [] := by
      intro t
      induction t with
      | nil =>
        intro _ w hw
        have : w ∈ [([] : Str)] := hw
        simpa using this
      | cons a r ih =>
        intro hlen w hw
        have hr := splitC_len 10 r
        unfold splitC at hlen hw
        split at hlen
        · rename_i hc
          rw [if_pos hc] at hw
          rcases List.mem_cons.1 hw with rfl | hw
          · rfl
          · exact ih (by simpa using hlen) w hw
        · exfalso
          simp at hlen
          omega
    have hsl := splitC_len 10 s
    cases hw : splitC 10 s with
    | nil => exact splitC_ne 10 s hw
    | cons w0 ws =>
      have h0 := hne s (by omega) w0 (by rw [hw]; simp)
      exact okQ_ne (List.all_eq_true.1 h w0 (by rw [hw]; simp)) h0
  · omega
theorem rq_impl {s : Str} (hl : s.length ≤ 1048576) : Ev (fun m => impl_ReadEquations_m m s) (readQ s) := by
  have hmx := mx
  have hsl := splitC_len 10 s
  have hpc := splitC_piece 10 s
  have hB := rq_len hl
  have hF := rq_full s
  unfold impl_ReadEquations_m readQ
  refine Ev.bind (Ev.const' fun m => splitL 10 (by omega)) ?_
  by_cases hne : s = []
  · subst hne
    refine Ev.bind (readers (ρ := List Timpl_Equation × Bool) (splitC 10 []) (fun k => (k : Int)) okQ rdQ ([], false) rfl (fun k w xs hk hw hx hr => ?_) (fun k w xs hk hw hx hr => ?_) (fun xs => Ev.ite_f (by simp) (Ev.pure _))).ev ?_
    · have : w = [] := by
        have := List.mem_of_getElem? hw
        have : w ∈ [([] : Str)] := this
        simpa using this
      subst this
      exact absurd rfl (okQ_ne hr)
    · have : w = [] := by
        have := List.mem_of_getElem? hw
        have : w ∈ [([] : Str)] := this
        simpa using this
      subst this
      exact Ev.ite_t (decide_eq_true (by omega)) (Ev.bindc (idx_at hw) (Ev.bind (Ev.const' fun m => splitL 32 (by simp)) (Ev.ite_t (by decide) (Ev.pure _))))
    · rw [if_neg (by decide), if_neg (by decide)]
      exact Ev.const rfl
  generalize splitC 10 s = ls at *
  refine Ev.bind (readers (ρ := List Timpl_Equation × Bool) ls (fun k => (k : Int)) okQ rdQ ([], false) rfl (fun k w xs hk hw hx hr => ?_) (fun k w xs hk hw hx hr => ?_) (fun xs => Ev.ite_f (by simp) (Ev.pure _))).ev ?_
  · have hwl := hpc w (List.mem_of_getElem? hw)
    obtain ⟨a, b, c, h1, h2, h3⟩ := okQ_read hr
    have hcl := splitC_piece 32 w c (by rw [h1]; simp)
    refine Ev.ite_t (decide_eq_true (by omega)) (Ev.bindc (idx_at hw) (Ev.bind (Ev.const' fun m => by rw [splitL 32 (by omega), h1]) (Ev.ite_f (by simp) (Ev.bindc (idx_at (k := 2) (x := c) rfl) (Ev.bind (readL_impl (by omega)) (Ev.ite_f (by rw [h2]; simp) (Ev.bindc (idx_at (k := 0) (x := a) rfl) (Ev.bindc (idx_at (k := 1) (x := b) rfl) (Ev.bindc (app_ok (by simp; omega)) (Ev.const ?_))))))))))
    rw [W_succ hk (by omega), h3]
  · have hwl := hpc w (List.mem_of_getElem? hw)
    refine Ev.ite_t (decide_eq_true (by omega)) (Ev.bindc (idx_at hw) (Ev.bind (Ev.const' fun m => splitL 32 (by omega)) ?_))
    rcases okQ_bad hr with h | ⟨a, b, c, h1, h2⟩
    · exact Ev.ite_t (by simp; omega) (Ev.pure _)
    · have hcl := splitC_piece 32 w c (by rw [h1]; simp)
      rw [h1]
      exact Ev.ite_f (by simp) (Ev.bindc (idx_at (k := 2) (x := c) rfl) (Ev.bind (readL_impl (by omega)) (Ev.ite_t (by rw [h2]; rfl) (Ev.pure _))))
  · by_cases hA : ls.all okQ = true
    · rw [if_pos hA, if_pos hA]
      have hb := hB hA
      have hf := hF hA
      have ht := etext_impl (a := ls.map rdQ) (by rw [List.length_map]; omega) hb.2
      refine Ev.bind ht ?_
      generalize ls.map rdQ = E
      by_cases hv : validE E = true ∧ fitsE E = true
      · rw [if_pos hv, hv.1, hv.2]
        by_cases he : eqnsT E = s
        · exact Ev.const (by simp [he])
        · exact Ev.const (by simp [he])
      · rw [if_neg hv]
        refine Ev.eq (r := ([], false)) (Ev.ite_t (c := (([] : Str) != s) = true) (by simpa using Ne.symm hne) (Ev.pure _)) (if_neg ?_).symm
        simp only [Bool.and_eq_true]
        exact fun q => hv q.1
    · rw [if_neg hA, if_neg hA]
      exact Ev.const rfl
theorem rq_spec {s : Str} (hl : s.length ≤ 1048576) : Ev (fun m => spec_ReadEquations_m m s) (readQ s) := by
  have hmx := mx
  have hsl := splitC_len 10 s
  have hpc := splitC_piece 10 s
  have hB := rq_len hl
  have hF := rq_full s
  unfold spec_ReadEquations_m readQ
  refine Ev.bind (splitR 10 (by omega)) ?_
  generalize splitC 10 s = ls at *
  by_cases h120 : 120 < ls.length
  · refine Ev.eq (r := ([], false)) (Ev.ite_t (decide_eq_true (by omega)) (Ev.pure _)) ?_
    by_cases hA : ls.all okQ = true
    · rw [if_pos hA]
      refine Eq.symm (if_neg fun q => ?_)
      simp only [Bool.and_eq_true] at q
      have hv := q.1.1
      unfold validE at hv
      simp only [Bool.and_eq_true, decide_eq_true_eq, List.length_map] at hv
      omega
    · rw [if_neg hA]
  refine Ev.ite_f (by simp only [decide_eq_true_eq]; omega) ?_
  refine Ev.bind (readers (ρ := List Timpl_Equation × Bool) ls (fun k => (k : Int)) okQ rdQ ([], false) rfl (fun k w xs hk hw hx hr => ?_) (fun k w xs hk hw hx hr => ?_) (fun xs => Ev.ite_f (by simp) (Ev.pure _))).ev ?_
  · have hwl := hpc w (List.mem_of_getElem? hw)
    obtain ⟨a, b, c, h1, h2, h3⟩ := okQ_read hr
    have hcl := splitC_piece 32 w c (by rw [h1]; simp)
    have hsp := splitR (s := w) 32 (by omega)
    rw [h1] at hsp
    refine Ev.ite_t (decide_eq_true (by omega)) (Ev.bindc (idx_at hw) (Ev.bind hsp (Ev.ite_f (by simp) (Ev.bindc (idx_at (k := 2) (x := c) rfl) (Ev.bind (readL_spec (by omega)) (Ev.ite_f (by rw [h2]; simp) (Ev.bindc (idx_at (k := 0) (x := a) rfl) (Ev.bindc (idx_at (k := 1) (x := b) rfl) (Ev.bindc (app_ok (by simp; omega)) (Ev.const ?_))))))))))
    rw [W_succ hk (by omega), h3]
  · have hwl := hpc w (List.mem_of_getElem? hw)
    refine Ev.ite_t (decide_eq_true (by omega)) (Ev.bindc (idx_at hw) (Ev.bind (splitR 32 (by omega)) ?_))
    rcases okQ_bad hr with h | ⟨a, b, c, h1, h2⟩
    · exact Ev.ite_t (by simp; omega) (Ev.pure _)
    · have hcl := splitC_piece 32 w c (by rw [h1]; simp)
      rw [h1]
      exact Ev.ite_f (by simp) (Ev.bindc (idx_at (k := 2) (x := c) rfl) (Ev.bind (readL_spec (by omega)) (Ev.ite_t (by rw [h2]; rfl) (Ev.pure _))))
  · by_cases hA : ls.all okQ = true
    · rw [if_pos hA, if_pos hA]
      have hb := hB hA
      have hf := hF hA
      have hel : (ls.map rdQ).length ≤ 1048576 := by rw [List.length_map]; omega
      have hg := hb.2
      show Ev (fun m => (spec_l22Is_m m (ls.map rdQ)).bind fun x147 => (if (!x147) = true then some true else (spec_l22Fits_m m (ls.map rdQ)).bind fun x155 => some (!x155)).bind fun t150 => (if t150 = true then some true else (spec_l22Text_m m (ls.map rdQ)).bind fun x163 => some (x163 != s)).bind fun t158 => (if t158 = true then some (([], false)) else some ((ls.map rdQ, true)))) _
      generalize ls.map rdQ = E at hel hg ⊢
      refine Ev.bind (l22Is_law hel hg) (Ev.bind (a := !(validE E && fitsE E)) ?_ (Ev.bind (a := !(validE E && fitsE E && (eqnsT E == s))) ?_ ?_))
      · cases hv : validE E
        · exact Ev.ite_t rfl (Ev.pure _)
        · exact Ev.eq (r := !(fitsE E)) (Ev.ite_f (by simp) (Ev.bind (fits_ref hel) (Ev.pure _))) (by simp)
      · cases hv : validE E
        · exact Ev.ite_t rfl (Ev.pure _)
        cases hf : fitsE E
        · exact Ev.ite_t rfl (Ev.pure _)
        exact Ev.eq (r := (eqnsT E != s)) (Ev.ite_f (by simp) (Ev.bind (text_ref hv hf) (Ev.pure _))) (by simp [bne])
      · cases (validE E && fitsE E && (eqnsT E == s))
        · exact Ev.const rfl
        · exact Ev.const rfl
    · rw [if_neg hA, if_neg hA]
      exact Ev.const rfl
theorem readQ_core {s : Str} (hl : s.length ≤ 1048576) : ∃ r, Ev (fun m => spec_ReadEquations_m m s) r ∧ Ev (fun m => impl_ReadEquations_m m s) r ∧ (r.1.length ≤ 1048576 ∧ ∀ x ∈ r.1, x.2.2.length ≤ 1048576) := by
  refine ⟨readQ s, rq_spec hl, rq_impl hl, ?_⟩
  have hz : ((([], false) : List Timpl_Equation × Bool).1.length ≤ 1048576 ∧ ∀ x ∈ (([], false) : List Timpl_Equation × Bool).1, x.2.2.length ≤ 1048576) := ⟨by simp, fun x hx => by cases hx⟩
  unfold readQ
  by_cases hA : (splitC 10 s).all okQ = true
  · rw [if_pos hA]
    have hb := rq_len hl hA
    have hf := rq_full s hA
    split
    · exact ⟨by show ((splitC 10 s).map rdQ).length ≤ _; rw [List.length_map]; omega, hb.2⟩
    · exact hz
  · rw [if_neg hA]
    exact hz
theorem eqB_eqns {a : List Timpl_Equation} (h : a.length ≤ 1048576 ∧ ∀ x ∈ a, x.2.2.length ≤ 1048576) : Ev (fun n => laws_eqEquationS_m n a a) true :=
  have hm : maxLen = 9223372036854775807 := by unfold maxLen; rfl
  eq_eqns (by have := h.1; omega) (fun x hx => by have := h.2 x hx; omega)

theorem marksB_eqns {a : List Timpl_Equation} {k : Int} (h : a.length ≤ 1048576 ∧ ∀ x ∈ a, x.2.2.length ≤ 1048576) (h0 : 1 ≤ k) (hk : k ≤ 4503599627370496) :
    ∃ k' ys, Ev (fun n => laws_markEquationS_m n a k) (k', ys) ∧ Ev (fun n => laws_heldEquationS_m n ys k) k' ∧ k ≤ k' ∧ k' ≤ k + 4398046511104 := by
  obtain ⟨k', ys, h1, h2, h3, h4, _⟩ := marksH_eqns h.1 h.2 h0 hk
  have := h.1
  exact ⟨k', ys, h1, h2, h3, by omega⟩
set_option maxHeartbeats 4000000 in
theorem law_ReadEquations {a : Str} (g_a : (gStr) a) : ∃ n, laws_FnExactReadEquations_m n a = some true := by
  have hm : maxLen = 9223372036854775807 := by unfold maxLen; rfl
  refine Ev.one (f := fun n => laws_FnExactReadEquations_m n a) ?_
  unfold laws_FnExactReadEquations_m
  by_cases B_a : (1048576 : Int) < (a.length : Int)
  · exact Ev.ite_t (decide_eq_true B_a) (Ev.pure _)
  refine Ev.ite_f (by simpa using B_a) ?_
  replace B_a : a.length ≤ 1048576 := by omega
  obtain ⟨r, hs, hi, B_r0⟩ := readQ_core B_a
  have eq_r0 := eqB_eqns (a := r.1) B_r0
  obtain ⟨k_r0, ys_r0, m_r0, m0_r0, m1_r0, m2_r0⟩ := marksB_eqns (k := (1 : Int)) (a := r.1) B_r0 (by omega) (by omega)
  repeat (first
    | exact Ev.pure _
    | refine Ev.bind (by with_reducible assumption) ?_
    | refine Ev.ite_f (by first | (simp; done) | (simp; omega)) ?_
    | refine Ev.bind (Ev.ite_f (by first | (simp; done) | (simp; omega)) (Ev.bind (by with_reducible assumption) (Ev.pure _))) ?_
    | refine Ev.bind (a := false) (Ev.ite_f (by first | (simp; done) | (simp; omega)) (Ev.const (by simp))) ?_
    | refine Ev.bind (a := false) (Ev.ite_f (by first | (simp; done) | (simp; omega)) (Ev.bind (by with_reducible assumption) (Ev.const (by simp)))) ?_
    | refine Ev.bindc (by with_reducible rfl) ?_)
end Go.Proofs.YtepcckhcocjgaaaGreatDoor

