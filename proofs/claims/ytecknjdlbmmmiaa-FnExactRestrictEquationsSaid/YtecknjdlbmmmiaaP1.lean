/-
  Statement 1 in plain words: the models of the law on equation systems, program against reference.
-/
import Derived.Test.YtecknjdlbmmmiaaF0
import Derived.Test.YtecknjdlbmmmiaaF1
import Derived.Test.YtecknjdlbmmmiaaF4
import Derived.Test.YtecknjdlbmmmiaaF5
import Derived.Test.YtecknjdlbmmmiaaGxP
import Derived.Test.YtecknjdlbmmmiaaGxU
namespace Go.Proofs.Ytecknjdlbmmmiaa
open Go.Gx

/-! ### the law's helpers -/
abbrev GI : List Int → Prop := gList (gInt .i64)
abbrev GE : Tlaws_Equation → Prop := gAnd gAny (gAnd gAny GI)
abbrev GEs : List Tlaws_Equation → Prop := gList GE

theorem sz_ints {a : List Int} (g : GI a) {b : Int} (h0 : 0 ≤ b) (hb : b ≤ 1048576) : ∃ r, Ev (fun n => laws_szInt64S_m n a b) r ∧ Sz b r (a.length ≤ 1048576) := sz_leaf h0 hb g.1
theorem sz_eqn {x : Tlaws_Equation} (g : GE x) {b : Int} (h0 : 0 ≤ b) (hb : b ≤ 1048576) : ∃ r, Ev (fun n => laws_szEquation_m n x b) r ∧ Sz b r (x.2.2.length ≤ 1048576) := by
  obtain ⟨r, h1, h2⟩ := sz_ints g.2.2 h0 hb
  by_cases h : r < 0
  · exact ⟨-1, Ev.bind h1 (Ev.ite_t (by simpa using h) (Ev.pure _)), .inl (by omega)⟩
  · exact ⟨r, Ev.bind h1 (Ev.ite_f (by simpa using h) (Ev.pure _)), h2⟩
theorem sz_eqns {a : List Tlaws_Equation} (g : GEs a) {b : Int} (h0 : 0 ≤ b) (hb : b ≤ 1048576) : ∃ r, Ev (fun n => laws_szEquationS_m n a b) r ∧ Sz b r (a.length ≤ 1048576 ∧ ∀ x ∈ a, x.2.2.length ≤ 1048576) :=
  sz_loop (fun x hx _ h0 hb => sz_eqn (g.2 x hx) h0 hb) g.1 h0 hb

theorem to_ints {a : List Int} (hl : a.length ≤ 1048576) : Ev (fun n => laws_toInt64S_m n a) a := by
  have := to_loop (to := fun _ (x : Int) => some x) (f := id) (a := a) (z := 0) (fun x _ => Ev.pure x) hl
  rw [List.map_id] at this
  exact this
theorem to_eqn {x : Tlaws_Equation} (hl : x.2.2.length ≤ 1048576) : Ev (fun n => laws_toEquation_m n x) x := Ev.bind (to_ints hl) (Ev.pure _)
theorem to_eqns {a : List Tlaws_Equation} (hl : a.length ≤ 1048576) (h : ∀ x ∈ a, x.2.2.length ≤ 1048576) : Ev (fun n => laws_toEquationS_m n a) a := by
  have := to_loop (to := fun n x => laws_toEquation_m n x) (f := id) (a := a) (z := (false, false, [])) (fun x hx => to_eqn (h x hx)) hl
  rw [List.map_id] at this
  exact this

theorem eq_ints {a : List Int} (hl : a.length ≤ maxLen) : Ev (fun n => laws_eqInt64S_m n a a) true := eq_loop_ints hl
theorem eq_eqn {x : Timpl_Equation} (hl : x.2.2.length ≤ maxLen) : Ev (fun n => laws_eqEquation_m n x x) true :=
  Ev.ite_f (by simp) (Ev.ite_f (by simp) (Ev.bind (eq_ints hl) (Ev.ite_f (by simp) (Ev.pure _))))
theorem eq_eqns {a : List Timpl_Equation} (hl : a.length ≤ maxLen) (h : ∀ x ∈ a, x.2.2.length ≤ maxLen) : Ev (fun n => laws_eqEquationS_m n a a) true :=
  eq_loop (eq := fun n x y => laws_eqEquation_m n x y) (fun x hx => eq_eqn (h x hx)) hl

/-! ### rising lists -/
def okAt (xs : List Int) (n : Int) (k : Nat) : Bool := match xs[k]? with
  | none => true
  | some x => decide (0 ≤ x) && decide (x ≤ n) && (k == 0 || (match xs[k - 1]? with | none => true | some y => decide (y < x)))
def rises (xs : List Int) (n : Int) : Bool := decide (∀ k, k < xs.length → okAt xs n k = true)

theorem l00In_eq {n : Nat} {a b c : Int} : spec_l00In_m n a b c = some (decide (b ≤ a) && decide (a ≤ c)) := by
  unfold spec_l00In_m
  by_cases h : b ≤ a <;> simp [h]
theorem within_eq {n : Nat} {a b c : Int} : impl_within_m n a b c = some (decide (b ≤ a) && decide (a ≤ c)) := by
  unfold impl_within_m
  by_cases h : b ≤ a <;> simp [h]
theorem index_eq {n : Nat} {a b : Int} : impl_index_m n a b = some (decide (0 ≤ a) && decide (a ≤ W (b - 1))) := by
  unfold impl_index_m
  simp [within_eq]

theorem rises_spec {xs : List Int} (hl : xs.length ≤ maxLen) {n : Int} : Ev (fun m => spec_l00Rises_m m xs 0 n) (rises xs n) := by
  have hm := maxLen_le
  unfold spec_l00Rises_m
  refine (Ev.all xs.length (okAt xs n) false true (fun k hk hok => Ev.const' fun m => ?_) (fun k hk hok => Ev.const' fun m => ?_) (Ev.ite_f (by simp) (Ev.pure _))).eq (by unfold rises; split <;> simp_all)
  all_goals
    obtain ⟨x, hx⟩ := get_lt hk
    have w1 := W_succ hk (by omega)
    have hk' : decide ((k : Int) < (xs.length : Int)) = true := by simpa using hk
    simp only [hk', if_true, idx_at hx, l00In_eq, Option.bind_some]
    cases k with
    | zero => simp only [okAt, hx, or_some, w1, Option.bind_some] at hok ⊢; by_cases h1 : 0 ≤ x <;> by_cases h2 : x ≤ n <;> simp [h1, h2] at hok ⊢
    | succ j =>
      obtain ⟨y, hy⟩ := get_lt (xs := xs) (k := j) (by omega)
      have w2 := W_pred (k := j) (n := xs.length) (by omega) (by omega)
      simp only [okAt, hx, hy, or_some, w1, w2, idx_at hy, Option.bind_some, Nat.add_sub_cancel] at hok ⊢
      by_cases h1 : 0 ≤ x <;> by_cases h2 : x ≤ n <;> by_cases h3 : y < x <;> simp [h1, h2, h3] at hok ⊢

theorem increasing_law {xs : List Int} (hl : xs.length ≤ maxLen) {n : Int} : Ev (fun m => impl_increasing_m m xs n) (rises xs (W (n - 1))) := by
  have hm := maxLen_le
  unfold impl_increasing_m
  refine (Ev.all xs.length (okAt xs (W (n - 1))) false true (fun k hk hok => Ev.const' fun m => ?_) (fun k hk hok => Ev.const' fun m => ?_) (Ev.ite_f (by simp) (Ev.pure _))).eq (by unfold rises; split <;> simp_all)
  all_goals
    obtain ⟨x, hx⟩ := get_lt hk
    have w1 := W_succ hk (by omega)
    have hk' : decide ((k : Int) < (xs.length : Int)) = true := by simpa using hk
    simp only [hk', if_true, idx_at hx, index_eq, Option.bind_some]
    generalize W (n - 1) = n at *
    cases k with
    | zero => simp only [okAt, hx, or_some, w1, Option.bind_some] at hok ⊢; by_cases h1 : 0 ≤ x <;> by_cases h2 : x ≤ n <;> simp [h1, h2] at hok ⊢
    | succ j =>
      obtain ⟨y, hy⟩ := get_lt (xs := xs) (k := j) (by omega)
      have w2 := W_pred (k := j) (n := xs.length) (by omega) (by omega)
      simp only [okAt, hx, hy, or_some, w1, w2, idx_at hy, Option.bind_some, Nat.add_sub_cancel] at hok ⊢
      by_cases h1 : 0 ≤ x <;> by_cases h2 : x ≤ n <;> by_cases h3 : y < x <;> simp [h1, h2, h3] at hok ⊢

/-! ### changes of the sign -/
def chg (a : List Timpl_Equation) (k : Nat) : Bool := k != 0 && (match a[k]?, a[k - 1]? with | some x, some y => x.1 != y.1 | _, _ => false)
def cnt (a : List Timpl_Equation) : Nat → Nat
  | 0 => 0
  | k + 1 => cnt a k + (if chg a k = true then 1 else 0)
theorem cnt_le (a : List Timpl_Equation) : ∀ k, cnt a k ≤ k
  | 0 => Nat.le_refl _
  | k + 1 => by have := cnt_le a k; simp only [cnt]; split <;> omega

theorem count_law {a : List Timpl_Equation} (hl : a.length ≤ maxLen - 1) (h0 : 0 < a.length) : Ev (fun m => spec_l22Count_m m a) (1 + cnt a a.length : Nat) := by
  have hm := maxLen_le
  unfold spec_l22Count_m
  refine Exists.elim (EvI.count (step := _) a.length (fun k (_ : Unit) => (((1 + cnt a k : Nat) : Int), (k : Int))) (fun k _ => 0 < k) (fun r => r = .inl ((1 + cnt a a.length : Nat) : Int)) (fun k t hk hI => ?_) (fun t _ => ⟨_, Ev.ite_f (by simp) (Ev.pure _), rfl⟩) (k := 1) (t := ()) h0 Nat.one_pos)
    (fun res ⟨h1, h2⟩ => Ev.bind h1.ev (by subst h2; exact Ev.pure _))
  refine .inl ⟨(), Ev.const' fun m => ?_, by omega⟩
  obtain ⟨j, rfl⟩ : ∃ j, k = j + 1 := ⟨k - 1, by omega⟩
  obtain ⟨x, hx⟩ := get_lt hk
  obtain ⟨y, hy⟩ := get_lt (xs := a) (k := j) (by omega)
  have w1 := W_succ hk (by omega)
  have w2 := W_pred (k := j) (n := a.length) (by omega) (by omega)
  have w3 : W (((1 + cnt a (j + 1) : Nat) : Int) + 1) = ((1 + (cnt a (j + 1) + 1) : Nat) : Int) := by
    have := cnt_le a (j + 1)
    rw [W_of (by omega) (by omega)]; omega
  have hk' : decide (((j + 1 : Nat) : Int) < (a.length : Int)) = true := decide_eq_true (by omega)
  have hc : chg a (j + 1) = (x.1 != y.1) := by simp [chg, hx, hy]
  simp only [hk', if_true, idx_at hx, idx_at hy, Option.bind_some, w1, w2, w3, join]
  show _ = some (Sum.inl (((1 + (cnt a (j + 1) + (if chg a (j + 1) = true then 1 else 0)) : Nat) : Int), ((j + 1 + 1 : Nat) : Int)))
  rw [hc]
  cases x.1 != y.1 <;> simp

theorem blocks_law {a : List Timpl_Equation} (hl : a.length ≤ 1048576) : Ev (fun m => impl_equationBlocks_m m a) ((List.range a.length).map fun k => ((cnt a (k + 1) : Nat) : Int)) := by
  unfold impl_equationBlocks_m
  refine Exists.elim (EvI.count (step := _) a.length (fun k (_ : Unit) => ((List.range k).map (fun k => ((cnt a (k + 1) : Nat) : Int)), ((cnt a k : Nat) : Int), (k : Int))) (fun k _ => True) (fun r => r = .inl ((List.range a.length).map fun k => ((cnt a (k + 1) : Nat) : Int))) (fun k t hk hI => ?_) (fun t _ => ⟨_, Ev.ite_f (by simp) (Ev.pure _), rfl⟩) (k := 0) (t := ()) (Nat.zero_le _) trivial)
    (fun res ⟨h1, h2⟩ => Ev.bind h1.ev (by subst h2; exact Ev.pure _))
  refine .inl ⟨(), Ev.const' fun m => ?_, trivial⟩
  obtain ⟨x, hx⟩ := get_lt hk
  have w1 := W_succ hk (by omega)
  have hk' : decide ((k : Int) < (a.length : Int)) = true := decide_eq_true (by omega)
  have w3 : W ((cnt a k : Int) + 1) = ((cnt a k + 1 : Nat) : Int) := by
    have := cnt_le a k
    rw [W_of (by omega) (by omega)]; omega
  have happ : ∀ z : Int, app ((List.range k).map (fun k => ((cnt a (k + 1) : Nat) : Int))) [z] = some ((List.range k).map (fun k => ((cnt a (k + 1) : Nat) : Int)) ++ [z]) := fun z => app_ok (by simp; omega)
  simp only [hk', if_true, idx_at hx, Option.bind_some, join, happ, w1, w3]
  have hstep : (List.range (k + 1)).map (fun k => ((cnt a (k + 1) : Nat) : Int)) = (List.range k).map (fun k => ((cnt a (k + 1) : Nat) : Int)) ++ [((cnt a (k + 1) : Nat) : Int)] := by rw [List.range_succ, List.map_append]; rfl
  rw [hstep]
  cases k with
  | zero =>
    have hc : chg a 0 = false := rfl
    simp [cnt, hc]
  | succ j =>
    obtain ⟨y, hy⟩ := get_lt (xs := a) (k := j) (by omega)
    have w2 := W_pred (k := j) (n := a.length) (by omega) (by omega)
    have hc : chg a (j + 1) = (x.1 != y.1) := by simp [chg, hx, hy]
    have h0 : decide ((0 : Int) < ((j + 1 : Nat) : Int)) = true := decide_eq_true (by omega)
    simp only [h0, if_true, w2, idx_at hy, Option.bind_some]
    have e : cnt a (j + 1 + 1) = cnt a (j + 1) + (if chg a (j + 1) = true then 1 else 0) := rfl
    rw [e, hc]
    cases x.1 != y.1 <;> simp

theorem fit_law {a : List Timpl_Equation} (hl : a.length ≤ 1048576) (h0 : 0 < a.length) : Ev (fun m => impl_blocksFit_m m a) (decide ((cnt a a.length : Int) < 9)) := by
  unfold impl_blocksFit_m
  refine Ev.bind (blocks_law hl) (Ev.bind (a := ((cnt a a.length : Nat) : Int)) (Ev.const' fun m => ?_) (Ev.pure _))
  unfold impl_last_int64_m
  obtain ⟨j, hj⟩ : ∃ j, a.length = j + 1 := ⟨a.length - 1, by omega⟩
  have w2 := W_pred (k := j) (n := j + 1) (by omega) (by omega)
  have hi : ((List.range (j + 1)).map fun k => ((cnt a (k + 1) : Nat) : Int))[j]? = some ((cnt a (j + 1) : Nat) : Int) := by simp
  simp only [List.length_map, List.length_range, hj, w2, idx_at hi, Option.bind_some]

theorem find_law {a : List Timpl_Equation} (hl : a.length ≤ maxLen) {f : Nat → Timpl_Equation → Option Bool} {ok : Timpl_Equation → Bool} (hf : ∀ x ∈ a, Ev (fun m => f m x) (!(ok x))) :
    Ev (fun m => slices_ContainsFunc__impl_Equation_impl_Equation_m m a (f m)) (!(a.all ok)) := by
  have hm := maxLen_le
  unfold slices_ContainsFunc__impl_Equation_impl_Equation_m slices_IndexFunc__impl_Equation_impl_Equation_m
  have key : ∀ k, k < a.length → ∀ x, a[k]? = some x → Ev (fun m => f m x) (!(ok x)) := fun k hk x hx => hf x (List.mem_of_getElem? hx)
  obtain ⟨res, h1, h2⟩ := EvI.find (step := fun m (s : (Int)) => (match s with | (x26) => (if (decide (x26 < (a.length : Int))) = true then (idx a x26).bind fun x61 => (f m (x61.1, x61.2.1, x61.2.2)).bind fun x80 => (if x80 = true then some (.inr (.inr x26)) else some (.inl ((W (x26 + (1 : Int)))))) else some (.inr (.inl ()))) : Option (((Int)) ⊕ ((Unit) ⊕ (Int)))))
    a.length (fun k => match a[k]? with | none => true | some x => ok x) (fun k => (k : Int)) (fun k hk hok => by
      obtain ⟨x, hx⟩ := get_lt hk
      simp only [hx] at hok
      have := key k hk x hx
      rw [hok] at this
      exact (Ev.ite_t (decide_eq_true (by omega)) (Ev.bindc (idx_at hx) (Ev.bind this (Ev.ite_f (by simp) (Ev.pure _))))).eq (by rw [W_succ hk (by omega)])) (fun k hk hok => by
      obtain ⟨x, hx⟩ := get_lt hk
      simp only [hx] at hok
      have := key k hk x hx
      rw [hok] at this
      exact Ev.ite_t (decide_eq_true (by omega)) (Ev.bindc (idx_at hx) (Ev.bind this (Ev.ite_t (by simp) (Ev.pure _))))) (Ev.ite_f (by simp) (Ev.pure _)) (Nat.zero_le _)
  rcases h2 with ⟨rfl, h3⟩ | ⟨k, _, hk, hok, _, rfl⟩
  · have : a.all ok = true := by
      rw [List.all_eq_true]
      intro x hx
      obtain ⟨i, hi, rfl⟩ := List.getElem_of_mem hx
      have := h3 i (Nat.zero_le _) hi
      simpa [List.getElem?_eq_getElem hi] using this
    rw [this]
    exact Ev.bind (a := -1) (Ev.bind h1.ev (Ev.pure _)) (Ev.pure _)
  · obtain ⟨x, hx⟩ := get_lt hk
    simp only [hx] at hok
    have : a.all ok = false := by
      rw [← Bool.not_eq_true, List.all_eq_true]
      intro h
      rw [h x (List.mem_of_getElem? hx)] at hok
      cases hok
    rw [this]
    exact Ev.bind (a := (k : Int)) (Ev.bind h1.ev (Ev.pure _)) (Ev.const (by simp))

/-- What both take for a valid system. -/
def validE (a : List Timpl_Equation) : Bool := decide (1 ≤ a.length ∧ a.length ≤ 120 ∧ cnt a a.length < 9) && a.all fun x => rises x.2.2 (W ((a.length : Int) - 1))

theorem validE_impl {a : List Timpl_Equation} (hl : a.length ≤ 1048576) (g : ∀ x ∈ a, x.2.2.length ≤ 1048576) :
    Ev (fun m => impl_ValidEquations_m m a) (validE a) := by
  have hm : maxLen = 9223372036854775807 := by unfold maxLen; rfl
  unfold impl_ValidEquations_m validE
  simp only [within_eq, Option.bind_some]
  have hfind : Ev (fun m => slices_ContainsFunc__impl_Equation_impl_Equation_m m a (fun (z0 : Timpl_Equation) => impl_ValidEquations_1_m m z0 a)) (!(a.all fun x => rises x.2.2 (W ((a.length : Int) - 1)))) :=
    find_law (f := fun m z0 => impl_ValidEquations_1_m m z0 a) (by omega) (fun x hx => Ev.bind (increasing_law (by have := g x hx; omega)) (Ev.pure _))
  by_cases h1 : 1 ≤ a.length ∧ a.length ≤ 120
  · refine Ev.bind (a := !(decide ((cnt a a.length : Int) < 9))) (Ev.ite_f (by simp; omega) (Ev.bind (fit_law hl (by omega)) (Ev.pure _))) ?_
    by_cases h2 : cnt a a.length < 9
    · refine Ev.eq (Ev.ite_f (by simp; omega) (Ev.bind hfind (Ev.pure _))) ?_
      simp [h1, h2]
    · refine Ev.eq (Ev.ite_t (by simp; omega) (Ev.pure _)) ?_
      simp [h2]
  · refine Ev.bind (a := true) (Ev.ite_t (by simp; omega) (Ev.pure _)) (Ev.eq (Ev.ite_t rfl (Ev.pure _)) ?_)
    simp; omega

theorem l22Is_law {a : List Timpl_Equation} (hl : a.length ≤ 1048576) (g : ∀ x ∈ a, x.2.2.length ≤ 1048576) :
    Ev (fun m => spec_l22Is_m m a) (validE a) := by
  have hm : maxLen = 9223372036854775807 := by unfold maxLen; rfl
  unfold spec_l22Is_m validE
  simp only [or_some, Option.bind_some]
  by_cases h1 : 1 ≤ a.length ∧ a.length ≤ 120
  · refine Ev.bind (a := decide ((9 : Int) < ((1 + cnt a a.length : Nat) : Int))) (Ev.ite_f (by simp; omega) (Ev.bind (count_law (by omega) (by omega)) (Ev.pure _))) ?_
    by_cases h2 : cnt a a.length < 9
    · refine Ev.ite_f (by simp; omega) ?_
      refine (Ev.all (step := _) a.length (fun k => match a[k]? with | none => true | some x => rises x.2.2 (W ((a.length : Int) - 1))) false true (fun k hk hok => ?_) (fun k hk hok => ?_) (Ev.ite_f (by simp) (Ev.pure _))).eq ?_
      · obtain ⟨x, hx⟩ := get_lt hk
        simp only [hx] at hok
        have := rises_spec (xs := x.2.2) (n := W ((a.length : Int) - 1)) (by have := g x (List.mem_of_getElem? hx); omega)
        rw [hok] at this
        exact (Ev.ite_t (decide_eq_true (by omega)) (Ev.bindc (idx_at hx) (Ev.bind this (Ev.ite_f (by simp) (Ev.pure _))))).eq (by rw [W_succ hk (by omega)])
      · obtain ⟨x, hx⟩ := get_lt hk
        simp only [hx] at hok
        have := rises_spec (xs := x.2.2) (n := W ((a.length : Int) - 1)) (by have := g x (List.mem_of_getElem? hx); omega)
        rw [hok] at this
        exact Ev.ite_t (decide_eq_true (by omega)) (Ev.bindc (idx_at hx) (Ev.bind this (Ev.ite_t (by simp) (Ev.pure _))))
      · rw [decide_eq_true (by omega), Bool.true_and]
        split
        · rename_i h
          symm
          rw [List.all_eq_true]
          intro x hx
          obtain ⟨i, hi, rfl⟩ := List.getElem_of_mem hx
          have := h i hi
          simpa [List.getElem?_eq_getElem hi] using this
        · rename_i h
          symm
          rw [← Bool.not_eq_true, List.all_eq_true]
          intro h'
          refine h fun k hk => ?_
          obtain ⟨x, hx⟩ := get_lt hk
          simp only [hx]
          exact h' x (List.mem_of_getElem? hx)
    · refine Ev.eq (Ev.ite_t (by simp; omega) (Ev.pure _)) ?_
      simp [h2]
  · refine Ev.bind (a := true) (Ev.ite_t (by simp; omega) (Ev.pure _)) (Ev.eq (Ev.ite_t rfl (Ev.pure _)) ?_)
    simp; omega

end Go.Proofs.Ytecknjdlbmmmiaa
