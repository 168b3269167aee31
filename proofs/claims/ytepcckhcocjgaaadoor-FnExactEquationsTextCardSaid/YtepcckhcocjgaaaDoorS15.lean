/-
  The plain laws of a statement, joined into one text.
-/
import Derived.Test.YtepcckhcocjgaaaDoorF0
import Derived.Test.YtepcckhcocjgaaaDoorF1
import Derived.Test.YtepcckhcocjgaaaDoorF2
import Derived.Test.YtepcckhcocjgaaaDoorFS
import Derived.Test.YtepcckhcocjgaaaDoorGxP
import Derived.Test.YtepcckhcocjgaaaDoorGxU
import Derived.Test.YtepcckhcocjgaaaDoorGxZ
import Derived.Test.YtepcckhcocjgaaaDoorLEquationsText
namespace Go.Proofs.YtepcckhcocjgaaaDoor
open Go.Gx
/-! ### the law's helpers -/
abbrev GI : List Int → Prop := gList (gInt .i64)
abbrev GE : Tlaws_Equation → Prop := gAnd gAny (gAnd gAny GI)
abbrev GEs : List Tlaws_Equation → Prop := gList GE

theorem sz_ints {a : List Int} (g : GI a) {b : Int} (h0 : 0 ≤ b) (hb : b ≤ 1048576) : ∃ r, Ev (fun n => laws_szInt64S_m n a b) r ∧ Sz b r (a.length ≤ 1048576) := sz_leaf h0 hb g.1
theorem sz_eqn {x : Tlaws_Equation} (g : GE x) {b : Int} (h0 : 0 ≤ b) (hb : b ≤ 1048576) : ∃ r, Ev (fun n => laws_szEquation_m n x b) r ∧ Sz b r (x.2.2.length ≤ 1048576) := by
  obtain ⟨r, h1, h2⟩ := sz_ints g.2.2 h0 hb
  by_cases h : r < 0
  · exact ⟨-1, Ev.bind h1 (Ev.ite_t (by simpa using h) (Ev.pure _)), .inl (by omega)⟩
  · exact ⟨r, Ev.bind h1 (Ev.ite_f (by simpa using h) (Ev.pure _)), h2⟩
theorem sz_eqns {a : List Tlaws_Equation} (g : GEs a) {b : Int} (h0 : 0 ≤ b) (hb : b ≤ 1048576) : ∃ r, Ev (fun n => laws_szEquationS_m n a b) r ∧ Sz b r (a.length ≤ 1048576 ∧ ∀ x ∈ a, x.2.2.length ≤ 1048576) :=
  sz_loop (fun x hx _ h0 hb => sz_eqn (g.2 x hx) h0 hb) g.1 h0 hb

theorem to_ints {a : List Int} (hl : a.length ≤ 1048576) : Ev (fun n => laws_toInt64S_m n a) a := by
  have := to_loop («to» := fun _ (x : Int) => some x) (f := id) (a := a) (z := 0) (fun x _ => Ev.pure x) hl
  rw [List.map_id] at this
  exact this
theorem to_eqn {x : Tlaws_Equation} (hl : x.2.2.length ≤ 1048576) : Ev (fun n => laws_toEquation_m n x) x := Ev.bind (to_ints hl) (Ev.pure _)
theorem to_eqns {a : List Tlaws_Equation} (hl : a.length ≤ 1048576) (h : ∀ x ∈ a, x.2.2.length ≤ 1048576) : Ev (fun n => laws_toEquationS_m n a) a := by
  have := to_loop («to» := fun n x => laws_toEquation_m n x) (f := id) (a := a) (z := (false, false, [])) (fun x hx => to_eqn (h x hx)) hl
  rw [List.map_id] at this
  exact this

theorem eq_ints {a : List Int} (hl : a.length ≤ maxLen) : Ev (fun n => laws_eqInt64S_m n a a) true := eq_loop_ints hl
theorem eq_eqn {x : Timpl_Equation} (hl : x.2.2.length ≤ maxLen) : Ev (fun n => laws_eqEquation_m n x x) true :=
  Ev.ite_f (by simp) (Ev.ite_f (by simp) (Ev.bind (eq_ints hl) (Ev.ite_f (by simp) (Ev.pure _))))
theorem eq_eqns {a : List Timpl_Equation} (hl : a.length ≤ maxLen) (h : ∀ x ∈ a, x.2.2.length ≤ maxLen) : Ev (fun n => laws_eqEquationS_m n a a) true :=
  eq_loop (eq := fun n x y => laws_eqEquation_m n x y) (fun x hx => eq_eqn (h x hx)) hl

/-! ### rising lists -/
def okAt (xs : List Int) (n : Int) (k : Nat) : Bool := match xs[k]? with
  | none => true
  | some x => decide (0 ≤ x) && decide (x ≤ n) && (k == 0 || (match xs[k - 1]? with | none => true | some y => decide (y < x)))
def rises (xs : List Int) (n : Int) : Bool := decide (∀ k, k < xs.length → okAt xs n k = true)

theorem l00In_eq {n : Nat} {a b c : Int} : spec_l00In_m n a b c = some (decide (b ≤ a) && decide (a ≤ c)) := by
  unfold spec_l00In_m
  by_cases h : b ≤ a <;> simp [h]
theorem within_eq {n : Nat} {a b c : Int} : impl_within_m n a b c = some (decide (b ≤ a) && decide (a ≤ c)) := by
  unfold impl_within_m
  by_cases h : b ≤ a <;> simp [h]
theorem index_eq {n : Nat} {a b : Int} : impl_index_m n a b = some (decide (0 ≤ a) && decide (a ≤ W (b - 1))) := by
  unfold impl_index_m
  simp [within_eq]

theorem rises_spec {xs : List Int} (hl : xs.length ≤ maxLen) {n : Int} : Ev (fun m => spec_l00Rises_m m xs 0 n) (rises xs n) := by
  have hm := maxLen_le
  unfold spec_l00Rises_m
  refine (Ev.all xs.length (okAt xs n) false true (fun k hk hok => Ev.const' fun m => ?_) (fun k hk hok => Ev.const' fun m => ?_) (Ev.ite_f (by simp) (Ev.pure _))).eq (by unfold rises; split <;> simp_all)
  all_goals
    obtain ⟨x, hx⟩ := get_lt hk
    have w1 := W_succ hk (by omega)
    have hk' : decide ((k : Int) < (xs.length : Int)) = true := by simpa using hk
    simp only [hk', if_true, idx_at hx, l00In_eq, Option.bind_some]
    cases k with
    | zero => simp only [okAt, hx, w1] at hok ⊢; by_cases h1 : 0 ≤ x <;> by_cases h2 : x ≤ n <;> simp [h1, h2] at hok ⊢
    | succ j =>
      obtain ⟨y, hy⟩ := get_lt (xs := xs) (k := j) (by omega)
      have w2 := W_pred (k := j) (n := xs.length) (by omega) (by omega)
      simp only [okAt, hx, hy, w1, w2, idx_at hy, Option.bind_some, Nat.add_sub_cancel] at hok ⊢
      by_cases h1 : 0 ≤ x <;> by_cases h2 : x ≤ n <;> by_cases h3 : y < x <;> simp [h1, h2, h3] at hok ⊢

theorem increasing_law {xs : List Int} (hl : xs.length ≤ maxLen) {n : Int} : Ev (fun m => impl_increasing_m m xs n) (rises xs (W (n - 1))) := by
  have hm := maxLen_le
  unfold impl_increasing_m
  refine (Ev.all xs.length (okAt xs (W (n - 1))) false true (fun k hk hok => Ev.const' fun m => ?_) (fun k hk hok => Ev.const' fun m => ?_) (Ev.ite_f (by simp) (Ev.pure _))).eq (by unfold rises; split <;> simp_all)
  all_goals
    obtain ⟨x, hx⟩ := get_lt hk
    have w1 := W_succ hk (by omega)
    have hk' : decide ((k : Int) < (xs.length : Int)) = true := by simpa using hk
    simp only [hk', if_true, idx_at hx, index_eq, Option.bind_some]
    generalize W (n - 1) = n at *
    cases k with
    | zero => simp only [okAt, hx, w1] at hok ⊢; by_cases h1 : 0 ≤ x <;> by_cases h2 : x ≤ n <;> simp [h1, h2] at hok ⊢
    | succ j =>
      obtain ⟨y, hy⟩ := get_lt (xs := xs) (k := j) (by omega)
      have w2 := W_pred (k := j) (n := xs.length) (by omega) (by omega)
      simp only [okAt, hx, hy, w1, w2, idx_at hy, Option.bind_some, Nat.add_sub_cancel] at hok ⊢
      by_cases h1 : 0 ≤ x <;> by_cases h2 : x ≤ n <;> by_cases h3 : y < x <;> simp [h1, h2, h3] at hok ⊢

/-! ### changes of the sign -/
def chg (a : List Timpl_Equation) (k : Nat) : Bool := k != 0 && (match a[k]?, a[k - 1]? with | some x, some y => x.1 != y.1 | _, _ => false)
def cnt (a : List Timpl_Equation) : Nat → Nat
  | 0 => 0
  | k + 1 => cnt a k + (if chg a k = true then 1 else 0)
theorem cnt_le (a : List Timpl_Equation) : ∀ k, cnt a k ≤ k
  | 0 => Nat.le_refl _
  | k + 1 => by have := cnt_le a k; simp only [cnt]; split <;> omega

theorem count_law {a : List Timpl_Equation} (hl : a.length ≤ maxLen - 1) (h0 : 0 < a.length) : Ev (fun m => spec_l22Count_m m a) (1 + cnt a a.length : Nat) := by
  have hm := maxLen_le
  unfold spec_l22Count_m
  refine Exists.elim (EvI.count (step := _) a.length (fun k (_ : Unit) => (((1 + cnt a k : Nat) : Int), (k : Int))) (fun k _ => 0 < k) (fun r => r = .inl ((1 + cnt a a.length : Nat) : Int)) (fun k t hk hI => ?_) (fun t _ => ⟨_, Ev.ite_f (by simp) (Ev.pure _), rfl⟩) (k := 1) (t := ()) h0 Nat.one_pos)
    (fun res ⟨h1, h2⟩ => Ev.bind h1.ev (by subst h2; exact Ev.pure _))
  refine .inl ⟨(), Ev.const' fun m => ?_, by omega⟩
  obtain ⟨j, rfl⟩ : ∃ j, k = j + 1 := ⟨k - 1, by omega⟩
  obtain ⟨x, hx⟩ := get_lt hk
  obtain ⟨y, hy⟩ := get_lt (xs := a) (k := j) (by omega)
  have w1 := W_succ hk (by omega)
  have w2 := W_pred (k := j) (n := a.length) (by omega) (by omega)
  have w3 : W (((1 + cnt a (j + 1) : Nat) : Int) + 1) = ((1 + (cnt a (j + 1) + 1) : Nat) : Int) := by
    have := cnt_le a (j + 1)
    rw [W_of (by omega) (by omega)]; omega
  have hk' : decide (((j + 1 : Nat) : Int) < (a.length : Int)) = true := decide_eq_true (by omega)
  have hc : chg a (j + 1) = (x.1 != y.1) := by simp [chg, hx, hy]
  simp only [hk', if_true, idx_at hx, idx_at hy, Option.bind_some, w1, w2, w3, join]
  show _ = some (Sum.inl (((1 + (cnt a (j + 1) + (if chg a (j + 1) = true then 1 else 0)) : Nat) : Int), ((j + 1 + 1 : Nat) : Int)))
  rw [hc]
  cases x.1 != y.1 <;> simp

theorem blocks_law {a : List Timpl_Equation} (hl : a.length ≤ 1048576) : Ev (fun m => impl_equationBlocks_m m a) ((List.range a.length).map fun k => ((cnt a (k + 1) : Nat) : Int)) := by
  unfold impl_equationBlocks_m
  refine Exists.elim (EvI.count (step := _) a.length (fun k (_ : Unit) => ((List.range k).map (fun k => ((cnt a (k + 1) : Nat) : Int)), ((cnt a k : Nat) : Int), (k : Int))) (fun k _ => True) (fun r => r = .inl ((List.range a.length).map fun k => ((cnt a (k + 1) : Nat) : Int))) (fun k t hk hI => ?_) (fun t _ => ⟨_, Ev.ite_f (by simp) (Ev.pure _), rfl⟩) (k := 0) (t := ()) (Nat.zero_le _) trivial)
    (fun res ⟨h1, h2⟩ => Ev.bind h1.ev (by subst h2; exact Ev.pure _))
  refine .inl ⟨(), Ev.const' fun m => ?_, trivial⟩
  obtain ⟨x, hx⟩ := get_lt hk
  have w1 := W_succ hk (by omega)
  have hk' : decide ((k : Int) < (a.length : Int)) = true := decide_eq_true (by omega)
  have w3 : W ((cnt a k : Int) + 1) = ((cnt a k + 1 : Nat) : Int) := by
    have := cnt_le a k
    rw [W_of (by omega) (by omega)]; omega
  have happ : ∀ z : Int, app ((List.range k).map (fun k => ((cnt a (k + 1) : Nat) : Int))) [z] = some ((List.range k).map (fun k => ((cnt a (k + 1) : Nat) : Int)) ++ [z]) := fun z => app_ok (by simp; omega)
  simp only [hk', if_true, idx_at hx, Option.bind_some, join, happ, w1, w3]
  have hstep : (List.range (k + 1)).map (fun k => ((cnt a (k + 1) : Nat) : Int)) = (List.range k).map (fun k => ((cnt a (k + 1) : Nat) : Int)) ++ [((cnt a (k + 1) : Nat) : Int)] := by rw [List.range_succ, List.map_append]; rfl
  rw [hstep]
  cases k with
  | zero =>
    have hc : chg a 0 = false := rfl
    simp [cnt, hc]
  | succ j =>
    obtain ⟨y, hy⟩ := get_lt (xs := a) (k := j) (by omega)
    have w2 := W_pred (k := j) (n := a.length) (by omega) (by omega)
    have hc : chg a (j + 1) = (x.1 != y.1) := by simp [chg, hx, hy]
    have h0 : decide ((0 : Int) < ((j + 1 : Nat) : Int)) = true := decide_eq_true (by omega)
    simp only [h0, if_true, w2, idx_at hy, Option.bind_some]
    have e : cnt a (j + 1 + 1) = cnt a (j + 1) + (if chg a (j + 1) = true then 1 else 0) := rfl
    rw [e, hc]
    cases x.1 != y.1 <;> simp

theorem fit_law {a : List Timpl_Equation} (hl : a.length ≤ 1048576) (h0 : 0 < a.length) : Ev (fun m => impl_blocksFit_m m a) (decide ((cnt a a.length : Int) < 9)) := by
  unfold impl_blocksFit_m
  refine Ev.bind (blocks_law hl) (Ev.bind (a := ((cnt a a.length : Nat) : Int)) (Ev.const' fun m => ?_) (Ev.pure _))
  unfold impl_last_int64_m
  obtain ⟨j, hj⟩ : ∃ j, a.length = j + 1 := ⟨a.length - 1, by omega⟩
  have w2 := W_pred (k := j) (n := j + 1) (by omega) (by omega)
  have hi : ((List.range (j + 1)).map fun k => ((cnt a (k + 1) : Nat) : Int))[j]? = some ((cnt a (j + 1) : Nat) : Int) := by simp
  simp only [List.length_map, List.length_range, hj, w2, idx_at hi, Option.bind_some]

theorem find_law {a : List Timpl_Equation} (hl : a.length ≤ maxLen) {f : Nat → Timpl_Equation → Option Bool} {ok : Timpl_Equation → Bool} (hf : ∀ x ∈ a, Ev (fun m => f m x) (!(ok x))) :
    Ev (fun m => slices_ContainsFunc__impl_Equation_impl_Equation_m m a (f m)) (!(a.all ok)) := by
  have hm := maxLen_le
  unfold slices_ContainsFunc__impl_Equation_impl_Equation_m slices_IndexFunc__impl_Equation_impl_Equation_m
  have key : ∀ k, k < a.length → ∀ x, a[k]? = some x → Ev (fun m => f m x) (!(ok x)) := fun k hk x hx => hf x (List.mem_of_getElem? hx)
  obtain ⟨res, h1, h2⟩ := EvI.find (step := fun m (s : (Int)) => (match s with | (x26) => (if (decide (x26 < (a.length : Int))) = true then (idx a x26).bind fun x61 => (f m (x61.1, x61.2.1, x61.2.2)).bind fun x80 => (if x80 = true then some (.inr (.inr x26)) else some (.inl ((W (x26 + (1 : Int)))))) else some (.inr (.inl ()))) : Option (((Int)) ⊕ ((Unit) ⊕ (Int)))))
    a.length (fun k => match a[k]? with | none => true | some x => ok x) (fun k => (k : Int)) (fun k hk hok => by
      obtain ⟨x, hx⟩ := get_lt hk
      simp only [hx] at hok
      have := key k hk x hx
      rw [hok] at this
      exact (Ev.ite_t (decide_eq_true (by omega)) (Ev.bindc (idx_at hx) (Ev.bind this (Ev.ite_f (by simp) (Ev.pure _))))).eq (by rw [W_succ hk (by omega)])) (fun k hk hok => by
      obtain ⟨x, hx⟩ := get_lt hk
      simp only [hx] at hok
      have := key k hk x hx
      rw [hok] at this
      exact Ev.ite_t (decide_eq_true (by omega)) (Ev.bindc (idx_at hx) (Ev.bind this (Ev.ite_t (by simp) (Ev.pure _))))) (Ev.ite_f (by simp) (Ev.pure _)) (Nat.zero_le _)
  rcases h2 with ⟨rfl, h3⟩ | ⟨k, _, hk, hok, _, rfl⟩
  · have : a.all ok = true := by
      rw [List.all_eq_true]
      intro x hx
      obtain ⟨i, hi, rfl⟩ := List.getElem_of_mem hx
      have := h3 i (Nat.zero_le _) hi
      simpa [List.getElem?_eq_getElem hi] using this
    rw [this]
    exact Ev.bind (a := -1) (Ev.bind h1.ev (Ev.pure _)) (Ev.pure _)
  · obtain ⟨x, hx⟩ := get_lt hk
    simp only [hx] at hok
    have : a.all ok = false := by
      rw [← Bool.not_eq_true, List.all_eq_true]
      intro h
      rw [h x (List.mem_of_getElem? hx)] at hok
      cases hok
    rw [this]
    exact Ev.bind (a := (k : Int)) (Ev.bind h1.ev (Ev.pure _)) (Ev.const (by simp))

/-- What both take for a valid system. -/
def validE (a : List Timpl_Equation) : Bool := decide (1 ≤ a.length ∧ a.length ≤ 120 ∧ cnt a a.length < 9) && a.all fun x => rises x.2.2 (W ((a.length : Int) - 1))

theorem validE_impl {a : List Timpl_Equation} (hl : a.length ≤ 1048576) (g : ∀ x ∈ a, x.2.2.length ≤ 1048576) :
    Ev (fun m => impl_ValidEquations_m m a) (validE a) := by
  have hm : maxLen = 9223372036854775807 := by unfold maxLen; rfl
  unfold impl_ValidEquations_m validE
  simp only [within_eq, Option.bind_some]
  have hfind : Ev (fun m => slices_ContainsFunc__impl_Equation_impl_Equation_m m a (fun (z0 : Timpl_Equation) => impl_ValidEquations_1_m m z0 a)) (!(a.all fun x => rises x.2.2 (W ((a.length : Int) - 1)))) :=
    find_law (f := fun m z0 => impl_ValidEquations_1_m m z0 a) (by omega) (fun x hx => Ev.bind (increasing_law (by have := g x hx; omega)) (Ev.pure _))
  by_cases h1 : 1 ≤ a.length ∧ a.length ≤ 120
  · refine Ev.bind (a := !(decide ((cnt a a.length : Int) < 9))) (Ev.ite_f (by simp; omega) (Ev.bind (fit_law hl (by omega)) (Ev.pure _))) ?_
    by_cases h2 : cnt a a.length < 9
    · refine Ev.eq (Ev.ite_f (by simp; omega) (Ev.bind hfind (Ev.pure _))) ?_
      simp [h1, h2]
    · refine Ev.eq (Ev.ite_t (by simp; omega) (Ev.pure _)) ?_
      simp [h2]
  · refine Ev.bind (a := true) (Ev.ite_t (by simp; omega) (Ev.pure _)) (Ev.eq (Ev.ite_t rfl (Ev.pure _)) ?_)
    simp; omega

theorem l22Is_law {a : List Timpl_Equation} (hl : a.length ≤ 1048576) (g : ∀ x ∈ a, x.2.2.length ≤ 1048576) :
    Ev (fun m => spec_l22Is_m m a) (validE a) := by
  have hm : maxLen = 9223372036854775807 := by unfold maxLen; rfl
  unfold spec_l22Is_m validE
  simp only [or_some, Option.bind_some]
  by_cases h1 : 1 ≤ a.length ∧ a.length ≤ 120
  · refine Ev.bind (a := decide ((9 : Int) < ((1 + cnt a a.length : Nat) : Int))) (Ev.ite_f (by simp; omega) (Ev.bind (count_law (by omega) (by omega)) (Ev.pure _))) ?_
    by_cases h2 : cnt a a.length < 9
    · refine Ev.ite_f (by simp; omega) ?_
      refine (Ev.all (step := _) a.length (fun k => match a[k]? with | none => true | some x => rises x.2.2 (W ((a.length : Int) - 1))) false true (fun k hk hok => ?_) (fun k hk hok => ?_) (Ev.ite_f (by simp) (Ev.pure _))).eq ?_
      · obtain ⟨x, hx⟩ := get_lt hk
        simp only [hx] at hok
        have := rises_spec (xs := x.2.2) (n := W ((a.length : Int) - 1)) (by have := g x (List.mem_of_getElem? hx); omega)
        rw [hok] at this
        exact (Ev.ite_t (decide_eq_true (by omega)) (Ev.bindc (idx_at hx) (Ev.bind this (Ev.ite_f (by simp) (Ev.pure _))))).eq (by rw [W_succ hk (by omega)])
      · obtain ⟨x, hx⟩ := get_lt hk
        simp only [hx] at hok
        have := rises_spec (xs := x.2.2) (n := W ((a.length : Int) - 1)) (by have := g x (List.mem_of_getElem? hx); omega)
        rw [hok] at this
        exact Ev.ite_t (decide_eq_true (by omega)) (Ev.bindc (idx_at hx) (Ev.bind this (Ev.ite_t (by simp) (Ev.pure _))))
      · rw [decide_eq_true (by omega), Bool.true_and]
        split
        · rename_i h
          symm
          rw [List.all_eq_true]
          intro x hx
          obtain ⟨i, hi, rfl⟩ := List.getElem_of_mem hx
          have := h i hi
          simpa [List.getElem?_eq_getElem hi] using this
        · rename_i h
          symm
          rw [← Bool.not_eq_true, List.all_eq_true]
          intro h'
          refine h fun k hk => ?_
          obtain ⟨x, hx⟩ := get_lt hk
          simp only [hx]
          exact h' x (List.mem_of_getElem? hx)
    · refine Ev.eq (Ev.ite_t (by simp; omega) (Ev.pure _)) ?_
      simp [h2]
  · refine Ev.bind (a := true) (Ev.ite_t (by simp; omega) (Ev.pure _)) (Ev.eq (Ev.ite_t rfl (Ev.pure _)) ?_)
    simp; omega
theorem validE_wf {a : List Timpl_Equation} (hv : validE a = true) : 0 < a.length ∧ a.length ≤ 120 := by
  simp only [validE, Bool.and_eq_true, decide_eq_true_eq] at hv
  omega
theorem dec_m {m : Nat} {n : Int} (h1 : -9223372036854775808 ≤ n) (h2 : n ≤ 9223372036854775807) : impl_Decimal_m m n = some (Lib.itoa n) := by
  unfold impl_Decimal_m strconv_FormatInt_m
  rw [if_pos ⟨rfl, h1, h2⟩]
  rfl
/-! ### lists of numbers -/
theorem fill_iter {α β ρ : Type} {to' : Nat → α → Option β} {f : α → β} {a : List α} {z : β} (hto : ∀ x ∈ a, Ev (fun n => to' n x) (f x)) (hl : a.length ≤ 1048576) :
    EvI (fun n (s : (List β) × (Int)) => (match s with | (xs35, x36) => (if (decide (x36 < (a.length : Int))) = true then (idx a x36).bind fun x75 => (to' n x75).bind fun x92 => (idx xs35 x36).bind fun _ => some (.inl ((xs35.set x36.toNat x92), (W (x36 + (1 : Int))))) else some (.inr (.inl (xs35)))) : Option (((List β) × (Int)) ⊕ (((List β)) ⊕ (ρ))))) (List.replicate a.length z, (0 : Int)) (.inl (a.map f)) := by
  refine EvI.upto a.length (fun k (t : List β) => (t, (k : Int))) (fun k t => t = (a.take k).map f ++ List.replicate (a.length - k) z) (k := 0) (t := List.replicate a.length z) rfl (Nat.zero_le _) (by simp) (fun k t hk ht => ?_) (fun t ht => ?_)
  · obtain ⟨x, hx⟩ : ∃ x, a[k]? = some x := ⟨a[k], List.getElem?_eq_getElem hk⟩
    have hlen : ((a.take k).map f).length = k := by simp; omega
    have hi : t[k]? = some z := by
      rw [ht, List.getElem?_append_right (by omega), hlen, List.getElem?_replicate, if_pos (by omega)]
    refine ⟨_, (Ev.ite_t (by simpa using hk) (Ev.bindc (idx_at hx) (Ev.bind (hto x (List.mem_of_getElem? hx)) (Ev.bindc (idx_at hi) (Ev.pure (Sum.inl (t.set (k : Int).toNat (f x), W ((k : Int) + 1)))))))).eq ?_, rfl⟩
    rw [W_of (by omega) (by omega)]
    refine congrArg Sum.inl (Prod.ext ?_ rfl)
    show t.set (k : Int).toNat (f x) = _
    rw [ht, Int.toNat_natCast, List.set_append_right _ _ (by omega), hlen]
    rw [List.take_add_one, hx, List.map_append, List.append_assoc]
    congr 1
    rw [show a.length - k = (a.length - (k + 1)) + 1 by omega, List.replicate_succ]
    simp
  · refine (Ev.ite_f (by simp) (Ev.pure _)).eq ?_
    rw [ht]; simp

theorem cat_ev {a b : Str} (h : a.length + b.length ≤ 140737488355328) : cat a b = some (a ++ b) := by
  unfold cat
  rw [if_pos (by first | exact h | omega)]

/-! ### the reference's decimals -/
def rvD (u : Nat) : List Int := (Lib.decDigits u).reverse.map fun b => (b.toNat : Int)
theorem rvD_small {u : Nat} (h : u < 10) : rvD u = [((48 + u : Nat) : Int)] := by
  unfold rvD
  rw [Lib.decDigits_one h]
  simp
  omega
theorem rvD_big {u : Nat} (h : 10 ≤ u) : rvD u = ((48 + u % 10 : Nat) : Int) :: rvD (u / 10) := by
  unfold rvD
  rw [dec_big (by omega), List.reverse_append]
  simp
  omega
def rvE (u : Nat) : List Int := if u = 0 then [] else rvD u
theorem rvE_step {u : Nat} (h : 0 < u) : rvE u = ((48 + u % 10 : Nat) : Int) :: rvE (u / 10) := by
  unfold rvE
  rw [if_neg (by omega)]
  by_cases h1 : u < 10
  · rw [rvD_small h1, if_pos (by omega), Nat.mod_eq_of_lt h1]
  · rw [rvD_big (by omega), if_neg (by omega)]
theorem dec_loop (_n0 : Int) : ∀ (u : Nat) (x : Int) (xs : List Int), x.natAbs = u → u ≤ 4611686018427387904 → xs.length + u ≤ 4611686018427387904 + 100 → xs.length ≤ 1000 - 10 * 0 →
    (∀ d, u < 10 ^ d → xs.length + d ≤ 1000 → EvI (fun (_ : Nat) (s : (List Int) × (Int)) => (match s with | (xs53, x55) => (if (x55 != (0 : Int)) = true then join (κ := Int → Option (((List Int) × (Int)) ⊕ (((List Int)) ⊕ (Str)))) (fun (x167 : Int) => (app xs53 [(IntKind.u8.wrap (W ((48 : Int) + x167)))]).bind fun x173 => some (.inl (x173, (W (x55.tdiv (10 : Int)))))) (fun K168 => (if (decide ((x55.tmod (10 : Int)) < (0 : Int))) = true then (K168 (W (0 - (x55.tmod (10 : Int))))) else (K168 (x55.tmod (10 : Int))))) else some (.inr (.inl (xs53)))) : Option (((List Int) × (Int)) ⊕ (((List Int)) ⊕ (Str))))) (xs, x) (.inl (xs ++ rvE u))) := by
  intro u
  induction u using Nat.strongRecOn with
  | ind u ih =>
    intro x xs hx hu hl hl2 d hd hd2
    by_cases h0 : u = 0
    · subst h0
      have hx0 : x = 0 := by omega
      subst hx0
      refine EvI.stop (Ev.ite_f (by simp) (Ev.const ?_))
      simp [rvE]
    · rw [rvE_step (by omega)]
      have hd0 : d ≠ 0 := by intro e; subst e; simp at hd; omega
      obtain ⟨d', rfl⟩ : ∃ d', d = d' + 1 := ⟨d - 1, by omega⟩
      have hmod : x.tmod 10 = (if x < 0 then -((u % 10 : Nat) : Int) else ((u % 10 : Nat) : Int)) := by
        by_cases hn : x < 0
        · rw [if_pos hn]
          have : x = -(u : Int) := by omega
          rw [this, Int.neg_tmod]
          rfl
        · rw [if_neg hn]
          have : x = (u : Int) := by omega
          rw [this]; rfl
      have hdiv : x.tdiv 10 = (if x < 0 then -((u / 10 : Nat) : Int) else ((u / 10 : Nat) : Int)) := by
        by_cases hn : x < 0
        · rw [if_pos hn]
          have : x = -(u : Int) := by omega
          rw [this, Int.neg_tdiv]
          rfl
        · rw [if_neg hn]
          have : x = (u : Int) := by omega
          rw [this]; rfl
      have hwd : W (x.tdiv 10) = x.tdiv 10 := by
        rw [hdiv]
        split <;> exact W_of (by omega) (by omega)
      have hch : IntKind.u8.wrap (W ((48 : Int) + ((u % 10 : Nat) : Int))) = ((48 + u % 10 : Nat) : Int) := by
        rw [W_of (by omega) (by omega)]
        unfold IntKind.wrap
        simp [IntKind.signed, IntKind.bits]
        omega
      have hstep : Ev (fun (_ : Nat) => (if (x != (0 : Int)) = true then join (κ := Int → Option (((List Int) × (Int)) ⊕ (((List Int)) ⊕ (Str)))) (fun (x167 : Int) => (app xs [(IntKind.u8.wrap (W ((48 : Int) + x167)))]).bind fun x173 => some (.inl (x173, (W (x.tdiv (10 : Int)))))) (fun K168 => (if (decide ((x.tmod (10 : Int)) < (0 : Int))) = true then (K168 (W (0 - (x.tmod (10 : Int))))) else (K168 (x.tmod (10 : Int))))) else some (.inr (.inl (xs))) : Option (((List Int) × (Int)) ⊕ (((List Int)) ⊕ (Str))))) (.inl (xs ++ [((48 + u % 10 : Nat) : Int)], x.tdiv 10)) := by
        refine Ev.ite_t (by simp; omega) (Ev.join ?_)
        rw [hwd]
        have hfin : ∀ z : Int, z = ((u % 10 : Nat) : Int) → (app xs [(IntKind.u8.wrap (W ((48 : Int) + z)))]).bind (fun x173 => (some (.inl (x173, x.tdiv 10)) : Option (((List Int) × (Int)) ⊕ (((List Int)) ⊕ (Str))))) = some (.inl (xs ++ [((48 + u % 10 : Nat) : Int)], x.tdiv 10)) := by
          intro z hz
          rw [hz, hch, app_ok (by simp; omega)]; rfl
        by_cases hneg : x.tmod 10 < 0
        · refine Ev.ite_t (decide_eq_true hneg) (Ev.const (hfin _ ?_))
          rw [hmod] at hneg ⊢
          split
          · rw [W_of (by omega) (by omega)]; omega
          · rename_i h; rw [if_neg h] at hneg; omega
        · refine Ev.ite_f (by simpa using hneg) (Ev.const (hfin _ ?_))
          rw [hmod] at hneg ⊢
          split
          · rename_i h; rw [if_pos h] at hneg; omega
          · rfl
      refine EvI.go hstep ?_
      have := ih (u / 10) (by omega) (x.tdiv 10) (xs ++ [((48 + u % 10 : Nat) : Int)]) (by rw [hdiv]; split <;> omega) (by omega) (by simp; omega) (by simp at hd2 ⊢; omega) d' (by
        rw [Nat.pow_succ] at hd; omega) (by simp; omega)
      rw [List.append_assoc] at this
      exact this
theorem decD_len : ∀ (d u : Nat), u < 10 ^ (d + 1) → (Lib.decDigits u).length ≤ d + 1
  | 0, u, h => by rw [Lib.decDigits_one (by omega)]; simp
  | d + 1, u, h => by
    by_cases hu : u < 10
    · rw [Lib.decDigits_one hu]; simp
    · rw [dec_big hu, List.length_append]
      have := decD_len d (u / 10) (by rw [Nat.pow_succ] at h; omega)
      simp; omega
theorem itoa_len {n : Int} (h1 : -1000000000000000 ≤ n) (h2 : n ≤ 1000000000000000) : (Lib.itoa n).length ≤ 21 := by
  unfold Lib.itoa
  split
  · have := decD_len 17 n.natAbs (by omega)
    simp; omega
  · have := decD_len 17 n.toNat (by omega)
    omega
theorem dec_ref {n : Int} (h1 : -1000000000000000 ≤ n) (h2 : n ≤ 1000000000000000) : Ev (fun m => spec_l01Dec_m m n) (Lib.itoa n) := by
  unfold spec_l01Dec_m
  by_cases h0 : n = 0
  · subst h0
    exact (Ev.ite_t (by simp) (Ev.pure _)).eq (by
      unfold Lib.itoa
      rw [if_neg (by omega)]
      exact (Lib.decDigits_one (i := 0) (by omega)).symm)
  refine Ev.ite_f (by simpa using h0) ?_
  have hl := dec_loop n n.natAbs n [] rfl (by omega) (by simp; omega) (by simp) 18 (by omega) (by simp)
  rw [List.nil_append] at hl
  have hrv : rvE n.natAbs = rvD n.natAbs := by unfold rvE; rw [if_neg (by omega)]
  have hdl : (Lib.decDigits n.natAbs).length ≤ 40 := by
    have := decD_len 17 n.natAbs (by omega)
    omega
  have hrl : (rvD n.natAbs).length ≤ 40 := by unfold rvD; simpa using hdl
  rw [hrv] at hl
  let ds : List Int := if n < 0 then rvD n.natAbs ++ [45] else rvD n.natAbs
  have hdsl : ds.length ≤ 41 := by
    show (if n < 0 then _ else _ : List Int).length ≤ 41
    split
    · simp; omega
    · omega
  have hres : bstr ds.reverse = Lib.itoa n := by
    have hb : ∀ l : Str, bstr (l.map fun b => (b.toNat : Int)) = l := by
      intro l
      unfold bstr
      rw [List.map_map]
      refine (List.map_congr_left fun b _ => ?_).trans (List.map_id _)
      simp
    show bstr (if n < 0 then rvD n.natAbs ++ [45] else rvD n.natAbs).reverse = _
    unfold rvD Lib.itoa
    by_cases hn : n < 0
    · rw [if_pos hn, if_pos hn, List.reverse_append, ← List.map_reverse, List.reverse_reverse]
      have := hb (45 :: Lib.decDigits n.natAbs)
      simpa using this
    · rw [if_neg hn, if_neg hn, ← List.map_reverse, List.reverse_reverse, show n.toNat = n.natAbs by omega]
      exact hb _
  have hrev : ∀ ds : List Int, ds.length ≤ 41 → Ev (fun m => (iter (fun (s : (List Int) × (Int)) => (match s with | (xs108, x110) => (if (decide ((0 : Int) ≤ x110)) = true then (idx ds x110).bind fun x141 => (app xs108 [x141]).bind fun x149 => some (.inl (x149, (W (x110 - (1 : Int))))) else some (.inr (.inl (xs108)))) : Option (((List Int) × (Int)) ⊕ (((List Int)) ⊕ (Str))))) m (([] : List Int), (W ((ds.length : Int) - (1 : Int))))).bind fun res132 => ctl (β := (List Int)) (ρ := Str) (τ := Str) res132 (fun (xs130) => some ((bstr xs130))) (fun q => some (q))) (bstr ds.reverse) := by
    intro ds hdsl
    refine Ev.bind (a := Sum.inl ds.reverse) (EvI.ev ?_) (Ev.pure _)
    refine EvI.upto ds.length (fun k (_ : Unit) => (ds.reverse.take k, (ds.length : Int) - 1 - (k : Int))) (fun _ _ => True) (k := 0) (t := ()) (by rw [W_of (by omega) (by omega)]; simp) (Nat.zero_le _) trivial (fun k _ hk _ => ⟨(), ?_, trivial⟩) (fun _ _ => by
      dsimp only
      refine Ev.ite_f (by simp; omega) (Ev.const ?_)
      rw [List.take_of_length_le (by simp)])
    obtain ⟨x, hx⟩ := get_lt (xs := ds.reverse) (k := k) (by simpa using hk)
    have hx' : ds[ds.length - 1 - k]? = some x := by rw [← List.getElem?_reverse hk]; exact hx
    dsimp only
    refine Ev.ite_t (decide_eq_true (by omega)) (Ev.bindc (a := x) ?_ (Ev.bindc (app_ok (by simp; omega)) (Ev.const ?_)))
    · have := idx_at hx'
      rwa [show ((ds.length - 1 - k : Nat) : Int) = (ds.length : Int) - 1 - (k : Int) by omega] at this
    · rw [List.take_add_one, hx, W_of (by omega) (by omega), show (ds.length : Int) - 1 - (k : Int) - 1 = (ds.length : Int) - 1 - ((k + 1 : Nat) : Int) by omega]
      rfl
  refine Ev.bind (a := Sum.inl (rvD n.natAbs)) (EvI.ev hl) (Ev.join ?_)
  rw [← hres]
  by_cases hn : n < 0
  · refine Ev.ite_t (decide_eq_true hn) (Ev.bindc (app_ok (by simp; omega)) ?_)
    have e : ds = rvD n.natAbs ++ [45] := if_pos hn
    rw [e]
    exact hrev _ (by simp; omega)
  · refine Ev.ite_f (by simpa using hn) ?_
    have e : ds = rvD n.natAbs := if_neg hn
    rw [e]
    exact hrev _ (by omega)

/-! ### lists of decimals -/
def val12 (n : Int) : Bool := decide (-1000000000000 ≤ n) && decide (n ≤ 1000000000000)
def listP (vs : List Int) : Bool := decide (vs.length ≤ 64) && vs.all val12
theorem val12_iff {n : Int} : val12 n = true ↔ -1000000000000 ≤ n ∧ n ≤ 1000000000000 := by unfold val12; simp
/-- The text of a list. -/
def lstT (vs : List Int) : Str := if vs = [] then [45] else Lib.join (vs.map Lib.itoa) [44]
theorem join_snoc (c : Str) (xs : List Str) (y : Str) : Lib.join (xs ++ [y]) c = if xs = [] then y else Lib.join xs c ++ c ++ y := by
  cases xs with
  | nil => simp [Lib.join_one]
  | cons x r =>
    rw [if_neg (by simp), List.cons_append, Lib.join_cons, Lib.join_cons]
    simp [Lib.joinTail]
theorem join_le {c : Str} {L : Nat} : ∀ (xs : List Str), (∀ x ∈ xs, x.length ≤ L) → (Lib.join xs c).length ≤ xs.length * (L + c.length) := by
  refine rev_ind (fun _ => by simp [Lib.join_nil]) fun xs y ih h => ?_
  have h1 := ih fun x hx => h x (by simp [hx])
  have h2 := h y (by simp)
  rw [join_snoc, List.length_append, Nat.add_mul]
  split
  · simp; omega
  · simp; omega
theorem lst_spec {vs : List Int} (hl : vs.length ≤ 100000) (h : ∀ v ∈ vs, -1000000000000000 ≤ v ∧ v ≤ 1000000000000000) : Ev (fun m => spec_l01List_m m vs) (lstT vs) := by
  unfold spec_l01List_m lstT
  by_cases h0 : vs = []
  · rw [if_pos h0]
    subst h0
    exact Ev.ite_t (by simp) (Ev.pure _)
  rw [if_neg h0]
  have hne : ¬ ((vs.length : Int) == 0) = true := by
    intro e
    exact h0 (List.eq_nil_of_length_eq_zero (by have := beq_iff_eq.1 e; omega))
  refine Ev.ite_f hne (Ev.bind (a := Sum.inl (Lib.join (vs.map Lib.itoa) [44])) (EvI.ev ?_) (Ev.pure _))
  refine EvI.upto vs.length (fun k (_ : Unit) => (Lib.join ((vs.take k).map Lib.itoa) [44], (k : Int))) (fun _ _ => True) (k := 0) (t := ()) (by simp [Lib.join_nil]) (Nat.zero_le _) trivial (fun k _ hk _ => ⟨(), ?_, trivial⟩) (fun _ _ => by
    dsimp only
    exact Ev.ite_f (by simp) (Ev.const (by rw [List.take_length])))
  obtain ⟨v, hv⟩ := get_lt hk
  have hb := h v (List.mem_of_getElem? hv)
  have hil := itoa_len hb.1 hb.2
  have hjl := join_le (c := [44]) (L := 21) ((vs.take k).map Lib.itoa) (fun x hx => by
    obtain ⟨v, hv, rfl⟩ := List.mem_map.1 hx
    have := h v (List.mem_of_mem_take hv)
    exact itoa_len this.1 this.2)
  rw [List.length_map] at hjl
  have hjl : (Lib.join ((vs.take k).map Lib.itoa) [44]).length ≤ 100000 * 22 := Nat.le_trans hjl (Nat.mul_le_mul (by rw [List.length_take]; omega) (Nat.le_refl _))
  dsimp only
  rw [List.take_add_one, hv, List.map_append]
  rw [show (some v).toList.map Lib.itoa = [Lib.itoa v] from rfl, join_snoc]
  generalize hg : Lib.join ((vs.take k).map Lib.itoa) [44] = j at hjl ⊢
  refine Ev.ite_t (decide_eq_true (by omega)) (Ev.join ?_)
  by_cases hk0 : k = 0
  · subst hk0
    rw [if_pos (by simp)]
    have hj : j = [] := by rw [← hg]; simp [Lib.join_nil]
    refine Ev.ite_f (by simp) (Ev.bindc (idx_at hv) (Ev.bind (dec_ref hb.1 hb.2) (Ev.bindc (cat_ev (by omega)) (Ev.const ?_))))
    rw [hj, W_succ hk (by omega)]; rfl
  · rw [if_neg (by intro e; have h3 := congrArg List.length e; rw [List.length_map, List.length_take, List.length_nil] at h3; omega)]
    refine Ev.ite_t (decide_eq_true (by omega)) (Ev.bindc (cat_ev (by simp; omega)) (Ev.bindc (idx_at hv) (Ev.bind (dec_ref hb.1 hb.2) (Ev.bindc (cat_ev (by simp; omega)) (Ev.const ?_)))))
    rw [W_succ hk (by omega)]
theorem joined_law {vs : List Int} {c : UInt8} (hl : vs.length ≤ 100000) (h : ∀ v ∈ vs, -1000000000000000 ≤ v ∧ v ≤ 1000000000000000) : Ev (fun m => impl_joined_m m vs [c]) (Lib.join (vs.map Lib.itoa) [c]) := by
  unfold impl_joined_m
  have hjl := join_le (c := [c]) (L := 21) (vs.map Lib.itoa) (fun x hx => by
    obtain ⟨v, hv, rfl⟩ := List.mem_map.1 hx
    have := h v hv
    exact itoa_len this.1 this.2)
  rw [List.length_map] at hjl
  simp at hjl
  refine Ev.bindc (mks_ok (by omega)) (Ev.bind (fill_iter (f := Lib.itoa) (to' := impl_Decimal_m) (a := vs) (z := ([] : Str)) (fun x hx => Ev.const' fun m => by
    have := h x hx
    exact dec_m (by omega) (by omega)) (by omega)).ev (Ev.const' fun m => ?_))
  rw [ctl_l]
  unfold strings_Join_m
  rw [if_pos ⟨by simp; omega, by omega⟩]
  rfl
theorem listOk_ev {vs : List Int} (hl : vs.length ≤ maxLen) : Ev (fun m => impl_listOk_m m vs) (listP vs) := by
  unfold impl_listOk_m listP
  by_cases h : vs.length ≤ 64
  · rw [decide_eq_true h, Bool.true_and]
    refine Ev.bind (a := vs.all val12) (Ev.ite_t (decide_eq_true (by omega)) (Ev.bind (a := !(vs.all val12)) ?_ (Ev.const (by rw [Bool.not_not])))) (Ev.pure _)
    have := contains_loop hl (f := fun m z => impl_listOk_1_m m z) (ok := val12) (fun x _ => Ev.const' fun m => by
      unfold impl_listOk_1_m
      simp only [within_eq, Option.bind_some]
      rfl)
    unfold slices_ContainsFunc__int64_int64_m slices_IndexFunc__int64_int64_m
    exact this
  · rw [decide_eq_false h, Bool.false_and]
    exact Ev.bind (a := false) (Ev.ite_f (by simp; omega) (Ev.pure _)) (Ev.pure _)
theorem lstT_impl {vs : List Int} (hl : vs.length ≤ maxLen) : Ev (fun m => impl_ListText_m m vs) (if listP vs = true then lstT vs else []) := by
  unfold impl_ListText_m
  refine Ev.bind (listOk_ev hl) ?_
  cases hp : listP vs
  · exact Ev.ite_t rfl (Ev.pure _)
  · refine Ev.ite_f (by simp) ?_
    unfold listP at hp
    simp only [Bool.and_eq_true, decide_eq_true_eq, List.all_eq_true] at hp
    rw [if_pos rfl]
    unfold lstT
    by_cases h0 : vs = []
    · rw [if_pos h0]
      subst h0
      exact Ev.ite_t (by simp) (Ev.pure _)
    · rw [if_neg h0]
      have hne : ¬ ((vs.length : Int) == 0) = true := by
        intro e
        exact h0 (List.eq_nil_of_length_eq_zero (by have := beq_iff_eq.1 e; omega))
      refine Ev.ite_f hne (Ev.bind (joined_law (by omega) fun v hv => ?_) (Ev.pure _))
      have := val12_iff.1 (hp.2 v hv)
      omega
theorem lstT_len {vs : List Int} (hp : listP vs = true) : (lstT vs).length ≤ 1408 := by
  unfold listP at hp
  simp only [Bool.and_eq_true, decide_eq_true_eq, List.all_eq_true] at hp
  unfold lstT
  split
  · simp
  · have := join_le (c := [44]) (L := 21) (vs.map Lib.itoa) (fun x hx => by
      obtain ⟨v, hv, rfl⟩ := List.mem_map.1 hx
      have := val12_iff.1 (hp.2 v hv)
      exact itoa_len (by omega) (by omega))
    rw [List.length_map] at this
    simp at this
    omega
def fitsE (a : List Timpl_Equation) : Bool := a.all fun x => decide (x.2.2.length ≤ 64)
def eqnT (x : Timpl_Equation) : Str := (if x.1 = true then [110, 117] else [109, 117]) ++ [32] ++ (if x.2.1 = true then [97, 108, 108] else [97, 110, 121]) ++ [32] ++ lstT x.2.2
def eqnsT (a : List Timpl_Equation) : Str := Lib.join (a.map eqnT) [10]
theorem terms_ok {a : List Timpl_Equation} (hv : validE a = true) (hf : fitsE a = true) {x : Timpl_Equation} (hx : x ∈ a) : listP x.2.2 = true := by
  have hwf := validE_wf hv
  simp only [validE, Bool.and_eq_true, decide_eq_true_eq, List.all_eq_true] at hv
  have hr := hv.2 x hx
  rw [W_of (by omega) (by omega)] at hr
  unfold fitsE at hf
  have h64 := of_decide_eq_true (List.all_eq_true.1 hf x hx)
  unfold listP
  rw [decide_eq_true h64, Bool.true_and, List.all_eq_true]
  intro v hv'
  obtain ⟨k, hk⟩ := List.mem_iff_getElem?.1 hv'
  have hkl := (List.getElem?_eq_some_iff.1 hk).1
  simp only [rises, decide_eq_true_eq] at hr
  have := hr k hkl
  simp only [okAt, hk, Bool.and_eq_true, decide_eq_true_eq] at this
  exact val12_iff.2 (by omega)
theorem eqnT_len {x : Timpl_Equation} (h : listP x.2.2 = true) : (eqnT x).length ≤ 1500 := by
  have := lstT_len h
  unfold eqnT
  simp only [List.length_append]
  split <;> split <;> simp <;> omega
theorem fits_ref {a : List Timpl_Equation} (hl : a.length ≤ 1048576) : Ev (fun m => spec_l22Fits_m m a) (fitsE a) := by
  unfold spec_l22Fits_m
  refine (Ev.all a.length (fun k => match a[k]? with | none => true | some x => decide (x.2.2.length ≤ 64)) false true (fun k hk hok => ?_) (fun k hk hok => ?_) (Ev.ite_f (by simp) (Ev.pure _))).eq ?_
  · obtain ⟨x, hx⟩ := get_lt hk
    simp only [hx, decide_eq_true_eq] at hok
    exact Ev.ite_t (decide_eq_true (by omega)) (Ev.bindc (idx_at hx) (Ev.ite_f (by simp; omega) (Ev.const (by rw [W_succ hk (by omega)]))))
  · obtain ⟨x, hx⟩ := get_lt hk
    simp only [hx, decide_eq_false_iff_not] at hok
    exact Ev.ite_t (decide_eq_true (by omega)) (Ev.bindc (idx_at hx) (Ev.ite_t (by simp; omega) (Ev.pure _)))
  · rw [all_list (a := a) (ok := fun x => decide (x.2.2.length ≤ 64)) (h := fun k => match a[k]? with | none => true | some x => decide (x.2.2.length ≤ 64)) (fun k => by cases a[k]? <;> rfl)]
    unfold fitsE
    cases a.all fun x => decide (x.2.2.length ≤ 64) <;> rfl
theorem pre_len {a : List Timpl_Equation} (hv : validE a = true) (hf : fitsE a = true) (k : Nat) : (Lib.join ((a.take k).map eqnT) [10]).length ≤ 200000 := by
  have hwf := validE_wf hv
  have h := join_le (c := [10]) (L := 1500) ((a.take k).map eqnT) (fun x hx => by
    obtain ⟨y, hy, rfl⟩ := List.mem_map.1 hx
    exact eqnT_len (terms_ok hv hf (List.mem_of_mem_take hy)))
  rw [List.length_map] at h
  have h2 : (a.take k).length ≤ 120 := by rw [List.length_take]; omega
  have h3 := Nat.mul_le_mul h2 (Nat.le_refl (1500 + ([10] : Str).length))
  have h4 : 120 * (1500 + ([10] : Str).length) ≤ 200000 := by decide
  omega
theorem text_ref {a : List Timpl_Equation} (hv : validE a = true) (hf : fitsE a = true) : Ev (fun m => spec_l22Text_m m a) (eqnsT a) := by
  have hwf := validE_wf hv
  unfold spec_l22Text_m eqnsT
  refine Ev.bind (a := Sum.inl (Lib.join (a.map eqnT) [10])) (EvI.ev ?_) (Ev.pure _)
  refine EvI.upto a.length (fun k (_ : Unit) => (Lib.join ((a.take k).map eqnT) [10], (k : Int))) (fun _ _ => True) (k := 0) (t := ()) (by simp [Lib.join_nil]) (Nat.zero_le _) trivial (fun k _ hk _ => ⟨(), ?_, trivial⟩) (fun _ _ => by
    dsimp only
    exact Ev.ite_f (by simp) (Ev.const (by rw [List.take_length])))
  obtain ⟨x, hx⟩ := get_lt hk
  have hxm := List.mem_of_getElem? hx
  have hp := terms_ok hv hf hxm
  have hll := lstT_len hp
  have hjl := pre_len hv hf k
  have hlst : Ev (fun m => spec_l01List_m m x.2.2) (lstT x.2.2) := by
    have hp' := hp
    unfold listP at hp'
    simp only [Bool.and_eq_true, decide_eq_true_eq, List.all_eq_true] at hp'
    exact lst_spec (by omega) fun v hv => by have := val12_iff.1 (hp'.2 v hv); omega
  dsimp only
  rw [List.take_add_one, hx, List.map_append]
  rw [show (some x).toList.map eqnT = [eqnT x] from rfl, join_snoc]
  generalize hg : Lib.join ((a.take k).map eqnT) [10] = j at hjl ⊢
  -- what stands behind the line's end
  have rest : ∀ j' : Str, j'.length ≤ 200100 → Ev (fun fuel => join (κ := Str → Option (((Str) × (Int)) ⊕ ((Str) ⊕ (Str)))) (fun (x200 : Str) => join (κ := Str → Option (((Str) × (Int)) ⊕ ((Str) ⊕ (Str)))) (fun (x203 : Str) => (idx a (k : Int)).bind fun x206 => (spec_l01List_m fuel x206.2.2).bind fun x223 => (cat x203 x223).bind fun x226 => some (.inl (x226, (W ((k : Int) + (1 : Int)))))) (fun K204 => (idx a (k : Int)).bind fun x228 => (if x228.2.1 = true then (cat x200 ([97, 108, 108, 32] : Str)).bind fun x244 => (K204 x244) else (cat x200 ([97, 110, 121, 32] : Str)).bind fun x246 => (K204 x246)))) (fun K201 => (idx a (k : Int)).bind fun x248 => (if x248.1 = true then (cat j' ([110, 117, 32] : Str)).bind fun x264 => (K201 x264) else (cat j' ([109, 117, 32] : Str)).bind fun x266 => (K201 x266)))) (.inl (j' ++ eqnT x, ((k + 1 : Nat) : Int))) := by
    intro j' hj'
    have last : ∀ z : Str, z.length ≤ 200200 → z ++ lstT x.2.2 = j' ++ eqnT x → Ev (fun fuel => (idx a (k : Int)).bind fun x206 => (spec_l01List_m fuel x206.2.2).bind fun x223 => (cat z x223).bind fun x226 => (some (.inl (x226, (W ((k : Int) + (1 : Int))))) : Option (((Str) × (Int)) ⊕ ((Str) ⊕ (Str))))) (.inl (j' ++ eqnT x, ((k + 1 : Nat) : Int))) := by
      intro z hz he
      refine Ev.bindc (idx_at hx) (Ev.bind hlst (Ev.bindc (cat_ev (by omega)) (Ev.const ?_)))
      rw [he, W_succ hk (by omega)]
    refine Ev.join (Ev.bindc (idx_at hx) ?_)
    by_cases h1 : x.1 = true
    · refine Ev.ite_t h1 (Ev.bindc (cat_ev (by simp; omega)) (Ev.join (Ev.bindc (idx_at hx) ?_)))
      by_cases h2 : x.2.1 = true
      · refine Ev.ite_t h2 (Ev.bindc (cat_ev (by simp; omega)) (last _ (by simp; omega) ?_))
        unfold eqnT
        simp [h1, h2]
      · refine Ev.ite_f h2 (Ev.bindc (cat_ev (by simp; omega)) (last _ (by simp; omega) ?_))
        unfold eqnT
        simp [h1, h2]
    · refine Ev.ite_f h1 (Ev.bindc (cat_ev (by simp; omega)) (Ev.join (Ev.bindc (idx_at hx) ?_)))
      by_cases h2 : x.2.1 = true
      · refine Ev.ite_t h2 (Ev.bindc (cat_ev (by simp; omega)) (last _ (by simp; omega) ?_))
        unfold eqnT
        simp [h1, h2]
      · refine Ev.ite_f h2 (Ev.bindc (cat_ev (by simp; omega)) (last _ (by simp; omega) ?_))
        unfold eqnT
        simp [h1, h2]
  refine Ev.ite_t (decide_eq_true (by omega)) (Ev.join ?_)
  by_cases hk0 : k = 0
  · subst hk0
    rw [if_pos (by simp)]
    have hj : j = [] := by rw [← hg]; simp [Lib.join_nil]
    subst hj
    exact Ev.ite_f (by simp) (rest [] (by simp))
  · rw [if_neg (by intro e; have h3 := congrArg List.length e; rw [List.length_map, List.length_take, List.length_nil] at h3; omega)]
    refine Ev.ite_t (decide_eq_true (by omega)) (Ev.bindc (cat_ev (by simp; omega)) ?_)
    exact rest (j ++ [10]) (by simp; omega)
theorem etext_impl {a : List Timpl_Equation} (hl : a.length ≤ 1048576) (g : ∀ x ∈ a, x.2.2.length ≤ 1048576) : Ev (fun m => impl_EquationsText_m m a) (if validE a = true ∧ fitsE a = true then eqnsT a else []) := by
  unfold impl_EquationsText_m
  have hm : maxLen = 9223372036854775807 := by unfold maxLen; rfl
  have hfind : Ev (fun m => slices_ContainsFunc__impl_Equation_impl_Equation_m m a (fun (z0 : Timpl_Equation) => impl_EquationsText_1_m m z0)) (!(fitsE a)) :=
    find_law (f := fun m z0 => impl_EquationsText_1_m m z0) (by omega) (fun x hx => by
      unfold impl_EquationsText_1_m
      refine Ev.const (congrArg some ?_)
      rw [← decide_not]
      exact decide_eq_decide.2 (by omega))
  refine Ev.bind (validE_impl hl g) (Ev.bind (a := !(validE a && fitsE a)) ?_ ?_)
  · cases hv : validE a
    · exact Ev.ite_t rfl (Ev.pure _)
    · exact (Ev.ite_f (by simp) (Ev.bind hfind (Ev.pure _))).eq (by simp)
  · cases hv : validE a
    · exact (Ev.ite_t (by simp) (Ev.pure _)).eq (by simp)
    cases hf : fitsE a
    · exact (Ev.ite_t (by simp) (Ev.pure _)).eq (by simp)
    refine Ev.eq ?_ (if_pos ⟨rfl, rfl⟩).symm
    refine Ev.ite_f (by simp) ?_
    have hwf := validE_wf hv
    refine Ev.bind (a := Sum.inl (a.map eqnT)) (append_map (step := _) a eqnT (fun k x hx => ?_) (fun xs => Ev.ite_f (by simp) (Ev.pure _))).ev ?_
    · have hk := (List.getElem?_eq_some_iff.1 hx).1
      have hxm := List.mem_of_getElem? hx
      have hp := terms_ok hv hf hxm
      have hll := lstT_len hp
      have hlst := lstT_impl (vs := x.2.2) (by have := g x hxm; omega)
      rw [if_pos hp] at hlst
      have last : ∀ p q : Str, p.length ≤ 100 → q.length ≤ 100 → p ++ [32] ++ q ++ [32] ++ lstT x.2.2 = eqnT x → Ev (fun fuel => (cat p ([32] : Str)).bind fun x199 => (cat x199 q).bind fun x201 => (cat x201 ([32] : Str)).bind fun x203 => (impl_ListText_m fuel x.2.2).bind fun x207 => (cat x203 x207).bind fun x210 => (app ((a.take k).map eqnT) [x210]).bind fun x215 => (some (.inl (x215, (W ((k : Int) + (1 : Int))))) : Option (((List Str) × (Int)) ⊕ (((List Str)) ⊕ (Str))))) (.inl ((a.take k).map eqnT ++ [eqnT x], ((k + 1 : Nat) : Int))) := by
        intro p q hp hq he
        refine Ev.bindc (cat_ev (by simp; omega)) (Ev.bindc (cat_ev (by simp; omega)) (Ev.bindc (cat_ev (by simp; omega)) (Ev.bind hlst (Ev.bindc (cat_ev (by simp; omega)) (Ev.bindc (app_ok (by rw [List.length_map, List.length_take]; simp; omega)) (Ev.const ?_))))))
        rw [he, W_succ hk (by omega)]
      refine Ev.ite_t (decide_eq_true (by omega)) (Ev.bindc (idx_at hx) (Ev.join ?_))
      by_cases h1 : x.1 = true
      · refine Ev.ite_t h1 (Ev.join ?_)
        by_cases h2 : x.2.1 = true
        · exact Ev.ite_t h2 (last _ _ (by simp) (by simp) (by unfold eqnT; simp [h1, h2]))
        · exact Ev.ite_f h2 (last _ _ (by simp) (by simp) (by unfold eqnT; simp [h1, h2]))
      · refine Ev.ite_f h1 (Ev.join ?_)
        by_cases h2 : x.2.1 = true
        · exact Ev.ite_t h2 (last _ _ (by simp) (by simp) (by unfold eqnT; simp [h1, h2]))
        · exact Ev.ite_f h2 (last _ _ (by simp) (by simp) (by unfold eqnT; simp [h1, h2]))
    · have hjl := pre_len hv hf a.length
      rw [List.take_length] at hjl
      show Ev (fun m => (strings_Join_m m (a.map eqnT) ([10] : Str)).bind fun x => some x) _
      refine Ev.bind (a := eqnsT a) (Ev.const' fun m => ?_) (Ev.pure _)
      unfold strings_Join_m
      rw [if_pos ⟨by simp; omega, by omega⟩]
      rfl
theorem etext_core {a : List Timpl_Equation} (B : a.length ≤ 1048576 ∧ ∀ x ∈ a, x.2.2.length ≤ 1048576) : ∃ r, Ev (fun m => spec_EquationsText_m m a) r ∧ Ev (fun m => impl_EquationsText_m m a) r := by
  obtain ⟨hl, g⟩ := B
  refine ⟨if validE a = true ∧ fitsE a = true then eqnsT a else [], ?_, etext_impl hl g⟩
  unfold spec_EquationsText_m
  refine Ev.bind (l22Is_law hl g) (Ev.bind (a := !(validE a && fitsE a)) ?_ ?_)
  · cases hv : validE a
    · exact Ev.ite_t rfl (Ev.pure _)
    · exact Ev.eq (r := !(fitsE a)) (Ev.ite_f (by simp) (Ev.bind (fits_ref hl) (Ev.pure _))) (by simp)
  · cases hv : validE a
    · exact Ev.eq (r := []) (Ev.ite_t rfl (Ev.pure _)) (by simp)
    cases hf : fitsE a
    · exact Ev.eq (r := []) (Ev.ite_t rfl (Ev.pure _)) (by simp)
    exact Ev.eq (r := eqnsT a) (Ev.ite_f (by simp) (Ev.bind (text_ref hv hf) (Ev.pure _))) (by simp)
theorem toB_eqns {a : List Tlaws_Equation} (h : a.length ≤ 1048576 ∧ ∀ x ∈ a, x.2.2.length ≤ 1048576) : Ev (fun n => laws_toEquationS_m n a) a := to_eqns h.1 h.2
theorem eqB_eqns {a : List Timpl_Equation} (h : a.length ≤ 1048576 ∧ ∀ x ∈ a, x.2.2.length ≤ 1048576) : Ev (fun n => laws_eqEquationS_m n a a) true :=
  have hm : maxLen = 9223372036854775807 := by unfold maxLen; rfl
  eq_eqns (by have := h.1; omega) (fun x hx => by have := h.2 x hx; omega)

set_option maxHeartbeats 4000000 in
theorem law_EquationsText {a : List Tlaws_Equation} (g_a : (GEs) a) : ∃ n, laws_FnExactEquationsText_m n a = some true := by
  have hm : maxLen = 9223372036854775807 := by unfold maxLen; rfl
  refine Ev.one (f := fun n => laws_FnExactEquationsText_m n a) ?_
  unfold laws_FnExactEquationsText_m
  obtain ⟨r1, h1, s1⟩ := sz_eqns g_a (b := (1048576 : Int)) (by omega) (by omega)
  refine Ev.bind h1 ?_
  by_cases n1 : r1 < 0
  · exact Ev.ite_t (decide_eq_true n1) (Ev.pure _)
  rcases s1 with s1 | ⟨p1, q1, B_a⟩
  · exact absurd s1 n1
  refine Ev.ite_f (by simpa using n1) ?_
  obtain ⟨r, hs, hi⟩ := etext_core B_a
  have to_a_ := toB_eqns B_a
  have eq_a_ := eqB_eqns B_a
  repeat (first
    | exact Ev.pure _
    | refine Ev.bind (by with_reducible assumption) ?_
    | refine Ev.ite_f (by first | (simp; done) | (simp; omega)) ?_
    | refine Ev.bind (Ev.ite_f (by first | (simp; done) | (simp; omega)) (Ev.bind (by with_reducible assumption) (Ev.pure _))) ?_
    | refine Ev.bind (a := false) (Ev.ite_f (by first | (simp; done) | (simp; omega)) (Ev.const (by simp))) ?_
    | refine Ev.bind (a := false) (Ev.ite_f (by first | (simp; done) | (simp; omega)) (Ev.bind (by with_reducible assumption) (Ev.const (by simp)))) ?_
    | refine Ev.bindc (by with_reducible rfl) ?_)
end Go.Proofs.YtepcckhcocjgaaaDoor

