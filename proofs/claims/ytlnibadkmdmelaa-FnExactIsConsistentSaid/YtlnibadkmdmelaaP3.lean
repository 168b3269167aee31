/-
  Statement 3 in plain words: the models of the law on consistent valuations.
-/
import Derived.Test.YtlnibadkmdmelaaF2
import Derived.Test.YtlnibadkmdmelaaP1
namespace Go.Proofs.Ytlnibadkmdmelaa
open Go.Gx

theorem to_bools {a : List Bool} (hl : a.length ≤ 1048576) : Ev (fun n => laws_toBoolS_m n a) a := by
  have := to_loop (to := fun _ (x : Bool) => some x) (f := id) (a := a) (z := false) (fun x _ => Ev.pure x) hl
  rw [List.map_id] at this
  exact this
theorem eq_bools {a : List Bool} (hl : a.length ≤ maxLen) : Ev (fun n => laws_eqBoolS_m n a a) true := eq_loop_ints hl

def okv (v : List Bool) (b : Bool) (t : Int) : Bool := match v[t.toNat]? with | some y => y == b | none => true

/-- What a term of a valid system is. -/
theorem term_at {a : List Timpl_Equation} (hv : validE a = true) {v : List Bool} (hl : v.length = a.length) {x : Timpl_Equation} (hx : x ∈ a) {t : Int} (ht : t ∈ x.2.2) : ∃ y, idx v t = some y ∧ v[t.toNat]? = some y := by
  have hm : maxLen = 9223372036854775807 := by unfold maxLen; rfl
  simp only [validE, Bool.and_eq_true, decide_eq_true_eq, List.all_eq_true] at hv
  obtain ⟨⟨h1, h2, _⟩, h3⟩ := hv
  have := h3 x hx
  simp only [rises, decide_eq_true_eq] at this
  obtain ⟨i, hi, rfl⟩ := List.getElem_of_mem ht
  have h4 := this i hi
  simp only [okAt, List.getElem?_eq_getElem hi, Bool.and_eq_true, decide_eq_true_eq] at h4
  rw [W_of (by omega) (by omega)] at h4
  have h5 : (x.2.2[i]).toNat < v.length := by omega
  refine ⟨v[(x.2.2[i]).toNat], ?_, List.getElem?_eq_getElem h5⟩
  unfold idx
  rw [if_pos h4.1.1, List.getElem?_eq_getElem h5]

theorem right_law {v : List Bool} {x : Timpl_Equation} (hl : x.2.2.length ≤ maxLen) (hx : ∀ t ∈ x.2.2, ∃ y, idx v t = some y ∧ v[t.toNat]? = some y) :
    Ev (fun m => spec_l22Right_m m x v) (if (x.2.2.all fun t => okv v x.2.1 t) = true then x.2.1 else !x.2.1) := by
  have hm := maxLen_le
  unfold spec_l22Right_m
  refine (Ev.all (step := _) x.2.2.length (fun k => match x.2.2[k]? with | none => true | some t => okv v x.2.1 t) (!x.2.1) x.2.1 (fun k hk hok => Ev.const' fun m => ?_) (fun k hk hok => Ev.const' fun m => ?_) (Ev.ite_f (by simp) (Ev.pure _))).eq (all_list (fun k => by cases x.2.2[k]? <;> rfl))
  all_goals
    obtain ⟨t, ht⟩ := get_lt hk
    obtain ⟨y, hy1, hy2⟩ := hx t (List.mem_of_getElem? ht)
    simp only [ht, okv, hy2] at hok
    simp only [decide_eq_true (show (k : Int) < (x.2.2.length : Int) by omega), if_true, idx_at ht, hy1, Option.bind_some, W_succ hk (by omega)]
    revert hok
    cases y <;> cases x.2.1 <;> simp

theorem contains_law {v : List Bool} {x : Timpl_Equation} (hl : x.2.2.length ≤ maxLen) (hx : ∀ t ∈ x.2.2, ∃ y, idx v t = some y ∧ v[t.toNat]? = some y) :
    Ev (fun m => slices_ContainsFunc__int64_int64_m m x.2.2 (fun (z0 : Int) => impl_IsConsistent_1_m m z0 v x)) (!(x.2.2.all fun t => okv v x.2.1 t)) := by
  refine contains_loop hl (f := fun m z0 => impl_IsConsistent_1_m m z0 v x) (fun t ht => Ev.const' fun m => ?_)
  obtain ⟨y, hy1, hy2⟩ := hx t ht
  simp only [impl_IsConsistent_1_m, hy1, okv, hy2, Option.bind_some]
  cases y <;> cases x.2.1 <;> rfl

/-- What both answer. -/
def cons (a : List Timpl_Equation) (v : List Bool) : Bool :=
  validE a && (v.length == a.length) && decide (∀ k, k < a.length → (match a[k]?, v[k]? with | some x, some y => (if (x.2.2.all fun t => okv v x.2.1 t) = true then x.2.1 else !x.2.1) == y | _, _ => true) = true)

theorem cons_spec {a : List Timpl_Equation} {v : List Bool} (hl : a.length ≤ 1048576) (hv : v.length ≤ 1048576) (g : ∀ x ∈ a, x.2.2.length ≤ 1048576) : Ev (fun m => spec_IsConsistent_m m a v) (cons a v) := by
  have hm : maxLen = 9223372036854775807 := by unfold maxLen; rfl
  unfold spec_IsConsistent_m cons
  refine Ev.bind (l22Is_law hl g) ?_
  cases hval : validE a with
  | false => exact Ev.bind (a := true) (Ev.ite_t rfl (Ev.pure _)) (Ev.ite_t rfl (Ev.pure _))
  | true =>
    by_cases he : v.length = a.length
    · refine Ev.bind (a := false) (Ev.ite_f (by simp) (Ev.const (by simp [he]))) (Ev.ite_f (by simp) ?_)
      refine (Ev.all (step := _) a.length (fun k => match a[k]?, v[k]? with | some x, some y => (if (x.2.2.all fun t => okv v x.2.1 t) = true then x.2.1 else !x.2.1) == y | _, _ => true) false true (fun k hk hok => ?_) (fun k hk hok => ?_) (Ev.ite_f (by simp) (Ev.pure _))).eq ?_
      · obtain ⟨x, hx⟩ := get_lt hk
        obtain ⟨y, hy⟩ := get_lt (xs := v) (k := k) (by omega)
        simp only [hx, hy] at hok
        have hr := right_law (v := v) (x := x) (by have := g x (List.mem_of_getElem? hx); omega) (fun t ht => term_at hval he (List.mem_of_getElem? hx) ht)
        refine Ev.eq (Ev.ite_t (decide_eq_true (by omega)) (Ev.bindc (idx_at hx) (Ev.bind hr (Ev.bindc (idx_at hy) (Ev.ite_f (by simpa using hok) (Ev.pure _)))))) (by rw [W_succ hk (by omega)])
      · obtain ⟨x, hx⟩ := get_lt hk
        obtain ⟨y, hy⟩ := get_lt (xs := v) (k := k) (by omega)
        simp only [hx, hy] at hok
        have hr := right_law (v := v) (x := x) (by have := g x (List.mem_of_getElem? hx); omega) (fun t ht => term_at hval he (List.mem_of_getElem? hx) ht)
        exact Ev.ite_t (decide_eq_true (by omega)) (Ev.bindc (idx_at hx) (Ev.bind hr (Ev.bindc (idx_at hy) (Ev.ite_t (by simpa using hok) (Ev.pure _)))))
      · rw [he]; split <;> simp_all
    · refine Ev.bind (a := true) (Ev.ite_f (by simp) (Ev.const (by simp; omega))) ((Ev.ite_t rfl (Ev.pure _)).eq ?_)
      simp [he]

theorem cons_impl {a : List Timpl_Equation} {v : List Bool} (hl : a.length ≤ 1048576) (hv : v.length ≤ 1048576) (g : ∀ x ∈ a, x.2.2.length ≤ 1048576) : Ev (fun m => impl_IsConsistent_m m a v) (cons a v) := by
  have hm : maxLen = 9223372036854775807 := by unfold maxLen; rfl
  unfold impl_IsConsistent_m cons
  refine Ev.bind (validE_impl hl g) ?_
  cases hval : validE a with
  | false => exact Ev.bind (a := true) (Ev.ite_t rfl (Ev.pure _)) (Ev.ite_t rfl (Ev.pure _))
  | true =>
    by_cases he : v.length = a.length
    · refine Ev.bind (a := false) (Ev.ite_f (by simp) (Ev.const (by simp [he]))) (Ev.ite_f (by simp) ?_)
      refine (Ev.all (step := _) a.length (fun k => match a[k]?, v[k]? with | some x, some y => (if (x.2.2.all fun t => okv v x.2.1 t) = true then x.2.1 else !x.2.1) == y | _, _ => true) false true (fun k hk hok => ?_) (fun k hk hok => ?_) (Ev.ite_f (by simp) (Ev.pure _))).eq ?_
      · obtain ⟨x, hx⟩ := get_lt hk
        obtain ⟨y, hy⟩ := get_lt (xs := v) (k := k) (by omega)
        simp only [hx, hy] at hok
        have hr := contains_law (v := v) (x := x) (by have := g x (List.mem_of_getElem? hx); omega) (fun t ht => term_at hval he (List.mem_of_getElem? hx) ht)
        refine Ev.eq (Ev.ite_t (decide_eq_true (by omega)) (Ev.bindc (idx_at hx) (Ev.bind hr (Ev.bindc (idx_at hy) (Ev.ite_f ?_ (Ev.pure _)))))) (by rw [W_succ hk (by omega)])
        revert hok
        cases (x.2.2.all fun t => okv v x.2.1 t) <;> cases x.2.1 <;> cases y <;> simp
      · obtain ⟨x, hx⟩ := get_lt hk
        obtain ⟨y, hy⟩ := get_lt (xs := v) (k := k) (by omega)
        simp only [hx, hy] at hok
        have hr := contains_law (v := v) (x := x) (by have := g x (List.mem_of_getElem? hx); omega) (fun t ht => term_at hval he (List.mem_of_getElem? hx) ht)
        refine Ev.ite_t (decide_eq_true (by omega)) (Ev.bindc (idx_at hx) (Ev.bind hr (Ev.bindc (idx_at hy) (Ev.ite_t ?_ (Ev.pure _)))))
        revert hok
        cases (x.2.2.all fun t => okv v x.2.1 t) <;> cases x.2.1 <;> cases y <;> simp
      · rw [he]; split <;> simp_all
    · refine Ev.bind (a := true) (Ev.ite_f (by simp) (Ev.const (by simp; omega))) ((Ev.ite_t rfl (Ev.pure _)).eq ?_)
      simp [he]

theorem law3 {a : List Tlaws_Equation} {v : List Bool} (g : GEs a) (gv : gList gAny v) : ∃ n, laws_FnExactIsConsistent_m n a v = some true := by
  have hm : maxLen = 9223372036854775807 := by unfold maxLen; rfl
  refine Ev.one (f := fun n => laws_FnExactIsConsistent_m n a v) ?_
  unfold laws_FnExactIsConsistent_m
  by_cases hv : (1048576 : Int) < (v.length : Int)
  · exact Ev.ite_t (decide_eq_true hv) (Ev.pure _)
  refine Ev.ite_f (by simpa using hv) ?_
  obtain ⟨r, h1, h2⟩ := sz_eqns g (b := 1048576) (by omega) (by omega)
  refine Ev.bind h1 ?_
  by_cases h : r < 0
  · exact Ev.ite_t (decide_eq_true h) (Ev.pure _)
  · rcases h2 with h2 | ⟨_, _, hl, hx⟩
    · exact absurd h2 h
    · have hto := to_eqns hl hx
      have htv := to_bools (a := v) (by omega)
      have heqs := eq_eqns (a := a) (by omega) (fun x h => by have := hx x h; omega)
      refine Ev.ite_f (by simpa using h) (Ev.bind hto (Ev.bind htv (Ev.bind (cons_spec hl (by omega) hx) (Ev.bind hto (Ev.bind htv (Ev.bind (cons_impl hl (by omega) hx) ?_))))))
      refine Ev.ite_f (by simp) (Ev.bind hto (Ev.bind heqs (Ev.ite_f (by simp) (Ev.bind htv (Ev.bind (eq_bools (by omega)) (Ev.ite_f (by simp) (Ev.pure _)))))))
end Go.Proofs.Ytlnibadkmdmelaa
