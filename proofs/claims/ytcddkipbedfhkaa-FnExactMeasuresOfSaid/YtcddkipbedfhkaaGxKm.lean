/-
  Sorting with a comparison function: what is asked of it, and what comes of it.
-/
import Derived.Test.YtcddkipbedfhkaaGxO
namespace Go.Gx
open Go.RowKit

section
variable {α : Type}
def ltF (a : α → α → Option Int) (x y : α) : Bool := decide ((a x y).getD 0 < 0)
/-- What a sort asks of its comparison, element by element. -/
def sortOk [DecidableEq α] (a : α → α → Option Int) (xs : List α) : Bool :=
  decide (xs.length < 4611686018427387904) && xs.all (fun x => xs.all fun y => (a x y).isSome) && xs.all (fun x => !ltF a x x) &&
  xs.all (fun x => xs.all fun y => xs.all fun z => !(ltF a x y && ltF a y z) || ltF a x z) &&
  xs.all (fun x => xs.all fun y => xs.all fun z => (ltF a x y || ltF a y z) || !ltF a x z) &&
  xs.all (fun x => xs.all fun y => (ltF a x y || ltF a y x) || decide (x = y))
def sortF (a : α → α → Option Int) (xs : List α) : List α := xs.mergeSort fun x y => !ltF a y x
theorem sortF_perm (a : α → α → Option Int) (xs : List α) : (sortF a xs).Perm xs := List.mergeSort_perm _ _
theorem sortF_len (a : α → α → Option Int) (xs : List α) : (sortF a xs).length = xs.length := (List.mergeSort_perm _ _).length_eq

structure SortOk [DecidableEq α] (a : α → α → Option Int) (xs : List α) : Prop where
  len : xs.length < 4611686018427387904
  all : ∀ x ∈ xs, ∀ y ∈ xs, ∃ z, a x y = some z
  irr : ∀ x ∈ xs, ltF a x x = false
  tr : ∀ x ∈ xs, ∀ y ∈ xs, ∀ z ∈ xs, ltF a x y = true → ltF a y z = true → ltF a x z = true
  ntr : ∀ x ∈ xs, ∀ y ∈ xs, ∀ z ∈ xs, ltF a x y = false → ltF a y z = false → ltF a x z = false
  anti : ∀ x ∈ xs, ∀ y ∈ xs, ltF a x y = false → ltF a y x = false → x = y
theorem sortOk_iff [DecidableEq α] {a : α → α → Option Int} {xs : List α} : sortOk a xs = true ↔ SortOk a xs := by
  unfold sortOk
  simp only [Bool.and_eq_true, List.all_eq_true, decide_eq_true_eq, Bool.or_eq_true, Bool.not_eq_true', Option.isSome_iff_exists, Bool.and_eq_false_iff]
  constructor
  · rintro ⟨⟨⟨⟨⟨h1, h2⟩, h3⟩, h4⟩, h5⟩, h6⟩
    refine ⟨h1, h2, h3, fun x hx y hy z hz p q => ?_, fun x hx y hy z hz p q => ?_, fun x hx y hy p q => ?_⟩
    · rcases h4 x hx y hy z hz with (h | h) | h
      · rw [p] at h; cases h
      · rw [q] at h; cases h
      · exact h
    · rcases h5 x hx y hy z hz with (h | h) | h
      · rw [p] at h; cases h
      · rw [q] at h; cases h
      · exact h
    · rcases h6 x hx y hy with (h | h) | h
      · rw [p] at h; cases h
      · rw [q] at h; cases h
      · exact h
  · rintro ⟨h1, h2, h3, h4, h5, h6⟩
    refine ⟨⟨⟨⟨⟨h1, h2⟩, h3⟩, fun x hx y hy z hz => ?_⟩, fun x hx y hy z hz => ?_⟩, fun x hx y hy => ?_⟩
    · cases p : ltF a x y
      · exact .inl (.inl rfl)
      · cases q : ltF a y z
        · exact .inl (.inr rfl)
        · exact .inr (h4 x hx y hy z hz p q)
    · cases p : ltF a x y
      · cases q : ltF a y z
        · exact .inr (h5 x hx y hy z hz p q)
        · exact .inl (.inr rfl)
      · exact .inl (.inl rfl)
    · cases p : ltF a x y
      · cases q : ltF a y x
        · exact .inr (h6 x hx y hy p q)
        · exact .inl (.inr rfl)
      · exact .inl (.inl rfl)

theorem sub_sort [DecidableEq α] {a : α → α → Option Int} {xs : List α} : (xs.attach.mergeSort fun x y => !ltF a y.1 x.1).map (·.1) = sortF a xs := by
  unfold sortF
  rw [List.map_mergeSort (s := fun x y => !ltF a y x) (fun _ _ _ _ => rfl), List.attach_map_subtype_val]

variable [DecidableEq α]
/-- What is sorted stands in order. -/
theorem sortF_sorted {a : α → α → Option Int} {xs : List α} (h : SortOk a xs) : (sortF a xs).Pairwise fun x y => ltF a y x = false := by
  rw [← sub_sort, List.pairwise_map]
  refine (List.pairwise_mergeSort (le := fun x y : {x // x ∈ xs} => !ltF a y.1 x.1) ?_ ?_ _).imp ?_
  · intro x y z h1 h2
    simp only [Bool.not_eq_true'] at h1 h2 ⊢
    exact h.ntr z.1 z.2 y.1 y.2 x.1 x.2 h2 h1
  · intro x y
    cases p : ltF a y.1 x.1 with
    | false => simp
    | true =>
      cases q : ltF a x.1 y.1 with
      | false => simp
      | true =>
        have h1 := h.tr y.1 y.2 x.1 x.2 y.1 y.2 p q
        rw [h.irr y.1 y.2] at h1
        cases h1
  · intro x y hxy
    simpa using hxy
end
end Go.Gx
