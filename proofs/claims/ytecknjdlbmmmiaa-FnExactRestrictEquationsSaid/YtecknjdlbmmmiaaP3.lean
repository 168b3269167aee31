/-
  Statement 3 in plain words: the models of the law on consistent valuations.
-/
import Derived.Test.YtecknjdlbmmmiaaF0
import Derived.Test.YtecknjdlbmmmiaaP1
namespace Go.Proofs.Ytecknjdlbmmmiaa
open Go.Gx

def okv (v : List Bool) (b : Bool) (t : Int) : Bool := match v[t.toNat]? with | some y => y == b | none => true

/-- What a term of a valid system is. -/
theorem term_at {a : List Timpl_Equation} (hv : validE a = true) {v : List Bool} (hl : v.length = a.length) {x : Timpl_Equation} (hx : x ∈ a) {t : Int} (ht : t ∈ x.2.2) : ∃ y, idx v t = some y ∧ v[t.toNat]? = some y := by
  have hm : maxLen = 9223372036854775807 := by unfold maxLen; rfl
  simp only [validE, Bool.and_eq_true, decide_eq_true_eq, List.all_eq_true] at hv
  obtain ⟨⟨h1, h2, _⟩, h3⟩ := hv
  have := h3 x hx
  simp only [rises, decide_eq_true_eq] at this
  obtain ⟨i, hi, rfl⟩ := List.getElem_of_mem ht
  have h4 := this i hi
  simp only [okAt, List.getElem?_eq_getElem hi, Bool.and_eq_true, decide_eq_true_eq] at h4
  rw [W_of (by omega) (by omega)] at h4
  have h5 : (x.2.2[i]).toNat < v.length := by omega
  refine ⟨v[(x.2.2[i]).toNat], ?_, List.getElem?_eq_getElem h5⟩
  unfold idx
  rw [if_pos h4.1.1, List.getElem?_eq_getElem h5]

/-- What both answer. -/
def cons (a : List Timpl_Equation) (v : List Bool) : Bool :=
  validE a && (v.length == a.length) && decide (∀ k, k < a.length → (match a[k]?, v[k]? with | some x, some y => (if (x.2.2.all fun t => okv v x.2.1 t) = true then x.2.1 else !x.2.1) == y | _, _ => true) = true)

end Go.Proofs.Ytecknjdlbmmmiaa
