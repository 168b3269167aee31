/-
  Sizes, copies, comparisons and marks of the statements' own helpers, all in one form.
-/
import Derived.Test.YtecknjdlbmmmiaaF0
import Derived.Test.YtecknjdlbmmmiaaF1
import Derived.Test.YtecknjdlbmmmiaaF10
import Derived.Test.YtecknjdlbmmmiaaF2
import Derived.Test.YtecknjdlbmmmiaaF3
import Derived.Test.YtecknjdlbmmmiaaF4
import Derived.Test.YtecknjdlbmmmiaaF5
import Derived.Test.YtecknjdlbmmmiaaF6
import Derived.Test.YtecknjdlbmmmiaaP3
import Derived.Test.YtecknjdlbmmmiaaP5
import Derived.Test.YtecknjdlbmmmiaaPV
namespace Go.Proofs.Ytecknjdlbmmmiaa
open Go.Gx

theorem toB_ints {a : List Int} (h : a.length ≤ 1048576) : Ev (fun n => laws_toInt64S_m n a) a := to_ints h
theorem eqB_ints {a : List Int} (h : a.length ≤ 1048576) : Ev (fun n => laws_eqInt64S_m n a a) true := eq_ints (by have : maxLen = 9223372036854775807 := (by unfold maxLen; rfl); omega)
theorem toB_vtxs {a : List Tlaws_Vertex} (h : a.length ≤ 1048576 ∧ ∀ x ∈ a, x.2.2.length ≤ 1048576) : Ev (fun n => laws_toVertexS_m n a) a := to_vtxs h.1 h.2
theorem eqB_vtxs {a : List Timpl_Vertex} (h : a.length ≤ 1048576 ∧ ∀ x ∈ a, x.2.2.length ≤ 1048576) : Ev (fun n => laws_eqVertexS_m n a a) true :=
  have hm : maxLen = 9223372036854775807 := by unfold maxLen; rfl
  eq_vtxs (by have := h.1; omega) (fun x hx => by have := h.2 x hx; omega)
theorem toB_eqns {a : List Tlaws_Equation} (h : a.length ≤ 1048576 ∧ ∀ x ∈ a, x.2.2.length ≤ 1048576) : Ev (fun n => laws_toEquationS_m n a) a := to_eqns h.1 h.2
theorem eqB_eqns {a : List Timpl_Equation} (h : a.length ≤ 1048576 ∧ ∀ x ∈ a, x.2.2.length ≤ 1048576) : Ev (fun n => laws_eqEquationS_m n a a) true :=
  have hm : maxLen = 9223372036854775807 := by unfold maxLen; rfl
  eq_eqns (by have := h.1; omega) (fun x hx => by have := h.2 x hx; omega)

/-- Marks on ints alone. -/
theorem markA_ints {a : List Int} {k : Int} (hl : a.length ≤ 1048576) (h0 : 1 ≤ k) (hk : k ≤ 4611686018427387904 - 1048576) :
    ∃ k' ys, Ev (fun n => laws_markInt64S_m n a k) (k', ys) ∧ k ≤ k' ∧ k' ≤ k + (a.length * 1 : Nat) ∧ ys.length = a.length := by
  unfold laws_markInt64S_m
  refine mark_alone (p := fun _ => True) (fun _ _ => trivial) h0 (by omega)
    (fun xs k i x hxl hx _ h1 h2 => ⟨k, k + 1, Ev.const' fun m => ?_, by omega, by omega⟩) (fun xs k hxl => ?_)
  · have hi : i < xs.length := (List.getElem?_eq_some_iff.1 hx).1
    simp [idx_at hx, W_succ (k := i) (n := xs.length) hi (by omega), W_of (n := k + 1) (by omega) (by omega), hi]
  · exact Ev.const' fun m => by simp [hxl]
theorem marksA_ints {a : List Int} {k : Int} (h : a.length ≤ 1048576) (h0 : 1 ≤ k) (hk : k ≤ 4503599627370496) :
    ∃ k' ys, Ev (fun n => laws_markInt64S_m n a k) (k', ys) ∧ k ≤ k' ∧ k' ≤ k + 4398046511104 := by
  obtain ⟨k', ys, h1, h2, h3, _⟩ := markA_ints h h0 (by omega)
  exact ⟨k', ys, h1, h2, by omega⟩
theorem marksB_ints {a : List Int} {k : Int} (h : a.length ≤ 1048576) (h0 : 1 ≤ k) (hk : k ≤ 4503599627370496) :
    ∃ k' ys, Ev (fun n => laws_markInt64S_m n a k) (k', ys) ∧ Ev (fun n => laws_heldInt64S_m n ys k) k' ∧ k ≤ k' ∧ k' ≤ k + 4398046511104 := by
  obtain ⟨k', ys, h1, h2, h3, h4, _⟩ := marks_ints h h0 (by omega)
  exact ⟨k', ys, h1, h2, h3, by omega⟩
theorem marksA_vtxs {a : List Timpl_Vertex} {k : Int} (h : a.length ≤ 1048576 ∧ ∀ x ∈ a, x.2.2.length ≤ 1048576) (h0 : 1 ≤ k) (hk : k ≤ 4503599627370496) :
    ∃ k' ys, Ev (fun n => laws_markVertexS_m n a k) (k', ys) ∧ k ≤ k' ∧ k' ≤ k + 4398046511104 := by
  have : ∃ k' ys, Ev (fun n => laws_markVertexS_m n a k) (k', ys) ∧ k ≤ k' ∧ k' ≤ k + (a.length * 1048578 : Nat) ∧ ys.length = a.length := by
    unfold laws_markVertexS_m
    refine mark_alone (p := fun x => x.2.2.length ≤ 1048576) h.2 h0 (by have := h.1; omega) (fun xs k i x hxl hx hp h1 h2 => ?_) (fun xs k hxl => Ev.const' fun m => by simp [hxl])
    have hi : i < xs.length := (List.getElem?_eq_some_iff.1 hx).1
    have hx1 := h.1
    have w2 : W (k + 1) = k + 1 := W_of (by omega) (by omega)
    have w3 : W (k + 1 + 1) = k + 1 + 1 := W_of (by omega) (by omega)
    obtain ⟨k', ys, e1, e3, e4, _⟩ := markA_ints (a := x.2.2) (k := k + 1 + 1) hp (by omega) (by omega)
    refine ⟨(k, W (k + 1), ys), k', Ev.eq (Ev.ite_t (by simp [hi]) (Ev.bindc (idx_at hx) (Ev.bindc (idx_set hi) (Ev.bindc (idx_set (by simpa using hi)) (Ev.bind (a := (k', ys)) ?_ (Ev.pure _)))))) ?_, by omega, by omega⟩
    · rw [w2, w3]; exact e1
    · simp only [Int.toNat_natCast, List.set_set, W_succ (k := i) (n := xs.length) hi (by omega)]
  obtain ⟨k', ys, h1, h2, h3, _⟩ := this
  have := h.1
  exact ⟨k', ys, h1, h2, by omega⟩
theorem marksA_eqns {a : List Timpl_Equation} {k : Int} (h : a.length ≤ 1048576 ∧ ∀ x ∈ a, x.2.2.length ≤ 1048576) (h0 : 1 ≤ k) (hk : k ≤ 4503599627370496) :
    ∃ k' ys, Ev (fun n => laws_markEquationS_m n a k) (k', ys) ∧ k ≤ k' ∧ k' ≤ k + 4398046511104 := by
  have : ∃ k' ys, Ev (fun n => laws_markEquationS_m n a k) (k', ys) ∧ k ≤ k' ∧ k' ≤ k + (a.length * 1048578 : Nat) ∧ ys.length = a.length := by
    unfold laws_markEquationS_m
    refine mark_alone (p := fun x => x.2.2.length ≤ 1048576) h.2 h0 (by have := h.1; omega) (fun xs k i x hxl hx hp h1 h2 => ?_) (fun xs k hxl => Ev.const' fun m => by simp [hxl])
    have hi : i < xs.length := (List.getElem?_eq_some_iff.1 hx).1
    have hx1 := h.1
    have w2 : W (k + 1) = k + 1 := W_of (by omega) (by omega)
    have w3 : W (k + 1 + 1) = k + 1 + 1 := W_of (by omega) (by omega)
    obtain ⟨k', ys, e1, e3, e4, _⟩ := markA_ints (a := x.2.2) (k := k + 1 + 1) hp (by omega) (by omega)
    refine ⟨(k.tmod 3 == 0, (W (k + 1)).tmod 3 == 0, ys), k', Ev.eq (Ev.ite_t (by simp [hi]) (Ev.bindc (idx_at hx) (Ev.bindc (idx_set hi) (Ev.bindc (idx_set (by simpa using hi)) (Ev.bind (a := (k', ys)) ?_ (Ev.pure _)))))) ?_, by omega, by omega⟩
    · rw [w2, w3]; exact e1
    · simp only [Int.toNat_natCast, List.set_set, W_succ (k := i) (n := xs.length) hi (by omega)]
  obtain ⟨k', ys, h1, h2, h3, _⟩ := this
  have := h.1
  exact ⟨k', ys, h1, h2, by omega⟩
theorem marksB_eqns {a : List Timpl_Equation} {k : Int} (h : a.length ≤ 1048576 ∧ ∀ x ∈ a, x.2.2.length ≤ 1048576) (h0 : 1 ≤ k) (hk : k ≤ 4503599627370496) :
    ∃ k' ys, Ev (fun n => laws_markEquationS_m n a k) (k', ys) ∧ Ev (fun n => laws_heldEquationS_m n ys k) k' ∧ k ≤ k' ∧ k' ≤ k + 4398046511104 := by
  obtain ⟨k', ys, h1, h2, h3, h4, _⟩ := marksH_eqns h.1 h.2 h0 hk
  have := h.1
  exact ⟨k', ys, h1, h2, h3, by omega⟩
theorem marksB_vtxs {a : List Timpl_Vertex} {k : Int} (h : a.length ≤ 1048576 ∧ ∀ x ∈ a, x.2.2.length ≤ 1048576) (h0 : 1 ≤ k) (hk : k ≤ 4503599627370496) :
    ∃ k' ys, Ev (fun n => laws_markVertexS_m n a k) (k', ys) ∧ Ev (fun n => laws_heldVertexS_m n ys k) k' ∧ k ≤ k' ∧ k' ≤ k + 4398046511104 := by
  obtain ⟨k', ys, h1, h2, h3, h4, _⟩ := marksH_vtxs h.1 h.2 h0 hk
  have := h.1
  exact ⟨k', ys, h1, h2, h3, by omega⟩
end Go.Proofs.Ytecknjdlbmmmiaa
