/-
  Rows of texts that are read: as the library's contracts name their cells.
-/
import Derived.Test.YtnkpniekdipgaaaGreatDoorGxT
namespace Go.Gx
open Go.RowKit

theorem Rd.rowStr {w : World} {v : Value} {xs : List Str} (h : Rd (rList rStr) w v xs) :
    (xs = [] ∧ ∃ A c, v = .slice A 0 c) ∨ ∃ g o c, v = .slice (some ⟨g, o, none⟩) xs.length c ∧ xs.length ≤ c ∧ g < w.heap.size ∧ ∀ j x, xs[j]? = some x → w.cell? ⟨g, o + j, none⟩ = some (sv x) := by
  obtain ⟨cs, hv, A, c, rfl, hc, h3⟩ := h
  have hv' : v = .slice A xs.length c := hv
  subst hv'
  rcases h3 with rfl | ⟨p, cc, rfl, hb, hcell, hL⟩
  · exact .inl ⟨rfl, A, c, rfl⟩
  cases xs with
  | nil => exact .inl ⟨rfl, _, c, rfl⟩
  | cons x xs =>
    right
    have hget : ∀ j y, (x :: xs)[j]? = some y → w.cell? (p.add j) = some (sv y) := by
      intro j y hy
      obtain ⟨cx, hx, hj⟩ := rdL_get hL hy
      have hx' : cx = [sv y] := hx
      have := hcell _ _ (hj 0 (sv y) (by rw [hx']; rfl))
      simpa [show rStr.size = 1 from rfl] using this
    have h0 := hget 0 x rfl
    obtain ⟨g, o, sp⟩ := p
    have hsp : sp = none := by
      cases sp with
      | none => rfl
      | some q =>
        unfold Addr.add World.cell? at h0
        simp only [if_true] at h0
        split at h0
        · simp at h0
        · cases h0
    subst hsp
    refine ⟨g, o, c, rfl, hc, hb, fun j y hy => ?_⟩
    have := hget j y hy
    rwa [addr_add] at this
/-- A new row of strings is owned. -/
theorem heap_ownsRow_strs [dr : Dr] {w0 w : World} {e : TypeId} {v : Value} {n : Nat} {bs : List ByteArray} {xs : List Str} (h : w.ownsRow w0.heap.size e 1 v n (bs.map Value.string)) (hb : bs.map Value.string = xs.map sv) (hn : xs.length = n) (he : Ext w0 w) :
    Heap w0 [oA (rList rStr) v xs] w := by
  obtain ⟨h1, h2⟩ := h
  rcases h2 with ⟨rfl, rfl⟩ | ⟨g, cap, cur, rfl, hg, hh, hnc, hcap, hcs, htk⟩
  · have : xs = [] := List.eq_nil_of_length_eq_zero hn
    subst this
    exact ⟨he, [], ⟨[], [], rfl, oA_list.2 (.inl ⟨rfl, rfl, rfl⟩), rfl⟩, List.nodup_nil, by simp⟩
  · refine ⟨he, [g], ⟨[g], [], rfl, oA_list.2 (.inr ⟨g, 0, cap, cur, e, [], xs.map sv, by rw [hn], rfl, hh, ?_, by omega, hcap, ?_, enc_str.ownL.2 ⟨rfl, rfl⟩⟩), rfl⟩, by simp, fun b hb' => ?_⟩
    · rw [hcs]; simp [rStr]
    · rw [hn, List.drop_zero, ← hb]; exact htk
    · have : b = g := by simpa using hb'
      omega
end Go.Gx
