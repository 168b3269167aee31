/-
  Lists whose elements carry the value that they are, pointers to boxes that are owned, trees of them.
-/
import Derived.Test.YtldmecdkdoipdaaGreatDoorGxMx
import Derived.Test.YtldmecdkdoipdaaGreatDoorGxT
import Derived.Test.YtldmecdkdoipdaaGreatDoorGxN
import Derived.Test.YtldmecdkdoipdaaGreatDoorGxFt
namespace Go.Gx
open Go.RowKit

section
variable {α : Type} {xs ys : List α} {T U : List (α × Value)}
theorem tg_one {x : α} {u : Value} : [x] = [(x, u)].map (·.1) := rfl
theorem tg_app (h : xs = T.map (·.1)) (k : ys = U.map (·.1)) : xs ++ ys = (T ++ U).map (·.1) := by rw [h, k, List.map_append]
theorem tg_le {n : Nat} (h : xs = T.map (·.1)) (k : ys = U.map (·.1)) (hle : xs.length + ys.length ≤ n) : T.length + U.length ≤ n := by
  rw [h, k, List.length_map, List.length_map] at hle; exact hle
theorem tg_sl {v : Value} (h : xs = T.map (·.1)) (k : IsSl v T.length) : IsSl v xs.length := by rw [h, List.length_map]; exact k
theorem tg_idx {i : Int} {x : α} (h : xs = T.map (·.1)) (k : idx xs i = some x) : ∃ u, T[i.toNat]? = some (x, u) := by
  have := (idx_some k).2
  rw [h, List.getElem?_map] at this
  rcases e : T[i.toNat]? with _ | ⟨y, u⟩
  · rw [e] at this; cases this
  · rw [e] at this; cases this; exact ⟨u, rfl⟩
theorem tg_get {i : Nat} {x : α} {u : Value} (k : T[i]? = some (x, u)) : (T.map (·.1))[i]? = some x := by
  rw [List.getElem?_map, k]; rfl
theorem tg_sub {lo hi : Int} (h : xs = T.map (·.1)) (k : sub xs lo hi = some ys) : ∃ V : List (α × Value), sub T lo hi = some V ∧ ys = V.map (·.1) := by
  obtain ⟨h1, h2⟩ := sub_some k
  rw [h, List.length_map] at h1
  refine ⟨(T.take hi.toNat).drop lo.toNat, by unfold sub; rw [if_pos h1], ?_⟩
  rw [h2, h, List.map_drop, List.map_take]
end

theorem tg_at {α : Type} {r : Rep α} {w : World} {v u : Value} {T : List (α × Value)} {i : Nat} {x : α} (h : Rd (rList (rTg r)) w v T) (hi : T[i]? = some (x, u)) : At w (ePtr v (i * (rTg r).size)) 0 u :=
  h.elemAt (j := 0) hi (by intro B w cs h; rw [show cs = [u] from h.2]; rfl)

theorem cells_sub {full part : List Value} (o : Nat) (h : part = (full.drop o).take part.length) {j : Nat} {u : Value} (hu : part[j]? = some u) : full[o + j]? = some u := by
  rw [h, List.getElem?_take] at hu
  split at hu
  · rwa [List.getElem?_drop] at hu
  · cases hu

/-- A pointer to a box, owned with what the box owns. -/
def rBx {α : Type} (te : TypeId) (r : Rep α) : Rep α where
  size := 1
  agg := false
  own w F cs x := ∃ b cc F', cs = [bp b] ∧ F = b :: F' ∧ w.heap[b]? = some (.cells cc.toArray te (0, 0)) ∧ r.own w F' cc x
  rd := (rPtr r).rd
  own_len := by rintro w F cs x ⟨b, cc, F', rfl, _⟩; rfl
  rd_len := (rPtr r).rd_len
  own_one := by rintro w F cs x ⟨b, cc, F', rfl, _⟩ c hc; simp at hc; subst hc; rfl
  rd_one := (rPtr r).rd_one
  own_keep := by
    rintro w w' F cs x ⟨b, cc, F', h1, rfl, h3, h4⟩ hk
    exact ⟨b, cc, F', h1, rfl, by rw [hk b (by simp)]; exact h3, r.own_keep h4 fun c hc => hk c (by simp [hc])⟩
  rd_keep := (rPtr r).rd_keep
  rd_mono := (rPtr r).rd_mono
  own_rd := by
    rintro w F B cs x ⟨b, cc, F', rfl, rfl, h3, h4⟩ hB
    refine ⟨_, cc, rfl, hB b (by simp), fun j u hu => ?_, r.own_rd h4 fun c hc => hB c (by simp [hc])⟩
    have ha : (⟨b, 0, none⟩ : Addr).add j = ⟨b, j, none⟩ := by unfold Addr.add; split <;> simp_all
    rw [ha, cell_of_row w b j cc.toArray te (0, 0) h3]
    simpa using hu
  own_lt := by
    rintro w F cs x ⟨b, cc, F', rfl, rfl, h3, h4⟩ c hc
    rcases List.mem_cons.1 hc with hc | hc
    · subst hc; exact (Array.getElem?_eq_some_iff.1 h3).1
    · exact r.own_lt h4 c hc

theorem rd_bxp {α : Type} {te : TypeId} {r : Rep α} {w : World} {v : Value} {x : α} (h : Rd (rBx te r) w v x) : Rd (rPtr r) w v x := h
theorem rd_bx {α : Type} {te : TypeId} {r : Rep α} {w : World} {cs : List Value} {x : α} (h : (rBx te r).rd w.heap.size w cs x) : ∃ v, cs = [v] ∧ Rd (rBx te r) w v x := by
  obtain ⟨a, cc, rfl, h2⟩ := h
  exact ⟨_, rfl, _, rfl, a, cc, rfl, h2⟩

theorem oA_bx {α : Type} {te : TypeId} {r : Rep α} {w : World} {F : List Nat} {v : Value} {x : α} : (oA (rBx te r) v x).holds w F ↔ (rBx te r).own w F [v] x := by
  constructor
  · rintro ⟨cs, hv, b, cc, F', rfl, h⟩
    have hv' : v = bp b := hv
    subst hv'
    exact ⟨b, cc, F', rfl, h⟩
  · rintro ⟨b, cc, F', h1, h⟩
    cases h1
    exact ⟨[bp b], rfl, b, cc, F', rfl, h⟩
theorem cells_p {v : Value} (h : IsP v) : v.cells = #[v] := by obtain ⟨a, rfl⟩ := h; rfl

/-- A box and what its cells own become an owned pointer. -/
theorem Heap.bx [dr : Dr] {α : Type} {w0 w : World} {L : List Asrt} {b : Nat} {cc : List Value} {te : TypeId} {A : Asrt} {r : Rep α} {x : α} (H : Heap w0 (bA b cc te :: A :: L) w) (h : ∀ F, A.holds w F → r.own w F cc x) : Heap w0 (oA (rBx te r) (bp b) x :: L) w := by
  refine H.two fun F G h1 h2 => ?_
  obtain ⟨rfl, h3⟩ := h1
  exact ⟨[bp b], rfl, b, cc, G, rfl, rfl, h3, h _ h2⟩

/-- Nothing. -/
def rEmp : Rep Empty where
  size := 1
  agg := false
  own _ _ _ _ := False
  rd _ _ _ _ := False
  own_len h := h.elim
  rd_len h := h.elim
  own_one h := h.elim
  rd_one h := h.elim
  own_keep h _ := h.elim
  rd_keep h _ := h.elim
  rd_mono h _ := h.elim
  own_rd h _ := h.elim
  own_lt h := h.elim

def rFtN {α : Type} (te : TypeId) (r : Rep α) : (n : Nat) → Rep (FtN α n)
  | 0 => rEmp
  | n + 1 => rProd r (rList (rBx te (rFtN te r n)))
end Go.Gx
