/-
  The law's helpers for systems: sizes, copies, comparisons.
-/
import Derived.Test.YtkgkfbmcnchdbaaGreatDoorF0
import Derived.Test.YtkgkfbmcnchdbaaGreatDoorF1
import Derived.Test.YtkgkfbmcnchdbaaGreatDoorF3
import Derived.Test.YtkgkfbmcnchdbaaGreatDoorF4
import Derived.Test.YtkgkfbmcnchdbaaGreatDoorGxP
import Derived.Test.YtkgkfbmcnchdbaaGreatDoorGxU
import Derived.Test.YtkgkfbmcnchdbaaGreatDoorGxZ
import Derived.Test.YtkgkfbmcnchdbaaGreatDoorP1
import Derived.Test.YtkgkfbmcnchdbaaGreatDoorPU
namespace Go.Proofs.YtkgkfbmcnchdbaaGreatDoor
open Go.Gx

abbrev GStrs : List Str → Prop := gList gStr
abbrev GEd : Tlaws_Edge → Prop := gAnd (gInt .i64) (gAnd (gInt .i64) (gInt .i64))
abbrev GEds : List Tlaws_Edge → Prop := gList GEd
abbrev GLts : Tlaws_Lts → Prop := gAnd (gInt .i64) (gAnd (gInt .i64) (gAnd GStrs GEds))
def BLts (t : Tlaws_Lts) : Prop := t.2.2.1.length ≤ 1048576 ∧ (∀ s ∈ t.2.2.1, s.length ≤ 1048576) ∧ t.2.2.2.length ≤ 1048576

theorem sz_strs {a : List Str} (g : GStrs a) {b : Int} (h0 : 0 ≤ b) (hb : b ≤ 1048576) : ∃ r, Ev (fun n => laws_szStringS_m n a b) r ∧ Sz b r (a.length ≤ 1048576 ∧ ∀ s ∈ a, s.length ≤ 1048576) := by
  have hm := mx
  have hl := g.1
  unfold laws_szStringS_m
  rw [W_of (n := b - (a.length : Int)) (by omega) (by omega)]
  by_cases h : b - (a.length : Int) < 0
  · exact ⟨-1, Ev.ite_t (by simpa using h) (Ev.pure _), .inl (by omega)⟩
  · refine Exists.elim (EvI.count (β := Int ⊕ Int) (step := _)
      a.length (fun k (t : Int) => (t, (k : Int))) (fun k t => 0 ≤ t ∧ t ≤ b ∧ ∀ i, i < k → ∀ x, a[i]? = some x → x.length ≤ 1048576) (fun r => r = .inr (-1) ∨ ∃ t, r = .inl t ∧ 0 ≤ t ∧ t ≤ b ∧ ∀ x ∈ a, x.length ≤ 1048576)
      ?_ ?_ (k := 0) (t := b - (a.length : Int)) (Nat.zero_le _) ⟨by omega, by omega, fun i hi => by omega⟩) (fun res ⟨h1, h2⟩ => Exists.intro (match res with | .inl t => t | .inr t => t) ⟨Ev.ite_f (by simpa using h) (Ev.bind h1.ev (Ev.const (by cases res <;> rfl))), by
        rcases h2 with rfl | ⟨t, rfl, h3, h4, h5⟩
        · exact .inl (by show (-1 : Int) < 0; omega)
        · exact .inr ⟨h3, h4, by omega, h5⟩⟩)
    · rintro k t hk ⟨ht0, htb, hp⟩
      obtain ⟨x, hx⟩ := get_lt hk
      have gx := g.2 x (List.mem_of_getElem? hx)
      have hw : W (t - (x.length : Int)) = t - (x.length : Int) := W_of (by omega) (by omega)
      by_cases hneg : t - (x.length : Int) < 0
      · exact .inr ⟨_, Ev.ite_t (by simpa using hk) (Ev.bindc (idx_at hx) (Ev.ite_t (by rw [hw]; exact decide_eq_true hneg) (Ev.pure _))), .inl rfl⟩
      · refine .inl ⟨t - (x.length : Int), (Ev.ite_t (by simpa using hk) (Ev.bindc (idx_at hx) (Ev.ite_f (by rw [hw]; simpa using hneg) (Ev.pure _)))).eq ?_, by omega, by omega, fun i hi y hy => ?_⟩
        · rw [hw, W_of (by omega) (by omega)]; rfl
        · by_cases hik : i = k
          · subst hik; rw [hx] at hy; cases hy; omega
          · exact hp i (by omega) y hy
    · rintro t ⟨ht0, htb, hp⟩
      refine ⟨_, Ev.ite_f (by simp) (Ev.pure _), .inr ⟨t, rfl, ht0, htb, fun x hx => ?_⟩⟩
      obtain ⟨i, hi, rfl⟩ := List.getElem_of_mem hx
      exact hp i hi _ (List.getElem?_eq_getElem hi)

theorem sz_lts {a : Tlaws_Lts} (g : GLts a) {b : Int} (h0 : 0 ≤ b) (hb : b ≤ 1048576) : ∃ r, Ev (fun n => laws_szLts_m n a b) r ∧ Sz b r (BLts a) := by
  obtain ⟨r1, h1, s1⟩ := sz_strs g.2.2.1 h0 hb
  by_cases n1 : r1 < 0
  · exact ⟨-1, Ev.bind h1 (Ev.ite_t (by simpa using n1) (Ev.pure _)), .inl (by omega)⟩
  · rcases s1 with s1 | ⟨p1, q1, b1⟩
    · exact absurd s1 n1
    · obtain ⟨r2, h2, s2⟩ := sz_leaf (n := a.2.2.2.length) (b := r1) p1 (by omega) g.2.2.2.1
      by_cases n2 : r2 < 0
      · exact ⟨-1, Ev.bind h1 (Ev.ite_f (by simpa using n1) (Ev.bind h2 (Ev.ite_t (by simpa using n2) (Ev.pure _)))), .inl (by omega)⟩
      · rcases s2 with s2 | ⟨p2, q2, b2⟩
        · exact absurd s2 n2
        · exact ⟨r2, Ev.bind h1 (Ev.ite_f (by simpa using n1) (Ev.bind h2 (Ev.ite_f (by simpa using n2) (Ev.pure _)))), .inr ⟨p2, by omega, b1.1, b1.2, b2⟩⟩

theorem toB_strs {a : List Str} (hl : a.length ≤ 1048576) : Ev (fun n => laws_toStringS_m n a) a := by
  have := to_loop («to» := fun _ (x : Str) => some x) (f := id) (a := a) (z := ([] : Str)) (fun x _ => Ev.pure x) hl
  rw [List.map_id] at this
  exact this
theorem toB_edges {a : List Tlaws_Edge} (hl : a.length ≤ 1048576) : Ev (fun n => laws_toEdgeS_m n a) a := by
  have := to_loop («to» := fun n x => laws_toEdge_m n x) (f := id) (a := a) (z := ((0 : Int), (0 : Int), (0 : Int))) (fun x _ => Ev.pure x) hl
  rw [List.map_id] at this
  exact this
theorem toB_lts {a : Tlaws_Lts} (h : BLts a) : Ev (fun n => laws_toLts_m n a) a := Ev.bind (toB_strs h.1) (Ev.bind (toB_edges h.2.2) (Ev.pure _))

theorem eqB_strs {a : List Str} (h : a.length ≤ 1048576) : Ev (fun n => laws_eqStringS_m n a a) true := eq_loop_ints (by have := mx; omega)
theorem eqB_edges {a : List Timpl_Edge} (h : a.length ≤ 1048576) : Ev (fun n => laws_eqEdgeS_m n a a) true :=
  eq_loop (eq := fun n x y => laws_eqEdge_m n x y) (fun x _ => Ev.ite_f (by simp) (Ev.ite_f (by simp) (Ev.ite_f (by simp) (Ev.pure _)))) (by have := mx; omega)
theorem eqB_lts {a : Timpl_Lts} (h : BLts a) : Ev (fun n => laws_eqLts_m n a a) true :=
  Ev.ite_f (by simp) (Ev.ite_f (by simp) (Ev.bind (eqB_strs h.1) (Ev.ite_f (by simp) (Ev.bind (eqB_edges h.2.2) (Ev.ite_f (by simp) (Ev.pure _))))))
end Go.Proofs.YtkgkfbmcnchdbaaGreatDoor
