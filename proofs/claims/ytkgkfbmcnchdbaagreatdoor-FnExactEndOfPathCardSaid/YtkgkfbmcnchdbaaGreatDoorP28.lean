/-
  Statement EndOfPath: the core.
-/
import Derived.Test.YtkgkfbmcnchdbaaGreatDoorF0
import Derived.Test.YtkgkfbmcnchdbaaGreatDoorF1
import Derived.Test.YtkgkfbmcnchdbaaGreatDoorF10
import Derived.Test.YtkgkfbmcnchdbaaGreatDoorF2
import Derived.Test.YtkgkfbmcnchdbaaGreatDoorLEndOfPath
import Derived.Test.YtkgkfbmcnchdbaaGreatDoorPLt
import Derived.Test.YtkgkfbmcnchdbaaGreatDoorPY
namespace Go.Proofs.YtkgkfbmcnchdbaaGreatDoor
open Go.Gx
/-- All numbers of a path are places of edges. -/
def placesP (es : List Timpl_Edge) (p : List Int) : Bool := p.all fun x => decide (0 ≤ x) && decide (x ≤ W ((es.length : Int) - 1))
/-- The walk along a path. -/
def walk (es : List Timpl_Edge) : Int → List Int → Option Int
  | at', [] => some at'
  | at', x :: r => match idx es x with
    | none => none
    | some e => if e.1 = at' then walk es e.2.2 r else none

theorem place_idx {es : List Timpl_Edge} {p : List Int} (he : es.length ≤ 1048576) (h : placesP es p = true) {x : Int} (hx : x ∈ p) : ∃ e, idx es x = some e := by
  unfold placesP at h
  rw [List.all_eq_true] at h
  have := h x hx
  simp at this
  rw [W_of (by omega) (by omega)] at this
  obtain ⟨e, h1⟩ := get_lt (xs := es) (k := x.toNat) (by omega)
  refine ⟨e, ?_⟩
  have h2 := idx_at h1
  rwa [show ((x.toNat : Nat) : Int) = x by omega] at h2
theorem walk_snoc {es : List Timpl_Edge} : ∀ (p : List Int) (a : Int) (x : Int), walk es a (p ++ [x]) = (walk es a p).bind fun b => match idx es x with | none => none | some e => if e.1 = b then some e.2.2 else none
  | [], a, x => by
    cases h : idx es x <;> simp [walk, h]
  | y :: p, a, x => by
    simp only [List.cons_append, walk]
    cases idx es y with
    | none => rfl
    | some e =>
      simp only []
      split
      · exact walk_snoc p _ x
      · rfl
theorem walk_app_none {es : List Timpl_Edge} : ∀ (p q : List Int) (a : Int), walk es a p = none → walk es a (p ++ q) = none
  | [], q, a, h => by simp [walk] at h
  | y :: p, q, a, h => by
    simp only [List.cons_append, walk] at h ⊢
    cases hi : idx es y with
    | none => rfl
    | some e =>
      rw [hi] at h
      simp only [] at h ⊢
      split
      · rename_i he
        rw [if_pos he] at h
        exact walk_app_none p q _ h
      · rfl

theorem walk_spec {es : List Timpl_Edge} {p : List Int} {a : Int} (he : es.length ≤ 1048576) (hp : p.length ≤ 1048576) (h : placesP es p = true) :
    Ev (fun fuel => (iter (fun (s : (Int) × (Int)) => (match s with | (x114, x115) => (if (decide (x115 < (p.length : Int))) = true then (idx p x115).bind fun x156 => (idx es x156).bind fun x161 => (if (x161.1 != x114) = true then some (.inr (.inr ((0 : Int), (7 : Int)))) else some (.inl (x161.2.2, (W (x115 + (1 : Int)))))) else some (.inr (.inl (x114)))) : Option (((Int) × (Int)) ⊕ ((Int) ⊕ ((Int × Int)))))) fuel (a, (0 : Int))).bind fun res145 => ctl (β := Int) (ρ := (Int × Int)) (τ := (Int × Int)) res145 (fun (x144) => some ((x144, (0 : Int)))) (fun q => some (q))) (match walk es a p with | some b => (b, 0) | none => (0, 7)) := by
  have hm := mx
  refine Exists.elim (EvI.count (β := Int ⊕ (Int × Int)) (step := fun (_ : Nat) => fun (s : (Int) × (Int)) => (match s with | (x114, x115) => (if (decide (x115 < (p.length : Int))) = true then (idx p x115).bind fun x156 => (idx es x156).bind fun x161 => (if (x161.1 != x114) = true then some (.inr (.inr ((0 : Int), (7 : Int)))) else some (.inl (x161.2.2, (W (x115 + (1 : Int)))))) else some (.inr (.inl (x114)))) : Option (((Int) × (Int)) ⊕ ((Int) ⊕ ((Int × Int)))))) p.length (fun k (t : Int) => (t, (k : Int))) (fun k t => walk es a (p.take k) = some t)
    (fun r => r = (match walk es a p with | some b => .inl b | none => .inr ((0 : Int), (7 : Int)))) ?_ ?_ (k := 0) (t := a) (Nat.zero_le _) rfl)
    (fun res ⟨h1, h2⟩ => Ev.bind h1.ev (Ev.const (by subst h2; cases walk es a p <;> rfl)))
  · intro k t hk hI
    obtain ⟨x, hx⟩ := get_lt hk
    have hk' : decide ((k : Int) < (p.length : Int)) = true := by simpa using hk
    have htk : p.take (k + 1) = p.take k ++ [x] := by rw [List.take_add_one, hx]; rfl
    obtain ⟨e, hi⟩ := place_idx he h (List.mem_of_getElem? hx)
    have hw : walk es a (p.take (k + 1)) = if e.1 = t then some e.2.2 else none := by rw [htk, walk_snoc, hI, Option.bind_some, hi]
    by_cases h3 : e.1 = t
    · left
      rw [if_pos h3] at hw
      refine ⟨e.2.2, Ev.const ?_, hw⟩
      simp [hk', idx_at hx, hi, h3, W_succ hk (by omega)]
      try omega
    · right
      rw [if_neg h3] at hw
      refine ⟨.inr (0, 7), Ev.const ?_, ?_⟩
      · have : (e.1 != t) = true := by simpa using h3
        simp [hk, idx_at hx, hi, h3]
      · have := walk_app_none (p.take (k + 1)) (p.drop (k + 1)) a hw
        rw [List.take_append_drop] at this
        rw [this]
  · intro t hI
    rw [List.take_length] at hI
    exact ⟨.inl t, Ev.const (by simp), by rw [hI]⟩

theorem walk_impl {es : List Timpl_Edge} {p : List Int} {a : Int} (he : es.length ≤ 1048576) (hp : p.length ≤ 1048576) (h : placesP es p = true) :
    Ev (fun fuel => (iter (fun (s : (Int) × (Int)) => (match s with | (x100, x101) => (if (decide (x101 < (p.length : Int))) = true then (idx p x101).bind fun x147 => (idx es x147).bind fun x152 => (if (x152.1 != x100) = true then some (.inr (.inr ((0 : Int), (7 : Int)))) else (idx es x147).bind fun x166 => some (.inl (x166.2.2, (W (x101 + (1 : Int)))))) else some (.inr (.inl (x100)))) : Option (((Int) × (Int)) ⊕ ((Int) ⊕ ((Int × Int)))))) fuel (a, (0 : Int))).bind fun res145 => ctl (β := Int) (ρ := (Int × Int)) (τ := (Int × Int)) res145 (fun (x144) => some ((x144, (0 : Int)))) (fun q => some (q))) (match walk es a p with | some b => (b, 0) | none => (0, 7)) := by
  have hm := mx
  refine Exists.elim (EvI.count (β := Int ⊕ (Int × Int)) (step := fun (_ : Nat) => fun (s : (Int) × (Int)) => (match s with | (x100, x101) => (if (decide (x101 < (p.length : Int))) = true then (idx p x101).bind fun x147 => (idx es x147).bind fun x152 => (if (x152.1 != x100) = true then some (.inr (.inr ((0 : Int), (7 : Int)))) else (idx es x147).bind fun x166 => some (.inl (x166.2.2, (W (x101 + (1 : Int)))))) else some (.inr (.inl (x100)))) : Option (((Int) × (Int)) ⊕ ((Int) ⊕ ((Int × Int)))))) p.length (fun k (t : Int) => (t, (k : Int))) (fun k t => walk es a (p.take k) = some t)
    (fun r => r = (match walk es a p with | some b => .inl b | none => .inr ((0 : Int), (7 : Int)))) ?_ ?_ (k := 0) (t := a) (Nat.zero_le _) rfl)
    (fun res ⟨h1, h2⟩ => Ev.bind h1.ev (Ev.const (by subst h2; cases walk es a p <;> rfl)))
  · intro k t hk hI
    obtain ⟨x, hx⟩ := get_lt hk
    have hk' : decide ((k : Int) < (p.length : Int)) = true := by simpa using hk
    have htk : p.take (k + 1) = p.take k ++ [x] := by rw [List.take_add_one, hx]; rfl
    obtain ⟨e, hi⟩ := place_idx he h (List.mem_of_getElem? hx)
    have hw : walk es a (p.take (k + 1)) = if e.1 = t then some e.2.2 else none := by rw [htk, walk_snoc, hI, Option.bind_some, hi]
    by_cases h3 : e.1 = t
    · left
      rw [if_pos h3] at hw
      refine ⟨e.2.2, Ev.const ?_, hw⟩
      simp [hk', idx_at hx, hi, h3, W_succ hk (by omega)]
      try omega
    · right
      rw [if_neg h3] at hw
      refine ⟨.inr (0, 7), Ev.const ?_, ?_⟩
      · have : (e.1 != t) = true := by simpa using h3
        simp [hk, idx_at hx, hi, h3]
      · have := walk_app_none (p.take (k + 1)) (p.drop (k + 1)) a hw
        rw [List.take_append_drop] at this
        rw [this]
  · intro t hI
    rw [List.take_length] at hI
    exact ⟨.inl t, Ev.const (by simp), by rw [hI]⟩

theorem places_spec {es : List Timpl_Edge} {p : List Int} (hp : p.length ≤ 1048576) {τ : Type} {K : Nat → Option (Int × Int)} {r : Int × Int} (hK : placesP es p = true → Ev K r) :
    Ev (fun fuel => (iter (fun (s : (Int)) => (match s with | (x65) => (if (decide (x65 < (p.length : Int))) = true then (idx p x65).bind fun x185 => (spec_l00In_m fuel x185 (0 : Int) (W ((es.length : Int) - (1 : Int)))).bind fun x192 => (if (!x192) = true then some (.inr (.inr ((0 : Int), (2 : Int)))) else some (.inl ((W (x65 + (1 : Int)))))) else some (.inr (.inl ()))) : Option (((Int)) ⊕ ((Unit) ⊕ ((Int × Int)))))) fuel ((0 : Int))).bind fun res81 => ctl (β := Unit) (ρ := (Int × Int)) (τ := (Int × Int)) res81 (fun _ => K fuel) (fun q => some (q))) (if placesP es p = true then r else (0, 2)) := by
  have hm := mx
  refine Ev.bind (EvI.all p.length (fun k => match p[k]? with | none => true | some x => decide (0 ≤ x) && decide (x ≤ W ((es.length : Int) - 1))) ((0 : Int), (2 : Int)) (fun k hk hok => Ev.const' fun m => ?_) (fun k hk hok => Ev.const' fun m => ?_) (Ev.ite_f (by simp) (Ev.pure _))).ev ?_
  · obtain ⟨x, hx⟩ := get_lt hk
    have hk' : decide ((k : Int) < (p.length : Int)) = true := by simpa using hk
    simp only [hx] at hok
    simp only [hk', if_true, idx_at hx, Option.bind_some, l00In_eq, hok, Bool.not_true, Bool.false_eq_true, if_false, W_succ hk (by omega)]
  · obtain ⟨x, hx⟩ := get_lt hk
    have hk' : decide ((k : Int) < (p.length : Int)) = true := by simpa using hk
    simp only [hx] at hok
    simp only [hk', if_true, idx_at hx, Option.bind_some, l00In_eq, hok, Bool.not_false]
  · have e : (∀ k, k < p.length → (match p[k]? with | none => true | some x => decide (0 ≤ x) && decide (x ≤ W ((es.length : Int) - 1))) = true) ↔ placesP es p = true := by
      unfold placesP
      rw [List.all_eq_true]
      constructor
      · intro h x hx
        obtain ⟨i, hi, rfl⟩ := List.getElem_of_mem hx
        have := h i hi
        simpa [List.getElem?_eq_getElem hi] using this
      · intro h k hk
        rw [List.getElem?_eq_getElem hk]
        exact h _ (List.getElem_mem hk)
    by_cases h : placesP es p = true
    · rw [if_pos (e.2 h), if_pos h]
      exact hK h
    · rw [if_neg (fun g => h (e.1 g)), if_neg h]
      exact Ev.pure _
theorem path_core {a : Tlaws_Lts} {p : List Int} (h : BLts a) (hp : p.length ≤ 1048576) : ∃ r, Ev (fun n => spec_EndOfPath_m n a p) r ∧ Ev (fun n => impl_EndOfPath_m n a p) r := by
  have hm := mx
  have h1 := valid_spec (t := a) h.1 h.2.1 h.2.2
  have h2 := valid_impl (t := a) h.1 h.2.1 h.2.2
  refine ⟨if validP a = true then (if placesP a.2.2.2 p = true then (match walk a.2.2.2 a.2.1 p with | some b => (b, 0) | none => (0, 7)) else (0, 2)) else (0, 1), ?_, ?_⟩
  · unfold spec_EndOfPath_m
    refine Ev.bind h1 ?_
    cases hv : validP a
    · exact Ev.const' fun m => rfl
    · refine Ev.ite_f (by simp) ?_
      unfold spec_l10Walk_m
      exact Ev.bind (places_spec (τ := Unit) hp (fun g => walk_spec h.2.2 hp g)) (Ev.pure _)
  · unfold impl_EndOfPath_m
    refine Ev.bind h2 ?_
    cases hv : validP a
    · exact Ev.const' fun m => rfl
    · refine Ev.ite_f (by simp) ?_
      have hc : Ev (fun m => slices_ContainsFunc__int64_int64_m m p (fun z0 => impl_EndOfPath_1_m m z0 (a.1, a.2.1, a.2.2.1, a.2.2.2))) (!(placesP a.2.2.2 p)) := by
        unfold slices_ContainsFunc__int64_int64_m slices_IndexFunc__int64_int64_m
        refine contains_loop (by omega) (f := fun m z => impl_EndOfPath_1_m m z (a.1, a.2.1, a.2.2.1, a.2.2.2)) (ok := fun x => decide (0 ≤ x) && decide (x ≤ W ((a.2.2.2.length : Int) - 1))) (fun x _ => Ev.const' fun m => ?_)
        unfold impl_EndOfPath_1_m
        rw [index_eq]; rfl
      refine Ev.bind hc ?_
      cases hpl : placesP a.2.2.2 p
      · exact Ev.const' fun m => rfl
      · exact Ev.ite_f (by simp) (walk_impl h.2.2 hp hpl)
end Go.Proofs.YtkgkfbmcnchdbaaGreatDoor
