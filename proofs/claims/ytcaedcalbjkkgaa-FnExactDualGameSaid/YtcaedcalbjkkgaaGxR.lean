/-
  Plain laws about the loops that the statements' own helpers have: sizes, copies, comparisons.
-/
import Derived.Test.YtcaedcalbjkkgaaGxQ
namespace Go.Gx

theorem maxLen_le : maxLen ≤ 9223372036854775807 := by unfold maxLen; omega

/-- What a size yields: below nought, or the budget's rest and a fact. -/
def Sz (b r : Int) (p : Prop) : Prop := r < 0 ∨ (0 ≤ r ∧ r ≤ b ∧ p)

theorem Sz.mono {b r : Int} {p q : Prop} (h : Sz b r p) (hpq : p → q) : Sz b r q := h.imp id fun h => ⟨h.1, h.2.1, hpq h.2.2⟩

theorem sz_leaf {n : Nat} {b : Int} (h0 : 0 ≤ b) (hb : b ≤ 1048576) (hl : n ≤ maxLen) :
    ∃ r, Ev (fun _ => (if (decide ((W (b - (n : Int))) < (0 : Int))) = true then some ((-1 : Int)) else some ((W (b - (n : Int)))))) r ∧ Sz b r (n ≤ 1048576) := by
  have := maxLen_le
  rw [W_of (by omega) (by omega)]
  by_cases h : b - (n : Int) < 0
  · exact ⟨-1, Ev.ite_t (by simpa using h) (Ev.pure _), .inl (by omega)⟩
  · exact ⟨_, Ev.ite_f (by simpa using h) (Ev.pure _), .inr ⟨by omega, by omega, by omega⟩⟩

theorem sz_loop {α : Type} {sz : Nat → α → Int → Option Int} {p : α → Prop} {a : List α} {b : Int}
    (hsz : ∀ x ∈ a, ∀ b, 0 ≤ b → b ≤ 1048576 → ∃ r, Ev (fun n => sz n x b) r ∧ Sz b r (p x)) (hl : a.length ≤ maxLen) (h0 : 0 ≤ b) (hb : b ≤ 1048576) :
    ∃ r, Ev (fun n => (if (decide ((W (b - (a.length : Int))) < (0 : Int))) = true then some ((-1 : Int)) else (iter (fun (s : (Int) × (Int)) => (match s with | (x26, x27) => (if (decide (x27 < (a.length : Int))) = true then (idx a x27).bind fun x62 => (sz n x62 x26).bind fun x79 => (if (decide (x79 < (0 : Int))) = true then some (.inr (.inr (-1 : Int))) else some (.inl (x79, (W (x27 + (1 : Int)))))) else some (.inr (.inl (x26)))) : Option (((Int) × (Int)) ⊕ ((Int) ⊕ (Int))))) n ((W (b - (a.length : Int))), (0 : Int))).bind fun res53 => ctl (β := Int) (ρ := Int) (τ := Int) res53 (fun (x52) => some (x52)) (fun q => some (q)))) r
      ∧ Sz b r (a.length ≤ 1048576 ∧ ∀ x ∈ a, p x) := by
  have hm := maxLen_le
  rw [W_of (n := b - (a.length : Int)) (by omega) (by omega)]
  by_cases h : b - (a.length : Int) < 0
  · exact ⟨-1, Ev.ite_t (by simpa using h) (Ev.pure _), .inl (by omega)⟩
  · refine Exists.elim (EvI.count (β := Int ⊕ Int) (step := fun n (s : Int × Int) => (match s with | (x26, x27) => (if (decide (x27 < (a.length : Int))) = true then (idx a x27).bind fun x62 => (sz n x62 x26).bind fun x79 => (if (decide (x79 < (0 : Int))) = true then some (.inr (.inr (-1 : Int))) else some (.inl (x79, (W (x27 + (1 : Int)))))) else some (.inr (.inl (x26)))) : Option (((Int) × (Int)) ⊕ ((Int) ⊕ (Int)))))
      a.length (fun k (t : Int) => (t, (k : Int))) (fun k t => 0 ≤ t ∧ t ≤ b ∧ ∀ i, i < k → ∀ x, a[i]? = some x → p x) (fun r => r = .inr (-1) ∨ ∃ t, r = .inl t ∧ 0 ≤ t ∧ t ≤ b ∧ ∀ x ∈ a, p x)
      (fun k t hk ⟨ht0, htb, hp⟩ => ?_) (fun t ⟨ht0, htb, hp⟩ => ?_) (k := 0) (t := b - (a.length : Int)) (Nat.zero_le _) ⟨by omega, by omega, fun i hi => by omega⟩) (fun res ⟨h1, h2⟩ => ?_)
    · obtain ⟨x, hx⟩ : ∃ x, a[k]? = some x := ⟨a[k], List.getElem?_eq_getElem hk⟩
      obtain ⟨r, hr, hr2⟩ := hsz x (List.mem_of_getElem? hx) t ht0 (by omega)
      rcases hr2 with hneg | ⟨hr0, hrt, hpx⟩
      · exact .inr ⟨_, Ev.ite_t (by simpa using hk) (Ev.bindc (idx_at hx) (Ev.bind hr (Ev.ite_t (by simpa using hneg) (Ev.pure _)))), .inl rfl⟩
      · refine .inl ⟨r, (Ev.ite_t (by simpa using hk) (Ev.bindc (idx_at hx) (Ev.bind hr (Ev.ite_f (by simp; omega) (Ev.pure _))))).eq ?_, hr0, by omega, fun i hi y hy => ?_⟩
        · rw [W_of (by omega) (by omega)]; rfl
        · by_cases hik : i = k
          · subst hik; rw [hx] at hy; cases hy; exact hpx
          · exact hp i (by omega) y hy
    · refine ⟨_, Ev.ite_f (by simp) (Ev.pure _), .inr ⟨t, rfl, ht0, htb, fun x hx => ?_⟩⟩
      obtain ⟨i, hi, rfl⟩ := List.getElem_of_mem hx
      exact hp i hi _ (List.getElem?_eq_getElem hi)
    · rcases h2 with rfl | ⟨t, rfl, h3, h4, h5⟩
      · exact ⟨-1, Ev.ite_f (by simpa using h) (Ev.bind h1.ev (Ev.pure _)), .inl (by omega)⟩
      · exact ⟨t, Ev.ite_f (by simpa using h) (Ev.bind h1.ev (Ev.pure _)), .inr ⟨h3, h4, by omega, h5⟩⟩

theorem to_loop {α β : Type} {to : Nat → α → Option β} {f : α → β} {a : List α} {z : β} (hto : ∀ x ∈ a, Ev (fun n => to n x) (f x)) (hl : a.length ≤ 1048576) :
    Ev (fun n => (mks (a.length : Int) z).bind fun x1 => (iter (fun (s : (List β) × (Int)) => (match s with | (xs35, x36) => (if (decide (x36 < (a.length : Int))) = true then (idx a x36).bind fun x75 => (to n x75).bind fun x92 => (idx xs35 x36).bind fun _ => some (.inl ((xs35.set x36.toNat x92), (W (x36 + (1 : Int))))) else some (.inr (.inl (xs35)))) : Option (((List β) × (Int)) ⊕ (((List β)) ⊕ ((List β)))))) n (x1, (0 : Int))).bind fun res66 => ctl (β := (List β)) (ρ := (List β)) (τ := (List β)) res66 (fun (xs65) => some (xs65)) (fun q => some (q))) (a.map f) := by
  refine Exists.elim (EvI.count (β := List β ⊕ List β) (step := fun n (s : (List β) × (Int)) => (match s with | (xs35, x36) => (if (decide (x36 < (a.length : Int))) = true then (idx a x36).bind fun x75 => (to n x75).bind fun x92 => (idx xs35 x36).bind fun _ => some (.inl ((xs35.set x36.toNat x92), (W (x36 + (1 : Int))))) else some (.inr (.inl (xs35)))) : Option (((List β) × (Int)) ⊕ (((List β)) ⊕ ((List β))))))
      a.length (fun k (t : List β) => (t, (k : Int))) (fun k t => t = (a.take k).map f ++ List.replicate (a.length - k) z) (fun r => r = .inl (a.map f))
      (fun k t hk ht => ?_) (fun t ht => ?_) (k := 0) (t := List.replicate a.length z) (Nat.zero_le _) (by simp)) (fun res ⟨h1, h2⟩ => ?_)
  · obtain ⟨x, hx⟩ : ∃ x, a[k]? = some x := ⟨a[k], List.getElem?_eq_getElem hk⟩
    have hmin : min k a.length = k := by omega
    have hlen : ((a.take k).map f).length = k := by simp; omega
    have hi : t[k]? = some z := by
      rw [ht, List.getElem?_append_right (by omega), hlen, List.getElem?_replicate, if_pos (by omega)]
    refine .inl ⟨_, (Ev.ite_t (by simpa using hk) (Ev.bindc (idx_at hx) (Ev.bind (hto x (List.mem_of_getElem? hx)) (Ev.bindc (idx_at hi) (Ev.pure (Sum.inl (t.set (k : Int).toNat (f x), W ((k : Int) + 1)))))))).eq ?_, rfl⟩
    rw [W_of (by omega) (by omega)]
    refine congrArg Sum.inl (Prod.ext ?_ rfl)
    show t.set (k : Int).toNat (f x) = _
    rw [ht, Int.toNat_natCast, List.set_append_right _ _ (by omega), hlen]
    rw [List.take_add_one, hx, List.map_append, List.append_assoc]
    congr 1
    rw [show a.length - k = (a.length - (k + 1)) + 1 by omega, List.replicate_succ]
    simp
  · refine ⟨_, Ev.ite_f (by simp) (Ev.pure _), ?_⟩
    rw [ht]; simp
  · subst h2
    exact Ev.bindc (mks_ok (by omega)) (Ev.bind h1.ev (Ev.pure _))

theorem eq_loop {α : Type} {eq : Nat → α → α → Option Bool} {a : List α} (heq : ∀ x ∈ a, Ev (fun n => eq n x x) true) (hl : a.length ≤ maxLen) :
    Ev (fun n => (if ((a.length : Int) != (a.length : Int)) = true then some (false) else (iter (fun (s : (Int)) => (match s with | (x42) => (if (decide (x42 < (a.length : Int))) = true then (idx a x42).bind fun x94 => (idx a x42).bind fun x109 => (eq n x94 x109).bind fun x126 => (if (!x126) = true then some (.inr (.inr false)) else some (.inl ((W (x42 + (1 : Int)))))) else some (.inr (.inl ()))) : Option (((Int)) ⊕ ((Unit) ⊕ (Bool))))) n ((0 : Int))).bind fun res83 => ctl (β := Unit) (ρ := Bool) (τ := Bool) res83 (fun _ => some (true)) (fun q => some (q)))) true := by
  have hm := maxLen_le
  refine Exists.elim (EvI.count (β := Unit ⊕ Bool) (step := fun n (s : (Int)) => (match s with | (x42) => (if (decide (x42 < (a.length : Int))) = true then (idx a x42).bind fun x94 => (idx a x42).bind fun x109 => (eq n x94 x109).bind fun x126 => (if (!x126) = true then some (.inr (.inr false)) else some (.inl ((W (x42 + (1 : Int)))))) else some (.inr (.inl ()))) : Option (((Int)) ⊕ ((Unit) ⊕ (Bool)))))
      a.length (fun k (_ : Unit) => (k : Int)) (fun _ _ => True) (fun r => r = .inl ())
      (fun k t hk _ => ?_) (fun t _ => ⟨_, Ev.ite_f (by simp) (Ev.pure _), rfl⟩) (k := 0) (t := ()) (Nat.zero_le _) trivial) (fun res ⟨h1, h2⟩ => ?_)
  · obtain ⟨x, hx⟩ : ∃ x, a[k]? = some x := ⟨a[k], List.getElem?_eq_getElem hk⟩
    refine .inl ⟨(), (Ev.ite_t (by simpa using hk) (Ev.bindc (idx_at hx) (Ev.bindc (idx_at hx) (Ev.bind (heq x (List.mem_of_getElem? hx)) (Ev.ite_f (by simp) (Ev.pure _)))))).eq ?_, trivial⟩
    rw [W_of (by omega) (by omega)]; rfl
  · subst h2
    exact Ev.ite_f (by simp) (Ev.bind h1.ev (Ev.pure _))

theorem eq_loop_ints {α : Type} [BEq α] [LawfulBEq α] {a : List α} (hl : a.length ≤ maxLen) :
    Ev (fun n => (if ((a.length : Int) != (a.length : Int)) = true then some (false) else (iter (fun (s : (Int)) => (match s with | (x17) => (if (decide (x17 < (a.length : Int))) = true then (idx a x17).bind fun x44 => (idx a x17).bind fun x49 => (if (x44 != x49) = true then some (.inr (.inr false)) else some (.inl ((W (x17 + (1 : Int)))))) else some (.inr (.inl ()))) : Option (((Int)) ⊕ ((Unit) ⊕ (Bool))))) n ((0 : Int))).bind fun res33 => ctl (β := Unit) (ρ := Bool) (τ := Bool) res33 (fun _ => some (true)) (fun q => some (q)))) true := by
  have hm := maxLen_le
  refine Exists.elim (EvI.count (β := Unit ⊕ Bool) (step := fun n (s : (Int)) => (match s with | (x17) => (if (decide (x17 < (a.length : Int))) = true then (idx a x17).bind fun x44 => (idx a x17).bind fun x49 => (if (x44 != x49) = true then some (.inr (.inr false)) else some (.inl ((W (x17 + (1 : Int)))))) else some (.inr (.inl ()))) : Option (((Int)) ⊕ ((Unit) ⊕ (Bool)))))
      a.length (fun k (_ : Unit) => (k : Int)) (fun _ _ => True) (fun r => r = .inl ())
      (fun k t hk _ => ?_) (fun t _ => ⟨_, Ev.ite_f (by simp) (Ev.pure _), rfl⟩) (k := 0) (t := ()) (Nat.zero_le _) trivial) (fun res ⟨h1, h2⟩ => ?_)
  · obtain ⟨x, hx⟩ : ∃ x, a[k]? = some x := ⟨a[k], List.getElem?_eq_getElem hk⟩
    refine .inl ⟨(), (Ev.ite_t (by simpa using hk) (Ev.bindc (idx_at hx) (Ev.bindc (idx_at hx) (Ev.ite_f (by simp) (Ev.pure _))))).eq ?_, trivial⟩
    rw [W_of (by omega) (by omega)]; rfl
  · subst h2
    exact Ev.ite_f (by simp) (Ev.bind h1.ev (Ev.pure _))

/-- A search loop: the first place that is not as asked ends it. -/
theorem EvI.find {ρ : Type} {step : Nat → Int → Option (Int ⊕ (Unit ⊕ ρ))} (n : Nat) (ok : Nat → Bool) (r : Nat → ρ) (hs : ∀ k, k < n → ok k = true → Ev (fun m => step m (k : Int)) (.inl ((k + 1 : Nat) : Int)))
    (hf : ∀ k, k < n → ok k = false → Ev (fun m => step m (k : Int)) (.inr (.inr (r k)))) (hn : Ev (fun m => step m (n : Int)) (.inr (.inl ()))) {s : Nat} (h0 : s ≤ n) :
    ∃ res, EvI step (s : Int) res ∧ ((res = .inl () ∧ ∀ k, s ≤ k → k < n → ok k = true) ∨ ∃ k, s ≤ k ∧ k < n ∧ ok k = false ∧ (∀ j, s ≤ j → j < k → ok j = true) ∧ res = .inr (r k)) := by
  refine EvI.count (step := step) n (fun k (_ : Unit) => (k : Int)) (fun k _ => s ≤ k ∧ ∀ j, s ≤ j → j < k → ok j = true) _ (fun k t hk ⟨hsk, hI⟩ => ?_) (fun t ⟨hsk, hI⟩ => ⟨_, hn, .inl ⟨rfl, hI⟩⟩) h0 (t := ()) ⟨Nat.le_refl _, fun j h1 h2 => by omega⟩
  cases hok : ok k with
  | true => exact .inl ⟨(), hs k hk hok, by omega, fun j h1 h2 => by by_cases hj : j = k; (· rw [hj]; exact hok); exact hI j h1 (by omega)⟩
  | false => exact .inr ⟨_, hf k hk hok, .inr ⟨k, hsk, hk, hok, hI, rfl⟩⟩

/-- .. that answers one thing at the first such place. -/
theorem EvI.all {ρ : Type} {step : Nat → Int → Option (Int ⊕ (Unit ⊕ ρ))} (n : Nat) (ok : Nat → Bool) (r : ρ) (hs : ∀ k, k < n → ok k = true → Ev (fun m => step m (k : Int)) (.inl ((k + 1 : Nat) : Int)))
    (hf : ∀ k, k < n → ok k = false → Ev (fun m => step m (k : Int)) (.inr (.inr r))) (hn : Ev (fun m => step m (n : Int)) (.inr (.inl ()))) :
    EvI step 0 (if ∀ k, k < n → ok k = true then .inl () else .inr r) := by
  obtain ⟨res, h1, h2⟩ := EvI.find n ok (fun _ => r) hs hf hn (Nat.zero_le n)
  rcases h2 with ⟨rfl, h3⟩ | ⟨k, _, hk, hok, _, rfl⟩
  · rw [if_pos (fun k hk => h3 k (Nat.zero_le _) hk)]; exact h1
  · rw [if_neg (fun h => by rw [h k hk] at hok; cases hok)]; exact h1

theorem Ev.all {ρ : Type} {step : Nat → Int → Option (Int ⊕ (Unit ⊕ ρ))} (n : Nat) (ok : Nat → Bool) (r x : ρ) (hs : ∀ k, k < n → ok k = true → Ev (fun m => step m (k : Int)) (.inl ((k + 1 : Nat) : Int)))
    (hf : ∀ k, k < n → ok k = false → Ev (fun m => step m (k : Int)) (.inr (.inr r))) (hn : Ev (fun m => step m (n : Int)) (.inr (.inl ()))) :
    Ev (fun m => (iter (step m) m (0 : Int)).bind fun res => ctl (β := Unit) (ρ := ρ) (τ := ρ) res (fun _ => some x) (fun q => some q)) (if ∀ k, k < n → ok k = true then x else r) := by
  refine Ev.bind (EvI.all n ok r hs hf hn).ev (Ev.const ?_)
  split <;> rfl

theorem or_some {c b : Bool} : (if c = true then some true else some b) = some (c || b) := by cases c <;> rfl
theorem and_some {c b : Bool} : (if c = true then some b else some false) = some (c && b) := by cases c <;> rfl
theorem ite_some {α : Type} {c : Bool} {a b : α} : (if c = true then some a else some b) = some (if c = true then a else b) := by cases c <;> rfl

/-! ### marks and their check -/
/-- A loop that marks every element, and one that finds the marks again. -/
theorem mark_list {α : Type} {p : α → Prop} {mstep : Nat → List α × Int × Int → Option ((List α × Int × Int) ⊕ ((Int × List α) ⊕ (Int × List α)))} {hstep : List α → Nat → Int × Int → Option ((Int × Int) ⊕ (Int ⊕ Int))} {a : List α} {k0 : Int} {C : Nat}
    (hm : ∀ (xs : List α) (k : Int) (i : Nat) (x : α), xs.length = a.length → xs[i]? = some x → p x → 1 ≤ k → k + C ≤ 4611686018427387904 →
      ∃ x' k', Ev (fun m => mstep m (xs, k, (i : Int))) (.inl (xs.set i x', k', ((i + 1 : Nat) : Int))) ∧ k ≤ k' ∧ k' ≤ k + C ∧ ∀ ys : List α, ys.length = a.length → ys[i]? = some x' → Ev (fun m => hstep ys m (k, (i : Int))) (.inl (k', ((i + 1 : Nat) : Int))))
    (hme : ∀ (xs : List α) (k : Int), xs.length = a.length → Ev (fun m => mstep m (xs, k, (a.length : Int))) (.inr (.inl (k, xs))))
    (hhe : ∀ (ys : List α) (k : Int), ys.length = a.length → Ev (fun m => hstep ys m (k, (a.length : Int))) (.inr (.inl k)))
    (hp : ∀ x ∈ a, p x) (h0 : 1 ≤ k0) (hb : k0 + (a.length * C : Nat) ≤ 4611686018427387904) :
    ∃ k' ys, EvI mstep (a, k0, 0) (.inl (k', ys)) ∧ EvI (hstep ys) (k0, 0) (.inl k') ∧ k0 ≤ k' ∧ k' ≤ k0 + (a.length * C : Nat) ∧ ys.length = a.length := by
  have key : ∀ (j i : Nat) (xs : List α) (k : Int), i + j = a.length → xs.length = a.length → (∀ q, i ≤ q → xs[q]? = a[q]?) → k0 ≤ k → k ≤ k0 + (i * C : Nat) →
      ∃ k' ys, EvI mstep (xs, k, (i : Int)) (.inl (k', ys)) ∧ EvI (hstep ys) (k, (i : Int)) (.inl k') ∧ k ≤ k' ∧ k' ≤ k0 + (a.length * C : Nat) ∧ ys.length = a.length ∧ ∀ q, q < i → ys[q]? = xs[q]? := by
    intro j
    induction j with
    | zero =>
      intro i xs k hi hl hx h1 h2
      obtain rfl : i = a.length := by omega
      exact ⟨k, xs, EvI.stop (hme xs k hl), EvI.stop (hhe xs k hl), Int.le_refl _, h2, hl, fun _ _ => rfl⟩
    | succ j ih =>
      intro i xs k hi hl hx h1 h2
      obtain ⟨x, hxi⟩ := get_lt (xs := a) (k := i) (by omega)
      have hic : (i + 1) * C ≤ a.length * C := Nat.mul_le_mul_right C (by omega)
      have hc : ((i + 1) * C : Nat) = i * C + C := Nat.succ_mul i C
      obtain ⟨x', k', e1, e2, e3, e4⟩ := hm xs k i x hl (by rw [hx i (Nat.le_refl _)]; exact hxi) (hp x (List.mem_of_getElem? hxi)) (by omega) (by omega)
      obtain ⟨k2, ys, f1, f2, f3, f4, f5, f6⟩ := ih (i + 1) (xs.set i x') k' (by omega) (by simp [hl]) (fun q hq => by rw [List.getElem?_set_ne (by omega)]; exact hx q (by omega)) (by omega) (by rw [hc]; omega)
      refine ⟨k2, ys, EvI.go e1 f1, EvI.go (e4 ys f5 ?_) f2, by omega, f4, f5, fun q hq => ?_⟩
      · rw [f6 i (by omega), List.getElem?_set_self (by omega)]
      · rw [f6 q (by omega), List.getElem?_set_ne (by omega)]
  obtain ⟨k', ys, f1, f2, f3, f4, f5, _⟩ := key a.length 0 a k0 (by omega) rfl (fun _ _ => rfl) (Int.le_refl _) (by simp)
  exact ⟨k', ys, f1, f2, f3, f4, f5⟩

/-- .. where nothing looks for the marks. -/
theorem mark_only {α : Type} {p : α → Prop} {mstep : Nat → List α × Int × Int → Option ((List α × Int × Int) ⊕ ((Int × List α) ⊕ (Int × List α)))} {a : List α} {k0 : Int} {C : Nat}
    (hm : ∀ (xs : List α) (k : Int) (i : Nat) (x : α), xs.length = a.length → xs[i]? = some x → p x → 1 ≤ k → k + C ≤ 4611686018427387904 →
      ∃ x' k', Ev (fun m => mstep m (xs, k, (i : Int))) (.inl (xs.set i x', k', ((i + 1 : Nat) : Int))) ∧ k ≤ k' ∧ k' ≤ k + C)
    (hme : ∀ (xs : List α) (k : Int), xs.length = a.length → Ev (fun m => mstep m (xs, k, (a.length : Int))) (.inr (.inl (k, xs))))
    (hp : ∀ x ∈ a, p x) (h0 : 1 ≤ k0) (hb : k0 + (a.length * C : Nat) ≤ 4611686018427387904) :
    ∃ k' ys, EvI mstep (a, k0, 0) (.inl (k', ys)) ∧ k0 ≤ k' ∧ k' ≤ k0 + (a.length * C : Nat) ∧ ys.length = a.length := by
  have key : ∀ (j i : Nat) (xs : List α) (k : Int), i + j = a.length → xs.length = a.length → (∀ q, i ≤ q → xs[q]? = a[q]?) → k0 ≤ k → k ≤ k0 + (i * C : Nat) →
      ∃ k' ys, EvI mstep (xs, k, (i : Int)) (.inl (k', ys)) ∧ k ≤ k' ∧ k' ≤ k0 + (a.length * C : Nat) ∧ ys.length = a.length := by
    intro j
    induction j with
    | zero =>
      intro i xs k hi hl hx h1 h2
      obtain rfl : i = a.length := by omega
      exact ⟨k, xs, EvI.stop (hme xs k hl), Int.le_refl _, h2, hl⟩
    | succ j ih =>
      intro i xs k hi hl hx h1 h2
      obtain ⟨x, hxi⟩ := get_lt (xs := a) (k := i) (by omega)
      have hic : (i + 1) * C ≤ a.length * C := Nat.mul_le_mul_right C (by omega)
      have hc : ((i + 1) * C : Nat) = i * C + C := Nat.succ_mul i C
      obtain ⟨x', k', e1, e2, e3⟩ := hm xs k i x hl (by rw [hx i (Nat.le_refl _)]; exact hxi) (hp x (List.mem_of_getElem? hxi)) (by omega) (by omega)
      obtain ⟨k2, ys, f1, f3, f4, f5⟩ := ih (i + 1) (xs.set i x') k' (by omega) (by simp [hl]) (fun q hq => by rw [List.getElem?_set_ne (by omega)]; exact hx q (by omega)) (by omega) (by rw [hc]; omega)
      exact ⟨k2, ys, EvI.go e1 f1, by omega, f4, f5⟩
  obtain ⟨k', ys, f1, f3, f4, f5⟩ := key a.length 0 a k0 (by omega) rfl (fun _ _ => rfl) (Int.le_refl _) (by simp)
  exact ⟨k', ys, f1, f3, f4, f5⟩

theorem mark_held {α : Type} {p : α → Prop} {mstep : Nat → List α × Int × Int → Option ((List α × Int × Int) ⊕ ((Int × List α) ⊕ (Int × List α)))} {hstep : List α → Nat → Int × Int → Option ((Int × Int) ⊕ (Int ⊕ Int))} {a : List α} {k0 : Int} {C : Nat}
    (hp : ∀ x ∈ a, p x) (h0 : 1 ≤ k0) (hb : k0 + (a.length * C : Nat) ≤ 4611686018427387904)
    (hm : ∀ (xs : List α) (k : Int) (i : Nat) (x : α), xs.length = a.length → xs[i]? = some x → p x → 1 ≤ k → k + C ≤ 4611686018427387904 →
      ∃ x' k', Ev (fun m => mstep m (xs, k, (i : Int))) (.inl (xs.set i x', k', ((i + 1 : Nat) : Int))) ∧ k ≤ k' ∧ k' ≤ k + C ∧ ∀ ys : List α, ys.length = a.length → ys[i]? = some x' → Ev (fun m => hstep ys m (k, (i : Int))) (.inl (k', ((i + 1 : Nat) : Int))))
    (hme : ∀ (xs : List α) (k : Int), xs.length = a.length → Ev (fun m => mstep m (xs, k, (a.length : Int))) (.inr (.inl (k, xs))))
    (hhe : ∀ (ys : List α) (k : Int), ys.length = a.length → Ev (fun m => hstep ys m (k, (a.length : Int))) (.inr (.inl k))) :
    ∃ k' ys, Ev (fun n => (iter (mstep n) n (a, k0, (0 : Int))).bind fun res50 => ctl (β := Int × (List α)) (ρ := Int × (List α)) (τ := Int × (List α)) res50 (fun (x48, xs49) => some ((x48, xs49))) (fun q => some (q))) (k', ys) ∧
      Ev (fun n => (iter (hstep ys n) n (k0, (0 : Int))).bind fun res52 => ctl (β := Int) (ρ := Int) (τ := Int) res52 (fun (x51) => some (x51)) (fun q => some (q))) k' ∧ k0 ≤ k' ∧ k' ≤ k0 + (a.length * C : Nat) ∧ ys.length = a.length := by
  obtain ⟨k', ys, h1, h2, h3, h4, h5⟩ := mark_list hm hme hhe hp h0 hb
  exact ⟨k', ys, Ev.bind h1.ev (Ev.pure _), Ev.bind h2.ev (Ev.pure _), h3, h4, h5⟩

theorem mark_alone {α : Type} {p : α → Prop} {mstep : Nat → List α × Int × Int → Option ((List α × Int × Int) ⊕ ((Int × List α) ⊕ (Int × List α)))} {a : List α} {k0 : Int} {C : Nat}
    (hp : ∀ x ∈ a, p x) (h0 : 1 ≤ k0) (hb : k0 + (a.length * C : Nat) ≤ 4611686018427387904)
    (hm : ∀ (xs : List α) (k : Int) (i : Nat) (x : α), xs.length = a.length → xs[i]? = some x → p x → 1 ≤ k → k + C ≤ 4611686018427387904 →
      ∃ x' k', Ev (fun m => mstep m (xs, k, (i : Int))) (.inl (xs.set i x', k', ((i + 1 : Nat) : Int))) ∧ k ≤ k' ∧ k' ≤ k + C)
    (hme : ∀ (xs : List α) (k : Int), xs.length = a.length → Ev (fun m => mstep m (xs, k, (a.length : Int))) (.inr (.inl (k, xs)))) :
    ∃ k' ys, Ev (fun n => (iter (mstep n) n (a, k0, (0 : Int))).bind fun res50 => ctl (β := Int × (List α)) (ρ := Int × (List α)) (τ := Int × (List α)) res50 (fun (x48, xs49) => some ((x48, xs49))) (fun q => some (q))) (k', ys) ∧
      k0 ≤ k' ∧ k' ≤ k0 + (a.length * C : Nat) ∧ ys.length = a.length := by
  obtain ⟨k', ys, h1, h3, h4, h5⟩ := mark_only hm hme hp h0 hb
  exact ⟨k', ys, Ev.bind h1.ev (Ev.pure _), h3, h4, h5⟩

/-! ### searches with a function -/
theorem index_loop {α : Type} {a : List α} (hl : a.length ≤ maxLen) {f : Nat → α → Option Bool} {ok : α → Bool} (hf : ∀ x ∈ a, Ev (fun m => f m x) (!(ok x))) :
    ∃ r : Int, Ev (fun m => (iter (fun (s : (Int)) => (match s with | (x26) => (if (decide (x26 < (a.length : Int))) = true then (idx a x26).bind fun x61 => (f m x61).bind fun x80 => (if x80 = true then some (.inr (.inr x26)) else some (.inl ((W (x26 + (1 : Int)))))) else some (.inr (.inl ()))) : Option (((Int)) ⊕ ((Unit) ⊕ (Int))))) m ((0 : Int))).bind fun res52 => ctl (β := Unit) (ρ := Int) (τ := Int) res52 (fun _ => some ((-1 : Int))) (fun q => some (q))) r ∧
      ((r = -1 ∧ a.all ok = true) ∨ ∃ k x, k < a.length ∧ r = (k : Int) ∧ a[k]? = some x ∧ ok x = false ∧ ∀ j y, j < k → a[j]? = some y → ok y = true) := by
  have hm := maxLen_le
  have key : ∀ k, k < a.length → ∀ x, a[k]? = some x → Ev (fun m => f m x) (!(ok x)) := fun k hk x hx => hf x (List.mem_of_getElem? hx)
  obtain ⟨res, h1, h2⟩ := EvI.find (step := fun m (s : (Int)) => (match s with | (x26) => (if (decide (x26 < (a.length : Int))) = true then (idx a x26).bind fun x61 => (f m x61).bind fun x80 => (if x80 = true then some (.inr (.inr x26)) else some (.inl ((W (x26 + (1 : Int)))))) else some (.inr (.inl ()))) : Option (((Int)) ⊕ ((Unit) ⊕ (Int)))))
    a.length (fun k => match a[k]? with | none => true | some x => ok x) (fun k => (k : Int)) (fun k hk hok => by
      obtain ⟨x, hx⟩ := get_lt hk
      simp only [hx] at hok
      have := key k hk x hx
      rw [hok] at this
      exact (Ev.ite_t (decide_eq_true (by omega)) (Ev.bindc (idx_at hx) (Ev.bind this (Ev.ite_f (by simp) (Ev.pure _))))).eq (by rw [W_succ hk (by omega)])) (fun k hk hok => by
      obtain ⟨x, hx⟩ := get_lt hk
      simp only [hx] at hok
      have := key k hk x hx
      rw [hok] at this
      exact Ev.ite_t (decide_eq_true (by omega)) (Ev.bindc (idx_at hx) (Ev.bind this (Ev.ite_t (by simp) (Ev.pure _))))) (Ev.ite_f (by simp) (Ev.pure _)) (Nat.zero_le _)
  rcases h2 with ⟨rfl, h3⟩ | ⟨k, _, hk, hok, hj, rfl⟩
  · refine ⟨-1, Ev.bind h1.ev (Ev.pure _), .inl ⟨rfl, ?_⟩⟩
    rw [List.all_eq_true]
    intro x hx
    obtain ⟨i, hi, rfl⟩ := List.getElem_of_mem hx
    have := h3 i (Nat.zero_le _) hi
    simpa [List.getElem?_eq_getElem hi] using this
  · obtain ⟨x, hx⟩ := get_lt hk
    simp only [hx] at hok
    refine ⟨(k : Int), Ev.bind h1.ev (Ev.pure _), .inr ⟨k, x, hk, rfl, hx, hok, fun j y hjk hy => ?_⟩⟩
    have := hj j (Nat.zero_le _) hjk
    simpa [hy] using this

theorem all_false {α : Type} {a : List α} {ok : α → Bool} {k : Nat} {x : α} (hx : a[k]? = some x) (hok : ok x = false) : a.all ok = false := by
  rw [← Bool.not_eq_true, List.all_eq_true]
  intro h
  rw [h x (List.mem_of_getElem? hx)] at hok
  cases hok

theorem contains_loop {α : Type} {a : List α} (hl : a.length ≤ maxLen) {f : Nat → α → Option Bool} {ok : α → Bool} (hf : ∀ x ∈ a, Ev (fun m => f m x) (!(ok x))) :
    Ev (fun m => ((iter (fun (s : (Int)) => (match s with | (x26) => (if (decide (x26 < (a.length : Int))) = true then (idx a x26).bind fun x61 => (f m x61).bind fun x80 => (if x80 = true then some (.inr (.inr x26)) else some (.inl ((W (x26 + (1 : Int)))))) else some (.inr (.inl ()))) : Option (((Int)) ⊕ ((Unit) ⊕ (Int))))) m ((0 : Int))).bind fun res52 => ctl (β := Unit) (ρ := Int) (τ := Int) res52 (fun _ => some ((-1 : Int))) (fun q => some (q))).bind fun x3 => some ((decide ((0 : Int) ≤ x3)))) (!(a.all ok)) := by
  obtain ⟨r, h1, h2⟩ := index_loop hl hf
  rcases h2 with ⟨rfl, h⟩ | ⟨k, x, hk, rfl, hx, hok, _⟩
  · rw [h]; exact Ev.bind h1 (Ev.pure _)
  · rw [all_false hx hok]; exact Ev.bind h1 (Ev.const (by simp))

/-- A search loop over a list, element by element. -/
theorem all_list {α : Type} {a : List α} {ok : α → Bool} {x y : Bool} {h : Nat → Bool} (hh : ∀ k, h k = match a[k]? with | none => true | some x => ok x) : (if ∀ k, k < a.length → h k = true then x else y) = if a.all ok = true then x else y := by
  have : (∀ k, k < a.length → h k = true) ↔ a.all ok = true := by
    rw [List.all_eq_true]
    constructor
    · intro hk x hx
      obtain ⟨i, hi, rfl⟩ := List.getElem_of_mem hx
      have := hk i hi
      rw [hh] at this
      simpa [List.getElem?_eq_getElem hi] using this
    · intro hx k hk
      rw [hh, List.getElem?_eq_getElem hk]
      exact hx _ (List.getElem_mem hk)
  by_cases hc : a.all ok = true
  · rw [if_pos (this.2 hc), if_pos hc]
  · rw [if_neg (fun h' => hc (this.1 h')), if_neg hc]

/-- A loop that hangs one new element on for each. -/
theorem append_map {α β ρ : Type} {step : Nat → List β × Int → Option ((List β × Int) ⊕ (List β ⊕ ρ))} (a : List α) (f : α → β)
    (hs : ∀ (k : Nat) (x : α), a[k]? = some x → Ev (fun m => step m ((a.take k).map f, (k : Int))) (.inl ((a.take k).map f ++ [f x], ((k + 1 : Nat) : Int))))
    (hn : ∀ xs, Ev (fun m => step m (xs, (a.length : Int))) (.inr (.inl xs))) : EvI step ([], 0) (.inl (a.map f)) := by
  refine Exists.elim (EvI.count (step := step) a.length (fun k (_ : Unit) => ((a.take k).map f, (k : Int))) (fun _ _ => True) (fun r => r = .inl (a.map f)) (fun k t hk _ => .inl ⟨(), ?_, trivial⟩) (fun t _ => ⟨_, hn _, by simp⟩) (k := 0) (t := ()) (Nat.zero_le _) trivial)
    (fun res ⟨h1, h2⟩ => by subst h2; exact h1)
  obtain ⟨x, hx⟩ := get_lt hk
  have e : (a.take (k + 1)).map f = (a.take k).map f ++ [f x] := by rw [List.take_add_one, hx, List.map_append]; rfl
  rw [e]
  exact hs k x hx

/-- A counting loop that always ends with b. -/
theorem EvI.upto {σ β τ : Type} {step : Nat → σ → Option (σ ⊕ β)} {s : σ} {b : β} (n : Nat) (enc : Nat → τ → σ) (I : Nat → τ → Prop) {k : Nat} {t : τ} (hs0 : s = enc k t) (hk : k ≤ n) (h : I k t)
    (hs : ∀ k t, k < n → I k t → ∃ t', Ev (fun m => step m (enc k t)) (.inl (enc (k + 1) t')) ∧ I (k + 1) t') (hn : ∀ t, I n t → Ev (fun m => step m (enc n t)) (.inr b)) : EvI step s b := by
  obtain ⟨r, h1, h2⟩ := EvI.count (step := step) n enc I (fun r => r = b) (fun k t hk hI => .inl (hs k t hk hI)) (fun t hI => ⟨b, hn t hI, rfl⟩) hk h
  subst h2; subst hs0
  exact h1
end Go.Gx
