/-
  Plain laws about the models: what a model yields with enough fuel.
-/
import Derived.Test.YtcaedcalbjkkgaaGxM
namespace Go.Gx

/-- With enough fuel the model yields r. -/
def Ev {α : Type} (f : Nat → Option α) (r : α) : Prop := ∃ n, ∀ m, n ≤ m → f m = some r

theorem Ev.one {α : Type} {f : Nat → Option α} {r : α} (h : Ev f r) : ∃ n, f n = some r := by obtain ⟨n, h⟩ := h; exact ⟨n, h n (Nat.le_refl _)⟩
theorem Ev.pure {α : Type} (r : α) : Ev (fun _ => some r) r := ⟨0, fun _ _ => rfl⟩
theorem Ev.const {α : Type} {x : Option α} {r : α} (h : x = some r) : Ev (fun _ => x) r := ⟨0, fun _ _ => h⟩
theorem Ev.const' {α : Type} {f : Nat → Option α} {r : α} (h : ∀ m, f m = some r) : Ev f r := ⟨0, fun m _ => h m⟩
theorem Ev.bind {α β : Type} {f : Nat → Option α} {g : Nat → α → Option β} {a : α} {r : β} (h : Ev f a) (h' : Ev (fun n => g n a) r) : Ev (fun n => (f n).bind (g n)) r := by
  obtain ⟨n, h⟩ := h
  obtain ⟨n', h'⟩ := h'
  refine ⟨max n n', fun m hm => ?_⟩
  show (f m).bind (g m) = _
  rw [h m (by omega)]
  exact h' m (by omega)
theorem Ev.bindc {α β : Type} {x : Option α} {g : Nat → α → Option β} {a : α} {r : β} (h : x = some a) (h' : Ev (fun n => g n a) r) : Ev (fun n => x.bind (g n)) r := Ev.bind (Ev.const h) h'
theorem Ev.ite {α : Type} {c : Prop} [Decidable c] {f g : Nat → Option α} {r : α} (h1 : c → Ev f r) (h2 : ¬ c → Ev g r) : Ev (fun n => if c then f n else g n) r := by
  by_cases hc : c
  · simp only [if_pos hc]; exact h1 hc
  · simp only [if_neg hc]; exact h2 hc
theorem Ev.ite_t {α : Type} {c : Prop} [Decidable c] {f g : Nat → Option α} {r : α} (hc : c) (h1 : Ev f r) : Ev (fun n => if c then f n else g n) r := Ev.ite (fun _ => h1) (fun h => absurd hc h)
theorem Ev.ite_f {α : Type} {c : Prop} [Decidable c] {f g : Nat → Option α} {r : α} (hc : ¬ c) (h2 : Ev g r) : Ev (fun n => if c then f n else g n) r := Ev.ite (fun h => absurd h hc) (fun _ => h2)
theorem Ev.eq {α : Type} {f : Nat → Option α} {r r' : α} (h : Ev f r) (e : r = r') : Ev f r' := e ▸ h
theorem Ev.uniq {α : Type} {f : Nat → Option α} {r r' : α} (h : Ev f r) (h' : Ev f r') : r = r' := by
  obtain ⟨n, h⟩ := h
  obtain ⟨n', h'⟩ := h'
  have := h (max n n') (by omega)
  rw [h' _ (by omega)] at this
  exact (Option.some.inj this).symm

theorem Ev.iter_stop {σ β : Type} {step : Nat → σ → Option (σ ⊕ β)} {s : σ} {b : β} (h : Ev (fun n => step n s) (.inr b)) : Ev (fun n => iter (step n) n s) b := by
  obtain ⟨n, h⟩ := h
  refine ⟨n + 1, fun m hm => ?_⟩
  obtain ⟨m, rfl⟩ : ∃ k, m = k + 1 := ⟨m - 1, by omega⟩
  simp [iter, h (m + 1) (by omega)]

/-- Runs of a loop whose step is fixed by a number, apart from the number of turns left. -/
def EvI {σ β : Type} (step : Nat → σ → Option (σ ⊕ β)) (s : σ) (b : β) : Prop := ∃ n, ∀ m k, n ≤ m → n ≤ k → iter (step m) k s = some b

theorem EvI.ev {σ β : Type} {step : Nat → σ → Option (σ ⊕ β)} {s : σ} {b : β} (h : EvI step s b) : Ev (fun n => iter (step n) n s) b := by
  obtain ⟨n, h⟩ := h
  exact ⟨n, fun m hm => h m m hm hm⟩
theorem EvI.stop {σ β : Type} {step : Nat → σ → Option (σ ⊕ β)} {s : σ} {b : β} (h : Ev (fun n => step n s) (.inr b)) : EvI step s b := by
  obtain ⟨n, h⟩ := h
  refine ⟨n + 1, fun m k hm hk => ?_⟩
  obtain ⟨k, rfl⟩ : ∃ j, k = j + 1 := ⟨k - 1, by omega⟩
  simp [iter, h m (by omega)]
theorem EvI.go {σ β : Type} {step : Nat → σ → Option (σ ⊕ β)} {s s' : σ} {b : β} (h : Ev (fun n => step n s) (.inl s')) (h' : EvI step s' b) : EvI step s b := by
  obtain ⟨n, h⟩ := h
  obtain ⟨n', h'⟩ := h'
  refine ⟨max n n' + 1, fun m k hm hk => ?_⟩
  obtain ⟨k, rfl⟩ : ∃ j, k = j + 1 := ⟨k - 1, by omega⟩
  simp [iter, h m (by omega)]
  exact h' m k (by omega) (by omega)

/-- A loop by a measure and an invariant: it ends, and what it ends with is as said. -/
theorem EvI.inv {σ β : Type} {step : Nat → σ → Option (σ ⊕ β)} (I : σ → Prop) (μ : σ → Nat) (Post : β → Prop)
    (hs : ∀ s, I s → (∃ s', Ev (fun n => step n s) (.inl s') ∧ I s' ∧ μ s' < μ s) ∨ (∃ b, Ev (fun n => step n s) (.inr b) ∧ Post b)) {s : σ} (h : I s) : ∃ b, EvI step s b ∧ Post b := by
  have key : ∀ k s, μ s ≤ k → I s → ∃ b, EvI step s b ∧ Post b := by
    intro k
    induction k with
    | zero =>
      intro s hk hI
      rcases hs s hI with ⟨s', _, _, h3⟩ | ⟨b, h1, h2⟩
      · omega
      · exact ⟨b, EvI.stop h1, h2⟩
    | succ k ih =>
      intro s hk hI
      rcases hs s hI with ⟨s', h1, h2, h3⟩ | ⟨b, h1, h2⟩
      · obtain ⟨b, h4, h5⟩ := ih s' (by omega) h2
        exact ⟨b, EvI.go h1 h4, h5⟩
      · exact ⟨b, EvI.stop h1, h2⟩
  exact key _ s (Nat.le_refl _) h

/-- A loop that counts from k up to n: the states are 'enc k t'. -/
theorem EvI.count {σ β τ : Type} {step : Nat → σ → Option (σ ⊕ β)} (n : Nat) (enc : Nat → τ → σ) (I : Nat → τ → Prop) (Post : β → Prop)
    (hs : ∀ k t, k < n → I k t → (∃ t', Ev (fun m => step m (enc k t)) (.inl (enc (k + 1) t')) ∧ I (k + 1) t') ∨ (∃ b, Ev (fun m => step m (enc k t)) (.inr b) ∧ Post b))
    (hn : ∀ t, I n t → ∃ b, Ev (fun m => step m (enc n t)) (.inr b) ∧ Post b) {k : Nat} {t : τ} (hk : k ≤ n) (h : I k t) : ∃ b, EvI step (enc k t) b ∧ Post b := by
  have key : ∀ j k t, k + j = n → I k t → ∃ b, EvI step (enc k t) b ∧ Post b := by
    intro j
    induction j with
    | zero =>
      intro k t hk hI
      obtain rfl : k = n := by omega
      obtain ⟨b, h1, h2⟩ := hn t hI
      exact ⟨b, EvI.stop h1, h2⟩
    | succ j ih =>
      intro k t hk hI
      rcases hs k t (by omega) hI with ⟨t', h1, h2⟩ | ⟨b, h1, h2⟩
      · obtain ⟨b, h4, h5⟩ := ih (k + 1) t' (by omega) h2
        exact ⟨b, EvI.go h1 h4, h5⟩
      · exact ⟨b, EvI.stop h1, h2⟩
  exact key (n - k) k t (by omega) h

/-! ### words -/
theorem W_of {n : Int} (h1 : -9223372036854775808 ≤ n) (h2 : n ≤ 9223372036854775807) : W n = n := by
  unfold W IntKind.wrap
  simp [IntKind.signed, IntKind.bits]
  omega
theorem idx_at {α : Type} {xs : List α} {k : Nat} {x : α} (h : xs[k]? = some x) : idx xs (k : Int) = some x := by
  unfold idx
  simp [h]
theorem idx_set {α : Type} {xs : List α} {k : Nat} {y : α} (h : k < xs.length) : idx (xs.set k y) (k : Int) = some y := idx_at (by rw [List.getElem?_set_self h])
theorem app_ok {α : Type} {xs ys : List α} (h : xs.length + ys.length ≤ 1099511627776) : app xs ys = some (xs ++ ys) := by simp [app, h]
theorem mks_ok {α : Type} {n : Nat} {z : α} (h : n ≤ 1099511627776) : mks (n : Int) z = some (List.replicate n z) := by
  unfold mks
  rw [if_pos (by omega)]
  simp
theorem W_succ {k n : Nat} (h : k < n) (hn : n ≤ 9223372036854775807) : W ((k : Int) + 1) = ((k + 1 : Nat) : Int) := by rw [W_of (by omega) (by omega)]; rfl
theorem W_pred {k n : Nat} (h : k < n) (hn : n ≤ 9223372036854775807) : W (((k + 1 : Nat) : Int) - 1) = (k : Int) := by rw [W_of (by omega) (by omega)]; omega
theorem get_lt {α : Type} {xs : List α} {k : Nat} (h : k < xs.length) : ∃ x, xs[k]? = some x := ⟨xs[k], List.getElem?_eq_getElem h⟩
theorem ctl_l {β ρ τ : Type} (b : β) (k : β → Option τ) (ret : ρ → Option τ) : ctl (.inl b) k ret = k b := rfl
theorem ctl_r {β ρ τ : Type} (b : ρ) (k : β → Option τ) (ret : ρ → Option τ) : ctl (.inr b) k ret = ret b := rfl
/-- What stands behind a search loop. -/
theorem Ev.ctl_ite {ρ τ : Type} {c : Prop} [Decidable c] {r : ρ} {k : Unit → Option τ} {ret : ρ → Option τ} {x y : τ} (h1 : k () = some x) (h2 : ret r = some y) :
    Ev (fun _ => ctl (β := Unit) (ρ := ρ) (τ := τ) (if c then .inl () else .inr r) k ret) (if c then x else y) := by
  refine Ev.const ?_
  split
  · exact h1
  · exact h2
end Go.Gx
