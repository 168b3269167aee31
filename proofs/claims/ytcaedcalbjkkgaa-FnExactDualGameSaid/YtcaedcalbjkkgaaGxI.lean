/-
  Tables: lists that hold a function's values at the places below n. Loops whose result one function fixes.
-/
import Derived.Test.YtcaedcalbjkkgaaGxU
namespace Go.Gx

def tab {α : Type} (n : Nat) (f : Int → α) : List α := (List.range n).map fun (k : Nat) => f (k : Int)
def upd {α : Type} (f : Int → α) (v : Int) (x : α) : Int → α := fun w => if w = v then x else f w
theorem upd_eq {α : Type} (f : Int → α) (v : Int) (x : α) : upd f v x v = x := if_pos rfl
theorem upd_ne {α : Type} {f : Int → α} {v w : Int} {x : α} (h : w ≠ v) : upd f v x w = f w := if_neg h
theorem tab_len {α : Type} (n : Nat) (f : Int → α) : (tab n f).length = n := by simp [tab]
theorem tab_get {α : Type} {n : Nat} {f : Int → α} {k : Nat} (h : k < n) : (tab n f)[k]? = some (f (k : Int)) := by simp [tab, h]
theorem tab_at {α : Type} {n : Nat} {f : Int → α} {v : Int} (h0 : 0 ≤ v) (h : v < (n : Int)) : idx (tab n f) v = some (f v) := by
  have := idx_at (tab_get (f := f) (k := v.toNat) (n := n) (by omega))
  rwa [show ((v.toNat : Nat) : Int) = v by omega] at this
theorem tab_congr {α : Type} {n : Nat} {f g : Int → α} (h : ∀ v, 0 ≤ v → v < (n : Int) → f v = g v) : tab n f = tab n g := by
  unfold tab
  refine List.map_congr_left fun k hk => h _ (by omega) ?_
  have := List.mem_range.1 hk
  omega
theorem tab_inj {α : Type} {n : Nat} {f g : Int → α} (h : tab n f = tab n g) {v : Int} (h0 : 0 ≤ v) (h1 : v < (n : Int)) : f v = g v := by
  have a := tab_at (f := f) h0 h1
  have b := tab_at (f := g) h0 h1
  rw [h, b] at a
  exact (Option.some.inj a).symm
theorem tab_set {α : Type} {n : Nat} {f : Int → α} {v : Int} {x : α} (h0 : 0 ≤ v) : (tab n f).set v.toNat x = tab n (upd f v x) := by
  refine List.ext_getElem? fun i => ?_
  by_cases hi : i < n
  · by_cases hv : v.toNat = i
    · subst hv
      rw [List.getElem?_set_self (by rw [tab_len]; exact hi), tab_get hi, show ((v.toNat : Nat) : Int) = v by omega, upd_eq]
    · rw [List.getElem?_set_ne hv, tab_get hi, tab_get hi, upd_ne (by omega)]
  · rw [List.getElem?_eq_none (by rw [List.length_set, tab_len]; omega), List.getElem?_eq_none (by rw [tab_len]; omega)]
theorem tab_const {α : Type} (n : Nat) (c : α) : List.replicate n c = tab n fun _ => c := by
  refine List.ext_getElem? fun i => ?_
  by_cases hi : i < n
  · rw [tab_get hi, List.getElem?_replicate, if_pos hi]
  · rw [List.getElem?_eq_none (by rw [List.length_replicate]; omega), List.getElem?_eq_none (by rw [tab_len]; omega)]
theorem tab_succ {α : Type} (n : Nat) (f : Int → α) : tab (n + 1) f = tab n f ++ [f (n : Int)] := by simp [tab, List.range_succ]
theorem tab_count {α : Type} {p : α → Bool} {f : Int → α} {x : α} : ∀ {n : Nat} {v : Int}, 0 ≤ v → v < (n : Int) → p (f v) = true → p x = false → (tab n (upd f v x)).countP p + 1 = (tab n f).countP p
  | 0, v, h0, h, _, _ => by omega
  | n + 1, v, h0, h, hp, hx => by
    rw [tab_succ, tab_succ, List.countP_append, List.countP_append]
    by_cases hv : v = (n : Int)
    · subst hv
      have e : tab n (upd f (n : Int) x) = tab n f := tab_congr fun w h1 h2 => upd_ne (by omega)
      rw [e, upd_eq]
      simp [hp, hx]
    · rw [upd_ne (fun e => hv e.symm)]
      have := tab_count (n := n) (v := v) h0 (by omega) hp hx
      omega
theorem tab_count_le {α : Type} {p : α → Bool} {f : Int → α} {n : Nat} : (tab n f).countP p ≤ n := by
  have := List.countP_le_length (p := p) (l := tab n f)
  rwa [tab_len] at this
theorem trues_tab {n : Nat} {f : Int → Bool} : trues (tab n f) = below n fun k => f (k : Int) := by
  rw [trues_eq, tab_len]
  unfold below
  congr 1
  refine List.filter_congr fun k hk => ?_
  rw [tab_get (List.mem_range.1 hk)]
  cases f (k : Int) <;> rfl

theorem upfold_ind {τ : Type} {g : Nat → τ → τ} (I : Nat → τ → Prop) (n : Nat) {s : τ} (h0 : I 0 s) (h : ∀ i s, i < n → I i s → I (i + 1) (g i s)) : I n (upfold g n s) := by
  induction n with
  | zero => exact h0
  | succ n ih => rw [upfold_succ]; exact h n _ (by omega) (ih fun i s hi => h i s (by omega))

theorem EvI.foldI {σ β τ : Type} {step : Nat → σ → Option (σ ⊕ β)} (n : Nat) (enc : τ → Nat → σ) (g : Nat → τ → τ) (I : Nat → τ → Prop) (out : τ → β) {s0 : τ} {s1 : σ} {b : β} (hs1 : s1 = enc s0 0) (hb : out (upfold g n s0) = b) (h0 : I 0 s0) (hI : ∀ i s, i < n → I i s → I (i + 1) (g i s))
    (hs : ∀ i s, i < n → I i s → Ev (fun m => step m (enc s i)) (.inl (enc (g i s) (i + 1)))) (hn : ∀ s, I n s → Ev (fun m => step m (enc s n)) (.inr (out s))) : EvI step s1 b := by
  subst hs1; subst hb
  refine EvI.upto n (fun k (_ : Unit) => enc (upfold g k s0) k) (fun k _ => k ≤ n) (k := 0) (t := ()) rfl (Nat.zero_le _) (Nat.zero_le _) (fun k t hk _ => ⟨(), ?_, by omega⟩) (fun t _ => hn _ (upfold_ind I n h0 hI))
  rw [upfold_succ]
  exact hs k _ hk (upfold_ind I k h0 fun i s hi => hI i s (by omega))

/-- A loop whose states one function fixes. -/
theorem EvI.det {τ : Type} (next : τ → Option τ) (I : τ → Prop) (μ : τ → Nat) (hI : ∀ s s', I s → next s = some s' → I s' ∧ μ s' < μ s) {s0 : τ} (h0 : I s0) :
    ∃ r, I r ∧ next r = none ∧ ∀ {σ β : Type} {step : Nat → σ → Option (σ ⊕ β)} (enc : τ → σ) (out : τ → β),
      (∀ s s', I s → next s = some s' → Ev (fun m => step m (enc s)) (.inl (enc s'))) → (∀ s, I s → next s = none → Ev (fun m => step m (enc s)) (.inr (out s))) → EvI step (enc s0) (out r) := by
  have key : ∀ k s, μ s ≤ k → I s → ∃ r, I r ∧ next r = none ∧ ∀ {σ β : Type} {step : Nat → σ → Option (σ ⊕ β)} (enc : τ → σ) (out : τ → β),
      (∀ s s', I s → next s = some s' → Ev (fun m => step m (enc s)) (.inl (enc s'))) → (∀ s, I s → next s = none → Ev (fun m => step m (enc s)) (.inr (out s))) → EvI step (enc s) (out r) := by
    intro k
    induction k with
    | zero =>
      intro s hk hs
      cases hn : next s with
      | none => exact ⟨s, hs, hn, fun enc out _ h2 => EvI.stop (h2 s hs hn)⟩
      | some s' => have := (hI s s' hs hn).2; omega
    | succ k ih =>
      intro s hk hs
      cases hn : next s with
      | none => exact ⟨s, hs, hn, fun enc out _ h2 => EvI.stop (h2 s hs hn)⟩
      | some s' =>
        obtain ⟨a, b⟩ := hI s s' hs hn
        obtain ⟨r, h1, h2, h3⟩ := ih s' (by omega) a
        exact ⟨r, h1, h2, fun enc out q1 q2 => EvI.go (q1 s s' hs hn) (h3 enc out q1 q2)⟩
  exact key _ s0 (Nat.le_refl _) h0

/-- A loop that writes every place of a table. -/
theorem EvI.fill {α ρ : Type} {step : Nat → List α × Int → Option ((List α × Int) ⊕ (List α ⊕ ρ))} (n : Nat) (f g : Int → α)
    (hs : ∀ (k : Nat) (f : Int → α), k < n → Ev (fun m => step m (tab n f, (k : Int))) (.inl (tab n (upd f (k : Int) (g (k : Int))), ((k + 1 : Nat) : Int)))) (hn : ∀ xs, Ev (fun m => step m (xs, (n : Int))) (.inr (.inl xs))) :
    EvI step (tab n f, 0) (.inl (tab n g)) := by
  refine EvI.upto n (fun k (f : Int → α) => (tab n f, (k : Int))) (fun k f' => ∀ v, 0 ≤ v → v < (k : Int) → f' v = g v) (k := 0) (t := f) rfl (Nat.zero_le _) (fun v h0 h1 => by omega) (fun k f' hk hI => ⟨_, hs k f' hk, fun v h0 h1 => ?_⟩) (fun f' hI => (hn _).eq (by rw [tab_congr hI]))
  by_cases hv : v = (k : Int)
  · rw [hv, upd_eq]
  · rw [upd_ne hv]; exact hI v h0 (by omega)

/-- A loop that writes one value at listed places. -/
theorem EvI.puts {α ρ : Type} {step : Nat → List α × Int → Option ((List α × Int) ⊕ (List α ⊕ ρ))} {n : Nat} (fr : List Int) (c : α) (f : Int → α)
    (hs : ∀ (k : Nat) (v : Int) (f : Int → α), fr[k]? = some v → Ev (fun m => step m (tab n f, (k : Int))) (.inl (tab n (upd f v c), ((k + 1 : Nat) : Int)))) (hn : ∀ xs, Ev (fun m => step m (xs, (fr.length : Int))) (.inr (.inl xs))) :
    EvI step (tab n f, 0) (.inl (tab n fun v => if v ∈ fr then c else f v)) := by
  refine EvI.upto fr.length (fun k (f : Int → α) => (tab n f, (k : Int))) (fun k f' => ∀ v, f' v = if v ∈ fr.take k then c else f v) (k := 0) (t := f) rfl (Nat.zero_le _) (fun v => by simp) (fun k f' hk hI => ?_) (fun f' hI => (hn _).eq ?_)
  · obtain ⟨x, hx⟩ := get_lt hk
    refine ⟨_, hs k x f' hx, fun v => ?_⟩
    rw [List.take_add_one, hx]
    by_cases hv : v = x
    · rw [hv, upd_eq, if_pos (by simp)]
    · rw [upd_ne hv, hI v]
      have : v ∈ List.take k fr ++ (some x).toList ↔ v ∈ List.take k fr := by simp [hv]
      simp only [this]
  · rw [tab_congr fun v _ _ => hI v, List.take_length]
end Go.Gx
