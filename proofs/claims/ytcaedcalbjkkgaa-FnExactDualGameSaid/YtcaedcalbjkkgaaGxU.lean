/-
  More plain laws: what callees yield, put to use; loops until nothing changes; the library's small loops.
-/
import Derived.Test.YtcaedcalbjkkgaaGxR
import Derived.Test.YtcaedcalbjkkgaaGxT
namespace Go.Gx

/-- What a callee yields, put to use. -/
theorem Ev.use {α β : Type} {f : Nat → Option α} {g : Nat → Option β} {a : α} {r : β} (h : Ev f a) (k : ∀ m, f m = some a → g m = some r) : Ev g r := by
  obtain ⟨n, h⟩ := h
  exact ⟨n, fun m hm => k m (h m hm)⟩
theorem Ev.and {α β : Type} {f : Nat → Option α} {g : Nat → Option β} {a : α} {b : β} (h : Ev f a) (h' : Ev g b) : ∃ n, ∀ m, n ≤ m → f m = some a ∧ g m = some b := by
  obtain ⟨n, h⟩ := h
  obtain ⟨n', h'⟩ := h'
  exact ⟨max n n', fun m hm => ⟨h m (by omega), h' m (by omega)⟩⟩
theorem Ev.use2 {α β γ : Type} {f : Nat → Option α} {g : Nat → Option β} {u : Nat → Option γ} {a : α} {b : β} {r : γ} (h : Ev f a) (h' : Ev g b) (k : ∀ m, f m = some a → g m = some b → u m = some r) : Ev u r := by
  obtain ⟨n, h⟩ := Ev.and h h'
  exact ⟨n, fun m hm => k m (h m hm).1 (h m hm).2⟩
theorem Ev.join {κ ρ : Type} {k : Nat → κ} {b : Nat → κ → Option ρ} {r : ρ} (h : Ev (fun m => b m (k m)) r) : Ev (fun m => Gx.join (k m) (b m)) r := h
theorem Ev.congr {α : Type} {f g : Nat → Option α} {r : α} (h : Ev f r) (e : ∀ m, g m = f m) : Ev g r := by
  obtain ⟨n, h⟩ := h
  exact ⟨n, fun m hm => (e m).trans (h m hm)⟩

/-- A loop that goes on until nothing changes: whatever carries it out ends with the same. -/
theorem EvI.until {σ : Type} (f : σ → σ × Bool) (I : σ → Prop) (μ : σ → Nat) (hI : ∀ s, I s → I (f s).1) (hμ : ∀ s, I s → (f s).2 = true → μ (f s).1 < μ s) {s : σ} (h : I s) :
    ∃ r, I r ∧ ∀ {ρ : Type} {step : Nat → σ × Bool → Option ((σ × Bool) ⊕ (σ ⊕ ρ))}, (∀ s, I s → Ev (fun m => step m (s, true)) (.inl (f s))) → (∀ s, I s → Ev (fun m => step m (s, false)) (.inr (.inl s))) → EvI step (s, true) (.inl r) := by
  have key : ∀ n s, μ s ≤ n → I s → ∃ r, I r ∧ ∀ {ρ : Type} {step : Nat → σ × Bool → Option ((σ × Bool) ⊕ (σ ⊕ ρ))}, (∀ s, I s → Ev (fun m => step m (s, true)) (.inl (f s))) → (∀ s, I s → Ev (fun m => step m (s, false)) (.inr (.inl s))) → EvI step (s, true) (.inl r) := by
    intro n
    induction n with
    | zero =>
      intro s hn h
      have hf : (f s).2 = false := by
        cases hb : (f s).2 with
        | false => rfl
        | true => have := hμ s h hb; omega
      refine ⟨(f s).1, hI s h, fun h1 h2 => ?_⟩
      refine EvI.go (h1 s h) ?_
      rw [show f s = ((f s).1, false) from by rw [← hf]]
      exact EvI.stop (h2 _ (hI s h))
    | succ n ih =>
      intro s hn h
      cases hb : (f s).2 with
      | false =>
        refine ⟨(f s).1, hI s h, fun h1 h2 => ?_⟩
        refine EvI.go (h1 s h) ?_
        rw [show f s = ((f s).1, false) from by rw [← hb]]
        exact EvI.stop (h2 _ (hI s h))
      | true =>
        obtain ⟨r, hr, hk⟩ := ih (f s).1 (by have := hμ s h hb; omega) (hI s h)
        refine ⟨r, hr, fun h1 h2 => ?_⟩
        refine EvI.go (h1 s h) ?_
        rw [show f s = ((f s).1, true) from by rw [← hb]]
        exact hk h1 h2
  exact key _ s (Nat.le_refl _) h

/-- The fold over the places below n. -/
def upfold {τ : Type} (g : Nat → τ → τ) (n : Nat) (s : τ) : τ := (List.range n).foldl (fun s i => g i s) s
theorem upfold_succ {τ : Type} (g : Nat → τ → τ) (n : Nat) (s : τ) : upfold g (n + 1) s = g n (upfold g n s) := by simp [upfold, List.range_succ]
theorem upfold_inv {τ : Type} {g : Nat → τ → τ} (I : τ → Prop) (n : Nat) {s : τ} (h0 : I s) (h : ∀ i s, i < n → I s → I (g i s)) : I (upfold g n s) := by
  induction n with
  | zero => exact h0
  | succ n ih => rw [upfold_succ]; exact h n _ (by omega) (ih fun i s hi => h i s (by omega))

/-- A loop over all places that folds. -/
theorem EvI.fold {σ β τ : Type} {step : Nat → σ → Option (σ ⊕ β)} (n : Nat) (enc : τ → Nat → σ) (g : Nat → τ → τ) (I : τ → Prop) (out : τ → β) {s0 : τ} {s1 : σ} {b : β} (hs1 : s1 = enc s0 0) (hb : out (upfold g n s0) = b) (h0 : I s0) (hI : ∀ i s, i < n → I s → I (g i s))
    (hs : ∀ i s, i < n → I s → Ev (fun m => step m (enc s i)) (.inl (enc (g i s) (i + 1)))) (hn : ∀ s, I s → Ev (fun m => step m (enc s n)) (.inr (out s))) : EvI step s1 b := by
  subst hs1; subst hb
  refine EvI.upto n (fun k (_ : Unit) => enc (upfold g k s0) k) (fun k _ => k ≤ n) (k := 0) (t := ()) rfl (Nat.zero_le _) (Nat.zero_le _) (fun k t hk _ => ⟨(), ?_, by omega⟩) (fun t _ => hn _ (upfold_inv I n h0 hI))
  rw [upfold_succ]
  exact hs k _ hk (upfold_inv I k h0 fun i s hi => hI i s (by omega))

theorem sub_ok {α : Type} {xs : List α} {lo hi : Nat} (h1 : lo ≤ hi) (h2 : hi ≤ xs.length) : sub xs (lo : Int) (hi : Int) = some ((xs.take hi).drop lo) := by
  unfold sub
  rw [if_pos (by omega)]
  simp
theorem sub_tail {α : Type} {x : α} {xs : List α} : sub (x :: xs) (1 : Int) ((x :: xs).length : Int) = some xs := by
  unfold sub
  rw [if_pos (by simp; omega)]
  simp

/-- Places of the true ones. -/
def trues (a : List Bool) : List Int := ((List.range a.length).filter fun k => a[k]? == some true).map fun k => ((k : Nat) : Int)
theorem trues_len (a : List Bool) : (trues a).length ≤ a.length := by
  unfold trues
  have := List.length_filter_le (fun k => a[k]? == some true) (List.range a.length)
  simpa using this
theorem mem_trues {a : List Bool} {v : Int} : v ∈ trues a ↔ ∃ k : Nat, v = k ∧ a[k]? = some true := by
  simp only [trues, List.mem_map, List.mem_filter, List.mem_range, beq_iff_eq]
  constructor
  · rintro ⟨k, ⟨_, h⟩, rfl⟩; exact ⟨k, rfl, h⟩
  · rintro ⟨k, rfl, h⟩; exact ⟨k, ⟨(List.getElem?_eq_some_iff.1 h).1, h⟩, rfl⟩

/-- A filter, place by place. -/
theorem filter_range_succ (p : Nat → Bool) (k : Nat) : (List.range (k + 1)).filter p = (List.range k).filter p ++ (if p k = true then [k] else []) := by
  rw [List.range_succ, List.filter_append]
  congr 1
  simp [List.filter_cons]

/-- A loop that hangs on the places where p holds. -/
theorem EvI.places {ρ : Type} {step : Nat → List Int × Int → Option ((List Int × Int) ⊕ (List Int ⊕ ρ))} (n : Nat) (p : Nat → Bool)
    (hs : ∀ k (xs : List Int), k < n → xs.length ≤ k → Ev (fun m => step m (xs, (k : Int))) (.inl (if p k = true then xs ++ [(k : Int)] else xs, ((k + 1 : Nat) : Int)))) (hn : ∀ xs : List Int, Ev (fun m => step m (xs, (n : Int))) (.inr (.inl xs))) :
    EvI step ([], 0) (.inl (((List.range n).filter p).map fun k => ((k : Nat) : Int))) := by
  refine EvI.upto n (fun k (_ : Unit) => (((List.range k).filter p).map fun k => ((k : Nat) : Int), (k : Int))) (fun _ _ => True) (k := 0) (t := ()) rfl (Nat.zero_le _) trivial (fun k t hk _ => ⟨(), ?_, trivial⟩) (fun t _ => hn _)
  refine (hs k _ hk (by have := List.length_filter_le p (List.range k); simpa using this)).eq ?_
  rw [filter_range_succ]
  split <;> simp

/-- Elements that are kept. -/
theorem EvI.filter {α ρ : Type} {step : Nat → List α × Int → Option ((List α × Int) ⊕ (List α ⊕ ρ))} (a : List α) (p : α → Bool)
    (hs : ∀ (k : Nat) (x : α) (xs : List α), a[k]? = some x → xs.length ≤ k → Ev (fun m => step m (xs, (k : Int))) (.inl (if p x = true then xs ++ [x] else xs, ((k + 1 : Nat) : Int)))) (hn : ∀ xs : List α, Ev (fun m => step m (xs, (a.length : Int))) (.inr (.inl xs))) :
    EvI step ([], 0) (.inl (a.filter p)) := by
  refine EvI.upto a.length (fun k (_ : Unit) => ((a.take k).filter p, (k : Int))) (fun _ _ => True) (k := 0) (t := ()) (by simp) (Nat.zero_le _) trivial (fun k t hk _ => ⟨(), ?_, trivial⟩) (fun t _ => (hn _).eq (by simp))
  obtain ⟨x, hx⟩ := get_lt hk
  refine (hs k x _ hx (by have := List.length_filter_le p (a.take k); simp at this; omega)).eq ?_
  rw [List.take_add_one, hx, List.filter_append]
  cases hp : p x <;> simp [hp]

/-- slices.DeleteFunc, behind the first that goes. -/
theorem delete_loop {α ρ : Type} {step : Nat → List α × Int × Int → Option ((List α × Int × Int) ⊕ ((List α × Int) ⊕ ρ))} {a : List α} {ok : α → Bool} {i0 : Nat} (h0 : i0 < a.length) (hm : a.length ≤ maxLen)
    (hpre : ∀ j y, j < i0 → a[j]? = some y → ok y = true) (hi0 : ∀ y, a[i0]? = some y → ok y = false)
    (hs : ∀ (xs : List α) (i j : Nat) (x : α), xs.length = a.length → j < a.length → i < j → xs[j]? = some x → x ∈ a → Ev (fun m => step m (xs, (i : Int), (j : Int))) (.inl (if ok x = true then (xs.set i x, ((i + 1 : Nat) : Int), ((j + 1 : Nat) : Int)) else (xs, (i : Int), ((j + 1 : Nat) : Int)))))
    (hn : ∀ (xs : List α) (i : Nat), xs.length = a.length → Ev (fun m => step m (xs, (i : Int), (a.length : Int))) (.inr (.inl (xs, (i : Int))))) :
    ∃ xs, EvI step (a, (i0 : Int), W ((i0 : Int) + 1)) (.inl (xs, ((a.filter ok).length : Int))) ∧ xs.length = a.length ∧ xs.take (a.filter ok).length = a.filter ok := by
  have hml := maxLen_le
  rw [W_succ h0 (by omega)]
  have key : ∀ d j i (xs : List α), j + d = a.length → i < j → xs.length = a.length → i = ((a.take j).filter ok).length → xs.take i = (a.take j).filter ok → (∀ q, j ≤ q → xs[q]? = a[q]?) →
      ∃ ys, EvI step (xs, (i : Int), (j : Int)) (.inl (ys, ((a.filter ok).length : Int))) ∧ ys.length = a.length ∧ ys.take (a.filter ok).length = a.filter ok := by
    intro d
    induction d with
    | zero =>
      intro j i xs hj hij hl hi ht _
      obtain rfl : j = a.length := by omega
      rw [List.take_length] at hi ht
      exact ⟨xs, EvI.stop ((hn xs i hl).eq (by rw [hi])), hl, by rw [← hi]; exact ht⟩
    | succ d ih =>
      intro j i xs hj hij hl hi ht hq
      obtain ⟨x, hx⟩ := get_lt (xs := a) (k := j) (by omega)
      have hxs : xs[j]? = some x := by rw [hq j (Nat.le_refl _)]; exact hx
      have hstep := hs xs i j x hl (by omega) hij hxs (List.mem_of_getElem? hx)
      have htk : (a.take (j + 1)).filter ok = (a.take j).filter ok ++ (if ok x = true then [x] else []) := by
        rw [List.take_add_one, hx, List.filter_append]
        cases hp : ok x <;> simp [hp]
      cases hok : ok x with
      | true =>
        rw [hok] at hstep htk
        simp only [if_true] at hstep htk
        obtain ⟨ys, e1, e2⟩ := ih (j + 1) (i + 1) (xs.set i x) (by omega) (by omega) (by simpa using hl) (by rw [htk]; simp [hi]) (by
          rw [htk, List.take_add_one, List.getElem?_set_self (by omega), List.take_set_of_le (Nat.le_refl _), ht]; rfl) (fun q h => by rw [List.getElem?_set_ne (by omega)]; exact hq q (by omega))
        exact ⟨ys, EvI.go hstep e1, e2⟩
      | false =>
        rw [hok] at hstep htk
        simp only [Bool.false_eq_true, if_false, List.append_nil] at hstep htk
        obtain ⟨ys, e1, e2⟩ := ih (j + 1) i xs (by omega) (by omega) hl (by rw [htk]; exact hi) (by rw [htk]; exact ht) (fun q h => hq q (by omega))
        exact ⟨ys, EvI.go hstep e1, e2⟩
  obtain ⟨x, hx⟩ := get_lt h0
  have hpf : (a.take i0).filter ok = a.take i0 := by
    rw [List.filter_eq_self]
    intro y hy
    obtain ⟨k, hk, rfl⟩ := List.getElem_of_mem hy
    have hk' : k < i0 := by simp at hk; omega
    exact hpre k _ hk' (by rw [List.getElem_take]; exact List.getElem?_eq_getElem _)
  have htk : (a.take (i0 + 1)).filter ok = a.take i0 := by
    rw [List.take_add_one, hx, List.filter_append, hpf]
    simp [hi0 x hx]
  exact key (a.length - (i0 + 1)) (i0 + 1) i0 a (by omega) (by omega) rfl (by rw [htk]; simp; omega) (by rw [htk]) (fun _ _ => rfl)

/-! ### increasing lists, sorting -/
theorem inc_ext : ∀ {l l' : List Int}, l.Pairwise (· < ·) → l'.Pairwise (· < ·) → (∀ v, v ∈ l ↔ v ∈ l') → l = l'
  | [], [], _, _, _ => rfl
  | [], y :: l', _, _, h => by have := (h y).2 (by simp); cases this
  | x :: l, [], _, _, h => by have := (h x).1 (by simp); cases this
  | x :: l, y :: l', h1, h2, h => by
    have p1 := List.pairwise_cons.1 h1
    have p2 := List.pairwise_cons.1 h2
    have hxy : x = y := by
      have hx := (h x).1 (by simp)
      have hy := (h y).2 (by simp)
      rcases List.mem_cons.1 hx with e | hx
      · exact e
      rcases List.mem_cons.1 hy with e | hy
      · exact e.symm
      have a1 := p2.1 x hx
      have a2 := p1.1 y hy
      omega
    subst hxy
    rw [inc_ext p1.2 p2.2 fun v => ?_]
    constructor
    · intro hv
      rcases List.mem_cons.1 ((h v).1 (by simp [hv])) with e | hv'
      · have := p1.1 v hv; omega
      · exact hv'
    · intro hv
      rcases List.mem_cons.1 ((h v).2 (by simp [hv])) with e | hv'
      · have := p2.1 v hv; omega
      · exact hv'

abbrev srt (l : List Int) : List Int := l.mergeSort fun x y => decide (x ≤ y)
theorem srt_perm (l : List Int) : (srt l).Perm l := List.mergeSort_perm _ _
theorem srt_len (l : List Int) : (srt l).length = l.length := (srt_perm l).length_eq
theorem mem_srt {l : List Int} {v : Int} : v ∈ srt l ↔ v ∈ l := (srt_perm l).mem_iff
theorem srt_le (l : List Int) : (srt l).Pairwise (· ≤ ·) := by
  have := List.pairwise_mergeSort (le := fun x y : Int => decide (x ≤ y)) (fun a b c h1 h2 => by simp at *; omega) (fun a b => by simp; omega) l
  exact this.imp (fun h => by simpa using h)
theorem lt_of_le_nodup : ∀ {l : List Int}, l.Pairwise (· ≤ ·) → l.Nodup → l.Pairwise (· < ·)
  | [], _, _ => List.Pairwise.nil
  | x :: l, h, hn => by
    have p := List.pairwise_cons.1 h
    have q := List.nodup_cons.1 hn
    refine List.pairwise_cons.2 ⟨fun y hy => ?_, lt_of_le_nodup p.2 q.2⟩
    have := p.1 y hy
    have : x ≠ y := fun e => q.1 (e ▸ hy)
    omega
theorem srt_lt {l : List Int} (h : l.Nodup) : (srt l).Pairwise (· < ·) := lt_of_le_nodup (srt_le l) ((srt_perm l).nodup_iff.2 h)

/-- The numbers below n that are as asked. -/
def below (n : Nat) (p : Nat → Bool) : List Int := ((List.range n).filter p).map fun k => ((k : Nat) : Int)
theorem below_lt (n : Nat) (p : Nat → Bool) : (below n p).Pairwise (· < ·) := by
  unfold below
  rw [List.pairwise_map]
  exact (List.pairwise_lt_range.filter _).imp (fun h => by omega)
theorem mem_below {n : Nat} {p : Nat → Bool} {v : Int} : v ∈ below n p ↔ ∃ k : Nat, v = k ∧ k < n ∧ p k = true := by
  simp only [below, List.mem_map, List.mem_filter, List.mem_range]
  constructor
  · rintro ⟨k, ⟨h1, h2⟩, rfl⟩; exact ⟨k, rfl, h1, h2⟩
  · rintro ⟨k, rfl, h1, h2⟩; exact ⟨k, ⟨h1, h2⟩, rfl⟩
theorem below_len (n : Nat) (p : Nat → Bool) : (below n p).length ≤ n := by
  have := List.length_filter_le p (List.range n)
  simpa [below] using this
theorem srt_eq {l m : List Int} (hl : l.Nodup) (hm : m.Pairwise (· < ·)) (h : ∀ v, v ∈ l ↔ v ∈ m) : srt l = m := inc_ext (srt_lt hl) hm fun v => by rw [mem_srt]; exact h v
theorem srt_below {l : List Int} {n : Nat} (hl : l.Nodup) (hr : ∀ v ∈ l, 0 ≤ v ∧ v < (n : Int)) : srt l = below n fun k => decide ((k : Int) ∈ l) :=
  srt_eq hl (below_lt _ _) fun v => by
    rw [mem_below]
    constructor
    · intro hv; have := hr v hv; exact ⟨v.toNat, by omega, by omega, decide_eq_true (by rwa [show ((v.toNat : Nat) : Int) = v by omega])⟩
    · rintro ⟨k, rfl, _, h⟩; simpa using h
theorem trues_eq (a : List Bool) : trues a = below a.length fun k => a[k]? == some true := rfl
theorem trues_lt (a : List Bool) : (trues a).Pairwise (· < ·) := below_lt _ _

/-- A list of numbers below n without repetition is no longer than n. -/
theorem nodup_below : ∀ (n : Nat) (l : List Int), l.Nodup → (∀ v ∈ l, 0 ≤ v ∧ v < (n : Int)) → l.length ≤ n := by
  intro n l hn hr
  have h1 := srt_below hn hr
  have h2 := srt_len l
  rw [h1] at h2
  have := below_len n fun k => decide ((k : Int) ∈ l)
  omega

/-! ### what can be reached: lists that grow -/
def visits (l ns : List Int) : List Int := ns.foldl (fun l v => if v ∈ l then l else l ++ [v]) l
theorem rev_ind {α : Type} {p : List α → Prop} (h0 : p []) (h1 : ∀ l x, p l → p (l ++ [x])) (l : List α) : p l := by
  rw [← List.reverse_reverse l]
  induction l.reverse with
  | nil => exact h0
  | cons x m ih => rw [List.reverse_cons]; exact h1 _ x ih
theorem visits_nil (l : List Int) : visits l [] = l := rfl
theorem visits_snoc (l ns : List Int) (v : Int) : visits l (ns ++ [v]) = if v ∈ visits l ns then visits l ns else visits l ns ++ [v] := by unfold visits; rw [List.foldl_append]; rfl
theorem visits_take (l ns : List Int) (k : Nat) {v : Int} (h : ns[k]? = some v) : visits l (ns.take (k + 1)) = if v ∈ visits l (ns.take k) then visits l (ns.take k) else visits l (ns.take k) ++ [v] := by
  rw [List.take_add_one, h]; exact visits_snoc _ _ _
theorem mem_visits {l : List Int} : ∀ {ns : List Int} {v : Int}, v ∈ visits l ns ↔ v ∈ l ∨ v ∈ ns := by
  intro ns
  refine rev_ind (p := fun ns => ∀ {v : Int}, v ∈ visits l ns ↔ v ∈ l ∨ v ∈ ns) (by simp [visits]) (fun ns x ih => ?_) ns
  · intro v
    rw [visits_snoc]
    split
    · rename_i hx
      rw [ih] at hx ⊢
      simp only [List.mem_append, List.mem_singleton]
      constructor
      · rintro (h | h)
        · exact .inl h
        · exact .inr (.inl h)
      · rintro (h | h | rfl)
        · exact .inl h
        · exact .inr h
        · exact hx
    · simp only [List.mem_append, List.mem_singleton, ih]
      exact ⟨by rintro ((h | h) | h) <;> simp [h], by rintro (h | h | h) <;> simp [h]⟩
theorem visits_nodup {l : List Int} (h : l.Nodup) : ∀ ns : List Int, (visits l ns).Nodup := by
  intro ns
  refine rev_ind (p := fun ns => (visits l ns).Nodup) h (fun ns x ih => ?_) ns
  · rw [visits_snoc]
    split
    · exact ih
    · rename_i hx
      exact List.nodup_append.2 ⟨ih, by simp, fun a ha b hb e => by simp at hb; subst hb; subst e; exact hx ha⟩
theorem visits_prefix (l : List Int) : ∀ ns : List Int, ∃ t, visits l ns = l ++ t := by
  intro ns
  refine rev_ind (p := fun ns => ∃ t, visits l ns = l ++ t) ⟨[], by simp [visits]⟩ (fun ns x ih => ?_) ns
  · obtain ⟨t, ht⟩ := ih
    rw [visits_snoc]
    split
    · exact ⟨t, ht⟩
    · exact ⟨t ++ [x], by rw [ht]; simp⟩

structure OkL (n : Nat) (l : List Int) : Prop where
  nodup : l.Nodup
  range : ∀ v ∈ l, 0 ≤ v ∧ v < (n : Int)
theorem OkL.len {n : Nat} {l : List Int} (h : OkL n l) : l.length ≤ n := nodup_below n l h.nodup h.range
theorem OkL.visits {n : Nat} {l ns : List Int} (h : OkL n l) (hn : ∀ v ∈ ns, 0 ≤ v ∧ v < (n : Int)) : OkL n (visits l ns) := ⟨visits_nodup h.nodup ns, fun v hv => by
  rcases mem_visits.1 hv with h' | h'
  · exact h.range v h'
  · exact hn v h'⟩

/-- A list that grows by what its elements lead to, place by place: whatever carries it out ends with the same. -/
theorem EvI.work (succ : Int → List Int) (n : Nat) (hsucc : ∀ u, 0 ≤ u → u < (n : Int) → ∀ v ∈ succ u, 0 ≤ v ∧ v < (n : Int)) {l0 : List Int} (h0 : OkL n l0) :
    ∃ L, OkL n L ∧ (∀ u ∈ l0, u ∈ L) ∧ (∀ u ∈ L, ∀ v ∈ succ u, v ∈ L) ∧ (∀ S : Int → Prop, (∀ u ∈ l0, S u) → (∀ u, S u → ∀ v ∈ succ u, S v) → ∀ u ∈ L, S u) ∧
      ∀ {σ β : Type} {step : Nat → σ → Option (σ ⊕ β)} (enc : List Int → Nat → σ) (out : List Int → β),
        (∀ l i u, OkL n l → l[i]? = some u → Ev (fun m => step m (enc l i)) (.inl (enc (visits l (succ u)) (i + 1)))) → (∀ l, OkL n l → Ev (fun m => step m (enc l l.length)) (.inr (out l))) → EvI step (enc l0 0) (out L) := by
  have key : ∀ d i l, i + d = n → i ≤ l.length → OkL n l → (∀ u ∈ l0, u ∈ l) → (∀ j u, j < i → l[j]? = some u → ∀ v ∈ succ u, v ∈ l) → (∀ S : Int → Prop, (∀ u ∈ l0, S u) → (∀ u, S u → ∀ v ∈ succ u, S v) → ∀ u ∈ l, S u) →
      ∃ L, OkL n L ∧ (∀ u ∈ l0, u ∈ L) ∧ (∀ u ∈ L, ∀ v ∈ succ u, v ∈ L) ∧ (∀ S : Int → Prop, (∀ u ∈ l0, S u) → (∀ u, S u → ∀ v ∈ succ u, S v) → ∀ u ∈ L, S u) ∧
      ∀ {σ β : Type} {step : Nat → σ → Option (σ ⊕ β)} (enc : List Int → Nat → σ) (out : List Int → β),
        (∀ l i u, OkL n l → l[i]? = some u → Ev (fun m => step m (enc l i)) (.inl (enc (visits l (succ u)) (i + 1)))) → (∀ l, OkL n l → Ev (fun m => step m (enc l l.length)) (.inr (out l))) → EvI step (enc l i) (out L) := by
    have done : ∀ i l, i = l.length → OkL n l → (∀ u ∈ l0, u ∈ l) → (∀ j u, j < i → l[j]? = some u → ∀ v ∈ succ u, v ∈ l) → (∀ S : Int → Prop, (∀ u ∈ l0, S u) → (∀ u, S u → ∀ v ∈ succ u, S v) → ∀ u ∈ l, S u) →
      ∃ L, OkL n L ∧ (∀ u ∈ l0, u ∈ L) ∧ (∀ u ∈ L, ∀ v ∈ succ u, v ∈ L) ∧ (∀ S : Int → Prop, (∀ u ∈ l0, S u) → (∀ u, S u → ∀ v ∈ succ u, S v) → ∀ u ∈ L, S u) ∧
      ∀ {σ β : Type} {step : Nat → σ → Option (σ ⊕ β)} (enc : List Int → Nat → σ) (out : List Int → β),
        (∀ l i u, OkL n l → l[i]? = some u → Ev (fun m => step m (enc l i)) (.inl (enc (visits l (succ u)) (i + 1)))) → (∀ l, OkL n l → Ev (fun m => step m (enc l l.length)) (.inr (out l))) → EvI step (enc l i) (out L) := by
      rintro i l rfl hok hsub hcl hmin
      refine ⟨l, hok, hsub, fun u hu v hv => ?_, hmin, fun enc out _ h2 => EvI.stop (h2 l hok)⟩
      obtain ⟨j, hj, rfl⟩ := List.getElem_of_mem hu
      exact hcl j _ hj (List.getElem?_eq_getElem hj) v hv
    intro d
    induction d with
    | zero =>
      intro i l hi hil hok hsub hcl hmin
      have := hok.len
      exact done i l (by omega) hok hsub hcl hmin
    | succ d ih =>
      intro i l hi hil hok hsub hcl hmin
      by_cases he : i = l.length
      · exact done i l he hok hsub hcl hmin
      obtain ⟨u, hu⟩ := get_lt (xs := l) (k := i) (by omega)
      have hum := List.mem_of_getElem? hu
      obtain ⟨t, ht⟩ := visits_prefix l (succ u)
      have hok' : OkL n (visits l (succ u)) := hok.visits (hsucc u (hok.range u hum).1 (hok.range u hum).2)
      obtain ⟨L, q1, q2, q3, q4, q5⟩ := ih (i + 1) (visits l (succ u)) (by omega) (by rw [ht]; simp; omega) hok' (fun v hv => mem_visits.2 (.inl (hsub v hv)))
        (fun j w hj hw v hv => by
          by_cases hji : j = i
          · subst hji
            have : (visits l (succ u))[j]? = some u := by rw [ht, List.getElem?_append_left (by omega)]; exact hu
            rw [this] at hw
            cases hw
            exact mem_visits.2 (.inr hv)
          · have hw' : l[j]? = some w := by rw [ht, List.getElem?_append_left (by omega)] at hw; exact hw
            exact mem_visits.2 (.inl (hcl j w (by omega) hw' v hv)))
        (fun S hS0 hS v hv => by
          rcases mem_visits.1 hv with h | h
          · exact hmin S hS0 hS v h
          · exact hS u (hmin S hS0 hS u hum) v h)
      exact ⟨L, q1, q2, q3, q4, fun enc out h1 h2 => EvI.go (h1 l i u hok hu) (q5 enc out h1 h2)⟩
  exact key n 0 l0 (by omega) (Nat.zero_le _) h0 (fun _ h => h) (fun j u hj => by omega) (fun S h _ => h)

/-- The marks of a list. -/
def marks (n : Nat) (l : List Int) : List Bool := (List.range n).map fun (k : Nat) => decide (((k : Nat) : Int) ∈ l)
theorem marks_len (n : Nat) (l : List Int) : (marks n l).length = n := by simp [marks]
theorem marks_at {n : Nat} {l : List Int} {v : Int} (h0 : 0 ≤ v) (h : v < (n : Int)) : idx (marks n l) v = some (decide (v ∈ l)) := by
  unfold idx marks
  rw [if_pos h0, List.getElem?_map, List.getElem?_range (by omega)]
  simp [show ((v.toNat : Nat) : Int) = v by omega]
theorem marks_snoc {n : Nat} {l : List Int} {v : Int} (h0 : 0 ≤ v) : (marks n l).set v.toNat true = marks n (l ++ [v]) := by
  apply List.ext_getElem?
  intro k
  rw [List.getElem?_set]
  by_cases hk : k < n
  · have h1 : (marks n l)[k]? = some (decide ((k : Int) ∈ l)) := by simp [marks, hk]
    have h2 : (marks n (l ++ [v]))[k]? = some (decide ((k : Int) ∈ l ++ [v])) := by simp [marks, hk]
    rw [h1, h2, marks_len]
    by_cases he : v.toNat = k
    · rw [if_pos he, if_pos (by omega)]; simp [show (k : Int) = v by omega]
    · rw [if_neg he]; simp [show ¬ (k : Int) = v by omega]
  · rw [List.getElem?_eq_none (by rw [marks_len]; omega), List.getElem?_eq_none (by rw [marks_len]; omega), marks_len]
    split <;> simp_all
theorem marks_nil (n : Nat) : marks n [] = List.replicate n false := by
  unfold marks
  apply List.ext_getElem <;> simp
theorem trues_marks {n : Nat} {l : List Int} : trues (marks n l) = below n fun k => decide ((k : Int) ∈ l) := by
  rw [trues_eq, marks_len]
  unfold below
  congr 1
  apply List.filter_congr
  intro k hk
  have : k < n := by simpa using hk
  simp [marks, this]
end Go.Gx
