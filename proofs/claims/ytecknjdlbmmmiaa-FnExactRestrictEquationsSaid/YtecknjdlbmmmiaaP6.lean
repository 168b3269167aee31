/-
  Statement 6 in plain words: the models of the law on plays of games.
-/
import Derived.Test.YtecknjdlbmmmiaaF0
import Derived.Test.YtecknjdlbmmmiaaF1
import Derived.Test.YtecknjdlbmmmiaaF3
import Derived.Test.YtecknjdlbmmmiaaF4
import Derived.Test.YtecknjdlbmmmiaaF5
import Derived.Test.YtecknjdlbmmmiaaF6
import Derived.Test.YtecknjdlbmmmiaaLIsWinningStrategy
import Derived.Test.YtecknjdlbmmmiaaP5
namespace Go.Proofs.Ytecknjdlbmmmiaa
open Go.Gx

/-! ### places in a list -/
def pos (xs : List Int) (c : Int) : Int := match xs.findIdx? (· == c) with
  | some k => (k : Int)
  | none => -1

theorem pos_of {xs : List Int} {c r : Int} (h : (r = -1 ∧ xs.all (fun x => !(x == c)) = true) ∨ ∃ k x, k < xs.length ∧ r = (k : Int) ∧ xs[k]? = some x ∧ (!(x == c)) = false ∧ ∀ j y, j < k → xs[j]? = some y → (!(y == c)) = true) : r = pos xs c := by
  unfold pos
  rcases h with ⟨rfl, h⟩ | ⟨k, x, hk, rfl, hx, hc, hj⟩
  · have : xs.findIdx? (· == c) = none := by
      rw [List.findIdx?_eq_none_iff]
      intro x hx
      rw [List.all_eq_true] at h
      simpa using h x hx
    rw [this]
  · have : xs.findIdx? (· == c) = some k := by
      rw [List.findIdx?_eq_some_iff_getElem]
      refine ⟨hk, ?_, fun j hjk => ?_⟩
      · have : xs[k] = x := by rw [List.getElem?_eq_getElem hk] at hx; exact Option.some.inj hx
        rw [this]; simpa using hc
      · have := hj j xs[j] hjk (List.getElem?_eq_getElem (by omega))
        simpa using this
    rw [this]

theorem pos_ge {xs : List Int} {c : Int} : 0 ≤ pos xs c ↔ c ∈ xs := by
  unfold pos
  cases h : xs.findIdx? (· == c) with
  | none =>
    rw [List.findIdx?_eq_none_iff] at h
    constructor
    · intro h'; exact absurd h' (by decide)
    · intro hc; have := h c hc; simp at this
  | some k =>
    obtain ⟨hk, h1, _⟩ := List.findIdx?_eq_some_iff_getElem.1 h
    constructor
    · intro _
      have : xs[k] = c := by simpa using h1
      exact this ▸ List.getElem_mem hk
    · intro _; simp
theorem pos_lt {xs : List Int} {c : Int} : pos xs c < xs.length := by
  unfold pos
  cases h : xs.findIdx? (· == c) with
  | none => show (-1 : Int) < xs.length; omega
  | some k =>
    obtain ⟨hk, _⟩ := List.findIdx?_eq_some_iff_getElem.1 h
    show (k : Int) < xs.length; omega

theorem index_ints {xs : List Int} {c : Int} (hl : xs.length ≤ maxLen) : Ev (fun m => slices_Index__int64_int64_m m xs c) (pos xs c) := by
  obtain ⟨r, h1, h2⟩ := index_loop hl (f := fun _ x => some (c == x)) (ok := fun x => !(x == c)) (fun x _ => Ev.const (by rw [Bool.not_not, Bool.beq_comm]))
  rw [pos_of h2] at h1
  exact h1
theorem place_ints {xs : List Int} {c : Int} (hl : xs.length ≤ maxLen) : Ev (fun m => spec_l11Place_m m xs c) (pos xs c) := by
  obtain ⟨r, h1, h2⟩ := index_loop hl (f := fun _ x => some (x == c)) (ok := fun x => !(x == c)) (fun x _ => Ev.const (by simp))
  rw [pos_of h2] at h1
  exact h1
theorem has_ints {xs : List Int} {c : Int} (hl : xs.length ≤ maxLen) : Ev (fun m => spec_l00Has_m m xs c) (decide (c ∈ xs)) := by
  have hm := maxLen_le
  unfold spec_l00Has_m
  refine (Ev.all (step := _) xs.length (fun k => match xs[k]? with | none => true | some x => !(x == c)) true false (fun k hk hok => Ev.const' fun m => ?_) (fun k hk hok => Ev.const' fun m => ?_) (Ev.ite_f (by simp) (Ev.pure _))).eq ?_
  · obtain ⟨x, hx⟩ := get_lt hk
    simp only [hx] at hok
    simp only [decide_eq_true (show (k : Int) < (xs.length : Int) by omega), if_true, idx_at hx, Option.bind_some, W_succ hk (by omega)]
    simp at hok; simp [hok]
  · obtain ⟨x, hx⟩ := get_lt hk
    simp only [hx] at hok
    simp only [decide_eq_true (show (k : Int) < (xs.length : Int) by omega), if_true, idx_at hx, Option.bind_some]
    simp at hok; simp [hok]
  · rw [all_list (ok := fun x => !(x == c)) (fun k => by cases xs[k]? <;> rfl)]
    by_cases h : c ∈ xs
    · have : xs.all (fun x => !(x == c)) = false := by
        obtain ⟨i, hi, rfl⟩ := List.getElem_of_mem h
        exact all_false (List.getElem?_eq_getElem hi) (by simp)
      rw [this]; simp [h]
    · have : xs.all (fun x => !(x == c)) = true := by
        rw [List.all_eq_true]
        intro x hx
        have : x ≠ c := fun e => h (e ▸ hx)
        simp [this]
      rw [this]; simp [h]
theorem contains_ints {xs : List Int} {c : Int} (hl : xs.length ≤ maxLen) : Ev (fun m => slices_Contains__int64_int64_m m xs c) (decide (c ∈ xs)) :=
  Ev.eq (Ev.bind (index_ints hl) (Ev.pure _)) (by rw [decide_eq_decide]; exact pos_ge)

/-! ### games -/
def okVx (n : Int) (x : Timpl_Vertex) : Bool := (decide (0 ≤ x.1) && decide (x.1 ≤ 1)) && ((decide (0 ≤ x.2.1) && decide (x.2.1 ≤ 9)) && rises x.2.2 n)
def validG (a : List Timpl_Vertex) : Bool := decide (1 ≤ a.length ∧ a.length ≤ 120) && a.all (okVx (W ((a.length : Int) - 1)))

theorem validG_impl {a : List Timpl_Vertex} (hl : a.length ≤ 1048576) (g : ∀ x ∈ a, x.2.2.length ≤ 1048576) : Ev (fun m => impl_ValidGame_m m a) (validG a) := by
  have hm : maxLen = 9223372036854775807 := by unfold maxLen; rfl
  unfold impl_ValidGame_m validG
  simp only [within_eq, Option.bind_some]
  have hfind : Ev (fun m => slices_ContainsFunc__impl_Vertex_impl_Vertex_m m a (fun (z0 : Timpl_Vertex) => impl_ValidGame_1_m m z0 a)) (!(a.all (okVx (W ((a.length : Int) - 1))))) := by
    refine contains_loop (by omega) (f := fun m z0 => impl_ValidGame_1_m m z0 a) (fun x hx => ?_)
    have hi := increasing_law (xs := x.2.2) (n := (a.length : Int)) (by have := g x hx; omega)
    unfold impl_ValidGame_1_m okVx
    simp only [within_eq, Option.bind_some]
    cases (decide (0 ≤ x.1) && decide (x.1 ≤ 1)) with
    | false => exact Ev.bind (a := true) (Ev.pure _) (Ev.bind (a := true) (Ev.ite_t rfl (Ev.pure _)) (Ev.pure _))
    | true =>
      cases (decide (0 ≤ x.2.1) && decide (x.2.1 ≤ 9)) with
      | false => exact Ev.bind (a := true) (Ev.pure _) (Ev.bind (a := true) (Ev.ite_t rfl (Ev.pure _)) (Ev.pure _))
      | true => exact Ev.bind (a := false) (Ev.pure _) (Ev.bind (Ev.ite_f (by simp) (Ev.bind hi (Ev.pure _))) (Ev.pure _))
  by_cases h1 : 1 ≤ a.length ∧ a.length ≤ 120
  · refine Ev.eq (Ev.ite_f (by simp; omega) (Ev.bind hfind (Ev.pure _))) ?_
    simp [h1]
  · refine Ev.eq (Ev.ite_t (by simp; omega) (Ev.pure _)) ?_
    simp; omega

theorem validG_spec {a : List Timpl_Vertex} (hl : a.length ≤ 1048576) (g : ∀ x ∈ a, x.2.2.length ≤ 1048576) : Ev (fun m => spec_l23Is_m m a) (validG a) := by
  have hm : maxLen = 9223372036854775807 := by unfold maxLen; rfl
  unfold spec_l23Is_m validG
  by_cases h1 : 1 ≤ a.length ∧ a.length ≤ 120
  · refine Ev.bind (a := false) (Ev.const (by rw [or_some, show ((a.length : Int) == 0) = false from by rw [beq_eq_false_iff_ne]; omega, show decide ((120 : Int) < a.length) = false from decide_eq_false (by omega)]; rfl)) (Ev.ite_f (by simp) ?_)
    have key : ∀ (k : Nat) (x : Timpl_Vertex), a[k]? = some x → ∀ {A B : Option (Int ⊕ (Unit ⊕ Bool))} {r}, (if (!okVx (W ((a.length : Int) - 1)) x) = true then A else B) = some r → Ev (fun m => (idx a (k : Int)).bind fun x183 => (spec_l00In_m m x183.1 (0 : Int) (1 : Int)).bind fun x200 => (if (!x200) = true then some true else (idx a (k : Int)).bind fun x206 => (spec_l00In_m m x206.2.1 (0 : Int) (9 : Int)).bind fun x223 => some (!x223)).bind fun t203 => (if t203 = true then some true else (idx a (k : Int)).bind fun x229 => (spec_l00Rises_m m x229.2.2 (0 : Int) (W ((a.length : Int) - (1 : Int)))).bind fun x246 => some (!x246)).bind fun t226 => (if t226 = true then A else B)) r := by
      intro k x hx A B r hr
      have hi := rises_spec (xs := x.2.2) (n := W ((a.length : Int) - 1)) (by have := g x (List.mem_of_getElem? hx); omega)
      simp only [idx_at hx, Option.bind_some, l00In_eq]
      revert hr
      unfold okVx
      cases (decide (0 ≤ x.1) && decide (x.1 ≤ 1)) with
      | false => exact fun hr => Ev.bind (a := true) (Ev.pure _) (Ev.bind (a := true) (Ev.ite_t rfl (Ev.pure _)) (Ev.const hr))
      | true =>
        cases (decide (0 ≤ x.2.1) && decide (x.2.1 ≤ 9)) with
        | false => exact fun hr => Ev.bind (a := true) (Ev.pure _) (Ev.bind (a := true) (Ev.ite_t rfl (Ev.pure _)) (Ev.const hr))
        | true => exact fun hr => Ev.bind (a := false) (Ev.pure _) (Ev.bind (Ev.ite_f (by simp) (Ev.bind hi (Ev.pure _))) (Ev.const hr))
    refine (Ev.all (step := _) a.length (fun k => match a[k]? with | none => true | some x => okVx (W ((a.length : Int) - 1)) x) false true (fun k hk hok => ?_) (fun k hk hok => ?_) (Ev.ite_f (by simp) (Ev.pure _))).eq ?_
    · obtain ⟨x, hx⟩ := get_lt hk
      simp only [hx] at hok
      exact Ev.ite_t (decide_eq_true (by omega)) (key k x hx (by rw [hok, W_succ hk (by omega)]; rfl))
    · obtain ⟨x, hx⟩ := get_lt hk
      simp only [hx] at hok
      exact Ev.ite_t (decide_eq_true (by omega)) (key k x hx (by rw [hok]; rfl))
    · rw [all_list (ok := okVx (W ((a.length : Int) - 1))) (fun k => by cases a[k]? <;> rfl)]
      rw [decide_eq_true (by omega), Bool.true_and]
      cases a.all (okVx (W ((a.length : Int) - 1))) <;> rfl
  · refine Ev.bind (a := true) (Ev.const (by rw [or_some, show ((a.length : Int) == 0 || decide ((120 : Int) < a.length)) = true from by rw [Bool.or_eq_true, beq_iff_eq, decide_eq_true_eq]; omega])) (Ev.eq (Ev.ite_t rfl (Ev.pure _)) ?_)
    rw [decide_eq_false h1, Bool.false_and]

/-! ### choices -/
def okCh (x : Timpl_Vertex) (c : Int) : Bool := if x.2.2.length = 0 then c == -1 else decide (c ∈ x.2.2)
def chAt (a : List Timpl_Vertex) (cs : List Int) (k : Nat) : Bool := match a[k]?, cs[k]? with | some x, some c => okCh x c | _, _ => true
def okChs (a : List Timpl_Vertex) (cs : List Int) : Bool := (cs.length == a.length) && decide (∀ k, k < a.length → chAt a cs k = true)

/-! ### the play -/
theorem pos_neg {xs : List Int} {c : Int} (h : ¬ 0 ≤ pos xs c) : pos xs c = -1 := by
  unfold pos at h ⊢
  cases hf : xs.findIdx? (· == c) with
  | none => rfl
  | some k => rw [hf] at h; exact absurd (Int.natCast_nonneg k) h

theorem nodup_len : ∀ (n : Nat) (l : List Int), l.Nodup → (∀ v ∈ l, 0 ≤ v ∧ v < (n : Int)) → l.length ≤ n
  | 0, l, _, h => by
    cases l with
    | nil => exact Nat.le_refl _
    | cons x l => have := h x (by simp); omega
  | n + 1, l, hd, h => by
    by_cases hm : (n : Int) ∈ l
    · have h1 := nodup_len n (l.erase (n : Int)) (hd.erase _) (fun v hv => by
        have h2 := (hd.mem_erase_iff).1 hv
        have h3 := h v h2.2
        have h4 : v ≠ (n : Int) := h2.1
        omega)
      rw [List.length_erase_of_mem hm] at h1
      omega
    · have h1 := nodup_len n l hd (fun v hv => by
        have h3 := h v hv
        have h4 : v ≠ (n : Int) := fun e => hm (e ▸ hv)
        omega)
      omega

theorem play_loop {R : Type} {n : Nat} {sstep : Nat → List Int → Option (List Int ⊕ (Empty ⊕ R))} {istep : Nat → List Int × Int × Int → Option ((List Int × Int × Int) ⊕ ((List Int × Int) ⊕ R))} {post : Nat → List Int → Int → Option R}
    {nxt : Int → Int} {fin : List Int → R} {cyc : List Int → Int → R}
    (hn : ∀ k : Int, 0 ≤ k → k < (n : Int) → nxt k < (n : Int))
    (s1 : ∀ pre k, (∀ v ∈ pre ++ [k], 0 ≤ v ∧ v < (n : Int)) → (pre ++ [k]).length ≤ n → nxt k < 0 → Ev (fun m => sstep m (pre ++ [k])) (.inr (.inr (fin (pre ++ [k])))))
    (s2 : ∀ pre k, (∀ v ∈ pre ++ [k], 0 ≤ v ∧ v < (n : Int)) → (pre ++ [k]).length ≤ n → 0 ≤ nxt k → 0 ≤ pos (pre ++ [k]) (nxt k) → Ev (fun m => sstep m (pre ++ [k])) (.inr (.inr (cyc (pre ++ [k]) (pos (pre ++ [k]) (nxt k))))))
    (s3 : ∀ pre k, (∀ v ∈ pre ++ [k], 0 ≤ v ∧ v < (n : Int)) → (pre ++ [k]).length ≤ n → 0 ≤ nxt k → ¬ 0 ≤ pos (pre ++ [k]) (nxt k) → Ev (fun m => sstep m (pre ++ [k])) (.inl (pre ++ [k] ++ [nxt k])))
    (i1 : ∀ pre k, (∀ v ∈ pre ++ [k], 0 ≤ v ∧ v < (n : Int)) → (pre ++ [k]).length ≤ n → nxt k < 0 → Ev (fun m => istep m (pre, -1, k)) (.inr (.inr (fin (pre ++ [k])))))
    (i2 : ∀ pre k, (∀ v ∈ pre ++ [k], 0 ≤ v ∧ v < (n : Int)) → (pre ++ [k]).length ≤ n → 0 ≤ nxt k → Ev (fun m => istep m (pre, -1, k)) (.inl (pre ++ [k], pos (pre ++ [k]) (nxt k), nxt k)))
    (i3 : ∀ xs ag k, 0 ≤ ag → Ev (fun m => istep m (xs, ag, k)) (.inr (.inl (xs, ag))))
    (hp : ∀ path ag, (∀ v ∈ path, 0 ≤ v ∧ v < (n : Int)) → path.length ≤ n → 0 ≤ ag → ag < path.length → Ev (fun m => post m path ag) (cyc path ag)) :
    ∀ (j : Nat) (pre : List Int) (k : Int), n ≤ pre.length + j → (∀ v ∈ pre ++ [k], 0 ≤ v ∧ v < (n : Int)) → (pre ++ [k]).Nodup →
      ∃ r, (∃ path, path.length ≤ n ∧ (∀ v ∈ path, 0 ≤ v ∧ v < (n : Int)) ∧ (r = fin path ∨ ∃ ag, r = cyc path ag)) ∧ EvI sstep (pre ++ [k]) (.inr r) ∧ (EvI istep (pre, -1, k) (.inr r) ∨ ∃ xs ag, EvI istep (pre, -1, k) (.inl (xs, ag)) ∧ Ev (fun m => post m xs ag) r) := by
  intro j
  induction j with
  | zero =>
    intro pre k hj hr hd
    have := nodup_len n _ hd hr
    simp at this; omega
  | succ j ih =>
    intro pre k hj hr hd
    have hle := nodup_len n _ hd hr
    have hk := hr k (by simp)
    by_cases h1 : nxt k < 0
    · exact ⟨_, ⟨pre ++ [k], hle, hr, .inl rfl⟩, EvI.stop (s1 pre k hr hle h1), .inl (EvI.stop (i1 pre k hr hle h1))⟩
    · have h1' : 0 ≤ nxt k := by omega
      by_cases h2 : 0 ≤ pos (pre ++ [k]) (nxt k)
      · exact ⟨_, ⟨pre ++ [k], hle, hr, .inr ⟨_, rfl⟩⟩, EvI.stop (s2 pre k hr hle h1' h2), .inr ⟨_, _, EvI.go (i2 pre k hr hle h1') (EvI.stop (i3 _ _ _ h2)), hp _ _ hr hle h2 pos_lt⟩⟩
      · have hnew : nxt k ∉ pre ++ [k] := fun hm => h2 (pos_ge.2 hm)
        obtain ⟨r, e0, e1, e2⟩ := ih (pre ++ [k]) (nxt k) (by simp; omega) (fun v hv => by
          rcases List.mem_append.1 hv with hv | hv
          · exact hr v hv
          · rw [List.mem_singleton] at hv; subst hv; exact ⟨h1', hn k hk.1 hk.2⟩) (by
          rw [List.nodup_append]
          refine ⟨hd, by simp, fun x hx y hy => ?_⟩
          rw [List.mem_singleton] at hy
          exact fun e => hnew (by rw [← hy, ← e]; exact hx))
        have hi := i2 pre k hr hle h1'
        rw [pos_neg h2] at hi
        refine ⟨r, e0, EvI.go (s3 pre k hr hle h1' h2) e1, ?_⟩
        rcases e2 with e2 | ⟨xs, ag, e2, e3⟩
        · exact .inl (EvI.go hi e2)
        · exact .inr ⟨xs, ag, EvI.go hi e2, e3⟩
end Go.Proofs.Ytecknjdlbmmmiaa
