/-
  The plain laws of a statement, joined into one text.
-/
import Derived.Test.YtecknjdlbmmmiaaF0
import Derived.Test.YtecknjdlbmmmiaaF1
import Derived.Test.YtecknjdlbmmmiaaF2
import Derived.Test.YtecknjdlbmmmiaaF3
import Derived.Test.YtecknjdlbmmmiaaF4
import Derived.Test.YtecknjdlbmmmiaaF5
import Derived.Test.YtecknjdlbmmmiaaF6
import Derived.Test.YtecknjdlbmmmiaaF7
import Derived.Test.YtecknjdlbmmmiaaFS
import Derived.Test.YtecknjdlbmmmiaaGxI
import Derived.Test.YtecknjdlbmmmiaaGxMx
import Derived.Test.YtecknjdlbmmmiaaGxP
import Derived.Test.YtecknjdlbmmmiaaGxU
import Derived.Test.YtecknjdlbmmmiaaLIsWinningStrategy
namespace Go.Proofs.Ytecknjdlbmmmiaa
open Go.Gx
/-! ### the law's helpers -/
abbrev GI : List Int → Prop := gList (gInt .i64)
theorem sz_ints {a : List Int} (g : GI a) {b : Int} (h0 : 0 ≤ b) (hb : b ≤ 1048576) : ∃ r, Ev (fun n => laws_szInt64S_m n a b) r ∧ Sz b r (a.length ≤ 1048576) := sz_leaf h0 hb g.1
theorem to_ints {a : List Int} (hl : a.length ≤ 1048576) : Ev (fun n => laws_toInt64S_m n a) a := by
  have := to_loop («to» := fun _ (x : Int) => some x) (f := id) (a := a) (z := 0) (fun x _ => Ev.pure x) hl
  rw [List.map_id] at this
  exact this
theorem eq_ints {a : List Int} (hl : a.length ≤ maxLen) : Ev (fun n => laws_eqInt64S_m n a a) true := eq_loop_ints hl
/-! ### rising lists -/
def okAt (xs : List Int) (n : Int) (k : Nat) : Bool := match xs[k]? with
  | none => true
  | some x => decide (0 ≤ x) && decide (x ≤ n) && (k == 0 || (match xs[k - 1]? with | none => true | some y => decide (y < x)))
def rises (xs : List Int) (n : Int) : Bool := decide (∀ k, k < xs.length → okAt xs n k = true)

theorem l00In_eq {n : Nat} {a b c : Int} : spec_l00In_m n a b c = some (decide (b ≤ a) && decide (a ≤ c)) := by
  unfold spec_l00In_m
  by_cases h : b ≤ a <;> simp [h]
theorem within_eq {n : Nat} {a b c : Int} : impl_within_m n a b c = some (decide (b ≤ a) && decide (a ≤ c)) := by
  unfold impl_within_m
  by_cases h : b ≤ a <;> simp [h]
theorem index_eq {n : Nat} {a b : Int} : impl_index_m n a b = some (decide (0 ≤ a) && decide (a ≤ W (b - 1))) := by
  unfold impl_index_m
  simp [within_eq]

theorem rises_spec {xs : List Int} (hl : xs.length ≤ maxLen) {n : Int} : Ev (fun m => spec_l00Rises_m m xs 0 n) (rises xs n) := by
  have hm := maxLen_le
  unfold spec_l00Rises_m
  refine (Ev.all xs.length (okAt xs n) false true (fun k hk hok => Ev.const' fun m => ?_) (fun k hk hok => Ev.const' fun m => ?_) (Ev.ite_f (by simp) (Ev.pure _))).eq (by unfold rises; split <;> simp_all)
  all_goals
    obtain ⟨x, hx⟩ := get_lt hk
    have w1 := W_succ hk (by omega)
    have hk' : decide ((k : Int) < (xs.length : Int)) = true := by simpa using hk
    simp only [hk', if_true, idx_at hx, l00In_eq, Option.bind_some]
    cases k with
    | zero => simp only [okAt, hx, w1] at hok ⊢; by_cases h1 : 0 ≤ x <;> by_cases h2 : x ≤ n <;> simp [h1, h2] at hok ⊢
    | succ j =>
      obtain ⟨y, hy⟩ := get_lt (xs := xs) (k := j) (by omega)
      have w2 := W_pred (k := j) (n := xs.length) (by omega) (by omega)
      simp only [okAt, hx, hy, w1, w2, idx_at hy, Option.bind_some, Nat.add_sub_cancel] at hok ⊢
      by_cases h1 : 0 ≤ x <;> by_cases h2 : x ≤ n <;> by_cases h3 : y < x <;> simp [h1, h2, h3] at hok ⊢

theorem increasing_law {xs : List Int} (hl : xs.length ≤ maxLen) {n : Int} : Ev (fun m => impl_increasing_m m xs n) (rises xs (W (n - 1))) := by
  have hm := maxLen_le
  unfold impl_increasing_m
  refine (Ev.all xs.length (okAt xs (W (n - 1))) false true (fun k hk hok => Ev.const' fun m => ?_) (fun k hk hok => Ev.const' fun m => ?_) (Ev.ite_f (by simp) (Ev.pure _))).eq (by unfold rises; split <;> simp_all)
  all_goals
    obtain ⟨x, hx⟩ := get_lt hk
    have w1 := W_succ hk (by omega)
    have hk' : decide ((k : Int) < (xs.length : Int)) = true := by simpa using hk
    simp only [hk', if_true, idx_at hx, index_eq, Option.bind_some]
    generalize W (n - 1) = n at *
    cases k with
    | zero => simp only [okAt, hx, w1] at hok ⊢; by_cases h1 : 0 ≤ x <;> by_cases h2 : x ≤ n <;> simp [h1, h2] at hok ⊢
    | succ j =>
      obtain ⟨y, hy⟩ := get_lt (xs := xs) (k := j) (by omega)
      have w2 := W_pred (k := j) (n := xs.length) (by omega) (by omega)
      simp only [okAt, hx, hy, w1, w2, idx_at hy, Option.bind_some, Nat.add_sub_cancel] at hok ⊢
      by_cases h1 : 0 ≤ x <;> by_cases h2 : x ≤ n <;> by_cases h3 : y < x <;> simp [h1, h2, h3] at hok ⊢

theorem own_ints {a : List Int} (hl : a.length ≤ 1048576) : Ev (fun m => spec_l00Own_m m a) a := Ev.bindc (app_ok (by simp; omega)) (Ev.pure _)
/-! ### places in a list -/
def pos (xs : List Int) (c : Int) : Int := match xs.findIdx? (· == c) with
  | some k => (k : Int)
  | none => -1

theorem pos_of {xs : List Int} {c r : Int} (h : (r = -1 ∧ xs.all (fun x => !(x == c)) = true) ∨ ∃ k x, k < xs.length ∧ r = (k : Int) ∧ xs[k]? = some x ∧ (!(x == c)) = false ∧ ∀ j y, j < k → xs[j]? = some y → (!(y == c)) = true) : r = pos xs c := by
  unfold pos
  rcases h with ⟨rfl, h⟩ | ⟨k, x, hk, rfl, hx, hc, hj⟩
  · have : xs.findIdx? (· == c) = none := by
      rw [List.findIdx?_eq_none_iff]
      intro x hx
      rw [List.all_eq_true] at h
      simpa using h x hx
    rw [this]
  · have : xs.findIdx? (· == c) = some k := by
      rw [List.findIdx?_eq_some_iff_getElem]
      refine ⟨hk, ?_, fun j hjk => ?_⟩
      · have : xs[k] = x := by rw [List.getElem?_eq_getElem hk] at hx; exact Option.some.inj hx
        rw [this]; simpa using hc
      · have := hj j xs[j] hjk (List.getElem?_eq_getElem (by omega))
        simpa using this
    rw [this]

theorem pos_ge {xs : List Int} {c : Int} : 0 ≤ pos xs c ↔ c ∈ xs := by
  unfold pos
  cases h : xs.findIdx? (· == c) with
  | none =>
    rw [List.findIdx?_eq_none_iff] at h
    constructor
    · intro h'; exact absurd h' (by decide)
    · intro hc; have := h c hc; simp at this
  | some k =>
    obtain ⟨hk, h1, _⟩ := List.findIdx?_eq_some_iff_getElem.1 h
    constructor
    · intro _
      have : xs[k] = c := by simpa using h1
      exact this ▸ List.getElem_mem hk
    · intro _; simp
theorem index_ints {xs : List Int} {c : Int} (hl : xs.length ≤ maxLen) : Ev (fun m => slices_Index__int64_int64_m m xs c) (pos xs c) := by
  obtain ⟨r, h1, h2⟩ := index_loop hl (f := fun _ x => some (c == x)) (ok := fun x => !(x == c)) (fun x _ => Ev.const (by rw [Bool.not_not, Bool.beq_comm]))
  rw [pos_of h2] at h1
  exact h1
theorem has_ints {xs : List Int} {c : Int} (hl : xs.length ≤ maxLen) : Ev (fun m => spec_l00Has_m m xs c) (decide (c ∈ xs)) := by
  have hm := maxLen_le
  unfold spec_l00Has_m
  refine (Ev.all (step := _) xs.length (fun k => match xs[k]? with | none => true | some x => !(x == c)) true false (fun k hk hok => Ev.const' fun m => ?_) (fun k hk hok => Ev.const' fun m => ?_) (Ev.ite_f (by simp) (Ev.pure _))).eq ?_
  · obtain ⟨x, hx⟩ := get_lt hk
    simp only [hx] at hok
    simp only [decide_eq_true (show (k : Int) < (xs.length : Int) by omega), if_true, idx_at hx, Option.bind_some, W_succ hk (by omega)]
    simp at hok; simp [hok]
  · obtain ⟨x, hx⟩ := get_lt hk
    simp only [hx] at hok
    simp only [decide_eq_true (show (k : Int) < (xs.length : Int) by omega), if_true, idx_at hx, Option.bind_some]
    simp at hok; simp [hok]
  · rw [all_list (ok := fun x => !(x == c)) (fun k => by cases xs[k]? <;> rfl)]
    by_cases h : c ∈ xs
    · have : xs.all (fun x => !(x == c)) = false := by
        obtain ⟨i, hi, rfl⟩ := List.getElem_of_mem h
        exact all_false (List.getElem?_eq_getElem hi) (by simp)
      rw [this]; simp [h]
    · have : xs.all (fun x => !(x == c)) = true := by
        rw [List.all_eq_true]
        intro x hx
        have : x ≠ c := fun e => h (e ▸ hx)
        simp [this]
      rw [this]; simp [h]
theorem contains_ints {xs : List Int} {c : Int} (hl : xs.length ≤ maxLen) : Ev (fun m => slices_Contains__int64_int64_m m xs c) (decide (c ∈ xs)) :=
  Ev.eq (Ev.bind (index_ints hl) (Ev.pure _)) (by rw [decide_eq_decide]; exact pos_ge)

/-! ### games -/
def okVx (n : Int) (x : Timpl_Vertex) : Bool := (decide (0 ≤ x.1) && decide (x.1 ≤ 1)) && ((decide (0 ≤ x.2.1) && decide (x.2.1 ≤ 9)) && rises x.2.2 n)
def validG (a : List Timpl_Vertex) : Bool := decide (1 ≤ a.length ∧ a.length ≤ 120) && a.all (okVx (W ((a.length : Int) - 1)))

theorem validG_impl {a : List Timpl_Vertex} (hl : a.length ≤ 1048576) (g : ∀ x ∈ a, x.2.2.length ≤ 1048576) : Ev (fun m => impl_ValidGame_m m a) (validG a) := by
  have hm : maxLen = 9223372036854775807 := by unfold maxLen; rfl
  unfold impl_ValidGame_m validG
  simp only [within_eq, Option.bind_some]
  have hfind : Ev (fun m => slices_ContainsFunc__impl_Vertex_impl_Vertex_m m a (fun (z0 : Timpl_Vertex) => impl_ValidGame_1_m m z0 a)) (!(a.all (okVx (W ((a.length : Int) - 1))))) := by
    refine contains_loop (by omega) (f := fun m z0 => impl_ValidGame_1_m m z0 a) (fun x hx => ?_)
    have hi := increasing_law (xs := x.2.2) (n := (a.length : Int)) (by have := g x hx; omega)
    unfold impl_ValidGame_1_m okVx
    simp only [within_eq, Option.bind_some]
    cases (decide (0 ≤ x.1) && decide (x.1 ≤ 1)) with
    | false => exact Ev.bind (a := true) (Ev.pure _) (Ev.bind (a := true) (Ev.ite_t rfl (Ev.pure _)) (Ev.pure _))
    | true =>
      cases (decide (0 ≤ x.2.1) && decide (x.2.1 ≤ 9)) with
      | false => exact Ev.bind (a := true) (Ev.pure _) (Ev.bind (a := true) (Ev.ite_t rfl (Ev.pure _)) (Ev.pure _))
      | true => exact Ev.bind (a := false) (Ev.pure _) (Ev.bind (Ev.ite_f (by simp) (Ev.bind hi (Ev.pure _))) (Ev.pure _))
  by_cases h1 : 1 ≤ a.length ∧ a.length ≤ 120
  · refine Ev.eq (Ev.ite_f (by simp; omega) (Ev.bind hfind (Ev.pure _))) ?_
    simp [h1]
  · refine Ev.eq (Ev.ite_t (by simp; omega) (Ev.pure _)) ?_
    simp; omega

theorem validG_spec {a : List Timpl_Vertex} (hl : a.length ≤ 1048576) (g : ∀ x ∈ a, x.2.2.length ≤ 1048576) : Ev (fun m => spec_l23Is_m m a) (validG a) := by
  have hm : maxLen = 9223372036854775807 := by unfold maxLen; rfl
  unfold spec_l23Is_m validG
  by_cases h1 : 1 ≤ a.length ∧ a.length ≤ 120
  · refine Ev.bind (a := false) (Ev.const (by rw [or_some, show ((a.length : Int) == 0) = false from by rw [beq_eq_false_iff_ne]; omega, show decide ((120 : Int) < a.length) = false from decide_eq_false (by omega)]; rfl)) (Ev.ite_f (by simp) ?_)
    have key : ∀ (k : Nat) (x : Timpl_Vertex), a[k]? = some x → ∀ {A B : Option (Int ⊕ (Unit ⊕ Bool))} {r}, (if (!okVx (W ((a.length : Int) - 1)) x) = true then A else B) = some r → Ev (fun m => (idx a (k : Int)).bind fun x183 => (spec_l00In_m m x183.1 (0 : Int) (1 : Int)).bind fun x200 => (if (!x200) = true then some true else (idx a (k : Int)).bind fun x206 => (spec_l00In_m m x206.2.1 (0 : Int) (9 : Int)).bind fun x223 => some (!x223)).bind fun t203 => (if t203 = true then some true else (idx a (k : Int)).bind fun x229 => (spec_l00Rises_m m x229.2.2 (0 : Int) (W ((a.length : Int) - (1 : Int)))).bind fun x246 => some (!x246)).bind fun t226 => (if t226 = true then A else B)) r := by
      intro k x hx A B r hr
      have hi := rises_spec (xs := x.2.2) (n := W ((a.length : Int) - 1)) (by have := g x (List.mem_of_getElem? hx); omega)
      simp only [idx_at hx, Option.bind_some, l00In_eq]
      revert hr
      unfold okVx
      cases (decide (0 ≤ x.1) && decide (x.1 ≤ 1)) with
      | false => exact fun hr => Ev.bind (a := true) (Ev.pure _) (Ev.bind (a := true) (Ev.ite_t rfl (Ev.pure _)) (Ev.const hr))
      | true =>
        cases (decide (0 ≤ x.2.1) && decide (x.2.1 ≤ 9)) with
        | false => exact fun hr => Ev.bind (a := true) (Ev.pure _) (Ev.bind (a := true) (Ev.ite_t rfl (Ev.pure _)) (Ev.const hr))
        | true => exact fun hr => Ev.bind (a := false) (Ev.pure _) (Ev.bind (Ev.ite_f (by simp) (Ev.bind hi (Ev.pure _))) (Ev.const hr))
    refine (Ev.all (step := _) a.length (fun k => match a[k]? with | none => true | some x => okVx (W ((a.length : Int) - 1)) x) false true (fun k hk hok => ?_) (fun k hk hok => ?_) (Ev.ite_f (by simp) (Ev.pure _))).eq ?_
    · obtain ⟨x, hx⟩ := get_lt hk
      simp only [hx] at hok
      exact Ev.ite_t (decide_eq_true (by omega)) (key k x hx (by rw [hok, W_succ hk (by omega)]; rfl))
    · obtain ⟨x, hx⟩ := get_lt hk
      simp only [hx] at hok
      exact Ev.ite_t (decide_eq_true (by omega)) (key k x hx (by rw [hok]; rfl))
    · rw [all_list (ok := okVx (W ((a.length : Int) - 1))) (fun k => by cases a[k]? <;> rfl)]
      rw [decide_eq_true (by omega), Bool.true_and]
      cases a.all (okVx (W ((a.length : Int) - 1))) <;> rfl
  · refine Ev.bind (a := true) (Ev.const (by rw [or_some, show ((a.length : Int) == 0 || decide ((120 : Int) < a.length)) = true from by rw [Bool.or_eq_true, beq_iff_eq, decide_eq_true_eq]; omega])) (Ev.eq (Ev.ite_t rfl (Ev.pure _)) ?_)
    rw [decide_eq_false h1, Bool.false_and]

abbrev GV : Tlaws_Vertex → Prop := gAnd (gInt .i64) (gAnd (gInt .i64) GI)
abbrev GVs : List Tlaws_Vertex → Prop := gList GV

theorem sz_vtx {x : Tlaws_Vertex} (g : GV x) {b : Int} (h0 : 0 ≤ b) (hb : b ≤ 1048576) : ∃ r, Ev (fun n => laws_szVertex_m n x b) r ∧ Sz b r (x.2.2.length ≤ 1048576) := by
  obtain ⟨r, h1, h2⟩ := sz_ints g.2.2 h0 hb
  by_cases h : r < 0
  · exact ⟨-1, Ev.bind h1 (Ev.ite_t (by simpa using h) (Ev.pure _)), .inl (by omega)⟩
  · exact ⟨r, Ev.bind h1 (Ev.ite_f (by simpa using h) (Ev.pure _)), h2⟩
theorem sz_vtxs {a : List Tlaws_Vertex} (g : GVs a) {b : Int} (h0 : 0 ≤ b) (hb : b ≤ 1048576) : ∃ r, Ev (fun n => laws_szVertexS_m n a b) r ∧ Sz b r (a.length ≤ 1048576 ∧ ∀ x ∈ a, x.2.2.length ≤ 1048576) :=
  sz_loop (fun x hx _ h0 hb => sz_vtx (g.2 x hx) h0 hb) g.1 h0 hb

theorem to_vtx {x : Tlaws_Vertex} (hl : x.2.2.length ≤ 1048576) : Ev (fun n => laws_toVertex_m n x) x := Ev.bind (to_ints hl) (Ev.pure _)
theorem to_vtxs {a : List Tlaws_Vertex} (hl : a.length ≤ 1048576) (h : ∀ x ∈ a, x.2.2.length ≤ 1048576) : Ev (fun n => laws_toVertexS_m n a) a := by
  have := to_loop («to» := fun n x => laws_toVertex_m n x) (f := id) (a := a) (z := (0, 0, [])) (fun x hx => to_vtx (h x hx)) hl
  rw [List.map_id] at this
  exact this

theorem eq_vtx {x : Timpl_Vertex} (hl : x.2.2.length ≤ maxLen) : Ev (fun n => laws_eqVertex_m n x x) true :=
  Ev.ite_f (by simp) (Ev.ite_f (by simp) (Ev.bind (eq_ints hl) (Ev.ite_f (by simp) (Ev.pure _))))
theorem eq_vtxs {a : List Timpl_Vertex} (hl : a.length ≤ maxLen) (h : ∀ x ∈ a, x.2.2.length ≤ maxLen) : Ev (fun n => laws_eqVertexS_m n a a) true :=
  eq_loop (eq := fun n x y => laws_eqVertex_m n x y) (fun x hx => eq_vtx (h x hx)) hl

theorem EvI.tab {β ρ : Type} {step : Nat → List β × Int → Option ((List β × Int) ⊕ (List β ⊕ ρ))} (n : Nat) (f : Nat → β)
    (hs : ∀ k (xs : List β), k < n → xs.length = k → Ev (fun m => step m (xs, (k : Int))) (.inl (xs ++ [f k], ((k + 1 : Nat) : Int)))) (hn : ∀ xs : List β, Ev (fun m => step m (xs, (n : Int))) (.inr (.inl xs))) :
    EvI step ([], 0) (.inl ((List.range n).map f)) := by
  refine EvI.upto n (fun k (_ : Unit) => ((List.range k).map f, (k : Int))) (fun _ _ => True) (k := 0) (t := ()) rfl (Nat.zero_le _) trivial (fun k t hk _ => ⟨(), ?_, trivial⟩) (fun t _ => hn _)
  refine (hs k _ hk (by simp)).eq ?_
  rw [List.range_succ, List.map_append]; rfl

theorem any_ints {a : List Int} (hl : a.length ≤ maxLen) {f : Nat → Int → Option Bool} {p : Int → Bool} (hf : ∀ x ∈ a, Ev (fun m => f m x) (p x)) : Ev (fun m => slices_ContainsFunc__int64_int64_m m a (f m)) (a.any p) :=
  Ev.eq (contains_loop hl (f := f) (ok := fun x => !(p x)) (fun x hx => by simpa using hf x hx)) (by rw [List.any_eq_not_all_not])

theorem rises_in {xs : List Int} {n : Int} (h : rises xs n = true) : ∀ v ∈ xs, 0 ≤ v ∧ v ≤ n := by
  simp only [rises, decide_eq_true_eq] at h
  intro v hv
  obtain ⟨i, hi, rfl⟩ := List.getElem_of_mem hv
  have h4 := h i hi
  simp only [okAt, List.getElem?_eq_getElem hi, Bool.and_eq_true, decide_eq_true_eq] at h4
  exact h4.1

section
variable (n : Nat) (K : Int → List Int) (Pr : Int → Int) (v : Int)
inductive Rcv : Int → Prop
  | refl : Rcv v
  | step {x y : Int} : Rcv x → y ∈ K x → Pr v ≤ Pr y → Rcv y
def CycV : Prop := ∃ x, Rcv K Pr v x ∧ v ∈ K x
def foB (s : (Int → Bool) × List Int) (y : Int) : (Int → Bool) × List Int := if Pr y < Pr v ∨ s.1 y = true then s else (upd s.1 y true, s.2 ++ [y])
structure BI (s : (Int → Bool) × List Int) : Prop where
  q : ∀ x ∈ s.2, (0 ≤ x ∧ x < (n : Int)) ∧ Rcv K Pr v x
  f : ∀ y, s.1 y = true → (∃ x, Rcv K Pr v x ∧ y ∈ K x) ∧ Pr v ≤ Pr y
  z : s.2.length + (tab n s.1).countP (fun b => !b) ≤ n + 1
def ClB (ex : Int → Prop) (s : (Int → Bool) × List Int) : Prop := ∀ x, 0 ≤ x → x < (n : Int) → (x = v ∨ s.1 x = true) → ex x ∨ x ∈ s.2 ∨ ∀ y ∈ K x, Pr v ≤ Pr y → s.1 y = true
structure FoP (s s' : (Int → Bool) × List Int) : Prop where
  mono : ∀ w, s.1 w = true → s'.1 w = true
  pre : ∃ e, s'.2 = s.2 ++ e
  mu : 2 * (tab n s'.1).countP (fun b => !b) + s'.2.length ≤ 2 * (tab n s.1).countP (fun b => !b) + s.2.length
  inq : (∀ y, s.1 y = true → y ∈ s.2) → ∀ y, s'.1 y = true → y ∈ s'.2
  cl : ∀ ex, ClB n K Pr v ex s → ClB n K Pr v ex s'
variable {n K Pr v}
theorem foB_skip {s : (Int → Bool) × List Int} {y : Int} (h : Pr y < Pr v ∨ s.1 y = true) : foB Pr v s y = s := if_pos h
theorem foB_new {s : (Int → Bool) × List Int} {y : Int} (h : ¬ (Pr y < Pr v ∨ s.1 y = true)) : foB Pr v s y = (upd s.1 y true, s.2 ++ [y]) := if_neg h
theorem FoP.refl (s : (Int → Bool) × List Int) : FoP n K Pr v s s := ⟨fun _ h => h, ⟨[], by simp⟩, Nat.le_refl _, fun h => h, fun _ h => h⟩
theorem FoP.trans {s s' s'' : (Int → Bool) × List Int} (h : FoP n K Pr v s s') (h' : FoP n K Pr v s' s'') : FoP n K Pr v s s'' :=
  ⟨fun w q => h'.mono w (h.mono w q), by obtain ⟨e, he⟩ := h.pre; obtain ⟨e', he'⟩ := h'.pre; exact ⟨e ++ e', by rw [he', he, List.append_assoc]⟩, Nat.le_trans h'.mu h.mu, fun q => h'.inq (h.inq q), fun ex q => h'.cl ex (h.cl ex q)⟩
theorem fo_step {s : (Int → Bool) × List Int} {u y : Int} (hu : Rcv K Pr v u) (hy : y ∈ K u) (hr : 0 ≤ y ∧ y < (n : Int)) (h : BI n K Pr v s) :
    BI n K Pr v (foB Pr v s y) ∧ FoP n K Pr v s (foB Pr v s y) ∧ (Pr v ≤ Pr y → (foB Pr v s y).1 y = true) ∧ (foB Pr v s y).2.length ≤ s.2.length + 1 := by
  unfold foB
  by_cases hc : Pr y < Pr v ∨ s.1 y = true
  · rw [if_pos hc]
    exact ⟨h, FoP.refl s, fun q => by rcases hc with hc | hc; · omega
                                      · exact hc, by omega⟩
  · rw [if_neg hc]
    have h1 : Pr v ≤ Pr y := by
      by_cases q : Pr y < Pr v
      · exact absurd (.inl q) hc
      · omega
    have h2 : s.1 y = false := by
      cases q : s.1 y
      · rfl
      · exact absurd (.inr q) hc
    have hcnt := tab_count (p := fun b => !b) (f := s.1) (x := true) hr.1 hr.2 (by rw [h2]; rfl) rfl
    have hz := h.z
    refine ⟨⟨fun x hx => ?_, fun w hw => ?_, ?_⟩, ⟨fun w hw => ?_, ⟨[y], rfl⟩, ?_, fun q w hw => ?_, fun ex q x h0 hn hx => ?_⟩, fun _ => upd_eq _ _ _, by simp⟩
    · rcases List.mem_append.1 hx with hx | hx
      · exact h.q x hx
      · have : x = y := by simpa using hx
        subst this
        exact ⟨hr, .step hu hy h1⟩
    · by_cases e : w = y
      · subst e; exact ⟨⟨u, hu, hy⟩, h1⟩
      · have hw : upd s.1 y true w = true := hw
        rw [upd_ne e] at hw; exact h.f w hw
    · show (s.2 ++ [y]).length + _ ≤ _
      rw [List.length_append, List.length_singleton]
      simp only at hcnt ⊢
      omega
    · by_cases e : w = y
      · subst e; exact upd_eq _ _ _
      · show upd s.1 y true w = true
        rw [upd_ne e]; exact hw
    · show 2 * _ + (s.2 ++ [y]).length ≤ _
      rw [List.length_append, List.length_singleton]
      simp only at hcnt ⊢
      omega
    · by_cases e : w = y
      · subst e; simp
      · have hw : upd s.1 y true w = true := hw
        rw [upd_ne e] at hw
        exact List.mem_append_left _ (q w hw)
    · by_cases e : x = y
      · subst e; exact .inr (.inl (by simp))
      · have hx : x = v ∨ s.1 x = true := by
          rcases hx with hx | hx
          · exact .inl hx
          · right
            have hx : upd s.1 y true x = true := hx
            rwa [upd_ne e] at hx
        rcases q x h0 hn hx with a | a | a
        · exact .inl a
        · exact .inr (.inl (List.mem_append_left _ a))
        · refine .inr (.inr fun w hw hp => ?_)
          by_cases e : w = y
          · subst e; exact upd_eq _ _ _
          · show upd s.1 y true w = true
            rw [upd_ne e]; exact a w hw hp
theorem fo_fold {u : Int} (hu : Rcv K Pr v u) (hr : ∀ y ∈ K u, 0 ≤ y ∧ y < (n : Int)) : ∀ (L : List Int) (s : (Int → Bool) × List Int), (∀ y ∈ L, y ∈ K u) → BI n K Pr v s →
    BI n K Pr v (L.foldl (foB Pr v) s) ∧ FoP n K Pr v s (L.foldl (foB Pr v) s) ∧ (∀ y ∈ L, Pr v ≤ Pr y → (L.foldl (foB Pr v) s).1 y = true)
  | [], s, _, h => ⟨h, FoP.refl s, fun y hy => by cases hy⟩
  | y :: L, s, hL, h => by
    obtain ⟨a1, a2, a3, _⟩ := fo_step hu (hL y (by simp)) (hr y (hL y (by simp))) h
    obtain ⟨b1, b2, b3⟩ := fo_fold hu hr L (foB Pr v s y) (fun w hw => hL w (by simp [hw])) a1
    refine ⟨b1, a2.trans b2, fun w hw hp => ?_⟩
    rcases List.mem_cons.1 hw with rfl | hw
    · exact b2.mono _ (a3 hp)
    · exact b3 w hw hp
theorem bi_start (hv : 0 ≤ v ∧ v < (n : Int)) : BI n K Pr v (fun _ => false, [v]) := ⟨fun x hx => by
    have : x = v := by simpa using hx
    subst this
    exact ⟨hv, .refl⟩, fun y hy => (by cases hy), by
    have := tab_count_le (p := fun b => !b) (f := fun _ => false) (n := n)
    show 1 + (tab n fun _ => false).countP (fun b => !b) ≤ n + 1
    omega⟩
theorem cyc_end {f : Int → Bool} (hv : 0 ≤ v ∧ v < (n : Int)) (hK : ∀ x, 0 ≤ x → x < (n : Int) → ∀ y ∈ K x, 0 ≤ y ∧ y < (n : Int)) (h : BI n K Pr v (f, [])) (hc : ClB n K Pr v (fun _ => False) (f, [])) : f v = true ↔ CycV K Pr v := by
  have key : ∀ x, Rcv K Pr v x → (0 ≤ x ∧ x < (n : Int)) ∧ (x = v ∨ f x = true) := by
    intro x hx
    induction hx with
    | refl => exact ⟨hv, .inl rfl⟩
    | step hx hy hp ih =>
      refine ⟨hK _ ih.1.1 ih.1.2 _ hy, .inr ?_⟩
      rcases hc _ ih.1.1 ih.1.2 ih.2 with a | a | a
      · exact a.elim
      · cases a
      · exact a _ hy hp
  constructor
  · intro hf
    exact (h.f v hf).1
  · rintro ⟨x, hx, hy⟩
    obtain ⟨k1, k2⟩ := key x hx
    rcases hc x k1.1 k1.2 k2 with a | a | a
    · exact a.elim
    · cases a
    · exact a v hy (Int.le_refl _)
end
/-- The walk over the successors of one vertex. -/
theorem fo_walk {ρ : Type} {n : Nat} {K : Int → List Int} {Pr : Int → Int} {v u : Int} {step : Nat → List Bool × List Int × Int → Option ((List Bool × List Int × Int) ⊕ ((List Bool × List Int) ⊕ ρ))} (s : (Int → Bool) × List Int)
    (hgo : ∀ (k : Nat) (y : Int) (f : Int → Bool) (Q : List Int), (K u)[k]? = some y → Q.length ≤ s.2.length + k → Ev (fun m => step m (tab n f, Q, (k : Int))) (.inl (tab n (foB Pr v (f, Q) y).1, (foB Pr v (f, Q) y).2, ((k + 1 : Nat) : Int))))
    (hend : ∀ V Q, Ev (fun m => step m (V, Q, ((K u).length : Int))) (.inr (.inl (V, Q)))) :
    EvI step (tab n s.1, s.2, 0) (.inl (tab n ((K u).foldl (foB Pr v) s).1, ((K u).foldl (foB Pr v) s).2)) := by
  refine EvI.upto (K u).length (fun k (t : (Int → Bool) × List Int) => (tab n t.1, t.2, (k : Int))) (fun k t => t = ((K u).take k).foldl (foB Pr v) s ∧ t.2.length ≤ s.2.length + k) (k := 0) (t := s) rfl (Nat.zero_le _) ⟨rfl, by omega⟩ (fun k t hk ht => ?_) (fun t ht => ?_)
  · obtain ⟨y, hy⟩ := get_lt hk
    refine ⟨foB Pr v t y, hgo k y t.1 t.2 hy ht.2, ?_, ?_⟩
    · rw [List.take_add_one, hy, List.foldl_append, ← ht.1]
      rfl
    · have : (foB Pr v t y).2.length ≤ t.2.length + 1 := by unfold foB; split <;> simp
      omega
  · have e := ht.1
    rw [List.take_length] at e
    rw [← e]
    exact hend _ _
noncomputable def cycB (K : Int → List Int) (Pr : Int → Int) (v : Int) : Bool := @decide (CycV K Pr v) (Classical.propDecidable _)
theorem cycB_iff {K : Int → List Int} {Pr : Int → Int} {v : Int} : cycB K Pr v = true ↔ CycV K Pr v := by
  unfold cycB
  exact @decide_eq_true_iff _ (Classical.propDecidable _)
/-- The program's search. -/
theorem bfs_q {ρ : Type} {n : Nat} {K : Int → List Int} {Pr : Int → Int} {v : Int} {step : Nat → List Bool × List Int → Option ((List Bool × List Int) ⊕ (List Bool ⊕ ρ))} (hv : 0 ≤ v ∧ v < (n : Int)) (hK : ∀ x, 0 ≤ x → x < (n : Int) → ∀ y ∈ K x, 0 ≤ y ∧ y < (n : Int))
    (hgo : ∀ (f : Int → Bool) (u : Int) (Q : List Int), 0 ≤ u → u < (n : Int) → Q.length ≤ n → Ev (fun m => step m (tab n f, u :: Q)) (.inl (tab n ((K u).foldl (foB Pr v) (f, Q)).1, ((K u).foldl (foB Pr v) (f, Q)).2)))
    (hend : ∀ V, Ev (fun m => step m (V, [])) (.inr (.inl V))) : ∃ f, EvI step (tab n (fun _ => false), [v]) (.inl (tab n f)) ∧ f v = cycB K Pr v := by
  refine Exists.elim (EvI.inv (step := step) (fun s => ∃ f Q, s = (tab n f, Q) ∧ BI n K Pr v (f, Q) ∧ ClB n K Pr v (fun _ => False) (f, Q)) (fun s => 2 * s.1.countP (fun b => !b) + s.2.length) (fun b => ∃ f, b = .inl (tab n f) ∧ f v = cycB K Pr v) (fun s hs => ?_) (s := (tab n (fun _ => false), [v])) ⟨_, _, rfl, bi_start hv, fun x h0 h1 hx => by
      rcases hx with rfl | hx
      · exact .inr (.inl (by simp))
      · cases hx⟩) (fun b ⟨hb, f, hbe, hf⟩ => ⟨f, by rw [← hbe]; exact hb, hf⟩)
  · obtain ⟨f, Q, rfl, hB, hC⟩ := hs
    cases Q with
    | nil =>
      right
      refine ⟨_, hend _, f, rfl, ?_⟩
      have := cyc_end hv hK hB hC
      rw [← cycB_iff] at this
      cases h1 : f v <;> cases h2 : cycB K Pr v <;> simp [h1, h2] at this ⊢
    | cons u Q =>
      left
      obtain ⟨⟨u0, u1⟩, hu⟩ := hB.q u (by simp)
      have hz := hB.z
      have hB' : BI n K Pr v (f, Q) := ⟨fun x hx => hB.q x (List.mem_cons_of_mem _ hx), hB.f, by
        show Q.length + _ ≤ _
        simp only [List.length_cons] at hz ⊢
        omega⟩
      have hC' : ClB n K Pr v (fun x => x = u) (f, Q) := fun x h0 h1 hx => by
        rcases hC x h0 h1 hx with a | a | a
        · exact a.elim
        · rcases List.mem_cons.1 a with a | a
          · exact .inl a
          · exact .inr (.inl a)
        · exact .inr (.inr a)
      obtain ⟨b1, b2, b3⟩ := fo_fold hu (hK u u0 u1) (K u) (f, Q) (fun y hy => hy) hB'
      refine ⟨_, hgo f u Q u0 u1 (by simp only [List.length_cons] at hz; omega), ⟨_, _, rfl, b1, fun x h0 h1 hx => ?_⟩, ?_⟩
      · rcases b2.cl _ hC' x h0 h1 hx with a | a | a
        · subst a
          exact .inr (.inr fun y hy hp => b3 y hy hp)
        · exact .inr (.inl a)
        · exact .inr (.inr a)
      · have := b2.mu
        simp only [List.length_cons] at this ⊢
        omega
/-- The reference's search. -/
theorem bfs_i {n : Nat} {K : Int → List Int} {Pr : Int → Int} {v : Int} {step : Nat → List Bool × List Int × Int → Option ((List Bool × List Int × Int) ⊕ (Unit ⊕ Bool))} (hv : 0 ≤ v ∧ v < (n : Int)) (hK : ∀ x, 0 ≤ x → x < (n : Int) → ∀ y ∈ K x, 0 ≤ y ∧ y < (n : Int))
    (hgo : ∀ (f : Int → Bool) (u : Int) (Q : List Int) (i : Nat), 0 ≤ u → u < (n : Int) → Q.length ≤ n + 1 → Q[i]? = some u → v ∉ K u → Ev (fun m => step m (tab n f, Q, (i : Int))) (.inl (tab n ((K u).foldl (foB Pr v) (f, Q)).1, ((K u).foldl (foB Pr v) (f, Q)).2, ((i + 1 : Nat) : Int))))
    (hfd : ∀ (f : Int → Bool) (u : Int) (Q : List Int) (i : Nat), 0 ≤ u → u < (n : Int) → Q.length ≤ n + 1 → Q[i]? = some u → v ∈ K u → Ev (fun m => step m (tab n f, Q, (i : Int))) (.inr (.inr true)))
    (hend : ∀ V (Q : List Int), Ev (fun m => step m (V, Q, (Q.length : Int))) (.inr (.inl ()))) : EvI step (tab n (fun _ => false), [v], 0) (if cycB K Pr v = true then .inr true else .inl ()) := by
  refine Exists.elim (EvI.inv (step := step) (fun s => ∃ f Q i, s = (tab n f, Q, ((i : Nat) : Int)) ∧ BI n K Pr v (f, Q) ∧ v ∈ Q ∧ (∀ y, f y = true → y ∈ Q) ∧ i ≤ Q.length ∧ ∀ j x, j < i → Q[j]? = some x → v ∉ K x ∧ ∀ y ∈ K x, Pr v ≤ Pr y → f y = true)
    (fun s => n + 2 - s.2.2.toNat) (fun b => b = (if cycB K Pr v = true then .inr true else .inl ())) (fun s hs => ?_) (s := (tab n (fun _ => false), [v], 0)) ⟨_, _, 0, rfl, bi_start hv, by simp, fun y hy => (by cases hy), by simp, fun j x hj => absurd hj (by omega)⟩) (fun b ⟨hb, hp⟩ => by rw [← hp]; exact hb)
  · obtain ⟨f, Q, i, rfl, hB, hvq, hfq, hi, hpr⟩ := hs
    have hz := hB.z
    simp only at hz
    by_cases hl : i = Q.length
    · right
      subst hl
      refine ⟨_, hend _ _, ?_⟩
      rw [if_neg]
      rw [cycB_iff]
      rintro ⟨x, hx, hy⟩
      have key : ∀ x, Rcv K Pr v x → x ∈ Q := by
        intro x hx
        induction hx with
        | refl => exact hvq
        | step hx hy hp ih =>
          obtain ⟨j, hj, rfl⟩ := List.getElem_of_mem ih
          exact hfq _ ((hpr j _ hj (List.getElem?_eq_getElem hj)).2 _ hy hp)
      obtain ⟨j, hj, rfl⟩ := List.getElem_of_mem (key x hx)
      exact (hpr j _ hj (List.getElem?_eq_getElem hj)).1 hy
    · obtain ⟨u, hu⟩ := get_lt (show i < Q.length by omega)
      obtain ⟨⟨u0, u1⟩, hru⟩ := hB.q u (List.mem_of_getElem? hu)
      by_cases hvu : v ∈ K u
      · right
        refine ⟨_, hfd f u Q i u0 u1 (by omega) hu hvu, ?_⟩
        rw [if_pos (cycB_iff.2 ⟨u, hru, hvu⟩)]
      · left
        obtain ⟨b1, b2, b3⟩ := fo_fold hru (hK u u0 u1) (K u) (f, Q) (fun y hy => hy) hB
        obtain ⟨e, he⟩ := b2.pre
        simp only at he
        refine ⟨_, hgo f u Q i u0 u1 (by omega) hu hvu, ⟨_, _, i + 1, rfl, b1, ?_, b2.inq hfq, ?_, fun j x hj hx => ?_⟩, ?_⟩
        · rw [he]; exact List.mem_append_left _ hvq
        · rw [he, List.length_append]; omega
        · rw [he, List.getElem?_append_left (by omega)] at hx
          by_cases hji : j = i
          · subst hji
            rw [hu] at hx
            obtain rfl : u = x := Option.some.inj hx
            exact ⟨hvu, b3⟩
          · obtain ⟨p1, p2⟩ := hpr j x (by omega) hx
            exact ⟨p1, fun y hy hp => b2.mono _ (p2 y hy hp)⟩
        · show n + 2 - ((i + 1 : Nat) : Int).toNat < n + 2 - ((i : Nat) : Int).toNat
          omega
def okJn {α : Type} (ok : α → Bool) (l : List α) (k : Nat) : Bool := match l[k]? with | none => true | some x => ok x
theorem okJn_at {α : Type} {ok : α → Bool} {l : List α} {k : Nat} {x : α} (h : l[k]? = some x) : okJn ok l k = ok x := by unfold okJn; rw [h]
theorem okJn_all {α β : Type} {ok : α → Bool} {l : List α} {x y : β} : (if ∀ k, k < l.length → okJn ok l k = true then x else y) = if l.all ok = true then x else y := by
  have : (∀ k, k < l.length → okJn ok l k = true) ↔ l.all ok = true := by
    rw [List.all_eq_true]
    constructor
    · intro h x hx
      obtain ⟨k, hk⟩ := List.mem_iff_getElem?.1 hx
      have := h k (List.getElem?_eq_some_iff.1 hk).1
      rwa [okJn_at hk] at this
    · intro h k hk
      obtain ⟨x, hx⟩ := get_lt hk
      rw [okJn_at hx]
      exact h x (List.mem_of_getElem? hx)
  by_cases h : l.all ok = true
  · rw [if_pos (this.2 h), if_pos h]
  · rw [if_neg (fun q => h (this.1 q)), if_neg h]

/-! ### the reference's decimals -/
theorem tab_of {α : Type} (d : α) (l : List α) : ∃ f : Int → α, l = tab l.length f := by
  refine ⟨fun v => (l[v.toNat]?).getD d, List.ext_getElem? fun k => ?_⟩
  by_cases hk : k < l.length
  · rw [tab_get hk, List.getElem?_eq_getElem hk]
    simp [hk]
  · rw [List.getElem?_eq_none (by omega), List.getElem?_eq_none (by rw [tab_len]; omega)]
def InN (n : Nat) (v : Int) : Prop := 0 ≤ v ∧ v < (n : Int)
theorem set_spec {n : Nat} {r : List Int} (hn : n ≤ 120) (hl : r.length ≤ 1048576) (hr : ∀ v ∈ r, InN n v) : Ev (fun m => spec_l23Set_m m (n : Int) r) (tab n fun v => decide (v ∈ r)) := by
  have hmx := maxLen_le
  have hmx2 : maxLen = 9223372036854775807 := by unfold maxLen; rfl
  unfold spec_l23Set_m
  refine Ev.bindc (mks_ok (by omega)) ?_
  rw [tab_const]
  refine Ev.bind (EvI.puts (ρ := List Bool) (n := n) r true (fun _ => false) (fun k v f hv => ?_) (fun xs => Ev.ite_f (by simp) (Ev.pure _))).ev (Ev.const ?_)
  · have hv' := hr v (List.mem_of_getElem? hv)
    have hk := (List.getElem?_eq_some_iff.1 hv).1
    refine Ev.ite_t (decide_eq_true (by omega)) (Ev.bindc (idx_at hv) (Ev.bindc (tab_at hv'.1 hv'.2) (Ev.const ?_)))
    rw [tab_set hv'.1, W_succ hk (by omega)]
  · show some (tab n fun v => if v ∈ r then true else false) = _
    refine congrArg some (tab_congr fun v _ _ => ?_)
    by_cases h : v ∈ r <;> simp [h]
theorem own_spec {a : List Timpl_Vertex} (hl : a.length ≤ 120) (g : ∀ x ∈ a, x.2.2.length ≤ 1048576) : Ev (fun m => spec_l23Own_m m a) a := by
  have hmx := maxLen_le
  have hmx2 : maxLen = 9223372036854775807 := by unfold maxLen; rfl
  unfold spec_l23Own_m
  refine Ev.bind (EvI.upto (b := (.inl a : List Timpl_Vertex ⊕ List Timpl_Vertex)) (step := _) a.length (fun k (_ : Unit) => (a.take k, (k : Int))) (fun _ _ => True) (k := 0) (t := ()) rfl (Nat.zero_le _) trivial (fun k _ hk _ => ⟨(), ?_, trivial⟩) (fun _ _ => Ev.eq (Ev.ite_f (by simp) (Ev.pure _)) (by rw [List.take_length]))).ev (Ev.const rfl)
  obtain ⟨x, hx⟩ := get_lt hk
  refine Ev.ite_t (decide_eq_true (by omega)) (Ev.bindc (idx_at hx) (Ev.bindc (idx_at hx) (Ev.bindc (idx_at hx) (Ev.bind (own_ints (g x (List.mem_of_getElem? hx))) (Ev.bindc (app_ok (by simp; omega)) (Ev.const ?_))))))
  rw [W_succ hk (by omega), List.take_add_one, hx]
  rfl
section
variable (p : Int) (r : List Int) (G : Int → Timpl_Vertex) (C : Int → Int)
def kp (v : Int) : List Int := if v ∈ r then (if (G v).1 = p then [C v] else (G v).2.2) else []
def okK (v : Int) : Bool := if (G v).1 = p then decide (C v ∈ (G v).2.2) && decide (C v ∈ r) else (G v).2.2.all fun y => decide (y ∈ r)
def KG (v : Int) : Timpl_Vertex := ((G v).1, (G v).2.1, kp p r G C v)
def prG (v : Int) : Int := (G v).2.1
end
section
variable {n : Nat} {p : Int} {r : List Int} {G : Int → Timpl_Vertex} {C : Int → Int}
theorem kept_spec (hn : n ≤ 120) (hl : r.length ≤ 1048576) (hr : ∀ v ∈ r, InN n v) (hG : ∀ v, InN n v → ∀ y ∈ (G v).2.2, InN n y) (hGl : ∀ v, InN n v → (G v).2.2.length ≤ 1048576) :
    Ev (fun m => spec_l23Kept_m m (tab n G) p r (tab n C)) (if r.all (okK p r G C) = true then (tab n (KG p r G C), true) else ([], false)) := by
  have hmx := maxLen_le
  have hmx2 : maxLen = 9223372036854775807 := by unfold maxLen; rfl
  unfold spec_l23Kept_m
  have hs := set_spec hn hl hr
  rw [tab_len]
  have hown := own_spec (a := tab n G) (by rw [tab_len]; exact hn) (fun x hx => by
    obtain ⟨k, hk, rfl⟩ := List.getElem_of_mem hx
    rw [tab_len] at hk
    have e := tab_get (f := G) hk
    rw [List.getElem?_eq_getElem (by rw [tab_len]; exact hk)] at e
    rw [Option.some.inj e]
    exact hGl _ ⟨by omega, by omega⟩)
  refine Ev.bind hs (Ev.bind hown ?_)
  have e0 : (tab n G, (0 : Int)) = (tab n (fun v => if v < ((0 : Nat) : Int) then KG p r G C v else G v), ((0 : Nat) : Int)) := by
    rw [show tab n (fun v => if v < ((0 : Nat) : Int) then KG p r G C v else G v) = tab n G from tab_congr fun v h0 h1 => if_neg (by omega)]
    rfl
  rw [e0]
  refine Exists.elim (EvI.count (β := List Timpl_Vertex ⊕ (List Timpl_Vertex × Bool)) (step := _) n (fun k (_ : Unit) => (tab n (fun v => if v < (k : Int) then KG p r G C v else G v), (k : Int))) (fun k _ => ∀ v, 0 ≤ v → v < (k : Int) → v ∈ r → okK p r G C v = true)
    (fun b => b = (if r.all (okK p r G C) = true then .inl (tab n (KG p r G C)) else .inr ([], false))) (fun k _ hk hI => ?_) (fun _ hI => ?_) (k := 0) (t := ()) (Nat.zero_le _) (fun v h0 h1 => by omega)) (fun res hr => Ev.bind hr.1.ev (by
    rw [hr.2]
    refine Ev.const ?_
    by_cases h : r.all (okK p r G C) = true
    · rw [if_pos h, if_pos h]; rfl
    · rw [if_neg h, if_neg h]; rfl))
  · have hin : InN n (k : Int) := ⟨by omega, by omega⟩
    have hGk : idx (tab n G) (k : Int) = some (G (k : Int)) := tab_at hin.1 hin.2
    have hCk : idx (tab n C) (k : Int) = some (C (k : Int)) := tab_at hin.1 hin.2
    have hFk : idx (tab n (fun v => if v < (k : Int) then KG p r G C v else G v)) (k : Int) = some (G (k : Int)) := by rw [tab_at hin.1 hin.2]; simp
    have hSk : ∀ v, InN n v → idx (tab n fun v => decide (v ∈ r)) v = some (decide (v ∈ r)) := fun v hv => tab_at hv.1 hv.2
    have hnext : ∀ z : Timpl_Vertex, z = KG p r G C (k : Int) → (tab n (fun v => if v < (k : Int) then KG p r G C v else G v)).set ((k : Int)).toNat z = tab n (fun v => if v < ((k + 1 : Nat) : Int) then KG p r G C v else G v) := fun z hz => by
      rw [tab_set hin.1]
      refine tab_congr fun v h0 h1 => ?_
      by_cases e : v = (k : Int)
      · subst e; rw [upd_eq, if_pos (by omega), hz]
      · rw [upd_ne e]
        by_cases h : v < (k : Int)
        · rw [if_pos h, if_pos (by omega)]
        · rw [if_neg h, if_neg (by omega)]
    have hsame : KG p r G C (k : Int) = G (k : Int) → tab n (fun v => if v < (k : Int) then KG p r G C v else G v) = tab n (fun v => if v < ((k + 1 : Nat) : Int) then KG p r G C v else G v) := fun hz => by
      refine tab_congr fun v h0 h1 => ?_
      by_cases e : v = (k : Int)
      · subst e; rw [if_neg (by omega), if_pos (by omega), hz]
      · by_cases h : v < (k : Int)
        · rw [if_pos h, if_pos (by omega)]
        · rw [if_neg h, if_neg (by omega)]
    have hokn : okK p r G C (k : Int) = true ∨ (k : Int) ∉ r → ∀ v, 0 ≤ v → v < ((k + 1 : Nat) : Int) → v ∈ r → okK p r G C v = true := fun ho v h0 h1 h2 => by
      by_cases e : v = (k : Int)
      · subst e
        rcases ho with ho | ho
        · exact ho
        · exact absurd h2 ho
      · exact hI v h0 (by omega) h2
    have hbad : (k : Int) ∈ r → okK p r G C (k : Int) = false → (Sum.inr ([], false) : List Timpl_Vertex ⊕ (List Timpl_Vertex × Bool)) = (if r.all (okK p r G C) = true then .inl (tab n (KG p r G C)) else .inr ([], false)) := fun hm ho => by
      rw [if_neg]
      intro q
      rw [List.all_eq_true.1 q _ hm] at ho
      cases ho
    by_cases hm : (k : Int) ∈ r
    · by_cases hw : (G (k : Int)).1 = p
      · have hkp : kp p r G C (k : Int) = [C (k : Int)] := by unfold kp; rw [if_pos hm, if_pos hw]
        have hhas := has_ints (xs := (G (k : Int)).2.2) (c := C (k : Int)) (by have := hGl _ hin; omega)
        cases ho : okK p r G C (k : Int)
        · right
          refine ⟨_, ?_, hbad hm ho⟩
          unfold okK at ho
          rw [if_pos hw] at ho
          refine Ev.ite_t (decide_eq_true (by omega)) (Ev.join (Ev.bindc (hSk _ hin) (Ev.ite_f (by simp [hm]) (Ev.bindc hGk (Ev.ite_t (by simp [hw]) (Ev.bindc hGk (Ev.bindc hCk (Ev.bind hhas (Ev.bind (a := true) ?_ (Ev.ite_t rfl (Ev.pure _)))))))))))
          by_cases hc : C (k : Int) ∈ (G (k : Int)).2.2
          · refine Ev.ite_f (by simp [hc]) (Ev.bindc hCk (Ev.bindc (hSk _ (hG _ hin _ hc)) (Ev.const ?_)))
            rw [decide_eq_true hc, Bool.true_and] at ho
            rw [ho]; rfl
          · exact Ev.ite_t (by simp [hc]) (Ev.pure _)
        · left
          refine ⟨(), ?_, hokn (.inl ho)⟩
          unfold okK at ho
          rw [if_pos hw] at ho
          simp only [Bool.and_eq_true, decide_eq_true_eq] at ho
          obtain ⟨hc, hcr⟩ := ho
          refine Ev.ite_t (decide_eq_true (by omega)) (Ev.join (Ev.bindc (hSk _ hin) (Ev.ite_f (by simp [hm]) (Ev.bindc hGk (Ev.ite_t (by simp [hw]) (Ev.bindc hGk (Ev.bindc hCk (Ev.bind hhas (Ev.bind (a := false) (Ev.ite_f (by simp [hc]) (Ev.bindc hCk (Ev.bindc (hSk _ (hr _ hcr)) (Ev.const (by simp [hcr]))))) (Ev.ite_f (by simp) (Ev.bindc hCk (Ev.bindc hFk (Ev.const ?_)))))))))))))
          rw [W_succ hk (by omega), hnext _ (by unfold KG; rw [hkp])]
      · have hkp : kp p r G C (k : Int) = (G (k : Int)).2.2 := by unfold kp; rw [if_pos hm, if_neg hw]
        have hok : okK p r G C (k : Int) = (G (k : Int)).2.2.all fun y => decide (y ∈ r) := by unfold okK; rw [if_neg hw]
        have hin2 : Ev (fun m => (iter (fun (s : (Int)) => (match s with | (x621) => (idx (tab n G) (k : Int)).bind fun x673 => (if (decide (x621 < (x673.2.2.length : Int))) = true then (idx (tab n G) (k : Int)).bind fun x689 => (idx x689.2.2 x621).bind fun x704 => (idx (tab n fun v => decide (v ∈ r)) x704).bind fun x709 => (if (!x709) = true then some (.inr (.inr ([], false))) else some (.inl ((W (x621 + (1 : Int)))))) else some (.inr (.inl ()))) : Option (((Int)) ⊕ ((Unit) ⊕ (((List Timpl_Vertex) × Bool)))))) m ((0 : Int)))) (if okK p r G C (k : Int) = true then .inl () else .inr ([], false)) := by
          refine ((EvI.all (G (k : Int)).2.2.length (okJn (fun y => decide (y ∈ r)) (G (k : Int)).2.2) ([], false) (fun j hj hok => ?_) (fun j hj hok => ?_) ?_).ev).eq ?_
          · obtain ⟨y, hy⟩ := get_lt hj
            rw [okJn_at hy] at hok
            refine Ev.bindc hGk (Ev.ite_t (decide_eq_true (by omega)) (Ev.bindc hGk (Ev.bindc (idx_at hy) (Ev.bindc (hSk _ (hG _ hin _ (List.mem_of_getElem? hy))) (Ev.ite_f (by simp [hok]) (Ev.const ?_))))))
            rw [W_succ hj (by have := hGl _ hin; omega)]
          · obtain ⟨y, hy⟩ := get_lt hj
            rw [okJn_at hy] at hok
            exact Ev.bindc hGk (Ev.ite_t (decide_eq_true (by omega)) (Ev.bindc hGk (Ev.bindc (idx_at hy) (Ev.bindc (hSk _ (hG _ hin _ (List.mem_of_getElem? hy))) (Ev.ite_t (by simp [hok]) (Ev.pure _))))))
          · exact Ev.bindc hGk (Ev.ite_f (by simp) (Ev.pure _))
          · rw [hok]
            exact okJn_all
        cases ho : okK p r G C (k : Int)
        · right
          refine ⟨_, ?_, hbad hm ho⟩
          rw [ho] at hin2
          exact Ev.ite_t (decide_eq_true (by omega)) (Ev.join (Ev.bindc (hSk _ hin) (Ev.ite_f (by simp [hm]) (Ev.bindc hGk (Ev.ite_f (by simpa using hw) (Ev.bind hin2 (Ev.const rfl)))))))
        · left
          refine ⟨(), ?_, hokn (.inl ho)⟩
          rw [ho] at hin2
          refine Ev.ite_t (decide_eq_true (by omega)) (Ev.join (Ev.bindc (hSk _ hin) (Ev.ite_f (by simp [hm]) (Ev.bindc hGk (Ev.ite_f (by simpa using hw) (Ev.bind hin2 (Ev.const ?_)))))))
          show some (Sum.inl (tab n (fun v => if v < (k : Int) then KG p r G C v else G v), W ((k : Int) + 1))) = _
          rw [W_succ hk (by omega), hsame (by unfold KG; rw [hkp])]
    · left
      refine ⟨(), ?_, hokn (.inr hm)⟩
      have hkp : kp p r G C (k : Int) = [] := by unfold kp; rw [if_neg hm]
      refine Ev.ite_t (decide_eq_true (by omega)) (Ev.join (Ev.bindc (hSk _ hin) (Ev.ite_t (by simp [hm]) (Ev.bindc hFk (Ev.const ?_)))))
      rw [W_succ hk (by omega), hnext _ (by unfold KG; rw [hkp])]
  · refine ⟨_, Ev.ite_f (by simp) (Ev.pure _), ?_⟩
    rw [if_pos]
    · congr 1
      refine tab_congr fun v h0 h1 => ?_
      rw [if_pos h1]
    · rw [List.all_eq_true]
      exact fun v hv => hI v (hr v hv).1 (hr v hv).2 hv
theorem cyc_spec {H : Int → Timpl_Vertex} {v : Int} (hn : n ≤ 120) (hv : InN n v) (hH : ∀ x, InN n x → ∀ y ∈ (H x).2.2, InN n y) (hHl : ∀ x, InN n x → (H x).2.2.length ≤ 1048576) :
    Ev (fun m => spec_l23Cycle_m m (tab n H) v) (cycB (fun x => (H x).2.2) (fun x => (H x).2.1) v) := by
  have hmx := maxLen_le
  have hmx2 : maxLen = 9223372036854775807 := by unfold maxLen; rfl
  unfold spec_l23Cycle_m
  rw [tab_len]
  refine Ev.bindc (mks_ok (by omega)) ?_
  rw [tab_const]
  have hAt : ∀ x, InN n x → idx (tab n H) x = some (H x) := fun x hx => tab_at hx.1 hx.2
  refine Ev.bind (bfs_i (n := n) (K := fun x => (H x).2.2) (Pr := fun x => (H x).2.1) hv (fun x h0 h1 y hy => hH x ⟨h0, h1⟩ y hy) (fun f u Q i h0 h1 hQ hu hvu => ?_) (fun f u Q i h0 h1 hQ hu hvu => ?_) (fun V Q => Ev.ite_f (by simp) (Ev.pure _))).ev (Ev.const ?_)
  · have hi := (List.getElem?_eq_some_iff.1 hu).1
    refine Ev.ite_t (decide_eq_true (by omega)) (Ev.bindc (idx_at hu) (Ev.bindc (hAt u ⟨h0, h1⟩) (Ev.bind (fo_walk (ρ := Bool) (n := n) (K := fun x => (H x).2.2) (Pr := fun x => (H x).2.1) (v := v) (u := u) (f, Q) (fun k y f Q hy hQl => ?_) (fun V Q => Ev.ite_f (by simp) (Ev.pure _))).ev (Ev.const ?_))))
    · have hym := List.mem_of_getElem? hy
      have hyr := hH u ⟨h0, h1⟩ y hym
      have hk := (List.getElem?_eq_some_iff.1 hy).1
      have hul := hHl u ⟨h0, h1⟩
      have hyv : y ≠ v := fun e => hvu (e ▸ hym)
      have hlQ : Q.length ≤ 2000000 := by simp only at hQl; omega
      refine Ev.ite_t (decide_eq_true (by omega)) (Ev.join (Ev.bindc (idx_at hy) (Ev.ite_f (by simpa using hyv) (Ev.bindc (tab_at hyr.1 hyr.2) ?_))))
      have hW : W ((k : Int) + 1) = ((k + 1 : Nat) : Int) := W_succ hk (by omega)
      cases hf : f y
      · by_cases hp : (H y).2.1 < (H v).2.1
        · rw [foB_skip (Pr := fun x => (H x).2.1) (v := v) (s := (f, Q)) (y := y) (.inl hp)]
          exact Ev.bind (a := false) (Ev.ite_t rfl (Ev.bindc (hAt y hyr) (Ev.bindc (hAt v hv) (Ev.const (by simp; omega))))) (Ev.ite_f (by simp) (Ev.const (by rw [hW])))
        · rw [foB_new (Pr := fun x => (H x).2.1) (v := v) (s := (f, Q)) (y := y) (by simp [hp, hf])]
          refine Ev.bind (a := true) (Ev.ite_t rfl (Ev.bindc (hAt y hyr) (Ev.bindc (hAt v hv) (Ev.const (by simp; omega))))) (Ev.ite_t rfl (Ev.bindc (tab_at hyr.1 hyr.2) (Ev.bindc (app_ok (by simp; omega)) (Ev.const ?_))))
          rw [tab_set hyr.1, hW]
      · rw [foB_skip (Pr := fun x => (H x).2.1) (v := v) (s := (f, Q)) (y := y) (.inr hf)]
        exact Ev.bind (a := false) (Ev.ite_f (by simp) (Ev.pure _)) (Ev.ite_f (by simp) (Ev.const (by rw [hW])))
    · show some (Sum.inl (_, _, W ((i : Int) + 1))) = _
      rw [W_of (by omega) (by omega)]
      rfl
  · have hi := (List.getElem?_eq_some_iff.1 hu).1
    refine Ev.ite_t (decide_eq_true (by omega)) (Ev.bindc (idx_at hu) (Ev.bindc (hAt u ⟨h0, h1⟩) ?_))
    refine Exists.elim (EvI.count (β := (List Bool × List Int) ⊕ Bool) (step := _) (H u).2.2.length (fun k (t : (Int → Bool) × List Int) => (tab n t.1, t.2, (k : Int))) (fun k t => v ∉ (H u).2.2.take k ∧ t.2.length ≤ Q.length + k) (fun b => b = .inr true) (fun k t hk ht => ?_) (fun t ht => ?_) (k := 0) (t := (f, Q)) (Nat.zero_le _) ⟨by simp, by simp⟩) (fun res ⟨e1, e2⟩ => Ev.bind e1.ev (by subst e2; exact Ev.const rfl))
    · obtain ⟨y, hy⟩ := get_lt hk
      have hym := List.mem_of_getElem? hy
      have hyr := hH u ⟨h0, h1⟩ y hym
      have hul := hHl u ⟨h0, h1⟩
      by_cases hyv : y = v
      · right
        exact ⟨_, Ev.ite_t (decide_eq_true (by omega)) (Ev.join (Ev.bindc (idx_at hy) (Ev.ite_t (by simpa using hyv) (Ev.pure _)))), rfl⟩
      · left
        have hlQ : t.2.length ≤ 2000000 := by have := ht.2; omega
        have hnot : v ∉ (H u).2.2.take (k + 1) := by
          rw [List.take_add_one, hy, List.mem_append]
          rintro (h | h)
          · exact ht.1 h
          · exact hyv (show v = y by simpa using h).symm
        have hW : W ((k : Int) + 1) = ((k + 1 : Nat) : Int) := W_succ hk (by omega)
        refine ⟨foB (fun x => (H x).2.1) v t y, ?_, hnot, ?_⟩
        · refine Ev.ite_t (decide_eq_true (by omega)) (Ev.join (Ev.bindc (idx_at hy) (Ev.ite_f (by simpa using hyv) (Ev.bindc (tab_at hyr.1 hyr.2) ?_))))
          cases hf : t.1 y
          · by_cases hp : (H y).2.1 < (H v).2.1
            · rw [foB_skip (Pr := fun x => (H x).2.1) (v := v) (s := t) (y := y) (.inl hp)]
              exact Ev.bind (a := false) (Ev.ite_t rfl (Ev.bindc (hAt y hyr) (Ev.bindc (hAt v hv) (Ev.const (by simp; omega))))) (Ev.ite_f (by simp) (Ev.const (by rw [hW])))
            · rw [foB_new (Pr := fun x => (H x).2.1) (v := v) (s := t) (y := y) (by simp [hp, hf])]
              refine Ev.bind (a := true) (Ev.ite_t rfl (Ev.bindc (hAt y hyr) (Ev.bindc (hAt v hv) (Ev.const (by simp; omega))))) (Ev.ite_t rfl (Ev.bindc (tab_at hyr.1 hyr.2) (Ev.bindc (app_ok (by simp; omega)) (Ev.const ?_))))
              rw [tab_set hyr.1, hW]
          · rw [foB_skip (Pr := fun x => (H x).2.1) (v := v) (s := t) (y := y) (.inr hf)]
            exact Ev.bind (a := false) (Ev.ite_f (by simp) (Ev.pure _)) (Ev.ite_f (by simp) (Ev.const (by rw [hW])))
        · have : (foB (fun x => (H x).2.1) v t y).2.length ≤ t.2.length + 1 := by unfold foB; split <;> simp
          have := ht.2
          omega
    · exfalso
      rw [List.take_length] at ht
      exact ht.1 hvu
  · cases cycB (fun x => (H x).2.2) (fun x => (H x).2.1) v <;> rfl
end
theorem Ev.allc {ρ : Type} {step : Nat → Int → Option (Int ⊕ (Unit ⊕ ρ))} (n : Nat) (ok : Nat → Bool) (r x : ρ) (h : ∀ k, k < n → Ev (fun m => step m (k : Int)) (if ok k = true then .inl ((k + 1 : Nat) : Int) else .inr (.inr r))) (hn : Ev (fun m => step m (n : Int)) (.inr (.inl ()))) :
    Ev (fun m => (iter (step m) m (0 : Int)).bind fun res => ctl (β := Unit) (ρ := ρ) (τ := ρ) res (fun _ => some x) (fun q => some q)) (if ∀ k, k < n → ok k = true then x else r) :=
  Ev.all n ok r x (fun k hk hok => (h k hk).eq (if_pos hok)) (fun k hk hok => (h k hk).eq (if_neg (by simp [hok]))) hn
noncomputable def okBd (K : Int → List Int) (Pr : Int → Int) (p v : Int) : Bool := ((Pr v).tmod 2 == p) || !cycB K Pr v
section
variable {n : Nat} {p : Int} {r : List Int} {G : Int → Timpl_Vertex} {C : Int → Int}
theorem bad_impl {K : Int → List Int} {Pr : Int → Int} (hn : n ≤ 120) (hK : ∀ x, InN n x → ∀ y ∈ K x, InN n y) (hKl : ∀ x, InN n x → (K x).length ≤ 1048576) :
    Ev (fun m => impl_badCycle_m m (tab n K) (tab n Pr) p) (if ∀ k, k < n → okBd K Pr p (k : Int) = true then false else true) := by
  have hmx2 : maxLen = 9223372036854775807 := by unfold maxLen; rfl
  unfold impl_badCycle_m
  rw [tab_len, tab_len]
  refine Ev.allc n (fun k => okBd K Pr p (k : Int)) true false (fun k hk => ?_) (Ev.ite_f (by simp) (Ev.pure _))
  have hin : InN n (k : Int) := ⟨by omega, by omega⟩
  have hPr : ∀ x, InN n x → idx (tab n Pr) x = some (Pr x) := fun x hx => tab_at hx.1 hx.2
  have hKt : ∀ x, InN n x → idx (tab n K) x = some (K x) := fun x hx => tab_at hx.1 hx.2
  have hWk : W ((k : Int) + 1) = ((k + 1 : Nat) : Int) := W_succ hk (by omega)
  unfold okBd
  refine Ev.ite_t (decide_eq_true (by omega)) (Ev.join (Ev.bindc (hPr _ hin) ?_))
  cases hpar : ((Pr (k : Int)).tmod 2 == p)
  case true =>
    exact Ev.ite_t rfl (Ev.const (by rw [hWk]; rfl))
  refine Ev.ite_f (by simp) (Ev.bindc (mks_ok (by omega)) ?_)
  rw [tab_const]
  refine Exists.elim (bfs_q (ρ := Bool) (step := _) (n := n) (K := K) (Pr := Pr) (v := (k : Int)) hin (fun x h0 h1 y hy => hK x ⟨h0, h1⟩ y hy) (fun f u Q h0 h1 hQ => ?_) (fun V => Ev.ite_f (by simp) (Ev.pure _))) (fun f hf => Ev.bind hf.1.ev (Ev.bindc (tab_at hin.1 hin.2) ?_))
  · have hsub : sub (u :: Q) (1 : Int) ((u :: Q).length : Int) = some Q := by
      have := sub_ok (xs := u :: Q) (lo := 1) (hi := (u :: Q).length) (by simp) (Nat.le_refl _)
      rw [List.take_length] at this
      exact this
    refine Ev.ite_t (decide_eq_true (by rw [List.length_cons]; omega)) (Ev.bindc (idx_at (k := 0) (x := u) rfl) (Ev.bindc hsub (Ev.bindc (hKt u ⟨h0, h1⟩) (Ev.bind (fo_walk (ρ := Bool) (n := n) (K := K) (Pr := Pr) (v := (k : Int)) (u := u) (f, Q) (fun j y f Q hy hQl => ?_) (fun V Q => Ev.ite_f (by simp) (Ev.pure _))).ev (Ev.const rfl)))))
    have hym := List.mem_of_getElem? hy
    have hyr := hK u ⟨h0, h1⟩ y hym
    have hj := (List.getElem?_eq_some_iff.1 hy).1
    have hul := hKl u ⟨h0, h1⟩
    have hlQ : Q.length ≤ 2000000 := by simp only at hQl; omega
    have hW : W ((j : Int) + 1) = ((j + 1 : Nat) : Int) := W_succ hj (by omega)
    refine Ev.ite_t (decide_eq_true (by omega)) (Ev.join (Ev.bindc (idx_at hy) (Ev.bindc (hPr y hyr) ?_)))
    by_cases hp : Pr y < Pr (k : Int)
    · rw [foB_skip (Pr := Pr) (v := (k : Int)) (s := (f, Q)) (y := y) (.inl hp)]
      exact Ev.bind (a := true) (Ev.ite_t (decide_eq_true hp) (Ev.pure _)) (Ev.ite_t rfl (Ev.const (by rw [hW])))
    · refine Ev.bind (a := f y) (Ev.ite_f (by simpa using hp) (Ev.bindc (tab_at hyr.1 hyr.2) (Ev.pure _))) ?_
      cases hf : f y
      · rw [foB_new (Pr := Pr) (v := (k : Int)) (s := (f, Q)) (y := y) (by simp [hp, hf])]
        refine Ev.ite_f (by simp) (Ev.bindc (tab_at hyr.1 hyr.2) (Ev.bindc (app_ok (by simp; omega)) (Ev.const ?_)))
        rw [tab_set hyr.1, hW]
      · rw [foB_skip (Pr := Pr) (v := (k : Int)) (s := (f, Q)) (y := y) (.inr hf)]
        exact Ev.ite_t rfl (Ev.const (by rw [hW]))
  · rw [hf.2]
    cases cycB K Pr (k : Int)
    · exact Ev.ite_f (by simp) (Ev.const (by rw [hWk]; rfl))
    · exact Ev.ite_t rfl (Ev.const rfl)
def SlM (p : Int) (G : Int → Timpl_Vertex) (C : Int → Int) (v : Int) : Mx (List Int) := if (G v).1 = p then Mx.own [C v] else Mx.rd (G v).2.2
def FkM (p : Int) (r : List Int) (G : Int → Timpl_Vertex) (C : Int → Int) (k : Nat) (v : Int) : Mx (List Int) := if v ∈ r.take k then SlM p G C v else Mx.own []
theorem any_r {xs : List Int} (hl : xs.length ≤ 1048576) (hr : r.length ≤ 1048576) : Ev (fun m => slices_ContainsFunc__int64_int64_m m xs (fun (z0 : Int) => impl_IsWinningStrategy_1_m m z0 r)) (!(xs.all fun y => decide (y ∈ r))) := by
  have hmx2 : maxLen = 9223372036854775807 := by unfold maxLen; rfl
  refine (any_ints (f := fun m z0 => impl_IsWinningStrategy_1_m m z0 r) (p := fun y => !decide (y ∈ r)) (by omega) (fun x _ => Ev.bind (contains_ints (by omega)) (Ev.pure _))).eq ?_
  rw [List.any_eq_not_all_not]
  simp
theorem cyc_out {K : Int → List Int} {Pr : Int → Int} {v : Int} (h : K v = []) : cycB K Pr v = false := by
  cases hc : cycB K Pr v
  · rfl
  · obtain ⟨x, hx, hy⟩ := cycB_iff.1 hc
    have : x = v := by
      induction hx with
      | refl => rfl
      | step hx hy2 hp ih =>
        rename_i a b
        have key : ∀ x, Rcv K Pr v x → x = v := by
          intro x hx
          induction hx with
          | refl => rfl
          | step _ hy2 _ ih => rw [ih, h] at hy2; cases hy2
        exact key _ (.step hx hy2 hp)
    rw [this, h] at hy
    cases hy
theorem win_impl (hn : n ≤ 120) (hl : r.length ≤ 1048576) (hr : ∀ v ∈ r, InN n v) (hG : ∀ v, InN n v → ∀ y ∈ (G v).2.2, InN n y) (hGl : ∀ v, InN n v → (G v).2.2.length ≤ 1048576) :
    Ev (fun m => (mks ((tab n G).length : Int) (Mx.own ([] : (List Int)))).bind fun x59 => (iter (fun (s : (List (Mx (List Int))) × (Int)) => (match s with | (xs165, x166) => (if (decide (x166 < (r.length : Int))) = true then (idx r x166).bind fun x393 => (idx (tab n G) x393).bind fun x398 => (idx xs165 x393).bind fun _ => join (κ := List (Mx (List Int)) → Option (((List (Mx (List Int))) × (Int)) ⊕ (((List (Mx (List Int)))) ⊕ (Bool)))) (fun (xs416 : List (Mx (List Int))) => (idx xs416 x393).bind fun x419 => (Mx.val x419).bind fun x426 => (slices_ContainsFunc__int64_int64_m m x426 (fun (z0 : Int) => impl_IsWinningStrategy_1_m m z0 r)).bind fun x430 => (if x430 = true then some (.inr (.inr false)) else some (.inl (xs416, (W (x166 + (1 : Int))))))) (fun K417 => (idx (tab n G) x393).bind fun x435 => (if (x435.1 == p) = true then (idx (tab n G) x393).bind fun x453 => (idx (tab n C) x393).bind fun x468 => (slices_Contains__int64_int64_m m x453.2.2 x468).bind fun x475 => (if (!x475) = true then some (.inr (.inr false)) else (idx (tab n C) x393).bind fun x479 => (idx (xs165.set x393.toNat (Mx.rd x398.2.2)) x393).bind fun _ => (K417 ((xs165.set x393.toNat (Mx.rd x398.2.2)).set x393.toNat (Mx.own [x479])))) else (K417 (xs165.set x393.toNat (Mx.rd x398.2.2))))) else some (.inr (.inl (xs165)))) : Option (((List (Mx (List Int))) × (Int)) ⊕ (((List (Mx (List Int)))) ⊕ (Bool))))) m (x59, (0 : Int))).bind fun res268 => ctl (β := (List (Mx (List Int)))) (ρ := Bool) (τ := Bool) res268 (fun (xs267) => (iter (fun (s : (List Int) × (Int)) => (match s with | (xs307, x309) => (if (decide (x309 < ((tab n G).length : Int))) = true then (idx (tab n G) x309).bind fun x362 => (app xs307 [x362.2.1]).bind fun x384 => some (.inl (x384, (W (x309 + (1 : Int))))) else some (.inr (.inl (xs307)))) : Option (((List Int) × (Int)) ⊕ (((List Int)) ⊕ (Bool))))) m ([], (0 : Int))).bind fun res345 => ctl (β := (List Int)) (ρ := Bool) (τ := Bool) res345 (fun (xs343) => (allO Mx.val xs267).bind fun ys352 => (impl_badCycle_m m ys352 xs343 p).bind fun x354 => some ((!x354))) (fun q => some (q))) (fun q => some (q)))
    (if r.all (okK p r G C) = true then (if ∀ k, k < r.length → okJn (okBd (kp p r G C) (prG G) p) r k = true then true else false) else false) := by
  have hmx2 : maxLen = 9223372036854775807 := by unfold maxLen; rfl
  rw [tab_len]
  refine Ev.bindc (mks_ok (by omega)) ?_
  rw [tab_const]
  have hGt : ∀ x, InN n x → idx (tab n G) x = some (G x) := fun x hx => tab_at hx.1 hx.2
  have hCt : ∀ x, InN n x → idx (tab n C) x = some (C x) := fun x hx => tab_at hx.1 hx.2
  have e0 : (tab n (fun _ => (Mx.own [] : Mx (List Int))), (0 : Int)) = (tab n (FkM p r G C 0), ((0 : Nat) : Int)) := by
    rw [show tab n (FkM p r G C 0) = tab n fun _ => (Mx.own [] : Mx (List Int)) from tab_congr fun v h0 h1 => by unfold FkM; simp]
    rfl
  rw [e0]
  refine Exists.elim (EvI.count (β := List (Mx (List Int)) ⊕ Bool) (step := _) r.length (fun k (_ : Unit) => (tab n (FkM p r G C k), (k : Int))) (fun k _ => (r.take k).all (okK p r G C) = true)
    (fun b => b = (if r.all (okK p r G C) = true then .inl (tab n (FkM p r G C r.length)) else .inr false)) (fun k _ hk hI => ?_) (fun _ hI => ?_) (k := 0) (t := ()) (Nat.zero_le _) (by simp)) (fun res hres => Ev.bind hres.1.ev ?_)
  · obtain ⟨v, hv⟩ := get_lt hk
    have hvm := List.mem_of_getElem? hv
    have hin := hr v hvm
    have hW : W ((k : Int) + 1) = ((k + 1 : Nat) : Int) := W_succ hk (by omega)
    have hset : ∀ z, z = SlM p G C v → (tab n (FkM p r G C k)).set v.toNat z = tab n (FkM p r G C (k + 1)) := fun z hz => by
      rw [tab_set hin.1]
      refine tab_congr fun w h0 h1 => ?_
      unfold FkM
      rw [List.take_add_one, hv]
      by_cases e : w = v
      · subst e; rw [upd_eq, if_pos (by simp), hz]
      · rw [upd_ne e]
        by_cases h : w ∈ r.take k
        · rw [if_pos h, if_pos (by simp [h])]
        · rw [if_neg h, if_neg (by simp [h, e])]
    have hbad : okK p r G C v = false → (Sum.inr false : List (Mx (List Int)) ⊕ Bool) = (if r.all (okK p r G C) = true then .inl (tab n (FkM p r G C r.length)) else .inr false) := fun ho => by
      rw [if_neg]
      intro q
      rw [List.all_eq_true.1 q _ hvm] at ho
      cases ho
    have hnext : okK p r G C v = true → (r.take (k + 1)).all (okK p r G C) = true := fun ho => by
      rw [List.take_add_one, hv, List.all_append, hI]
      simp [ho]
    have hF : idx (tab n (FkM p r G C k)) v = some (FkM p r G C k v) := tab_at hin.1 hin.2
    by_cases hw : (G v).1 = p
    · have hsl : SlM p G C v = Mx.own [C v] := by unfold SlM; rw [if_pos hw]
      have hok : okK p r G C v = (decide (C v ∈ (G v).2.2) && decide (C v ∈ r)) := by unfold okK; rw [if_pos hw]
      have hcont := contains_ints (xs := (G v).2.2) (c := C v) (by have := hGl v hin; omega)
      by_cases hc : C v ∈ (G v).2.2
      · have hset2 : ((tab n (FkM p r G C k)).set v.toNat (Mx.rd (G v).2.2)).set v.toNat (Mx.own [C v]) = tab n (FkM p r G C (k + 1)) := by
          rw [List.set_set]
          exact hset _ hsl.symm
        have hidx : idx ((tab n (FkM p r G C k)).set v.toNat (Mx.rd (G v).2.2)) v = some (Mx.rd (G v).2.2) := by
          rw [tab_set hin.1, tab_at hin.1 hin.2, upd_eq]
        have hval : idx (tab n (FkM p r G C (k + 1))) v = some (Mx.own [C v]) := by
          rw [tab_at hin.1 hin.2]
          unfold FkM
          rw [List.take_add_one, hv, if_pos (by simp), hsl]
        have hany := any_r (xs := [C v]) (r := r) (by simp) hl
        cases hcr : decide (C v ∈ r)
        · right
          refine ⟨_, ?_, hbad (by rw [hok, hcr, Bool.and_false])⟩
          refine Ev.ite_t (decide_eq_true (by omega)) (Ev.bindc (idx_at hv) (Ev.bindc (hGt v hin) (Ev.bindc hF (Ev.join (Ev.bindc (hGt v hin) (Ev.ite_t (by simp [hw]) (Ev.bindc (hGt v hin) (Ev.bindc (hCt v hin) (Ev.bind hcont (Ev.ite_f (by simp [hc]) (Ev.bindc (hCt v hin) (Ev.bindc hidx ?_))))))))))))
          rw [hset2]
          exact Ev.bindc hval (Ev.bindc (a := [C v]) rfl (Ev.bind hany (Ev.ite_t (by simp [hcr]) (Ev.pure _))))
        · left
          refine ⟨(), ?_, hnext (by rw [hok, hcr, decide_eq_true hc]; rfl)⟩
          refine Ev.ite_t (decide_eq_true (by omega)) (Ev.bindc (idx_at hv) (Ev.bindc (hGt v hin) (Ev.bindc hF (Ev.join (Ev.bindc (hGt v hin) (Ev.ite_t (by simp [hw]) (Ev.bindc (hGt v hin) (Ev.bindc (hCt v hin) (Ev.bind hcont (Ev.ite_f (by simp [hc]) (Ev.bindc (hCt v hin) (Ev.bindc hidx ?_))))))))))))
          rw [hset2]
          exact Ev.bindc hval (Ev.bindc (a := [C v]) rfl (Ev.bind hany (Ev.ite_f (by simp [hcr]) (Ev.const (by rw [hW])))))
      · right
        refine ⟨_, ?_, hbad (by rw [hok, decide_eq_false hc, Bool.false_and])⟩
        exact Ev.ite_t (decide_eq_true (by omega)) (Ev.bindc (idx_at hv) (Ev.bindc (hGt v hin) (Ev.bindc hF (Ev.join (Ev.bindc (hGt v hin) (Ev.ite_t (by simp [hw]) (Ev.bindc (hGt v hin) (Ev.bindc (hCt v hin) (Ev.bind hcont (Ev.ite_t (by simp [hc]) (Ev.pure _)))))))))))
    · have hsl : SlM p G C v = Mx.rd (G v).2.2 := by unfold SlM; rw [if_neg hw]
      have hok : okK p r G C v = (G v).2.2.all fun y => decide (y ∈ r) := by unfold okK; rw [if_neg hw]
      have hset2 := hset _ hsl.symm
      have hval : idx (tab n (FkM p r G C (k + 1))) v = some (Mx.rd (G v).2.2) := by
        rw [tab_at hin.1 hin.2]
        unfold FkM
        rw [List.take_add_one, hv, if_pos (by simp), hsl]
      have hany := any_r (xs := (G v).2.2) (r := r) (hGl v hin) hl
      rw [← hok] at hany
      cases ho : okK p r G C v
      · right
        rw [ho] at hany
        refine ⟨_, ?_, hbad ho⟩
        refine Ev.ite_t (decide_eq_true (by omega)) (Ev.bindc (idx_at hv) (Ev.bindc (hGt v hin) (Ev.bindc hF (Ev.join (Ev.bindc (hGt v hin) (Ev.ite_f (by simpa using hw) ?_))))))
        rw [hset2]
        exact Ev.bindc hval (Ev.bindc (a := (G v).2.2) rfl (Ev.bind hany (Ev.ite_t rfl (Ev.pure _))))
      · left
        rw [ho] at hany
        refine ⟨(), ?_, hnext ho⟩
        refine Ev.ite_t (decide_eq_true (by omega)) (Ev.bindc (idx_at hv) (Ev.bindc (hGt v hin) (Ev.bindc hF (Ev.join (Ev.bindc (hGt v hin) (Ev.ite_f (by simpa using hw) ?_))))))
        rw [hset2]
        exact Ev.bindc hval (Ev.bindc (a := (G v).2.2) rfl (Ev.bind hany (Ev.ite_f (by simp) (Ev.const (by rw [hW])))))
  · rw [List.take_length] at hI
    exact ⟨_, Ev.ite_f (by simp) (Ev.pure _), by rw [if_pos hI]⟩
  · rw [hres.2]
    by_cases hA : r.all (okK p r G C) = true
    case neg =>
      rw [if_neg hA, if_neg hA]
      exact Ev.const rfl
    rw [if_pos hA, if_pos hA]
    have hkin : ∀ x, InN n x → ∀ y ∈ kp p r G C x, InN n y := fun x hx y hy => by
      unfold kp at hy
      split at hy
      · rename_i hxr
        split at hy
        · rename_i hw
          have ho := List.all_eq_true.1 hA x hxr
          unfold okK at ho
          rw [if_pos hw] at ho
          simp only [Bool.and_eq_true, decide_eq_true_eq] at ho
          have : y = C x := by simpa using hy
          subst this
          exact hr _ ho.2
        · exact hG x hx y hy
      · cases hy
    have hkl : ∀ x, InN n x → (kp p r G C x).length ≤ 1048576 := fun x hx => by
      unfold kp
      split
      · split
        · simp
        · exact hGl x hx
      · simp
    have hall : allO Mx.val (tab n (FkM p r G C r.length)) = some (tab n (kp p r G C)) := by
      unfold tab
      refine allO_map (f := Mx.val) (g := fun (k : Nat) => FkM p r G C r.length (k : Int)) (k := fun (k : Nat) => kp p r G C (k : Int)) (fun k => ?_) _
      unfold FkM kp SlM
      rw [List.take_length]
      split
      · split <;> rfl
      · rfl
    refine Ev.bind (a := (Sum.inl (tab n (prG G)) : List Int ⊕ Bool)) ?_ ?_
    · refine (EvI.tab (ρ := Bool) n (fun k => prG G (k : Int)) (fun k xs hk hx => ?_) (fun xs => Ev.ite_f (by simp) (Ev.pure _))).ev
      refine Ev.ite_t (decide_eq_true (by omega)) (Ev.bindc (hGt (k : Int) ⟨by omega, by omega⟩) (Ev.bindc (app_ok (by simp; omega)) (Ev.const ?_)))
      rw [W_succ hk (by omega)]
      rfl
    · show Ev (fun m => (allO Mx.val (tab n (FkM p r G C r.length))).bind fun ys352 => (impl_badCycle_m m ys352 (tab n (prG G)) p).bind fun x354 => some (!x354)) _
      refine Ev.bindc hall (Ev.bind (bad_impl (K := kp p r G C) (Pr := prG G) (p := p) hn hkin hkl) (Ev.const ?_))
      have hiff : (∀ k, k < n → okBd (kp p r G C) (prG G) p (k : Int) = true) ↔ ∀ k, k < r.length → okJn (okBd (kp p r G C) (prG G) p) r k = true := by
        constructor
        · intro h k hk
          obtain ⟨v, hv⟩ := get_lt hk
          rw [okJn_at hv]
          have hin := hr v (List.mem_of_getElem? hv)
          have := h v.toNat (by have := hin.1; have := hin.2; omega)
          rwa [show ((v.toNat : Nat) : Int) = v by have := hin.1; omega] at this
        · intro h k hk
          by_cases hm : (k : Int) ∈ r
          · obtain ⟨j, hj⟩ := List.mem_iff_getElem?.1 hm
            have := h j (List.getElem?_eq_some_iff.1 hj).1
            rwa [okJn_at hj] at this
          · have hz : kp p r G C (k : Int) = [] := by unfold kp; rw [if_neg hm]
            unfold okBd
            rw [cyc_out hz]
            simp
      by_cases hB : ∀ k, k < n → okBd (kp p r G C) (prG G) p (k : Int) = true
      · rw [if_pos hB, if_pos (hiff.1 hB)]; rfl
      · rw [if_neg hB, if_neg (fun q => hB (hiff.2 q))]; rfl
theorem win_spec (hn : n ≤ 120) (hl : r.length ≤ 1048576) (hr : ∀ v ∈ r, InN n v) (hG : ∀ v, InN n v → ∀ y ∈ (G v).2.2, InN n y) (hGl : ∀ v, InN n v → (G v).2.2.length ≤ 1048576) :
    Ev (fun m => (spec_l23Kept_m m (tab n G) p r (tab n C)).bind fun x58 => (if (!x58.2) = true then some (false) else (iter (fun (s : (Int)) => (match s with | (x95) => (if (decide (x95 < (r.length : Int))) = true then (idx r x95).bind fun x136 => (idx (tab n G) x136).bind fun x141 => (if ((x141.2.1.tmod (2 : Int)) != p) = true then (spec_l23Cycle_m m x58.1 x136).bind fun x161 => some x161 else some false).bind fun t156 => (if t156 = true then some (.inr (.inr false)) else some (.inl ((W (x95 + (1 : Int)))))) else some (.inr (.inl ()))) : Option (((Int)) ⊕ ((Unit) ⊕ (Bool))))) m ((0 : Int))).bind fun res127 => ctl (β := Unit) (ρ := Bool) (τ := Bool) res127 (fun _ => some (true)) (fun q => some (q))))
    (if r.all (okK p r G C) = true then (if ∀ k, k < r.length → okJn (okBd (kp p r G C) (prG G) p) r k = true then true else false) else false) := by
  have hmx2 : maxLen = 9223372036854775807 := by unfold maxLen; rfl
  refine Ev.bind (kept_spec (C := C) (p := p) hn hl hr hG hGl) ?_
  have hGt : ∀ x, InN n x → idx (tab n G) x = some (G x) := fun x hx => tab_at hx.1 hx.2
  by_cases hA : r.all (okK p r G C) = true
  case neg =>
    rw [if_neg hA, if_neg hA]
    exact Ev.const rfl
  rw [if_pos hA, if_pos hA]
  have hkin : ∀ x, InN n x → ∀ y ∈ (KG p r G C x).2.2, InN n y := fun x hx y hy => by
    have hy : y ∈ kp p r G C x := hy
    unfold kp at hy
    split at hy
    · rename_i hxr
      split at hy
      · rename_i hw
        have ho := List.all_eq_true.1 hA x hxr
        unfold okK at ho
        rw [if_pos hw] at ho
        simp only [Bool.and_eq_true, decide_eq_true_eq] at ho
        have : y = C x := by simpa using hy
        subst this
        exact hr _ ho.2
      · exact hG x hx y hy
    · cases hy
  have hkl : ∀ x, InN n x → (KG p r G C x).2.2.length ≤ 1048576 := fun x hx => by
    show (kp p r G C x).length ≤ _
    unfold kp
    split
    · split
      · simp
      · exact hGl x hx
    · simp
  refine Ev.ite_f (by simp) (Ev.allc r.length (okJn (okBd (kp p r G C) (prG G) p) r) false true (fun k hk => ?_) (Ev.ite_f (by simp) (Ev.pure _)))
  obtain ⟨v, hv⟩ := get_lt hk
  have hin := hr v (List.mem_of_getElem? hv)
  have hW : W ((k : Int) + 1) = ((k + 1 : Nat) : Int) := W_succ hk (by omega)
  have hcyc : Ev (fun m => spec_l23Cycle_m m (tab n (KG p r G C)) v) (cycB (kp p r G C) (prG G) v) := cyc_spec hn hin hkin hkl
  rw [okJn_at hv]
  unfold okBd
  refine Ev.ite_t (decide_eq_true (by omega)) (Ev.bindc (idx_at hv) (Ev.bindc (hGt v hin) (Ev.bind (a := !((prG G v).tmod 2 == p) && cycB (kp p r G C) (prG G) v) ?_ ?_)))
  · cases hpar : ((prG G v).tmod 2 == p)
    · exact Ev.ite_t (by unfold prG at hpar; simp only [bne, hpar]; rfl) (Ev.bind hcyc (Ev.pure _))
    · exact Ev.ite_f (by unfold prG at hpar; simp only [bne, hpar]; simp) (Ev.pure _)
  · cases ((prG G v).tmod 2 == p) <;> cases cycB (kp p r G C) (prG G) v
    · exact Ev.ite_f (by simp) (Ev.const (by rw [hW]; rfl))
    · exact Ev.ite_t rfl (Ev.const rfl)
    · exact Ev.ite_f (by simp) (Ev.const (by rw [hW]; rfl))
    · exact Ev.ite_f (by simp) (Ev.const (by rw [hW]; rfl))
end
theorem win_core {a : List Tlaws_Vertex} (h : a.length ≤ 1048576 ∧ ∀ x ∈ a, x.2.2.length ≤ 1048576) {p : Int} {u c : List Int} (hu : u.length ≤ 1048576) (_hc : c.length ≤ 1048576) :
    ∃ r, Ev (fun m => spec_IsWinningStrategy_m m a p u c) r ∧ Ev (fun m => impl_IsWinningStrategy_m m a p u c) r := by
  have hmx2 : maxLen = 9223372036854775807 := by unfold maxLen; rfl
  have v1 := validG_spec h.1 h.2
  have v2 := validG_impl h.1 h.2
  have i1 := rises_spec (xs := u) (n := W ((a.length : Int) - 1)) (by omega)
  have i2 := increasing_law (xs := u) (n := (a.length : Int)) (by omega)
  have p2 : ∀ m, impl_playerOk_m m p = some (decide (0 ≤ p) && decide (p ≤ 1)) := fun m => by unfold impl_playerOk_m; rw [within_eq]; rfl
  unfold spec_IsWinningStrategy_m impl_IsWinningStrategy_m
  cases hV : validG a
  · rw [hV] at v1 v2
    exact ⟨false, Ev.bind v1 (Ev.bind (a := true) (Ev.ite_t rfl (Ev.pure _)) (Ev.bind (a := true) (Ev.ite_t rfl (Ev.pure _)) (Ev.bind (a := true) (Ev.ite_t rfl (Ev.pure _)) (Ev.ite_t rfl (Ev.pure _))))), Ev.bind v2 (Ev.bind (a := true) (Ev.ite_t rfl (Ev.pure _)) (Ev.bind (a := true) (Ev.ite_t rfl (Ev.pure _)) (Ev.bind (a := true) (Ev.ite_t rfl (Ev.pure _)) (Ev.ite_t rfl (Ev.pure _)))))⟩
  rw [hV] at v1 v2
  cases hP : (decide (0 ≤ p) && decide (p ≤ 1))
  · exact ⟨false, Ev.bind v1 (Ev.bind (a := true) (Ev.ite_f (by simp) (Ev.bind (Ev.const' fun m => l00In_eq) (Ev.const (by rw [hP]; rfl)))) (Ev.bind (a := true) (Ev.ite_t rfl (Ev.pure _)) (Ev.bind (a := true) (Ev.ite_t rfl (Ev.pure _)) (Ev.ite_t rfl (Ev.pure _))))), Ev.bind v2 (Ev.bind (a := true) (Ev.ite_f (by simp) (Ev.bind (Ev.const' p2) (Ev.const (by rw [hP]; rfl)))) (Ev.bind (a := true) (Ev.ite_t rfl (Ev.pure _)) (Ev.bind (a := true) (Ev.ite_t rfl (Ev.pure _)) (Ev.ite_t rfl (Ev.pure _)))))⟩
  have s1 : Ev (fun m => (if (!true) = true then some true else (spec_l00In_m m p (0 : Int) (1 : Int)).bind fun x41 => some (!x41))) false := Ev.ite_f (by simp) (Ev.bind (Ev.const' fun m => l00In_eq) (Ev.const (by rw [hP]; rfl)))
  have s2 : Ev (fun m => (if (!true) = true then some true else (impl_playerOk_m m p).bind fun x44 => some (!x44))) false := Ev.ite_f (by simp) (Ev.bind (Ev.const' p2) (Ev.const (by rw [hP]; rfl)))
  cases hR : rises u (W ((a.length : Int) - 1))
  · rw [hR] at i1 i2
    exact ⟨false, Ev.bind v1 (Ev.bind s1 (Ev.bind (a := true) (Ev.ite_f (by simp) (Ev.bind i1 (Ev.const rfl))) (Ev.bind (a := true) (Ev.ite_t rfl (Ev.pure _)) (Ev.ite_t rfl (Ev.pure _))))), Ev.bind v2 (Ev.bind s2 (Ev.bind (a := true) (Ev.ite_f (by simp) (Ev.bind i2 (Ev.const rfl))) (Ev.bind (a := true) (Ev.ite_t rfl (Ev.pure _)) (Ev.ite_t rfl (Ev.pure _)))))⟩
  rw [hR] at i1 i2
  by_cases hL : c.length = a.length
  case neg =>
    have hne : ((c.length : Int) != (a.length : Int)) = true := by simp; omega
    exact ⟨false, Ev.bind v1 (Ev.bind s1 (Ev.bind (a := false) (Ev.ite_f (by simp) (Ev.bind i1 (Ev.const rfl))) (Ev.bind (a := true) (Ev.ite_f (by simp) (Ev.const (by rw [hne]))) (Ev.ite_t rfl (Ev.pure _))))), Ev.bind v2 (Ev.bind s2 (Ev.bind (a := false) (Ev.ite_f (by simp) (Ev.bind i2 (Ev.const rfl))) (Ev.bind (a := true) (Ev.ite_f (by simp) (Ev.const (by rw [hne]))) (Ev.ite_t rfl (Ev.pure _)))))⟩
  have heq : ((c.length : Int) != (a.length : Int)) = false := by simp; omega
  obtain ⟨n, hnl⟩ : ∃ n, n = a.length := ⟨_, rfl⟩
  obtain ⟨G, hGa⟩ := tab_of ((0, 0, []) : Timpl_Vertex) a
  obtain ⟨C, hCa⟩ := tab_of (0 : Int) c
  rw [hL] at hCa
  rw [← hnl] at hGa hCa
  unfold validG at hV
  simp only [Bool.and_eq_true, decide_eq_true_eq] at hV
  have hn : n ≤ 120 := by omega
  have hn1 : 1 ≤ n := by omega
  have hWn : W ((a.length : Int) - 1) = (n : Int) - 1 := by rw [← hnl]; exact W_of (by omega) (by omega)
  have hur : ∀ v ∈ u, InN n v := fun v hv => by
    have := rises_in hR v hv
    rw [hWn] at this
    exact ⟨this.1, by omega⟩
  have hat : ∀ v, InN n v → G v ∈ a := fun v hv => by
    have := tab_at (f := G) hv.1 hv.2
    rw [← hGa] at this
    exact List.mem_of_getElem? (show a[v.toNat]? = some (G v) by
      have h3 := tab_get (f := G) (show v.toNat < n by have := hv.1; have := hv.2; omega)
      rw [← hGa, show ((v.toNat : Nat) : Int) = v by have := hv.1; omega] at h3
      exact h3)
  have hG : ∀ v, InN n v → ∀ y ∈ (G v).2.2, InN n y := fun v hv y hy => by
    have := List.all_eq_true.1 hV.2 _ (hat v hv)
    unfold okVx at this
    simp only [Bool.and_eq_true] at this
    have := rises_in this.2.2 y hy
    rw [hWn] at this
    exact ⟨this.1, by omega⟩
  have hGl : ∀ v, InN n v → (G v).2.2.length ≤ 1048576 := fun v hv => h.2 _ (hat v hv)
  have hS := win_spec (p := p) (C := C) hn hu hur hG hGl
  have hI := win_impl (p := p) (C := C) hn hu hur hG hGl
  rw [← hGa, ← hCa] at hS hI
  exact ⟨_, Ev.bind v1 (Ev.bind s1 (Ev.bind (a := false) (Ev.ite_f (by simp) (Ev.bind i1 (Ev.const rfl))) (Ev.bind (a := false) (Ev.ite_f (by simp) (Ev.const (by rw [heq]))) (Ev.ite_f (by simp) hS)))), Ev.bind v2 (Ev.bind s2 (Ev.bind (a := false) (Ev.ite_f (by simp) (Ev.bind i2 (Ev.const rfl))) (Ev.bind (a := false) (Ev.ite_f (by simp) (Ev.const (by rw [heq]))) (Ev.ite_f (by simp) hI))))⟩
theorem toB_ints {a : List Int} (h : a.length ≤ 1048576) : Ev (fun n => laws_toInt64S_m n a) a := to_ints h
theorem eqB_ints {a : List Int} (h : a.length ≤ 1048576) : Ev (fun n => laws_eqInt64S_m n a a) true := eq_ints (by have : maxLen = 9223372036854775807 := (by unfold maxLen; rfl); omega)
theorem toB_vtxs {a : List Tlaws_Vertex} (h : a.length ≤ 1048576 ∧ ∀ x ∈ a, x.2.2.length ≤ 1048576) : Ev (fun n => laws_toVertexS_m n a) a := to_vtxs h.1 h.2
theorem eqB_vtxs {a : List Timpl_Vertex} (h : a.length ≤ 1048576 ∧ ∀ x ∈ a, x.2.2.length ≤ 1048576) : Ev (fun n => laws_eqVertexS_m n a a) true :=
  have hm : maxLen = 9223372036854775807 := by unfold maxLen; rfl
  eq_vtxs (by have := h.1; omega) (fun x hx => by have := h.2 x hx; omega)
set_option maxHeartbeats 4000000 in
theorem law_IsWinningStrategy {a : List Tlaws_Vertex} {p : Int} {u : List Int} {c : List Int} (g_a : (GVs) a) (_g_p : (gInt .i64) p) (g_u : (GI) u) (g_c : (GI) c) : ∃ n, laws_FnExactIsWinningStrategy_m n a p u c = some true := by
  have hm : maxLen = 9223372036854775807 := by unfold maxLen; rfl
  refine Ev.one (f := fun n => laws_FnExactIsWinningStrategy_m n a p u c) ?_
  unfold laws_FnExactIsWinningStrategy_m
  by_cases B_u : (1048576 : Int) < (u.length : Int)
  · exact Ev.ite_t (decide_eq_true B_u) (Ev.pure _)
  refine Ev.ite_f (by simpa using B_u) ?_
  replace B_u : u.length ≤ 1048576 := by omega
  by_cases B_c : (1048576 : Int) < (c.length : Int)
  · exact Ev.ite_t (decide_eq_true B_c) (Ev.pure _)
  refine Ev.ite_f (by simpa using B_c) ?_
  replace B_c : c.length ≤ 1048576 := by omega
  obtain ⟨r1, h1, s1⟩ := sz_vtxs g_a (b := (1048576 : Int)) (by omega) (by omega)
  refine Ev.bind h1 ?_
  by_cases n1 : r1 < 0
  · exact Ev.ite_t (decide_eq_true n1) (Ev.pure _)
  rcases s1 with s1 | ⟨p1, q1, B_a⟩
  · exact absurd s1 n1
  refine Ev.ite_f (by simpa using n1) ?_
  obtain ⟨r, hs, hi⟩ := win_core B_a (p := p) B_u B_c
  have to_a_ := toB_vtxs B_a
  have eq_a_ := eqB_vtxs B_a
  have to_u_ := toB_ints B_u
  have eq_u_ := eqB_ints B_u
  have to_c_ := toB_ints B_c
  have eq_c_ := eqB_ints B_c
  repeat (first
    | exact Ev.pure _
    | refine Ev.bind (by with_reducible assumption) ?_
    | refine Ev.ite_f (by first | (simp; done) | (simp; omega)) ?_
    | refine Ev.bind (Ev.ite_f (by first | (simp; done) | (simp; omega)) (Ev.bind (by with_reducible assumption) (Ev.pure _))) ?_
    | refine Ev.bind (a := false) (Ev.ite_f (by first | (simp; done) | (simp; omega)) (Ev.const (by simp))) ?_
    | refine Ev.bind (a := false) (Ev.ite_f (by first | (simp; done) | (simp; omega)) (Ev.bind (by with_reducible assumption) (Ev.const (by simp)))) ?_
    | refine Ev.bindc (by with_reducible rfl) ?_)
end Go.Proofs.Ytecknjdlbmmmiaa

