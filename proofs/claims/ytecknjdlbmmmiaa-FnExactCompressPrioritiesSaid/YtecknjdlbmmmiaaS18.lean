/-
  The plain laws of a statement, joined into one text.
-/
import Derived.Test.YtecknjdlbmmmiaaF0
import Derived.Test.YtecknjdlbmmmiaaF1
import Derived.Test.YtecknjdlbmmmiaaF10
import Derived.Test.YtecknjdlbmmmiaaF2
import Derived.Test.YtecknjdlbmmmiaaF3
import Derived.Test.YtecknjdlbmmmiaaF4
import Derived.Test.YtecknjdlbmmmiaaF5
import Derived.Test.YtecknjdlbmmmiaaF6
import Derived.Test.YtecknjdlbmmmiaaF7
import Derived.Test.YtecknjdlbmmmiaaFS
import Derived.Test.YtecknjdlbmmmiaaGxI
import Derived.Test.YtecknjdlbmmmiaaGxJ
import Derived.Test.YtecknjdlbmmmiaaGxMx
import Derived.Test.YtecknjdlbmmmiaaGxP
import Derived.Test.YtecknjdlbmmmiaaGxU
import Derived.Test.YtecknjdlbmmmiaaLCompressPriorities
namespace Go.Proofs.Ytecknjdlbmmmiaa
open Go.Gx
/-! ### the law's helpers -/
abbrev GI : List Int → Prop := gList (gInt .i64)
theorem sz_ints {a : List Int} (g : GI a) {b : Int} (h0 : 0 ≤ b) (hb : b ≤ 1048576) : ∃ r, Ev (fun n => laws_szInt64S_m n a b) r ∧ Sz b r (a.length ≤ 1048576) := sz_leaf h0 hb g.1
theorem to_ints {a : List Int} (hl : a.length ≤ 1048576) : Ev (fun n => laws_toInt64S_m n a) a := by
  have := to_loop («to» := fun _ (x : Int) => some x) (f := id) (a := a) (z := 0) (fun x _ => Ev.pure x) hl
  rw [List.map_id] at this
  exact this
theorem eq_ints {a : List Int} (hl : a.length ≤ maxLen) : Ev (fun n => laws_eqInt64S_m n a a) true := eq_loop_ints hl
/-! ### rising lists -/
def okAt (xs : List Int) (n : Int) (k : Nat) : Bool := match xs[k]? with
  | none => true
  | some x => decide (0 ≤ x) && decide (x ≤ n) && (k == 0 || (match xs[k - 1]? with | none => true | some y => decide (y < x)))
def rises (xs : List Int) (n : Int) : Bool := decide (∀ k, k < xs.length → okAt xs n k = true)

theorem l00In_eq {n : Nat} {a b c : Int} : spec_l00In_m n a b c = some (decide (b ≤ a) && decide (a ≤ c)) := by
  unfold spec_l00In_m
  by_cases h : b ≤ a <;> simp [h]
theorem within_eq {n : Nat} {a b c : Int} : impl_within_m n a b c = some (decide (b ≤ a) && decide (a ≤ c)) := by
  unfold impl_within_m
  by_cases h : b ≤ a <;> simp [h]
theorem index_eq {n : Nat} {a b : Int} : impl_index_m n a b = some (decide (0 ≤ a) && decide (a ≤ W (b - 1))) := by
  unfold impl_index_m
  simp [within_eq]

theorem rises_spec {xs : List Int} (hl : xs.length ≤ maxLen) {n : Int} : Ev (fun m => spec_l00Rises_m m xs 0 n) (rises xs n) := by
  have hm := maxLen_le
  unfold spec_l00Rises_m
  refine (Ev.all xs.length (okAt xs n) false true (fun k hk hok => Ev.const' fun m => ?_) (fun k hk hok => Ev.const' fun m => ?_) (Ev.ite_f (by simp) (Ev.pure _))).eq (by unfold rises; split <;> simp_all)
  all_goals
    obtain ⟨x, hx⟩ := get_lt hk
    have w1 := W_succ hk (by omega)
    have hk' : decide ((k : Int) < (xs.length : Int)) = true := by simpa using hk
    simp only [hk', if_true, idx_at hx, l00In_eq, Option.bind_some]
    cases k with
    | zero => simp only [okAt, hx, w1] at hok ⊢; by_cases h1 : 0 ≤ x <;> by_cases h2 : x ≤ n <;> simp [h1, h2] at hok ⊢
    | succ j =>
      obtain ⟨y, hy⟩ := get_lt (xs := xs) (k := j) (by omega)
      have w2 := W_pred (k := j) (n := xs.length) (by omega) (by omega)
      simp only [okAt, hx, hy, w1, w2, idx_at hy, Option.bind_some, Nat.add_sub_cancel] at hok ⊢
      by_cases h1 : 0 ≤ x <;> by_cases h2 : x ≤ n <;> by_cases h3 : y < x <;> simp [h1, h2, h3] at hok ⊢

theorem increasing_law {xs : List Int} (hl : xs.length ≤ maxLen) {n : Int} : Ev (fun m => impl_increasing_m m xs n) (rises xs (W (n - 1))) := by
  have hm := maxLen_le
  unfold impl_increasing_m
  refine (Ev.all xs.length (okAt xs (W (n - 1))) false true (fun k hk hok => Ev.const' fun m => ?_) (fun k hk hok => Ev.const' fun m => ?_) (Ev.ite_f (by simp) (Ev.pure _))).eq (by unfold rises; split <;> simp_all)
  all_goals
    obtain ⟨x, hx⟩ := get_lt hk
    have w1 := W_succ hk (by omega)
    have hk' : decide ((k : Int) < (xs.length : Int)) = true := by simpa using hk
    simp only [hk', if_true, idx_at hx, index_eq, Option.bind_some]
    generalize W (n - 1) = n at *
    cases k with
    | zero => simp only [okAt, hx, w1] at hok ⊢; by_cases h1 : 0 ≤ x <;> by_cases h2 : x ≤ n <;> simp [h1, h2] at hok ⊢
    | succ j =>
      obtain ⟨y, hy⟩ := get_lt (xs := xs) (k := j) (by omega)
      have w2 := W_pred (k := j) (n := xs.length) (by omega) (by omega)
      simp only [okAt, hx, hy, w1, w2, idx_at hy, Option.bind_some, Nat.add_sub_cancel] at hok ⊢
      by_cases h1 : 0 ≤ x <;> by_cases h2 : x ≤ n <;> by_cases h3 : y < x <;> simp [h1, h2, h3] at hok ⊢

/-! ### marks -/
theorem marks_ints {a : List Int} {k : Int} (hl : a.length ≤ 1048576) (h0 : 1 ≤ k) (hk : k ≤ 4611686018427387904 - 1048576) :
    ∃ k' ys, Ev (fun n => laws_markInt64S_m n a k) (k', ys) ∧ Ev (fun n => laws_heldInt64S_m n ys k) k' ∧ k ≤ k' ∧ k' ≤ k + (a.length * 1 : Nat) ∧ ys.length = a.length := by
  unfold laws_markInt64S_m laws_heldInt64S_m
  refine mark_held (p := fun _ => True) (fun _ _ => trivial) h0 (by omega)
    (fun xs k i x hxl hx _ h1 h2 => ⟨k, k + 1, Ev.const' fun m => ?_, by omega, by omega, fun ys hyl hy => Ev.const' fun m => ?_⟩) (fun xs k hxl => ?_) (fun ys k hyl => ?_)
  · have hi : i < xs.length := (List.getElem?_eq_some_iff.1 hx).1
    simp [idx_at hx, W_succ (k := i) (n := xs.length) hi (by omega), W_of (n := k + 1) (by omega) (by omega), hi]
  · have hi : i < ys.length := (List.getElem?_eq_some_iff.1 hy).1
    simp [idx_at hy, W_succ (k := i) (n := ys.length) hi (by omega), W_of (n := k + 1) (by omega) (by omega), hi]
  · exact Ev.const' fun m => by simp [hxl]
  · exact Ev.const' fun m => by simp [hyl]

theorem own_ints {a : List Int} (hl : a.length ≤ 1048576) : Ev (fun m => spec_l00Own_m m a) a := Ev.bindc (app_ok (by simp; omega)) (Ev.pure _)
theorem clone_ints {a : List Int} (hl : a.length ≤ 1048576) : Ev (fun m => slices_Clone__int64_int64_m m a) a := Ev.bindc (app_ok (by simp; omega)) (Ev.pure _)

/-! ### places in a list -/
def pos (xs : List Int) (c : Int) : Int := match xs.findIdx? (· == c) with
  | some k => (k : Int)
  | none => -1

theorem pos_of {xs : List Int} {c r : Int} (h : (r = -1 ∧ xs.all (fun x => !(x == c)) = true) ∨ ∃ k x, k < xs.length ∧ r = (k : Int) ∧ xs[k]? = some x ∧ (!(x == c)) = false ∧ ∀ j y, j < k → xs[j]? = some y → (!(y == c)) = true) : r = pos xs c := by
  unfold pos
  rcases h with ⟨rfl, h⟩ | ⟨k, x, hk, rfl, hx, hc, hj⟩
  · have : xs.findIdx? (· == c) = none := by
      rw [List.findIdx?_eq_none_iff]
      intro x hx
      rw [List.all_eq_true] at h
      simpa using h x hx
    rw [this]
  · have : xs.findIdx? (· == c) = some k := by
      rw [List.findIdx?_eq_some_iff_getElem]
      refine ⟨hk, ?_, fun j hjk => ?_⟩
      · have : xs[k] = x := by rw [List.getElem?_eq_getElem hk] at hx; exact Option.some.inj hx
        rw [this]; simpa using hc
      · have := hj j xs[j] hjk (List.getElem?_eq_getElem (by omega))
        simpa using this
    rw [this]

theorem place_ints {xs : List Int} {c : Int} (hl : xs.length ≤ maxLen) : Ev (fun m => spec_l11Place_m m xs c) (pos xs c) := by
  obtain ⟨r, h1, h2⟩ := index_loop hl (f := fun _ x => some (x == c)) (ok := fun x => !(x == c)) (fun x _ => Ev.const (by simp))
  rw [pos_of h2] at h1
  exact h1
/-! ### games -/
def okVx (n : Int) (x : Timpl_Vertex) : Bool := (decide (0 ≤ x.1) && decide (x.1 ≤ 1)) && ((decide (0 ≤ x.2.1) && decide (x.2.1 ≤ 9)) && rises x.2.2 n)
def validG (a : List Timpl_Vertex) : Bool := decide (1 ≤ a.length ∧ a.length ≤ 120) && a.all (okVx (W ((a.length : Int) - 1)))

theorem validG_impl {a : List Timpl_Vertex} (hl : a.length ≤ 1048576) (g : ∀ x ∈ a, x.2.2.length ≤ 1048576) : Ev (fun m => impl_ValidGame_m m a) (validG a) := by
  have hm : maxLen = 9223372036854775807 := by unfold maxLen; rfl
  unfold impl_ValidGame_m validG
  simp only [within_eq, Option.bind_some]
  have hfind : Ev (fun m => slices_ContainsFunc__impl_Vertex_impl_Vertex_m m a (fun (z0 : Timpl_Vertex) => impl_ValidGame_1_m m z0 a)) (!(a.all (okVx (W ((a.length : Int) - 1))))) := by
    refine contains_loop (by omega) (f := fun m z0 => impl_ValidGame_1_m m z0 a) (fun x hx => ?_)
    have hi := increasing_law (xs := x.2.2) (n := (a.length : Int)) (by have := g x hx; omega)
    unfold impl_ValidGame_1_m okVx
    simp only [within_eq, Option.bind_some]
    cases (decide (0 ≤ x.1) && decide (x.1 ≤ 1)) with
    | false => exact Ev.bind (a := true) (Ev.pure _) (Ev.bind (a := true) (Ev.ite_t rfl (Ev.pure _)) (Ev.pure _))
    | true =>
      cases (decide (0 ≤ x.2.1) && decide (x.2.1 ≤ 9)) with
      | false => exact Ev.bind (a := true) (Ev.pure _) (Ev.bind (a := true) (Ev.ite_t rfl (Ev.pure _)) (Ev.pure _))
      | true => exact Ev.bind (a := false) (Ev.pure _) (Ev.bind (Ev.ite_f (by simp) (Ev.bind hi (Ev.pure _))) (Ev.pure _))
  by_cases h1 : 1 ≤ a.length ∧ a.length ≤ 120
  · refine Ev.eq (Ev.ite_f (by simp; omega) (Ev.bind hfind (Ev.pure _))) ?_
    simp [h1]
  · refine Ev.eq (Ev.ite_t (by simp; omega) (Ev.pure _)) ?_
    simp; omega

theorem validG_spec {a : List Timpl_Vertex} (hl : a.length ≤ 1048576) (g : ∀ x ∈ a, x.2.2.length ≤ 1048576) : Ev (fun m => spec_l23Is_m m a) (validG a) := by
  have hm : maxLen = 9223372036854775807 := by unfold maxLen; rfl
  unfold spec_l23Is_m validG
  by_cases h1 : 1 ≤ a.length ∧ a.length ≤ 120
  · refine Ev.bind (a := false) (Ev.const (by rw [or_some, show ((a.length : Int) == 0) = false from by rw [beq_eq_false_iff_ne]; omega, show decide ((120 : Int) < a.length) = false from decide_eq_false (by omega)]; rfl)) (Ev.ite_f (by simp) ?_)
    have key : ∀ (k : Nat) (x : Timpl_Vertex), a[k]? = some x → ∀ {A B : Option (Int ⊕ (Unit ⊕ Bool))} {r}, (if (!okVx (W ((a.length : Int) - 1)) x) = true then A else B) = some r → Ev (fun m => (idx a (k : Int)).bind fun x183 => (spec_l00In_m m x183.1 (0 : Int) (1 : Int)).bind fun x200 => (if (!x200) = true then some true else (idx a (k : Int)).bind fun x206 => (spec_l00In_m m x206.2.1 (0 : Int) (9 : Int)).bind fun x223 => some (!x223)).bind fun t203 => (if t203 = true then some true else (idx a (k : Int)).bind fun x229 => (spec_l00Rises_m m x229.2.2 (0 : Int) (W ((a.length : Int) - (1 : Int)))).bind fun x246 => some (!x246)).bind fun t226 => (if t226 = true then A else B)) r := by
      intro k x hx A B r hr
      have hi := rises_spec (xs := x.2.2) (n := W ((a.length : Int) - 1)) (by have := g x (List.mem_of_getElem? hx); omega)
      simp only [idx_at hx, Option.bind_some, l00In_eq]
      revert hr
      unfold okVx
      cases (decide (0 ≤ x.1) && decide (x.1 ≤ 1)) with
      | false => exact fun hr => Ev.bind (a := true) (Ev.pure _) (Ev.bind (a := true) (Ev.ite_t rfl (Ev.pure _)) (Ev.const hr))
      | true =>
        cases (decide (0 ≤ x.2.1) && decide (x.2.1 ≤ 9)) with
        | false => exact fun hr => Ev.bind (a := true) (Ev.pure _) (Ev.bind (a := true) (Ev.ite_t rfl (Ev.pure _)) (Ev.const hr))
        | true => exact fun hr => Ev.bind (a := false) (Ev.pure _) (Ev.bind (Ev.ite_f (by simp) (Ev.bind hi (Ev.pure _))) (Ev.const hr))
    refine (Ev.all (step := _) a.length (fun k => match a[k]? with | none => true | some x => okVx (W ((a.length : Int) - 1)) x) false true (fun k hk hok => ?_) (fun k hk hok => ?_) (Ev.ite_f (by simp) (Ev.pure _))).eq ?_
    · obtain ⟨x, hx⟩ := get_lt hk
      simp only [hx] at hok
      exact Ev.ite_t (decide_eq_true (by omega)) (key k x hx (by rw [hok, W_succ hk (by omega)]; rfl))
    · obtain ⟨x, hx⟩ := get_lt hk
      simp only [hx] at hok
      exact Ev.ite_t (decide_eq_true (by omega)) (key k x hx (by rw [hok]; rfl))
    · rw [all_list (ok := okVx (W ((a.length : Int) - 1))) (fun k => by cases a[k]? <;> rfl)]
      rw [decide_eq_true (by omega), Bool.true_and]
      cases a.all (okVx (W ((a.length : Int) - 1))) <;> rfl
  · refine Ev.bind (a := true) (Ev.const (by rw [or_some, show ((a.length : Int) == 0 || decide ((120 : Int) < a.length)) = true from by rw [Bool.or_eq_true, beq_iff_eq, decide_eq_true_eq]; omega])) (Ev.eq (Ev.ite_t rfl (Ev.pure _)) ?_)
    rw [decide_eq_false h1, Bool.false_and]

abbrev GV : Tlaws_Vertex → Prop := gAnd (gInt .i64) (gAnd (gInt .i64) GI)
abbrev GVs : List Tlaws_Vertex → Prop := gList GV

theorem sz_vtx {x : Tlaws_Vertex} (g : GV x) {b : Int} (h0 : 0 ≤ b) (hb : b ≤ 1048576) : ∃ r, Ev (fun n => laws_szVertex_m n x b) r ∧ Sz b r (x.2.2.length ≤ 1048576) := by
  obtain ⟨r, h1, h2⟩ := sz_ints g.2.2 h0 hb
  by_cases h : r < 0
  · exact ⟨-1, Ev.bind h1 (Ev.ite_t (by simpa using h) (Ev.pure _)), .inl (by omega)⟩
  · exact ⟨r, Ev.bind h1 (Ev.ite_f (by simpa using h) (Ev.pure _)), h2⟩
theorem sz_vtxs {a : List Tlaws_Vertex} (g : GVs a) {b : Int} (h0 : 0 ≤ b) (hb : b ≤ 1048576) : ∃ r, Ev (fun n => laws_szVertexS_m n a b) r ∧ Sz b r (a.length ≤ 1048576 ∧ ∀ x ∈ a, x.2.2.length ≤ 1048576) :=
  sz_loop (fun x hx _ h0 hb => sz_vtx (g.2 x hx) h0 hb) g.1 h0 hb

theorem to_vtx {x : Tlaws_Vertex} (hl : x.2.2.length ≤ 1048576) : Ev (fun n => laws_toVertex_m n x) x := Ev.bind (to_ints hl) (Ev.pure _)
theorem to_vtxs {a : List Tlaws_Vertex} (hl : a.length ≤ 1048576) (h : ∀ x ∈ a, x.2.2.length ≤ 1048576) : Ev (fun n => laws_toVertexS_m n a) a := by
  have := to_loop («to» := fun n x => laws_toVertex_m n x) (f := id) (a := a) (z := (0, 0, [])) (fun x hx => to_vtx (h x hx)) hl
  rw [List.map_id] at this
  exact this

theorem eq_vtx {x : Timpl_Vertex} (hl : x.2.2.length ≤ maxLen) : Ev (fun n => laws_eqVertex_m n x x) true :=
  Ev.ite_f (by simp) (Ev.ite_f (by simp) (Ev.bind (eq_ints hl) (Ev.ite_f (by simp) (Ev.pure _))))
theorem eq_vtxs {a : List Timpl_Vertex} (hl : a.length ≤ maxLen) (h : ∀ x ∈ a, x.2.2.length ≤ maxLen) : Ev (fun n => laws_eqVertexS_m n a a) true :=
  eq_loop (eq := fun n x y => laws_eqVertex_m n x y) (fun x hx => eq_vtx (h x hx)) hl

theorem marksH_vtxs {a : List Timpl_Vertex} {k : Int} (hl : a.length ≤ 1048576) (g : ∀ x ∈ a, x.2.2.length ≤ 1048576) (h0 : 1 ≤ k) (hk : k ≤ 4503599627370496) :
    ∃ k' ys, Ev (fun n => laws_markVertexS_m n a k) (k', ys) ∧ Ev (fun n => laws_heldVertexS_m n ys k) k' ∧ k ≤ k' ∧ k' ≤ k + (a.length * 1048578 : Nat) ∧ ys.length = a.length := by
  unfold laws_markVertexS_m laws_heldVertexS_m
  refine mark_held (p := fun x => x.2.2.length ≤ 1048576) g h0 (by omega) (fun xs k i x hxl hx hp h1 h2 => ?_) (fun xs k hxl => Ev.const' fun m => by simp [hxl]) (fun ys k hyl => Ev.const' fun m => by simp [hyl])
  have hi : i < xs.length := (List.getElem?_eq_some_iff.1 hx).1
  have w2 : W (k + 1) = k + 1 := W_of (by omega) (by omega)
  have w3 : W (k + 1 + 1) = k + 1 + 1 := W_of (by omega) (by omega)
  obtain ⟨k', ys, e1, e2, e3, e4, _⟩ := marks_ints (a := x.2.2) (k := k + 1 + 1) hp (by omega) (by omega)
  refine ⟨(k, W (k + 1), ys), k', Ev.eq (Ev.ite_t (by simp [hi]) (Ev.bindc (idx_at hx) (Ev.bindc (idx_set hi) (Ev.bindc (idx_set (by simpa using hi)) (Ev.bind (a := (k', ys)) ?_ (Ev.pure _)))))) ?_, by omega, by omega, fun zs hzl hz => ?_⟩
  · rw [w2, w3]; exact e1
  · simp only [Int.toNat_natCast, List.set_set, W_succ (k := i) (n := xs.length) hi (by omega)]
  · have hi : i < zs.length := (List.getElem?_eq_some_iff.1 hz).1
    refine Ev.eq (Ev.ite_t (by simp [hi]) (Ev.bindc (idx_at hz) (Ev.ite_f (by simp) (Ev.bindc (idx_at hz) (Ev.ite_f (by simp) (Ev.bindc (idx_at hz) (Ev.bind (a := k') ?_ (Ev.ite_f (by simp; omega) (Ev.pure _))))))))) ?_
    · rw [w2, w3]; exact e2
    · rw [W_succ (k := i) (n := zs.length) hi (by omega)]
theorem EvI.tab {β ρ : Type} {step : Nat → List β × Int → Option ((List β × Int) ⊕ (List β ⊕ ρ))} (n : Nat) (f : Nat → β)
    (hs : ∀ k (xs : List β), k < n → xs.length = k → Ev (fun m => step m (xs, (k : Int))) (.inl (xs ++ [f k], ((k + 1 : Nat) : Int)))) (hn : ∀ xs : List β, Ev (fun m => step m (xs, (n : Int))) (.inr (.inl xs))) :
    EvI step ([], 0) (.inl ((List.range n).map f)) := by
  refine EvI.upto n (fun k (_ : Unit) => ((List.range k).map f, (k : Int))) (fun _ _ => True) (k := 0) (t := ()) rfl (Nat.zero_le _) trivial (fun k t hk _ => ⟨(), ?_, trivial⟩) (fun t _ => hn _)
  refine (hs k _ hk (by simp)).eq ?_
  rw [List.range_succ, List.map_append]; rfl

theorem sort_ints {l : List Int} (hl : l.length ≤ 1048576) (m : Nat) : slices_Sort__int64_int64_m m l = some (srt l) := by
  unfold slices_Sort__int64_int64_m
  rw [if_pos (by omega)]

theorem pos_spec {xs : List Int} {c : Int} (h : c ∈ xs) : ∃ k : Nat, pos xs c = k ∧ xs[k]? = some c := by
  unfold pos
  cases hf : xs.findIdx? (· == c) with
  | none =>
    rw [List.findIdx?_eq_none_iff] at hf
    have := hf c h
    simp at this
  | some k =>
    obtain ⟨hk, h1, _⟩ := List.findIdx?_eq_some_iff_getElem.1 hf
    exact ⟨k, rfl, by rw [List.getElem?_eq_getElem hk]; simpa using h1⟩
section
variable {α : Type} {n k : Nat} {A B : Int → α}
theorem tabG_of (d : α) (l : List α) : ∃ f : Int → α, l = tab l.length f := by
  refine ⟨fun v => (l[v.toNat]?).getD d, List.ext_getElem? fun k => ?_⟩
  by_cases hk : k < l.length
  · rw [tab_get hk, List.getElem?_eq_getElem hk]
    simp [hk]
  · rw [List.getElem?_eq_none (by omega), List.getElem?_eq_none (by rw [tab_len]; omega)]
theorem tabG_next {z : α} (hz : z = A (k : Int)) : (tab n (fun v => if v < (k : Int) then A v else B v)).set ((k : Int)).toNat z = tab n (fun v => if v < ((k + 1 : Nat) : Int) then A v else B v) := by
  rw [tab_set (by omega)]
  refine tab_congr fun v h0 h1 => ?_
  by_cases e : v = (k : Int)
  · subst e; rw [upd_eq, if_pos (by omega), hz]
  · rw [upd_ne e]
    by_cases h : v < (k : Int)
    · rw [if_pos h, if_pos (by omega)]
    · rw [if_neg h, if_neg (by omega)]
theorem tabG_first : tab n (fun v => if v < ((0 : Nat) : Int) then A v else B v) = tab n B := tab_congr fun v h0 h1 => if_neg (by omega)
theorem tabG_last : tab n (fun v => if v < (n : Int) then A v else B v) = tab n A := tab_congr fun _v _h0 h1 => if_pos h1
theorem tabG_cur (hk : k < n) : (tab n (fun v => if v < (k : Int) then A v else B v))[k]? = some (B (k : Int)) := by
  rw [tab_get hk, if_neg (by omega)]
theorem tabG_mem {f : Int → α} {x : α} (h : x ∈ tab n f) : ∃ k, k < n ∧ x = f (k : Int) := by
  simp only [tab, List.mem_map, List.mem_range] at h
  obtain ⟨k, hk, rfl⟩ := h
  exact ⟨k, hk, rfl⟩
end
theorem ownG_spec {a : List Timpl_Vertex} (hl : a.length ≤ 120) (g : ∀ x ∈ a, x.2.2.length ≤ 1048576) : Ev (fun m => spec_l23Own_m m a) a := by
  have hmx2 : maxLen = 9223372036854775807 := by unfold maxLen; rfl
  unfold spec_l23Own_m
  refine Ev.bind (EvI.upto (b := (.inl a : List Timpl_Vertex ⊕ List Timpl_Vertex)) (step := _) a.length (fun k (_ : Unit) => (a.take k, (k : Int))) (fun _ _ => True) (k := 0) (t := ()) rfl (Nat.zero_le _) trivial (fun k _ hk _ => ⟨(), ?_, trivial⟩) (fun _ _ => Ev.eq (Ev.ite_f (by simp) (Ev.pure _)) (by rw [List.take_length]))).ev (Ev.const rfl)
  obtain ⟨x, hx⟩ := get_lt hk
  refine Ev.ite_t (decide_eq_true (by omega)) (Ev.bindc (idx_at hx) (Ev.bindc (idx_at hx) (Ev.bindc (idx_at hx) (Ev.bind (own_ints (g x (List.mem_of_getElem? hx))) (Ev.bindc (app_ok (by simp; omega)) (Ev.const ?_))))))
  rw [W_succ hk (by omega), List.take_add_one, hx]
  rfl
def rdV (x : Timpl_Vertex) : Int × Int × Mx (List Int) := (x.1, x.2.1, Mx.rd x.2.2)
def owV (x : Timpl_Vertex) : Int × Int × Mx (List Int) := (x.1, x.2.1, Mx.own x.2.2)
theorem cloneG {n : Nat} {G : Int → Timpl_Vertex} (hn : n ≤ 120) (g : ∀ k, k < n → (G (k : Int)).2.2.length ≤ 1048576) : Ev (fun m => impl_cloneGame_m m (tab n G)) (tab n G) := by
  have hmx2 : maxLen = 9223372036854775807 := by unfold maxLen; rfl
  unfold impl_cloneGame_m
  have hm : (tab n G).map (fun x => (x.1, x.2.1, Mx.rd x.2.2)) = tab n fun v => rdV (G v) := by
    unfold tab
    rw [List.map_map]
    rfl
  refine Ev.bind (a := tab n fun v => rdV (G v)) ?_ ?_
  · refine Ev.const' fun m => ?_
    unfold slices_Clone__impl_Vertex_impl_Vertex_m
    rw [hm, app_ok (by rw [tab_len]; simp; omega)]
    rfl
  rw [tab_len]
  refine Ev.bind (a := (.inl (tab n fun v => owV (G v)) : List (Int × Int × Mx (List Int)) ⊕ List Timpl_Vertex)) (EvI.upto (step := _) n (fun k (_ : Unit) => (tab n (fun v => if v < (k : Int) then owV (G v) else rdV (G v)), (k : Int))) (fun _ _ => True) (k := 0) (t := ()) (by rw [tabG_first (A := fun v => owV (G v)) (B := fun v => rdV (G v))]; rfl) (Nat.zero_le _) trivial (fun k _ hk _ => ⟨(), ?_, trivial⟩) (fun _ _ => Ev.eq (Ev.ite_f (by simp) (Ev.pure _)) (by rw [tabG_last (A := fun v => owV (G v)) (B := fun v => rdV (G v))]))).ev ?_
  · have hc := tabG_cur (A := fun v => owV (G v)) (B := fun v => rdV (G v)) hk
    refine Ev.ite_t (decide_eq_true (by omega)) (Ev.bindc (idx_at hc) (Ev.bindc (a := (G (k : Int)).2.2) rfl (Ev.bind (clone_ints (g k hk)) (Ev.bindc (idx_at hc) (Ev.const ?_)))))
    exact congrArg some (congrArg Sum.inl (Prod.ext (tabG_next (A := fun v => owV (G v)) (B := fun v => rdV (G v)) rfl) (W_succ hk (by omega))))
  · have ha : allO (prodO some (prodO some Mx.mine)) (tab n fun v => owV (G v)) = some (tab n G) := by
      unfold tab
      exact allO_map (f := prodO some (prodO some Mx.mine)) (g := fun (k : Nat) => owV (G (k : Int))) (k := fun (k : Nat) => G (k : Int)) (fun k => rfl) _
    exact Ev.bindc ha (Ev.pure _)
/-! ### a number put to its place -/
def insQ (v : Int) : List Int → List Int
  | [] => [v]
  | x :: r => if v ≤ x then (if v < x then v :: x :: r else x :: r) else x :: insQ v r
theorem mem_insQ {v y : Int} : ∀ {l : List Int}, y ∈ insQ v l ↔ y = v ∨ y ∈ l
  | [] => by simp [insQ]
  | x :: r => by
    unfold insQ
    by_cases h1 : v ≤ x
    · rw [if_pos h1]
      by_cases h2 : v < x
      · rw [if_pos h2]; simp
      · rw [if_neg h2]
        have : v = x := by omega
        subst this
        simp
    · rw [if_neg h1, List.mem_cons, mem_insQ (l := r), List.mem_cons]
      constructor
      · rintro (h | h | h)
        · exact .inr (.inl h)
        · exact .inl h
        · exact .inr (.inr h)
      · rintro (h | h | h)
        · exact .inr (.inl h)
        · exact .inl h
        · exact .inr (.inr h)
theorem inc_insQ {v : Int} : ∀ {l : List Int}, l.Pairwise (· < ·) → (insQ v l).Pairwise (· < ·)
  | [], _ => by simp [insQ]
  | x :: r, h => by
    obtain ⟨hx, hr⟩ := List.pairwise_cons.1 h
    unfold insQ
    by_cases h1 : v ≤ x
    · rw [if_pos h1]
      by_cases h2 : v < x
      · rw [if_pos h2]
        refine List.pairwise_cons.2 ⟨fun y hy => ?_, h⟩
        rcases List.mem_cons.1 hy with rfl | hy
        · exact h2
        · have := hx y hy; omega
      · rw [if_neg h2]; exact h
    · rw [if_neg h1]
      refine List.pairwise_cons.2 ⟨fun y hy => ?_, inc_insQ hr⟩
      rcases mem_insQ.1 hy with rfl | hy
      · omega
      · exact hx y hy
theorem insQ_len {v : Int} : ∀ {l : List Int}, (insQ v l).length ≤ l.length + 1
  | [] => by simp [insQ]
  | x :: r => by
    unfold insQ
    split
    · split <;> simp
    · have := insQ_len (v := v) (l := r)
      simp only [List.length_cons]; omega
/-- What is still to come behind a list in the making. -/
def finQ (v : Int) (xs : List Int) (b : Bool) (r : List Int) : List Int := if b = true then xs ++ r else xs ++ insQ v r
theorem putQ_spec {l : List Int} {v : Int} (hl : l.length ≤ 1048576) : Ev (fun m => spec_l00Put_m m l v) (insQ v l) := by
  have hmx2 : maxLen = 9223372036854775807 := by unfold maxLen; rfl
  unfold spec_l00Put_m
  refine Exists.elim (EvI.count (β := (List Int × Bool) ⊕ List Int) (step := _) l.length (fun k (t : List Int × Bool) => (t.1, t.2, (k : Int))) (fun k t => finQ v t.1 t.2 (l.drop k) = insQ v l ∧ t.1.length + (if t.2 = true then 0 else 1) ≤ k + 1) (fun r => ∃ xs b, r = Sum.inl (xs, b) ∧ finQ v xs b [] = insQ v l ∧ xs.length + (if b = true then 0 else 1) ≤ l.length + 1) ?_ ?_ (k := 0) (t := ([], false)) (Nat.zero_le _) ⟨by simp [finQ], by simp⟩) (fun res ⟨h1, h2⟩ => Ev.bind h1.ev ?_)
  · rintro k ⟨xs, b⟩ hk ⟨hI, hx⟩
    dsimp only at hI hx ⊢
    left
    obtain ⟨x, hxk⟩ := get_lt hk
    have hd : l.drop k = x :: l.drop (k + 1) := by
      rw [List.drop_eq_getElem_cons hk]
      congr 1
      exact Option.some.inj ((List.getElem?_eq_getElem hk).symm.trans hxk)
    rw [hd] at hI
    cases b
    · replace hx : xs.length + 1 ≤ k + 1 := by simpa using hx
      by_cases h1 : v ≤ x
      · by_cases h2 : v < x
        · refine ⟨(xs ++ [v] ++ [x], true), Ev.ite_t (decide_eq_true (by omega)) (Ev.join (Ev.bindc (a := true) (by simp [idx_at hxk, h1]) (Ev.ite_t rfl (Ev.bindc (idx_at hxk) (Ev.ite_t (decide_eq_true h2) (Ev.bindc (app_ok (by simp; omega)) (Ev.bindc (idx_at hxk) (Ev.bindc (app_ok (by simp; omega)) (Ev.const ?_))))))))), ?_, by simp; omega⟩
          · rw [W_succ hk (by omega)]
          · rw [← hI]; simp [finQ, insQ, h1, h2]
        · refine ⟨(xs ++ [x], true), Ev.ite_t (decide_eq_true (by omega)) (Ev.join (Ev.bindc (a := true) (by simp [idx_at hxk, h1]) (Ev.ite_t rfl (Ev.bindc (idx_at hxk) (Ev.ite_f (by simpa using h2) (Ev.bindc (idx_at hxk) (Ev.bindc (app_ok (by simp; omega)) (Ev.const ?_)))))))), ?_, by simp; omega⟩
          · rw [W_succ hk (by omega)]
          · rw [← hI]; simp [finQ, insQ, h1, h2]
      · refine ⟨(xs ++ [x], false), Ev.ite_t (decide_eq_true (by omega)) (Ev.join (Ev.bindc (a := false) (by simp [idx_at hxk, h1]) (Ev.ite_f (by simp) (Ev.bindc (idx_at hxk) (Ev.bindc (app_ok (by simp; omega)) (Ev.const ?_)))))), ?_, by simp; omega⟩
        · rw [W_succ hk (by omega)]
        · rw [← hI]; simp [finQ, insQ, h1]
    · replace hx : xs.length ≤ k + 1 := by simpa using hx
      refine ⟨(xs ++ [x], true), Ev.ite_t (decide_eq_true (by omega)) (Ev.join (Ev.bindc (a := false) (by simp) (Ev.ite_f (by simp) (Ev.bindc (idx_at hxk) (Ev.bindc (app_ok (by simp; omega)) (Ev.const ?_)))))), ?_, by simp; omega⟩
      · rw [W_succ hk (by omega)]
      · rw [← hI]; simp [finQ]
  · rintro ⟨xs, b⟩ ⟨hI, hx⟩
    dsimp only at hI hx ⊢
    rw [List.drop_of_length_le (Nat.le_refl _)] at hI
    exact ⟨_, Ev.ite_f (by simp) (Ev.pure _), xs, b, rfl, hI, hx⟩
  · obtain ⟨xs, b, rfl, h3, h4⟩ := h2
    simp only [ctl]
    refine Ev.join ?_
    have h5 : xs.length ≤ l.length + 1 := by omega
    cases b
    · refine Ev.ite_t rfl (Ev.bindc (app_ok (by simp; omega)) (Ev.const ?_))
      rw [← h3]; simp [finQ, insQ]
    · refine Ev.ite_f (by simp) (Ev.const ?_)
      rw [← h3]; simp [finQ]


theorem compQ_inc {zs : List Int} (h : zs.Pairwise (· ≤ ·)) : (Lib.compact zs).Pairwise (· < ·) ∧ ∀ v, v ∈ Lib.compact zs ↔ v ∈ zs := by
  have hle : ∀ i j : Nat, i < j → j < zs.length → zs.toArray[i]! ≤ zs.toArray[j]! := by
    intro i j hij hj
    rw [getElem!_pos zs.toArray i (by simpa using (by omega : i < zs.length)), getElem!_pos zs.toArray j (by simpa using hj)]
    simpa using List.pairwise_iff_getElem.1 h i j (by omega) hj hij
  have key : ∀ m, m ≤ zs.length → (Lib.compactUpTo zs.toArray m).Pairwise (· < ·) ∧ ∀ v, v ∈ Lib.compactUpTo zs.toArray m ↔ ∃ j, j < m ∧ zs.toArray[j]! = v := by
    intro m
    induction m with
    | zero => intro _; refine ⟨by simp [Lib.compactUpTo], fun v => ?_⟩; simp [Lib.compactUpTo]
    | succ m ih =>
      intro hm
      obtain ⟨h1, h2⟩ := ih (by omega)
      rw [Lib.compactUpTo_succ]
      cases hk : Lib.keeps zs.toArray m
      · refine ⟨by simpa using h1, fun v => ?_⟩
        simp only [Bool.false_eq_true, if_false, List.append_nil]
        rw [h2 v]
        constructor
        · rintro ⟨j, a, b⟩; exact ⟨j, by omega, b⟩
        · rintro ⟨j, a, b⟩
          by_cases hj : j = m
          · subst hj
            have hz : 0 < j ∧ zs.toArray[j]! = zs.toArray[j - 1]! := by
              unfold Lib.keeps at hk
              have := of_decide_eq_false hk
              refine ⟨?_, ?_⟩
              · by_cases h0 : j = 0
                · exact absurd (.inl h0) this
                · omega
              · by_cases h0 : zs.toArray[j]! = zs.toArray[j - 1]!
                · exact h0
                · exact absurd (.inr h0) this
            exact ⟨j - 1, by omega, by rw [← hz.2]; exact b⟩
          · exact ⟨j, by omega, b⟩
      · simp only [if_true]
        refine ⟨List.pairwise_append.2 ⟨h1, by simp, fun a ha b hb => ?_⟩, fun v => ?_⟩
        · obtain ⟨j, hj, rfl⟩ := (h2 a).1 ha
          obtain rfl : b = zs.toArray[m]! := by simpa using hb
          have hz : m = 0 ∨ zs.toArray[m]! ≠ zs.toArray[m - 1]! := by
            unfold Lib.keeps at hk
            exact of_decide_eq_true hk
          rcases hz with hz | hz
          · omega
          · have l1 := hle (m - 1) m (by omega) (by omega)
            by_cases hjm : j = m - 1
            · subst hjm; omega
            · have l2 := hle j (m - 1) (by omega) (by omega)
              omega
        · rw [List.mem_append, h2 v]
          constructor
          · rintro (⟨j, a, b⟩ | hv)
            · exact ⟨j, by omega, b⟩
            · exact ⟨m, by omega, (List.mem_singleton.1 hv).symm⟩
          · rintro ⟨j, a, b⟩
            by_cases hj : j = m
            · subst hj; exact .inr (by simp [b])
            · exact .inl ⟨j, by omega, b⟩
  obtain ⟨h1, h2⟩ := key zs.length (Nat.le_refl _)
  refine ⟨h1, fun v => (h2 v).trans ?_⟩
  constructor
  · rintro ⟨j, hj, rfl⟩
    rw [getElem!_pos zs.toArray j (by simpa using hj)]
    simp
  · intro hv
    obtain ⟨j, hj, rfl⟩ := List.getElem_of_mem hv
    refine ⟨j, hj, ?_⟩
    rw [getElem!_pos zs.toArray j (by simpa using hj)]
    simp
def byQ (sv : Nat → Int) : Nat → Int
  | 0 => (sv 0).tmod 2
  | k + 1 => byQ sv k + (sv (k + 1) + byQ sv k).tmod 2
theorem byQ_ok {sv : Nat → Int} {n : Nat} (h : ∀ k, k < n → 0 ≤ sv k ∧ sv k ≤ 9) : ∀ k, k < n → (0 ≤ byQ sv k ∧ byQ sv k ≤ (k : Int) + 1) ∧ byQ sv k % 2 = sv k % 2
  | 0, hk => by
    have := h 0 hk
    unfold byQ
    rw [Int.tmod_eq_emod_of_nonneg this.1]
    omega
  | k + 1, hk => by
    have h1 := h (k + 1) hk
    have ih := byQ_ok h k (by omega)
    unfold byQ
    rw [Int.tmod_eq_emod_of_nonneg (by omega)]
    omega
theorem byQ_same {sv : Nat → Int} {n : Nat} (h : ∀ k, k < n → 0 ≤ sv k ∧ sv k ≤ 9) {k : Nat} (hk : k + 1 < n) : byQ sv (k + 1) = if (sv (k + 1)).tmod 2 = (sv k).tmod 2 then byQ sv k else byQ sv k + 1 := by
  have h1 := h (k + 1) hk
  have h2 := h k (by omega)
  have ih := byQ_ok h k (by omega)
  rw [show byQ sv (k + 1) = byQ sv k + (sv (k + 1) + byQ sv k).tmod 2 from rfl]
  rw [Int.tmod_eq_emod_of_nonneg (by omega), Int.tmod_eq_emod_of_nonneg h1.1, Int.tmod_eq_emod_of_nonneg h2.1]
  split <;> omega
def mpQ (sv : Nat → Int) (k : Nat) : List (Int × Int) := (List.range k).map fun j => (sv j, byQ sv j)
theorem mpQ_succ (sv : Nat → Int) (k : Nat) : mpQ sv (k + 1) = mpQ sv k ++ [(sv k, byQ sv k)] := by simp [mpQ, List.range_succ]
theorem mgetQ_app {α β : Type} [DecidableEq α] : ∀ (m m' : List (α × β)) (k : α), mget (m ++ m') k = (match mget m k with | some v => some v | none => mget m' k)
  | [], _, _ => rfl
  | p :: m, m', k => by
    show (if p.1 = k then some p.2 else mget (m ++ m') k) = (match (if p.1 = k then some p.2 else mget m k) with | some v => some v | none => mget m' k)
    by_cases h : p.1 = k
    · rw [if_pos h, if_pos h]
    · rw [if_neg h, if_neg h]; exact mgetQ_app m m' k
theorem msetQ_new {α β : Type} [DecidableEq α] : ∀ (m : List (α × β)) (k : α) (v : β), mget m k = none → mset m k v = m ++ [(k, v)]
  | [], _, _, _ => rfl
  | p :: m, k, v, h => by
    have h' : (if p.1 = k then some p.2 else mget m k) = none := h
    by_cases hp : p.1 = k
    · rw [if_pos hp] at h'; cases h'
    · rw [if_neg hp] at h'
      show (if p.1 = k then (k, v) :: m else p :: mset m k v) = _
      rw [if_neg hp, msetQ_new m k v h']
      rfl
theorem mpQ_none {sv : Nat → Int} : ∀ (k : Nat) (x : Int), (∀ j, j < k → sv j ≠ x) → mget (mpQ sv k) x = none
  | 0, _, _ => rfl
  | k + 1, x, h => by
    rw [mpQ_succ, mgetQ_app, mpQ_none k x fun j hj => h j (by omega)]
    show (if sv k = x then some (byQ sv k) else none) = none
    rw [if_neg (h k (by omega))]
theorem mpQ_some {sv : Nat → Int} {n : Nat} (hi : ∀ i j, i < j → j < n → sv i < sv j) : ∀ (k j : Nat), k ≤ n → j < k → mget (mpQ sv k) (sv j) = some (byQ sv j)
  | 0, _, _, h => absurd h (by omega)
  | k + 1, j, hk, h => by
    rw [mpQ_succ, mgetQ_app]
    by_cases hj : j = k
    · subst hj
      rw [mpQ_none j (sv j) fun i hi' => by have := hi i j hi' (by omega); omega]
      show (if sv j = sv j then some (byQ sv j) else none) = _
      rw [if_pos rfl]
    · rw [mpQ_some hi k j (by omega) (by omega)]
theorem seen_spec (l : List Int) : ∀ k, (((l.take k).foldl (fun s v => insQ v s) ([] : List Int)).Pairwise (· < ·)) ∧ (∀ y, y ∈ (l.take k).foldl (fun s v => insQ v s) ([] : List Int) ↔ y ∈ l.take k) ∧ ((l.take k).foldl (fun s v => insQ v s) ([] : List Int)).length ≤ k
  | 0 => by simp
  | k + 1 => by
    obtain ⟨h1, h2, h3⟩ := seen_spec l k
    by_cases hk : k < l.length
    · obtain ⟨x, hx⟩ := get_lt hk
      rw [List.take_add_one, hx, List.foldl_append]
      show (insQ x _).Pairwise (· < ·) ∧ (∀ y, y ∈ insQ x _ ↔ _) ∧ (insQ x _).length ≤ _
      refine ⟨inc_insQ h1, fun y => ?_, Nat.le_trans insQ_len (by omega)⟩
      rw [mem_insQ, h2 y, List.mem_append]
      simp [or_comm]
    · rw [List.take_of_length_le (by omega)] at h1 h2 h3 ⊢
      exact ⟨h1, h2, by omega⟩
def coV (S : List Int) (x : Timpl_Vertex) : Timpl_Vertex := (x.1, byQ (fun k => S.getD k 0) (pos S x.2.1).toNat, x.2.2)
theorem comp_core {a : List Tlaws_Vertex} (h : a.length ≤ 1048576 ∧ ∀ x ∈ a, x.2.2.length ≤ 1048576) :
    ∃ r, Ev (fun m => spec_CompressPriorities_m m a) r ∧ Ev (fun m => impl_CompressPriorities_m m a) r ∧ (r.1.length ≤ 1048576 ∧ ∀ x ∈ r.1, x.2.2.length ≤ 1048576) := by
  have hmx2 : maxLen = 9223372036854775807 := by unfold maxLen; rfl
  have v1 := validG_spec h.1 h.2
  have v2 := validG_impl h.1 h.2
  unfold spec_CompressPriorities_m impl_CompressPriorities_m
  cases hV : validG a
  · rw [hV] at v1 v2
    exact ⟨([], 1), Ev.bind v1 (Ev.ite_t rfl (Ev.pure _)), Ev.bind v2 (Ev.ite_t rfl (Ev.pure _)), by simp, fun x hx => by cases hx⟩
  rw [hV] at v1 v2
  have hn : a.length ≤ 120 ∧ ∀ x ∈ a, 0 ≤ x.2.1 ∧ x.2.1 ≤ 9 := by
    unfold validG at hV
    simp only [Bool.and_eq_true, decide_eq_true_eq, List.all_eq_true] at hV
    refine ⟨by omega, fun x hx => ?_⟩
    have := hV.2 x hx
    unfold okVx at this
    simp only [Bool.and_eq_true, decide_eq_true_eq] at this
    exact this.2.1
  obtain ⟨hn, hpr⟩ := hn
  obtain ⟨S, hS⟩ : ∃ S, S = (a.map fun x => x.2.1).foldl (fun s v => insQ v s) [] := ⟨_, rfl⟩
  have hseen := seen_spec (a.map fun x => x.2.1) (a.map fun x => x.2.1).length
  rw [List.take_length, ← hS, List.length_map] at hseen
  obtain ⟨s1, s2, s3⟩ := hseen
  have hsort : Lib.compact (srt (a.map fun x => x.2.1)) = S := by
    obtain ⟨c1, c2⟩ := compQ_inc (srt_le (a.map fun x => x.2.1))
    refine inc_ext c1 s1 fun v => ?_
    rw [c2, mem_srt, s2]
  obtain ⟨sv, hsv⟩ : ∃ sv : Nat → Int, sv = fun k => S.getD k 0 := ⟨_, rfl⟩
  have hget : ∀ k, k < S.length → S[k]? = some (sv k) := fun k hk => by
    rw [hsv]
    simp [hk]
  have hsvm : ∀ k, k < S.length → sv k ∈ S := fun k hk => List.mem_of_getElem? (hget k hk)
  have hb : ∀ k, k < S.length → 0 ≤ sv k ∧ sv k ≤ 9 := fun k hk => by
    obtain ⟨x, hx, e⟩ := List.mem_map.1 ((s2 _).1 (hsvm k hk))
    rw [← e]
    exact hpr x hx
  have hinc : ∀ i j, i < j → j < S.length → sv i < sv j := fun i j hij hj => by
    have := List.pairwise_iff_getElem.1 s1 i j (by omega) hj hij
    have e1 := hget i (by omega)
    have e2 := hget j hj
    rw [List.getElem?_eq_getElem (by omega)] at e1
    rw [List.getElem?_eq_getElem hj] at e2
    rw [Option.some.inj e1, Option.some.inj e2] at this
    exact this
  have hbk := byQ_ok hb
  have hplace : ∀ x ∈ a, ∃ j : Nat, j < S.length ∧ pos S x.2.1 = (j : Int) ∧ sv j = x.2.1 := fun x hx => by
    obtain ⟨k, e1, e2⟩ := pos_spec (xs := S) (c := x.2.1) ((s2 _).2 (List.mem_map.2 ⟨x, hx, rfl⟩))
    have hk := (List.getElem?_eq_some_iff.1 e2).1
    refine ⟨k, hk, e1, ?_⟩
    have := hget k hk
    rw [e2] at this
    exact (Option.some.inj this).symm
  obtain ⟨n, hnl⟩ : ∃ n, n = a.length := ⟨_, rfl⟩
  obtain ⟨G, hGa⟩ := tabG_of ((0, 0, []) : Timpl_Vertex) a
  rw [← hnl] at hGa
  have hat : ∀ k, k < n → a[k]? = some (G (k : Int)) := fun k hk => by
    have e := tab_get (f := G) hk
    rw [← hGa] at e
    exact e
  have hG : ∀ k, k < n → G (k : Int) ∈ a := fun k hk => List.mem_of_getElem? (hat k hk)
  have hg : ∀ k, k < n → (G (k : Int)).2.2.length ≤ 1048576 := fun k hk => h.2 _ (hG k hk)
  have hown := ownG_spec (a := a) hn h.2
  have hcl := cloneG (G := G) (by omega) hg
  rw [← hGa] at hcl
  refine ⟨(tab n fun v => coV S (G v), 0), Ev.bind v1 (Ev.ite_f (by simp) ?_), Ev.bind v2 (Ev.ite_f (by simp) ?_), ?_⟩
  · refine Ev.bind (a := (.inl S : List Int ⊕ (List Timpl_Vertex × Int))) (EvI.upto (step := _) a.length (fun k (_ : Unit) => (((a.map fun x => x.2.1).take k).foldl (fun s v => insQ v s) [], (k : Int))) (fun _ _ => True) (k := 0) (t := ()) rfl (Nat.zero_le _) trivial (fun k _ hk _ => ⟨(), ?_, trivial⟩) (fun _ _ => Ev.eq (Ev.ite_f (by simp) (Ev.pure _)) ?_)).ev ?_
    · obtain ⟨x, hx⟩ := get_lt hk
      have hsk := (seen_spec (a.map fun x => x.2.1) k).2.2
      refine Ev.ite_t (decide_eq_true (by omega)) (Ev.bindc (idx_at hx) (Ev.bind (putQ_spec (by omega)) (Ev.const ?_)))
      rw [W_succ hk (by omega), List.take_add_one, List.getElem?_map, hx, List.foldl_append]
      rfl
    · rw [show a.length = (a.map fun x => x.2.1).length by rw [List.length_map], List.take_length, ← hS]
    refine Ev.bind (a := (.inl ((List.range S.length).map (byQ sv)) : List Int ⊕ (List Timpl_Vertex × Int))) (EvI.upto (step := _) S.length (fun k (_ : Unit) => ((List.range k).map (byQ sv), (k : Int))) (fun _ _ => True) (k := 0) (t := ()) rfl (Nat.zero_le _) trivial (fun k _ hk _ => ⟨(), ?_, trivial⟩) (fun _ _ => Ev.ite_f (by simp) (Ev.pure _))).ev ?_
    · have hW : W ((k : Int) + 1) = ((k + 1 : Nat) : Int) := W_succ hk (by omega)
      refine Ev.ite_t (decide_eq_true (by omega)) (Ev.join ?_)
      cases k with
      | zero =>
        refine Ev.ite_t (by rfl) (Ev.bindc (idx_at (k := 0) (hget 0 hk)) (Ev.bindc (app_ok (by simp)) (Ev.const ?_)))
        rw [hW]
        rfl
      | succ k =>
        have hp : ((List.range (k + 1)).map (byQ sv))[k]? = some (byQ sv k) := by simp
        have hw1 : W (((k + 1 : Nat) : Int) - 1) = (k : Int) := by rw [W_of (by omega) (by omega)]; omega
        have q1 := hb (k + 1) hk
        have q2 := hbk k (by omega)
        have hw2 : W (sv (k + 1) + byQ sv k) = sv (k + 1) + byQ sv k := W_of (by omega) (by omega)
        have hw3 : W (byQ sv k + (sv (k + 1) + byQ sv k).tmod 2) = byQ sv (k + 1) := by
          have q3 := hbk (k + 1) hk
          exact W_of (n := byQ sv (k + 1)) (by omega) (by omega)
        refine Ev.ite_f (by simp; omega) ?_
        rw [hw1]
        refine Ev.bindc (idx_at hp) (Ev.bindc (idx_at (hget (k + 1) hk)) ?_)
        rw [hw2, hw3]
        refine Ev.bindc (app_ok (by simp; omega)) (Ev.const ?_)
        rw [hW, List.range_succ (n := k + 1), List.map_append]
        rfl
    refine Ev.bind hown ?_
    subst hGa
    refine Ev.bind (a := (.inl (tab n fun v => coV S (G v)) : List Timpl_Vertex ⊕ (List Timpl_Vertex × Int))) (EvI.upto (step := _) n (fun k (_ : Unit) => (tab n (fun v => if v < (k : Int) then coV S (G v) else G v), (k : Int))) (fun _ _ => True) (k := 0) (t := ()) (by rw [tabG_first (A := fun v => coV S (G v)) (B := G)]; rfl) (Nat.zero_le _) trivial (fun k _ hk _ => ⟨(), ?_, trivial⟩) (fun _ _ => Ev.eq (Ev.ite_f (by rw [tab_len]; simp) (Ev.pure _)) (by rw [tabG_last (A := fun v => coV S (G v)) (B := G)]))).ev (Ev.const rfl)
    have hc := tabG_cur (A := fun v => coV S (G v)) (B := G) hk
    obtain ⟨j, hj, hj2, hj3⟩ := hplace _ (hG k hk)
    have hpl := place_ints (xs := S) (c := (G (k : Int)).2.1) (by omega)
    rw [hj2] at hpl
    have hby : ((List.range S.length).map (byQ sv))[j]? = some (byQ sv j) := by simp [hj]
    refine Ev.ite_t (by rw [tab_len]; exact decide_eq_true (by omega)) (Ev.bindc (idx_at hc) (Ev.bind hpl (Ev.bindc (idx_at hby) (Ev.bindc (idx_at hc) (Ev.const (congrArg some (congrArg Sum.inl (Prod.ext (tabG_next (A := fun v => coV S (G v)) (B := G) ?_) (W_succ hk (by omega))))))))))
    show ((G (k : Int)).1, byQ sv j, (G (k : Int)).2.2) = coV S (G (k : Int))
    unfold coV
    rw [hj2, hsv]
    rfl
  · refine Ev.bind (append_map (step := _) a (fun x : Timpl_Vertex => x.2.1) (fun k x hx => ?_) (fun xs => Ev.ite_f (by simp) (Ev.pure _))).ev ?_
    · have hk := (List.getElem?_eq_some_iff.1 hx).1
      refine Ev.ite_t (decide_eq_true (by omega)) (Ev.bindc (idx_at hx) (Ev.bindc (app_ok (by simp; omega)) (Ev.const ?_)))
      rw [W_succ hk (by omega)]
    have hss : Ev (fun m => impl_sortedSet_m m (a.map fun x => x.2.1)) S := by
      unfold impl_sortedSet_m
      refine Ev.bind (clone_ints (by rw [List.length_map]; omega)) (Ev.bind (Ev.const' fun m => sort_ints (by rw [List.length_map]; omega) m) (Ev.bind (a := S) (Ev.const' fun m => ?_) (Ev.pure _)))
      unfold slices_Compact__int64_int64_m
      rw [hsort]
    refine Ev.bind hss (Ev.bind (a := (.inl (mpQ sv S.length) : List (Int × Int) ⊕ (List Timpl_Vertex × Int))) (EvI.upto (step := _) S.length (fun k (_ : Unit) => (mpQ sv k, (k : Int))) (fun _ _ => True) (k := 0) (t := ()) rfl (Nat.zero_le _) trivial (fun k _ hk _ => ⟨(), ?_, trivial⟩) (fun _ _ => Ev.ite_f (by simp) (Ev.pure _))).ev ?_)
    · have hW : W ((k : Int) + 1) = ((k + 1 : Nat) : Int) := W_succ hk (by omega)
      have hnew : ∀ v, v = byQ sv k → mset (mpQ sv k) (sv k) v = mpQ sv (k + 1) := fun v hv => by
        rw [msetQ_new _ _ _ (mpQ_none k (sv k) fun j hj => by have := hinc j k hj hk; omega), mpQ_succ, hv]
      refine Ev.ite_t (decide_eq_true (by omega)) (Ev.join (Ev.bindc (idx_at (hget k hk)) ?_))
      cases k with
      | zero =>
        refine Ev.ite_t (by rfl) (Ev.const ?_)
        rw [hW]
        exact congrArg some (congrArg Sum.inl (Prod.ext (hnew ((sv 0).tmod 2) rfl) rfl))
      | succ k =>
        have hw1 : W (((k + 1 : Nat) : Int) - 1) = (k : Int) := by rw [W_of (by omega) (by omega)]; omega
        have hgp := hget k (by omega)
        have hmg := mpQ_some hinc (k + 1) k (by omega) (by omega)
        have hsame := byQ_same hb hk
        have q2 := hbk k (by omega)
        refine Ev.ite_f (by simp; omega) ?_
        rw [hw1]
        refine Ev.bindc (idx_at hgp) ?_
        by_cases hpar : (sv (k + 1)).tmod 2 = (sv k).tmod 2
        · rw [if_pos hpar] at hsame
          refine Ev.ite_t (by rw [hpar]; simp) (Ev.bindc (idx_at hgp) (Ev.const ?_))
          rw [hW, hmg]
          exact congrArg some (congrArg Sum.inl (Prod.ext (hnew (byQ sv k) hsame.symm) rfl))
        · rw [if_neg hpar] at hsame
          refine Ev.ite_f (by simpa using hpar) (Ev.bindc (idx_at hgp) (Ev.const ?_))
          have hw2 : W (byQ sv k + 1) = byQ sv (k + 1) := by rw [hsame]; exact W_of (by omega) (by omega)
          rw [hW, hmg]
          show some (Sum.inl (mset (mpQ sv (k + 1)) (sv (k + 1)) (W (byQ sv k + 1)), _)) = _
          rw [hnew _ hw2]
    refine Ev.bind hcl ?_
    subst hGa
    rw [tab_len]
    refine Ev.bind (a := (.inl (tab n fun v => coV S (G v)) : List Timpl_Vertex ⊕ (List Timpl_Vertex × Int))) (EvI.upto (step := _) n (fun k (_ : Unit) => (tab n (fun v => if v < (k : Int) then coV S (G v) else G v), (k : Int))) (fun _ _ => True) (k := 0) (t := ()) (by rw [tabG_first (A := fun v => coV S (G v)) (B := G)]; rfl) (Nat.zero_le _) trivial (fun k _ hk _ => ⟨(), ?_, trivial⟩) (fun _ _ => Ev.eq (Ev.ite_f (by simp) (Ev.pure _)) (by rw [tabG_last (A := fun v => coV S (G v)) (B := G)]))).ev (Ev.const rfl)
    have hc := tabG_cur (A := fun v => coV S (G v)) (B := G) hk
    obtain ⟨j, hj, hj2, hj3⟩ := hplace _ (hG k hk)
    have hmg := mpQ_some hinc S.length j (Nat.le_refl _) hj
    rw [hj3] at hmg
    refine Ev.ite_t (decide_eq_true (by omega)) (Ev.bindc (idx_at hc) (Ev.bindc (idx_at hc) (Ev.const (congrArg some (congrArg Sum.inl (Prod.ext (tabG_next (A := fun v => coV S (G v)) (B := G) ?_) (W_succ hk (by omega))))))))
    show ((G (k : Int)).1, (mget (mpQ sv S.length) (G (k : Int)).2.1).getD 0, (G (k : Int)).2.2) = coV S (G (k : Int))
    rw [hmg]
    unfold coV
    rw [hj2, hsv]
    rfl
  · refine ⟨?_, fun x hx => ?_⟩
    · show (tab n fun v => coV S (G v)).length ≤ 1048576
      rw [tab_len]; omega
    · have hx : x ∈ tab n fun v => coV S (G v) := hx
      obtain ⟨k, hk, rfl⟩ := tabG_mem hx
      exact hg k hk
theorem toB_vtxs {a : List Tlaws_Vertex} (h : a.length ≤ 1048576 ∧ ∀ x ∈ a, x.2.2.length ≤ 1048576) : Ev (fun n => laws_toVertexS_m n a) a := to_vtxs h.1 h.2
theorem eqB_vtxs {a : List Timpl_Vertex} (h : a.length ≤ 1048576 ∧ ∀ x ∈ a, x.2.2.length ≤ 1048576) : Ev (fun n => laws_eqVertexS_m n a a) true :=
  have hm : maxLen = 9223372036854775807 := by unfold maxLen; rfl
  eq_vtxs (by have := h.1; omega) (fun x hx => by have := h.2 x hx; omega)
/-- Marks on ints alone. -/
theorem markA_ints {a : List Int} {k : Int} (hl : a.length ≤ 1048576) (h0 : 1 ≤ k) (hk : k ≤ 4611686018427387904 - 1048576) :
    ∃ k' ys, Ev (fun n => laws_markInt64S_m n a k) (k', ys) ∧ k ≤ k' ∧ k' ≤ k + (a.length * 1 : Nat) ∧ ys.length = a.length := by
  unfold laws_markInt64S_m
  refine mark_alone (p := fun _ => True) (fun _ _ => trivial) h0 (by omega)
    (fun xs k i x hxl hx _ h1 h2 => ⟨k, k + 1, Ev.const' fun m => ?_, by omega, by omega⟩) (fun xs k hxl => ?_)
  · have hi : i < xs.length := (List.getElem?_eq_some_iff.1 hx).1
    simp [idx_at hx, W_succ (k := i) (n := xs.length) hi (by omega), W_of (n := k + 1) (by omega) (by omega), hi]
  · exact Ev.const' fun m => by simp [hxl]
theorem marksA_vtxs {a : List Timpl_Vertex} {k : Int} (h : a.length ≤ 1048576 ∧ ∀ x ∈ a, x.2.2.length ≤ 1048576) (h0 : 1 ≤ k) (hk : k ≤ 4503599627370496) :
    ∃ k' ys, Ev (fun n => laws_markVertexS_m n a k) (k', ys) ∧ k ≤ k' ∧ k' ≤ k + 4398046511104 := by
  have : ∃ k' ys, Ev (fun n => laws_markVertexS_m n a k) (k', ys) ∧ k ≤ k' ∧ k' ≤ k + (a.length * 1048578 : Nat) ∧ ys.length = a.length := by
    unfold laws_markVertexS_m
    refine mark_alone (p := fun x => x.2.2.length ≤ 1048576) h.2 h0 (by have := h.1; omega) (fun xs k i x hxl hx hp h1 h2 => ?_) (fun xs k hxl => Ev.const' fun m => by simp [hxl])
    have hi : i < xs.length := (List.getElem?_eq_some_iff.1 hx).1
    have hx1 := h.1
    have w2 : W (k + 1) = k + 1 := W_of (by omega) (by omega)
    have w3 : W (k + 1 + 1) = k + 1 + 1 := W_of (by omega) (by omega)
    obtain ⟨k', ys, e1, e3, e4, _⟩ := markA_ints (a := x.2.2) (k := k + 1 + 1) hp (by omega) (by omega)
    refine ⟨(k, W (k + 1), ys), k', Ev.eq (Ev.ite_t (by simp [hi]) (Ev.bindc (idx_at hx) (Ev.bindc (idx_set hi) (Ev.bindc (idx_set (by simpa using hi)) (Ev.bind (a := (k', ys)) ?_ (Ev.pure _)))))) ?_, by omega, by omega⟩
    · rw [w2, w3]; exact e1
    · simp only [Int.toNat_natCast, List.set_set, W_succ (k := i) (n := xs.length) hi (by omega)]
  obtain ⟨k', ys, h1, h2, h3, _⟩ := this
  have := h.1
  exact ⟨k', ys, h1, h2, by omega⟩
theorem marksB_vtxs {a : List Timpl_Vertex} {k : Int} (h : a.length ≤ 1048576 ∧ ∀ x ∈ a, x.2.2.length ≤ 1048576) (h0 : 1 ≤ k) (hk : k ≤ 4503599627370496) :
    ∃ k' ys, Ev (fun n => laws_markVertexS_m n a k) (k', ys) ∧ Ev (fun n => laws_heldVertexS_m n ys k) k' ∧ k ≤ k' ∧ k' ≤ k + 4398046511104 := by
  obtain ⟨k', ys, h1, h2, h3, h4, _⟩ := marksH_vtxs h.1 h.2 h0 hk
  have := h.1
  exact ⟨k', ys, h1, h2, h3, by omega⟩
set_option maxHeartbeats 4000000 in
theorem law_CompressPriorities {a : List Tlaws_Vertex} (g_a : (GVs) a) : ∃ n, laws_FnExactCompressPriorities_m n a = some true := by
  have hm : maxLen = 9223372036854775807 := by unfold maxLen; rfl
  refine Ev.one (f := fun n => laws_FnExactCompressPriorities_m n a) ?_
  unfold laws_FnExactCompressPriorities_m
  obtain ⟨r1, h1, s1⟩ := sz_vtxs g_a (b := (1048576 : Int)) (by omega) (by omega)
  refine Ev.bind h1 ?_
  by_cases n1 : r1 < 0
  · exact Ev.ite_t (decide_eq_true n1) (Ev.pure _)
  rcases s1 with s1 | ⟨p1, q1, B_a⟩
  · exact absurd s1 n1
  refine Ev.ite_f (by simpa using n1) ?_
  obtain ⟨r, hs, hi, B_r0⟩ := comp_core B_a
  have to_a_ := toB_vtxs B_a
  have eq_a_ := eqB_vtxs B_a
  have eq_r0 := eqB_vtxs (a := r.1) B_r0
  obtain ⟨k_a, ys_a, m_a, m1_a, m2_a⟩ := marksA_vtxs (k := (1 : Int)) B_a (by omega) (by omega)
  obtain ⟨k_r0, ys_r0, m_r0, m0_r0, m1_r0, m2_r0⟩ := marksB_vtxs (k := (1 : Int)) (a := r.1) B_r0 (by omega) (by omega)
  repeat (first
    | exact Ev.pure _
    | refine Ev.bind (by with_reducible assumption) ?_
    | refine Ev.ite_f (by first | (simp; done) | (simp; omega)) ?_
    | refine Ev.bind (Ev.ite_f (by first | (simp; done) | (simp; omega)) (Ev.bind (by with_reducible assumption) (Ev.pure _))) ?_
    | refine Ev.bind (a := false) (Ev.ite_f (by first | (simp; done) | (simp; omega)) (Ev.const (by simp))) ?_
    | refine Ev.bind (a := false) (Ev.ite_f (by first | (simp; done) | (simp; omega)) (Ev.bind (by with_reducible assumption) (Ev.const (by simp)))) ?_
    | refine Ev.bindc (by with_reducible rfl) ?_)
end Go.Proofs.Ytecknjdlbmmmiaa

