/-
  The plain laws of a statement, joined into one text.
-/
import Derived.Test.YtcddkipbedfhkaaF0
import Derived.Test.YtcddkipbedfhkaaF1
import Derived.Test.YtcddkipbedfhkaaF2
import Derived.Test.YtcddkipbedfhkaaF3
import Derived.Test.YtcddkipbedfhkaaF5
import Derived.Test.YtcddkipbedfhkaaFS
import Derived.Test.YtcddkipbedfhkaaGxI
import Derived.Test.YtcddkipbedfhkaaGxP
import Derived.Test.YtcddkipbedfhkaaGxU
import Derived.Test.YtcddkipbedfhkaaLMeasuresOf
namespace Go.Proofs.Ytcddkipbedfhkaa
open Go.Gx
/-! ### the law's helpers -/
abbrev GI : List Int → Prop := gList (gInt .i64)
theorem sz_ints {a : List Int} (g : GI a) {b : Int} (h0 : 0 ≤ b) (hb : b ≤ 1048576) : ∃ r, Ev (fun n => laws_szInt64S_m n a b) r ∧ Sz b r (a.length ≤ 1048576) := sz_leaf h0 hb g.1
theorem to_ints {a : List Int} (hl : a.length ≤ 1048576) : Ev (fun n => laws_toInt64S_m n a) a := by
  have := to_loop («to» := fun _ (x : Int) => some x) (f := id) (a := a) (z := 0) (fun x _ => Ev.pure x) hl
  rw [List.map_id] at this
  exact this
theorem eq_ints {a : List Int} (hl : a.length ≤ maxLen) : Ev (fun n => laws_eqInt64S_m n a a) true := eq_loop_ints hl
/-! ### rising lists -/
def okAt (xs : List Int) (n : Int) (k : Nat) : Bool := match xs[k]? with
  | none => true
  | some x => decide (0 ≤ x) && decide (x ≤ n) && (k == 0 || (match xs[k - 1]? with | none => true | some y => decide (y < x)))
def rises (xs : List Int) (n : Int) : Bool := decide (∀ k, k < xs.length → okAt xs n k = true)

theorem l00In_eq {n : Nat} {a b c : Int} : spec_l00In_m n a b c = some (decide (b ≤ a) && decide (a ≤ c)) := by
  unfold spec_l00In_m
  by_cases h : b ≤ a <;> simp [h]
theorem within_eq {n : Nat} {a b c : Int} : impl_within_m n a b c = some (decide (b ≤ a) && decide (a ≤ c)) := by
  unfold impl_within_m
  by_cases h : b ≤ a <;> simp [h]
theorem index_eq {n : Nat} {a b : Int} : impl_index_m n a b = some (decide (0 ≤ a) && decide (a ≤ W (b - 1))) := by
  unfold impl_index_m
  simp [within_eq]

theorem rises_spec {xs : List Int} (hl : xs.length ≤ maxLen) {n : Int} : Ev (fun m => spec_l00Rises_m m xs 0 n) (rises xs n) := by
  have hm := maxLen_le
  unfold spec_l00Rises_m
  refine (Ev.all xs.length (okAt xs n) false true (fun k hk hok => Ev.const' fun m => ?_) (fun k hk hok => Ev.const' fun m => ?_) (Ev.ite_f (by simp) (Ev.pure _))).eq (by unfold rises; split <;> simp_all)
  all_goals
    obtain ⟨x, hx⟩ := get_lt hk
    have w1 := W_succ hk (by omega)
    have hk' : decide ((k : Int) < (xs.length : Int)) = true := by simpa using hk
    simp only [hk', if_true, idx_at hx, l00In_eq, Option.bind_some]
    cases k with
    | zero => simp only [okAt, hx, w1] at hok ⊢; by_cases h1 : 0 ≤ x <;> by_cases h2 : x ≤ n <;> simp [h1, h2] at hok ⊢
    | succ j =>
      obtain ⟨y, hy⟩ := get_lt (xs := xs) (k := j) (by omega)
      have w2 := W_pred (k := j) (n := xs.length) (by omega) (by omega)
      simp only [okAt, hx, hy, w1, w2, idx_at hy, Option.bind_some, Nat.add_sub_cancel] at hok ⊢
      by_cases h1 : 0 ≤ x <;> by_cases h2 : x ≤ n <;> by_cases h3 : y < x <;> simp [h1, h2, h3] at hok ⊢

theorem increasing_law {xs : List Int} (hl : xs.length ≤ maxLen) {n : Int} : Ev (fun m => impl_increasing_m m xs n) (rises xs (W (n - 1))) := by
  have hm := maxLen_le
  unfold impl_increasing_m
  refine (Ev.all xs.length (okAt xs (W (n - 1))) false true (fun k hk hok => Ev.const' fun m => ?_) (fun k hk hok => Ev.const' fun m => ?_) (Ev.ite_f (by simp) (Ev.pure _))).eq (by unfold rises; split <;> simp_all)
  all_goals
    obtain ⟨x, hx⟩ := get_lt hk
    have w1 := W_succ hk (by omega)
    have hk' : decide ((k : Int) < (xs.length : Int)) = true := by simpa using hk
    simp only [hk', if_true, idx_at hx, index_eq, Option.bind_some]
    generalize W (n - 1) = n at *
    cases k with
    | zero => simp only [okAt, hx, w1] at hok ⊢; by_cases h1 : 0 ≤ x <;> by_cases h2 : x ≤ n <;> simp [h1, h2] at hok ⊢
    | succ j =>
      obtain ⟨y, hy⟩ := get_lt (xs := xs) (k := j) (by omega)
      have w2 := W_pred (k := j) (n := xs.length) (by omega) (by omega)
      simp only [okAt, hx, hy, w1, w2, idx_at hy, Option.bind_some, Nat.add_sub_cancel] at hok ⊢
      by_cases h1 : 0 ≤ x <;> by_cases h2 : x ≤ n <;> by_cases h3 : y < x <;> simp [h1, h2, h3] at hok ⊢

/-! ### marks -/
theorem marks_ints {a : List Int} {k : Int} (hl : a.length ≤ 1048576) (h0 : 1 ≤ k) (hk : k ≤ 4611686018427387904 - 1048576) :
    ∃ k' ys, Ev (fun n => laws_markInt64S_m n a k) (k', ys) ∧ Ev (fun n => laws_heldInt64S_m n ys k) k' ∧ k ≤ k' ∧ k' ≤ k + (a.length * 1 : Nat) ∧ ys.length = a.length := by
  unfold laws_markInt64S_m laws_heldInt64S_m
  refine mark_held (p := fun _ => True) (fun _ _ => trivial) h0 (by omega)
    (fun xs k i x hxl hx _ h1 h2 => ⟨k, k + 1, Ev.const' fun m => ?_, by omega, by omega, fun ys hyl hy => Ev.const' fun m => ?_⟩) (fun xs k hxl => ?_) (fun ys k hyl => ?_)
  · have hi : i < xs.length := (List.getElem?_eq_some_iff.1 hx).1
    simp [idx_at hx, W_succ (k := i) (n := xs.length) hi (by omega), W_of (n := k + 1) (by omega) (by omega), hi]
  · have hi : i < ys.length := (List.getElem?_eq_some_iff.1 hy).1
    simp [idx_at hy, W_succ (k := i) (n := ys.length) hi (by omega), W_of (n := k + 1) (by omega) (by omega), hi]
  · exact Ev.const' fun m => by simp [hxl]
  · exact Ev.const' fun m => by simp [hyl]

theorem own_ints {a : List Int} (hl : a.length ≤ 1048576) : Ev (fun m => spec_l00Own_m m a) a := Ev.bindc (app_ok (by simp; omega)) (Ev.pure _)
theorem clone_ints {a : List Int} (hl : a.length ≤ 1048576) : Ev (fun m => slices_Clone__int64_int64_m m a) a := Ev.bindc (app_ok (by simp; omega)) (Ev.pure _)

/-! ### games -/
def okVx (n : Int) (x : Timpl_Vertex) : Bool := (decide (0 ≤ x.1) && decide (x.1 ≤ 1)) && ((decide (0 ≤ x.2.1) && decide (x.2.1 ≤ 9)) && rises x.2.2 n)
def validG (a : List Timpl_Vertex) : Bool := decide (1 ≤ a.length ∧ a.length ≤ 120) && a.all (okVx (W ((a.length : Int) - 1)))

theorem validG_impl {a : List Timpl_Vertex} (hl : a.length ≤ 1048576) (g : ∀ x ∈ a, x.2.2.length ≤ 1048576) : Ev (fun m => impl_ValidGame_m m a) (validG a) := by
  have hm : maxLen = 9223372036854775807 := by unfold maxLen; rfl
  unfold impl_ValidGame_m validG
  simp only [within_eq, Option.bind_some]
  have hfind : Ev (fun m => slices_ContainsFunc__impl_Vertex_impl_Vertex_m m a (fun (z0 : Timpl_Vertex) => impl_ValidGame_1_m m z0 a)) (!(a.all (okVx (W ((a.length : Int) - 1))))) := by
    refine contains_loop (by omega) (f := fun m z0 => impl_ValidGame_1_m m z0 a) (fun x hx => ?_)
    have hi := increasing_law (xs := x.2.2) (n := (a.length : Int)) (by have := g x hx; omega)
    unfold impl_ValidGame_1_m okVx
    simp only [within_eq, Option.bind_some]
    cases (decide (0 ≤ x.1) && decide (x.1 ≤ 1)) with
    | false => exact Ev.bind (a := true) (Ev.pure _) (Ev.bind (a := true) (Ev.ite_t rfl (Ev.pure _)) (Ev.pure _))
    | true =>
      cases (decide (0 ≤ x.2.1) && decide (x.2.1 ≤ 9)) with
      | false => exact Ev.bind (a := true) (Ev.pure _) (Ev.bind (a := true) (Ev.ite_t rfl (Ev.pure _)) (Ev.pure _))
      | true => exact Ev.bind (a := false) (Ev.pure _) (Ev.bind (Ev.ite_f (by simp) (Ev.bind hi (Ev.pure _))) (Ev.pure _))
  by_cases h1 : 1 ≤ a.length ∧ a.length ≤ 120
  · refine Ev.eq (Ev.ite_f (by simp; omega) (Ev.bind hfind (Ev.pure _))) ?_
    simp [h1]
  · refine Ev.eq (Ev.ite_t (by simp; omega) (Ev.pure _)) ?_
    simp; omega

theorem validG_spec {a : List Timpl_Vertex} (hl : a.length ≤ 1048576) (g : ∀ x ∈ a, x.2.2.length ≤ 1048576) : Ev (fun m => spec_l23Is_m m a) (validG a) := by
  have hm : maxLen = 9223372036854775807 := by unfold maxLen; rfl
  unfold spec_l23Is_m validG
  by_cases h1 : 1 ≤ a.length ∧ a.length ≤ 120
  · refine Ev.bind (a := false) (Ev.const (by rw [or_some, show ((a.length : Int) == 0) = false from by rw [beq_eq_false_iff_ne]; omega, show decide ((120 : Int) < a.length) = false from decide_eq_false (by omega)]; rfl)) (Ev.ite_f (by simp) ?_)
    have key : ∀ (k : Nat) (x : Timpl_Vertex), a[k]? = some x → ∀ {A B : Option (Int ⊕ (Unit ⊕ Bool))} {r}, (if (!okVx (W ((a.length : Int) - 1)) x) = true then A else B) = some r → Ev (fun m => (idx a (k : Int)).bind fun x183 => (spec_l00In_m m x183.1 (0 : Int) (1 : Int)).bind fun x200 => (if (!x200) = true then some true else (idx a (k : Int)).bind fun x206 => (spec_l00In_m m x206.2.1 (0 : Int) (9 : Int)).bind fun x223 => some (!x223)).bind fun t203 => (if t203 = true then some true else (idx a (k : Int)).bind fun x229 => (spec_l00Rises_m m x229.2.2 (0 : Int) (W ((a.length : Int) - (1 : Int)))).bind fun x246 => some (!x246)).bind fun t226 => (if t226 = true then A else B)) r := by
      intro k x hx A B r hr
      have hi := rises_spec (xs := x.2.2) (n := W ((a.length : Int) - 1)) (by have := g x (List.mem_of_getElem? hx); omega)
      simp only [idx_at hx, Option.bind_some, l00In_eq]
      revert hr
      unfold okVx
      cases (decide (0 ≤ x.1) && decide (x.1 ≤ 1)) with
      | false => exact fun hr => Ev.bind (a := true) (Ev.pure _) (Ev.bind (a := true) (Ev.ite_t rfl (Ev.pure _)) (Ev.const hr))
      | true =>
        cases (decide (0 ≤ x.2.1) && decide (x.2.1 ≤ 9)) with
        | false => exact fun hr => Ev.bind (a := true) (Ev.pure _) (Ev.bind (a := true) (Ev.ite_t rfl (Ev.pure _)) (Ev.const hr))
        | true => exact fun hr => Ev.bind (a := false) (Ev.pure _) (Ev.bind (Ev.ite_f (by simp) (Ev.bind hi (Ev.pure _))) (Ev.const hr))
    refine (Ev.all (step := _) a.length (fun k => match a[k]? with | none => true | some x => okVx (W ((a.length : Int) - 1)) x) false true (fun k hk hok => ?_) (fun k hk hok => ?_) (Ev.ite_f (by simp) (Ev.pure _))).eq ?_
    · obtain ⟨x, hx⟩ := get_lt hk
      simp only [hx] at hok
      exact Ev.ite_t (decide_eq_true (by omega)) (key k x hx (by rw [hok, W_succ hk (by omega)]; rfl))
    · obtain ⟨x, hx⟩ := get_lt hk
      simp only [hx] at hok
      exact Ev.ite_t (decide_eq_true (by omega)) (key k x hx (by rw [hok]; rfl))
    · rw [all_list (ok := okVx (W ((a.length : Int) - 1))) (fun k => by cases a[k]? <;> rfl)]
      rw [decide_eq_true (by omega), Bool.true_and]
      cases a.all (okVx (W ((a.length : Int) - 1))) <;> rfl
  · refine Ev.bind (a := true) (Ev.const (by rw [or_some, show ((a.length : Int) == 0 || decide ((120 : Int) < a.length)) = true from by rw [Bool.or_eq_true, beq_iff_eq, decide_eq_true_eq]; omega])) (Ev.eq (Ev.ite_t rfl (Ev.pure _)) ?_)
    rw [decide_eq_false h1, Bool.false_and]

abbrev GV : Tlaws_Vertex → Prop := gAnd (gInt .i64) (gAnd (gInt .i64) GI)
abbrev GVs : List Tlaws_Vertex → Prop := gList GV

theorem sz_vtx {x : Tlaws_Vertex} (g : GV x) {b : Int} (h0 : 0 ≤ b) (hb : b ≤ 1048576) : ∃ r, Ev (fun n => laws_szVertex_m n x b) r ∧ Sz b r (x.2.2.length ≤ 1048576) := by
  obtain ⟨r, h1, h2⟩ := sz_ints g.2.2 h0 hb
  by_cases h : r < 0
  · exact ⟨-1, Ev.bind h1 (Ev.ite_t (by simpa using h) (Ev.pure _)), .inl (by omega)⟩
  · exact ⟨r, Ev.bind h1 (Ev.ite_f (by simpa using h) (Ev.pure _)), h2⟩
theorem sz_vtxs {a : List Tlaws_Vertex} (g : GVs a) {b : Int} (h0 : 0 ≤ b) (hb : b ≤ 1048576) : ∃ r, Ev (fun n => laws_szVertexS_m n a b) r ∧ Sz b r (a.length ≤ 1048576 ∧ ∀ x ∈ a, x.2.2.length ≤ 1048576) :=
  sz_loop (fun x hx _ h0 hb => sz_vtx (g.2 x hx) h0 hb) g.1 h0 hb

theorem to_vtx {x : Tlaws_Vertex} (hl : x.2.2.length ≤ 1048576) : Ev (fun n => laws_toVertex_m n x) x := Ev.bind (to_ints hl) (Ev.pure _)
theorem to_vtxs {a : List Tlaws_Vertex} (hl : a.length ≤ 1048576) (h : ∀ x ∈ a, x.2.2.length ≤ 1048576) : Ev (fun n => laws_toVertexS_m n a) a := by
  have := to_loop («to» := fun n x => laws_toVertex_m n x) (f := id) (a := a) (z := (0, 0, [])) (fun x hx => to_vtx (h x hx)) hl
  rw [List.map_id] at this
  exact this

theorem eq_vtx {x : Timpl_Vertex} (hl : x.2.2.length ≤ maxLen) : Ev (fun n => laws_eqVertex_m n x x) true :=
  Ev.ite_f (by simp) (Ev.ite_f (by simp) (Ev.bind (eq_ints hl) (Ev.ite_f (by simp) (Ev.pure _))))
theorem eq_vtxs {a : List Timpl_Vertex} (hl : a.length ≤ maxLen) (h : ∀ x ∈ a, x.2.2.length ≤ maxLen) : Ev (fun n => laws_eqVertexS_m n a a) true :=
  eq_loop (eq := fun n x y => laws_eqVertex_m n x y) (fun x hx => eq_vtx (h x hx)) hl
theorem EvI.tab {β ρ : Type} {step : Nat → List β × Int → Option ((List β × Int) ⊕ (List β ⊕ ρ))} (n : Nat) (f : Nat → β)
    (hs : ∀ k (xs : List β), k < n → xs.length = k → Ev (fun m => step m (xs, (k : Int))) (.inl (xs ++ [f k], ((k + 1 : Nat) : Int)))) (hn : ∀ xs : List β, Ev (fun m => step m (xs, (n : Int))) (.inr (.inl xs))) :
    EvI step ([], 0) (.inl ((List.range n).map f)) := by
  refine EvI.upto n (fun k (_ : Unit) => ((List.range k).map f, (k : Int))) (fun _ _ => True) (k := 0) (t := ()) rfl (Nat.zero_le _) trivial (fun k t hk _ => ⟨(), ?_, trivial⟩) (fun t _ => hn _)
  refine (hs k _ hk (by simp)).eq ?_
  rw [List.range_succ, List.map_append]; rfl

theorem rises_pw {xs : List Int} {n : Int} (h : rises xs n = true) : xs.Pairwise (· < ·) := by
  simp only [rises, decide_eq_true_eq] at h
  have step : ∀ k (hk : k + 1 < xs.length), xs[k] < xs[k + 1] := by
    intro k hk
    have := h (k + 1) hk
    have hk0 : k < xs.length := by omega
    simp only [okAt, List.getElem?_eq_getElem hk, Nat.add_sub_cancel, List.getElem?_eq_getElem hk0] at this
    simp at this
    omega
  rw [List.pairwise_iff_getElem]
  intro i j hi hj hij
  induction j with
  | zero => omega
  | succ j ih =>
    by_cases e : i = j
    · subst e; exact step i hj
    · have h1 := ih (by omega) (by omega)
      have h2 := step j hj
      omega
def vxAt (a : List Timpl_Vertex) (u : Int) : Timpl_Vertex := match idx a u with | some x => x | none => (0, 0, [])
theorem vxAt_of {a : List Timpl_Vertex} {u : Int} {x : Timpl_Vertex} (h : idx a u = some x) : vxAt a u = x := by simp [vxAt, h]
theorem validG_next {a : List Timpl_Vertex} (hv : validG a = true) {x : Timpl_Vertex} (hx : x ∈ a) : x.2.2.Pairwise (· < ·) ∧ ∀ v ∈ x.2.2, 0 ≤ v ∧ v < (a.length : Int) := by
  have hm : maxLen = 9223372036854775807 := by unfold maxLen; rfl
  simp only [validG, Bool.and_eq_true, decide_eq_true_eq, List.all_eq_true] at hv
  have h1 := hv.2 x hx
  simp only [okVx, Bool.and_eq_true] at h1
  refine ⟨rises_pw h1.2.2, fun v hvm => ?_⟩
  have h2 := h1.2.2
  simp only [rises, decide_eq_true_eq] at h2
  obtain ⟨i, hi, rfl⟩ := List.getElem_of_mem hvm
  have h4 := h2 i hi
  simp only [okAt, List.getElem?_eq_getElem hi, Bool.and_eq_true, decide_eq_true_eq] at h4
  rw [W_of (by omega) (by omega)] at h4
  omega
theorem validG_len {a : List Timpl_Vertex} (hv : validG a = true) : 1 ≤ a.length ∧ a.length ≤ 120 := by
  simp only [validG, Bool.and_eq_true, decide_eq_true_eq] at hv
  exact hv.1
theorem vx_facts {a : List Timpl_Vertex} (hv : validG a = true) {x : Timpl_Vertex} (hx : x ∈ a) : (0 ≤ x.1 ∧ x.1 ≤ 1) ∧ (0 ≤ x.2.1 ∧ x.2.1 ≤ 9) ∧ ∀ v ∈ x.2.2, 0 ≤ v ∧ v < (a.length : Int) := by
  have h2 := (validG_next hv hx).2
  simp only [validG, Bool.and_eq_true, decide_eq_true_eq, List.all_eq_true] at hv
  have h1 := hv.2 x hx
  simp only [okVx, Bool.and_eq_true, decide_eq_true_eq] at h1
  exact ⟨h1.1, h1.2.1, h2⟩
theorem tmod_pos {p : Int} (h : 0 ≤ p) : p.tmod 2 = p % 2 := Int.tmod_eq_emod_of_nonneg h
theorem tdiv_pos {p : Int} (h : 0 ≤ p) : p.tdiv 2 = p / 2 := Int.tdiv_eq_ediv_of_nonneg h

/-! ### tops -/
def tpF (pl : Int) (f : Int → Int) (x : Timpl_Vertex) : Int → Int := if x.2.1 % 2 = pl then f else upd f (x.2.1 / 2) (f (x.2.1 / 2) + 1)
def topF (pl : Int) (l : List Timpl_Vertex) : Int → Int := l.foldl (tpF pl) fun _ => 0
theorem topF_take {pl : Int} {l : List Timpl_Vertex} {k : Nat} {x : Timpl_Vertex} (h : l[k]? = some x) : topF pl (l.take (k + 1)) = tpF pl (topF pl (l.take k)) x := by
  unfold topF
  rw [List.take_add_one, h, List.foldl_append]
  rfl
theorem topF_le (pl : Int) (l : List Timpl_Vertex) (i : Int) : 0 ≤ topF pl l i ∧ topF pl l i ≤ (l.length : Int) := by
  have key : ∀ (l : List Timpl_Vertex) (f : Int → Int) (c : Nat), (∀ i, 0 ≤ f i ∧ f i ≤ (c : Int)) → ∀ i, 0 ≤ l.foldl (tpF pl) f i ∧ l.foldl (tpF pl) f i ≤ ((c + l.length : Nat) : Int) := by
    intro l
    induction l with
    | nil => intro f c h i; exact h i
    | cons x r ih =>
      intro f c h i
      have := ih (tpF pl f x) (c + 1) (fun j => ?_) i
      · rw [List.foldl_cons, List.length_cons]
        exact ⟨this.1, by have := this.2; omega⟩
      · unfold tpF
        split
        · have := h j; omega
        · unfold upd
          split
          · have := h (x.2.1 / 2); omega
          · have := h j; omega
  have := key l (fun _ => 0) 0 (fun _ => ⟨Int.le_refl _, by simp⟩) i
  rw [Nat.zero_add] at this
  exact this
theorem tab5 (f : Int → Int) : tab 5 f = [f 0, f 1, f 2, f 3, f 4] := rfl
theorem bad_eq {m : Nat} {pl p : Int} (h : 0 ≤ p ∧ p ≤ 9) : spec_l23Bad_m m pl p = some (if p % 2 = pl then -1 else p / 2) := by
  unfold spec_l23Bad_m
  rw [tmod_pos h.1, tdiv_pos h.1, W_of (by omega) (by omega)]
  by_cases e : p % 2 = pl
  · rw [if_pos e, if_pos (beq_iff_eq.2 e)]
  · rw [if_neg e, if_neg (by simpa using e)]
theorem tops_spec {a : List Timpl_Vertex} (hv : validG a = true) (pl : Int) : Ev (fun m => spec_l23Tops_m m a pl) (tab 5 (topF pl a)) := by
  obtain ⟨l1, l2⟩ := validG_len hv
  unfold spec_l23Tops_m
  refine Ev.bindc (mks_ok (n := 5) (by omega)) (Ev.bind (a := Sum.inl (tab 5 (topF pl a))) ?_ (Ev.pure _))
  refine (EvI.upto a.length (fun k (_ : Unit) => (tab 5 (topF pl (a.take k)), (k : Int))) (fun _ _ => True) (k := 0) (t := ()) rfl (Nat.zero_le _) trivial (fun k _ hk _ => ⟨(), ?_, trivial⟩) (fun _ _ => Ev.ite_f (by simp) (Ev.eq (Ev.pure _) (by rw [List.take_length])))).ev
  obtain ⟨x, hx⟩ := get_lt hk
  obtain ⟨_, hp, _⟩ := vx_facts hv (List.mem_of_getElem? hx)
  have ht := topF_le pl (a.take k) (x.2.1 / 2)
  have htk : (a.take k).length ≤ 120 := by rw [List.length_take]; omega
  rw [topF_take hx]
  unfold tpF
  refine Ev.ite_t (decide_eq_true (by omega)) (Ev.join (Ev.bindc (idx_at hx) (Ev.bind (Ev.const' fun m => bad_eq hp) ?_)))
  by_cases e : x.2.1 % 2 = pl
  · rw [if_pos e, if_pos e]
    refine Ev.ite_f (by simp) (Ev.const ?_)
    rw [W_succ hk (by omega)]
  · rw [if_neg e, if_neg e]
    have hat := tab_at (n := 5) (f := topF pl (a.take k)) (v := x.2.1 / 2) (by omega) (by omega)
    refine Ev.ite_t (decide_eq_true (by omega)) (Ev.bindc hat (Ev.bindc hat (Ev.const ?_)))
    rw [tab_set (by omega), W_succ hk (by omega), W_of (by omega) (by omega)]
def tup (f : Int → Int) : Int × Int × Int × Int × Int := (f 0, f 1, f 2, f 3, f 4)
theorem upd_at {f : Int → Int} {v y : Int} (h : 0 ≤ v) (j : Nat) : upd f v y (j : Int) = if v.toNat = j then y else f (j : Int) := by
  unfold upd
  by_cases e : v.toNat = j
  · rw [if_pos e, if_pos (by omega)]
  · rw [if_neg e, if_neg (by omega)]
theorem tops_impl {a : List Timpl_Vertex} (hv : validG a = true) (pl : Int) : Ev (fun m => impl_newMeasured_m m a pl) (a, pl, tup (topF pl a)) := by
  obtain ⟨l1, l2⟩ := validG_len hv
  unfold impl_newMeasured_m
  refine Ev.bind (a := Sum.inl (tup (topF pl a))) ?_ (Ev.pure _)
  refine (EvI.upto a.length (fun k (_ : Unit) => (topF pl (a.take k) 0, topF pl (a.take k) 1, topF pl (a.take k) 2, topF pl (a.take k) 3, topF pl (a.take k) 4, (k : Int))) (fun _ _ => True) (k := 0) (t := ()) rfl (Nat.zero_le _) trivial (fun k _ hk _ => ⟨(), ?_, trivial⟩) (fun _ _ => Ev.ite_f (by simp) (Ev.eq (Ev.pure _) (by rw [List.take_length]; rfl)))).ev
  obtain ⟨x, hx⟩ := get_lt hk
  obtain ⟨_, hp, _⟩ := vx_facts hv (List.mem_of_getElem? hx)
  have ht := topF_le pl (a.take k) (x.2.1 / 2)
  have htk : (a.take k).length ≤ 120 := by rw [List.length_take]; omega
  rw [topF_take hx]
  unfold tpF
  have hd : W (x.2.1.tdiv 2) = x.2.1 / 2 := by rw [tdiv_pos hp.1, W_of (by omega) (by omega)]
  refine Ev.ite_t (decide_eq_true (by omega)) (Ev.join (Ev.bindc (idx_at hx) ?_))
  rw [tmod_pos hp.1, hd]
  by_cases e : x.2.1 % 2 = pl
  · rw [if_pos e]
    refine Ev.ite_f (by simpa using e) (Ev.const ?_)
    rw [W_succ hk (by omega)]
  · rw [if_neg e]
    have hat := tab_at (n := 5) (f := topF pl (a.take k)) (v := x.2.1 / 2) (by omega) (by omega)
    refine Ev.ite_t (by simpa using e) (Ev.bindc hat (Ev.bindc hat (Ev.const ?_)))
    have hu := fun j => upd_at (f := topF pl (a.take k)) (v := x.2.1 / 2) (y := topF pl (a.take k) (x.2.1 / 2) + 1) (by omega) j
    have u0 := hu 0
    have u1 := hu 1
    have u2 := hu 2
    have u3 := hu 3
    have u4 := hu 4
    rw [show ((0 : Nat) : Int) = 0 from rfl] at u0
    rw [show ((1 : Nat) : Int) = 1 from rfl] at u1
    rw [show ((2 : Nat) : Int) = 2 from rfl] at u2
    rw [show ((3 : Nat) : Int) = 3 from rfl] at u3
    rw [show ((4 : Nat) : Int) = 4 from rfl] at u4
    rw [W_succ hk (by omega), W_of (n := topF pl (a.take k) (x.2.1 / 2) + 1) (by omega) (by omega), u0, u1, u2, u3, u4]

/-! ### places -/
def plN (pl p : Int) : Nat := ((p + 1 + pl) / 2).toNat
theorem plN_le {pl p : Int} (hpl : 0 ≤ pl ∧ pl ≤ 1) (h : 0 ≤ p ∧ p ≤ 9) : plN pl p ≤ 5 := by unfold plN; omega
theorem places_eq {m : Nat} {pl p : Int} (hpl : 0 ≤ pl ∧ pl ≤ 1) (h : 0 ≤ p ∧ p ≤ 9) : spec_l23Places_m m pl p = some ((plN pl p : Nat) : Int) := by
  unfold spec_l23Places_m plN
  have hc : pl = 0 ∨ pl = 1 := by omega
  rcases hc with rfl | rfl
  · rw [if_pos (show ((0 : Int) == 0) = true from rfl), W_of (n := p + 1) (by omega) (by omega), tdiv_pos (by omega), W_of (by omega) (by omega)]
    exact congrArg some (by omega)
  · rw [if_neg (show ¬ (((1 : Int) == 0) = true) by decide), tdiv_pos (by omega), W_of (n := p / 2) (by omega) (by omega), W_of (by omega) (by omega)]
    exact congrArg some (by omega)
theorem upTo_ev {x : Timpl_measured} {p : Int} (hpl : 0 ≤ x.2.1 ∧ x.2.1 ≤ 1) (h : 0 ≤ p ∧ p ≤ 9) : Ev (fun m => Pimpl_measured_upTo_m m x p) ((plN x.2.1 p : Nat) : Int) := by
  have hle := plN_le hpl h
  have hdef : plN x.2.1 p = ((p + 1 + x.2.1) / 2).toNat := rfl
  unfold Pimpl_measured_upTo_m
  refine Ev.bind (a := Sum.inl ((plN x.2.1 p : Nat) : Int)) (EvI.upto (plN x.2.1 p) (fun k (_ : Unit) => (k : Int)) (fun _ _ => True) (k := 0) (t := ()) rfl (Nat.zero_le _) trivial (fun k _ hk _ => ⟨(), ?_, trivial⟩) (fun _ _ => ?_)).ev (Ev.pure _)
  · have hb : ∀ m, Pimpl_measured_bad_m m x (k : Int) = some (2 * (k : Int) + 1 - x.2.1) := fun m => by
      unfold Pimpl_measured_bad_m
      rw [W_of (n := 2 * (k : Int)) (by omega) (by omega), W_of (n := 2 * (k : Int) + 1) (by omega) (by omega), W_of (by omega) (by omega)]
    refine Ev.bind (a := true) (Ev.ite_t (decide_eq_true (by omega)) (Ev.bind (Ev.const' hb) (Ev.const (congrArg some (decide_eq_true (by omega)))))) (Ev.ite_t rfl (Ev.const ?_))
    rw [W_succ hk (by omega)]
  · have hb : ∀ m, Pimpl_measured_bad_m m x ((plN x.2.1 p : Nat) : Int) = some (2 * ((plN x.2.1 p : Nat) : Int) + 1 - x.2.1) := fun m => by
      unfold Pimpl_measured_bad_m
      rw [W_of (n := 2 * ((plN x.2.1 p : Nat) : Int)) (by omega) (by omega), W_of (n := 2 * ((plN x.2.1 p : Nat) : Int) + 1) (by omega) (by omega), W_of (by omega) (by omega)]
    refine Ev.bind (a := false) ?_ (Ev.ite_f (by simp) (Ev.pure _))
    by_cases e : plN x.2.1 p < 5
    · exact Ev.ite_t (decide_eq_true (by omega)) (Ev.bind (Ev.const' hb) (Ev.const (congrArg some (decide_eq_false (by omega)))))
    · exact Ev.ite_f (by simp; omega) (Ev.pure _)

/-! ### rows compared -/
def cmpL : List Int → List Int → Int
  | x :: xs, y :: ys => if x < y then -1 else if y < x then 1 else cmpL xs ys
  | _, _ => 0
theorem cmp_loop {step : Nat → Int → Option (Int ⊕ (Unit ⊕ Int))} (a b : List Int)
    (hlt : ∀ (k : Nat) (x y : Int), a[k]? = some x → b[k]? = some y → x < y → Ev (fun m => step m (k : Int)) (.inr (.inr (-1))))
    (hgt : ∀ (k : Nat) (x y : Int), a[k]? = some x → b[k]? = some y → y < x → Ev (fun m => step m (k : Int)) (.inr (.inr 1)))
    (heq : ∀ (k : Nat) (x : Int), a[k]? = some x → b[k]? = some x → Ev (fun m => step m (k : Int)) (.inl ((k + 1 : Nat) : Int)))
    (hend : Ev (fun m => step m (a.length : Int)) (.inr (.inl ()))) :
    ∀ (l r : List Int) (k : Nat), a.drop k = l → b.drop k = r → l.length = r.length → k ≤ a.length → ∃ res, EvI step (k : Int) res ∧ (match res with | .inl _ => cmpL l r = 0 | .inr c => cmpL l r = c) := by
  intro l
  induction l with
  | nil =>
    intro r k h1 h2 h3 h4
    have : k = a.length := by
      have := congrArg List.length h1
      rw [List.length_drop, List.length_nil] at this
      omega
    subst this
    exact ⟨_, EvI.stop hend, rfl⟩
  | cons x l ih =>
    intro r k h1 h2 h3 h4
    cases r with
    | nil => cases h3
    | cons y r =>
      have ha : a[k]? = some x ∧ a.drop (k + 1) = l := ⟨by have := congrArg (fun l => l[0]?) h1; simpa using this, by rw [← List.drop_drop, h1]; rfl⟩
      have hb : b[k]? = some y ∧ b.drop (k + 1) = r := ⟨by have := congrArg (fun l => l[0]?) h2; simpa using this, by rw [← List.drop_drop, h2]; rfl⟩
      have hk := (List.getElem?_eq_some_iff.1 ha.1).1
      unfold cmpL
      by_cases e1 : x < y
      · exact ⟨_, EvI.stop (hlt k x y ha.1 hb.1 e1), if_pos e1⟩
      by_cases e2 : y < x
      · refine ⟨_, EvI.stop (hgt k x y ha.1 hb.1 e2), ?_⟩
        show (if x < y then (-1 : Int) else if y < x then 1 else cmpL l r) = 1
        rw [if_neg e1, if_pos e2]
      have e3 : y = x := by omega
      subst e3
      obtain ⟨res, q1, q2⟩ := ih r (k + 1) ha.2 hb.2 (by simpa using h3) (by omega)
      refine ⟨res, EvI.go (heq k y ha.1 hb.1) q1, ?_⟩
      rw [if_neg e1, if_neg e1]
      exact q2
theorem cmp_spec {a b : List Int} (h : a.length = b.length) (hl : a.length ≤ 1048576) : Ev (fun m => spec_l01Compare_m m a b) (cmpL a b) := by
  unfold spec_l01Compare_m
  have hn : ∀ {k : Nat} {x y : Int}, a[k]? = some x → b[k]? = some y → Ev (fun _ => if (decide ((k : Int) < (a.length : Int))) = true then some (decide ((k : Int) < (b.length : Int))) else some false) true := fun hx hy => by
    have h1 := (List.getElem?_eq_some_iff.1 hx).1
    have h2 := (List.getElem?_eq_some_iff.1 hy).1
    exact Ev.ite_t (decide_eq_true (by omega)) (Ev.const (congrArg some (decide_eq_true (by omega))))
  refine Exists.elim (cmp_loop (step := _) a b (fun k x y hx hy e => ?_) (fun k x y hx hy e => ?_) (fun k x hx hy => ?_) ?_ a b 0 rfl rfl h (Nat.zero_le _)) (fun r hr => Ev.bind hr.1.ev ?_)
  · exact Ev.bind (hn hx hy) (Ev.ite_t rfl (Ev.bindc (idx_at hx) (Ev.bindc (idx_at hy) (Ev.ite_t (decide_eq_true e) (Ev.pure _)))))
  · exact Ev.bind (hn hx hy) (Ev.ite_t rfl (Ev.bindc (idx_at hx) (Ev.bindc (idx_at hy) (Ev.ite_f (by simp; omega) (Ev.bindc (idx_at hx) (Ev.bindc (idx_at hy) (Ev.ite_t (decide_eq_true e) (Ev.pure _))))))))
  · have hk := (List.getElem?_eq_some_iff.1 hx).1
    refine Ev.bind (hn hx hy) (Ev.ite_t rfl (Ev.bindc (idx_at hx) (Ev.bindc (idx_at hy) (Ev.ite_f (by simp) (Ev.bindc (idx_at hx) (Ev.bindc (idx_at hy) (Ev.ite_f (by simp) (Ev.const ?_))))))))
    rw [W_succ hk (by omega)]
  · exact Ev.bind (a := false) (Ev.ite_f (by simp) (Ev.pure _)) (Ev.ite_f (by simp) (Ev.pure _))
  · have e2 := hr.2
    cases r with
    | inl u =>
      rw [show cmpL a b = 0 from e2]
      exact Ev.ite_f (by simp; omega) (Ev.ite_f (by simp; omega) (Ev.pure _))
    | inr c =>
      rw [show cmpL a b = c from e2]
      exact Ev.pure _
theorem cmp1 {m : Nat} {x y : Int} : cmp_Compare_int64_m m x y = some (if x < y then -1 else if y < x then 1 else 0) := by
  unfold cmp_Compare_int64_m cmp_isNaN_int64_m
  by_cases e1 : x < y
  · simp [e1]
  · by_cases e2 : y < x <;> simp [e1, e2]
theorem cmp_impl {a b : List Int} (h : a.length = b.length) (hl : a.length ≤ 1048576) : Ev (fun m => slices_Compare__int64_int64_m m a b) (cmpL a b) := by
  unfold slices_Compare__int64_int64_m
  refine Exists.elim (cmp_loop (step := _) a b (fun k x y hx hy e => ?_) (fun k x y hx hy e => ?_) (fun k x hx hy => ?_) ?_ a b 0 rfl rfl h (Nat.zero_le _)) (fun r hr => Ev.bind hr.1.ev ?_)
  · have h1 := (List.getElem?_eq_some_iff.1 hx).1
    refine Ev.ite_t (decide_eq_true (by omega)) (Ev.bindc (idx_at hx) (Ev.ite_f (by simp; omega) (Ev.bindc (idx_at hy) (Ev.bind (Ev.const' fun m => cmp1) ?_))))
    rw [if_pos e]
    exact Ev.ite_t rfl (Ev.pure _)
  · have h1 := (List.getElem?_eq_some_iff.1 hx).1
    refine Ev.ite_t (decide_eq_true (by omega)) (Ev.bindc (idx_at hx) (Ev.ite_f (by simp; omega) (Ev.bindc (idx_at hy) (Ev.bind (Ev.const' fun m => cmp1) ?_))))
    rw [if_neg (show ¬ x < y by omega), if_pos e]
    exact Ev.ite_t rfl (Ev.pure _)
  · have h1 := (List.getElem?_eq_some_iff.1 hx).1
    refine Ev.ite_t (decide_eq_true (by omega)) (Ev.bindc (idx_at hx) (Ev.ite_f (by simp; omega) (Ev.bindc (idx_at hy) (Ev.bind (Ev.const' fun m => cmp1) ?_))))
    rw [if_neg (show ¬ x < x by omega), if_neg (show ¬ x < x by omega)]
    refine Ev.ite_f (by simp) (Ev.const ?_)
    rw [W_succ h1 (by omega)]
  · exact Ev.ite_f (by simp) (Ev.pure _)
  · have e2 := hr.2
    cases r with
    | inl u =>
      rw [show cmpL a b = 0 from e2]
      exact Ev.ite_f (by simp; omega) (Ev.pure _)
    | inr c =>
      rw [show cmpL a b = c from e2]
      exact Ev.pure _
theorem eqB_ints {a : List Int} (h : a.length ≤ 1048576) : Ev (fun n => laws_eqInt64S_m n a a) true := eq_ints (by have : maxLen = 9223372036854775807 := (by unfold maxLen; rfl); omega)
theorem toB_vtxs {a : List Tlaws_Vertex} (h : a.length ≤ 1048576 ∧ ∀ x ∈ a, x.2.2.length ≤ 1048576) : Ev (fun n => laws_toVertexS_m n a) a := to_vtxs h.1 h.2
theorem eqB_vtxs {a : List Timpl_Vertex} (h : a.length ≤ 1048576 ∧ ∀ x ∈ a, x.2.2.length ≤ 1048576) : Ev (fun n => laws_eqVertexS_m n a a) true :=
  have hm : maxLen = 9223372036854775807 := by unfold maxLen; rfl
  eq_vtxs (by have := h.1; omega) (fun x hx => by have := h.2 x hx; omega)
/-- Marks on ints alone. -/
theorem markA_ints {a : List Int} {k : Int} (hl : a.length ≤ 1048576) (h0 : 1 ≤ k) (hk : k ≤ 4611686018427387904 - 1048576) :
    ∃ k' ys, Ev (fun n => laws_markInt64S_m n a k) (k', ys) ∧ k ≤ k' ∧ k' ≤ k + (a.length * 1 : Nat) ∧ ys.length = a.length := by
  unfold laws_markInt64S_m
  refine mark_alone (p := fun _ => True) (fun _ _ => trivial) h0 (by omega)
    (fun xs k i x hxl hx _ h1 h2 => ⟨k, k + 1, Ev.const' fun m => ?_, by omega, by omega⟩) (fun xs k hxl => ?_)
  · have hi : i < xs.length := (List.getElem?_eq_some_iff.1 hx).1
    simp [idx_at hx, W_succ (k := i) (n := xs.length) hi (by omega), W_of (n := k + 1) (by omega) (by omega), hi]
  · exact Ev.const' fun m => by simp [hxl]
theorem marksA_vtxs {a : List Timpl_Vertex} {k : Int} (h : a.length ≤ 1048576 ∧ ∀ x ∈ a, x.2.2.length ≤ 1048576) (h0 : 1 ≤ k) (hk : k ≤ 4503599627370496) :
    ∃ k' ys, Ev (fun n => laws_markVertexS_m n a k) (k', ys) ∧ k ≤ k' ∧ k' ≤ k + 4398046511104 := by
  have : ∃ k' ys, Ev (fun n => laws_markVertexS_m n a k) (k', ys) ∧ k ≤ k' ∧ k' ≤ k + (a.length * 1048578 : Nat) ∧ ys.length = a.length := by
    unfold laws_markVertexS_m
    refine mark_alone (p := fun x => x.2.2.length ≤ 1048576) h.2 h0 (by have := h.1; omega) (fun xs k i x hxl hx hp h1 h2 => ?_) (fun xs k hxl => Ev.const' fun m => by simp [hxl])
    have hi : i < xs.length := (List.getElem?_eq_some_iff.1 hx).1
    have hx1 := h.1
    have w2 : W (k + 1) = k + 1 := W_of (by omega) (by omega)
    have w3 : W (k + 1 + 1) = k + 1 + 1 := W_of (by omega) (by omega)
    obtain ⟨k', ys, e1, e3, e4, _⟩ := markA_ints (a := x.2.2) (k := k + 1 + 1) hp (by omega) (by omega)
    refine ⟨(k, W (k + 1), ys), k', Ev.eq (Ev.ite_t (by simp [hi]) (Ev.bindc (idx_at hx) (Ev.bindc (idx_set hi) (Ev.bindc (idx_set (by simpa using hi)) (Ev.bind (a := (k', ys)) ?_ (Ev.pure _)))))) ?_, by omega, by omega⟩
    · rw [w2, w3]; exact e1
    · simp only [Int.toNat_natCast, List.set_set, W_succ (k := i) (n := xs.length) hi (by omega)]
  obtain ⟨k', ys, h1, h2, h3, _⟩ := this
  have := h.1
  exact ⟨k', ys, h1, h2, by omega⟩
def BII (a : List (List Int)) : Prop := a.length ≤ 1048576 ∧ ∀ x ∈ a, x.length ≤ 1048576
theorem eqB_intss {a : List (List Int)} (h : BII a) : Ev (fun n => laws_eqInt64SS_m n a a) true :=
  have hm : maxLen = 9223372036854775807 := by unfold maxLen; rfl
  eq_loop (eq := fun n x y => laws_eqInt64S_m n x y) (fun x hx => eqB_ints (h.2 x hx)) (by have := h.1; omega)
theorem marksB_intss {a : List (List Int)} {k : Int} (h : BII a) (h0 : 1 ≤ k) (hk : k ≤ 4503599627370496) :
    ∃ k' ys, Ev (fun n => laws_markInt64SS_m n a k) (k', ys) ∧ Ev (fun n => laws_heldInt64SS_m n ys k) k' ∧ k ≤ k' ∧ k' ≤ k + 4398046511104 := by
  have : ∃ k' ys, Ev (fun n => laws_markInt64SS_m n a k) (k', ys) ∧ Ev (fun n => laws_heldInt64SS_m n ys k) k' ∧ k ≤ k' ∧ k' ≤ k + (a.length * 1048576 : Nat) ∧ ys.length = a.length := by
    unfold laws_markInt64SS_m laws_heldInt64SS_m
    refine mark_held (p := fun x => x.length ≤ 1048576) h.2 h0 (by have := h.1; omega) (fun xs k i x hxl hx hp h1 h2 => ?_) (fun xs k hxl => Ev.const' fun m => by simp [hxl]) (fun ys k hyl => Ev.const' fun m => by simp [hyl])
    have hi : i < xs.length := (List.getElem?_eq_some_iff.1 hx).1
    have hx1 := h.1
    obtain ⟨k', ys, e1, e2, e3, e4, _⟩ := marks_ints (a := x) (k := k) hp (by omega) (by omega)
    refine ⟨ys, k', Ev.eq (Ev.ite_t (by simp [hi]) (Ev.bindc (idx_at hx) (Ev.bind e1 (Ev.pure _)))) ?_, by omega, by omega, fun zs hzl hz => ?_⟩
    · simp only [Int.toNat_natCast, W_succ (k := i) (n := xs.length) hi (by omega)]
    · have hi : i < zs.length := (List.getElem?_eq_some_iff.1 hz).1
      refine Ev.eq (Ev.ite_t (by simp [hi]) (Ev.bindc (idx_at hz) (Ev.bind e2 (Ev.ite_f (by simp; omega) (Ev.pure _))))) ?_
      rw [W_succ (k := i) (n := zs.length) hi (by omega)]
  obtain ⟨k', ys, h1, h2, h3, h4, _⟩ := this
  have := h.1
  exact ⟨k', ys, h1, h2, h3, by omega⟩
/-- A row: none is the top, else five numbers. -/
abbrev Rw := Option (Int → Int)
def rowL : Rw → List Int
  | none => []
  | some g => tab 5 g
def okG (f g : Int → Int) : Prop := ∀ i : Int, 0 ≤ i → i < 5 → 0 ≤ g i ∧ g i ≤ f i
def okR (f : Int → Int) : Rw → Prop
  | none => True
  | some g => okG f g
theorem rowL_len {R : Rw} : (rowL R).length = (match R with | none => 0 | some _ => 5) := by cases R <;> rfl

/-! ### the least row that is enough -/
def carry (f : Int → Int) : Nat → (Int → Int) → Rw
  | 0, _ => none
  | i + 1, g => if g (i : Int) < f (i : Int) then some (upd g (i : Int) (g (i : Int) + 1)) else carry f i (upd g (i : Int) 0)
def cutG (n : Nat) (g : Int → Int) (i : Int) : Int := if i < (n : Int) then g i else 0
def lift (f : Int → Int) (pl p : Int) : Rw → Rw
  | none => none
  | some g => if p % 2 = pl then some (cutG (plN pl p) g) else carry f (plN pl p) (cutG (plN pl p) g)
theorem carry_ok {f : Int → Int} : ∀ {n : Nat} {g : Int → Int}, n ≤ 5 → okG f g → okR f (carry f n g)
  | 0, _, _, _ => trivial
  | i + 1, g, hn, h => by
    have hi := h (i : Int) (by omega) (by omega)
    unfold carry
    by_cases e : g (i : Int) < f (i : Int)
    · rw [if_pos e]
      intro j h0 h1
      unfold upd
      by_cases ej : j = (i : Int)
      · subst ej; rw [if_pos rfl]; omega
      · rw [if_neg ej]; exact h j h0 h1
    · rw [if_neg e]
      refine carry_ok (by omega) fun j h0 h1 => ?_
      unfold upd
      by_cases ej : j = (i : Int)
      · subst ej; rw [if_pos rfl]; omega
      · rw [if_neg ej]; exact h j h0 h1
theorem cut_ok {f g : Int → Int} {n : Nat} (h : okG f g) : okG f (cutG n g) := fun i h0 h1 => by
  have := h i h0 h1
  unfold cutG
  split <;> omega
theorem lift_ok {f : Int → Int} {pl p : Int} (hn : plN pl p ≤ 5) {R : Rw} (h : okR f R) : okR f (lift f pl p R) := by
  cases R with
  | none => exact trivial
  | some g =>
    unfold lift
    simp only
    split
    · exact cut_ok h
    · exact carry_ok hn (cut_ok h)
theorem carry_loop {f : Int → Int} (hf : ∀ i, 0 ≤ f i ∧ f i ≤ 120) {step : Nat → List Int × Int → Option ((List Int × Int) ⊕ (Unit ⊕ List Int))}
    (hs : ∀ (i : Nat) (g : Int → Int), i < 5 → okG f g → Ev (fun m => step m (tab 5 g, (i : Int))) (if g (i : Int) < f (i : Int) then .inr (.inr (tab 5 (upd g (i : Int) (g (i : Int) + 1)))) else .inl (tab 5 (upd g (i : Int) 0), (i : Int) - 1)))
    (hend : ∀ xs, Ev (fun m => step m (xs, (0 : Int) - 1)) (.inr (.inl ()))) :
    ∀ (n : Nat) (g : Int → Int), n ≤ 5 → okG f g → EvI step (tab 5 g, (n : Int) - 1) (match carry f n g with | none => .inl () | some h => .inr (tab 5 h)) := by
  intro n
  induction n with
  | zero => intro g _ _; exact EvI.stop (hend _)
  | succ i ih =>
    intro g hn hg
    have h := hs i g (by omega) hg
    rw [show ((i + 1 : Nat) : Int) - 1 = (i : Int) by omega]
    have hi := hg (i : Int) (by omega) (by omega)
    have hfi := hf (i : Int)
    by_cases e : g (i : Int) < f (i : Int)
    · rw [if_pos e] at h
      have hc : carry f (i + 1) g = some (upd g (i : Int) (g (i : Int) + 1)) := by unfold carry; rw [if_pos e]
      rw [hc]
      exact EvI.stop h
    · rw [if_neg e] at h
      have hc : carry f (i + 1) g = carry f i (upd g (i : Int) 0) := by rw [carry, if_neg e]
      rw [hc]
      refine EvI.go h (ih _ (by omega) fun j h0 h1 => ?_)
      unfold upd
      by_cases ej : j = (i : Int)
      · subst ej; rw [if_pos rfl]; omega
      · rw [if_neg ej]; exact hg j h0 h1
theorem cut_tab {n : Nat} (h : n ≤ 5) (g : Int → Int) : (tab 5 g).take n ++ List.replicate (5 - n) 0 = tab 5 (cutG n g) := by
  refine List.ext_getElem? fun i => ?_
  by_cases hi : i < 5
  · rw [tab_get hi]
    by_cases hn : i < n
    · rw [List.getElem?_append_left (by rw [List.length_take, tab_len]; omega), List.getElem?_take, if_pos hn, tab_get hi]
      unfold cutG
      rw [if_pos (by omega)]
    · rw [List.getElem?_append_right (by rw [List.length_take, tab_len]; omega), List.length_take, tab_len, List.getElem?_replicate, if_pos (by omega)]
      unfold cutG
      rw [if_neg (by omega)]
  · rw [List.getElem?_eq_none (by rw [List.length_append, List.length_take, tab_len, List.length_replicate]; omega), List.getElem?_eq_none (by rw [tab_len]; omega)]
section
variable {f : Int → Int} (hf : ∀ i, 0 ≤ f i ∧ f i ≤ 120) {pl p : Int} (hpl : 0 ≤ pl ∧ pl ≤ 1) (hp : 0 ≤ p ∧ p ≤ 9) {R : Rw} (hR : okR f R)
include hf hpl hp hR
theorem lift_spec : Ev (fun m => spec_l23Lift_m m (rowL R) (tab 5 f) pl p) (rowL (lift f pl p R)) := by
  have hle := plN_le hpl hp
  unfold spec_l23Lift_m
  cases R with
  | none => exact Ev.ite_t rfl (Ev.pure _)
  | some g =>
    refine Ev.ite_f (by simp [rowL, tab_len]) (Ev.bind (Ev.const' fun m => places_eq hpl hp) (Ev.bindc (mks_ok (n := 5) (by omega)) (Ev.bind (a := Sum.inl (tab 5 (cutG (plN pl p) g))) ?_ ?_)))
    · refine (EvI.upto (plN pl p) (fun k (_ : Unit) => (tab 5 (cutG k g), (k : Int))) (fun _ _ => True) (k := 0) (t := ()) ?_ (Nat.zero_le _) trivial (fun k _ hk _ => ⟨(), ?_, trivial⟩) (fun _ _ => Ev.ite_f (by simp) (Ev.pure _))).ev
      · refine congrArg (fun q => (q, (0 : Int))) ?_
        rw [tab_const]
        refine tab_congr fun v h0 _ => ?_
        unfold cutG
        rw [if_neg (by omega)]
      · have hat := tab_at (n := 5) (f := g) (v := (k : Int)) (by omega) (by omega)
        have hat2 := tab_at (n := 5) (f := cutG k g) (v := (k : Int)) (by omega) (by omega)
        refine Ev.ite_t (decide_eq_true (by omega)) (Ev.bindc hat (Ev.bindc hat2 (Ev.const ?_)))
        rw [tab_set (by omega), W_succ hk (by omega)]
        refine congrArg (fun q => some (Sum.inl (q, ((k + 1 : Nat) : Int)))) (tab_congr fun v h0 _ => ?_)
        unfold upd cutG
        by_cases e : v = (k : Int)
        · rw [if_pos e, if_pos (by omega), e]
        · rw [if_neg e]
          by_cases e2 : v < (k : Int)
          · rw [if_pos e2, if_pos (by omega)]
          · rw [if_neg e2, if_neg (by omega)]
    · simp only [ctl_l]
      refine Ev.bind (Ev.const' fun m => bad_eq hp) ?_
      unfold lift
      simp only
      by_cases e : p % 2 = pl
      · rw [if_pos e, if_pos e]
        exact Ev.ite_t rfl (Ev.pure _)
      · rw [if_neg e, if_neg e]
        refine Ev.ite_f (by simp; omega) ?_
        rw [W_of (n := ((plN pl p : Nat) : Int) - 1) (by omega) (by omega)]
        refine Ev.bind (carry_loop hf (fun i g hi hg => ?_) (fun xs => Ev.ite_f (by simp) (Ev.pure _)) (plN pl p) (cutG (plN pl p) g) hle (cut_ok hR)).ev ?_
        · have hat := tab_at (n := 5) (f := g) (v := (i : Int)) (by omega) (by omega)
          have hatf := tab_at (n := 5) (f := f) (v := (i : Int)) (by omega) (by omega)
          have h1 := hg (i : Int) (by omega) (by omega)
          have h2 := hf (i : Int)
          refine Ev.ite_t (decide_eq_true (by omega)) (Ev.bindc hat (Ev.bindc hatf ?_))
          by_cases e : g (i : Int) < f (i : Int)
          · refine (Ev.ite_t (decide_eq_true e) (Ev.bindc hat (Ev.bindc hat (Ev.const ?_)))).eq (if_pos e).symm
            rw [tab_set (by omega), W_of (by omega) (by omega)]
          · refine (Ev.ite_f (by simpa using e) (Ev.bindc hat (Ev.const ?_))).eq (if_neg e).symm
            rw [tab_set (by omega), W_of (by omega) (by omega)]
        · cases carry f (plN pl p) (cutG (plN pl p) g) <;> exact Ev.pure _
theorem lift_impl {a : List Timpl_Vertex} : Ev (fun m => Pimpl_measured_needed_m m (a, pl, tup f) p (rowL R)) (rowL (lift f pl p R)) := by
  have hle := plN_le hpl hp
  unfold Pimpl_measured_needed_m
  cases R with
  | none => exact Ev.ite_t rfl (Ev.pure _)
  | some g =>
    have hu := upTo_ev (x := (a, pl, tup f)) (p := p) hpl hp
    have hsub := sub_ok (xs := tab 5 g) (lo := 0) (hi := plN pl p) (by omega) (by rw [tab_len]; omega)
    rw [List.drop_zero] at hsub
    have hW : W ((5 : Int) - ((plN pl p : Nat) : Int)) = ((5 - plN pl p : Nat) : Int) := by rw [W_of (by omega) (by omega)]; omega
    have hmk : mks (W ((5 : Int) - ((plN pl p : Nat) : Int))) (0 : Int) = some (List.replicate (5 - plN pl p) 0) := by rw [hW]; exact mks_ok (by omega)
    refine Ev.ite_f (by simp [rowL, tab_len]) (Ev.bind hu (Ev.bindc hsub (Ev.bind (clone_ints (by simp; omega)) (Ev.bindc hmk (Ev.bindc (app_ok (by simp; omega)) ?_)))))
    rw [cut_tab hle]
    unfold lift
    simp only [tmod_pos hp.1]
    by_cases e : p % 2 = pl
    · rw [if_pos e]
      exact Ev.ite_t (by simpa using e) (Ev.pure _)
    · rw [if_neg e]
      refine Ev.ite_f (by simpa using e) ?_
      rw [W_of (n := ((plN pl p : Nat) : Int) - 1) (by omega) (by omega)]
      refine Ev.bind (carry_loop hf (fun i g hi hg => ?_) (fun xs => Ev.ite_f (by simp) (Ev.pure _)) (plN pl p) (cutG (plN pl p) g) hle (cut_ok hR)).ev ?_
      · have hat := tab_at (n := 5) (f := g) (v := (i : Int)) (by omega) (by omega)
        have hatf := tab_at (n := 5) (f := f) (v := (i : Int)) (by omega) (by omega)
        have h1 := hg (i : Int) (by omega) (by omega)
        have h2 := hf (i : Int)
        refine Ev.ite_t (decide_eq_true (by omega)) (Ev.bindc hat (Ev.bindc (a := f (i : Int)) hatf ?_))
        by_cases e : g (i : Int) < f (i : Int)
        · refine (Ev.ite_t (decide_eq_true e) (Ev.bindc hat (Ev.bindc hat (Ev.const ?_)))).eq (if_pos e).symm
          rw [tab_set (by omega), W_of (by omega) (by omega)]
        · refine (Ev.ite_f (by simpa using e) (Ev.bindc hat (Ev.const ?_))).eq (if_neg e).symm
          rw [tab_set (by omega), W_of (by omega) (by omega)]
      · cases carry f (plN pl p) (cutG (plN pl p) g) <;> exact Ev.pure _
end

/-! ### rows compared -/
def grt : Rw → Rw → Bool
  | _, none => false
  | none, some _ => true
  | some g, some h => decide (0 < cmpL (tab 5 g) (tab 5 h))
theorem cmpL_neg : ∀ {a b : List Int}, cmpL b a = -cmpL a b
  | [], [] => rfl
  | [], _ :: _ => rfl
  | _ :: _, [] => rfl
  | x :: a, y :: b => by
    unfold cmpL
    by_cases e1 : x < y
    · rw [if_pos e1, if_neg (show ¬ y < x by omega), if_pos e1]; rfl
    · by_cases e2 : y < x
      · rw [if_pos e2, if_neg e1, if_pos e2]
      · rw [if_neg e2, if_neg e1, if_neg e1, if_neg e2]
        exact cmpL_neg
theorem grt_spec {A B : Rw} : Ev (fun m => spec_l23Greater_m m (rowL A) (rowL B)) (grt A B) := by
  unfold spec_l23Greater_m
  cases B with
  | none => cases A <;> exact Ev.ite_t rfl (Ev.pure _)
  | some h =>
    refine Ev.ite_f (by simp [rowL, tab_len]) ?_
    cases A with
    | none => exact Ev.bind (a := true) (Ev.ite_t rfl (Ev.pure _)) (Ev.pure _)
    | some g =>
      exact Ev.bind (a := grt (some g) (some h)) (Ev.ite_f (by simp [rowL, tab_len]) (Ev.bind (cmp_spec (a := tab 5 g) (b := tab 5 h) (by rw [tab_len, tab_len]) (by rw [tab_len]; omega)) (Ev.pure _))) (Ev.pure _)
theorem grt_impl {A B : Rw} : ∃ c, Ev (fun m => impl_compareRows_m m (rowL A) (rowL B)) c ∧ decide (0 < c) = grt A B ∧ decide (c < 0) = grt B A := by
  unfold impl_compareRows_m
  cases A with
  | none =>
    cases B with
    | none => exact ⟨0, Ev.bind (a := true) (Ev.const rfl) (Ev.const rfl), rfl, rfl⟩
    | some h => exact ⟨1, Ev.bind (a := false) (Ev.ite_t rfl (Ev.const (by simp [rowL, tab_len]))) (Ev.ite_f (by simp) (Ev.ite_t rfl (Ev.pure _))), rfl, rfl⟩
  | some g =>
    cases B with
    | none => exact ⟨-1, Ev.bind (a := false) (Ev.ite_f (by simp [rowL, tab_len]) (Ev.pure _)) (Ev.ite_f (by simp) (Ev.ite_f (by simp [rowL, tab_len]) (Ev.ite_t rfl (Ev.pure _)))), rfl, rfl⟩
    | some h =>
      refine ⟨cmpL (tab 5 g) (tab 5 h), Ev.bind (a := false) (Ev.ite_f (by simp [rowL, tab_len]) (Ev.pure _)) (Ev.ite_f (by simp) (Ev.ite_f (by simp [rowL, tab_len]) (Ev.ite_f (by simp [rowL, tab_len]) (Ev.bind (cmp_impl (a := tab 5 g) (b := tab 5 h) (by rw [tab_len, tab_len]) (by rw [tab_len]; omega)) (Ev.pure _))))), rfl, ?_⟩
      show decide (cmpL (tab 5 g) (tab 5 h) < 0) = decide (0 < cmpL (tab 5 h) (tab 5 g))
      rw [cmpL_neg (a := tab 5 g) (b := tab 5 h)]
      exact decide_eq_decide.2 (by omega)
/-- Greater rows have greater ranks. -/
def rank : Rw → Int
  | none => 1419857
  | some g => 83521 * g 0 + 4913 * g 1 + 289 * g 2 + 17 * g 3 + g 4
def few (f : Int → Int) : Prop := ∀ i, 0 ≤ f i ∧ f i ≤ 16
theorem rank_le {f : Int → Int} (hf : few f) {A : Rw} (h : okR f A) : 0 ≤ rank A ∧ rank A ≤ 1419857 := by
  cases A with
  | none => exact ⟨by show (0 : Int) ≤ 1419857; omega, by show (1419857 : Int) ≤ 1419857; omega⟩
  | some g =>
    have a0 := h 0 (by omega) (by omega)
    have a1 := h 1 (by omega) (by omega)
    have a2 := h 2 (by omega) (by omega)
    have a3 := h 3 (by omega) (by omega)
    have a4 := h 4 (by omega) (by omega)
    have f0 := hf 0
    have f1 := hf 1
    have f2 := hf 2
    have f3 := hf 3
    have f4 := hf 4
    unfold rank
    simp only
    omega
theorem rank_grt {f : Int → Int} (hf : few f) {A B : Rw} (hA : okR f A) (hB : okR f B) (h : grt A B = true) : rank B < rank A := by
  cases B with
  | none => cases A <;> cases h
  | some g =>
    have a0 := hB 0 (by omega) (by omega)
    have a1 := hB 1 (by omega) (by omega)
    have a2 := hB 2 (by omega) (by omega)
    have a3 := hB 3 (by omega) (by omega)
    have a4 := hB 4 (by omega) (by omega)
    have f0 := hf 0
    have f1 := hf 1
    have f2 := hf 2
    have f3 := hf 3
    have f4 := hf 4
    cases A with
    | none => unfold rank; simp only; omega
    | some k =>
      have b0 := hA 0 (by omega) (by omega)
      have b1 := hA 1 (by omega) (by omega)
      have b2 := hA 2 (by omega) (by omega)
      have b3 := hA 3 (by omega) (by omega)
      have b4 := hA 4 (by omega) (by omega)
      have h' : 0 < cmpL (tab 5 k) (tab 5 g) := of_decide_eq_true h
      rw [tab5, tab5] at h'
      simp only [cmpL] at h'
      unfold rank
      simp only
      split at h'
      · omega
      · split at h'
        · omega
        · split at h'
          · omega
          · split at h'
            · omega
            · split at h'
              · omega
              · split at h'
                · omega
                · split at h'
                  · omega
                  · split at h'
                    · omega
                    · split at h'
                      · omega
                      · split at h' <;> omega
def pick1 (pl o : Int) (out r : Rw) : Bool := if o = pl then grt out r else grt r out
def rowStep (f : Int → Int) (pl : Int) (x : Timpl_Vertex) (R : Int → Rw) (out : Rw) (v : Int) : Rw := if pick1 pl x.1 out (lift f pl x.2.1 (R v)) = true then lift f pl x.2.1 (R v) else out
def row0 (pl o : Int) : Rw := if o = pl then none else some fun _ => 0
def rowF (f : Int → Int) (pl : Int) (x : Timpl_Vertex) (R : Int → Rw) (l : List Int) : Rw := l.foldl (rowStep f pl x R) (row0 pl x.1)
theorem rowF_take {f : Int → Int} {pl : Int} {x : Timpl_Vertex} {R : Int → Rw} {l : List Int} {k : Nat} {v : Int} (h : l[k]? = some v) : rowF f pl x R (l.take (k + 1)) = rowStep f pl x R (rowF f pl x R (l.take k)) v := by
  unfold rowF
  rw [List.take_add_one, h, List.foldl_append]
  rfl
def rowsL (N : Nat) (R : Int → Rw) : List (List Int) := tab N fun v => rowL (R v)
def okAll (f : Int → Int) (N : Nat) (R : Int → Rw) : Prop := ∀ v : Int, 0 ≤ v → v < (N : Int) → okR f (R v)
theorem rows_at {N : Nat} {R : Int → Rw} {v : Int} (h0 : 0 ≤ v) (h1 : v < (N : Int)) : idx (rowsL N R) v = some (rowL (R v)) := tab_at (f := fun v => rowL (R v)) h0 h1
theorem rows_set {N : Nat} {R : Int → Rw} {v : Int} {r : Rw} (h0 : 0 ≤ v) : (rowsL N R).set v.toNat (rowL r) = rowsL N (upd R v r) := by
  unfold rowsL
  rw [tab_set h0]
  refine tab_congr fun w _ _ => ?_
  unfold upd
  split <;> rfl

section
variable {a : List Timpl_Vertex} (hv : validG a = true) {pl : Int} (hpl : 0 ≤ pl ∧ pl ≤ 1) {f : Int → Int} (hf : few f) {R : Int → Rw} (hR : okAll f a.length R)
include hv hpl hf hR
theorem rowF_ok {x : Timpl_Vertex} (hx : x ∈ a) : okR f (rowF f pl x R x.2.2) := by
  obtain ⟨_, hp, hn⟩ := vx_facts hv hx
  have key : ∀ (l : List Int) (out : Rw), (∀ v ∈ l, 0 ≤ v ∧ v < (a.length : Int)) → okR f out → okR f (l.foldl (rowStep f pl x R) out) := by
    intro l
    induction l with
    | nil => intro out _ h; exact h
    | cons v r ih =>
      intro out h1 h2
      refine ih _ (fun w hw => h1 w (by simp [hw])) ?_
      unfold rowStep
      have hv1 := h1 v (by simp)
      split
      · exact lift_ok (plN_le hpl hp) (hR v hv1.1 hv1.2)
      · exact h2
  refine key _ _ hn ?_
  unfold row0
  split
  · exact trivial
  · exact fun i _ _ => ⟨Int.le_refl _, (hf i).1⟩
theorem row_spec {k : Nat} {x : Timpl_Vertex} (hx : a[k]? = some x) (hgl : x.2.2.length ≤ 1048576) : Ev (fun m => spec_l23Row_m m a pl (rowsL a.length R) (tab 5 f) (k : Int)) (rowL (rowF f pl x R x.2.2)) := by
  have hxm := List.mem_of_getElem? hx
  obtain ⟨_, hp, hn⟩ := vx_facts hv hxm
  have hf' : ∀ i, 0 ≤ f i ∧ f i ≤ 120 := fun i => by have := hf i; omega
  unfold spec_l23Row_m
  refine Ev.bindc (mks_ok (n := 5) (by omega)) (Ev.join (Ev.bindc (idx_at hx) ?_))
  have key : Ev (fun m => (iter (fun (s : (List Int) × (Int)) => (match s with | (xs169, x171) => (idx a (k : Int)).bind fun x309 => (if (decide (x171 < (x309.2.2.length : Int))) = true then join (κ := List Int → Option (((List Int) × (Int)) ⊕ (((List Int)) ⊕ ((List Int))))) (fun (xs326 : List Int) => some (.inl (xs326, (W (x171 + (1 : Int)))))) (fun K328 => (idx a (k : Int)).bind fun x332 => (idx x332.2.2 x171).bind fun x347 => (idx (rowsL a.length R) x347).bind fun x352 => (idx a (k : Int)).bind fun x359 => (spec_l23Lift_m m x352 (tab 5 f) pl x359.2.1).bind fun x376 => (idx a (k : Int)).bind fun x381 => (if (x381.1 == pl) = true then (spec_l23Greater_m m xs169 x376).bind fun x401 => some x401 else some false).bind fun t396 => (if t396 = true then some true else (idx a (k : Int)).bind fun x407 => (if (x407.1 != pl) = true then (spec_l23Greater_m m x376 xs169).bind fun x427 => some x427 else some false).bind fun t422 => some t422).bind fun t404 => (if t404 = true then (K328 x376) else (K328 xs169))) else some (.inr (.inl (xs169)))) : Option (((List Int) × (Int)) ⊕ (((List Int)) ⊕ ((List Int)))))) m (rowL (row0 pl x.1), (0 : Int))).bind fun res301 => ctl (β := (List Int)) (ρ := (List Int)) (τ := (List Int)) res301 (fun (xs299) => some (xs299)) (fun q => some (q))) (rowL (rowF f pl x R x.2.2)) := by
    refine Ev.bind (a := Sum.inl (rowL (rowF f pl x R x.2.2))) (EvI.upto x.2.2.length (fun i (_ : Unit) => (rowL (rowF f pl x R (x.2.2.take i)), (i : Int))) (fun _ _ => True) (k := 0) (t := ()) rfl (Nat.zero_le _) trivial (fun i _ hi _ => ⟨(), ?_, trivial⟩) (fun _ _ => Ev.bindc (idx_at hx) (Ev.ite_f (by simp) (Ev.eq (Ev.pure _) (by rw [List.take_length]))))).ev (Ev.pure _)
    obtain ⟨v, hvi⟩ := get_lt hi
    have hvr := hn v (List.mem_of_getElem? hvi)
    obtain ⟨out, ho⟩ : ∃ out, out = rowF f pl x R (x.2.2.take i) := ⟨_, rfl⟩
    obtain ⟨r, hr⟩ : ∃ r, r = lift f pl x.2.1 (R v) := ⟨_, rfl⟩
    have hlift := lift_spec hf' hpl hp (hR v hvr.1 hvr.2)
    rw [← hr] at hlift
    rw [rowF_take hvi, ← ho]
    unfold rowStep
    rw [← hr]
    refine Ev.bindc (idx_at hx) (Ev.ite_t (decide_eq_true (by omega)) (Ev.join (Ev.bindc (idx_at hx) (Ev.bindc (idx_at hvi) (Ev.bindc (rows_at hvr.1 hvr.2) (Ev.bindc (idx_at hx) (Ev.bind hlift (Ev.bindc (idx_at hx) (Ev.bind (a := (x.1 == pl) && grt out r) ?_ (Ev.bind (a := pick1 pl x.1 out r) ?_ ?_))))))))))
    · cases (x.1 == pl)
      · exact Ev.ite_f (by simp) (Ev.const rfl)
      · exact Ev.ite_t rfl (Ev.bind grt_spec (Ev.const rfl))
    · unfold pick1
      by_cases e : x.1 = pl
      · rw [if_pos e, beq_iff_eq.2 e, Bool.true_and]
        cases grt out r
        · exact Ev.ite_f (by simp) (Ev.bindc (idx_at hx) (Ev.bind (a := false) (Ev.ite_f (by simpa using e) (Ev.pure _)) (Ev.pure _)))
        · exact Ev.ite_t rfl (Ev.pure _)
      · rw [if_neg e, show (x.1 == pl) = false from by simpa using e, Bool.false_and]
        exact Ev.ite_f (by simp) (Ev.bindc (idx_at hx) (Ev.bind (a := grt r out) (Ev.ite_t (by simpa using e) (Ev.bind grt_spec (Ev.pure _))) (Ev.pure _)))
    · cases pick1 pl x.1 out r
      · refine Ev.ite_f (by simp) (Ev.const ?_)
        rw [W_succ hi (by omega)]
        rfl
      · refine Ev.ite_t rfl (Ev.const ?_)
        rw [W_succ hi (by omega)]
        rfl
  by_cases e : x.1 = pl
  · have hz : row0 pl x.1 = none := if_pos e
    rw [hz] at key
    exact Ev.ite_t (by simpa using e) key
  · have hz : row0 pl x.1 = some fun _ => 0 := if_neg e
    rw [hz] at key
    exact Ev.ite_f (by simpa using e) key
theorem row_impl {k : Nat} {x : Timpl_Vertex} (hx : a[k]? = some x) (hgl : x.2.2.length ≤ 1048576) : Ev (fun m => Pimpl_measured_due_m m (a, pl, tup f) x (rowsL a.length R)) (rowL (rowF f pl x R x.2.2)) := by
  have hxm := List.mem_of_getElem? hx
  obtain ⟨_, hp, hn⟩ := vx_facts hv hxm
  have hf' : ∀ i, 0 ≤ f i ∧ f i ≤ 120 := fun i => by have := hf i; omega
  unfold Pimpl_measured_due_m
  refine Ev.join ?_
  have key : Ev (fun m => (iter (fun (s : (List Int) × (Int)) => (match s with | (xs129, x131) => (if (decide (x131 < (x.2.2.length : Int))) = true then join (κ := List Int → Option (((List Int) × (Int)) ⊕ (((List Int)) ⊕ ((List Int))))) (fun (xs193 : List Int) => some (.inl (xs193, (W (x131 + (1 : Int)))))) (fun K195 => (idx x.2.2 x131).bind fun x197 => (idx (rowsL a.length R) x197).bind fun x204 => (Pimpl_measured_needed_m m (a, pl, tup f) x.2.1 x204).bind fun x213 => (impl_compareRows_m m x213 xs129).bind fun x220 => (if (decide ((0 : Int) < x220)) = true then some (x.1 != pl) else some false).bind fun t225 => (if t225 = true then some true else (if (decide (x220 < (0 : Int))) = true then some (x.1 == pl) else some false).bind fun t231 => some t231).bind fun t228 => (if t228 = true then (K195 x213) else (K195 xs129))) else some (.inr (.inl (xs129)))) : Option (((List Int) × (Int)) ⊕ (((List Int)) ⊕ ((List Int)))))) m (rowL (row0 pl x.1), (0 : Int))).bind fun res183 => ctl (β := (List Int)) (ρ := (List Int)) (τ := (List Int)) res183 (fun (xs181) => some (xs181)) (fun q => some (q))) (rowL (rowF f pl x R x.2.2)) := by
    refine Ev.bind (a := Sum.inl (rowL (rowF f pl x R x.2.2))) (EvI.upto x.2.2.length (fun i (_ : Unit) => (rowL (rowF f pl x R (x.2.2.take i)), (i : Int))) (fun _ _ => True) (k := 0) (t := ()) rfl (Nat.zero_le _) trivial (fun i _ hi _ => ⟨(), ?_, trivial⟩) (fun _ _ => Ev.ite_f (by simp) (Ev.eq (Ev.pure _) (by rw [List.take_length])))).ev (Ev.pure _)
    obtain ⟨v, hvi⟩ := get_lt hi
    have hvr := hn v (List.mem_of_getElem? hvi)
    obtain ⟨out, ho⟩ : ∃ out, out = rowF f pl x R (x.2.2.take i) := ⟨_, rfl⟩
    obtain ⟨r, hr⟩ : ∃ r, r = lift f pl x.2.1 (R v) := ⟨_, rfl⟩
    have hlift := lift_impl hf' hpl hp (hR v hvr.1 hvr.2) (a := a)
    rw [← hr] at hlift
    rw [rowF_take hvi, ← ho]
    unfold rowStep
    rw [← hr]
    obtain ⟨c, hc, hc1, hc2⟩ := grt_impl (A := r) (B := out)
    refine Ev.ite_t (decide_eq_true (by omega)) (Ev.join (Ev.bindc (idx_at hvi) (Ev.bindc (rows_at hvr.1 hvr.2) (Ev.bind hlift (Ev.bind hc (Ev.bind (a := grt r out && (x.1 != pl)) ?_ (Ev.bind (a := pick1 pl x.1 out r) ?_ ?_)))))))
    · rw [hc1]
      cases grt r out
      · exact Ev.ite_f (by simp) (Ev.const rfl)
      · exact Ev.ite_t rfl (Ev.const rfl)
    · rw [hc2]
      unfold pick1
      by_cases e : x.1 = pl
      · rw [if_pos e, show (x.1 != pl) = false from by simpa using e, Bool.and_false]
        refine Ev.ite_f (by simp) (Ev.bind (a := grt out r) ?_ (Ev.pure _))
        cases grt out r
        · exact Ev.ite_f (by simp) (Ev.pure _)
        · exact Ev.ite_t rfl (Ev.const (by simpa using e))
      · rw [if_neg e, show (x.1 != pl) = true from by simpa using e, Bool.and_true]
        cases grt r out
        · refine Ev.ite_f (by simp) (Ev.bind (a := false) ?_ (Ev.pure _))
          cases grt out r
          · exact Ev.ite_f (by simp) (Ev.pure _)
          · exact Ev.ite_t rfl (Ev.const (by simpa using e))
        · exact Ev.ite_t rfl (Ev.pure _)
    · cases pick1 pl x.1 out r
      · refine Ev.ite_f (by simp) (Ev.const ?_)
        rw [W_succ hi (by omega)]
        rfl
      · refine Ev.ite_t rfl (Ev.const ?_)
        rw [W_succ hi (by omega)]
        rfl
  by_cases e : x.1 = pl
  · have hz : row0 pl x.1 = none := if_pos e
    rw [hz] at key
    exact Ev.ite_f (by simpa using e) key
  · have hz : row0 pl x.1 = some fun _ => 0 := if_neg e
    rw [hz] at key
    refine Ev.ite_t (by simpa using e) (Ev.bindc (mks_ok (n := 5) (by omega)) key)
end

/-! ### a round, and how far the rows can rise -/
abbrev St := (Int → Rw) × Bool
def roundG (a : List Timpl_Vertex) (f : Int → Int) (pl : Int) (k : Nat) (s : St) : St :=
  if grt (rowF f pl (vxAt a (k : Int)) s.1 (vxAt a (k : Int)).2.2) (s.1 (k : Int)) = true then (upd s.1 (k : Int) (rowF f pl (vxAt a (k : Int)) s.1 (vxAt a (k : Int)).2.2), true) else s
def sumR : Nat → (Int → Rw) → Int
  | 0, _ => 0
  | n + 1, R => sumR n R + rank (R (n : Int))
theorem sumR_upd {R : Int → Rw} {r : Rw} : ∀ {n v : Nat}, v < n → sumR n (upd R (v : Int) r) = sumR n R + rank r - rank (R (v : Int))
  | 0, _, h => absurd h (by omega)
  | n + 1, v, h => by
    have same : ∀ m, m ≤ v → sumR m (upd R (v : Int) r) = sumR m R := by
      intro m
      induction m with
      | zero => intro _; rfl
      | succ m ih =>
        intro hm
        show sumR m _ + rank (upd R (v : Int) r (m : Int)) = sumR m R + rank (R (m : Int))
        rw [ih (by omega), upd_ne (by omega)]
    show sumR n _ + rank (upd R (v : Int) r (n : Int)) = sumR n R + rank (R (n : Int)) + rank r - rank (R (v : Int))
    by_cases e : v = n
    · subst e
      rw [same v (Nat.le_refl _), upd_eq]
      omega
    · rw [sumR_upd (by omega), upd_ne (by omega)]
      omega
theorem sumR_le {f : Int → Int} (hf : few f) {R : Int → Rw} : ∀ {n : Nat}, okAll f n R → 0 ≤ sumR n R ∧ sumR n R ≤ 1419857 * (n : Int)
  | 0, _ => ⟨Int.le_refl _, by simp [sumR]⟩
  | n + 1, h => by
    have ih := sumR_le hf (n := n) (R := R) fun v h0 h1 => h v h0 (by omega)
    have hr := rank_le hf (h (n : Int) (by omega) (by omega))
    show 0 ≤ sumR n R + rank (R (n : Int)) ∧ sumR n R + rank (R (n : Int)) ≤ 1419857 * ((n + 1 : Nat) : Int)
    omega
theorem round_prop {a : List Timpl_Vertex} (hv : validG a = true) {pl : Int} (hpl : 0 ≤ pl ∧ pl ≤ 1) {f : Int → Int} (hf : few f) {R : Int → Rw} (_hR : okAll f a.length R) {s : St} (hs : okAll f a.length s.1 ∧ ((s.2 = false ∧ s.1 = R) ∨ (s.2 = true ∧ sumR a.length R < sumR a.length s.1))) {k : Nat} (hk : k < a.length) :
    okAll f a.length (roundG a f pl k s).1 ∧ (((roundG a f pl k s).2 = false ∧ (roundG a f pl k s).1 = R) ∨ ((roundG a f pl k s).2 = true ∧ sumR a.length R < sumR a.length (roundG a f pl k s).1)) := by
  obtain ⟨x, hx⟩ := get_lt hk
  have hxv : vxAt a (k : Int) = x := vxAt_of (idx_at hx)
  have hok := rowF_ok hv hpl hf hs.1 (List.mem_of_getElem? hx)
  unfold roundG
  rw [hxv]
  by_cases e : grt (rowF f pl x s.1 x.2.2) (s.1 (k : Int)) = true
  · rw [if_pos e]
    have hold := hs.1 (k : Int) (by omega) (by omega)
    have hlt := rank_grt hf hok hold e
    have hsum := sumR_upd (R := s.1) (r := rowF f pl x s.1 x.2.2) hk
    refine ⟨fun v h0 h1 => ?_, .inr ⟨rfl, ?_⟩⟩
    · show okR f (upd s.1 (k : Int) (rowF f pl x s.1 x.2.2) v)
      unfold upd
      split
      · exact hok
      · exact hs.1 v h0 h1
    · show sumR a.length R < sumR a.length (upd s.1 (k : Int) (rowF f pl x s.1 x.2.2))
      rw [hsum]
      rcases hs.2 with ⟨_, h⟩ | ⟨_, h⟩
      · rw [h] at hlt ⊢; omega
      · omega
  · rw [if_neg e]
    exact hs
theorem round_ok {a : List Timpl_Vertex} (hv : validG a = true) {pl : Int} (hpl : 0 ≤ pl ∧ pl ≤ 1) {f : Int → Int} (hf : few f) {s : St} (hs : okAll f a.length s.1) {k : Nat} (hk : k < a.length) : okAll f a.length (roundG a f pl k s).1 := by
  obtain ⟨x, hx⟩ := get_lt hk
  have hxv : vxAt a (k : Int) = x := vxAt_of (idx_at hx)
  have hok := rowF_ok hv hpl hf hs (List.mem_of_getElem? hx)
  unfold roundG
  rw [hxv]
  split
  · intro v h0 h1
    show okR f (upd s.1 (k : Int) (rowF f pl x s.1 x.2.2) v)
    unfold upd
    split
    · exact hok
    · exact hs v h0 h1
  · exact hs
def nextS (a : List Timpl_Vertex) (f : Int → Int) (pl : Int) (s : St) : Option St := if s.2 = true then some (upfold (roundG a f pl) a.length (s.1, false)) else none
theorem measures_core {a : List Tlaws_Vertex} {pl : Int} (B : a.length ≤ 1048576 ∧ ∀ x ∈ a, x.2.2.length ≤ 1048576) : ∃ r, Ev (fun n => spec_MeasuresOf_m n a pl) r ∧ Ev (fun n => impl_MeasuresOf_m n a pl) r ∧ BII r.1 := by
  have h1 := validG_spec B.1 B.2
  have h2 := validG_impl B.1 B.2
  have p2 : ∀ m, impl_playerOk_m m pl = some (decide (0 ≤ pl) && decide (pl ≤ 1)) := fun m => by unfold impl_playerOk_m; rw [within_eq]; rfl
  have hnil : BII [] := ⟨by simp, by simp⟩
  unfold spec_MeasuresOf_m impl_MeasuresOf_m
  cases hv : validG a
  · rw [hv] at h1 h2
    exact ⟨([], 1), Ev.bind h1 (Ev.const rfl), Ev.bind h2 (Ev.const rfl), hnil⟩
  rw [hv] at h1 h2
  cases hp : (decide (0 ≤ pl) && decide (pl ≤ 1))
  · exact ⟨([], 2), Ev.bind h1 (Ev.ite_f (by simp) (Ev.bind (Ev.const' fun m => l00In_eq) (Ev.ite_t (by rw [hp]; rfl) (Ev.pure _)))), Ev.bind h2 (Ev.ite_f (by simp) (Ev.bind (Ev.const' p2) (Ev.ite_t (by rw [hp]; rfl) (Ev.pure _)))), hnil⟩
  have hp' := hp
  simp only [Bool.and_eq_true, decide_eq_true_eq] at hp'
  by_cases hl : 16 < a.length
  · exact ⟨([], 5), Ev.bind h1 (Ev.ite_f (by simp) (Ev.bind (Ev.const' fun m => l00In_eq) (Ev.ite_f (by rw [hp]; simp) (Ev.ite_t (decide_eq_true (by omega)) (Ev.pure _))))), Ev.bind h2 (Ev.ite_f (by simp) (Ev.bind (Ev.const' p2) (Ev.ite_f (by rw [hp]; simp) (Ev.ite_t (decide_eq_true (by omega)) (Ev.pure _))))), hnil⟩
  obtain ⟨f, hfd⟩ : ∃ f, f = topF pl a := ⟨_, rfl⟩
  have hf : few f := fun i => by have := topF_le pl a i; rw [hfd]; omega
  have t1 := tops_spec hv pl
  have t2 := tops_impl hv pl
  rw [← hfd] at t1 t2
  obtain ⟨R0, hR0⟩ : ∃ R0 : Int → Rw, R0 = fun _ => some fun _ => 0 := ⟨_, rfl⟩
  have hok0 : okAll f a.length R0 := fun v _ _ => by rw [hR0]; exact fun i _ _ => ⟨Int.le_refl _, (hf i).1⟩
  have hz : List.replicate 5 (0 : Int) = rowL (some fun _ => 0) := tab_const 5 0
  obtain ⟨s, hsI, _, hrun⟩ := EvI.det (nextS a f pl) (fun s => okAll f a.length s.1) (fun s => (2 * (1419857 * (a.length : Int) - sumR a.length s.1) + (if s.2 = true then 1 else 0)).toNat) (fun s s' hI hn => by
    unfold nextS at hn
    by_cases e : s.2 = true
    · rw [if_pos e] at hn
      have hn := (Option.some.inj hn).symm
      have hp3 := upfold_ind (g := roundG a f pl) (fun _ (q : St) => okAll f a.length q.1 ∧ ((q.2 = false ∧ q.1 = s.1) ∨ (q.2 = true ∧ sumR a.length s.1 < sumR a.length q.1))) a.length (s := (s.1, false)) ⟨hI, .inl ⟨rfl, rfl⟩⟩ (fun i q hi hq => round_prop hv hp' hf hI hq hi)
      rw [← hn] at hp3
      obtain ⟨q1, q2⟩ := hp3
      have b1 := sumR_le hf q1
      have b2 := sumR_le hf hI
      refine ⟨q1, ?_⟩
      rw [if_pos e]
      rcases q2 with ⟨c1, c2⟩ | ⟨c1, c2⟩
      · rw [c2, c1, if_neg (by simp)]; omega
      · rw [c1, if_pos rfl]; omega
    · rw [if_neg e] at hn; cases hn) (s0 := (R0, true)) hok0
  refine ⟨(rowsL a.length s.1, 0), Ev.bind h1 (Ev.ite_f (by simp) (Ev.bind (Ev.const' fun m => l00In_eq) (Ev.ite_f (by rw [hp]; simp) (Ev.ite_f (by simp; omega) (Ev.bind ?_ (Ev.pure _)))))), Ev.bind h2 (Ev.ite_f (by simp) (Ev.bind (Ev.const' p2) (Ev.ite_f (by rw [hp]; simp) (Ev.ite_f (by simp; omega) (Ev.bind t2 (Ev.bindc (mks_ok (n := a.length) (by omega)) ?_)))))), ?_⟩
  · -- the reference
    unfold spec_l23Measures_m
    refine Ev.bind t1 (Ev.bind (a := Sum.inl (rowsL a.length R0)) ?_ ?_)
    · refine (EvI.upto a.length (fun k (_ : Unit) => (rowsL k R0, (k : Int))) (fun _ _ => True) (k := 0) (t := ()) rfl (Nat.zero_le _) trivial (fun k _ hk _ => ⟨(), ?_, trivial⟩) (fun _ _ => Ev.ite_f (by simp) (Ev.pure _))).ev
      refine Ev.ite_t (decide_eq_true (by omega)) (Ev.bindc (mks_ok (n := 5) (by omega)) (Ev.bindc (app_ok (by unfold rowsL; rw [tab_len]; simp; omega)) (Ev.const ?_)))
      unfold rowsL
      rw [tab_succ, hz, W_succ hk (by omega), hR0]
    · simp only [ctl_l]
      refine Ev.bind (hrun (fun s => (rowsL a.length s.1, s.2)) (fun s => Sum.inl (rowsL a.length s.1)) (fun s s' hI hn => ?_) (fun s hI hn => ?_)).ev (Ev.pure _)
      · unfold nextS at hn
        by_cases e : s.2 = true
        · rw [if_pos e] at hn
          have hn := (Option.some.inj hn).symm
          refine Ev.ite_t e (Ev.bind (a := Sum.inl (rowsL a.length s'.1, s'.2)) ?_ (Ev.const rfl))
          refine (EvI.foldI a.length (fun (q : St) k => (rowsL a.length q.1, q.2, (k : Int))) (roundG a f pl) (fun _ q => okAll f a.length q.1) (fun q => Sum.inl (rowsL a.length q.1, q.2)) (s0 := (s.1, false)) rfl (by rw [hn]) hI (fun i q hi hq => ?_) (fun i q hi hq => ?_) (fun q hq => Ev.ite_f (by simp) (Ev.pure _))).ev
          · exact round_ok hv hp' hf hq hi
          · obtain ⟨x, hx⟩ := get_lt hi
            have hgl := B.2 x (List.mem_of_getElem? hx)
            have hxv : vxAt a (i : Int) = x := vxAt_of (idx_at hx)
            have hat := rows_at (N := a.length) (R := q.1) (v := (i : Int)) (by omega) (by omega)
            unfold roundG
            rw [hxv]
            have hgr := grt_spec (A := rowF f pl x q.1 x.2.2) (B := q.1 (i : Int))
            refine Ev.ite_t (decide_eq_true (show (i : Int) < (a.length : Int) by omega)) (Ev.join (Ev.bind (row_spec hv hp' hf hq hx hgl) (Ev.bindc hat (Ev.bind hgr ?_))))
            cases grt (rowF f pl x q.1 x.2.2) (q.1 (i : Int))
            · refine Ev.ite_f (by simp) (Ev.const ?_)
              rw [W_succ hi (by omega)]
              rfl
            · refine Ev.ite_t rfl (Ev.bind (own_ints (by rw [rowL_len]; split <;> omega)) (Ev.bindc hat (Ev.const ?_)))
              rw [rows_set (show (0 : Int) ≤ (i : Int) by omega), W_succ hi (by omega)]
              rfl
        · rw [if_neg e] at hn; cases hn
      · unfold nextS at hn
        by_cases e : s.2 = true
        · rw [if_pos e] at hn; cases hn
        · exact Ev.ite_f e (Ev.pure _)
  · -- the program
    refine Ev.bind (a := Sum.inl (rowsL a.length R0)) ?_ ?_
    · simp only [List.length_replicate]
      rw [tab_const]
      refine (EvI.fill a.length _ (fun v => rowL (R0 v)) (fun k h hk => ?_) (fun xs => Ev.ite_f (by simp) (Ev.pure _))).ev
      refine Ev.ite_t (decide_eq_true (by omega)) (Ev.bindc (mks_ok (n := 5) (by omega)) (Ev.bindc (tab_at (by omega) (by omega)) (Ev.const ?_)))
      rw [tab_set (by omega), W_succ hk (by omega), hz, hR0]
    · simp only [ctl_l]
      refine Ev.bind (hrun (fun s => (rowsL a.length s.1, s.2)) (fun s => Sum.inl (rowsL a.length s.1)) (fun s s' hI hn => ?_) (fun s hI hn => ?_)).ev (Ev.pure _)
      · unfold nextS at hn
        by_cases e : s.2 = true
        · rw [if_pos e] at hn
          have hn := (Option.some.inj hn).symm
          refine Ev.ite_t e (Ev.bind (a := Sum.inl (rowsL a.length s'.1, s'.2)) ?_ (Ev.const rfl))
          refine (EvI.foldI a.length (fun (q : St) k => (rowsL a.length q.1, q.2, (k : Int))) (roundG a f pl) (fun _ q => okAll f a.length q.1) (fun q => Sum.inl (rowsL a.length q.1, q.2)) (s0 := (s.1, false)) rfl (by rw [hn]) hI (fun i q hi hq => ?_) (fun i q hi hq => ?_) (fun q hq => Ev.ite_f (by simp) (Ev.pure _))).ev
          · exact round_ok hv hp' hf hq hi
          · obtain ⟨x, hx⟩ := get_lt hi
            have hgl := B.2 x (List.mem_of_getElem? hx)
            have hxv : vxAt a (i : Int) = x := vxAt_of (idx_at hx)
            have hat := rows_at (N := a.length) (R := q.1) (v := (i : Int)) (by omega) (by omega)
            unfold roundG
            rw [hxv]
            obtain ⟨c, hc, hc1, _⟩ := grt_impl (A := rowF f pl x q.1 x.2.2) (B := q.1 (i : Int))
            refine Ev.ite_t (decide_eq_true (show (i : Int) < (a.length : Int) by omega)) (Ev.join (Ev.bindc (idx_at hx) (Ev.bind (row_impl hv hp' hf hq hx hgl) (Ev.bindc hat (Ev.bind hc ?_)))))
            rw [hc1]
            cases grt (rowF f pl x q.1 x.2.2) (q.1 (i : Int))
            · refine Ev.ite_f (by simp) (Ev.const ?_)
              rw [W_succ hi (by omega)]
              rfl
            · refine Ev.ite_t rfl (Ev.bindc hat (Ev.const ?_))
              rw [rows_set (show (0 : Int) ≤ (i : Int) by omega), W_succ hi (by omega)]
              rfl
        · rw [if_neg e] at hn; cases hn
      · unfold nextS at hn
        by_cases e : s.2 = true
        · rw [if_pos e] at hn; cases hn
        · exact Ev.ite_f e (Ev.pure _)
  · refine ⟨by unfold rowsL; rw [tab_len]; omega, fun r hr => ?_⟩
    unfold rowsL tab at hr
    obtain ⟨k, _, rfl⟩ := List.mem_map.1 hr
    rw [rowL_len]
    split <;> omega
set_option maxHeartbeats 4000000 in
theorem law_MeasuresOf {a : List Tlaws_Vertex} {pl : Int} (g_a : (GVs) a) (_g_pl : (gInt .i64) pl) : ∃ n, laws_FnExactMeasuresOf_m n a pl = some true := by
  have hm : maxLen = 9223372036854775807 := by unfold maxLen; rfl
  refine Ev.one (f := fun n => laws_FnExactMeasuresOf_m n a pl) ?_
  unfold laws_FnExactMeasuresOf_m
  obtain ⟨r1, h1, s1⟩ := sz_vtxs g_a (b := (1048576 : Int)) (by omega) (by omega)
  refine Ev.bind h1 ?_
  by_cases n1 : r1 < 0
  · exact Ev.ite_t (decide_eq_true n1) (Ev.pure _)
  rcases s1 with s1 | ⟨p1, q1, B_a⟩
  · exact absurd s1 n1
  refine Ev.ite_f (by simpa using n1) ?_
  obtain ⟨r, hs, hi, B_r0⟩ := measures_core B_a (pl := pl)
  have to_a_ := toB_vtxs B_a
  have eq_a_ := eqB_vtxs B_a
  have eq_r0 := eqB_intss (a := r.1) B_r0
  obtain ⟨k_a, ys_a, m_a, m1_a, m2_a⟩ := marksA_vtxs (k := (1 : Int)) B_a (by omega) (by omega)
  obtain ⟨k_r0, ys_r0, m_r0, m0_r0, m1_r0, m2_r0⟩ := marksB_intss (k := (1 : Int)) (a := r.1) B_r0 (by omega) (by omega)
  repeat (first
    | exact Ev.pure _
    | refine Ev.bind (by with_reducible assumption) ?_
    | refine Ev.ite_f (by first | (simp; done) | (simp; omega)) ?_
    | refine Ev.bind (Ev.ite_f (by first | (simp; done) | (simp; omega)) (Ev.bind (by with_reducible assumption) (Ev.pure _))) ?_
    | refine Ev.bind (a := false) (Ev.ite_f (by first | (simp; done) | (simp; omega)) (Ev.const (by simp))) ?_
    | refine Ev.bind (a := false) (Ev.ite_f (by first | (simp; done) | (simp; omega)) (Ev.bind (by with_reducible assumption) (Ev.const (by simp)))) ?_
    | refine Ev.bindc (by with_reducible rfl) ?_)
end Go.Proofs.Ytcddkipbedfhkaa

