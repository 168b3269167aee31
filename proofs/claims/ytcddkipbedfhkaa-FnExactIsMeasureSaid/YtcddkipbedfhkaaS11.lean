/-
  The plain laws of a statement, joined into one text.
-/
import Derived.Test.YtcddkipbedfhkaaF0
import Derived.Test.YtcddkipbedfhkaaF1
import Derived.Test.YtcddkipbedfhkaaF2
import Derived.Test.YtcddkipbedfhkaaF4
import Derived.Test.YtcddkipbedfhkaaFS
import Derived.Test.YtcddkipbedfhkaaGxI
import Derived.Test.YtcddkipbedfhkaaGxP
import Derived.Test.YtcddkipbedfhkaaGxU
import Derived.Test.YtcddkipbedfhkaaLIsMeasure
namespace Go.Proofs.Ytcddkipbedfhkaa
open Go.Gx
/-! ### the law's helpers -/
abbrev GI : List Int → Prop := gList (gInt .i64)
theorem sz_ints {a : List Int} (g : GI a) {b : Int} (h0 : 0 ≤ b) (hb : b ≤ 1048576) : ∃ r, Ev (fun n => laws_szInt64S_m n a b) r ∧ Sz b r (a.length ≤ 1048576) := sz_leaf h0 hb g.1
theorem to_ints {a : List Int} (hl : a.length ≤ 1048576) : Ev (fun n => laws_toInt64S_m n a) a := by
  have := to_loop («to» := fun _ (x : Int) => some x) (f := id) (a := a) (z := 0) (fun x _ => Ev.pure x) hl
  rw [List.map_id] at this
  exact this
theorem eq_ints {a : List Int} (hl : a.length ≤ maxLen) : Ev (fun n => laws_eqInt64S_m n a a) true := eq_loop_ints hl
/-! ### rising lists -/
def okAt (xs : List Int) (n : Int) (k : Nat) : Bool := match xs[k]? with
  | none => true
  | some x => decide (0 ≤ x) && decide (x ≤ n) && (k == 0 || (match xs[k - 1]? with | none => true | some y => decide (y < x)))
def rises (xs : List Int) (n : Int) : Bool := decide (∀ k, k < xs.length → okAt xs n k = true)

theorem l00In_eq {n : Nat} {a b c : Int} : spec_l00In_m n a b c = some (decide (b ≤ a) && decide (a ≤ c)) := by
  unfold spec_l00In_m
  by_cases h : b ≤ a <;> simp [h]
theorem within_eq {n : Nat} {a b c : Int} : impl_within_m n a b c = some (decide (b ≤ a) && decide (a ≤ c)) := by
  unfold impl_within_m
  by_cases h : b ≤ a <;> simp [h]
theorem index_eq {n : Nat} {a b : Int} : impl_index_m n a b = some (decide (0 ≤ a) && decide (a ≤ W (b - 1))) := by
  unfold impl_index_m
  simp [within_eq]

theorem rises_spec {xs : List Int} (hl : xs.length ≤ maxLen) {n : Int} : Ev (fun m => spec_l00Rises_m m xs 0 n) (rises xs n) := by
  have hm := maxLen_le
  unfold spec_l00Rises_m
  refine (Ev.all xs.length (okAt xs n) false true (fun k hk hok => Ev.const' fun m => ?_) (fun k hk hok => Ev.const' fun m => ?_) (Ev.ite_f (by simp) (Ev.pure _))).eq (by unfold rises; split <;> simp_all)
  all_goals
    obtain ⟨x, hx⟩ := get_lt hk
    have w1 := W_succ hk (by omega)
    have hk' : decide ((k : Int) < (xs.length : Int)) = true := by simpa using hk
    simp only [hk', if_true, idx_at hx, l00In_eq, Option.bind_some]
    cases k with
    | zero => simp only [okAt, hx, w1] at hok ⊢; by_cases h1 : 0 ≤ x <;> by_cases h2 : x ≤ n <;> simp [h1, h2] at hok ⊢
    | succ j =>
      obtain ⟨y, hy⟩ := get_lt (xs := xs) (k := j) (by omega)
      have w2 := W_pred (k := j) (n := xs.length) (by omega) (by omega)
      simp only [okAt, hx, hy, w1, w2, idx_at hy, Option.bind_some, Nat.add_sub_cancel] at hok ⊢
      by_cases h1 : 0 ≤ x <;> by_cases h2 : x ≤ n <;> by_cases h3 : y < x <;> simp [h1, h2, h3] at hok ⊢

theorem increasing_law {xs : List Int} (hl : xs.length ≤ maxLen) {n : Int} : Ev (fun m => impl_increasing_m m xs n) (rises xs (W (n - 1))) := by
  have hm := maxLen_le
  unfold impl_increasing_m
  refine (Ev.all xs.length (okAt xs (W (n - 1))) false true (fun k hk hok => Ev.const' fun m => ?_) (fun k hk hok => Ev.const' fun m => ?_) (Ev.ite_f (by simp) (Ev.pure _))).eq (by unfold rises; split <;> simp_all)
  all_goals
    obtain ⟨x, hx⟩ := get_lt hk
    have w1 := W_succ hk (by omega)
    have hk' : decide ((k : Int) < (xs.length : Int)) = true := by simpa using hk
    simp only [hk', if_true, idx_at hx, index_eq, Option.bind_some]
    generalize W (n - 1) = n at *
    cases k with
    | zero => simp only [okAt, hx, w1] at hok ⊢; by_cases h1 : 0 ≤ x <;> by_cases h2 : x ≤ n <;> simp [h1, h2] at hok ⊢
    | succ j =>
      obtain ⟨y, hy⟩ := get_lt (xs := xs) (k := j) (by omega)
      have w2 := W_pred (k := j) (n := xs.length) (by omega) (by omega)
      simp only [okAt, hx, hy, w1, w2, idx_at hy, Option.bind_some, Nat.add_sub_cancel] at hok ⊢
      by_cases h1 : 0 ≤ x <;> by_cases h2 : x ≤ n <;> by_cases h3 : y < x <;> simp [h1, h2, h3] at hok ⊢

/-! ### games -/
def okVx (n : Int) (x : Timpl_Vertex) : Bool := (decide (0 ≤ x.1) && decide (x.1 ≤ 1)) && ((decide (0 ≤ x.2.1) && decide (x.2.1 ≤ 9)) && rises x.2.2 n)
def validG (a : List Timpl_Vertex) : Bool := decide (1 ≤ a.length ∧ a.length ≤ 120) && a.all (okVx (W ((a.length : Int) - 1)))

theorem validG_impl {a : List Timpl_Vertex} (hl : a.length ≤ 1048576) (g : ∀ x ∈ a, x.2.2.length ≤ 1048576) : Ev (fun m => impl_ValidGame_m m a) (validG a) := by
  have hm : maxLen = 9223372036854775807 := by unfold maxLen; rfl
  unfold impl_ValidGame_m validG
  simp only [within_eq, Option.bind_some]
  have hfind : Ev (fun m => slices_ContainsFunc__impl_Vertex_impl_Vertex_m m a (fun (z0 : Timpl_Vertex) => impl_ValidGame_1_m m z0 a)) (!(a.all (okVx (W ((a.length : Int) - 1))))) := by
    refine contains_loop (by omega) (f := fun m z0 => impl_ValidGame_1_m m z0 a) (fun x hx => ?_)
    have hi := increasing_law (xs := x.2.2) (n := (a.length : Int)) (by have := g x hx; omega)
    unfold impl_ValidGame_1_m okVx
    simp only [within_eq, Option.bind_some]
    cases (decide (0 ≤ x.1) && decide (x.1 ≤ 1)) with
    | false => exact Ev.bind (a := true) (Ev.pure _) (Ev.bind (a := true) (Ev.ite_t rfl (Ev.pure _)) (Ev.pure _))
    | true =>
      cases (decide (0 ≤ x.2.1) && decide (x.2.1 ≤ 9)) with
      | false => exact Ev.bind (a := true) (Ev.pure _) (Ev.bind (a := true) (Ev.ite_t rfl (Ev.pure _)) (Ev.pure _))
      | true => exact Ev.bind (a := false) (Ev.pure _) (Ev.bind (Ev.ite_f (by simp) (Ev.bind hi (Ev.pure _))) (Ev.pure _))
  by_cases h1 : 1 ≤ a.length ∧ a.length ≤ 120
  · refine Ev.eq (Ev.ite_f (by simp; omega) (Ev.bind hfind (Ev.pure _))) ?_
    simp [h1]
  · refine Ev.eq (Ev.ite_t (by simp; omega) (Ev.pure _)) ?_
    simp; omega

theorem validG_spec {a : List Timpl_Vertex} (hl : a.length ≤ 1048576) (g : ∀ x ∈ a, x.2.2.length ≤ 1048576) : Ev (fun m => spec_l23Is_m m a) (validG a) := by
  have hm : maxLen = 9223372036854775807 := by unfold maxLen; rfl
  unfold spec_l23Is_m validG
  by_cases h1 : 1 ≤ a.length ∧ a.length ≤ 120
  · refine Ev.bind (a := false) (Ev.const (by rw [or_some, show ((a.length : Int) == 0) = false from by rw [beq_eq_false_iff_ne]; omega, show decide ((120 : Int) < a.length) = false from decide_eq_false (by omega)]; rfl)) (Ev.ite_f (by simp) ?_)
    have key : ∀ (k : Nat) (x : Timpl_Vertex), a[k]? = some x → ∀ {A B : Option (Int ⊕ (Unit ⊕ Bool))} {r}, (if (!okVx (W ((a.length : Int) - 1)) x) = true then A else B) = some r → Ev (fun m => (idx a (k : Int)).bind fun x183 => (spec_l00In_m m x183.1 (0 : Int) (1 : Int)).bind fun x200 => (if (!x200) = true then some true else (idx a (k : Int)).bind fun x206 => (spec_l00In_m m x206.2.1 (0 : Int) (9 : Int)).bind fun x223 => some (!x223)).bind fun t203 => (if t203 = true then some true else (idx a (k : Int)).bind fun x229 => (spec_l00Rises_m m x229.2.2 (0 : Int) (W ((a.length : Int) - (1 : Int)))).bind fun x246 => some (!x246)).bind fun t226 => (if t226 = true then A else B)) r := by
      intro k x hx A B r hr
      have hi := rises_spec (xs := x.2.2) (n := W ((a.length : Int) - 1)) (by have := g x (List.mem_of_getElem? hx); omega)
      simp only [idx_at hx, Option.bind_some, l00In_eq]
      revert hr
      unfold okVx
      cases (decide (0 ≤ x.1) && decide (x.1 ≤ 1)) with
      | false => exact fun hr => Ev.bind (a := true) (Ev.pure _) (Ev.bind (a := true) (Ev.ite_t rfl (Ev.pure _)) (Ev.const hr))
      | true =>
        cases (decide (0 ≤ x.2.1) && decide (x.2.1 ≤ 9)) with
        | false => exact fun hr => Ev.bind (a := true) (Ev.pure _) (Ev.bind (a := true) (Ev.ite_t rfl (Ev.pure _)) (Ev.const hr))
        | true => exact fun hr => Ev.bind (a := false) (Ev.pure _) (Ev.bind (Ev.ite_f (by simp) (Ev.bind hi (Ev.pure _))) (Ev.const hr))
    refine (Ev.all (step := _) a.length (fun k => match a[k]? with | none => true | some x => okVx (W ((a.length : Int) - 1)) x) false true (fun k hk hok => ?_) (fun k hk hok => ?_) (Ev.ite_f (by simp) (Ev.pure _))).eq ?_
    · obtain ⟨x, hx⟩ := get_lt hk
      simp only [hx] at hok
      exact Ev.ite_t (decide_eq_true (by omega)) (key k x hx (by rw [hok, W_succ hk (by omega)]; rfl))
    · obtain ⟨x, hx⟩ := get_lt hk
      simp only [hx] at hok
      exact Ev.ite_t (decide_eq_true (by omega)) (key k x hx (by rw [hok]; rfl))
    · rw [all_list (ok := okVx (W ((a.length : Int) - 1))) (fun k => by cases a[k]? <;> rfl)]
      rw [decide_eq_true (by omega), Bool.true_and]
      cases a.all (okVx (W ((a.length : Int) - 1))) <;> rfl
  · refine Ev.bind (a := true) (Ev.const (by rw [or_some, show ((a.length : Int) == 0 || decide ((120 : Int) < a.length)) = true from by rw [Bool.or_eq_true, beq_iff_eq, decide_eq_true_eq]; omega])) (Ev.eq (Ev.ite_t rfl (Ev.pure _)) ?_)
    rw [decide_eq_false h1, Bool.false_and]

abbrev GV : Tlaws_Vertex → Prop := gAnd (gInt .i64) (gAnd (gInt .i64) GI)
abbrev GVs : List Tlaws_Vertex → Prop := gList GV

theorem sz_vtx {x : Tlaws_Vertex} (g : GV x) {b : Int} (h0 : 0 ≤ b) (hb : b ≤ 1048576) : ∃ r, Ev (fun n => laws_szVertex_m n x b) r ∧ Sz b r (x.2.2.length ≤ 1048576) := by
  obtain ⟨r, h1, h2⟩ := sz_ints g.2.2 h0 hb
  by_cases h : r < 0
  · exact ⟨-1, Ev.bind h1 (Ev.ite_t (by simpa using h) (Ev.pure _)), .inl (by omega)⟩
  · exact ⟨r, Ev.bind h1 (Ev.ite_f (by simpa using h) (Ev.pure _)), h2⟩
theorem sz_vtxs {a : List Tlaws_Vertex} (g : GVs a) {b : Int} (h0 : 0 ≤ b) (hb : b ≤ 1048576) : ∃ r, Ev (fun n => laws_szVertexS_m n a b) r ∧ Sz b r (a.length ≤ 1048576 ∧ ∀ x ∈ a, x.2.2.length ≤ 1048576) :=
  sz_loop (fun x hx _ h0 hb => sz_vtx (g.2 x hx) h0 hb) g.1 h0 hb

theorem to_vtx {x : Tlaws_Vertex} (hl : x.2.2.length ≤ 1048576) : Ev (fun n => laws_toVertex_m n x) x := Ev.bind (to_ints hl) (Ev.pure _)
theorem to_vtxs {a : List Tlaws_Vertex} (hl : a.length ≤ 1048576) (h : ∀ x ∈ a, x.2.2.length ≤ 1048576) : Ev (fun n => laws_toVertexS_m n a) a := by
  have := to_loop («to» := fun n x => laws_toVertex_m n x) (f := id) (a := a) (z := (0, 0, [])) (fun x hx => to_vtx (h x hx)) hl
  rw [List.map_id] at this
  exact this

theorem eq_vtx {x : Timpl_Vertex} (hl : x.2.2.length ≤ maxLen) : Ev (fun n => laws_eqVertex_m n x x) true :=
  Ev.ite_f (by simp) (Ev.ite_f (by simp) (Ev.bind (eq_ints hl) (Ev.ite_f (by simp) (Ev.pure _))))
theorem eq_vtxs {a : List Timpl_Vertex} (hl : a.length ≤ maxLen) (h : ∀ x ∈ a, x.2.2.length ≤ maxLen) : Ev (fun n => laws_eqVertexS_m n a a) true :=
  eq_loop (eq := fun n x y => laws_eqVertex_m n x y) (fun x hx => eq_vtx (h x hx)) hl
theorem EvI.tab {β ρ : Type} {step : Nat → List β × Int → Option ((List β × Int) ⊕ (List β ⊕ ρ))} (n : Nat) (f : Nat → β)
    (hs : ∀ k (xs : List β), k < n → xs.length = k → Ev (fun m => step m (xs, (k : Int))) (.inl (xs ++ [f k], ((k + 1 : Nat) : Int)))) (hn : ∀ xs : List β, Ev (fun m => step m (xs, (n : Int))) (.inr (.inl xs))) :
    EvI step ([], 0) (.inl ((List.range n).map f)) := by
  refine EvI.upto n (fun k (_ : Unit) => ((List.range k).map f, (k : Int))) (fun _ _ => True) (k := 0) (t := ()) rfl (Nat.zero_le _) trivial (fun k t hk _ => ⟨(), ?_, trivial⟩) (fun t _ => hn _)
  refine (hs k _ hk (by simp)).eq ?_
  rw [List.range_succ, List.map_append]; rfl

theorem rises_pw {xs : List Int} {n : Int} (h : rises xs n = true) : xs.Pairwise (· < ·) := by
  simp only [rises, decide_eq_true_eq] at h
  have step : ∀ k (hk : k + 1 < xs.length), xs[k] < xs[k + 1] := by
    intro k hk
    have := h (k + 1) hk
    have hk0 : k < xs.length := by omega
    simp only [okAt, List.getElem?_eq_getElem hk, Nat.add_sub_cancel, List.getElem?_eq_getElem hk0] at this
    simp at this
    omega
  rw [List.pairwise_iff_getElem]
  intro i j hi hj hij
  induction j with
  | zero => omega
  | succ j ih =>
    by_cases e : i = j
    · subst e; exact step i hj
    · have h1 := ih (by omega) (by omega)
      have h2 := step j hj
      omega
theorem validG_next {a : List Timpl_Vertex} (hv : validG a = true) {x : Timpl_Vertex} (hx : x ∈ a) : x.2.2.Pairwise (· < ·) ∧ ∀ v ∈ x.2.2, 0 ≤ v ∧ v < (a.length : Int) := by
  have hm : maxLen = 9223372036854775807 := by unfold maxLen; rfl
  simp only [validG, Bool.and_eq_true, decide_eq_true_eq, List.all_eq_true] at hv
  have h1 := hv.2 x hx
  simp only [okVx, Bool.and_eq_true] at h1
  refine ⟨rises_pw h1.2.2, fun v hvm => ?_⟩
  have h2 := h1.2.2
  simp only [rises, decide_eq_true_eq] at h2
  obtain ⟨i, hi, rfl⟩ := List.getElem_of_mem hvm
  have h4 := h2 i hi
  simp only [okAt, List.getElem?_eq_getElem hi, Bool.and_eq_true, decide_eq_true_eq] at h4
  rw [W_of (by omega) (by omega)] at h4
  omega
theorem validG_len {a : List Timpl_Vertex} (hv : validG a = true) : 1 ≤ a.length ∧ a.length ≤ 120 := by
  simp only [validG, Bool.and_eq_true, decide_eq_true_eq] at hv
  exact hv.1
theorem vx_facts {a : List Timpl_Vertex} (hv : validG a = true) {x : Timpl_Vertex} (hx : x ∈ a) : (0 ≤ x.1 ∧ x.1 ≤ 1) ∧ (0 ≤ x.2.1 ∧ x.2.1 ≤ 9) ∧ ∀ v ∈ x.2.2, 0 ≤ v ∧ v < (a.length : Int) := by
  have h2 := (validG_next hv hx).2
  simp only [validG, Bool.and_eq_true, decide_eq_true_eq, List.all_eq_true] at hv
  have h1 := hv.2 x hx
  simp only [okVx, Bool.and_eq_true, decide_eq_true_eq] at h1
  exact ⟨h1.1, h1.2.1, h2⟩
theorem tmod_pos {p : Int} (h : 0 ≤ p) : p.tmod 2 = p % 2 := Int.tmod_eq_emod_of_nonneg h
theorem tdiv_pos {p : Int} (h : 0 ≤ p) : p.tdiv 2 = p / 2 := Int.tdiv_eq_ediv_of_nonneg h

/-! ### tops -/
def tpF (pl : Int) (f : Int → Int) (x : Timpl_Vertex) : Int → Int := if x.2.1 % 2 = pl then f else upd f (x.2.1 / 2) (f (x.2.1 / 2) + 1)
def topF (pl : Int) (l : List Timpl_Vertex) : Int → Int := l.foldl (tpF pl) fun _ => 0
theorem topF_take {pl : Int} {l : List Timpl_Vertex} {k : Nat} {x : Timpl_Vertex} (h : l[k]? = some x) : topF pl (l.take (k + 1)) = tpF pl (topF pl (l.take k)) x := by
  unfold topF
  rw [List.take_add_one, h, List.foldl_append]
  rfl
theorem topF_le (pl : Int) (l : List Timpl_Vertex) (i : Int) : 0 ≤ topF pl l i ∧ topF pl l i ≤ (l.length : Int) := by
  have key : ∀ (l : List Timpl_Vertex) (f : Int → Int) (c : Nat), (∀ i, 0 ≤ f i ∧ f i ≤ (c : Int)) → ∀ i, 0 ≤ l.foldl (tpF pl) f i ∧ l.foldl (tpF pl) f i ≤ ((c + l.length : Nat) : Int) := by
    intro l
    induction l with
    | nil => intro f c h i; exact h i
    | cons x r ih =>
      intro f c h i
      have := ih (tpF pl f x) (c + 1) (fun j => ?_) i
      · rw [List.foldl_cons, List.length_cons]
        exact ⟨this.1, by have := this.2; omega⟩
      · unfold tpF
        split
        · have := h j; omega
        · unfold upd
          split
          · have := h (x.2.1 / 2); omega
          · have := h j; omega
  have := key l (fun _ => 0) 0 (fun _ => ⟨Int.le_refl _, by simp⟩) i
  rw [Nat.zero_add] at this
  exact this
theorem bad_eq {m : Nat} {pl p : Int} (h : 0 ≤ p ∧ p ≤ 9) : spec_l23Bad_m m pl p = some (if p % 2 = pl then -1 else p / 2) := by
  unfold spec_l23Bad_m
  rw [tmod_pos h.1, tdiv_pos h.1, W_of (by omega) (by omega)]
  by_cases e : p % 2 = pl
  · rw [if_pos e, if_pos (beq_iff_eq.2 e)]
  · rw [if_neg e, if_neg (by simpa using e)]
theorem tops_spec {a : List Timpl_Vertex} (hv : validG a = true) (pl : Int) : Ev (fun m => spec_l23Tops_m m a pl) (tab 5 (topF pl a)) := by
  obtain ⟨l1, l2⟩ := validG_len hv
  unfold spec_l23Tops_m
  refine Ev.bindc (mks_ok (n := 5) (by omega)) (Ev.bind (a := Sum.inl (tab 5 (topF pl a))) ?_ (Ev.pure _))
  refine (EvI.upto a.length (fun k (_ : Unit) => (tab 5 (topF pl (a.take k)), (k : Int))) (fun _ _ => True) (k := 0) (t := ()) rfl (Nat.zero_le _) trivial (fun k _ hk _ => ⟨(), ?_, trivial⟩) (fun _ _ => Ev.ite_f (by simp) (Ev.eq (Ev.pure _) (by rw [List.take_length])))).ev
  obtain ⟨x, hx⟩ := get_lt hk
  obtain ⟨_, hp, _⟩ := vx_facts hv (List.mem_of_getElem? hx)
  have ht := topF_le pl (a.take k) (x.2.1 / 2)
  have htk : (a.take k).length ≤ 120 := by rw [List.length_take]; omega
  rw [topF_take hx]
  unfold tpF
  refine Ev.ite_t (decide_eq_true (by omega)) (Ev.join (Ev.bindc (idx_at hx) (Ev.bind (Ev.const' fun m => bad_eq hp) ?_)))
  by_cases e : x.2.1 % 2 = pl
  · rw [if_pos e, if_pos e]
    refine Ev.ite_f (by simp) (Ev.const ?_)
    rw [W_succ hk (by omega)]
  · rw [if_neg e, if_neg e]
    have hat := tab_at (n := 5) (f := topF pl (a.take k)) (v := x.2.1 / 2) (by omega) (by omega)
    refine Ev.ite_t (decide_eq_true (by omega)) (Ev.bindc hat (Ev.bindc hat (Ev.const ?_)))
    rw [tab_set (by omega), W_succ hk (by omega), W_of (by omega) (by omega)]
def tup (f : Int → Int) : Int × Int × Int × Int × Int := (f 0, f 1, f 2, f 3, f 4)
theorem upd_at {f : Int → Int} {v y : Int} (h : 0 ≤ v) (j : Nat) : upd f v y (j : Int) = if v.toNat = j then y else f (j : Int) := by
  unfold upd
  by_cases e : v.toNat = j
  · rw [if_pos e, if_pos (by omega)]
  · rw [if_neg e, if_neg (by omega)]
theorem tops_impl {a : List Timpl_Vertex} (hv : validG a = true) (pl : Int) : Ev (fun m => impl_newMeasured_m m a pl) (a, pl, tup (topF pl a)) := by
  obtain ⟨l1, l2⟩ := validG_len hv
  unfold impl_newMeasured_m
  refine Ev.bind (a := Sum.inl (tup (topF pl a))) ?_ (Ev.pure _)
  refine (EvI.upto a.length (fun k (_ : Unit) => (topF pl (a.take k) 0, topF pl (a.take k) 1, topF pl (a.take k) 2, topF pl (a.take k) 3, topF pl (a.take k) 4, (k : Int))) (fun _ _ => True) (k := 0) (t := ()) rfl (Nat.zero_le _) trivial (fun k _ hk _ => ⟨(), ?_, trivial⟩) (fun _ _ => Ev.ite_f (by simp) (Ev.eq (Ev.pure _) (by rw [List.take_length]; rfl)))).ev
  obtain ⟨x, hx⟩ := get_lt hk
  obtain ⟨_, hp, _⟩ := vx_facts hv (List.mem_of_getElem? hx)
  have ht := topF_le pl (a.take k) (x.2.1 / 2)
  have htk : (a.take k).length ≤ 120 := by rw [List.length_take]; omega
  rw [topF_take hx]
  unfold tpF
  have hd : W (x.2.1.tdiv 2) = x.2.1 / 2 := by rw [tdiv_pos hp.1, W_of (by omega) (by omega)]
  refine Ev.ite_t (decide_eq_true (by omega)) (Ev.join (Ev.bindc (idx_at hx) ?_))
  rw [tmod_pos hp.1, hd]
  by_cases e : x.2.1 % 2 = pl
  · rw [if_pos e]
    refine Ev.ite_f (by simpa using e) (Ev.const ?_)
    rw [W_succ hk (by omega)]
  · rw [if_neg e]
    have hat := tab_at (n := 5) (f := topF pl (a.take k)) (v := x.2.1 / 2) (by omega) (by omega)
    refine Ev.ite_t (by simpa using e) (Ev.bindc hat (Ev.bindc hat (Ev.const ?_)))
    have hu := fun j => upd_at (f := topF pl (a.take k)) (v := x.2.1 / 2) (y := topF pl (a.take k) (x.2.1 / 2) + 1) (by omega) j
    have u0 := hu 0
    have u1 := hu 1
    have u2 := hu 2
    have u3 := hu 3
    have u4 := hu 4
    rw [show ((0 : Nat) : Int) = 0 from rfl] at u0
    rw [show ((1 : Nat) : Int) = 1 from rfl] at u1
    rw [show ((2 : Nat) : Int) = 2 from rfl] at u2
    rw [show ((3 : Nat) : Int) = 3 from rfl] at u3
    rw [show ((4 : Nat) : Int) = 4 from rfl] at u4
    rw [W_succ hk (by omega), W_of (n := topF pl (a.take k) (x.2.1 / 2) + 1) (by omega) (by omega), u0, u1, u2, u3, u4]

/-! ### places -/
def plN (pl p : Int) : Nat := ((p + 1 + pl) / 2).toNat
theorem plN_le {pl p : Int} (hpl : 0 ≤ pl ∧ pl ≤ 1) (h : 0 ≤ p ∧ p ≤ 9) : plN pl p ≤ 5 := by unfold plN; omega
theorem places_eq {m : Nat} {pl p : Int} (hpl : 0 ≤ pl ∧ pl ≤ 1) (h : 0 ≤ p ∧ p ≤ 9) : spec_l23Places_m m pl p = some ((plN pl p : Nat) : Int) := by
  unfold spec_l23Places_m plN
  have hc : pl = 0 ∨ pl = 1 := by omega
  rcases hc with rfl | rfl
  · rw [if_pos (show ((0 : Int) == 0) = true from rfl), W_of (n := p + 1) (by omega) (by omega), tdiv_pos (by omega), W_of (by omega) (by omega)]
    exact congrArg some (by omega)
  · rw [if_neg (show ¬ (((1 : Int) == 0) = true) by decide), tdiv_pos (by omega), W_of (n := p / 2) (by omega) (by omega), W_of (by omega) (by omega)]
    exact congrArg some (by omega)
theorem upTo_ev {x : Timpl_measured} {p : Int} (hpl : 0 ≤ x.2.1 ∧ x.2.1 ≤ 1) (h : 0 ≤ p ∧ p ≤ 9) : Ev (fun m => Pimpl_measured_upTo_m m x p) ((plN x.2.1 p : Nat) : Int) := by
  have hle := plN_le hpl h
  have hdef : plN x.2.1 p = ((p + 1 + x.2.1) / 2).toNat := rfl
  unfold Pimpl_measured_upTo_m
  refine Ev.bind (a := Sum.inl ((plN x.2.1 p : Nat) : Int)) (EvI.upto (plN x.2.1 p) (fun k (_ : Unit) => (k : Int)) (fun _ _ => True) (k := 0) (t := ()) rfl (Nat.zero_le _) trivial (fun k _ hk _ => ⟨(), ?_, trivial⟩) (fun _ _ => ?_)).ev (Ev.pure _)
  · have hb : ∀ m, Pimpl_measured_bad_m m x (k : Int) = some (2 * (k : Int) + 1 - x.2.1) := fun m => by
      unfold Pimpl_measured_bad_m
      rw [W_of (n := 2 * (k : Int)) (by omega) (by omega), W_of (n := 2 * (k : Int) + 1) (by omega) (by omega), W_of (by omega) (by omega)]
    refine Ev.bind (a := true) (Ev.ite_t (decide_eq_true (by omega)) (Ev.bind (Ev.const' hb) (Ev.const (congrArg some (decide_eq_true (by omega)))))) (Ev.ite_t rfl (Ev.const ?_))
    rw [W_succ hk (by omega)]
  · have hb : ∀ m, Pimpl_measured_bad_m m x ((plN x.2.1 p : Nat) : Int) = some (2 * ((plN x.2.1 p : Nat) : Int) + 1 - x.2.1) := fun m => by
      unfold Pimpl_measured_bad_m
      rw [W_of (n := 2 * ((plN x.2.1 p : Nat) : Int)) (by omega) (by omega), W_of (n := 2 * ((plN x.2.1 p : Nat) : Int) + 1) (by omega) (by omega), W_of (by omega) (by omega)]
    refine Ev.bind (a := false) ?_ (Ev.ite_f (by simp) (Ev.pure _))
    by_cases e : plN x.2.1 p < 5
    · exact Ev.ite_t (decide_eq_true (by omega)) (Ev.bind (Ev.const' hb) (Ev.const (congrArg some (decide_eq_false (by omega)))))
    · exact Ev.ite_f (by simp; omega) (Ev.pure _)

/-! ### rows compared -/
def cmpL : List Int → List Int → Int
  | x :: xs, y :: ys => if x < y then -1 else if y < x then 1 else cmpL xs ys
  | _, _ => 0
theorem cmp_loop {step : Nat → Int → Option (Int ⊕ (Unit ⊕ Int))} (a b : List Int)
    (hlt : ∀ (k : Nat) (x y : Int), a[k]? = some x → b[k]? = some y → x < y → Ev (fun m => step m (k : Int)) (.inr (.inr (-1))))
    (hgt : ∀ (k : Nat) (x y : Int), a[k]? = some x → b[k]? = some y → y < x → Ev (fun m => step m (k : Int)) (.inr (.inr 1)))
    (heq : ∀ (k : Nat) (x : Int), a[k]? = some x → b[k]? = some x → Ev (fun m => step m (k : Int)) (.inl ((k + 1 : Nat) : Int)))
    (hend : Ev (fun m => step m (a.length : Int)) (.inr (.inl ()))) :
    ∀ (l r : List Int) (k : Nat), a.drop k = l → b.drop k = r → l.length = r.length → k ≤ a.length → ∃ res, EvI step (k : Int) res ∧ (match res with | .inl _ => cmpL l r = 0 | .inr c => cmpL l r = c) := by
  intro l
  induction l with
  | nil =>
    intro r k h1 h2 h3 h4
    have : k = a.length := by
      have := congrArg List.length h1
      rw [List.length_drop, List.length_nil] at this
      omega
    subst this
    exact ⟨_, EvI.stop hend, rfl⟩
  | cons x l ih =>
    intro r k h1 h2 h3 h4
    cases r with
    | nil => cases h3
    | cons y r =>
      have ha : a[k]? = some x ∧ a.drop (k + 1) = l := ⟨by have := congrArg (fun l => l[0]?) h1; simpa using this, by rw [← List.drop_drop, h1]; rfl⟩
      have hb : b[k]? = some y ∧ b.drop (k + 1) = r := ⟨by have := congrArg (fun l => l[0]?) h2; simpa using this, by rw [← List.drop_drop, h2]; rfl⟩
      have hk := (List.getElem?_eq_some_iff.1 ha.1).1
      unfold cmpL
      by_cases e1 : x < y
      · exact ⟨_, EvI.stop (hlt k x y ha.1 hb.1 e1), if_pos e1⟩
      by_cases e2 : y < x
      · refine ⟨_, EvI.stop (hgt k x y ha.1 hb.1 e2), ?_⟩
        show (if x < y then (-1 : Int) else if y < x then 1 else cmpL l r) = 1
        rw [if_neg e1, if_pos e2]
      have e3 : y = x := by omega
      subst e3
      obtain ⟨res, q1, q2⟩ := ih r (k + 1) ha.2 hb.2 (by simpa using h3) (by omega)
      refine ⟨res, EvI.go (heq k y ha.1 hb.1) q1, ?_⟩
      rw [if_neg e1, if_neg e1]
      exact q2
theorem cmp_spec {a b : List Int} (h : a.length = b.length) (hl : a.length ≤ 1048576) : Ev (fun m => spec_l01Compare_m m a b) (cmpL a b) := by
  unfold spec_l01Compare_m
  have hn : ∀ {k : Nat} {x y : Int}, a[k]? = some x → b[k]? = some y → Ev (fun _ => if (decide ((k : Int) < (a.length : Int))) = true then some (decide ((k : Int) < (b.length : Int))) else some false) true := fun hx hy => by
    have h1 := (List.getElem?_eq_some_iff.1 hx).1
    have h2 := (List.getElem?_eq_some_iff.1 hy).1
    exact Ev.ite_t (decide_eq_true (by omega)) (Ev.const (congrArg some (decide_eq_true (by omega))))
  refine Exists.elim (cmp_loop (step := _) a b (fun k x y hx hy e => ?_) (fun k x y hx hy e => ?_) (fun k x hx hy => ?_) ?_ a b 0 rfl rfl h (Nat.zero_le _)) (fun r hr => Ev.bind hr.1.ev ?_)
  · exact Ev.bind (hn hx hy) (Ev.ite_t rfl (Ev.bindc (idx_at hx) (Ev.bindc (idx_at hy) (Ev.ite_t (decide_eq_true e) (Ev.pure _)))))
  · exact Ev.bind (hn hx hy) (Ev.ite_t rfl (Ev.bindc (idx_at hx) (Ev.bindc (idx_at hy) (Ev.ite_f (by simp; omega) (Ev.bindc (idx_at hx) (Ev.bindc (idx_at hy) (Ev.ite_t (decide_eq_true e) (Ev.pure _))))))))
  · have hk := (List.getElem?_eq_some_iff.1 hx).1
    refine Ev.bind (hn hx hy) (Ev.ite_t rfl (Ev.bindc (idx_at hx) (Ev.bindc (idx_at hy) (Ev.ite_f (by simp) (Ev.bindc (idx_at hx) (Ev.bindc (idx_at hy) (Ev.ite_f (by simp) (Ev.const ?_))))))))
    rw [W_succ hk (by omega)]
  · exact Ev.bind (a := false) (Ev.ite_f (by simp) (Ev.pure _)) (Ev.ite_f (by simp) (Ev.pure _))
  · have e2 := hr.2
    cases r with
    | inl u =>
      rw [show cmpL a b = 0 from e2]
      exact Ev.ite_f (by simp; omega) (Ev.ite_f (by simp; omega) (Ev.pure _))
    | inr c =>
      rw [show cmpL a b = c from e2]
      exact Ev.pure _
theorem cmp1 {m : Nat} {x y : Int} : cmp_Compare_int64_m m x y = some (if x < y then -1 else if y < x then 1 else 0) := by
  unfold cmp_Compare_int64_m cmp_isNaN_int64_m
  by_cases e1 : x < y
  · simp [e1]
  · by_cases e2 : y < x <;> simp [e1, e2]
theorem cmp_impl {a b : List Int} (h : a.length = b.length) (hl : a.length ≤ 1048576) : Ev (fun m => slices_Compare__int64_int64_m m a b) (cmpL a b) := by
  unfold slices_Compare__int64_int64_m
  refine Exists.elim (cmp_loop (step := _) a b (fun k x y hx hy e => ?_) (fun k x y hx hy e => ?_) (fun k x hx hy => ?_) ?_ a b 0 rfl rfl h (Nat.zero_le _)) (fun r hr => Ev.bind hr.1.ev ?_)
  · have h1 := (List.getElem?_eq_some_iff.1 hx).1
    refine Ev.ite_t (decide_eq_true (by omega)) (Ev.bindc (idx_at hx) (Ev.ite_f (by simp; omega) (Ev.bindc (idx_at hy) (Ev.bind (Ev.const' fun m => cmp1) ?_))))
    rw [if_pos e]
    exact Ev.ite_t rfl (Ev.pure _)
  · have h1 := (List.getElem?_eq_some_iff.1 hx).1
    refine Ev.ite_t (decide_eq_true (by omega)) (Ev.bindc (idx_at hx) (Ev.ite_f (by simp; omega) (Ev.bindc (idx_at hy) (Ev.bind (Ev.const' fun m => cmp1) ?_))))
    rw [if_neg (show ¬ x < y by omega), if_pos e]
    exact Ev.ite_t rfl (Ev.pure _)
  · have h1 := (List.getElem?_eq_some_iff.1 hx).1
    refine Ev.ite_t (decide_eq_true (by omega)) (Ev.bindc (idx_at hx) (Ev.ite_f (by simp; omega) (Ev.bindc (idx_at hy) (Ev.bind (Ev.const' fun m => cmp1) ?_))))
    rw [if_neg (show ¬ x < x by omega), if_neg (show ¬ x < x by omega)]
    refine Ev.ite_f (by simp) (Ev.const ?_)
    rw [W_succ h1 (by omega)]
  · exact Ev.ite_f (by simp) (Ev.pure _)
  · have e2 := hr.2
    cases r with
    | inl u =>
      rw [show cmpL a b = 0 from e2]
      exact Ev.ite_f (by simp; omega) (Ev.pure _)
    | inr c =>
      rw [show cmpL a b = c from e2]
      exact Ev.pure _
theorem eqB_ints {a : List Int} (h : a.length ≤ 1048576) : Ev (fun n => laws_eqInt64S_m n a a) true := eq_ints (by have : maxLen = 9223372036854775807 := (by unfold maxLen; rfl); omega)
theorem toB_vtxs {a : List Tlaws_Vertex} (h : a.length ≤ 1048576 ∧ ∀ x ∈ a, x.2.2.length ≤ 1048576) : Ev (fun n => laws_toVertexS_m n a) a := to_vtxs h.1 h.2
theorem eqB_vtxs {a : List Timpl_Vertex} (h : a.length ≤ 1048576 ∧ ∀ x ∈ a, x.2.2.length ≤ 1048576) : Ev (fun n => laws_eqVertexS_m n a a) true :=
  have hm : maxLen = 9223372036854775807 := by unfold maxLen; rfl
  eq_vtxs (by have := h.1; omega) (fun x hx => by have := h.2 x hx; omega)
abbrev GII : List (List Int) → Prop := gList GI
def BII (a : List (List Int)) : Prop := a.length ≤ 1048576 ∧ ∀ x ∈ a, x.length ≤ 1048576
theorem sz_intss {a : List (List Int)} (g : GII a) {b : Int} (h0 : 0 ≤ b) (hb : b ≤ 1048576) : ∃ r, Ev (fun n => laws_szInt64SS_m n a b) r ∧ Sz b r (BII a) :=
  sz_loop (fun x hx _ h0 hb => sz_ints (g.2 x hx) h0 hb) g.1 h0 hb
theorem toB_intss {a : List (List Int)} (h : BII a) : Ev (fun n => laws_toInt64SS_m n a) a := by
  have := to_loop («to» := fun n x => laws_toInt64S_m n x) (f := id) (a := a) (z := []) (fun x hx => to_ints (h.2 x hx)) h.1
  rw [List.map_id] at this
  exact this
theorem eqB_intss {a : List (List Int)} (h : BII a) : Ev (fun n => laws_eqInt64SS_m n a a) true :=
  have hm : maxLen = 9223372036854775807 := by unfold maxLen; rfl
  eq_loop (eq := fun n x y => laws_eqInt64S_m n x y) (fun x hx => eqB_ints (h.2 x hx)) (by have := h.1; omega)
def okAtR (f : Int → Int) (r : List Int) (i : Nat) : Bool := match r[i]? with
  | none => true
  | some v => decide (0 ≤ v) && decide (v ≤ f (i : Int))
def okRow (f : Int → Int) (r : List Int) : Bool := (r.length == 0) || ((r.length == 5) && (List.range 5).all (okAtR f r))
theorem all_range {p : Nat → Bool} {n : Nat} : (List.range n).all p = true ↔ ∀ i, i < n → p i = true := by simp [List.all_eq_true, List.mem_range]
theorem all_at {α : Type} {ok : α → Bool} {l : List α} {h : Nat → Bool} (hh : ∀ k x, l[k]? = some x → h k = ok x) : (∀ k, k < l.length → h k = true) ↔ l.all ok = true := by
  rw [List.all_eq_true]
  constructor
  · intro hk x hx
    obtain ⟨i, hi⟩ := List.mem_iff_getElem?.1 hx
    rw [← hh i x hi]
    exact hk i (List.getElem?_eq_some_iff.1 hi).1
  · intro hx k hk
    obtain ⟨x, hxk⟩ := get_lt hk
    rw [hh k x hxk]
    exact hx x (List.mem_of_getElem? hxk)
theorem okAtR_at {f : Int → Int} {r : List Int} {i : Nat} {v : Int} (h : r[i]? = some v) : okAtR f r i = (decide (0 ≤ v) && decide (v ≤ f (i : Int))) := by unfold okAtR; rw [h]
theorem okRow_len {f : Int → Int} {r : List Int} (h : okRow f r = true) : r = [] ∨ r.length = 5 := by
  unfold okRow at h
  simp only [Bool.or_eq_true, Bool.and_eq_true, beq_iff_eq] at h
  rcases h with h | h
  · exact .inl (List.length_eq_zero_iff.1 h)
  · exact .inr h.1
theorem rowOk_impl {g : List Timpl_Vertex} {pl : Int} {f : Int → Int} {r : List Int} (_hl : r.length ≤ 1048576) : Ev (fun m => Pimpl_measured_rowOk_m m (g, pl, tup f) r) (okRow f r) := by
  unfold Pimpl_measured_rowOk_m okRow
  by_cases h0 : r.length = 0
  · rw [h0]
    exact Ev.ite_t rfl (Ev.pure _)
  refine Ev.ite_f (by simpa using h0) ?_
  by_cases h5 : r.length = 5
  · refine Ev.ite_f (by simp; omega) ((Ev.all r.length (okAtR f r) false true (fun k hk hok => ?_) (fun k hk hok => ?_) (Ev.ite_f (by simp) (Ev.pure _))).eq ?_)
    · obtain ⟨v, hx⟩ := get_lt hk
      rw [okAtR_at hx] at hok
      refine Ev.ite_t (decide_eq_true (by omega)) (Ev.bindc (idx_at hx) (Ev.bindc (a := f (k : Int)) (tab_at (n := 5) (by omega) (by omega)) (Ev.bind (Ev.const' fun m => within_eq) (Ev.ite_f (by rw [hok]; simp) (Ev.const ?_)))))
      rw [W_succ hk (by omega)]
    · obtain ⟨v, hx⟩ := get_lt hk
      rw [okAtR_at hx] at hok
      exact Ev.ite_t (decide_eq_true (by omega)) (Ev.bindc (idx_at hx) (Ev.bindc (a := f (k : Int)) (tab_at (n := 5) (by omega) (by omega)) (Ev.bind (Ev.const' fun m => within_eq) (Ev.ite_t (by rw [hok]; rfl) (Ev.pure _)))))
    · rw [h5]
      by_cases h : ∀ i, i < 5 → okAtR f r i = true
      · rw [if_pos h, all_range.2 h]; rfl
      · rw [if_neg h, show (List.range 5).all (okAtR f r) = false from eq_false_of_ne_true fun q => h (all_range.1 q)]; rfl
  · have hz : (r.length == 0) = false := by simpa using h0
    have hz5 : (r.length == 5) = false := by simpa using h5
    rw [hz, hz5]
    exact Ev.ite_t (by simp; omega) (Ev.pure _)

/-- Is a row enough for a priority and a row of another? -/
def enP (pl p : Int) (row other : List Int) : Bool :=
  if row = [] then true else if other = [] then false else (decide (0 < cmpL (row.take (plN pl p)) (other.take (plN pl p))) || (cmpL (row.take (plN pl p)) (other.take (plN pl p)) == 0 && decide (p % 2 = pl)))
section
variable {pl p : Int} (hpl : 0 ≤ pl ∧ pl ≤ 1) (hp : 0 ≤ p ∧ p ≤ 9) {row other : List Int} (hr : row = [] ∨ row.length = 5) (ho : other = [] ∨ other.length = 5)
include hpl hp hr ho
theorem enough_spec : Ev (fun m => spec_l23Enough_m m row other pl p) (enP pl p row other) := by
  have hle := plN_le hpl hp
  unfold spec_l23Enough_m enP
  rcases hr with rfl | hr
  · exact Ev.ite_t rfl (Ev.pure _)
  have hne : row ≠ [] := by intro e; rw [e] at hr; cases hr
  rw [if_neg hne]
  refine Ev.ite_f (by simp; omega) ?_
  rcases ho with rfl | ho
  · exact Ev.ite_t rfl (Ev.pure _)
  have hne2 : other ≠ [] := by intro e; rw [e] at ho; cases ho
  rw [if_neg hne2]
  have s1 := sub_ok (xs := row) (lo := 0) (hi := plN pl p) (by omega) (by omega)
  have s2 := sub_ok (xs := other) (lo := 0) (hi := plN pl p) (by omega) (by omega)
  rw [List.drop_zero] at s1 s2
  refine Ev.ite_f (by simp; omega) (Ev.bind (Ev.const' fun m => places_eq hpl hp) (Ev.bindc s1 (Ev.bindc s2 (Ev.bind (cmp_spec (by simp [hr, ho]) (by simp; omega)) ?_))))
  obtain ⟨c, hc⟩ : ∃ c, c = cmpL (row.take (plN pl p)) (other.take (plN pl p)) := ⟨_, rfl⟩
  rw [← hc]
  refine Ev.bind (a := decide (0 < c) || (c == 0 && decide (p % 2 = pl))) ?_ (Ev.pure _)
  by_cases e1 : 0 < c
  · rw [decide_eq_true e1]
    exact Ev.ite_t rfl (Ev.pure _)
  · rw [decide_eq_false e1]
    refine Ev.ite_f (by simp) (Ev.bind (a := (c == 0 && decide (p % 2 = pl))) ?_ (Ev.const (by simp)))
    cases hc0 : (c == 0)
    · exact Ev.ite_f (by simp) (Ev.const rfl)
    · refine Ev.ite_t rfl (Ev.bind (Ev.const' fun m => bad_eq hp) (Ev.const ?_))
      by_cases e : p % 2 = pl
      · rw [if_pos e, decide_eq_true e]; rfl
      · rw [if_neg e, decide_eq_false e]
        exact congrArg some (decide_eq_false (by omega))
theorem enough_impl {x : Timpl_measured} (hx : x.2.1 = pl) : Ev (fun m => Pimpl_measured_enough_m m x row p other) (enP pl p row other) := by
  have hle := plN_le hpl hp
  unfold Pimpl_measured_enough_m enP
  rcases hr with rfl | hr
  · exact Ev.ite_t rfl (Ev.pure _)
  have hne : row ≠ [] := by intro e; rw [e] at hr; cases hr
  rw [if_neg hne]
  refine Ev.ite_f (by simp; omega) ?_
  rcases ho with rfl | ho
  · exact Ev.ite_t rfl (Ev.pure _)
  have hne2 : other ≠ [] := by intro e; rw [e] at ho; cases ho
  rw [if_neg hne2]
  have s1 := sub_ok (xs := row) (lo := 0) (hi := plN pl p) (by omega) (by omega)
  have s2 := sub_ok (xs := other) (lo := 0) (hi := plN pl p) (by omega) (by omega)
  rw [List.drop_zero] at s1 s2
  have hu := upTo_ev (x := x) (p := p) (by rw [hx]; exact hpl) hp
  rw [hx] at hu
  refine Ev.ite_f (by simp; omega) (Ev.bind hu (Ev.bindc s1 (Ev.bindc s2 (Ev.bind (cmp_impl (by simp [hr, ho]) (by simp; omega)) ?_))))
  obtain ⟨c, hc⟩ : ∃ c, c = cmpL (row.take (plN pl p)) (other.take (plN pl p)) := ⟨_, rfl⟩
  rw [← hc]
  refine Ev.bind (a := decide (0 < c) || (c == 0 && decide (p % 2 = pl))) ?_ (Ev.pure _)
  rw [hx, tmod_pos hp.1]
  by_cases e1 : 0 < c
  · rw [decide_eq_true e1]
    exact Ev.ite_t rfl (Ev.pure _)
  · rw [decide_eq_false e1]
    refine Ev.ite_f (by simp) (Ev.bind (a := (c == 0 && decide (p % 2 = pl))) ?_ (Ev.const (by simp)))
    cases hc0 : (c == 0)
    · exact Ev.ite_f (by simp) (Ev.const rfl)
    · refine Ev.ite_t rfl (Ev.const ?_)
      by_cases e : p % 2 = pl
      · rw [decide_eq_true e]; exact congrArg some (by simpa using e)
      · rw [decide_eq_false e]; exact congrArg some (by simpa using e)
end
theorem right_loop {step : Nat → Bool × Int → Option ((Bool × Int) ⊕ (Bool ⊕ Bool))} (nx : List Int) (en : Int → Bool) (o : Bool)
    (hs : ∀ (k : Nat) (v : Int) (fd : Bool), nx[k]? = some v → Ev (fun m => step m (fd, (k : Int))) (if (o && !(en v)) = true then .inr (.inr false) else .inl (fd || en v, ((k + 1 : Nat) : Int)))) (hend : ∀ fd, Ev (fun m => step m (fd, (nx.length : Int))) (.inr (.inl fd))) :
    ∀ (l : List Int) (k : Nat) (fd : Bool), nx.drop k = l → k ≤ nx.length → EvI step (fd, (k : Int)) (if (o && !(l.all en)) = true then .inr false else .inl (fd || l.any en)) := by
  intro l
  induction l with
  | nil =>
    intro k fd h hk
    have : k = nx.length := by
      have := congrArg List.length h
      rw [List.length_drop, List.length_nil] at this
      omega
    subst this
    have e : (if (o && !(([] : List Int).all en)) = true then (Sum.inr false : Bool ⊕ Bool) else .inl (fd || ([] : List Int).any en)) = .inl fd := by simp
    rw [e]
    exact EvI.stop (hend fd)
  | cons v r ih =>
    intro k fd h hk
    have hv : nx[k]? = some v := by have := congrArg (fun l => l[0]?) h; simpa using this
    have hd : nx.drop (k + 1) = r := by rw [← List.drop_drop, h]; rfl
    have hlt := (List.getElem?_eq_some_iff.1 hv).1
    have h1 := hs k v fd hv
    by_cases e : (o && !(en v)) = true
    · rw [if_pos e] at h1
      have e2 : (o && !((v :: r).all en)) = true := by
        rw [Bool.and_eq_true] at e ⊢
        refine ⟨e.1, ?_⟩
        rw [List.all_cons]
        have := e.2
        cases hen : en v
        · rfl
        · rw [hen] at this; cases this
      rw [if_pos e2]
      exact EvI.stop h1
    · rw [if_neg e] at h1
      have q := EvI.go h1 (ih (k + 1) (fd || en v) hd (by omega))
      have e2 : (o && !((v :: r).all en)) = (o && !(r.all en)) := by
        rw [List.all_cons]
        cases o
        · rfl
        · cases hen : en v
          · rw [hen] at e; simp at e
          · rfl
      rw [e2, List.any_cons, ← Bool.or_assoc]
      exact q
def rowAt (rows : List (List Int)) (v : Int) : List Int := (idx rows v).getD []
def rightP (a : List Timpl_Vertex) (pl : Int) (rows : List (List Int)) (k : Nat) : Bool := match a[k]?, rows[k]? with
  | some x, some r => if r = [] then true else if x.1 = pl then x.2.2.any (fun v => enP pl x.2.1 r (rowAt rows v)) else x.2.2.all (fun v => enP pl x.2.1 r (rowAt rows v))
  | _, _ => true
theorem rightP_at {a : List Timpl_Vertex} {pl : Int} {rows : List (List Int)} {k : Nat} {x : Timpl_Vertex} {r : List Int} (h1 : a[k]? = some x) (h2 : rows[k]? = some r) :
    rightP a pl rows k = if r = [] then true else if x.1 = pl then x.2.2.any (fun v => enP pl x.2.1 r (rowAt rows v)) else x.2.2.all (fun v => enP pl x.2.1 r (rowAt rows v)) := by unfold rightP; rw [h1, h2]
theorem row_at {a : List Timpl_Vertex} (hv : validG a = true) {rows : List (List Int)} (hlen : rows.length = a.length) (hrow : ∀ r ∈ rows, r = [] ∨ r.length = 5) {x : Timpl_Vertex} (hx : x ∈ a) {v : Int} (hvm : v ∈ x.2.2) : idx rows v = some (rowAt rows v) ∧ (rowAt rows v = [] ∨ (rowAt rows v).length = 5) := by
  have h := (vx_facts hv hx).2.2 v hvm
  obtain ⟨r, hr⟩ := get_lt (xs := rows) (k := v.toNat) (by omega)
  have h2 := idx_at hr
  rw [show ((v.toNat : Nat) : Int) = v by omega] at h2
  unfold rowAt
  rw [h2]
  exact ⟨rfl, hrow r (List.mem_of_getElem? hr)⟩
section
variable {a : List Timpl_Vertex} (hv : validG a = true) (g : ∀ x ∈ a, x.2.2.length ≤ 1048576) {pl : Int} (hpl : 0 ≤ pl ∧ pl ≤ 1) {rows : List (List Int)} (hlen : rows.length = a.length) (hrow : ∀ r ∈ rows, r = [] ∨ r.length = 5)
include hv g hpl hlen hrow
theorem right_spec {k : Nat} (hk : k < a.length) : Ev (fun m => spec_l23Right_m m a pl rows (k : Int)) (rightP a pl rows k) := by
  obtain ⟨x, hx⟩ := get_lt hk
  obtain ⟨r, hr⟩ := get_lt (xs := rows) (k := k) (by omega)
  have hxm := List.mem_of_getElem? hx
  obtain ⟨_, hp, _⟩ := vx_facts hv hxm
  have hrl := hrow r (List.mem_of_getElem? hr)
  have hgl := g x hxm
  rw [rightP_at hx hr]
  unfold spec_l23Right_m
  refine Ev.bindc (idx_at hr) ?_
  by_cases hz : r = []
  · rw [if_pos hz, hz]
    exact Ev.ite_t rfl (Ev.pure _)
  rw [if_neg hz]
  have hr5 : r.length = 5 := hrl.resolve_left hz
  refine Ev.ite_f (by simp; omega) ?_
  have hloop := fun {step} hs hend => right_loop (step := step) x.2.2 (fun v => enP pl x.2.1 r (rowAt rows v)) (x.1 != pl) hs hend x.2.2 0 false rfl (Nat.zero_le _)
  refine Ev.bind (hloop (fun i v fd hi => ?_) (fun fd => ?_)).ev ?_
  · have hil := (List.getElem?_eq_some_iff.1 hi).1
    obtain ⟨q1, q2⟩ := row_at hv hlen hrow hxm (List.mem_of_getElem? hi)
    have hen := enough_spec hpl hp hrl q2
    refine Ev.bindc (idx_at hx) (Ev.ite_t (decide_eq_true (by omega)) (Ev.bindc (idx_at hr) (Ev.bindc (idx_at hx) (Ev.bindc (idx_at hi) (Ev.bindc q1 (Ev.bindc (idx_at hx) (Ev.bind hen (Ev.bindc (idx_at hx) (Ev.bind (a := (x.1 != pl) && !(enP pl x.2.1 r (rowAt rows v))) ?_ ?_)))))))))
    · cases (x.1 != pl)
      · exact Ev.ite_f (by simp) (Ev.const rfl)
      · exact Ev.ite_t rfl (Ev.const rfl)
    · by_cases e : ((x.1 != pl) && !(enP pl x.2.1 r (rowAt rows v))) = true
      · exact (Ev.ite_t e (Ev.pure _)).eq (if_pos e).symm
      · refine Ev.eq (Ev.ite_f e (Ev.bind (a := fd || enP pl x.2.1 r (rowAt rows v)) ?_ (Ev.const ?_))) (if_neg e).symm
        · cases fd
          · exact Ev.ite_f (by simp) (Ev.const (by simp))
          · exact Ev.ite_t rfl (Ev.const (by simp))
        · rw [W_succ hil (by omega)]
  · exact Ev.bindc (idx_at hx) (Ev.ite_f (by simp) (Ev.pure _))
  · rw [Bool.false_or]
    by_cases e : x.1 = pl
    · have e2 : (x.1 != pl) = false := by simpa using e
      rw [e2, Bool.false_and, if_neg (by simp), if_pos e]
      refine Ev.bind (a := x.2.2.any fun v => enP pl x.2.1 r (rowAt rows v)) ?_ (Ev.pure _)
      cases (x.2.2.any fun v => enP pl x.2.1 r (rowAt rows v))
      · exact Ev.ite_f (by simp) (Ev.bindc (idx_at hx) (Ev.const (by simpa using e)))
      · exact Ev.ite_t rfl (Ev.pure _)
    · have e2 : (x.1 != pl) = true := by simpa using e
      rw [e2, Bool.true_and, if_neg e]
      cases hall : (x.2.2.all fun v => enP pl x.2.1 r (rowAt rows v))
      · exact Ev.const rfl
      · refine Ev.bind (a := true) ?_ (Ev.pure _)
        cases (x.2.2.any fun v => enP pl x.2.1 r (rowAt rows v))
        · exact Ev.ite_f (by simp) (Ev.bindc (idx_at hx) (Ev.const (by simpa using e)))
        · exact Ev.ite_t rfl (Ev.pure _)
end
theorem meas2 {a : List Timpl_Vertex} (hv : validG a = true) {pl : Int} (hpl : 0 ≤ pl ∧ pl ≤ 1) {rows : List (List Int)} (hlen : rows.length = a.length) (hrow : ∀ r ∈ rows, r = [] ∨ r.length = 5) {f : Int → Int} {k : Nat} {x : Timpl_Vertex} {r : List Int} (hx : a[k]? = some x) (hr : rows[k]? = some r) {v : Int} (hvm : v ∈ x.2.2) : Ev (fun m => impl_IsMeasure_2_m m v (a, pl, tup f) rows (k : Int) x) (enP pl x.2.1 r (rowAt rows v)) := by
  have hxm := List.mem_of_getElem? hx
  obtain ⟨_, hp, _⟩ := vx_facts hv hxm
  obtain ⟨q1, q2⟩ := row_at hv hlen hrow hxm hvm
  unfold impl_IsMeasure_2_m
  exact Ev.bindc (idx_at hr) (Ev.bindc q1 (Ev.bind (enough_impl hpl hp (hrow r (List.mem_of_getElem? hr)) q2 (x := (a, pl, tup f)) rfl) (Ev.pure _)))
theorem all_if {p : Nat → Bool} {n : Nat} : (if ∀ k, k < n → p k = true then true else false) = (List.range n).all p := by
  by_cases h : ∀ k, k < n → p k = true
  · rw [if_pos h, all_range.2 h]
  · rw [if_neg h, show (List.range n).all p = false from eq_false_of_ne_true fun q => h (all_range.1 q)]
theorem measure_core {a : List Tlaws_Vertex} {pl : Int} {rows : List (List Int)} (B : a.length ≤ 1048576 ∧ ∀ x ∈ a, x.2.2.length ≤ 1048576) (Br : BII rows) : ∃ r, Ev (fun n => spec_IsMeasure_m n a pl rows) r ∧ Ev (fun n => impl_IsMeasure_m n a pl rows) r := by
  have hmx : maxLen = 9223372036854775807 := by unfold maxLen; rfl
  have h1 := validG_spec B.1 B.2
  have h2 := validG_impl B.1 B.2
  have p2 : ∀ m, impl_playerOk_m m pl = some (decide (0 ≤ pl) && decide (pl ≤ 1)) := fun m => by unfold impl_playerOk_m; rw [within_eq]; rfl
  unfold spec_IsMeasure_m impl_IsMeasure_m
  cases hv : validG a
  · rw [hv] at h1 h2
    exact ⟨false, Ev.bind h1 (Ev.bind (a := true) (Ev.const rfl) (Ev.bind (a := true) (Ev.const rfl) (Ev.const rfl))), Ev.bind h2 (Ev.bind (a := true) (Ev.const rfl) (Ev.bind (a := true) (Ev.const rfl) (Ev.const rfl)))⟩
  rw [hv] at h1 h2
  cases hp : (decide (0 ≤ pl) && decide (pl ≤ 1))
  · have s1 : Ev (fun m => (if (!true) = true then some true else (spec_l00In_m m pl 0 1).bind fun x41 => some (!x41))) true := Ev.ite_f (by simp) (Ev.bind (Ev.const' fun m => l00In_eq) (Ev.const (by rw [hp]; rfl)))
    have s2 : Ev (fun m => (if (!true) = true then some true else (impl_playerOk_m m pl).bind fun x44 => some (!x44))) true := Ev.ite_f (by simp) (Ev.bind (Ev.const' p2) (Ev.const (by rw [hp]; rfl)))
    exact ⟨false, Ev.bind h1 (Ev.bind s1 (Ev.bind (a := true) (Ev.const rfl) (Ev.const rfl))), Ev.bind h2 (Ev.bind s2 (Ev.bind (a := true) (Ev.const rfl) (Ev.const rfl)))⟩
  have s1 : Ev (fun m => (if (!true) = true then some true else (spec_l00In_m m pl 0 1).bind fun x41 => some (!x41))) false := Ev.ite_f (by simp) (Ev.bind (Ev.const' fun m => l00In_eq) (Ev.const (by rw [hp]; rfl)))
  have s2 : Ev (fun m => (if (!true) = true then some true else (impl_playerOk_m m pl).bind fun x44 => some (!x44))) false := Ev.ite_f (by simp) (Ev.bind (Ev.const' p2) (Ev.const (by rw [hp]; rfl)))
  simp only [Bool.and_eq_true, decide_eq_true_eq] at hp
  by_cases hlen : rows.length = a.length
  case neg =>
    have hb : ((rows.length : Int) != (a.length : Int)) = true := by simp; omega
    exact ⟨false, Ev.bind h1 (Ev.bind s1 (Ev.bind (a := true) (Ev.ite_f (by simp) (Ev.const (congrArg some hb))) (Ev.const rfl))), Ev.bind h2 (Ev.bind s2 (Ev.bind (a := true) (Ev.ite_f (by simp) (Ev.const (congrArg some hb))) (Ev.const rfl)))⟩
  have hb : ((rows.length : Int) != (a.length : Int)) = false := by simp; omega
  obtain ⟨l1, l2⟩ := validG_len hv
  obtain ⟨f, hf⟩ : ∃ f, f = topF pl a := ⟨_, rfl⟩
  have t1 := tops_spec hv pl
  have t2 := tops_impl hv pl
  rw [← hf] at t1 t2
  refine ⟨rows.all (okRow f) && (List.range a.length).all (rightP a pl rows), Ev.bind h1 (Ev.bind s1 (Ev.bind (a := false) (Ev.ite_f (by simp) (Ev.const (congrArg some hb))) (Ev.ite_f (by simp) (Ev.bind t1 ?_)))), Ev.bind h2 (Ev.bind s2 (Ev.bind (a := false) (Ev.ite_f (by simp) (Ev.const (congrArg some hb))) (Ev.ite_f (by simp) (Ev.bind t2 ?_))))⟩
  · -- the reference
    refine Ev.bind (EvI.all rows.length (fun k => match rows[k]? with | none => true | some r => okRow f r) false (fun k hk hok => ?_) (fun k hk hok => ?_) (Ev.ite_f (by simp) (Ev.pure _))).ev ?_
    · obtain ⟨r, hr⟩ := get_lt hk
      simp only [hr] at hok
      refine Ev.ite_t (decide_eq_true (by omega)) (Ev.join (Ev.bindc (idx_at hr) ?_))
      unfold okRow at hok
      by_cases h0 : r.length = 0
      · refine Ev.ite_t (by rw [h0]; rfl) (Ev.const ?_)
        rw [W_succ hk (by omega)]
      have h0' : (r.length == 0) = false := by simpa using h0
      rw [h0', Bool.false_or, Bool.and_eq_true] at hok
      have h5 : r.length = 5 := by simpa using hok.1
      have hall := all_range.1 hok.2
      refine Ev.ite_f (by simpa using h0) (Ev.bindc (idx_at hr) (Ev.ite_f (by simp; omega) (Ev.bind (EvI.all 5 (okAtR f r) false (fun i hi hoki => ?_) (fun i hi hoki => ?_) (Ev.ite_f (by simp) (Ev.pure _))).ev ?_)))
      · obtain ⟨v, hvx⟩ := get_lt (xs := r) (k := i) (by omega)
        rw [okAtR_at hvx] at hoki
        refine Ev.ite_t (decide_eq_true (by omega)) (Ev.bindc (idx_at hr) (Ev.bindc (idx_at hvx) (Ev.bindc (tab_at (by omega) (by omega)) (Ev.bind (Ev.const' fun m => l00In_eq) (Ev.ite_f (by rw [hoki]; simp) (Ev.const ?_))))))
        rw [W_succ hi (by omega)]
      · rw [hall i hi] at hoki; cases hoki
      · rw [if_pos hall]
        refine Ev.const ?_
        rw [W_succ hk (by omega)]
        rfl
    · obtain ⟨r, hr⟩ := get_lt hk
      simp only [hr] at hok
      refine Ev.ite_t (decide_eq_true (by omega)) (Ev.join (Ev.bindc (idx_at hr) ?_))
      unfold okRow at hok
      rw [Bool.or_eq_false_iff] at hok
      have h0 : r.length ≠ 0 := by simpa using hok.1
      refine Ev.ite_f (by simpa using h0) (Ev.bindc (idx_at hr) ?_)
      by_cases h5 : r.length = 5
      · have h5' : (r.length == 5) = true := by simpa using h5
        have hall := hok.2
        rw [h5', Bool.true_and] at hall
        have hall : ¬ ∀ i, i < 5 → okAtR f r i = true := fun q => by rw [all_range.2 q] at hall; cases hall
        refine Ev.ite_f (by simp; omega) (Ev.bind (EvI.all 5 (okAtR f r) false (fun i hi hoki => ?_) (fun i hi hoki => ?_) (Ev.ite_f (by simp) (Ev.pure _))).ev ?_)
        · obtain ⟨v, hvx⟩ := get_lt (xs := r) (k := i) (by omega)
          rw [okAtR_at hvx] at hoki
          refine Ev.ite_t (decide_eq_true (by omega)) (Ev.bindc (idx_at hr) (Ev.bindc (idx_at hvx) (Ev.bindc (tab_at (by omega) (by omega)) (Ev.bind (Ev.const' fun m => l00In_eq) (Ev.ite_f (by rw [hoki]; simp) (Ev.const ?_))))))
          rw [W_succ hi (by omega)]
        · obtain ⟨v, hvx⟩ := get_lt (xs := r) (k := i) (by omega)
          rw [okAtR_at hvx] at hoki
          exact Ev.ite_t (decide_eq_true (by omega)) (Ev.bindc (idx_at hr) (Ev.bindc (idx_at hvx) (Ev.bindc (tab_at (by omega) (by omega)) (Ev.bind (Ev.const' fun m => l00In_eq) (Ev.ite_t (by rw [hoki]; rfl) (Ev.pure _))))))
        · rw [if_neg hall]
          exact Ev.const rfl
      · exact Ev.ite_t (by simp; omega) (Ev.pure _)
    · have hiff := all_at (l := rows) (ok := okRow f) (h := fun k => match rows[k]? with | none => true | some r => okRow f r) (fun k x hx => by simp only [hx])
      cases hall : rows.all (okRow f)
      · rw [if_neg (fun q => by rw [hiff.1 q] at hall; cases hall)]
        exact Ev.const rfl
      · rw [if_pos (hiff.2 hall), Bool.true_and]
        have hrow : ∀ r ∈ rows, r = [] ∨ r.length = 5 := fun r hr => okRow_len (List.all_eq_true.1 hall r hr)
        refine (Ev.all rows.length (rightP a pl rows) false true (fun k hk hok => ?_) (fun k hk hok => ?_) (Ev.ite_f (by simp) (Ev.pure _))).eq ?_
        · have hs := right_spec hv B.2 hp hlen hrow (k := k) (by omega)
          rw [hok] at hs
          refine Ev.ite_t (decide_eq_true (by omega)) (Ev.bind hs (Ev.ite_f (by simp) (Ev.const ?_)))
          rw [W_succ hk (by omega)]
        · have hs := right_spec hv B.2 hp hlen hrow (k := k) (by omega)
          rw [hok] at hs
          exact Ev.ite_t (decide_eq_true (by omega)) (Ev.bind hs (Ev.ite_t rfl (Ev.pure _)))
        · rw [hlen]
          exact all_if
  · -- the program
    refine Ev.bind (a := !(rows.all (okRow f))) ?_ ?_
    · have := contains_loop (a := rows) (by have := Br.1; omega) (f := fun m z => impl_IsMeasure_1_m m z (a, pl, tup f)) (ok := okRow f) (fun x hx => Ev.bind (rowOk_impl (Br.2 x hx)) (Ev.pure _))
      unfold slices_ContainsFunc___int64__int64_m slices_IndexFunc___int64__int64_m
      exact this
    cases hall : rows.all (okRow f)
    · exact Ev.ite_t rfl (Ev.const rfl)
    have hrow : ∀ r ∈ rows, r = [] ∨ r.length = 5 := fun r hr => okRow_len (List.all_eq_true.1 hall r hr)
    rw [Bool.true_and]
    have hany : ∀ {k : Nat} {x : Timpl_Vertex} {r : List Int}, a[k]? = some x → rows[k]? = some r → Ev (fun m => slices_ContainsFunc__int64_int64_m m x.2.2 (fun (z0 : Int) => impl_IsMeasure_2_m m z0 (a, pl, tup f) rows (k : Int) x)) (x.2.2.any fun v => enP pl x.2.1 r (rowAt rows v)) := fun {k x r} hx hr => by
      have hxl := B.2 x (List.mem_of_getElem? hx)
      have := contains_loop (a := x.2.2) (by omega) (f := fun m z => impl_IsMeasure_2_m m z (a, pl, tup f) rows (k : Int) x) (ok := fun v => !(enP pl x.2.1 r (rowAt rows v))) (fun v hvm => by rw [Bool.not_not]; exact meas2 hv hp hlen hrow hx hr hvm)
      unfold slices_ContainsFunc__int64_int64_m slices_IndexFunc__int64_int64_m
      refine Ev.eq this ?_
      rw [List.not_all_eq_any_not]
      simp
    have hallE : ∀ {k : Nat} {x : Timpl_Vertex} {r : List Int}, a[k]? = some x → rows[k]? = some r → Ev (fun m => slices_ContainsFunc__int64_int64_m m x.2.2 (fun (z0 : Int) => impl_IsMeasure_3_m m z0 (a, pl, tup f) rows (k : Int) x)) (!(x.2.2.all fun v => enP pl x.2.1 r (rowAt rows v))) := fun {k x r} hx hr => by
      have hxl := B.2 x (List.mem_of_getElem? hx)
      have := contains_loop (a := x.2.2) (by omega) (f := fun m z => impl_IsMeasure_3_m m z (a, pl, tup f) rows (k : Int) x) (ok := fun v => enP pl x.2.1 r (rowAt rows v)) (fun v hvm => Ev.bind (meas2 hv hp hlen hrow hx hr hvm) (Ev.pure _))
      unfold slices_ContainsFunc__int64_int64_m slices_IndexFunc__int64_int64_m
      exact this
    have hone : ∀ (k : Nat) (x : Timpl_Vertex) (r : List Int), a[k]? = some x → rows[k]? = some r → ∀ {β : Type} {K X : Option β} {z : β}, (if rightP a pl rows k = true then K else X) = some z →
        Ev (fun m => if (x.1 == pl) = true then (idx rows (k : Int)).bind fun x244 => (if (decide ((0 : Int) < (x244.length : Int))) = true then (slices_ContainsFunc__int64_int64_m m x.2.2 (fun (z0 : Int) => impl_IsMeasure_2_m m z0 (a, pl, tup f) rows (k : Int) x)).bind fun x256 => some (!x256) else some false).bind fun t251 => (if t251 = true then X else K)
          else (slices_ContainsFunc__int64_int64_m m x.2.2 (fun (z0 : Int) => impl_IsMeasure_3_m m z0 (a, pl, tup f) rows (k : Int) x)).bind fun x266 => (if x266 = true then X else K)) z := fun k x r hx hr {β K X z} hz => by
      have hfin : (if (!(rightP a pl rows k)) = true then X else K) = some z := by
        rw [← hz]
        cases rightP a pl rows k <;> rfl
      have hrp := rightP_at (pl := pl) hx hr
      by_cases e : x.1 = pl
      · refine Ev.ite_t (by simpa using e) (Ev.bindc (idx_at hr) (Ev.bind (a := !(rightP a pl rows k)) ?_ (Ev.const hfin)))
        rw [hrp]
        by_cases h0 : r = []
        · rw [if_pos h0, h0]
          exact Ev.const rfl
        · rw [if_neg h0, if_pos e]
          have : 0 < r.length := List.length_pos_iff.2 h0
          exact Ev.ite_t (decide_eq_true (by omega)) (Ev.bind (hany hx hr) (Ev.pure _))
      · refine Ev.ite_f (by simpa using e) (Ev.bind (a := !(rightP a pl rows k)) ?_ (Ev.const hfin))
        refine (hallE hx hr).eq ?_
        rw [hrp]
        by_cases h0 : r = []
        · rw [if_pos h0, h0]
          have : (x.2.2.all fun v => enP pl x.2.1 [] (rowAt rows v)) = true := List.all_eq_true.2 fun v _ => rfl
          rw [this]
        · rw [if_neg h0, if_neg e]
    refine Ev.ite_f (by simp) ((Ev.all a.length (rightP a pl rows) false true (fun k hk hok => ?_) (fun k hk hok => ?_) (Ev.ite_f (by simp) (Ev.pure _))).eq all_if)
    · obtain ⟨x, hx⟩ := get_lt hk
      obtain ⟨r, hr⟩ := get_lt (xs := rows) (k := k) (by omega)
      refine Ev.ite_t (decide_eq_true (by omega)) (Ev.join (Ev.bindc (idx_at hx) (hone k x r hx hr ?_)))
      rw [if_pos hok, W_succ hk (by omega)]
    · obtain ⟨x, hx⟩ := get_lt hk
      obtain ⟨r, hr⟩ := get_lt (xs := rows) (k := k) (by omega)
      refine Ev.ite_t (decide_eq_true (by omega)) (Ev.join (Ev.bindc (idx_at hx) (hone k x r hx hr ?_)))
      rw [if_neg (by rw [hok]; simp)]
set_option maxHeartbeats 4000000 in
theorem law_IsMeasure {a : List Tlaws_Vertex} {pl : Int} {rows : List (List Int)} (g_a : (GVs) a) (_g_pl : (gInt .i64) pl) (g_rows : (GII) rows) : ∃ n, laws_FnExactIsMeasure_m n a pl rows = some true := by
  have hm : maxLen = 9223372036854775807 := by unfold maxLen; rfl
  refine Ev.one (f := fun n => laws_FnExactIsMeasure_m n a pl rows) ?_
  unfold laws_FnExactIsMeasure_m
  obtain ⟨r1, h1, s1⟩ := sz_vtxs g_a (b := (1048576 : Int)) (by omega) (by omega)
  refine Ev.bind h1 ?_
  by_cases n1 : r1 < 0
  · exact Ev.ite_t (decide_eq_true n1) (Ev.pure _)
  rcases s1 with s1 | ⟨p1, q1, B_a⟩
  · exact absurd s1 n1
  refine Ev.ite_f (by simpa using n1) ?_
  obtain ⟨r2, h2, s2⟩ := sz_intss g_rows (b := r1) (by omega) (by omega)
  refine Ev.bind h2 ?_
  by_cases n2 : r2 < 0
  · exact Ev.ite_t (decide_eq_true n2) (Ev.pure _)
  rcases s2 with s2 | ⟨p2, q2, B_rows⟩
  · exact absurd s2 n2
  refine Ev.ite_f (by simpa using n2) ?_
  obtain ⟨r, hs, hi⟩ := measure_core B_a (pl := pl) B_rows
  have to_a_ := toB_vtxs B_a
  have eq_a_ := eqB_vtxs B_a
  have to_rows_ := toB_intss B_rows
  have eq_rows_ := eqB_intss B_rows
  repeat (first
    | exact Ev.pure _
    | refine Ev.bind (by with_reducible assumption) ?_
    | refine Ev.ite_f (by first | (simp; done) | (simp; omega)) ?_
    | refine Ev.bind (Ev.ite_f (by first | (simp; done) | (simp; omega)) (Ev.bind (by with_reducible assumption) (Ev.pure _))) ?_
    | refine Ev.bind (a := false) (Ev.ite_f (by first | (simp; done) | (simp; omega)) (Ev.const (by simp))) ?_
    | refine Ev.bind (a := false) (Ev.ite_f (by first | (simp; done) | (simp; omega)) (Ev.bind (by with_reducible assumption) (Ev.const (by simp)))) ?_
    | refine Ev.bindc (by with_reducible rfl) ?_)
end Go.Proofs.Ytcddkipbedfhkaa

