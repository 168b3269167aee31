/-
  The plain laws of a statement, joined into one text.
-/
import Derived.Test.YtcaedcalbjkkgaaF0
import Derived.Test.YtcaedcalbjkkgaaF1
import Derived.Test.YtcaedcalbjkkgaaFS
import Derived.Test.YtcaedcalbjkkgaaGxI
import Derived.Test.YtcaedcalbjkkgaaGxMx
import Derived.Test.YtcaedcalbjkkgaaGxP
import Derived.Test.YtcaedcalbjkkgaaGxU
import Derived.Test.YtcaedcalbjkkgaaLDualGame
namespace Go.Proofs.Ytcaedcalbjkkgaa
open Go.Gx
/-! ### the law's helpers -/
abbrev GI : List Int → Prop := gList (gInt .i64)
theorem sz_ints {a : List Int} (g : GI a) {b : Int} (h0 : 0 ≤ b) (hb : b ≤ 1048576) : ∃ r, Ev (fun n => laws_szInt64S_m n a b) r ∧ Sz b r (a.length ≤ 1048576) := sz_leaf h0 hb g.1
theorem to_ints {a : List Int} (hl : a.length ≤ 1048576) : Ev (fun n => laws_toInt64S_m n a) a := by
  have := to_loop («to» := fun _ (x : Int) => some x) (f := id) (a := a) (z := 0) (fun x _ => Ev.pure x) hl
  rw [List.map_id] at this
  exact this
theorem eq_ints {a : List Int} (hl : a.length ≤ maxLen) : Ev (fun n => laws_eqInt64S_m n a a) true := eq_loop_ints hl
/-! ### rising lists -/
def okAt (xs : List Int) (n : Int) (k : Nat) : Bool := match xs[k]? with
  | none => true
  | some x => decide (0 ≤ x) && decide (x ≤ n) && (k == 0 || (match xs[k - 1]? with | none => true | some y => decide (y < x)))
def rises (xs : List Int) (n : Int) : Bool := decide (∀ k, k < xs.length → okAt xs n k = true)

theorem l00In_eq {n : Nat} {a b c : Int} : spec_l00In_m n a b c = some (decide (b ≤ a) && decide (a ≤ c)) := by
  unfold spec_l00In_m
  by_cases h : b ≤ a <;> simp [h]
theorem within_eq {n : Nat} {a b c : Int} : impl_within_m n a b c = some (decide (b ≤ a) && decide (a ≤ c)) := by
  unfold impl_within_m
  by_cases h : b ≤ a <;> simp [h]
theorem index_eq {n : Nat} {a b : Int} : impl_index_m n a b = some (decide (0 ≤ a) && decide (a ≤ W (b - 1))) := by
  unfold impl_index_m
  simp [within_eq]

theorem rises_spec {xs : List Int} (hl : xs.length ≤ maxLen) {n : Int} : Ev (fun m => spec_l00Rises_m m xs 0 n) (rises xs n) := by
  have hm := maxLen_le
  unfold spec_l00Rises_m
  refine (Ev.all xs.length (okAt xs n) false true (fun k hk hok => Ev.const' fun m => ?_) (fun k hk hok => Ev.const' fun m => ?_) (Ev.ite_f (by simp) (Ev.pure _))).eq (by unfold rises; split <;> simp_all)
  all_goals
    obtain ⟨x, hx⟩ := get_lt hk
    have w1 := W_succ hk (by omega)
    have hk' : decide ((k : Int) < (xs.length : Int)) = true := by simpa using hk
    simp only [hk', if_true, idx_at hx, l00In_eq, Option.bind_some]
    cases k with
    | zero => simp only [okAt, hx, w1] at hok ⊢; by_cases h1 : 0 ≤ x <;> by_cases h2 : x ≤ n <;> simp [h1, h2] at hok ⊢
    | succ j =>
      obtain ⟨y, hy⟩ := get_lt (xs := xs) (k := j) (by omega)
      have w2 := W_pred (k := j) (n := xs.length) (by omega) (by omega)
      simp only [okAt, hx, hy, w1, w2, idx_at hy, Option.bind_some, Nat.add_sub_cancel] at hok ⊢
      by_cases h1 : 0 ≤ x <;> by_cases h2 : x ≤ n <;> by_cases h3 : y < x <;> simp [h1, h2, h3] at hok ⊢

theorem increasing_law {xs : List Int} (hl : xs.length ≤ maxLen) {n : Int} : Ev (fun m => impl_increasing_m m xs n) (rises xs (W (n - 1))) := by
  have hm := maxLen_le
  unfold impl_increasing_m
  refine (Ev.all xs.length (okAt xs (W (n - 1))) false true (fun k hk hok => Ev.const' fun m => ?_) (fun k hk hok => Ev.const' fun m => ?_) (Ev.ite_f (by simp) (Ev.pure _))).eq (by unfold rises; split <;> simp_all)
  all_goals
    obtain ⟨x, hx⟩ := get_lt hk
    have w1 := W_succ hk (by omega)
    have hk' : decide ((k : Int) < (xs.length : Int)) = true := by simpa using hk
    simp only [hk', if_true, idx_at hx, index_eq, Option.bind_some]
    generalize W (n - 1) = n at *
    cases k with
    | zero => simp only [okAt, hx, w1] at hok ⊢; by_cases h1 : 0 ≤ x <;> by_cases h2 : x ≤ n <;> simp [h1, h2] at hok ⊢
    | succ j =>
      obtain ⟨y, hy⟩ := get_lt (xs := xs) (k := j) (by omega)
      have w2 := W_pred (k := j) (n := xs.length) (by omega) (by omega)
      simp only [okAt, hx, hy, w1, w2, idx_at hy, Option.bind_some, Nat.add_sub_cancel] at hok ⊢
      by_cases h1 : 0 ≤ x <;> by_cases h2 : x ≤ n <;> by_cases h3 : y < x <;> simp [h1, h2, h3] at hok ⊢

/-! ### changes of the sign -/
/-! ### marks -/
theorem marks_ints {a : List Int} {k : Int} (hl : a.length ≤ 1048576) (h0 : 1 ≤ k) (hk : k ≤ 4611686018427387904 - 1048576) :
    ∃ k' ys, Ev (fun n => laws_markInt64S_m n a k) (k', ys) ∧ Ev (fun n => laws_heldInt64S_m n ys k) k' ∧ k ≤ k' ∧ k' ≤ k + (a.length * 1 : Nat) ∧ ys.length = a.length := by
  unfold laws_markInt64S_m laws_heldInt64S_m
  refine mark_held (p := fun _ => True) (fun _ _ => trivial) h0 (by omega)
    (fun xs k i x hxl hx _ h1 h2 => ⟨k, k + 1, Ev.const' fun m => ?_, by omega, by omega, fun ys hyl hy => Ev.const' fun m => ?_⟩) (fun xs k hxl => ?_) (fun ys k hyl => ?_)
  · have hi : i < xs.length := (List.getElem?_eq_some_iff.1 hx).1
    simp [idx_at hx, W_succ (k := i) (n := xs.length) hi (by omega), W_of (n := k + 1) (by omega) (by omega), hi]
  · have hi : i < ys.length := (List.getElem?_eq_some_iff.1 hy).1
    simp [idx_at hy, W_succ (k := i) (n := ys.length) hi (by omega), W_of (n := k + 1) (by omega) (by omega), hi]
  · exact Ev.const' fun m => by simp [hxl]
  · exact Ev.const' fun m => by simp [hyl]

/-! ### the blocks -/
theorem own_ints {a : List Int} (hl : a.length ≤ 1048576) : Ev (fun m => spec_l00Own_m m a) a := Ev.bindc (app_ok (by simp; omega)) (Ev.pure _)
theorem clone_ints {a : List Int} (hl : a.length ≤ 1048576) : Ev (fun m => slices_Clone__int64_int64_m m a) a := Ev.bindc (app_ok (by simp; omega)) (Ev.pure _)
/-! ### games -/
def okVx (n : Int) (x : Timpl_Vertex) : Bool := (decide (0 ≤ x.1) && decide (x.1 ≤ 1)) && ((decide (0 ≤ x.2.1) && decide (x.2.1 ≤ 9)) && rises x.2.2 n)
def validG (a : List Timpl_Vertex) : Bool := decide (1 ≤ a.length ∧ a.length ≤ 120) && a.all (okVx (W ((a.length : Int) - 1)))

theorem validG_impl {a : List Timpl_Vertex} (hl : a.length ≤ 1048576) (g : ∀ x ∈ a, x.2.2.length ≤ 1048576) : Ev (fun m => impl_ValidGame_m m a) (validG a) := by
  have hm : maxLen = 9223372036854775807 := by unfold maxLen; rfl
  unfold impl_ValidGame_m validG
  simp only [within_eq, Option.bind_some]
  have hfind : Ev (fun m => slices_ContainsFunc__impl_Vertex_impl_Vertex_m m a (fun (z0 : Timpl_Vertex) => impl_ValidGame_1_m m z0 a)) (!(a.all (okVx (W ((a.length : Int) - 1))))) := by
    refine contains_loop (by omega) (f := fun m z0 => impl_ValidGame_1_m m z0 a) (fun x hx => ?_)
    have hi := increasing_law (xs := x.2.2) (n := (a.length : Int)) (by have := g x hx; omega)
    unfold impl_ValidGame_1_m okVx
    simp only [within_eq, Option.bind_some]
    cases (decide (0 ≤ x.1) && decide (x.1 ≤ 1)) with
    | false => exact Ev.bind (a := true) (Ev.pure _) (Ev.bind (a := true) (Ev.ite_t rfl (Ev.pure _)) (Ev.pure _))
    | true =>
      cases (decide (0 ≤ x.2.1) && decide (x.2.1 ≤ 9)) with
      | false => exact Ev.bind (a := true) (Ev.pure _) (Ev.bind (a := true) (Ev.ite_t rfl (Ev.pure _)) (Ev.pure _))
      | true => exact Ev.bind (a := false) (Ev.pure _) (Ev.bind (Ev.ite_f (by simp) (Ev.bind hi (Ev.pure _))) (Ev.pure _))
  by_cases h1 : 1 ≤ a.length ∧ a.length ≤ 120
  · refine Ev.eq (Ev.ite_f (by simp; omega) (Ev.bind hfind (Ev.pure _))) ?_
    simp [h1]
  · refine Ev.eq (Ev.ite_t (by simp; omega) (Ev.pure _)) ?_
    simp; omega

theorem validG_spec {a : List Timpl_Vertex} (hl : a.length ≤ 1048576) (g : ∀ x ∈ a, x.2.2.length ≤ 1048576) : Ev (fun m => spec_l23Is_m m a) (validG a) := by
  have hm : maxLen = 9223372036854775807 := by unfold maxLen; rfl
  unfold spec_l23Is_m validG
  by_cases h1 : 1 ≤ a.length ∧ a.length ≤ 120
  · refine Ev.bind (a := false) (Ev.const (by rw [or_some, show ((a.length : Int) == 0) = false from by rw [beq_eq_false_iff_ne]; omega, show decide ((120 : Int) < a.length) = false from decide_eq_false (by omega)]; rfl)) (Ev.ite_f (by simp) ?_)
    have key : ∀ (k : Nat) (x : Timpl_Vertex), a[k]? = some x → ∀ {A B : Option (Int ⊕ (Unit ⊕ Bool))} {r}, (if (!okVx (W ((a.length : Int) - 1)) x) = true then A else B) = some r → Ev (fun m => (idx a (k : Int)).bind fun x183 => (spec_l00In_m m x183.1 (0 : Int) (1 : Int)).bind fun x200 => (if (!x200) = true then some true else (idx a (k : Int)).bind fun x206 => (spec_l00In_m m x206.2.1 (0 : Int) (9 : Int)).bind fun x223 => some (!x223)).bind fun t203 => (if t203 = true then some true else (idx a (k : Int)).bind fun x229 => (spec_l00Rises_m m x229.2.2 (0 : Int) (W ((a.length : Int) - (1 : Int)))).bind fun x246 => some (!x246)).bind fun t226 => (if t226 = true then A else B)) r := by
      intro k x hx A B r hr
      have hi := rises_spec (xs := x.2.2) (n := W ((a.length : Int) - 1)) (by have := g x (List.mem_of_getElem? hx); omega)
      simp only [idx_at hx, Option.bind_some, l00In_eq]
      revert hr
      unfold okVx
      cases (decide (0 ≤ x.1) && decide (x.1 ≤ 1)) with
      | false => exact fun hr => Ev.bind (a := true) (Ev.pure _) (Ev.bind (a := true) (Ev.ite_t rfl (Ev.pure _)) (Ev.const hr))
      | true =>
        cases (decide (0 ≤ x.2.1) && decide (x.2.1 ≤ 9)) with
        | false => exact fun hr => Ev.bind (a := true) (Ev.pure _) (Ev.bind (a := true) (Ev.ite_t rfl (Ev.pure _)) (Ev.const hr))
        | true => exact fun hr => Ev.bind (a := false) (Ev.pure _) (Ev.bind (Ev.ite_f (by simp) (Ev.bind hi (Ev.pure _))) (Ev.const hr))
    refine (Ev.all (step := _) a.length (fun k => match a[k]? with | none => true | some x => okVx (W ((a.length : Int) - 1)) x) false true (fun k hk hok => ?_) (fun k hk hok => ?_) (Ev.ite_f (by simp) (Ev.pure _))).eq ?_
    · obtain ⟨x, hx⟩ := get_lt hk
      simp only [hx] at hok
      exact Ev.ite_t (decide_eq_true (by omega)) (key k x hx (by rw [hok, W_succ hk (by omega)]; rfl))
    · obtain ⟨x, hx⟩ := get_lt hk
      simp only [hx] at hok
      exact Ev.ite_t (decide_eq_true (by omega)) (key k x hx (by rw [hok]; rfl))
    · rw [all_list (ok := okVx (W ((a.length : Int) - 1))) (fun k => by cases a[k]? <;> rfl)]
      rw [decide_eq_true (by omega), Bool.true_and]
      cases a.all (okVx (W ((a.length : Int) - 1))) <;> rfl
  · refine Ev.bind (a := true) (Ev.const (by rw [or_some, show ((a.length : Int) == 0 || decide ((120 : Int) < a.length)) = true from by rw [Bool.or_eq_true, beq_iff_eq, decide_eq_true_eq]; omega])) (Ev.eq (Ev.ite_t rfl (Ev.pure _)) ?_)
    rw [decide_eq_false h1, Bool.false_and]

section
variable {α : Type} {n k : Nat} {A B : Int → α}
theorem tabG_of (d : α) (l : List α) : ∃ f : Int → α, l = tab l.length f := by
  refine ⟨fun v => (l[v.toNat]?).getD d, List.ext_getElem? fun k => ?_⟩
  by_cases hk : k < l.length
  · rw [tab_get hk, List.getElem?_eq_getElem hk]
    simp [hk]
  · rw [List.getElem?_eq_none (by omega), List.getElem?_eq_none (by rw [tab_len]; omega)]
theorem tabG_next {z : α} (hz : z = A (k : Int)) : (tab n (fun v => if v < (k : Int) then A v else B v)).set ((k : Int)).toNat z = tab n (fun v => if v < ((k + 1 : Nat) : Int) then A v else B v) := by
  rw [tab_set (by omega)]
  refine tab_congr fun v h0 h1 => ?_
  by_cases e : v = (k : Int)
  · subst e; rw [upd_eq, if_pos (by omega), hz]
  · rw [upd_ne e]
    by_cases h : v < (k : Int)
    · rw [if_pos h, if_pos (by omega)]
    · rw [if_neg h, if_neg (by omega)]
theorem tabG_first : tab n (fun v => if v < ((0 : Nat) : Int) then A v else B v) = tab n B := tab_congr fun v h0 h1 => if_neg (by omega)
theorem tabG_last : tab n (fun v => if v < (n : Int) then A v else B v) = tab n A := tab_congr fun _v _h0 h1 => if_pos h1
theorem tabG_cur (hk : k < n) : (tab n (fun v => if v < (k : Int) then A v else B v))[k]? = some (B (k : Int)) := by
  rw [tab_get hk, if_neg (by omega)]
theorem tabG_all {f : Int → α} {p : α → Bool} : (tab n f).all p = true ↔ ∀ k, k < n → p (f (k : Int)) = true := by
  simp [tab]
theorem tabG_mem {f : Int → α} {x : α} (h : x ∈ tab n f) : ∃ k, k < n ∧ x = f (k : Int) := by
  simp only [tab, List.mem_map, List.mem_range] at h
  obtain ⟨k, hk, rfl⟩ := h
  exact ⟨k, hk, rfl⟩
end
theorem ownG_spec {a : List Timpl_Vertex} (hl : a.length ≤ 120) (g : ∀ x ∈ a, x.2.2.length ≤ 1048576) : Ev (fun m => spec_l23Own_m m a) a := by
  have hmx2 : maxLen = 9223372036854775807 := by unfold maxLen; rfl
  unfold spec_l23Own_m
  refine Ev.bind (EvI.upto (b := (.inl a : List Timpl_Vertex ⊕ List Timpl_Vertex)) (step := _) a.length (fun k (_ : Unit) => (a.take k, (k : Int))) (fun _ _ => True) (k := 0) (t := ()) rfl (Nat.zero_le _) trivial (fun k _ hk _ => ⟨(), ?_, trivial⟩) (fun _ _ => Ev.eq (Ev.ite_f (by simp) (Ev.pure _)) (by rw [List.take_length]))).ev (Ev.const rfl)
  obtain ⟨x, hx⟩ := get_lt hk
  refine Ev.ite_t (decide_eq_true (by omega)) (Ev.bindc (idx_at hx) (Ev.bindc (idx_at hx) (Ev.bindc (idx_at hx) (Ev.bind (own_ints (g x (List.mem_of_getElem? hx))) (Ev.bindc (app_ok (by simp; omega)) (Ev.const ?_))))))
  rw [W_succ hk (by omega), List.take_add_one, hx]
  rfl
def rdV (x : Timpl_Vertex) : Int × Int × Mx (List Int) := (x.1, x.2.1, Mx.rd x.2.2)
def owV (x : Timpl_Vertex) : Int × Int × Mx (List Int) := (x.1, x.2.1, Mx.own x.2.2)
theorem cloneG {n : Nat} {G : Int → Timpl_Vertex} (hn : n ≤ 120) (g : ∀ k, k < n → (G (k : Int)).2.2.length ≤ 1048576) : Ev (fun m => impl_cloneGame_m m (tab n G)) (tab n G) := by
  have hmx2 : maxLen = 9223372036854775807 := by unfold maxLen; rfl
  unfold impl_cloneGame_m
  have hm : (tab n G).map (fun x => (x.1, x.2.1, Mx.rd x.2.2)) = tab n fun v => rdV (G v) := by
    unfold tab
    rw [List.map_map]
    rfl
  refine Ev.bind (a := tab n fun v => rdV (G v)) ?_ ?_
  · refine Ev.const' fun m => ?_
    unfold slices_Clone__impl_Vertex_impl_Vertex_m
    rw [hm, app_ok (by rw [tab_len]; simp; omega)]
    rfl
  rw [tab_len]
  refine Ev.bind (a := (.inl (tab n fun v => owV (G v)) : List (Int × Int × Mx (List Int)) ⊕ List Timpl_Vertex)) (EvI.upto (step := _) n (fun k (_ : Unit) => (tab n (fun v => if v < (k : Int) then owV (G v) else rdV (G v)), (k : Int))) (fun _ _ => True) (k := 0) (t := ()) (by rw [tabG_first (A := fun v => owV (G v)) (B := fun v => rdV (G v))]; rfl) (Nat.zero_le _) trivial (fun k _ hk _ => ⟨(), ?_, trivial⟩) (fun _ _ => Ev.eq (Ev.ite_f (by simp) (Ev.pure _)) (by rw [tabG_last (A := fun v => owV (G v)) (B := fun v => rdV (G v))]))).ev ?_
  · have hc := tabG_cur (A := fun v => owV (G v)) (B := fun v => rdV (G v)) hk
    refine Ev.ite_t (decide_eq_true (by omega)) (Ev.bindc (idx_at hc) (Ev.bindc (a := (G (k : Int)).2.2) rfl (Ev.bind (clone_ints (g k hk)) (Ev.bindc (idx_at hc) (Ev.const ?_)))))
    exact congrArg some (congrArg Sum.inl (Prod.ext (tabG_next (A := fun v => owV (G v)) (B := fun v => rdV (G v)) rfl) (W_succ hk (by omega))))
  · have ha : allO (prodO some (prodO some Mx.mine)) (tab n fun v => owV (G v)) = some (tab n G) := by
      unfold tab
      exact allO_map (f := prodO some (prodO some Mx.mine)) (g := fun (k : Nat) => owV (G (k : Int))) (k := fun (k : Nat) => G (k : Int)) (fun k => rfl) _
    exact Ev.bindc ha (Ev.pure _)
def duV (x : Timpl_Vertex) : Timpl_Vertex := (W (1 - x.1), W (x.2.1 + 1), x.2.2)
theorem du_valid {n : Nat} {G : Int → Timpl_Vertex} (hv : validG (tab n G) = true) : validG (tab n fun v => duV (G v)) = true ↔ ∀ k, k < n → (duV (G (k : Int))).2.1 ≤ 9 := by
  unfold validG at hv ⊢
  rw [tab_len] at hv ⊢
  simp only [Bool.and_eq_true, decide_eq_true_eq, tabG_all] at hv ⊢
  obtain ⟨h1, h2⟩ := hv
  constructor
  · rintro ⟨_, h⟩ k hk
    have := h k hk
    unfold okVx at this
    simp only [Bool.and_eq_true, decide_eq_true_eq] at this
    exact this.2.1.2
  · intro h
    refine ⟨h1, fun k hk => ?_⟩
    have q := h2 k hk
    have q9 := h k hk
    unfold okVx at q ⊢
    unfold duV at q9 ⊢
    simp only [Bool.and_eq_true, decide_eq_true_eq] at q ⊢
    obtain ⟨⟨a1, a2⟩, ⟨b1, b2⟩, c⟩ := q
    have w1 : W (1 - (G (k : Int)).1) = 1 - (G (k : Int)).1 := W_of (by omega) (by omega)
    have w2 : W ((G (k : Int)).2.1 + 1) = (G (k : Int)).2.1 + 1 := W_of (by omega) (by omega)
    simp only at q9
    exact ⟨⟨by rw [w1]; omega, by rw [w1]; omega⟩, ⟨by rw [w2]; omega, q9⟩, c⟩
theorem dualG_core {a : List Tlaws_Vertex} (h : a.length ≤ 1048576 ∧ ∀ x ∈ a, x.2.2.length ≤ 1048576) :
    ∃ r, Ev (fun m => spec_DualGame_m m a) r ∧ Ev (fun m => impl_DualGame_m m a) r ∧ (r.1.length ≤ 1048576 ∧ ∀ x ∈ r.1, x.2.2.length ≤ 1048576) := by
  have hmx2 : maxLen = 9223372036854775807 := by unfold maxLen; rfl
  have v1 := validG_spec h.1 h.2
  have v2 := validG_impl h.1 h.2
  unfold spec_DualGame_m impl_DualGame_m
  cases hV : validG a
  · rw [hV] at v1 v2
    exact ⟨([], 1), Ev.bind v1 (Ev.ite_t rfl (Ev.pure _)), Ev.bind v2 (Ev.ite_t rfl (Ev.pure _)), by simp, fun x hx => by cases hx⟩
  rw [hV] at v1 v2
  obtain ⟨n, hnl⟩ : ∃ n, n = a.length := ⟨_, rfl⟩
  obtain ⟨G, hGa⟩ := tabG_of ((0, 0, []) : Timpl_Vertex) a
  rw [← hnl] at hGa
  have hn : n ≤ 120 := by
    unfold validG at hV
    simp only [Bool.and_eq_true, decide_eq_true_eq] at hV
    omega
  have hg : ∀ k, k < n → (G (k : Int)).2.2.length ≤ 1048576 := fun k hk => by
    have e := tab_get (f := G) hk
    rw [← hGa] at e
    exact h.2 _ (List.mem_of_getElem? e)
  have hown := ownG_spec (a := a) (by omega) h.2
  have hcl := cloneG (G := G) hn hg
  have hdv := du_valid (n := n) (G := G) (by rw [← hGa]; exact hV)
  rw [← hGa] at hcl
  subst hGa
  have hD : ∀ k, k < n → (duV (G (k : Int))).2.2.length ≤ 1048576 := hg
  have hvD := validG_impl (a := tab n fun v => duV (G v)) (by rw [tab_len]; omega) (fun x hx => by obtain ⟨k, hk, rfl⟩ := tabG_mem hx; exact hD k hk)
  refine ⟨if validG (tab n fun v => duV (G v)) = true then (tab n fun v => duV (G v), 0) else ([], 5), Ev.bind v1 (Ev.ite_f (by simp) (Ev.bind hown ?_)), Ev.bind v2 (Ev.ite_f (by simp) (Ev.bind hcl ?_)), ?_⟩
  · have e0 : (tab n G, (0 : Int)) = (tab n (fun v => if v < ((0 : Nat) : Int) then duV (G v) else G v), ((0 : Nat) : Int)) := by
      rw [tabG_first (A := fun v => duV (G v)) (B := G)]
      rfl
    rw [e0]
    refine Exists.elim (EvI.count (β := List Timpl_Vertex ⊕ (List Timpl_Vertex × Int)) (step := _) n (fun k (_ : Unit) => (tab n (fun v => if v < (k : Int) then duV (G v) else G v), (k : Int))) (fun k _ => ∀ j, j < k → (duV (G (j : Int))).2.1 ≤ 9)
      (fun b => b = (if validG (tab n fun v => duV (G v)) = true then .inl (tab n fun v => duV (G v)) else .inr ([], 5))) (fun k _ hk hI => ?_) (fun _ hI => ?_) (k := 0) (t := ()) (Nat.zero_le _) (fun j hj => by omega)) (fun res hr => Ev.bind hr.1.ev (by
        rw [hr.2]
        refine Ev.const ?_
        by_cases q : validG (tab n fun v => duV (G v)) = true
        · rw [if_pos q, if_pos q]; rfl
        · rw [if_neg q, if_neg q]; rfl))
    · have hc := tabG_cur (A := fun v => duV (G v)) (B := G) hk
      have hkl : k < (tab n (fun v => if v < (k : Int) then duV (G v) else G v)).length := by rw [tab_len]; exact hk
      have hnx : ((tab n (fun v => if v < (k : Int) then duV (G v) else G v)).set ((k : Int)).toNat (W (1 - (G (k : Int)).1), (G (k : Int)).2.1, (G (k : Int)).2.2)).set ((k : Int)).toNat (duV (G (k : Int))) = tab n (fun v => if v < ((k + 1 : Nat) : Int) then duV (G v) else G v) := by
        rw [List.set_set, tabG_next (A := fun v => duV (G v)) (B := G) rfl]
      have hi1 : idx ((tab n (fun v => if v < (k : Int) then duV (G v) else G v)).set ((k : Int)).toNat (W (1 - (G (k : Int)).1), (G (k : Int)).2.1, (G (k : Int)).2.2)) (k : Int) = some (W (1 - (G (k : Int)).1), (G (k : Int)).2.1, (G (k : Int)).2.2) := idx_at (by simp [hkl])
      have hi2 : idx (tab n (fun v => if v < ((k + 1 : Nat) : Int) then duV (G v) else G v)) (k : Int) = some (duV (G (k : Int))) := by rw [tab_at (by omega) (by omega), if_pos (by omega)]
      have hi3 : idx (((tab n (fun v => if v < (k : Int) then duV (G v) else G v)).set ((k : Int)).toNat (W (1 - (G (k : Int)).1), (G (k : Int)).2.1, (G (k : Int)).2.2)).set ((k : Int)).toNat (duV (G (k : Int)))) (k : Int) = some (duV (G (k : Int))) := by rw [hnx]; exact hi2
      by_cases h9 : 9 < (duV (G (k : Int))).2.1
      · right
        refine ⟨.inr ([], 5), Ev.ite_t (by rw [tab_len]; exact decide_eq_true (by omega)) (Ev.bindc (idx_at hc) (Ev.bindc (idx_at hc) (Ev.bindc hi1 (Ev.bindc hi1 (Ev.bindc hi3 (Ev.ite_t (decide_eq_true h9) (Ev.pure _))))))), ?_⟩
        rw [if_neg (fun q => by have := hdv.1 q k hk; omega)]
      · left
        refine ⟨(), Ev.ite_t (by rw [tab_len]; exact decide_eq_true (by omega)) (Ev.bindc (idx_at hc) (Ev.bindc (idx_at hc) (Ev.bindc hi1 (Ev.bindc hi1 (Ev.bindc hi3 (Ev.ite_f (by simpa using h9) (Ev.const (congrArg some (congrArg Sum.inl (Prod.ext hnx (W_succ hk (by omega))))))))))))
          , fun j hj => ?_⟩
        by_cases e : j = k
        · subst e; omega
        · exact hI j (by omega)
    · refine ⟨_, Ev.ite_f (by rw [tab_len]; simp) (Ev.pure _), ?_⟩
      rw [tabG_last (A := fun v => duV (G v)) (B := G), if_pos (hdv.2 hI)]
  · rw [tab_len]
    refine Ev.bind (a := (.inl (tab n fun v => duV (G v)) : List Timpl_Vertex ⊕ (List Timpl_Vertex × Int))) (EvI.upto (step := _) n (fun k (_ : Unit) => (tab n (fun v => if v < (k : Int) then duV (G v) else G v), (k : Int))) (fun _ _ => True) (k := 0) (t := ()) (by rw [tabG_first (A := fun v => duV (G v)) (B := G)]; rfl) (Nat.zero_le _) trivial (fun k _ hk _ => ⟨(), ?_, trivial⟩) (fun _ _ => Ev.eq (Ev.ite_f (by simp) (Ev.pure _)) (by rw [tabG_last (A := fun v => duV (G v)) (B := G)]))).ev ?_
    · have hc := tabG_cur (A := fun v => duV (G v)) (B := G) hk
      have hkl : k < (tab n (fun v => if v < (k : Int) then duV (G v) else G v)).length := by rw [tab_len]; exact hk
      have hi1 : idx ((tab n (fun v => if v < (k : Int) then duV (G v) else G v)).set ((k : Int)).toNat (W (1 - (G (k : Int)).1), (G (k : Int)).2.1, (G (k : Int)).2.2)) (k : Int) = some (W (1 - (G (k : Int)).1), (G (k : Int)).2.1, (G (k : Int)).2.2) := idx_at (by simp [hkl])
      exact Ev.ite_t (decide_eq_true (by omega)) (Ev.bindc (idx_at hc) (Ev.bindc (idx_at hc) (Ev.bindc hi1 (Ev.bindc hi1 (Ev.const (congrArg some (congrArg Sum.inl (Prod.ext (by rw [List.set_set]; exact tabG_next (A := fun v => duV (G v)) (B := G) rfl) (W_succ hk (by omega))))))))))
    · refine Ev.bind hvD ?_
      cases validG (tab n fun v => duV (G v))
      · exact Ev.ite_t rfl (Ev.pure _)
      · exact Ev.ite_f (by simp) (Ev.pure _)
  · split
    · refine ⟨?_, fun x hx => ?_⟩
      · show (tab n fun v => duV (G v)).length ≤ 1048576
        rw [tab_len]; omega
      · have hx : x ∈ tab n fun v => duV (G v) := hx
        obtain ⟨k, hk, rfl⟩ := tabG_mem hx
        exact hD k hk
    · exact ⟨by simp, fun x hx => by cases hx⟩
abbrev GV : Tlaws_Vertex → Prop := gAnd (gInt .i64) (gAnd (gInt .i64) GI)
abbrev GVs : List Tlaws_Vertex → Prop := gList GV

theorem sz_vtx {x : Tlaws_Vertex} (g : GV x) {b : Int} (h0 : 0 ≤ b) (hb : b ≤ 1048576) : ∃ r, Ev (fun n => laws_szVertex_m n x b) r ∧ Sz b r (x.2.2.length ≤ 1048576) := by
  obtain ⟨r, h1, h2⟩ := sz_ints g.2.2 h0 hb
  by_cases h : r < 0
  · exact ⟨-1, Ev.bind h1 (Ev.ite_t (by simpa using h) (Ev.pure _)), .inl (by omega)⟩
  · exact ⟨r, Ev.bind h1 (Ev.ite_f (by simpa using h) (Ev.pure _)), h2⟩
theorem sz_vtxs {a : List Tlaws_Vertex} (g : GVs a) {b : Int} (h0 : 0 ≤ b) (hb : b ≤ 1048576) : ∃ r, Ev (fun n => laws_szVertexS_m n a b) r ∧ Sz b r (a.length ≤ 1048576 ∧ ∀ x ∈ a, x.2.2.length ≤ 1048576) :=
  sz_loop (fun x hx _ h0 hb => sz_vtx (g.2 x hx) h0 hb) g.1 h0 hb

theorem to_vtx {x : Tlaws_Vertex} (hl : x.2.2.length ≤ 1048576) : Ev (fun n => laws_toVertex_m n x) x := Ev.bind (to_ints hl) (Ev.pure _)
theorem to_vtxs {a : List Tlaws_Vertex} (hl : a.length ≤ 1048576) (h : ∀ x ∈ a, x.2.2.length ≤ 1048576) : Ev (fun n => laws_toVertexS_m n a) a := by
  have := to_loop («to» := fun n x => laws_toVertex_m n x) (f := id) (a := a) (z := (0, 0, [])) (fun x hx => to_vtx (h x hx)) hl
  rw [List.map_id] at this
  exact this

theorem eq_vtx {x : Timpl_Vertex} (hl : x.2.2.length ≤ maxLen) : Ev (fun n => laws_eqVertex_m n x x) true :=
  Ev.ite_f (by simp) (Ev.ite_f (by simp) (Ev.bind (eq_ints hl) (Ev.ite_f (by simp) (Ev.pure _))))
theorem eq_vtxs {a : List Timpl_Vertex} (hl : a.length ≤ maxLen) (h : ∀ x ∈ a, x.2.2.length ≤ maxLen) : Ev (fun n => laws_eqVertexS_m n a a) true :=
  eq_loop (eq := fun n x y => laws_eqVertex_m n x y) (fun x hx => eq_vtx (h x hx)) hl

theorem marksH_vtxs {a : List Timpl_Vertex} {k : Int} (hl : a.length ≤ 1048576) (g : ∀ x ∈ a, x.2.2.length ≤ 1048576) (h0 : 1 ≤ k) (hk : k ≤ 4503599627370496) :
    ∃ k' ys, Ev (fun n => laws_markVertexS_m n a k) (k', ys) ∧ Ev (fun n => laws_heldVertexS_m n ys k) k' ∧ k ≤ k' ∧ k' ≤ k + (a.length * 1048578 : Nat) ∧ ys.length = a.length := by
  unfold laws_markVertexS_m laws_heldVertexS_m
  refine mark_held (p := fun x => x.2.2.length ≤ 1048576) g h0 (by omega) (fun xs k i x hxl hx hp h1 h2 => ?_) (fun xs k hxl => Ev.const' fun m => by simp [hxl]) (fun ys k hyl => Ev.const' fun m => by simp [hyl])
  have hi : i < xs.length := (List.getElem?_eq_some_iff.1 hx).1
  have w2 : W (k + 1) = k + 1 := W_of (by omega) (by omega)
  have w3 : W (k + 1 + 1) = k + 1 + 1 := W_of (by omega) (by omega)
  obtain ⟨k', ys, e1, e2, e3, e4, _⟩ := marks_ints (a := x.2.2) (k := k + 1 + 1) hp (by omega) (by omega)
  refine ⟨(k, W (k + 1), ys), k', Ev.eq (Ev.ite_t (by simp [hi]) (Ev.bindc (idx_at hx) (Ev.bindc (idx_set hi) (Ev.bindc (idx_set (by simpa using hi)) (Ev.bind (a := (k', ys)) ?_ (Ev.pure _)))))) ?_, by omega, by omega, fun zs hzl hz => ?_⟩
  · rw [w2, w3]; exact e1
  · simp only [Int.toNat_natCast, List.set_set, W_succ (k := i) (n := xs.length) hi (by omega)]
  · have hi : i < zs.length := (List.getElem?_eq_some_iff.1 hz).1
    refine Ev.eq (Ev.ite_t (by simp [hi]) (Ev.bindc (idx_at hz) (Ev.ite_f (by simp) (Ev.bindc (idx_at hz) (Ev.ite_f (by simp) (Ev.bindc (idx_at hz) (Ev.bind (a := k') ?_ (Ev.ite_f (by simp; omega) (Ev.pure _))))))))) ?_
    · rw [w2, w3]; exact e2
    · rw [W_succ (k := i) (n := zs.length) hi (by omega)]
theorem toB_vtxs {a : List Tlaws_Vertex} (h : a.length ≤ 1048576 ∧ ∀ x ∈ a, x.2.2.length ≤ 1048576) : Ev (fun n => laws_toVertexS_m n a) a := to_vtxs h.1 h.2
theorem eqB_vtxs {a : List Timpl_Vertex} (h : a.length ≤ 1048576 ∧ ∀ x ∈ a, x.2.2.length ≤ 1048576) : Ev (fun n => laws_eqVertexS_m n a a) true :=
  have hm : maxLen = 9223372036854775807 := by unfold maxLen; rfl
  eq_vtxs (by have := h.1; omega) (fun x hx => by have := h.2 x hx; omega)
/-- Marks on ints alone. -/
theorem markA_ints {a : List Int} {k : Int} (hl : a.length ≤ 1048576) (h0 : 1 ≤ k) (hk : k ≤ 4611686018427387904 - 1048576) :
    ∃ k' ys, Ev (fun n => laws_markInt64S_m n a k) (k', ys) ∧ k ≤ k' ∧ k' ≤ k + (a.length * 1 : Nat) ∧ ys.length = a.length := by
  unfold laws_markInt64S_m
  refine mark_alone (p := fun _ => True) (fun _ _ => trivial) h0 (by omega)
    (fun xs k i x hxl hx _ h1 h2 => ⟨k, k + 1, Ev.const' fun m => ?_, by omega, by omega⟩) (fun xs k hxl => ?_)
  · have hi : i < xs.length := (List.getElem?_eq_some_iff.1 hx).1
    simp [idx_at hx, W_succ (k := i) (n := xs.length) hi (by omega), W_of (n := k + 1) (by omega) (by omega), hi]
  · exact Ev.const' fun m => by simp [hxl]
theorem marksA_vtxs {a : List Timpl_Vertex} {k : Int} (h : a.length ≤ 1048576 ∧ ∀ x ∈ a, x.2.2.length ≤ 1048576) (h0 : 1 ≤ k) (hk : k ≤ 4503599627370496) :
    ∃ k' ys, Ev (fun n => laws_markVertexS_m n a k) (k', ys) ∧ k ≤ k' ∧ k' ≤ k + 4398046511104 := by
  have : ∃ k' ys, Ev (fun n => laws_markVertexS_m n a k) (k', ys) ∧ k ≤ k' ∧ k' ≤ k + (a.length * 1048578 : Nat) ∧ ys.length = a.length := by
    unfold laws_markVertexS_m
    refine mark_alone (p := fun x => x.2.2.length ≤ 1048576) h.2 h0 (by have := h.1; omega) (fun xs k i x hxl hx hp h1 h2 => ?_) (fun xs k hxl => Ev.const' fun m => by simp [hxl])
    have hi : i < xs.length := (List.getElem?_eq_some_iff.1 hx).1
    have hx1 := h.1
    have w2 : W (k + 1) = k + 1 := W_of (by omega) (by omega)
    have w3 : W (k + 1 + 1) = k + 1 + 1 := W_of (by omega) (by omega)
    obtain ⟨k', ys, e1, e3, e4, _⟩ := markA_ints (a := x.2.2) (k := k + 1 + 1) hp (by omega) (by omega)
    refine ⟨(k, W (k + 1), ys), k', Ev.eq (Ev.ite_t (by simp [hi]) (Ev.bindc (idx_at hx) (Ev.bindc (idx_set hi) (Ev.bindc (idx_set (by simpa using hi)) (Ev.bind (a := (k', ys)) ?_ (Ev.pure _)))))) ?_, by omega, by omega⟩
    · rw [w2, w3]; exact e1
    · simp only [Int.toNat_natCast, List.set_set, W_succ (k := i) (n := xs.length) hi (by omega)]
  obtain ⟨k', ys, h1, h2, h3, _⟩ := this
  have := h.1
  exact ⟨k', ys, h1, h2, by omega⟩
theorem marksB_vtxs {a : List Timpl_Vertex} {k : Int} (h : a.length ≤ 1048576 ∧ ∀ x ∈ a, x.2.2.length ≤ 1048576) (h0 : 1 ≤ k) (hk : k ≤ 4503599627370496) :
    ∃ k' ys, Ev (fun n => laws_markVertexS_m n a k) (k', ys) ∧ Ev (fun n => laws_heldVertexS_m n ys k) k' ∧ k ≤ k' ∧ k' ≤ k + 4398046511104 := by
  obtain ⟨k', ys, h1, h2, h3, h4, _⟩ := marksH_vtxs h.1 h.2 h0 hk
  have := h.1
  exact ⟨k', ys, h1, h2, h3, by omega⟩
set_option maxHeartbeats 4000000 in
theorem law_DualGame {a : List Tlaws_Vertex} (g_a : (GVs) a) : ∃ n, laws_FnExactDualGame_m n a = some true := by
  have hm : maxLen = 9223372036854775807 := by unfold maxLen; rfl
  refine Ev.one (f := fun n => laws_FnExactDualGame_m n a) ?_
  unfold laws_FnExactDualGame_m
  obtain ⟨r1, h1, s1⟩ := sz_vtxs g_a (b := (1048576 : Int)) (by omega) (by omega)
  refine Ev.bind h1 ?_
  by_cases n1 : r1 < 0
  · exact Ev.ite_t (decide_eq_true n1) (Ev.pure _)
  rcases s1 with s1 | ⟨p1, q1, B_a⟩
  · exact absurd s1 n1
  refine Ev.ite_f (by simpa using n1) ?_
  obtain ⟨r, hs, hi, B_r0⟩ := dualG_core B_a
  have to_a_ := toB_vtxs B_a
  have eq_a_ := eqB_vtxs B_a
  have eq_r0 := eqB_vtxs (a := r.1) B_r0
  obtain ⟨k_a, ys_a, m_a, m1_a, m2_a⟩ := marksA_vtxs (k := (1 : Int)) B_a (by omega) (by omega)
  obtain ⟨k_r0, ys_r0, m_r0, m0_r0, m1_r0, m2_r0⟩ := marksB_vtxs (k := (1 : Int)) (a := r.1) B_r0 (by omega) (by omega)
  repeat (first
    | exact Ev.pure _
    | refine Ev.bind (by with_reducible assumption) ?_
    | refine Ev.ite_f (by first | (simp; done) | (simp; omega)) ?_
    | refine Ev.bind (Ev.ite_f (by first | (simp; done) | (simp; omega)) (Ev.bind (by with_reducible assumption) (Ev.pure _))) ?_
    | refine Ev.bind (a := false) (Ev.ite_f (by first | (simp; done) | (simp; omega)) (Ev.const (by simp))) ?_
    | refine Ev.bind (a := false) (Ev.ite_f (by first | (simp; done) | (simp; omega)) (Ev.bind (by with_reducible assumption) (Ev.const (by simp)))) ?_
    | refine Ev.bindc (by with_reducible rfl) ?_)
end Go.Proofs.Ytcaedcalbjkkgaa

