/-
  The plain laws of a statement, joined into one text.
-/
import Derived.Test.YtcddkipbedfhkaaF0
import Derived.Test.YtcddkipbedfhkaaF1
import Derived.Test.YtcddkipbedfhkaaF2
import Derived.Test.YtcddkipbedfhkaaF3
import Derived.Test.YtcddkipbedfhkaaF6
import Derived.Test.YtcddkipbedfhkaaFS
import Derived.Test.YtcddkipbedfhkaaGxI
import Derived.Test.YtcddkipbedfhkaaGxJ
import Derived.Test.YtcddkipbedfhkaaGxKm
import Derived.Test.YtcddkipbedfhkaaGxMx
import Derived.Test.YtcddkipbedfhkaaGxP
import Derived.Test.YtcddkipbedfhkaaGxU
import Derived.Test.YtcddkipbedfhkaaLEquationsOfGame
namespace Go.Proofs.Ytcddkipbedfhkaa
open Go.Gx
/-! ### the law's helpers -/
abbrev GI : List Int → Prop := gList (gInt .i64)
theorem sz_ints {a : List Int} (g : GI a) {b : Int} (h0 : 0 ≤ b) (hb : b ≤ 1048576) : ∃ r, Ev (fun n => laws_szInt64S_m n a b) r ∧ Sz b r (a.length ≤ 1048576) := sz_leaf h0 hb g.1
theorem to_ints {a : List Int} (hl : a.length ≤ 1048576) : Ev (fun n => laws_toInt64S_m n a) a := by
  have := to_loop («to» := fun _ (x : Int) => some x) (f := id) (a := a) (z := 0) (fun x _ => Ev.pure x) hl
  rw [List.map_id] at this
  exact this
theorem eq_ints {a : List Int} (hl : a.length ≤ maxLen) : Ev (fun n => laws_eqInt64S_m n a a) true := eq_loop_ints hl
theorem eq_eqn {x : Timpl_Equation} (hl : x.2.2.length ≤ maxLen) : Ev (fun n => laws_eqEquation_m n x x) true :=
  Ev.ite_f (by simp) (Ev.ite_f (by simp) (Ev.bind (eq_ints hl) (Ev.ite_f (by simp) (Ev.pure _))))
theorem eq_eqns {a : List Timpl_Equation} (hl : a.length ≤ maxLen) (h : ∀ x ∈ a, x.2.2.length ≤ maxLen) : Ev (fun n => laws_eqEquationS_m n a a) true :=
  eq_loop (eq := fun n x y => laws_eqEquation_m n x y) (fun x hx => eq_eqn (h x hx)) hl

/-! ### rising lists -/
def okAt (xs : List Int) (n : Int) (k : Nat) : Bool := match xs[k]? with
  | none => true
  | some x => decide (0 ≤ x) && decide (x ≤ n) && (k == 0 || (match xs[k - 1]? with | none => true | some y => decide (y < x)))
def rises (xs : List Int) (n : Int) : Bool := decide (∀ k, k < xs.length → okAt xs n k = true)

theorem l00In_eq {n : Nat} {a b c : Int} : spec_l00In_m n a b c = some (decide (b ≤ a) && decide (a ≤ c)) := by
  unfold spec_l00In_m
  by_cases h : b ≤ a <;> simp [h]
theorem within_eq {n : Nat} {a b c : Int} : impl_within_m n a b c = some (decide (b ≤ a) && decide (a ≤ c)) := by
  unfold impl_within_m
  by_cases h : b ≤ a <;> simp [h]
theorem index_eq {n : Nat} {a b : Int} : impl_index_m n a b = some (decide (0 ≤ a) && decide (a ≤ W (b - 1))) := by
  unfold impl_index_m
  simp [within_eq]

theorem rises_spec {xs : List Int} (hl : xs.length ≤ maxLen) {n : Int} : Ev (fun m => spec_l00Rises_m m xs 0 n) (rises xs n) := by
  have hm := maxLen_le
  unfold spec_l00Rises_m
  refine (Ev.all xs.length (okAt xs n) false true (fun k hk hok => Ev.const' fun m => ?_) (fun k hk hok => Ev.const' fun m => ?_) (Ev.ite_f (by simp) (Ev.pure _))).eq (by unfold rises; split <;> simp_all)
  all_goals
    obtain ⟨x, hx⟩ := get_lt hk
    have w1 := W_succ hk (by omega)
    have hk' : decide ((k : Int) < (xs.length : Int)) = true := by simpa using hk
    simp only [hk', if_true, idx_at hx, l00In_eq, Option.bind_some]
    cases k with
    | zero => simp only [okAt, hx, w1] at hok ⊢; by_cases h1 : 0 ≤ x <;> by_cases h2 : x ≤ n <;> simp [h1, h2] at hok ⊢
    | succ j =>
      obtain ⟨y, hy⟩ := get_lt (xs := xs) (k := j) (by omega)
      have w2 := W_pred (k := j) (n := xs.length) (by omega) (by omega)
      simp only [okAt, hx, hy, w1, w2, idx_at hy, Option.bind_some, Nat.add_sub_cancel] at hok ⊢
      by_cases h1 : 0 ≤ x <;> by_cases h2 : x ≤ n <;> by_cases h3 : y < x <;> simp [h1, h2, h3] at hok ⊢

theorem increasing_law {xs : List Int} (hl : xs.length ≤ maxLen) {n : Int} : Ev (fun m => impl_increasing_m m xs n) (rises xs (W (n - 1))) := by
  have hm := maxLen_le
  unfold impl_increasing_m
  refine (Ev.all xs.length (okAt xs (W (n - 1))) false true (fun k hk hok => Ev.const' fun m => ?_) (fun k hk hok => Ev.const' fun m => ?_) (Ev.ite_f (by simp) (Ev.pure _))).eq (by unfold rises; split <;> simp_all)
  all_goals
    obtain ⟨x, hx⟩ := get_lt hk
    have w1 := W_succ hk (by omega)
    have hk' : decide ((k : Int) < (xs.length : Int)) = true := by simpa using hk
    simp only [hk', if_true, idx_at hx, index_eq, Option.bind_some]
    generalize W (n - 1) = n at *
    cases k with
    | zero => simp only [okAt, hx, w1] at hok ⊢; by_cases h1 : 0 ≤ x <;> by_cases h2 : x ≤ n <;> simp [h1, h2] at hok ⊢
    | succ j =>
      obtain ⟨y, hy⟩ := get_lt (xs := xs) (k := j) (by omega)
      have w2 := W_pred (k := j) (n := xs.length) (by omega) (by omega)
      simp only [okAt, hx, hy, w1, w2, idx_at hy, Option.bind_some, Nat.add_sub_cancel] at hok ⊢
      by_cases h1 : 0 ≤ x <;> by_cases h2 : x ≤ n <;> by_cases h3 : y < x <;> simp [h1, h2, h3] at hok ⊢

/-! ### changes of the sign -/
def chg (a : List Timpl_Equation) (k : Nat) : Bool := k != 0 && (match a[k]?, a[k - 1]? with | some x, some y => x.1 != y.1 | _, _ => false)
def cnt (a : List Timpl_Equation) : Nat → Nat
  | 0 => 0
  | k + 1 => cnt a k + (if chg a k = true then 1 else 0)
theorem cnt_le (a : List Timpl_Equation) : ∀ k, cnt a k ≤ k
  | 0 => Nat.le_refl _
  | k + 1 => by have := cnt_le a k; simp only [cnt]; split <;> omega

theorem count_law {a : List Timpl_Equation} (hl : a.length ≤ maxLen - 1) (h0 : 0 < a.length) : Ev (fun m => spec_l22Count_m m a) (1 + cnt a a.length : Nat) := by
  have hm := maxLen_le
  unfold spec_l22Count_m
  refine Exists.elim (EvI.count (step := _) a.length (fun k (_ : Unit) => (((1 + cnt a k : Nat) : Int), (k : Int))) (fun k _ => 0 < k) (fun r => r = .inl ((1 + cnt a a.length : Nat) : Int)) (fun k t hk hI => ?_) (fun t _ => ⟨_, Ev.ite_f (by simp) (Ev.pure _), rfl⟩) (k := 1) (t := ()) h0 Nat.one_pos)
    (fun res ⟨h1, h2⟩ => Ev.bind h1.ev (by subst h2; exact Ev.pure _))
  refine .inl ⟨(), Ev.const' fun m => ?_, by omega⟩
  obtain ⟨j, rfl⟩ : ∃ j, k = j + 1 := ⟨k - 1, by omega⟩
  obtain ⟨x, hx⟩ := get_lt hk
  obtain ⟨y, hy⟩ := get_lt (xs := a) (k := j) (by omega)
  have w1 := W_succ hk (by omega)
  have w2 := W_pred (k := j) (n := a.length) (by omega) (by omega)
  have w3 : W (((1 + cnt a (j + 1) : Nat) : Int) + 1) = ((1 + (cnt a (j + 1) + 1) : Nat) : Int) := by
    have := cnt_le a (j + 1)
    rw [W_of (by omega) (by omega)]; omega
  have hk' : decide (((j + 1 : Nat) : Int) < (a.length : Int)) = true := decide_eq_true (by omega)
  have hc : chg a (j + 1) = (x.1 != y.1) := by simp [chg, hx, hy]
  simp only [hk', if_true, idx_at hx, idx_at hy, Option.bind_some, w1, w2, w3, join]
  show _ = some (Sum.inl (((1 + (cnt a (j + 1) + (if chg a (j + 1) = true then 1 else 0)) : Nat) : Int), ((j + 1 + 1 : Nat) : Int)))
  rw [hc]
  cases x.1 != y.1 <;> simp

theorem blocks_law {a : List Timpl_Equation} (hl : a.length ≤ 1048576) : Ev (fun m => impl_equationBlocks_m m a) ((List.range a.length).map fun k => ((cnt a (k + 1) : Nat) : Int)) := by
  unfold impl_equationBlocks_m
  refine Exists.elim (EvI.count (step := _) a.length (fun k (_ : Unit) => ((List.range k).map (fun k => ((cnt a (k + 1) : Nat) : Int)), ((cnt a k : Nat) : Int), (k : Int))) (fun k _ => True) (fun r => r = .inl ((List.range a.length).map fun k => ((cnt a (k + 1) : Nat) : Int))) (fun k t hk hI => ?_) (fun t _ => ⟨_, Ev.ite_f (by simp) (Ev.pure _), rfl⟩) (k := 0) (t := ()) (Nat.zero_le _) trivial)
    (fun res ⟨h1, h2⟩ => Ev.bind h1.ev (by subst h2; exact Ev.pure _))
  refine .inl ⟨(), Ev.const' fun m => ?_, trivial⟩
  obtain ⟨x, hx⟩ := get_lt hk
  have w1 := W_succ hk (by omega)
  have hk' : decide ((k : Int) < (a.length : Int)) = true := decide_eq_true (by omega)
  have w3 : W ((cnt a k : Int) + 1) = ((cnt a k + 1 : Nat) : Int) := by
    have := cnt_le a k
    rw [W_of (by omega) (by omega)]; omega
  have happ : ∀ z : Int, app ((List.range k).map (fun k => ((cnt a (k + 1) : Nat) : Int))) [z] = some ((List.range k).map (fun k => ((cnt a (k + 1) : Nat) : Int)) ++ [z]) := fun z => app_ok (by simp; omega)
  simp only [hk', if_true, idx_at hx, Option.bind_some, join, happ, w1, w3]
  have hstep : (List.range (k + 1)).map (fun k => ((cnt a (k + 1) : Nat) : Int)) = (List.range k).map (fun k => ((cnt a (k + 1) : Nat) : Int)) ++ [((cnt a (k + 1) : Nat) : Int)] := by rw [List.range_succ, List.map_append]; rfl
  rw [hstep]
  cases k with
  | zero =>
    have hc : chg a 0 = false := rfl
    simp [cnt, hc]
  | succ j =>
    obtain ⟨y, hy⟩ := get_lt (xs := a) (k := j) (by omega)
    have w2 := W_pred (k := j) (n := a.length) (by omega) (by omega)
    have hc : chg a (j + 1) = (x.1 != y.1) := by simp [chg, hx, hy]
    have h0 : decide ((0 : Int) < ((j + 1 : Nat) : Int)) = true := decide_eq_true (by omega)
    simp only [h0, if_true, w2, idx_at hy, Option.bind_some]
    have e : cnt a (j + 1 + 1) = cnt a (j + 1) + (if chg a (j + 1) = true then 1 else 0) := rfl
    rw [e, hc]
    cases x.1 != y.1 <;> simp

theorem fit_law {a : List Timpl_Equation} (hl : a.length ≤ 1048576) (h0 : 0 < a.length) : Ev (fun m => impl_blocksFit_m m a) (decide ((cnt a a.length : Int) < 9)) := by
  unfold impl_blocksFit_m
  refine Ev.bind (blocks_law hl) (Ev.bind (a := ((cnt a a.length : Nat) : Int)) (Ev.const' fun m => ?_) (Ev.pure _))
  unfold impl_last_int64_m
  obtain ⟨j, hj⟩ : ∃ j, a.length = j + 1 := ⟨a.length - 1, by omega⟩
  have w2 := W_pred (k := j) (n := j + 1) (by omega) (by omega)
  have hi : ((List.range (j + 1)).map fun k => ((cnt a (k + 1) : Nat) : Int))[j]? = some ((cnt a (j + 1) : Nat) : Int) := by simp
  simp only [List.length_map, List.length_range, hj, w2, idx_at hi, Option.bind_some]

/-! ### marks -/
theorem marks_ints {a : List Int} {k : Int} (hl : a.length ≤ 1048576) (h0 : 1 ≤ k) (hk : k ≤ 4611686018427387904 - 1048576) :
    ∃ k' ys, Ev (fun n => laws_markInt64S_m n a k) (k', ys) ∧ Ev (fun n => laws_heldInt64S_m n ys k) k' ∧ k ≤ k' ∧ k' ≤ k + (a.length * 1 : Nat) ∧ ys.length = a.length := by
  unfold laws_markInt64S_m laws_heldInt64S_m
  refine mark_held (p := fun _ => True) (fun _ _ => trivial) h0 (by omega)
    (fun xs k i x hxl hx _ h1 h2 => ⟨k, k + 1, Ev.const' fun m => ?_, by omega, by omega, fun ys hyl hy => Ev.const' fun m => ?_⟩) (fun xs k hxl => ?_) (fun ys k hyl => ?_)
  · have hi : i < xs.length := (List.getElem?_eq_some_iff.1 hx).1
    simp [idx_at hx, W_succ (k := i) (n := xs.length) hi (by omega), W_of (n := k + 1) (by omega) (by omega), hi]
  · have hi : i < ys.length := (List.getElem?_eq_some_iff.1 hy).1
    simp [idx_at hy, W_succ (k := i) (n := ys.length) hi (by omega), W_of (n := k + 1) (by omega) (by omega), hi]
  · exact Ev.const' fun m => by simp [hxl]
  · exact Ev.const' fun m => by simp [hyl]

theorem marksH_eqns {a : List Timpl_Equation} {k : Int} (hl : a.length ≤ 1048576) (g : ∀ x ∈ a, x.2.2.length ≤ 1048576) (h0 : 1 ≤ k) (hk : k ≤ 4503599627370496) :
    ∃ k' ys, Ev (fun n => laws_markEquationS_m n a k) (k', ys) ∧ Ev (fun n => laws_heldEquationS_m n ys k) k' ∧ k ≤ k' ∧ k' ≤ k + (a.length * 1048578 : Nat) ∧ ys.length = a.length := by
  unfold laws_markEquationS_m laws_heldEquationS_m
  refine mark_held (p := fun x => x.2.2.length ≤ 1048576) g h0 (by omega) (fun xs k i x hxl hx hp h1 h2 => ?_) (fun xs k hxl => Ev.const' fun m => by simp [hxl]) (fun ys k hyl => Ev.const' fun m => by simp [hyl])
  have hi : i < xs.length := (List.getElem?_eq_some_iff.1 hx).1
  have w2 : W (k + 1) = k + 1 := W_of (by omega) (by omega)
  have w3 : W (k + 1 + 1) = k + 1 + 1 := W_of (by omega) (by omega)
  obtain ⟨k', ys, e1, e2, e3, e4, _⟩ := marks_ints (a := x.2.2) (k := k + 1 + 1) hp (by omega) (by omega)
  refine ⟨(k.tmod 3 == 0, (W (k + 1)).tmod 3 == 0, ys), k', Ev.eq (Ev.ite_t (by simp [hi]) (Ev.bindc (idx_at hx) (Ev.bindc (idx_set hi) (Ev.bindc (idx_set (by simpa using hi)) (Ev.bind (a := (k', ys)) ?_ (Ev.pure _)))))) ?_, by omega, by omega, fun zs hzl hz => ?_⟩
  · rw [w2, w3]; exact e1
  · simp only [Int.toNat_natCast, List.set_set, W_succ (k := i) (n := xs.length) hi (by omega)]
  · have hi : i < zs.length := (List.getElem?_eq_some_iff.1 hz).1
    refine Ev.eq (Ev.ite_t (by simp [hi]) (Ev.bindc (idx_at hz) (Ev.ite_f (by simp) (Ev.bindc (idx_at hz) (Ev.ite_f (by simp) (Ev.bindc (idx_at hz) (Ev.bind (a := k') ?_ (Ev.ite_f (by simp; omega) (Ev.pure _))))))))) ?_
    · rw [w2, w3]; exact e2
    · rw [W_succ (k := i) (n := zs.length) hi (by omega)]

theorem clone_ints {a : List Int} (hl : a.length ≤ 1048576) : Ev (fun m => slices_Clone__int64_int64_m m a) a := Ev.bindc (app_ok (by simp; omega)) (Ev.pure _)

/-! ### places in a list -/
def pos (xs : List Int) (c : Int) : Int := match xs.findIdx? (· == c) with
  | some k => (k : Int)
  | none => -1

theorem pos_of {xs : List Int} {c r : Int} (h : (r = -1 ∧ xs.all (fun x => !(x == c)) = true) ∨ ∃ k x, k < xs.length ∧ r = (k : Int) ∧ xs[k]? = some x ∧ (!(x == c)) = false ∧ ∀ j y, j < k → xs[j]? = some y → (!(y == c)) = true) : r = pos xs c := by
  unfold pos
  rcases h with ⟨rfl, h⟩ | ⟨k, x, hk, rfl, hx, hc, hj⟩
  · have : xs.findIdx? (· == c) = none := by
      rw [List.findIdx?_eq_none_iff]
      intro x hx
      rw [List.all_eq_true] at h
      simpa using h x hx
    rw [this]
  · have : xs.findIdx? (· == c) = some k := by
      rw [List.findIdx?_eq_some_iff_getElem]
      refine ⟨hk, ?_, fun j hjk => ?_⟩
      · have : xs[k] = x := by rw [List.getElem?_eq_getElem hk] at hx; exact Option.some.inj hx
        rw [this]; simpa using hc
      · have := hj j xs[j] hjk (List.getElem?_eq_getElem (by omega))
        simpa using this
    rw [this]

theorem index_ints {xs : List Int} {c : Int} (hl : xs.length ≤ maxLen) : Ev (fun m => slices_Index__int64_int64_m m xs c) (pos xs c) := by
  obtain ⟨r, h1, h2⟩ := index_loop hl (f := fun _ x => some (c == x)) (ok := fun x => !(x == c)) (fun x _ => Ev.const (by rw [Bool.not_not, Bool.beq_comm]))
  rw [pos_of h2] at h1
  exact h1
theorem place_ints {xs : List Int} {c : Int} (hl : xs.length ≤ maxLen) : Ev (fun m => spec_l11Place_m m xs c) (pos xs c) := by
  obtain ⟨r, h1, h2⟩ := index_loop hl (f := fun _ x => some (x == c)) (ok := fun x => !(x == c)) (fun x _ => Ev.const (by simp))
  rw [pos_of h2] at h1
  exact h1
/-! ### games -/
def okVx (n : Int) (x : Timpl_Vertex) : Bool := (decide (0 ≤ x.1) && decide (x.1 ≤ 1)) && ((decide (0 ≤ x.2.1) && decide (x.2.1 ≤ 9)) && rises x.2.2 n)
def validG (a : List Timpl_Vertex) : Bool := decide (1 ≤ a.length ∧ a.length ≤ 120) && a.all (okVx (W ((a.length : Int) - 1)))

theorem validG_impl {a : List Timpl_Vertex} (hl : a.length ≤ 1048576) (g : ∀ x ∈ a, x.2.2.length ≤ 1048576) : Ev (fun m => impl_ValidGame_m m a) (validG a) := by
  have hm : maxLen = 9223372036854775807 := by unfold maxLen; rfl
  unfold impl_ValidGame_m validG
  simp only [within_eq, Option.bind_some]
  have hfind : Ev (fun m => slices_ContainsFunc__impl_Vertex_impl_Vertex_m m a (fun (z0 : Timpl_Vertex) => impl_ValidGame_1_m m z0 a)) (!(a.all (okVx (W ((a.length : Int) - 1))))) := by
    refine contains_loop (by omega) (f := fun m z0 => impl_ValidGame_1_m m z0 a) (fun x hx => ?_)
    have hi := increasing_law (xs := x.2.2) (n := (a.length : Int)) (by have := g x hx; omega)
    unfold impl_ValidGame_1_m okVx
    simp only [within_eq, Option.bind_some]
    cases (decide (0 ≤ x.1) && decide (x.1 ≤ 1)) with
    | false => exact Ev.bind (a := true) (Ev.pure _) (Ev.bind (a := true) (Ev.ite_t rfl (Ev.pure _)) (Ev.pure _))
    | true =>
      cases (decide (0 ≤ x.2.1) && decide (x.2.1 ≤ 9)) with
      | false => exact Ev.bind (a := true) (Ev.pure _) (Ev.bind (a := true) (Ev.ite_t rfl (Ev.pure _)) (Ev.pure _))
      | true => exact Ev.bind (a := false) (Ev.pure _) (Ev.bind (Ev.ite_f (by simp) (Ev.bind hi (Ev.pure _))) (Ev.pure _))
  by_cases h1 : 1 ≤ a.length ∧ a.length ≤ 120
  · refine Ev.eq (Ev.ite_f (by simp; omega) (Ev.bind hfind (Ev.pure _))) ?_
    simp [h1]
  · refine Ev.eq (Ev.ite_t (by simp; omega) (Ev.pure _)) ?_
    simp; omega

theorem validG_spec {a : List Timpl_Vertex} (hl : a.length ≤ 1048576) (g : ∀ x ∈ a, x.2.2.length ≤ 1048576) : Ev (fun m => spec_l23Is_m m a) (validG a) := by
  have hm : maxLen = 9223372036854775807 := by unfold maxLen; rfl
  unfold spec_l23Is_m validG
  by_cases h1 : 1 ≤ a.length ∧ a.length ≤ 120
  · refine Ev.bind (a := false) (Ev.const (by rw [or_some, show ((a.length : Int) == 0) = false from by rw [beq_eq_false_iff_ne]; omega, show decide ((120 : Int) < a.length) = false from decide_eq_false (by omega)]; rfl)) (Ev.ite_f (by simp) ?_)
    have key : ∀ (k : Nat) (x : Timpl_Vertex), a[k]? = some x → ∀ {A B : Option (Int ⊕ (Unit ⊕ Bool))} {r}, (if (!okVx (W ((a.length : Int) - 1)) x) = true then A else B) = some r → Ev (fun m => (idx a (k : Int)).bind fun x183 => (spec_l00In_m m x183.1 (0 : Int) (1 : Int)).bind fun x200 => (if (!x200) = true then some true else (idx a (k : Int)).bind fun x206 => (spec_l00In_m m x206.2.1 (0 : Int) (9 : Int)).bind fun x223 => some (!x223)).bind fun t203 => (if t203 = true then some true else (idx a (k : Int)).bind fun x229 => (spec_l00Rises_m m x229.2.2 (0 : Int) (W ((a.length : Int) - (1 : Int)))).bind fun x246 => some (!x246)).bind fun t226 => (if t226 = true then A else B)) r := by
      intro k x hx A B r hr
      have hi := rises_spec (xs := x.2.2) (n := W ((a.length : Int) - 1)) (by have := g x (List.mem_of_getElem? hx); omega)
      simp only [idx_at hx, Option.bind_some, l00In_eq]
      revert hr
      unfold okVx
      cases (decide (0 ≤ x.1) && decide (x.1 ≤ 1)) with
      | false => exact fun hr => Ev.bind (a := true) (Ev.pure _) (Ev.bind (a := true) (Ev.ite_t rfl (Ev.pure _)) (Ev.const hr))
      | true =>
        cases (decide (0 ≤ x.2.1) && decide (x.2.1 ≤ 9)) with
        | false => exact fun hr => Ev.bind (a := true) (Ev.pure _) (Ev.bind (a := true) (Ev.ite_t rfl (Ev.pure _)) (Ev.const hr))
        | true => exact fun hr => Ev.bind (a := false) (Ev.pure _) (Ev.bind (Ev.ite_f (by simp) (Ev.bind hi (Ev.pure _))) (Ev.const hr))
    refine (Ev.all (step := _) a.length (fun k => match a[k]? with | none => true | some x => okVx (W ((a.length : Int) - 1)) x) false true (fun k hk hok => ?_) (fun k hk hok => ?_) (Ev.ite_f (by simp) (Ev.pure _))).eq ?_
    · obtain ⟨x, hx⟩ := get_lt hk
      simp only [hx] at hok
      exact Ev.ite_t (decide_eq_true (by omega)) (key k x hx (by rw [hok, W_succ hk (by omega)]; rfl))
    · obtain ⟨x, hx⟩ := get_lt hk
      simp only [hx] at hok
      exact Ev.ite_t (decide_eq_true (by omega)) (key k x hx (by rw [hok]; rfl))
    · rw [all_list (ok := okVx (W ((a.length : Int) - 1))) (fun k => by cases a[k]? <;> rfl)]
      rw [decide_eq_true (by omega), Bool.true_and]
      cases a.all (okVx (W ((a.length : Int) - 1))) <;> rfl
  · refine Ev.bind (a := true) (Ev.const (by rw [or_some, show ((a.length : Int) == 0 || decide ((120 : Int) < a.length)) = true from by rw [Bool.or_eq_true, beq_iff_eq, decide_eq_true_eq]; omega])) (Ev.eq (Ev.ite_t rfl (Ev.pure _)) ?_)
    rw [decide_eq_false h1, Bool.false_and]

abbrev GV : Tlaws_Vertex → Prop := gAnd (gInt .i64) (gAnd (gInt .i64) GI)
abbrev GVs : List Tlaws_Vertex → Prop := gList GV

theorem sz_vtx {x : Tlaws_Vertex} (g : GV x) {b : Int} (h0 : 0 ≤ b) (hb : b ≤ 1048576) : ∃ r, Ev (fun n => laws_szVertex_m n x b) r ∧ Sz b r (x.2.2.length ≤ 1048576) := by
  obtain ⟨r, h1, h2⟩ := sz_ints g.2.2 h0 hb
  by_cases h : r < 0
  · exact ⟨-1, Ev.bind h1 (Ev.ite_t (by simpa using h) (Ev.pure _)), .inl (by omega)⟩
  · exact ⟨r, Ev.bind h1 (Ev.ite_f (by simpa using h) (Ev.pure _)), h2⟩
theorem sz_vtxs {a : List Tlaws_Vertex} (g : GVs a) {b : Int} (h0 : 0 ≤ b) (hb : b ≤ 1048576) : ∃ r, Ev (fun n => laws_szVertexS_m n a b) r ∧ Sz b r (a.length ≤ 1048576 ∧ ∀ x ∈ a, x.2.2.length ≤ 1048576) :=
  sz_loop (fun x hx _ h0 hb => sz_vtx (g.2 x hx) h0 hb) g.1 h0 hb

theorem to_vtx {x : Tlaws_Vertex} (hl : x.2.2.length ≤ 1048576) : Ev (fun n => laws_toVertex_m n x) x := Ev.bind (to_ints hl) (Ev.pure _)
theorem to_vtxs {a : List Tlaws_Vertex} (hl : a.length ≤ 1048576) (h : ∀ x ∈ a, x.2.2.length ≤ 1048576) : Ev (fun n => laws_toVertexS_m n a) a := by
  have := to_loop («to» := fun n x => laws_toVertex_m n x) (f := id) (a := a) (z := (0, 0, [])) (fun x hx => to_vtx (h x hx)) hl
  rw [List.map_id] at this
  exact this

theorem eq_vtx {x : Timpl_Vertex} (hl : x.2.2.length ≤ maxLen) : Ev (fun n => laws_eqVertex_m n x x) true :=
  Ev.ite_f (by simp) (Ev.ite_f (by simp) (Ev.bind (eq_ints hl) (Ev.ite_f (by simp) (Ev.pure _))))
theorem eq_vtxs {a : List Timpl_Vertex} (hl : a.length ≤ maxLen) (h : ∀ x ∈ a, x.2.2.length ≤ maxLen) : Ev (fun n => laws_eqVertexS_m n a a) true :=
  eq_loop (eq := fun n x y => laws_eqVertex_m n x y) (fun x hx => eq_vtx (h x hx)) hl
theorem sort_ints {l : List Int} (hl : l.length ≤ 1048576) (m : Nat) : slices_Sort__int64_int64_m m l = some (srt l) := by
  unfold slices_Sort__int64_int64_m
  rw [if_pos (by omega)]

section
variable {α : Type} {n k : Nat} {A B : Int → α}
end
/-! ### a number put to its place -/
def insQ (v : Int) : List Int → List Int
  | [] => [v]
  | x :: r => if v ≤ x then (if v < x then v :: x :: r else x :: r) else x :: insQ v r
theorem mem_insQ {v y : Int} : ∀ {l : List Int}, y ∈ insQ v l ↔ y = v ∨ y ∈ l
  | [] => by simp [insQ]
  | x :: r => by
    unfold insQ
    by_cases h1 : v ≤ x
    · rw [if_pos h1]
      by_cases h2 : v < x
      · rw [if_pos h2]; simp
      · rw [if_neg h2]
        have : v = x := by omega
        subst this
        simp
    · rw [if_neg h1, List.mem_cons, mem_insQ (l := r), List.mem_cons]
      constructor
      · rintro (h | h | h)
        · exact .inr (.inl h)
        · exact .inl h
        · exact .inr (.inr h)
      · rintro (h | h | h)
        · exact .inr (.inl h)
        · exact .inl h
        · exact .inr (.inr h)
theorem inc_insQ {v : Int} : ∀ {l : List Int}, l.Pairwise (· < ·) → (insQ v l).Pairwise (· < ·)
  | [], _ => by simp [insQ]
  | x :: r, h => by
    obtain ⟨hx, hr⟩ := List.pairwise_cons.1 h
    unfold insQ
    by_cases h1 : v ≤ x
    · rw [if_pos h1]
      by_cases h2 : v < x
      · rw [if_pos h2]
        refine List.pairwise_cons.2 ⟨fun y hy => ?_, h⟩
        rcases List.mem_cons.1 hy with rfl | hy
        · exact h2
        · have := hx y hy; omega
      · rw [if_neg h2]; exact h
    · rw [if_neg h1]
      refine List.pairwise_cons.2 ⟨fun y hy => ?_, inc_insQ hr⟩
      rcases mem_insQ.1 hy with rfl | hy
      · omega
      · exact hx y hy
theorem insQ_len {v : Int} : ∀ {l : List Int}, (insQ v l).length ≤ l.length + 1
  | [] => by simp [insQ]
  | x :: r => by
    unfold insQ
    split
    · split <;> simp
    · have := insQ_len (v := v) (l := r)
      simp only [List.length_cons]; omega
/-- What is still to come behind a list in the making. -/
def finQ (v : Int) (xs : List Int) (b : Bool) (r : List Int) : List Int := if b = true then xs ++ r else xs ++ insQ v r
theorem putQ_spec {l : List Int} {v : Int} (hl : l.length ≤ 1048576) : Ev (fun m => spec_l00Put_m m l v) (insQ v l) := by
  have hmx2 : maxLen = 9223372036854775807 := by unfold maxLen; rfl
  unfold spec_l00Put_m
  refine Exists.elim (EvI.count (β := (List Int × Bool) ⊕ List Int) (step := _) l.length (fun k (t : List Int × Bool) => (t.1, t.2, (k : Int))) (fun k t => finQ v t.1 t.2 (l.drop k) = insQ v l ∧ t.1.length + (if t.2 = true then 0 else 1) ≤ k + 1) (fun r => ∃ xs b, r = Sum.inl (xs, b) ∧ finQ v xs b [] = insQ v l ∧ xs.length + (if b = true then 0 else 1) ≤ l.length + 1) ?_ ?_ (k := 0) (t := ([], false)) (Nat.zero_le _) ⟨by simp [finQ], by simp⟩) (fun res ⟨h1, h2⟩ => Ev.bind h1.ev ?_)
  · rintro k ⟨xs, b⟩ hk ⟨hI, hx⟩
    dsimp only at hI hx ⊢
    left
    obtain ⟨x, hxk⟩ := get_lt hk
    have hd : l.drop k = x :: l.drop (k + 1) := by
      rw [List.drop_eq_getElem_cons hk]
      congr 1
      exact Option.some.inj ((List.getElem?_eq_getElem hk).symm.trans hxk)
    rw [hd] at hI
    cases b
    · replace hx : xs.length + 1 ≤ k + 1 := by simpa using hx
      by_cases h1 : v ≤ x
      · by_cases h2 : v < x
        · refine ⟨(xs ++ [v] ++ [x], true), Ev.ite_t (decide_eq_true (by omega)) (Ev.join (Ev.bindc (a := true) (by simp [idx_at hxk, h1]) (Ev.ite_t rfl (Ev.bindc (idx_at hxk) (Ev.ite_t (decide_eq_true h2) (Ev.bindc (app_ok (by simp; omega)) (Ev.bindc (idx_at hxk) (Ev.bindc (app_ok (by simp; omega)) (Ev.const ?_))))))))), ?_, by simp; omega⟩
          · rw [W_succ hk (by omega)]
          · rw [← hI]; simp [finQ, insQ, h1, h2]
        · refine ⟨(xs ++ [x], true), Ev.ite_t (decide_eq_true (by omega)) (Ev.join (Ev.bindc (a := true) (by simp [idx_at hxk, h1]) (Ev.ite_t rfl (Ev.bindc (idx_at hxk) (Ev.ite_f (by simpa using h2) (Ev.bindc (idx_at hxk) (Ev.bindc (app_ok (by simp; omega)) (Ev.const ?_)))))))), ?_, by simp; omega⟩
          · rw [W_succ hk (by omega)]
          · rw [← hI]; simp [finQ, insQ, h1, h2]
      · refine ⟨(xs ++ [x], false), Ev.ite_t (decide_eq_true (by omega)) (Ev.join (Ev.bindc (a := false) (by simp [idx_at hxk, h1]) (Ev.ite_f (by simp) (Ev.bindc (idx_at hxk) (Ev.bindc (app_ok (by simp; omega)) (Ev.const ?_)))))), ?_, by simp; omega⟩
        · rw [W_succ hk (by omega)]
        · rw [← hI]; simp [finQ, insQ, h1]
    · replace hx : xs.length ≤ k + 1 := by simpa using hx
      refine ⟨(xs ++ [x], true), Ev.ite_t (decide_eq_true (by omega)) (Ev.join (Ev.bindc (a := false) (by simp) (Ev.ite_f (by simp) (Ev.bindc (idx_at hxk) (Ev.bindc (app_ok (by simp; omega)) (Ev.const ?_)))))), ?_, by simp; omega⟩
      · rw [W_succ hk (by omega)]
      · rw [← hI]; simp [finQ]
  · rintro ⟨xs, b⟩ ⟨hI, hx⟩
    dsimp only at hI hx ⊢
    rw [List.drop_of_length_le (Nat.le_refl _)] at hI
    exact ⟨_, Ev.ite_f (by simp) (Ev.pure _), xs, b, rfl, hI, hx⟩
  · obtain ⟨xs, b, rfl, h3, h4⟩ := h2
    simp only [ctl]
    refine Ev.join ?_
    have h5 : xs.length ≤ l.length + 1 := by omega
    cases b
    · refine Ev.ite_t rfl (Ev.bindc (app_ok (by simp; omega)) (Ev.const ?_))
      rw [← h3]; simp [finQ, insQ]
    · refine Ev.ite_f (by simp) (Ev.const ?_)
      rw [← h3]; simp [finQ]


theorem compQ_inc {zs : List Int} (h : zs.Pairwise (· ≤ ·)) : (Lib.compact zs).Pairwise (· < ·) ∧ ∀ v, v ∈ Lib.compact zs ↔ v ∈ zs := by
  have hle : ∀ i j : Nat, i < j → j < zs.length → zs.toArray[i]! ≤ zs.toArray[j]! := by
    intro i j hij hj
    rw [getElem!_pos zs.toArray i (by simpa using (by omega : i < zs.length)), getElem!_pos zs.toArray j (by simpa using hj)]
    simpa using List.pairwise_iff_getElem.1 h i j (by omega) hj hij
  have key : ∀ m, m ≤ zs.length → (Lib.compactUpTo zs.toArray m).Pairwise (· < ·) ∧ ∀ v, v ∈ Lib.compactUpTo zs.toArray m ↔ ∃ j, j < m ∧ zs.toArray[j]! = v := by
    intro m
    induction m with
    | zero => intro _; refine ⟨by simp [Lib.compactUpTo], fun v => ?_⟩; simp [Lib.compactUpTo]
    | succ m ih =>
      intro hm
      obtain ⟨h1, h2⟩ := ih (by omega)
      rw [Lib.compactUpTo_succ]
      cases hk : Lib.keeps zs.toArray m
      · refine ⟨by simpa using h1, fun v => ?_⟩
        simp only [Bool.false_eq_true, if_false, List.append_nil]
        rw [h2 v]
        constructor
        · rintro ⟨j, a, b⟩; exact ⟨j, by omega, b⟩
        · rintro ⟨j, a, b⟩
          by_cases hj : j = m
          · subst hj
            have hz : 0 < j ∧ zs.toArray[j]! = zs.toArray[j - 1]! := by
              unfold Lib.keeps at hk
              have := of_decide_eq_false hk
              refine ⟨?_, ?_⟩
              · by_cases h0 : j = 0
                · exact absurd (.inl h0) this
                · omega
              · by_cases h0 : zs.toArray[j]! = zs.toArray[j - 1]!
                · exact h0
                · exact absurd (.inr h0) this
            exact ⟨j - 1, by omega, by rw [← hz.2]; exact b⟩
          · exact ⟨j, by omega, b⟩
      · simp only [if_true]
        refine ⟨List.pairwise_append.2 ⟨h1, by simp, fun a ha b hb => ?_⟩, fun v => ?_⟩
        · obtain ⟨j, hj, rfl⟩ := (h2 a).1 ha
          obtain rfl : b = zs.toArray[m]! := by simpa using hb
          have hz : m = 0 ∨ zs.toArray[m]! ≠ zs.toArray[m - 1]! := by
            unfold Lib.keeps at hk
            exact of_decide_eq_true hk
          rcases hz with hz | hz
          · omega
          · have l1 := hle (m - 1) m (by omega) (by omega)
            by_cases hjm : j = m - 1
            · subst hjm; omega
            · have l2 := hle j (m - 1) (by omega) (by omega)
              omega
        · rw [List.mem_append, h2 v]
          constructor
          · rintro (⟨j, a, b⟩ | hv)
            · exact ⟨j, by omega, b⟩
            · exact ⟨m, by omega, (List.mem_singleton.1 hv).symm⟩
          · rintro ⟨j, a, b⟩
            by_cases hj : j = m
            · subst hj; exact .inr (by simp [b])
            · exact .inl ⟨j, by omega, b⟩
  obtain ⟨h1, h2⟩ := key zs.length (Nat.le_refl _)
  refine ⟨h1, fun v => (h2 v).trans ?_⟩
  constructor
  · rintro ⟨j, hj, rfl⟩
    rw [getElem!_pos zs.toArray j (by simpa using hj)]
    simp
  · intro hv
    obtain ⟨j, hj, rfl⟩ := List.getElem_of_mem hv
    refine ⟨j, hj, ?_⟩
    rw [getElem!_pos zs.toArray j (by simpa using hj)]
    simp
theorem seen_spec (l : List Int) : ∀ k, (((l.take k).foldl (fun s v => insQ v s) ([] : List Int)).Pairwise (· < ·)) ∧ (∀ y, y ∈ (l.take k).foldl (fun s v => insQ v s) ([] : List Int) ↔ y ∈ l.take k) ∧ ((l.take k).foldl (fun s v => insQ v s) ([] : List Int)).length ≤ k
  | 0 => by simp
  | k + 1 => by
    obtain ⟨h1, h2, h3⟩ := seen_spec l k
    by_cases hk : k < l.length
    · obtain ⟨x, hx⟩ := get_lt hk
      rw [List.take_add_one, hx, List.foldl_append]
      show (insQ x _).Pairwise (· < ·) ∧ (∀ y, y ∈ insQ x _ ↔ _) ∧ (insQ x _).length ≤ _
      refine ⟨inc_insQ h1, fun y => ?_, Nat.le_trans insQ_len (by omega)⟩
      rw [mem_insQ, h2 y, List.mem_append]
      simp [or_comm]
    · rw [List.take_of_length_le (by omega)] at h1 h2 h3 ⊢
      exact ⟨h1, h2, by omega⟩
def prQ (a : List Timpl_Vertex) (v : Int) : Int := match a[v.toNat]? with | some x => x.2.1 | none => 0
def keyQ (a : List Timpl_Vertex) (v : Int) : Int := prQ a v * 200 + v
def clQ (a : List Timpl_Vertex) (x y : Int) : Int := if prQ a x < prQ a y then -1 else if prQ a y < prQ a x then 1 else if x < y then -1 else if y < x then 1 else 0
theorem clQ_lt {a : List Timpl_Vertex} {x y : Int} (hx : 0 ≤ x ∧ x < 120) (hy : 0 ≤ y ∧ y < 120) : decide (clQ a x y < 0) = decide (keyQ a x < keyQ a y) := by
  refine decide_eq_decide.2 ?_
  unfold clQ keyQ
  generalize prQ a x = p
  generalize prQ a y = q
  split
  · constructor <;> intro _ <;> omega
  · split
    · constructor <;> intro _ <;> omega
    · split
      · constructor <;> intro _ <;> omega
      · split <;> constructor <;> intro _ <;> omega
theorem ltF_some {α : Type} {f : α → α → Option Int} {x y : α} {z : Int} (h : f x y = some z) : ltF f x y = decide (z < 0) := by
  unfold ltF
  rw [h]
  rfl
theorem cmpQ {m : Nat} {a b : Int} : cmp_Compare_int64_m m a b = some (if a < b then -1 else if b < a then 1 else 0) := by
  unfold cmp_Compare_int64_m cmp_isNaN_int64_m
  simp
  split
  · rfl
  · split <;> rfl
theorem orQ {m : Nat} (hm : 3 ≤ m) (u v : Int) : cmp_Or_int_m m [u, v] = some (if u ≠ 0 then u else v) := by
  obtain ⟨k, rfl⟩ : ∃ k, m = k + 3 := ⟨m - 3, by omega⟩
  have w1 : W 1 = 1 := W_of (by omega) (by omega)
  have w2 : W 2 = 2 := W_of (by omega) (by omega)
  unfold cmp_Or_int_m
  by_cases hu : u = 0 <;> by_cases hv : v = 0 <;> simp [iter, idx, hu, hv, w1, w2, ctl]
theorem closQ {a : List Timpl_Vertex} {m : Nat} (hm : 3 ≤ m) {x y : Int} (hx : 0 ≤ x ∧ x < (a.length : Int)) (hy : 0 ≤ y ∧ y < (a.length : Int)) : impl_EquationsOfGame_1_m m x y a = some (clQ a x y) := by
  obtain ⟨X, hX⟩ := get_lt (xs := a) (k := x.toNat) (by omega)
  obtain ⟨Y, hY⟩ := get_lt (xs := a) (k := y.toNat) (by omega)
  have iX : idx a x = some X := by unfold idx; rw [if_pos hx.1]; exact hX
  have iY : idx a y = some Y := by unfold idx; rw [if_pos hy.1]; exact hY
  unfold impl_EquationsOfGame_1_m clQ prQ
  simp only [iX, iY, hX, hY, Option.bind_some, cmpQ, orQ hm]
  congr 1
  split
  · simp
  · split
    · simp
    · simp

theorem upTo_evQ {n : Nat} (hn : n ≤ 1048576) : Ev (fun m => impl_upTo_m m (n : Int)) ((List.range n).map fun k => ((k : Nat) : Int)) := by
  unfold impl_upTo_m
  have := EvI.places (ρ := List Int) (step := fun (_ : Nat) (s : (List Int) × (Int)) => (match s with | (xs46, x48) => (if (decide (x48 < (n : Int))) = true then (app xs46 [x48]).bind fun x78 => some (.inl (x78, (W (x48 + (1 : Int))))) else some (.inr (.inl (xs46)))) : Option (((List Int) × (Int)) ⊕ (((List Int)) ⊕ ((List Int)))))) n (fun _ => true)
    (fun k xs hk hl => Ev.ite_t (decide_eq_true (by omega)) (Ev.bindc (app_ok (by simp; omega)) (Ev.const (by rw [W_succ hk (by omega)]; simp)))) (fun xs => Ev.ite_f (by simp) (Ev.pure _))
  rw [List.filter_eq_self.2 (fun _ _ => rfl)] at this
  exact Ev.bind this.ev (Ev.pure _)

def upQ (n : Nat) : List Int := (List.range n).map fun k => ((k : Nat) : Int)
theorem mem_upQ {n : Nat} {v : Int} : v ∈ upQ n ↔ 0 ≤ v ∧ v < (n : Int) := by
  unfold upQ
  rw [List.mem_map]
  constructor
  · rintro ⟨k, hk, rfl⟩
    have := List.mem_range.1 hk
    omega
  · rintro ⟨h1, h2⟩
    exact ⟨v.toNat, List.mem_range.2 (by omega), by omega⟩
theorem upQ_nodup (n : Nat) : (upQ n).Nodup := by
  unfold upQ
  rw [List.Nodup, List.pairwise_map]
  exact List.nodup_range.imp fun h => by omega
theorem key_eq {a : List Timpl_Vertex} : ∀ {l l' : List Int}, (l.map (keyQ a)).Pairwise (· < ·) → (l'.map (keyQ a)).Pairwise (· < ·) → (∀ v ∈ l, 0 ≤ v ∧ v < 120) → (∀ v ∈ l', 0 ≤ v ∧ v < 120) → (∀ v, v ∈ l ↔ v ∈ l') → l = l' := by
  intro l l' h1 h2 r1 r2 hm
  have e := inc_ext h1 h2 fun v => by
    rw [List.mem_map, List.mem_map]
    constructor
    · rintro ⟨u, hu, rfl⟩; exact ⟨u, (hm u).1 hu, rfl⟩
    · rintro ⟨u, hu, rfl⟩; exact ⟨u, (hm u).2 hu, rfl⟩
  have back : ∀ l : List Int, (∀ v ∈ l, 0 ≤ v ∧ v < 120) → (l.map (keyQ a)).map (fun v => v % 200) = l := by
    intro l hl
    rw [List.map_map]
    refine (List.map_congr_left fun v hv => ?_).trans (List.map_id l)
    have := hl v hv
    show (keyQ a v) % 200 = v
    unfold keyQ
    omega
  rw [← back l r1, ← back l' r2, e]

/-- The vertices by their priorities. -/
def ordQ (a : List Timpl_Vertex) : Nat → List Int
  | 0 => []
  | k + 1 => ordQ a k ++ below a.length fun v => prQ a (v : Int) == (k : Int)
theorem mem_ordQ {a : List Timpl_Vertex} {v : Int} : ∀ {k : Nat}, v ∈ ordQ a k ↔ (0 ≤ v ∧ v < (a.length : Int)) ∧ 0 ≤ prQ a v ∧ prQ a v < (k : Int)
  | 0 => by
    unfold ordQ
    constructor
    · intro h; cases h
    · intro h; omega
  | k + 1 => by
    unfold ordQ
    rw [List.mem_append, mem_ordQ (k := k), mem_below]
    constructor
    · rintro (h | ⟨j, rfl, h1, h2⟩)
      · omega
      · have := beq_iff_eq.1 h2
        omega
    · rintro ⟨h1, h2⟩
      by_cases h : prQ a v = (k : Int)
      · exact .inr ⟨v.toNat, by omega, by omega, by rw [show ((v.toNat : Nat) : Int) = v by omega, h]; simp⟩
      · left; omega
theorem ordQ_inc {a : List Timpl_Vertex} (hn : a.length ≤ 120) : ∀ k, ((ordQ a k).map (keyQ a)).Pairwise (· < ·)
  | 0 => by simp [ordQ]
  | k + 1 => by
    unfold ordQ
    rw [List.map_append]
    refine List.pairwise_append.2 ⟨ordQ_inc hn k, ?_, ?_⟩
    · rw [List.pairwise_map]
      refine (below_lt _ _).imp_of_mem fun {u v} hu hv huv => ?_
      obtain ⟨i, rfl, _, h1⟩ := mem_below.1 hu
      obtain ⟨j, rfl, _, h2⟩ := mem_below.1 hv
      have e1 := beq_iff_eq.1 h1
      have e2 := beq_iff_eq.1 h2
      unfold keyQ
      omega
    · intro x hx y hy
      obtain ⟨u, hu, rfl⟩ := List.mem_map.1 hx
      obtain ⟨v, hv, rfl⟩ := List.mem_map.1 hy
      have h1 := mem_ordQ.1 hu
      obtain ⟨j, rfl, hj, h2⟩ := mem_below.1 hv
      have e2 := beq_iff_eq.1 h2
      unfold keyQ
      omega
theorem ordQ_len {a : List Timpl_Vertex} (hn : a.length ≤ 120) (k : Nat) : (ordQ a k).length ≤ a.length := by
  refine nodup_below _ _ ?_ fun v hv => (mem_ordQ.1 hv).1
  have := ordQ_inc hn k
  rw [List.pairwise_map] at this
  exact this.imp fun {u v} h e => by subst e; omega

theorem sortQ {a : List Timpl_Vertex} (hn : a.length ≤ 120) (hp : ∀ x ∈ a, 0 ≤ x.2.1 ∧ x.2.1 ≤ 9) {m : Nat} (hm : 3 ≤ m) :
    slices_SortFunc__int64_int64_m m (upQ a.length) (fun z0 z1 => impl_EquationsOfGame_1_m m z0 z1 a) = some (ordQ a 10) := by
  have hr : ∀ v ∈ upQ a.length, 0 ≤ v ∧ v < (a.length : Int) := fun v hv => mem_upQ.1 hv
  have hlt : ∀ x ∈ upQ a.length, ∀ y ∈ upQ a.length, ltF (fun z0 z1 => impl_EquationsOfGame_1_m m z0 z1 a) x y = decide (keyQ a x < keyQ a y) := by
    intro x hx y hy
    have h1 := hr x hx
    have h2 := hr y hy
    rw [ltF_some (show (fun z0 z1 => impl_EquationsOfGame_1_m m z0 z1 a) x y = some (clQ a x y) from closQ hm h1 h2)]
    exact clQ_lt (by omega) (by omega)
  have hok : SortOk (fun z0 z1 => impl_EquationsOfGame_1_m m z0 z1 a) (upQ a.length) := by
    refine ⟨by simp [upQ]; omega, fun x hx y hy => ⟨_, closQ hm (hr x hx) (hr y hy)⟩, fun x hx => ?_, fun x hx y hy z hz h1 h2 => ?_, fun x hx y hy z hz h1 h2 => ?_, fun x hx y hy h1 h2 => ?_⟩
    · rw [hlt x hx x hx]; simp
    · rw [hlt x hx y hy] at h1; rw [hlt y hy z hz] at h2; rw [hlt x hx z hz]
      simp only [decide_eq_true_eq] at *
      omega
    · rw [hlt x hx y hy] at h1; rw [hlt y hy z hz] at h2; rw [hlt x hx z hz]
      simp only [decide_eq_false_iff_not] at *
      omega
    · rw [hlt x hx y hy] at h1; rw [hlt y hy x hx] at h2
      simp only [decide_eq_false_iff_not] at *
      have r1 := hr x hx
      have r2 := hr y hy
      unfold keyQ at *
      omega
  unfold slices_SortFunc__int64_int64_m
  rw [if_pos (sortOk_iff.2 hok)]
  congr 1
  have hperm := sortF_perm (fun z0 z1 => impl_EquationsOfGame_1_m m z0 z1 a) (upQ a.length)
  have hmem : ∀ v, v ∈ sortF (fun z0 z1 => impl_EquationsOfGame_1_m m z0 z1 a) (upQ a.length) ↔ v ∈ upQ a.length := fun v => hperm.mem_iff
  have hnd : (sortF (fun z0 z1 => impl_EquationsOfGame_1_m m z0 z1 a) (upQ a.length)).Nodup := hperm.nodup_iff.2 (upQ_nodup _)
  have hs := sortF_sorted hok
  refine key_eq (a := a) ?_ (ordQ_inc hn 10) (fun v hv => ?_) (fun v hv => ?_) fun v => ?_
  · rw [List.pairwise_map]
    refine (List.Pairwise.and hs hnd).imp_of_mem fun {u v} hu hv ⟨h1, h2⟩ => ?_
    have m1 := (hmem u).1 hu
    have m2 := (hmem v).1 hv
    rw [hlt v m2 u m1] at h1
    simp only [decide_eq_false_iff_not] at h1
    have r1 := hr u m1
    have r2 := hr v m2
    unfold keyQ at *
    omega
  · have := hr v ((hmem v).1 hv)
    omega
  · have := (mem_ordQ.1 hv).1
    omega
  · rw [hmem, mem_upQ, mem_ordQ]
    constructor
    · rintro ⟨h1, h2⟩
      obtain ⟨X, hX⟩ := get_lt (xs := a) (k := v.toNat) (by omega)
      have := hp X (List.mem_of_getElem? hX)
      have e : prQ a v = X.2.1 := by unfold prQ; rw [hX]
      refine ⟨⟨h1, h2⟩, ?_⟩
      omega
    · rintro ⟨h1, _⟩
      exact h1

theorem placesQ {xs ns : List Int} (hx : xs.length ≤ 1048576) (hn : ns.length ≤ 1048576) : Ev (fun m => impl_placesIn_m m xs ns) (Lib.compact (srt (ns.map (pos xs)))) := by
  unfold impl_placesIn_m
  refine Ev.bind (append_map (step := _) ns (pos xs) (fun k x hk => ?_) (fun xs => Ev.ite_f (by simp) (Ev.pure _))).ev ?_
  · have hkl := (List.getElem?_eq_some_iff.1 hk).1
    refine (index_ints (xs := xs) (c := x) (by unfold maxLen; omega)).use fun m hp => ?_
    simp only [decide_eq_true (show (k : Int) < (ns.length : Int) by omega), if_true, idx_at hk, Option.bind_some, hp, app_ok (show ((ns.take k).map (pos xs)).length + [pos xs x].length ≤ 1099511627776 by simp; omega), W_succ hkl (show ns.length ≤ 9223372036854775807 by omega)]
  · unfold impl_sortedSet_m
    refine Ev.bind (Ev.bind (clone_ints (by simpa using hn)) (Ev.bind (Ev.const' fun m => sort_ints (by simpa using hn) m) (Ev.bind (a := Lib.compact (srt (ns.map (pos xs)))) (Ev.const' fun m => ?_) (Ev.pure _)))) (Ev.pure _)
    unfold slices_Compact__int64_int64_m
    rfl
theorem setQ_eq (l : List Int) : Lib.compact (srt l) = l.foldl (fun s v => insQ v s) [] := by
  have hseen := seen_spec l l.length
  rw [List.take_length] at hseen
  obtain ⟨s1, s2, _⟩ := hseen
  obtain ⟨c1, c2⟩ := compQ_inc (srt_le l)
  refine inc_ext c1 s1 fun v => ?_
  rw [c2, mem_srt, s2]
def eqQ (a : List Timpl_Vertex) (v : Int) : Timpl_Equation := match a[v.toNat]? with | some x => ((x.2.1.tmod 2 == 0), (x.1 == 1), (x.2.2.map (pos (ordQ a 10))).foldl (fun s v => insQ v s) []) | none => (false, false, [])
theorem eqQ_at {a : List Timpl_Vertex} {v : Int} {x : Timpl_Vertex} (h : a[v.toNat]? = some x) : eqQ a v = ((x.2.1.tmod 2 == 0), (x.1 == 1), (x.2.2.map (pos (ordQ a 10))).foldl (fun s v => insQ v s) []) := by unfold eqQ; rw [h]

theorem specOrdQ {a : List Timpl_Vertex} (hn : a.length ≤ 120) {τ : Type} {ret : (List Timpl_Equation × List Int × Int) → Option τ} {k : Nat → List Int → Option τ} {r : τ} (hk : Ev (fun m => k m (ordQ a 10)) r) :
    Ev (fun fuel => (iter (fun (s : (List Int) × (Int)) => (match s with | (xs161, x163) => (if (decide (x163 ≤ (9 : Int))) = true then (iter (fun (s : (List Int) × (Int)) => (match s with | (xs702, x704) => (if (decide (x704 < (a.length : Int))) = true then join (κ := List Int → Option (((List Int) × (Int)) ⊕ (((List Int)) ⊕ (((List Timpl_Equation) × (List Int) × Int))))) (fun (xs752 : List Int) => some (.inl (xs752, (W (x704 + (1 : Int)))))) (fun K754 => (idx a x704).bind fun x756 => (if (x756.2.1 == x163) = true then (app xs702 [x704]).bind fun x775 => (K754 x775) else (K754 xs702))) else some (.inr (.inl (xs702)))) : Option (((List Int) × (Int)) ⊕ (((List Int)) ⊕ (((List Timpl_Equation) × (List Int) × Int)))))) fuel (xs161, (0 : Int))).bind fun res742 => ctl (β := (List Int)) (ρ := ((List Timpl_Equation) × (List Int) × Int)) (τ := (((List Int) × (Int)) ⊕ (((List Int)) ⊕ (((List Timpl_Equation) × (List Int) × Int))))) res742 (fun (xs740) => some (.inl (xs740, (W (x163 + (1 : Int)))))) (fun q => some (.inr (.inr q))) else some (.inr (.inl (xs161)))) : Option (((List Int) × (Int)) ⊕ (((List Int)) ⊕ (((List Timpl_Equation) × (List Int) × Int)))))) fuel (([] : List Int), (0 : Int))).bind fun res285 => ctl (β := (List Int)) (ρ := ((List Timpl_Equation) × (List Int) × Int)) (τ := τ) res285 (k fuel) ret) r := by
  refine Ev.bind (a := .inl (ordQ a 10)) (EvI.upto (step := _) 10 (fun k (_ : Unit) => (ordQ a k, (k : Int))) (fun _ _ => True) (k := 0) (t := ()) rfl (Nat.zero_le _) trivial (fun p _ hp _ => ⟨(), ?_, trivial⟩) (fun _ _ => Ev.ite_f (by decide) (Ev.pure _))).ev (by simp only [ctl]; exact hk)
  refine Ev.ite_t (decide_eq_true (by omega)) ?_
  have hol := ordQ_len hn p
  refine Ev.bind (a := .inl (ordQ a (p + 1))) (EvI.upto (step := _) a.length (fun k (_ : Unit) => (ordQ a p ++ below k (fun v => prQ a (v : Int) == (p : Int)), (k : Int))) (fun _ _ => True) (k := 0) (t := ()) (by simp [below]) (Nat.zero_le _) trivial (fun k _ hk _ => ⟨(), ?_, trivial⟩) (fun _ _ => Ev.ite_f (by simp) (Ev.pure _))).ev (Ev.const ?_)
  · obtain ⟨x, hx⟩ := get_lt hk
    have hbl := below_len k (fun v => prQ a (v : Int) == (p : Int))
    have hb : below (k + 1) (fun v => prQ a (v : Int) == (p : Int)) = below k (fun v => prQ a (v : Int) == (p : Int)) ++ (if (x.2.1 == (p : Int)) = true then [(k : Int)] else []) := by
      unfold below
      rw [filter_range_succ, List.map_append]
      congr 1
      have : prQ a (k : Int) = x.2.1 := by unfold prQ; rw [show ((k : Int)).toNat = k by omega, hx]
      rw [this]
      split <;> rfl
    refine Ev.ite_t (decide_eq_true (by omega)) (Ev.join (Ev.bindc (idx_at hx) ?_))
    by_cases hc : (x.2.1 == (p : Int)) = true
    · rw [if_pos hc] at hb
      refine Ev.ite_t hc (Ev.bindc (app_ok (by simp; omega)) (Ev.const ?_))
      rw [hb, W_succ hk (by omega), List.append_assoc]
    · rw [if_neg hc] at hb
      refine Ev.ite_f hc (Ev.const ?_)
      rw [hb, W_succ hk (by omega), List.append_nil]
  · rw [W_succ (show p < 10 by omega) (by omega)]
    rfl

theorem eqg_core {a : List Tlaws_Vertex} (h : a.length ≤ 1048576 ∧ ∀ x ∈ a, x.2.2.length ≤ 1048576) :
    ∃ r, Ev (fun m => spec_EquationsOfGame_m m a) r ∧ Ev (fun m => impl_EquationsOfGame_m m a) r ∧ (r.1.length ≤ 1048576 ∧ ∀ x ∈ r.1, x.2.2.length ≤ 1048576) ∧ r.2.1.length ≤ 1048576 := by
  have hmx2 : maxLen = 9223372036854775807 := by unfold maxLen; rfl
  have v1 := validG_spec h.1 h.2
  have v2 := validG_impl h.1 h.2
  unfold spec_EquationsOfGame_m impl_EquationsOfGame_m
  cases hV : validG a
  · rw [hV] at v1 v2
    exact ⟨([], [], 1), Ev.bind v1 (Ev.ite_t rfl (Ev.pure _)), Ev.bind v2 (Ev.ite_t rfl (Ev.pure _)), ⟨by simp, fun x hx => by cases hx⟩, by simp⟩
  rw [hV] at v1 v2
  have hn : 1 ≤ a.length ∧ a.length ≤ 120 := by
    simp only [validG, Bool.and_eq_true, decide_eq_true_eq] at hV
    exact hV.1
  have hpr : ∀ x ∈ a, 0 ≤ x.2.1 ∧ x.2.1 ≤ 9 := by
    unfold validG at hV
    simp only [Bool.and_eq_true, decide_eq_true_eq, List.all_eq_true] at hV
    intro x hx
    have := hV.2 x hx
    unfold okVx at this
    simp only [Bool.and_eq_true, decide_eq_true_eq] at this
    exact this.2.1
  obtain ⟨O, hO⟩ : ∃ O, O = ordQ a 10 := ⟨_, rfl⟩
  have hOl : O.length ≤ a.length := by rw [hO]; exact ordQ_len hn.2 10
  have hOr : ∀ v ∈ O, 0 ≤ v ∧ v < (a.length : Int) := fun v hv => by rw [hO] at hv; exact (mem_ordQ.1 hv).1
  have hOn : O ≠ [] := by
    obtain ⟨X, hX⟩ := get_lt (xs := a) (k := 0) (by omega)
    have := hpr X (List.mem_of_getElem? hX)
    have hm : (0 : Int) ∈ O := by
      rw [hO]
      refine mem_ordQ.2 ⟨by omega, ?_⟩
      have e : prQ a 0 = X.2.1 := by unfold prQ; rw [show ((0 : Int)).toNat = 0 from rfl, hX]
      omega
    intro e
    rw [e] at hm
    cases hm
  have hOpos : 0 < O.length := List.length_pos_iff.2 hOn
  have hEl : (O.map (eqQ a)).length ≤ 1048576 := by rw [List.length_map]; omega
  have hE0 : 0 < (O.map (eqQ a)).length := by rw [List.length_map]; exact hOpos
  have hcount := count_law (a := O.map (eqQ a)) (by omega) hE0
  have hfit := fit_law hEl hE0
  have hterm : ∀ v ∈ O, (eqQ a v).2.2.length ≤ 1048576 := by
    intro v hv
    have := hOr v hv
    obtain ⟨x, hx⟩ := get_lt (xs := a) (k := v.toNat) (by omega)
    rw [eqQ_at hx]
    have h3 := (seen_spec (x.2.2.map (pos (ordQ a 10))) (x.2.2.map (pos (ordQ a 10))).length).2.2
    rw [List.take_length, List.length_map] at h3
    have := h.2 x (List.mem_of_getElem? hx)
    exact Nat.le_trans h3 this
  -- both loops over the order
  have specL : ∀ (k : Nat) (v : Int) (x : Timpl_Vertex), O[k]? = some v → a[v.toNat]? = some x → ∀ {τ ρ : Type} {A : List Int → Option τ} {ret : (List Timpl_Equation × List Int × Int) → Option τ} {r : τ}, A ((x.2.2.map (pos O)).foldl (fun s v => insQ v s) []) = some r →
      Ev (fun fuel => (iter (fun (s : (List Int) × (Int)) => (match s with | (xs601, x603) => (if (decide (x603 < (x.2.2.length : Int))) = true then (idx x.2.2 x603).bind fun x646 => (spec_l11Place_m fuel O x646).bind fun x653 => (spec_l00Put_m fuel xs601 x653).bind fun x658 => some (.inl (x658, (W (x603 + (1 : Int))))) else some (.inr (.inl (xs601)))) : Option (((List Int) × (Int)) ⊕ (((List Int)) ⊕ (((List Timpl_Equation) × (List Int) × Int)))))) fuel (([] : List Int), (0 : Int))).bind fun res629 => ctl (β := (List Int)) (ρ := ((List Timpl_Equation) × (List Int) × Int)) (τ := τ) res629 A ret) r := by
    intro k v x hk hx τ ρ A ret r hA
    have hxl := h.2 x (List.mem_of_getElem? hx)
    refine Ev.bind (a := .inl ((x.2.2.map (pos O)).foldl (fun s v => insQ v s) [])) (EvI.upto (step := _) x.2.2.length (fun q (_ : Unit) => (((x.2.2.map (pos O)).take q).foldl (fun s v => insQ v s) [], (q : Int))) (fun _ _ => True) (k := 0) (t := ()) rfl (Nat.zero_le _) trivial (fun q _ hq _ => ⟨(), ?_, trivial⟩) (fun _ _ => Ev.ite_f (by simp) (Ev.eq (Ev.pure _) ?_))).ev (Ev.const (by simp only [ctl]; exact hA))
    · obtain ⟨y, hy⟩ := get_lt hq
      have hsl := (seen_spec (x.2.2.map (pos O)) q).2.2
      refine Ev.ite_t (decide_eq_true (by omega)) (Ev.bindc (idx_at hy) (Ev.bind (place_ints (xs := O) (c := y) (by omega)) (Ev.bind (putQ_spec (by omega)) (Ev.const ?_))))
      rw [W_succ hq (by omega), List.take_add_one, List.getElem?_map, hy, List.foldl_append]
      rfl
    · rw [List.take_of_length_le (by rw [List.length_map]; exact Nat.le_refl _)]
  have hres : ∀ b : Bool, b = decide ((cnt (O.map (eqQ a)) (O.map (eqQ a)).length : Int) < 9) → (∃ r : List Timpl_Equation × List Int × Int, r = (if (!b) = true then ([], [], 5) else (O.map (eqQ a), O, 0)) ∧ (r.1.length ≤ 1048576 ∧ ∀ x ∈ r.1, x.2.2.length ≤ 1048576) ∧ r.2.1.length ≤ 1048576) := by
    intro b _
    cases b
    · exact ⟨_, rfl, ⟨by simp, fun x hx => by simp at hx⟩, by simp⟩
    · refine ⟨_, rfl, ⟨by simpa using hEl, fun x hx => ?_⟩, by simp; omega⟩
      simp only [Bool.not_true, Bool.false_eq_true, if_false] at hx
      obtain ⟨v, hv, rfl⟩ := List.mem_map.1 hx
      exact hterm v hv
  obtain ⟨r, hr, hb⟩ := hres _ rfl
  refine ⟨r, Ev.bind v1 (Ev.ite_f (by simp) ?_), Ev.bind v2 (Ev.ite_f (by simp) ?_), hb⟩
  · refine specOrdQ hn.2 ?_
    rw [← hO]
    refine Ev.bind (append_map (step := _) O (eqQ a) (fun k v hk => ?_) (fun xs => Ev.ite_f (by simp) (Ev.pure _))).ev ?_
    · have hkl := (List.getElem?_eq_some_iff.1 hk).1
      have hvr := hOr v (List.mem_of_getElem? hk)
      obtain ⟨x, hx⟩ := get_lt (xs := a) (k := v.toNat) (by omega)
      have ix : idx a v = some x := by unfold idx; rw [if_pos hvr.1]; exact hx
      refine Ev.ite_t (decide_eq_true (by omega)) (Ev.bindc (idx_at hk) (Ev.bindc ix ?_))
      refine specL k v x hk hx (ρ := Unit) ?_
      rw [app_ok (by simp; omega), Option.bind_some, W_succ hkl (by omega), eqQ_at hx, hO]
    · simp only [ctl]
      refine Ev.bind hcount ?_
      rw [hr]
      by_cases hc : (cnt (O.map (eqQ a)) (O.map (eqQ a)).length : Int) < 9
      · refine Ev.ite_f (fun h => by have := of_decide_eq_true h; omega) (Ev.eq (Ev.pure _) ?_)
        rw [decide_eq_true hc]
        rfl
      · refine Ev.ite_t (decide_eq_true (by omega)) (Ev.eq (Ev.pure _) ?_)
        rw [decide_eq_false hc]
        rfl
  · refine Ev.bind (upTo_evQ (n := a.length) (by omega)) (Ev.bind (a := O) ⟨3, fun m hm => by rw [hO]; exact sortQ hn.2 hpr hm⟩ ?_)
    refine Ev.bind (append_map (step := _) O (eqQ a) (fun k v hk => ?_) (fun xs => Ev.ite_f (by simp) (Ev.pure _))).ev ?_
    · have hkl := (List.getElem?_eq_some_iff.1 hk).1
      have hvr := hOr v (List.mem_of_getElem? hk)
      obtain ⟨x, hx⟩ := get_lt (xs := a) (k := v.toNat) (by omega)
      have ix : idx a v = some x := by unfold idx; rw [if_pos hvr.1]; exact hx
      have hxl := h.2 x (List.mem_of_getElem? hx)
      refine Ev.ite_t (decide_eq_true (by omega)) (Ev.bindc (idx_at hk) (Ev.bindc ix (Ev.bindc ix (Ev.bindc ix (Ev.bind (placesQ (xs := O) (ns := x.2.2) (by omega) hxl) (Ev.bindc (app_ok (by simp; omega)) (Ev.const ?_)))))))
      rw [setQ_eq, W_succ hkl (by omega), eqQ_at hx, hO]
    · simp only [ctl]
      refine Ev.bind hfit ?_
      rw [hr]
      refine Ev.ite (fun hc => ?_) (fun hc => ?_)
      · rw [if_pos hc]; exact Ev.pure _
      · rw [if_neg hc]; exact Ev.pure _
theorem eqB_ints {a : List Int} (h : a.length ≤ 1048576) : Ev (fun n => laws_eqInt64S_m n a a) true := eq_ints (by have : maxLen = 9223372036854775807 := (by unfold maxLen; rfl); omega)
theorem toB_vtxs {a : List Tlaws_Vertex} (h : a.length ≤ 1048576 ∧ ∀ x ∈ a, x.2.2.length ≤ 1048576) : Ev (fun n => laws_toVertexS_m n a) a := to_vtxs h.1 h.2
theorem eqB_vtxs {a : List Timpl_Vertex} (h : a.length ≤ 1048576 ∧ ∀ x ∈ a, x.2.2.length ≤ 1048576) : Ev (fun n => laws_eqVertexS_m n a a) true :=
  have hm : maxLen = 9223372036854775807 := by unfold maxLen; rfl
  eq_vtxs (by have := h.1; omega) (fun x hx => by have := h.2 x hx; omega)
theorem eqB_eqns {a : List Timpl_Equation} (h : a.length ≤ 1048576 ∧ ∀ x ∈ a, x.2.2.length ≤ 1048576) : Ev (fun n => laws_eqEquationS_m n a a) true :=
  have hm : maxLen = 9223372036854775807 := by unfold maxLen; rfl
  eq_eqns (by have := h.1; omega) (fun x hx => by have := h.2 x hx; omega)

/-- Marks on ints alone. -/
theorem markA_ints {a : List Int} {k : Int} (hl : a.length ≤ 1048576) (h0 : 1 ≤ k) (hk : k ≤ 4611686018427387904 - 1048576) :
    ∃ k' ys, Ev (fun n => laws_markInt64S_m n a k) (k', ys) ∧ k ≤ k' ∧ k' ≤ k + (a.length * 1 : Nat) ∧ ys.length = a.length := by
  unfold laws_markInt64S_m
  refine mark_alone (p := fun _ => True) (fun _ _ => trivial) h0 (by omega)
    (fun xs k i x hxl hx _ h1 h2 => ⟨k, k + 1, Ev.const' fun m => ?_, by omega, by omega⟩) (fun xs k hxl => ?_)
  · have hi : i < xs.length := (List.getElem?_eq_some_iff.1 hx).1
    simp [idx_at hx, W_succ (k := i) (n := xs.length) hi (by omega), W_of (n := k + 1) (by omega) (by omega), hi]
  · exact Ev.const' fun m => by simp [hxl]
theorem marksB_ints {a : List Int} {k : Int} (h : a.length ≤ 1048576) (h0 : 1 ≤ k) (hk : k ≤ 4503599627370496) :
    ∃ k' ys, Ev (fun n => laws_markInt64S_m n a k) (k', ys) ∧ Ev (fun n => laws_heldInt64S_m n ys k) k' ∧ k ≤ k' ∧ k' ≤ k + 4398046511104 := by
  obtain ⟨k', ys, h1, h2, h3, h4, _⟩ := marks_ints h h0 (by omega)
  exact ⟨k', ys, h1, h2, h3, by omega⟩
theorem marksA_vtxs {a : List Timpl_Vertex} {k : Int} (h : a.length ≤ 1048576 ∧ ∀ x ∈ a, x.2.2.length ≤ 1048576) (h0 : 1 ≤ k) (hk : k ≤ 4503599627370496) :
    ∃ k' ys, Ev (fun n => laws_markVertexS_m n a k) (k', ys) ∧ k ≤ k' ∧ k' ≤ k + 4398046511104 := by
  have : ∃ k' ys, Ev (fun n => laws_markVertexS_m n a k) (k', ys) ∧ k ≤ k' ∧ k' ≤ k + (a.length * 1048578 : Nat) ∧ ys.length = a.length := by
    unfold laws_markVertexS_m
    refine mark_alone (p := fun x => x.2.2.length ≤ 1048576) h.2 h0 (by have := h.1; omega) (fun xs k i x hxl hx hp h1 h2 => ?_) (fun xs k hxl => Ev.const' fun m => by simp [hxl])
    have hi : i < xs.length := (List.getElem?_eq_some_iff.1 hx).1
    have hx1 := h.1
    have w2 : W (k + 1) = k + 1 := W_of (by omega) (by omega)
    have w3 : W (k + 1 + 1) = k + 1 + 1 := W_of (by omega) (by omega)
    obtain ⟨k', ys, e1, e3, e4, _⟩ := markA_ints (a := x.2.2) (k := k + 1 + 1) hp (by omega) (by omega)
    refine ⟨(k, W (k + 1), ys), k', Ev.eq (Ev.ite_t (by simp [hi]) (Ev.bindc (idx_at hx) (Ev.bindc (idx_set hi) (Ev.bindc (idx_set (by simpa using hi)) (Ev.bind (a := (k', ys)) ?_ (Ev.pure _)))))) ?_, by omega, by omega⟩
    · rw [w2, w3]; exact e1
    · simp only [Int.toNat_natCast, List.set_set, W_succ (k := i) (n := xs.length) hi (by omega)]
  obtain ⟨k', ys, h1, h2, h3, _⟩ := this
  have := h.1
  exact ⟨k', ys, h1, h2, by omega⟩
theorem marksB_eqns {a : List Timpl_Equation} {k : Int} (h : a.length ≤ 1048576 ∧ ∀ x ∈ a, x.2.2.length ≤ 1048576) (h0 : 1 ≤ k) (hk : k ≤ 4503599627370496) :
    ∃ k' ys, Ev (fun n => laws_markEquationS_m n a k) (k', ys) ∧ Ev (fun n => laws_heldEquationS_m n ys k) k' ∧ k ≤ k' ∧ k' ≤ k + 4398046511104 := by
  obtain ⟨k', ys, h1, h2, h3, h4, _⟩ := marksH_eqns h.1 h.2 h0 hk
  have := h.1
  exact ⟨k', ys, h1, h2, h3, by omega⟩
set_option maxHeartbeats 4000000 in
theorem law_EquationsOfGame {a : List Tlaws_Vertex} (g_a : (GVs) a) : ∃ n, laws_FnExactEquationsOfGame_m n a = some true := by
  have hm : maxLen = 9223372036854775807 := by unfold maxLen; rfl
  refine Ev.one (f := fun n => laws_FnExactEquationsOfGame_m n a) ?_
  unfold laws_FnExactEquationsOfGame_m
  obtain ⟨r1, h1, s1⟩ := sz_vtxs g_a (b := (1048576 : Int)) (by omega) (by omega)
  refine Ev.bind h1 ?_
  by_cases n1 : r1 < 0
  · exact Ev.ite_t (decide_eq_true n1) (Ev.pure _)
  rcases s1 with s1 | ⟨p1, q1, B_a⟩
  · exact absurd s1 n1
  refine Ev.ite_f (by simpa using n1) ?_
  obtain ⟨r, hs, hi, B_r0, B_r1⟩ := eqg_core B_a
  have to_a_ := toB_vtxs B_a
  have eq_a_ := eqB_vtxs B_a
  have eq_r0 := eqB_eqns (a := r.1) B_r0
  have eq_r1 := eqB_ints (a := r.2.1) B_r1
  obtain ⟨k_a, ys_a, m_a, m1_a, m2_a⟩ := marksA_vtxs (k := (1 : Int)) B_a (by omega) (by omega)
  obtain ⟨k_r0, ys_r0, m_r0, m0_r0, m1_r0, m2_r0⟩ := marksB_eqns (k := (1 : Int)) (a := r.1) B_r0 (by omega) (by omega)
  obtain ⟨k_r1, ys_r1, m_r1, m0_r1, m1_r1, m2_r1⟩ := marksB_ints (k := k_r0) (a := r.2.1) B_r1 (by omega) (by omega)
  repeat (first
    | exact Ev.pure _
    | refine Ev.bind (by with_reducible assumption) ?_
    | refine Ev.ite_f (by first | (simp; done) | (simp; omega)) ?_
    | refine Ev.bind (Ev.ite_f (by first | (simp; done) | (simp; omega)) (Ev.bind (by with_reducible assumption) (Ev.pure _))) ?_
    | refine Ev.bind (a := false) (Ev.ite_f (by first | (simp; done) | (simp; omega)) (Ev.const (by simp))) ?_
    | refine Ev.bind (a := false) (Ev.ite_f (by first | (simp; done) | (simp; omega)) (Ev.bind (by with_reducible assumption) (Ev.const (by simp)))) ?_
    | refine Ev.bindc (by with_reducible rfl) ?_)
end Go.Proofs.Ytcddkipbedfhkaa

