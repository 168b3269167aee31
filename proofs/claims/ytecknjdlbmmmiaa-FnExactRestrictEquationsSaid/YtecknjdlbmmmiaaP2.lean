/-
  Statement 2 in plain words: the models of the law on the blocks of an equation system.
-/
import Derived.Test.YtecknjdlbmmmiaaF0
import Derived.Test.YtecknjdlbmmmiaaF2
import Derived.Test.YtecknjdlbmmmiaaF4
import Derived.Test.YtecknjdlbmmmiaaLGameOf
import Derived.Test.YtecknjdlbmmmiaaP1
namespace Go.Proofs.Ytecknjdlbmmmiaa
open Go.Gx

/-! ### marks -/
theorem marks_ints {a : List Int} {k : Int} (hl : a.length ≤ 1048576) (h0 : 1 ≤ k) (hk : k ≤ 4611686018427387904 - 1048576) :
    ∃ k' ys, Ev (fun n => laws_markInt64S_m n a k) (k', ys) ∧ Ev (fun n => laws_heldInt64S_m n ys k) k' ∧ k ≤ k' ∧ k' ≤ k + (a.length * 1 : Nat) ∧ ys.length = a.length := by
  unfold laws_markInt64S_m laws_heldInt64S_m
  refine mark_held (p := fun _ => True) (fun _ _ => trivial) h0 (by omega)
    (fun xs k i x hxl hx _ h1 h2 => ⟨k, k + 1, Ev.const' fun m => ?_, by omega, by omega, fun ys hyl hy => Ev.const' fun m => ?_⟩) (fun xs k hxl => ?_) (fun ys k hyl => ?_)
  · have hi : i < xs.length := (List.getElem?_eq_some_iff.1 hx).1
    simp [idx_at hx, W_succ (k := i) (n := xs.length) hi (by omega), W_of (n := k + 1) (by omega) (by omega), hi]
  · have hi : i < ys.length := (List.getElem?_eq_some_iff.1 hy).1
    simp [idx_at hy, W_succ (k := i) (n := ys.length) hi (by omega), W_of (n := k + 1) (by omega) (by omega), hi]
  · exact Ev.const' fun m => by simp [hxl]
  · exact Ev.const' fun m => by simp [hyl]

theorem marks_eqns {a : List Timpl_Equation} {k : Int} (hl : a.length ≤ 1048576) (g : ∀ x ∈ a, x.2.2.length ≤ 1048576) (h0 : 1 ≤ k) (hk : k ≤ 4503599627370496) :
    ∃ k' ys, Ev (fun n => laws_markEquationS_m n a k) (k', ys) ∧ k ≤ k' ∧ k' ≤ k + (a.length * 1048578 : Nat) ∧ ys.length = a.length := by
  unfold laws_markEquationS_m
  refine mark_alone (p := fun x => x.2.2.length ≤ 1048576) g h0 (by omega) (fun xs k i x hxl hx hp h1 h2 => ?_) (fun xs k hxl => Ev.const' fun m => by simp [hxl])
  have hi : i < xs.length := (List.getElem?_eq_some_iff.1 hx).1
  have w2 : W (k + 1) = k + 1 := W_of (by omega) (by omega)
  have w3 : W (k + 1 + 1) = k + 1 + 1 := W_of (by omega) (by omega)
  obtain ⟨k', ys, e1, _, e3, e4, _⟩ := marks_ints (a := x.2.2) (k := k + 1 + 1) hp (by omega) (by omega)
  refine ⟨(k.tmod 3 == 0, (W (k + 1)).tmod 3 == 0, ys), k', Ev.eq (Ev.ite_t (by simp [hi]) (Ev.bindc (idx_at hx) (Ev.bindc (idx_set hi) (Ev.bindc (idx_set (by simpa using hi)) (Ev.bind (a := (k', ys)) ?_ (Ev.pure _)))))) ?_, by omega, by omega⟩
  · rw [w2, w3]; exact e1
  · simp only [Int.toNat_natCast, List.set_set, W_succ (k := i) (n := xs.length) hi (by omega)]

/-! ### the blocks -/
theorem blocks_spec {a : List Timpl_Equation} (hl : a.length ≤ 1048576) (h0 : 0 < a.length) : Ev (fun m => spec_l22Blocks_m m a) ((List.range a.length).map fun k => ((cnt a (k + 1) : Nat) : Int)) := by
  unfold spec_l22Blocks_m
  refine Exists.elim (EvI.count (step := _) a.length (fun k (_ : Unit) => ((List.range k).map (fun k => ((cnt a (k + 1) : Nat) : Int)), (k : Int))) (fun k _ => 0 < k) (fun r => r = .inl ((List.range a.length).map fun k => ((cnt a (k + 1) : Nat) : Int))) (fun k t hk hI => ?_) (fun t _ => ⟨_, Ev.ite_f (by simp) (Ev.pure _), rfl⟩) (k := 1) (t := ()) h0 Nat.one_pos)
    (fun res ⟨h1, h2⟩ => Ev.bind h1.ev (by subst h2; exact Ev.pure _))
  refine .inl ⟨(), Ev.const' fun m => ?_, by omega⟩
  obtain ⟨j, rfl⟩ : ∃ j, k = j + 1 := ⟨k - 1, by omega⟩
  obtain ⟨x, hx⟩ := get_lt hk
  obtain ⟨y, hy⟩ := get_lt (xs := a) (k := j) (by omega)
  have w1 := W_succ hk (by omega)
  have w2 := W_pred (k := j) (n := a.length) (by omega) (by omega)
  have hk' : decide (((j + 1 : Nat) : Int) < (a.length : Int)) = true := decide_eq_true (by omega)
  have w3 : W ((cnt a (j + 1) : Int) + 1) = ((cnt a (j + 1) + 1 : Nat) : Int) := by
    have := cnt_le a (j + 1)
    rw [W_of (by omega) (by omega)]; omega
  have happ : ∀ z : Int, app ((List.range (j + 1)).map (fun k => ((cnt a (k + 1) : Nat) : Int))) [z] = some ((List.range (j + 1)).map (fun k => ((cnt a (k + 1) : Nat) : Int)) ++ [z]) := fun z => app_ok (by simp; omega)
  have hi : ((List.range (j + 1)).map fun k => ((cnt a (k + 1) : Nat) : Int))[j]? = some ((cnt a (j + 1) : Nat) : Int) := by simp
  have hc : chg a (j + 1) = (x.1 != y.1) := by simp [chg, hx, hy]
  simp only [hk', if_true, w2, idx_at hi, idx_at hx, idx_at hy, Option.bind_some, join, happ, w1, w3]
  have hstep : (List.range (j + 1 + 1)).map (fun k => ((cnt a (k + 1) : Nat) : Int)) = (List.range (j + 1)).map (fun k => ((cnt a (k + 1) : Nat) : Int)) ++ [((cnt a (j + 1 + 1) : Nat) : Int)] := by rw [List.range_succ (n := j + 1), List.map_append]; rfl
  have e : cnt a (j + 1 + 1) = cnt a (j + 1) + (if chg a (j + 1) = true then 1 else 0) := rfl
  rw [hstep, e, hc]
  cases x.1 != y.1 <;> simp

/-- What both answer. -/
def blocksOf (a : List Timpl_Equation) : List Int × Int := if validE a = true then ((List.range a.length).map fun k => ((cnt a (k + 1) : Nat) : Int), 0) else ([], 1)

theorem blocks_len (a : List Timpl_Equation) (hl : a.length ≤ 1048576) : (blocksOf a).1.length ≤ 1048576 := by
  unfold blocksOf
  split <;> simp; omega

end Go.Proofs.Ytecknjdlbmmmiaa
