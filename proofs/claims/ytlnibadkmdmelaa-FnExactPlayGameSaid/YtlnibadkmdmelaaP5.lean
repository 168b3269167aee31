/-
  Statement 5 in plain words: the models of the law on dual equation systems.
-/
import Derived.Test.YtlnibadkmdmelaaF3
import Derived.Test.YtlnibadkmdmelaaP2
namespace Go.Proofs.Ytlnibadkmdmelaa
open Go.Gx

theorem marksH_eqns {a : List Timpl_Equation} {k : Int} (hl : a.length ≤ 1048576) (g : ∀ x ∈ a, x.2.2.length ≤ 1048576) (h0 : 1 ≤ k) (hk : k ≤ 1048576) :
    ∃ k' ys, Ev (fun n => laws_markEquationS_m n a k) (k', ys) ∧ Ev (fun n => laws_heldEquationS_m n ys k) k' ∧ k ≤ k' ∧ k' ≤ k + (a.length * 1048578 : Nat) ∧ ys.length = a.length := by
  unfold laws_markEquationS_m laws_heldEquationS_m
  refine mark_held (p := fun x => x.2.2.length ≤ 1048576) g h0 (by omega) (fun xs k i x hxl hx hp h1 h2 => ?_) (fun xs k hxl => Ev.const' fun m => by simp [hxl]) (fun ys k hyl => Ev.const' fun m => by simp [hyl])
  have hi : i < xs.length := (List.getElem?_eq_some_iff.1 hx).1
  have w2 : W (k + 1) = k + 1 := W_of (by omega) (by omega)
  have w3 : W (k + 1 + 1) = k + 1 + 1 := W_of (by omega) (by omega)
  obtain ⟨k', ys, e1, e2, e3, e4, _⟩ := marks_ints (a := x.2.2) (k := k + 1 + 1) hp (by omega) (by omega)
  refine ⟨(k.tmod 3 == 0, (W (k + 1)).tmod 3 == 0, ys), k', Ev.eq (Ev.ite_t (by simp [hi]) (Ev.bindc (idx_at hx) (Ev.bindc (idx_set hi) (Ev.bindc (idx_set (by simpa using hi)) (Ev.bind (a := (k', ys)) ?_ (Ev.pure _)))))) ?_, by omega, by omega, fun zs hzl hz => ?_⟩
  · rw [w2, w3]; exact e1
  · simp only [Int.toNat_natCast, List.set_set, W_succ (k := i) (n := xs.length) hi (by omega)]
  · have hi : i < zs.length := (List.getElem?_eq_some_iff.1 hz).1
    refine Ev.eq (Ev.ite_t (by simp [hi]) (Ev.bindc (idx_at hz) (Ev.ite_f (by simp) (Ev.bindc (idx_at hz) (Ev.ite_f (by simp) (Ev.bindc (idx_at hz) (Ev.bind (a := k') ?_ (Ev.ite_f (by simp; omega) (Ev.pure _))))))))) ?_
    · rw [w2, w3]; exact e2
    · rw [W_succ (k := i) (n := zs.length) hi (by omega)]

theorem own_ints {a : List Int} (hl : a.length ≤ 1048576) : Ev (fun m => spec_l00Own_m m a) a := Ev.bindc (app_ok (by simp; omega)) (Ev.pure _)
theorem clone_ints {a : List Int} (hl : a.length ≤ 1048576) : Ev (fun m => slices_Clone__int64_int64_m m a) a := Ev.bindc (app_ok (by simp; omega)) (Ev.pure _)

def dualE (a : List Timpl_Equation) : List Timpl_Equation × Int := if validE a = true then (a.map fun x => (!x.1, !x.2.1, x.2.2), 0) else ([], 1)

theorem dualE_len (a : List Timpl_Equation) (hl : a.length ≤ 1048576) (g : ∀ x ∈ a, x.2.2.length ≤ 1048576) : (dualE a).1.length ≤ 1048576 ∧ ∀ x ∈ (dualE a).1, x.2.2.length ≤ 1048576 := by
  unfold dualE
  split
  · refine ⟨by simpa using hl, fun x hx => ?_⟩
    obtain ⟨y, hy, rfl⟩ := List.mem_map.1 hx
    exact g y hy
  · exact ⟨Nat.zero_le _, fun x hx => by cases hx⟩

theorem dual_spec {a : List Timpl_Equation} (hl : a.length ≤ 1048576) (g : ∀ x ∈ a, x.2.2.length ≤ 1048576) : Ev (fun m => spec_DualEquations_m m a) (dualE a) := by
  unfold spec_DualEquations_m dualE
  refine Ev.bind (l22Is_law hl g) ?_
  cases hv : validE a with
  | false => exact Ev.ite_t rfl (Ev.pure _)
  | true =>
    refine Ev.ite_f (by simp) (Ev.bind (append_map (step := _) a (fun x => (!x.1, !x.2.1, x.2.2)) (fun k x hx => ?_) (fun xs => Ev.ite_f (by simp) (Ev.pure _))).ev (Ev.pure _))
    have hk := (List.getElem?_eq_some_iff.1 hx).1
    refine Ev.eq (Ev.ite_t (decide_eq_true (by omega)) (Ev.bindc (idx_at hx) (Ev.bindc (idx_at hx) (Ev.bindc (idx_at hx) (Ev.bind (own_ints (g x (List.mem_of_getElem? hx))) (Ev.bindc (app_ok (by simp; omega)) (Ev.pure _))))))) ?_
    rw [W_succ hk (by omega)]

theorem dual_impl {a : List Timpl_Equation} (hl : a.length ≤ 1048576) (g : ∀ x ∈ a, x.2.2.length ≤ 1048576) : Ev (fun m => impl_DualEquations_m m a) (dualE a) := by
  unfold impl_DualEquations_m dualE
  refine Ev.bind (validE_impl hl g) ?_
  cases hv : validE a with
  | false => exact Ev.ite_t rfl (Ev.pure _)
  | true =>
    refine Ev.ite_f (by simp) (Ev.bind (append_map (step := _) a (fun x => (!x.1, !x.2.1, x.2.2)) (fun k x hx => ?_) (fun xs => Ev.ite_f (by simp) (Ev.pure _))).ev (Ev.pure _))
    have hk := (List.getElem?_eq_some_iff.1 hx).1
    refine Ev.eq (Ev.ite_t (decide_eq_true (by omega)) (Ev.bindc (idx_at hx) (Ev.bind (clone_ints (g x (List.mem_of_getElem? hx))) (Ev.bindc (app_ok (by simp; omega)) (Ev.pure _))))) ?_
    rw [W_succ hk (by omega)]

theorem law5 {a : List Tlaws_Equation} (g : GEs a) : ∃ n, laws_FnExactDualEquations_m n a = some true := by
  have hm : maxLen = 9223372036854775807 := by unfold maxLen; rfl
  refine Ev.one (f := fun n => laws_FnExactDualEquations_m n a) ?_
  unfold laws_FnExactDualEquations_m
  obtain ⟨r, h1, h2⟩ := sz_eqns g (b := 1048576) (by omega) (by omega)
  refine Ev.bind h1 ?_
  by_cases h : r < 0
  · exact Ev.ite_t (decide_eq_true h) (Ev.pure _)
  · rcases h2 with h2 | ⟨_, _, hl, hx⟩
    · exact absurd h2 h
    · have hto := to_eqns hl hx
      obtain ⟨hb, hbx⟩ := dualE_len a hl hx
      have heq := eq_eqns (a := (dualE a).1) (by omega) (fun x h => by have := hbx x h; omega)
      have heqs := eq_eqns (a := a) (by omega) (fun x h => by have := hx x h; omega)
      obtain ⟨k1, ys, e1, e2, _, _⟩ := marks_eqns (k := 1) hl hx (by omega) (by omega)
      obtain ⟨k2, zs, f1, f2, f3, f4, _⟩ := marksH_eqns (k := 1) hb hbx (by omega) (by omega)
      have hs := dual_spec hl hx
      have hi := dual_impl hl hx
      refine Ev.ite_f (by simpa using h) ?_
      repeat (first
        | exact Ev.pure _
        | refine Ev.bind (by with_reducible assumption) ?_
        | refine Ev.ite_f (by first | (simp; done) | (simp; omega)) ?_
        | refine Ev.bind (Ev.ite_f (by simp; omega) (Ev.bind (by with_reducible assumption) (Ev.pure _))) ?_
        | refine Ev.bindc rfl ?_)
end Go.Proofs.Ytlnibadkmdmelaa
