/-
  Statement 5 in plain words: the models of the law on dual equation systems.
-/
import Derived.Test.YtecknjdlbmmmiaaF0
import Derived.Test.YtecknjdlbmmmiaaF10
import Derived.Test.YtecknjdlbmmmiaaF4
import Derived.Test.YtecknjdlbmmmiaaF5
import Derived.Test.YtecknjdlbmmmiaaP2
namespace Go.Proofs.Ytecknjdlbmmmiaa
open Go.Gx

theorem marksH_eqns {a : List Timpl_Equation} {k : Int} (hl : a.length ≤ 1048576) (g : ∀ x ∈ a, x.2.2.length ≤ 1048576) (h0 : 1 ≤ k) (hk : k ≤ 4503599627370496) :
    ∃ k' ys, Ev (fun n => laws_markEquationS_m n a k) (k', ys) ∧ Ev (fun n => laws_heldEquationS_m n ys k) k' ∧ k ≤ k' ∧ k' ≤ k + (a.length * 1048578 : Nat) ∧ ys.length = a.length := by
  unfold laws_markEquationS_m laws_heldEquationS_m
  refine mark_held (p := fun x => x.2.2.length ≤ 1048576) g h0 (by omega) (fun xs k i x hxl hx hp h1 h2 => ?_) (fun xs k hxl => Ev.const' fun m => by simp [hxl]) (fun ys k hyl => Ev.const' fun m => by simp [hyl])
  have hi : i < xs.length := (List.getElem?_eq_some_iff.1 hx).1
  have w2 : W (k + 1) = k + 1 := W_of (by omega) (by omega)
  have w3 : W (k + 1 + 1) = k + 1 + 1 := W_of (by omega) (by omega)
  obtain ⟨k', ys, e1, e2, e3, e4, _⟩ := marks_ints (a := x.2.2) (k := k + 1 + 1) hp (by omega) (by omega)
  refine ⟨(k.tmod 3 == 0, (W (k + 1)).tmod 3 == 0, ys), k', Ev.eq (Ev.ite_t (by simp [hi]) (Ev.bindc (idx_at hx) (Ev.bindc (idx_set hi) (Ev.bindc (idx_set (by simpa using hi)) (Ev.bind (a := (k', ys)) ?_ (Ev.pure _)))))) ?_, by omega, by omega, fun zs hzl hz => ?_⟩
  · rw [w2, w3]; exact e1
  · simp only [Int.toNat_natCast, List.set_set, W_succ (k := i) (n := xs.length) hi (by omega)]
  · have hi : i < zs.length := (List.getElem?_eq_some_iff.1 hz).1
    refine Ev.eq (Ev.ite_t (by simp [hi]) (Ev.bindc (idx_at hz) (Ev.ite_f (by simp) (Ev.bindc (idx_at hz) (Ev.ite_f (by simp) (Ev.bindc (idx_at hz) (Ev.bind (a := k') ?_ (Ev.ite_f (by simp; omega) (Ev.pure _))))))))) ?_
    · rw [w2, w3]; exact e2
    · rw [W_succ (k := i) (n := zs.length) hi (by omega)]

theorem own_ints {a : List Int} (hl : a.length ≤ 1048576) : Ev (fun m => spec_l00Own_m m a) a := Ev.bindc (app_ok (by simp; omega)) (Ev.pure _)
theorem clone_ints {a : List Int} (hl : a.length ≤ 1048576) : Ev (fun m => slices_Clone__int64_int64_m m a) a := Ev.bindc (app_ok (by simp; omega)) (Ev.pure _)

def dualE (a : List Timpl_Equation) : List Timpl_Equation × Int := if validE a = true then (a.map fun x => (!x.1, !x.2.1, x.2.2), 0) else ([], 1)

theorem dualE_len (a : List Timpl_Equation) (hl : a.length ≤ 1048576) (g : ∀ x ∈ a, x.2.2.length ≤ 1048576) : (dualE a).1.length ≤ 1048576 ∧ ∀ x ∈ (dualE a).1, x.2.2.length ≤ 1048576 := by
  unfold dualE
  split
  · refine ⟨by simpa using hl, fun x hx => ?_⟩
    obtain ⟨y, hy, rfl⟩ := List.mem_map.1 hx
    exact g y hy
  · exact ⟨Nat.zero_le _, fun x hx => by cases hx⟩

end Go.Proofs.Ytecknjdlbmmmiaa
