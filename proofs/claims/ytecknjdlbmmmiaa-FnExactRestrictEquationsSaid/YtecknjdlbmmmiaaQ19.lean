/-
  Statement RestrictEquations in plain words: the law.
-/
import Derived.Test.YtecknjdlbmmmiaaF0
import Derived.Test.YtecknjdlbmmmiaaLRestrictEquations
import Derived.Test.YtecknjdlbmmmiaaP19
import Derived.Test.YtecknjdlbmmmiaaPB
namespace Go.Proofs.Ytecknjdlbmmmiaa
open Go.Gx

set_option maxHeartbeats 4000000 in
theorem law_RestrictEquations {a : List Tlaws_Equation} {k : Int} (g_a : (GEs) a) (g_k : (gInt .i64) k) : ∃ n, laws_FnExactRestrictEquations_m n a k = some true := by
  have hm : maxLen = 9223372036854775807 := by unfold maxLen; rfl
  refine Ev.one (f := fun n => laws_FnExactRestrictEquations_m n a k) ?_
  unfold laws_FnExactRestrictEquations_m
  obtain ⟨r1, h1, s1⟩ := sz_eqns g_a (b := (1048576 : Int)) (by omega) (by omega)
  refine Ev.bind h1 ?_
  by_cases n1 : r1 < 0
  · exact Ev.ite_t (decide_eq_true n1) (Ev.pure _)
  rcases s1 with s1 | ⟨p1, q1, B_a⟩
  · exact absurd s1 n1
  refine Ev.ite_f (by simpa using n1) ?_
  obtain ⟨r, hs, hi, B_r0, B_r1⟩ := restrict_core B_a (k := k)
  have to_a_ := toB_eqns B_a
  have eq_a_ := eqB_eqns B_a
  have eq_r0 := eqB_eqns (a := r.1) B_r0
  have eq_r1 := eqB_ints (a := r.2.1) B_r1
  obtain ⟨k_a, ys_a, m_a, m1_a, m2_a⟩ := marksA_eqns (k := (1 : Int)) B_a (by omega) (by omega)
  obtain ⟨k_r0, ys_r0, m_r0, m0_r0, m1_r0, m2_r0⟩ := marksB_eqns (k := (1 : Int)) (a := r.1) B_r0 (by omega) (by omega)
  obtain ⟨k_r1, ys_r1, m_r1, m0_r1, m1_r1, m2_r1⟩ := marksB_ints (k := k_r0) (a := r.2.1) B_r1 (by omega) (by omega)
  repeat (first
    | exact Ev.pure _
    | refine Ev.bind (by with_reducible assumption) ?_
    | refine Ev.ite_f (by first | (simp; done) | (simp; omega)) ?_
    | refine Ev.bind (Ev.ite_f (by first | (simp; done) | (simp; omega)) (Ev.bind (by with_reducible assumption) (Ev.pure _))) ?_
    | refine Ev.bind (a := false) (Ev.ite_f (by first | (simp; done) | (simp; omega)) (Ev.const (by simp))) ?_
    | refine Ev.bind (a := false) (Ev.ite_f (by first | (simp; done) | (simp; omega)) (Ev.bind (by with_reducible assumption) (Ev.const (by simp)))) ?_
    | refine Ev.bindc (by with_reducible rfl) ?_)
end Go.Proofs.Ytecknjdlbmmmiaa
