/-
  Statement SubGame in plain words: the law.
-/
import Derived.Test.YtecknjdlbmmmiaaF0
import Derived.Test.YtecknjdlbmmmiaaLSubGame
import Derived.Test.YtecknjdlbmmmiaaP17
import Derived.Test.YtecknjdlbmmmiaaPB
namespace Go.Proofs.Ytecknjdlbmmmiaa
open Go.Gx

set_option maxHeartbeats 4000000 in
theorem law_SubGame {a : List Tlaws_Vertex} {vs : List Int} (g_a : (GVs) a) (g_vs : (GI) vs) : ∃ n, laws_FnExactSubGame_m n a vs = some true := by
  have hm : maxLen = 9223372036854775807 := by unfold maxLen; rfl
  refine Ev.one (f := fun n => laws_FnExactSubGame_m n a vs) ?_
  unfold laws_FnExactSubGame_m
  by_cases B_vs : (1048576 : Int) < (vs.length : Int)
  · exact Ev.ite_t (decide_eq_true B_vs) (Ev.pure _)
  refine Ev.ite_f (by simpa using B_vs) ?_
  replace B_vs : vs.length ≤ 1048576 := by omega
  obtain ⟨r1, h1, s1⟩ := sz_vtxs g_a (b := (1048576 : Int)) (by omega) (by omega)
  refine Ev.bind h1 ?_
  by_cases n1 : r1 < 0
  · exact Ev.ite_t (decide_eq_true n1) (Ev.pure _)
  rcases s1 with s1 | ⟨p1, q1, B_a⟩
  · exact absurd s1 n1
  refine Ev.ite_f (by simpa using n1) ?_
  obtain ⟨r, hs, hi, B_r0⟩ := subgame_core B_a B_vs
  have to_a_ := toB_vtxs B_a
  have eq_a_ := eqB_vtxs B_a
  have to_vs_ := toB_ints B_vs
  have eq_vs_ := eqB_ints B_vs
  have eq_r0 := eqB_vtxs (a := r.1) B_r0
  obtain ⟨k_a, ys_a, m_a, m1_a, m2_a⟩ := marksA_vtxs (k := (1 : Int)) B_a (by omega) (by omega)
  obtain ⟨k_vs, ys_vs, m_vs, m1_vs, m2_vs⟩ := marksA_ints (k := k_a) B_vs (by omega) (by omega)
  obtain ⟨k_r0, ys_r0, m_r0, m0_r0, m1_r0, m2_r0⟩ := marksB_vtxs (k := (1 : Int)) (a := r.1) B_r0 (by omega) (by omega)
  repeat (first
    | exact Ev.pure _
    | refine Ev.bind (by with_reducible assumption) ?_
    | refine Ev.ite_f (by first | (simp; done) | (simp; omega)) ?_
    | refine Ev.bind (Ev.ite_f (by simp; omega) (Ev.bind (by with_reducible assumption) (Ev.pure _))) ?_
    | refine Ev.bindc rfl ?_
    | refine Ev.bind (a := false) (Ev.ite_f (by first | (simp; done) | (simp; omega)) (Ev.const (by simp))) ?_
    | refine Ev.bind (a := false) (Ev.ite_f (by first | (simp; done) | (simp; omega)) (Ev.bind (by with_reducible assumption) (Ev.const (by simp)))) ?_)
end Go.Proofs.Ytecknjdlbmmmiaa
