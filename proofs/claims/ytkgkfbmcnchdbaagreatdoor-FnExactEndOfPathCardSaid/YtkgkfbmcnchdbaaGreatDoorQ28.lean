/-
  Statement EndOfPath in plain words: the law.
-/
import Derived.Test.YtkgkfbmcnchdbaaGreatDoorF0
import Derived.Test.YtkgkfbmcnchdbaaGreatDoorLEndOfPath
import Derived.Test.YtkgkfbmcnchdbaaGreatDoorP28
import Derived.Test.YtkgkfbmcnchdbaaGreatDoorPB
namespace Go.Proofs.YtkgkfbmcnchdbaaGreatDoor
open Go.Gx

set_option maxHeartbeats 4000000 in
theorem law_EndOfPath {a : Tlaws_Lts} {p : List Int} (g_a : (GLts) a) (g_p : (GI) p) : ∃ n, laws_FnExactEndOfPath_m n a p = some true := by
  have hm : maxLen = 9223372036854775807 := by unfold maxLen; rfl
  refine Ev.one (f := fun n => laws_FnExactEndOfPath_m n a p) ?_
  unfold laws_FnExactEndOfPath_m
  by_cases B_p : (1048576 : Int) < (p.length : Int)
  · exact Ev.ite_t (decide_eq_true B_p) (Ev.pure _)
  refine Ev.ite_f (by simpa using B_p) ?_
  replace B_p : p.length ≤ 1048576 := by omega
  obtain ⟨r1, h1, s1⟩ := sz_lts g_a (b := (1048576 : Int)) (by omega) (by omega)
  refine Ev.bind h1 ?_
  by_cases n1 : r1 < 0
  · exact Ev.ite_t (decide_eq_true n1) (Ev.pure _)
  rcases s1 with s1 | ⟨p1, q1, B_a⟩
  · exact absurd s1 n1
  refine Ev.ite_f (by simpa using n1) ?_
  obtain ⟨r, hs, hi⟩ := path_core B_a B_p
  have to_a_ := toB_lts B_a
  have eq_a_ := eqB_lts B_a
  have to_p_ := toB_ints B_p
  have eq_p_ := eqB_ints B_p
  repeat (first
    | exact Ev.pure _
    | refine Ev.bind (by with_reducible assumption) ?_
    | refine Ev.ite_f (by first | (simp; done) | (simp; omega)) ?_
    | refine Ev.bind (Ev.ite_f (by first | (simp; done) | (simp; omega)) (Ev.bind (by with_reducible assumption) (Ev.pure _))) ?_
    | refine Ev.bind (a := false) (Ev.ite_f (by first | (simp; done) | (simp; omega)) (Ev.const (by simp))) ?_
    | refine Ev.bind (a := false) (Ev.ite_f (by first | (simp; done) | (simp; omega)) (Ev.bind (by with_reducible assumption) (Ev.const (by simp)))) ?_
    | refine Ev.bindc (by with_reducible rfl) ?_)
end Go.Proofs.YtkgkfbmcnchdbaaGreatDoor
