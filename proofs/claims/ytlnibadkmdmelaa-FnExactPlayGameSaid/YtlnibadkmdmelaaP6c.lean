/-
  Statement 6: the law on plays.
-/
import Derived.Test.YtlnibadkmdmelaaP6b
import Derived.Test.YtlnibadkmdmelaaPV
namespace Go.Proofs.Ytlnibadkmdmelaa
open Go.Gx

theorem law6 {a : List Tlaws_Vertex} {cs : List Int} {start : Int} (g : GVs a) (_ : GI cs) (_ : gInt .i64 start) : ∃ n, laws_FnExactPlayGame_m n a cs start = some true := by
  have hm : maxLen = 9223372036854775807 := by unfold maxLen; rfl
  refine Ev.one (f := fun n => laws_FnExactPlayGame_m n a cs start) ?_
  unfold laws_FnExactPlayGame_m
  by_cases hv : (1048576 : Int) < (cs.length : Int)
  · exact Ev.ite_t (decide_eq_true hv) (Ev.pure _)
  refine Ev.ite_f (by simpa using hv) ?_
  obtain ⟨r, h1, h2⟩ := sz_vtxs g (b := 1048576) (by omega) (by omega)
  refine Ev.bind h1 ?_
  by_cases h : r < 0
  · exact Ev.ite_t (decide_eq_true h) (Ev.pure _)
  · rcases h2 with h2 | ⟨_, _, hl, hx⟩
    · exact absurd h2 h
    · have hto := to_vtxs hl hx
      have htc := to_ints (a := cs) (by omega)
      obtain ⟨r, hs, hi, hrl⟩ := play_law (start := start) (cs := cs) hl hx (by omega)
      have heq := eq_ints (a := r.1) (by omega)
      have heqs := eq_vtxs (a := a) (by omega) (fun x h => by have := hx x h; omega)
      have heqc := eq_ints (a := cs) (by omega)
      obtain ⟨k1, ys, e1, _, e3, e4, _⟩ := marksH_vtxs (k := 1) hl hx (by omega) (by omega)
      obtain ⟨k3, us, d1, _, d3, d4, _⟩ := marks_ints (a := cs) (k := k1) (by omega) (by omega) (by omega)
      obtain ⟨k2, zs, f1, f2, f3, f4, _⟩ := marks_ints (a := r.1) (k := 1) hrl (by omega) (by omega)
      refine Ev.ite_f (by simpa using h) ?_
      repeat (first
        | exact Ev.pure _
        | refine Ev.bind (by with_reducible assumption) ?_
        | refine Ev.ite_f (by first | (simp; done) | (simp; omega)) ?_
        | refine Ev.bind (Ev.ite_f (by simp; omega) (Ev.bind (by with_reducible assumption) (Ev.pure _))) ?_
        | refine Ev.bindc rfl ?_
        | refine Ev.bind (a := false) (Ev.ite_f (by first | (simp; done) | (simp; omega)) (Ev.const (by simp))) ?_)
end Go.Proofs.Ytlnibadkmdmelaa
