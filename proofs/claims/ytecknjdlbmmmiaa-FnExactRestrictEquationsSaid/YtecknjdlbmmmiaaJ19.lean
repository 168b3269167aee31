/-
  FnExactRestrictEquations: its row holds.
-/
import Derived.Test.YtecknjdlbmmmiaaLRestrictEquations
import Derived.Test.YtecknjdlbmmmiaaQ19
import Derived.Test.YtecknjdlbmmmiaaGxP
namespace Go.Proofs.Ytecknjdlbmmmiaa
open Go.Gx Go.RowKit Go.ChangeShapes Go.WideShapes Go.ChangeAt
namespace JFnExactRestrictEquations
theorem own : ownKnob Try.prog.godebug = none := by kernel_rfl
theorem laidOut : laidOutB Try.prog = true := by kernel_rfl
theorem brg4 : Brg Try.prog 4 rBool gAny := brg_bool Try.underlying4 (by kernel_rfl)
theorem brg2 : Brg Try.prog 2 (rInt .i64) (gInt .i64) := brg_int Try.underlying2 (by kernel_rfl)
theorem brg23 : Brg Try.prog 23 (rList (rInt .i64)) (gList (gInt .i64)) := brg_list Try.underlying23 (by kernel_rfl) (by decide) brg2
theorem brg82 : Brg Try.prog 82 Rlaws_Equation (gAnd gAny (gAnd gAny (gList (gInt .i64)))) := brg_struct Try.underlying82 (by kernel_rfl) (brgF_cons _ brg4 rfl (brgF_cons _ brg4 rfl (brgF_one _ brg23 rfl)))
theorem brg32 : Brg Try.prog 32 (rList Rlaws_Equation) (gList (gAnd gAny (gAnd gAny (gList (gInt .i64))))) := brg_list Try.underlying32 (by kernel_rfl) (by decide) brg82
set_option maxRecDepth 100000 in
theorem lifted (os : Os) (started : os.Started) (H : Type) (enc : TypeId × Value → H) :
    ReturnsInHanded {} Try.checked os 11 .any (Rows.fnExactRestrictEquationsSpec.pre6 enc Try.prog Try.f11 Rows.fnExactRestrictEquationsRow.domain false) (Rows.fnExactRestrictEquationsSpec.post enc Try.prog Try.f11 false true false false) := by
  refine returnsInHanded_of_change (C := Try.checked) own started (by kernel_rfl) Try.func11
    (ChangeSpec.witness6 (enc := enc) (C := Try.checked) false ⟨#[], #[.slice none 0 0, .int .i64 0], []⟩ 8 (by kernel_rfl) (by kernel_rfl) (by kernel_rfl) (by kernel_rfl)) ?_
  intro W base args ds gs before hval0 hW hcnd _
  have hval : ∀ (j : Nat) t v, Try.f11.params[j]? = some t → args[j]? = some v → Value.okWide Try.prog W .any base t v := hval0
  have hW' := hW
  obtain ⟨p, q, hA0, hV, rfl, hfz, hnd⟩ := hW
  have hA : DataW.TrodAll enc Try.prog W 0 (fun _ => true) true Try.f11.params.toList args.toList ds p := hA0
  rw [Try.params11] at hA hval
  obtain ⟨v0, v1, d0, d1, p0, p1, rfl, rfl, rfl, h0, h1⟩ := trodAll_two hA
  obtain ⟨rfl, rfl⟩ := trodVars_none hV
  obtain ⟨A0, len0, cap0, rfl⟩ := okWide_slice Try.underlying32 (hval 0 32 v0 rfl rfl)
  obtain ⟨fuel0, hf0⟩ := id h0
  obtain ⟨y0, hy0, g0⟩ := brg32.2 _ enc W 0 _ true fuel0 _ _ hf0
  have r0 : Rd (rList Rlaws_Equation) W _ y0 := brg_val rfl rfl hy0
  obtain ⟨n1, rfl⟩ := okWide_int Try.underlying2 (hval 1 2 v1 rfl rfl)
  obtain ⟨fuel1, hf1⟩ := id h1
  obtain ⟨y1, hy1, g1⟩ := brg2.2 _ enc W 0 _ true fuel1 _ _ hf1
  obtain rfl : n1 = y1 := by injection (show [Value.int .i64 n1] = [Value.int .i64 y1] from hy1) with e1 _; injection e1
  clear hA0 hval0
  simp only [List.append_nil] at hW'
  have hlt := whole_lt hW'
  obtain ⟨n, hm⟩ := law_RestrictEquations g0 g1
  refine (laws_FnExactRestrictEquations_ok r0 hm).mono fun e W' ⟨he, HH⟩ => ?_
  subst he
  exact ⟨_, rfl, post_ext hW' rfl rfl rfl Try.underlying4 HH.ext (trodAll_mk2 (Below.trod laidOut (by kernel_rfl) (of_decide_eq_true (by kernel_rfl)) h0 HH.ext (fun x hx => hlt x (by simp [hx]))) (Below.trod laidOut (by kernel_rfl) (of_decide_eq_true (by kernel_rfl)) h1 HH.ext (fun x hx => hlt x (by simp [hx]))))⟩
end JFnExactRestrictEquations
theorem holds19 : Rows.FnExactRestrictEquationsSaid :=
  OpenClaim.holds_of_wide 11 Try.f11 rfl rfl rfl rfl rfl rfl rfl ⟨rfl, rfl, rfl, rfl, rfl⟩ rfl rfl rfl rfl rfl (by kernel_rfl) Try.func11 (by kernel_rfl)
    (of_decide_eq_true (by kernel_rfl)) (by unfold Func.isWrapper; rw [if_neg (by decide +kernel)]; exact ⟨rfl, rfl⟩)
    (fun os started H enc _ => JFnExactRestrictEquations.lifted os started H enc)
end Go.Proofs.Ytecknjdlbmmmiaa
