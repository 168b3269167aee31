/-
  FnExactMeasuresOf: its row holds.
-/
import Derived.Test.YtcddkipbedfhkaaLMeasuresOf
import Derived.Test.YtcddkipbedfhkaaS12
import Derived.Test.YtcddkipbedfhkaaGxP
namespace Go.Proofs.Ytcddkipbedfhkaa
open Go.Gx Go.RowKit Go.ChangeShapes Go.WideShapes Go.ChangeAt
namespace JFnExactMeasuresOf
theorem own : ownKnob Try.prog.godebug = none := by kernel_rfl
theorem laidOut : laidOutB Try.prog = true := by kernel_rfl
theorem brg2 : Brg Try.prog 2 (rInt .i64) (gInt .i64) := brg_int Try.underlying2 (by kernel_rfl)
theorem brg38 : Brg Try.prog 38 (rList (rInt .i64)) (gList (gInt .i64)) := brg_list Try.underlying38 (by kernel_rfl) (by decide) brg2
theorem brg48 : Brg Try.prog 48 Rlaws_Vertex (gAnd (gInt .i64) (gAnd (gInt .i64) (gList (gInt .i64)))) := brg_struct Try.underlying48 (by kernel_rfl) (brgF_cons _ brg2 rfl (brgF_cons _ brg2 rfl (brgF_one _ brg38 rfl)))
theorem brg22 : Brg Try.prog 22 (rList Rlaws_Vertex) (gList (gAnd (gInt .i64) (gAnd (gInt .i64) (gList (gInt .i64))))) := brg_list Try.underlying22 (by kernel_rfl) (by decide) brg48
set_option maxRecDepth 100000 in
theorem lifted (os : Os) (started : os.Started) (H : Type) (enc : TypeId × Value → H) :
    ReturnsInHanded {} Try.checked os 4 .any (Rows.fnExactMeasuresOfSpec.pre6 enc Try.prog Try.f4 Rows.fnExactMeasuresOfRow.domain false) (Rows.fnExactMeasuresOfSpec.post enc Try.prog Try.f4 false true false false) := by
  refine returnsInHanded_of_change (C := Try.checked) own started (by kernel_rfl) Try.func4
    (ChangeSpec.witness6 (enc := enc) (C := Try.checked) false ⟨#[], #[.slice none 0 0, .int .i64 0], []⟩ 8 (by kernel_rfl) (by kernel_rfl) (by kernel_rfl) (by kernel_rfl)) ?_
  intro W base args ds gs before hval0 hW hcnd _
  have hval : ∀ (j : Nat) t v, Try.f4.params[j]? = some t → args[j]? = some v → Value.okWide Try.prog W .any base t v := hval0
  have hW' := hW
  obtain ⟨p, q, hA0, hV, rfl, hfz, hnd⟩ := hW
  have hA : DataW.TrodAll enc Try.prog W 0 (fun _ => true) true Try.f4.params.toList args.toList ds p := hA0
  rw [Try.params4] at hA hval
  obtain ⟨v0, v1, d0, d1, p0, p1, rfl, rfl, rfl, h0, h1⟩ := trodAll_two hA
  obtain ⟨rfl, rfl⟩ := trodVars_none hV
  obtain ⟨A0, len0, cap0, rfl⟩ := okWide_slice Try.underlying22 (hval 0 22 v0 rfl rfl)
  obtain ⟨fuel0, hf0⟩ := id h0
  obtain ⟨y0, hy0, g0⟩ := brg22.2 _ enc W 0 _ true fuel0 _ _ hf0
  have r0 : Rd (rList Rlaws_Vertex) W _ y0 := brg_val rfl rfl hy0
  obtain ⟨n1, rfl⟩ := okWide_int Try.underlying2 (hval 1 2 v1 rfl rfl)
  obtain ⟨fuel1, hf1⟩ := id h1
  obtain ⟨y1, hy1, g1⟩ := brg2.2 _ enc W 0 _ true fuel1 _ _ hf1
  obtain rfl : n1 = y1 := by injection (show [Value.int .i64 n1] = [Value.int .i64 y1] from hy1) with e1 _; injection e1
  clear hA0 hval0
  simp only [List.append_nil] at hW'
  have hlt := whole_lt hW'
  obtain ⟨n, hm⟩ := law_MeasuresOf g0 g1
  refine (laws_FnExactMeasuresOf_ok r0 hm).mono fun e W' ⟨he, HH⟩ => ?_
  subst he
  exact ⟨_, rfl, post_ext hW' rfl rfl rfl Try.underlying4 HH.ext (trodAll_mk2 (Below.trod laidOut (by kernel_rfl) (of_decide_eq_true (by kernel_rfl)) h0 HH.ext.below (fun x hx => hlt x (by simp [hx]))) (Below.trod laidOut (by kernel_rfl) (of_decide_eq_true (by kernel_rfl)) h1 HH.ext.below (fun x hx => hlt x (by simp [hx]))))⟩
end JFnExactMeasuresOf
theorem holds12 : Rows.FnExactMeasuresOfSaid :=
  OpenClaim.holds_of_wide 4 Try.f4 rfl rfl rfl rfl rfl rfl rfl ⟨rfl, rfl, rfl, rfl, rfl⟩ rfl rfl rfl rfl rfl (by kernel_rfl) Try.func4 (by kernel_rfl)
    (of_decide_eq_true (by kernel_rfl)) (by unfold Func.isWrapper; rw [if_neg (by decide +kernel)]; exact ⟨rfl, rfl⟩)
    (fun os started H enc _ => JFnExactMeasuresOf.lifted os started H enc)
end Go.Proofs.Ytcddkipbedfhkaa
