/-
  FnExactDualGame: its row holds.
-/
import Derived.Test.YtcaedcalbjkkgaaLDualGame
import Derived.Test.YtcaedcalbjkkgaaS4
import Derived.Test.YtcaedcalbjkkgaaGxP
namespace Go.Proofs.Ytcaedcalbjkkgaa
open Go.Gx Go.RowKit Go.ChangeShapes Go.WideShapes Go.ChangeAt
namespace JFnExactDualGame
theorem own : ownKnob Try.prog.godebug = none := by kernel_rfl
theorem laidOut : laidOutB Try.prog = true := by kernel_rfl
theorem brg2 : Brg Try.prog 2 (rInt .i64) (gInt .i64) := brg_int Try.underlying2 (by kernel_rfl)
theorem brg32 : Brg Try.prog 32 (rList (rInt .i64)) (gList (gInt .i64)) := brg_list Try.underlying32 (by kernel_rfl) (by decide) brg2
theorem brg34 : Brg Try.prog 34 Rlaws_Vertex (gAnd (gInt .i64) (gAnd (gInt .i64) (gList (gInt .i64)))) := brg_struct Try.underlying34 (by kernel_rfl) (brgF_cons _ brg2 rfl (brgF_cons _ brg2 rfl (brgF_one _ brg32 rfl)))
theorem brg22 : Brg Try.prog 22 (rList Rlaws_Vertex) (gList (gAnd (gInt .i64) (gAnd (gInt .i64) (gList (gInt .i64))))) := brg_list Try.underlying22 (by kernel_rfl) (by decide) brg34
set_option maxRecDepth 100000 in
theorem lifted (os : Os) (started : os.Started) (H : Type) (enc : TypeId × Value → H) :
    ReturnsInHanded {} Try.checked os 3 .any (Rows.fnExactDualGameSpec.pre6 enc Try.prog Try.f3 Rows.fnExactDualGameRow.domain false) (Rows.fnExactDualGameSpec.post enc Try.prog Try.f3 false true false false) := by
  refine returnsInHanded_of_change (C := Try.checked) own started (by kernel_rfl) Try.func3
    (ChangeSpec.witness6 (enc := enc) (C := Try.checked) false ⟨#[], #[.slice none 0 0], []⟩ 8 (by kernel_rfl) (by kernel_rfl) (by kernel_rfl) (by kernel_rfl)) ?_
  intro W base args ds gs before hval0 hW hcnd _
  have hval : ∀ (j : Nat) t v, Try.f3.params[j]? = some t → args[j]? = some v → Value.okWide Try.prog W .any base t v := hval0
  have hW' := hW
  obtain ⟨p, q, hA0, hV, rfl, hfz, hnd⟩ := hW
  have hA : DataW.TrodAll enc Try.prog W 0 (fun _ => true) true Try.f3.params.toList args.toList ds p := hA0
  rw [Try.params3] at hA hval
  obtain ⟨v0, d0, rfl, rfl, h0⟩ := trodAll_one hA
  obtain ⟨rfl, rfl⟩ := trodVars_none hV
  obtain ⟨A0, len0, cap0, rfl⟩ := okWide_slice Try.underlying22 (hval 0 22 v0 rfl rfl)
  obtain ⟨fuel0, hf0⟩ := id h0
  obtain ⟨y0, hy0, g0⟩ := brg22.2 _ enc W 0 _ true fuel0 _ _ hf0
  have r0 : Rd (rList Rlaws_Vertex) W _ y0 := brg_val rfl rfl hy0
  clear hA0 hval0
  simp only [List.append_nil] at hW'
  have hlt := whole_lt hW'
  obtain ⟨n, hm⟩ := law_DualGame g0
  refine (laws_FnExactDualGame_ok r0 hm).mono fun e W' ⟨he, HH⟩ => ?_
  subst he
  exact ⟨_, rfl, post_ext hW' rfl rfl rfl Try.underlying4 HH.ext (trodAll_mk1 (Below.trod laidOut (by kernel_rfl) (of_decide_eq_true (by kernel_rfl)) h0 HH.ext.below hlt))⟩
end JFnExactDualGame
theorem holds4 : Rows.FnExactDualGameSaid :=
  OpenClaim.holds_of_wide 3 Try.f3 rfl rfl rfl rfl rfl rfl rfl ⟨rfl, rfl, rfl, rfl, rfl⟩ rfl rfl rfl rfl rfl (by kernel_rfl) Try.func3 (by kernel_rfl)
    (of_decide_eq_true (by kernel_rfl)) (by unfold Func.isWrapper; rw [if_neg (by decide +kernel)]; exact ⟨rfl, rfl⟩)
    (fun os started H enc _ => JFnExactDualGame.lifted os started H enc)
end Go.Proofs.Ytcaedcalbjkkgaa
