/-
  FnExactCompressPriorities: its row holds.
-/
import Derived.Test.YtecknjdlbmmmiaaLCompressPriorities
import Derived.Test.YtecknjdlbmmmiaaS18
import Derived.Test.YtecknjdlbmmmiaaGxP
namespace Go.Proofs.Ytecknjdlbmmmiaa
open Go.Gx Go.RowKit Go.ChangeShapes Go.WideShapes Go.ChangeAt
namespace JFnExactCompressPriorities
theorem own : ownKnob Try.prog.godebug = none := by kernel_rfl
theorem laidOut : laidOutB Try.prog = true := by kernel_rfl
theorem brg2 : Brg Try.prog 2 (rInt .i64) (gInt .i64) := brg_int Try.underlying2 (by kernel_rfl)
theorem brg23 : Brg Try.prog 23 (rList (rInt .i64)) (gList (gInt .i64)) := brg_list Try.underlying23 (by kernel_rfl) (by decide) brg2
theorem brg65 : Brg Try.prog 65 Rlaws_Vertex (gAnd (gInt .i64) (gAnd (gInt .i64) (gList (gInt .i64)))) := brg_struct Try.underlying65 (by kernel_rfl) (brgF_cons _ brg2 rfl (brgF_cons _ brg2 rfl (brgF_one _ brg23 rfl)))
theorem brg22 : Brg Try.prog 22 (rList Rlaws_Vertex) (gList (gAnd (gInt .i64) (gAnd (gInt .i64) (gList (gInt .i64))))) := brg_list Try.underlying22 (by kernel_rfl) (by decide) brg65
set_option maxRecDepth 100000 in
theorem lifted (os : Os) (started : os.Started) (H : Type) (enc : TypeId × Value → H) :
    ReturnsInHanded {} Try.checked os 10 .any (Rows.fnExactCompressPrioritiesSpec.pre6 enc Try.prog Try.f10 Rows.fnExactCompressPrioritiesRow.domain false) (Rows.fnExactCompressPrioritiesSpec.post enc Try.prog Try.f10 false true false false) := by
  refine returnsInHanded_of_change (C := Try.checked) own started (by kernel_rfl) Try.func10
    (ChangeSpec.witness6 (enc := enc) (C := Try.checked) false ⟨#[], #[.slice none 0 0], []⟩ 8 (by kernel_rfl) (by kernel_rfl) (by kernel_rfl) (by kernel_rfl)) ?_
  intro W base args ds gs before hval0 hW hcnd _
  have hval : ∀ (j : Nat) t v, Try.f10.params[j]? = some t → args[j]? = some v → Value.okWide Try.prog W .any base t v := hval0
  have hW' := hW
  obtain ⟨p, q, hA0, hV, rfl, hfz, hnd⟩ := hW
  have hA : DataW.TrodAll enc Try.prog W 0 (fun _ => true) true Try.f10.params.toList args.toList ds p := hA0
  rw [Try.params10] at hA hval
  obtain ⟨v0, d0, rfl, rfl, h0⟩ := trodAll_one hA
  obtain ⟨rfl, rfl⟩ := trodVars_none hV
  obtain ⟨A0, len0, cap0, rfl⟩ := okWide_slice Try.underlying22 (hval 0 22 v0 rfl rfl)
  obtain ⟨fuel0, hf0⟩ := id h0
  obtain ⟨y0, hy0, g0⟩ := brg22.2 _ enc W 0 _ true fuel0 _ _ hf0
  have r0 : Rd (rList Rlaws_Vertex) W _ y0 := brg_val rfl rfl hy0
  clear hA0 hval0
  simp only [List.append_nil] at hW'
  have hlt := whole_lt hW'
  obtain ⟨n, hm⟩ := law_CompressPriorities g0
  refine (laws_FnExactCompressPriorities_ok r0 hm).mono fun e W' ⟨he, HH⟩ => ?_
  subst he
  exact ⟨_, rfl, post_ext hW' rfl rfl rfl Try.underlying4 HH.ext (trodAll_mk1 (Below.trod laidOut (by kernel_rfl) (of_decide_eq_true (by kernel_rfl)) h0 HH.ext.below hlt))⟩
end JFnExactCompressPriorities
theorem holds18 : Rows.FnExactCompressPrioritiesSaid :=
  OpenClaim.holds_of_wide 10 Try.f10 rfl rfl rfl rfl rfl rfl rfl ⟨rfl, rfl, rfl, rfl, rfl⟩ rfl rfl rfl rfl rfl (by kernel_rfl) Try.func10 (by kernel_rfl)
    (of_decide_eq_true (by kernel_rfl)) (by unfold Func.isWrapper; rw [if_neg (by decide +kernel)]; exact ⟨rfl, rfl⟩)
    (fun os started H enc _ => JFnExactCompressPriorities.lifted os started H enc)
end Go.Proofs.Ytecknjdlbmmmiaa
