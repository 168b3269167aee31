/-
  FnExactPlayGame: its row holds.
-/
import Derived.Test.YtlnibadkmdmelaaP6c
namespace Go.Proofs.Ytlnibadkmdmelaa
open Go.Gx Go.RowKit Go.ChangeShapes Go.WideShapes Go.ChangeAt
namespace JFnExactPlayGame
theorem own : ownKnob Try.prog.godebug = none := by kernel_rfl
theorem laidOut : laidOutB Try.prog = true := by kernel_rfl
theorem brg2 : Brg Try.prog 2 (rInt .i64) (gInt .i64) := brg_int Try.underlying2 (by kernel_rfl)
theorem brg29 : Brg Try.prog 29 (rList (rInt .i64)) (gList (gInt .i64)) := brg_list Try.underlying29 (by kernel_rfl) (by decide) brg2
theorem brg72 : Brg Try.prog 72 Rlaws_Vertex (gAnd (gInt .i64) (gAnd (gInt .i64) (gList (gInt .i64)))) := brg_struct Try.underlying72 (by kernel_rfl) (brgF_cons _ brg2 rfl (brgF_cons _ brg2 rfl (brgF_one _ brg29 rfl)))
theorem brg40 : Brg Try.prog 40 (rList Rlaws_Vertex) (gList (gAnd (gInt .i64) (gAnd (gInt .i64) (gList (gInt .i64))))) := brg_list Try.underlying40 (by kernel_rfl) (by decide) brg72
set_option maxRecDepth 100000 in
theorem lifted (os : Os) (started : os.Started) (H : Type) (enc : TypeId × Value → H) :
    ReturnsInHanded {} Try.checked os 8 .any (Rows.fnExactPlayGameSpec.pre6 enc Try.prog Try.f8 Rows.fnExactPlayGameRow.domain false) (Rows.fnExactPlayGameSpec.post enc Try.prog Try.f8 false true false false) := by
  refine returnsInHanded_of_change (C := Try.checked) own started (by kernel_rfl) Try.func8
    (ChangeSpec.witness6 (enc := enc) (C := Try.checked) false ⟨#[], #[.slice none 0 0, .slice none 0 0, .int .i64 0], []⟩ 8 (by kernel_rfl) (by kernel_rfl) (by kernel_rfl) (by kernel_rfl)) ?_
  intro W base args ds gs before hval0 hW hcnd _
  have hval : ∀ (j : Nat) t v, Try.f8.params[j]? = some t → args[j]? = some v → Value.okWide Try.prog W .any base t v := hval0
  have hW' := hW
  obtain ⟨p, q, hA0, hV, rfl, hfz, hnd⟩ := hW
  have hA : DataW.TrodAll enc Try.prog W 0 (fun _ => true) true Try.f8.params.toList args.toList ds p := hA0
  rw [Try.params8] at hA hval
  obtain ⟨v0, v1, v2, d0, d1, d2, p0, p1, p2, rfl, rfl, rfl, h0, h1, h2⟩ := trodAll_three hA
  obtain ⟨rfl, rfl⟩ := trodVars_none hV
  obtain ⟨A0, len0, cap0, rfl⟩ := okWide_slice Try.underlying40 (hval 0 40 v0 rfl rfl)
  obtain ⟨fuel0, hf0⟩ := id h0
  obtain ⟨y0, hy0, g0⟩ := brg40.2 _ enc W 0 _ true fuel0 _ _ hf0
  have r0 : Rd (rList Rlaws_Vertex) W _ y0 := brg_val rfl rfl hy0
  obtain ⟨A1, len1, cap1, rfl⟩ := okWide_slice Try.underlying29 (hval 1 29 v1 rfl rfl)
  obtain ⟨fuel1, hf1⟩ := id h1
  obtain ⟨y1, hy1, g1⟩ := brg29.2 _ enc W 0 _ true fuel1 _ _ hf1
  have r1 : Rd (rList (rInt .i64)) W _ y1 := brg_val rfl rfl hy1
  obtain ⟨n2, rfl⟩ := okWide_int Try.underlying2 (hval 2 2 v2 rfl rfl)
  obtain ⟨fuel2, hf2⟩ := id h2
  obtain ⟨y2, hy2, g2⟩ := brg2.2 _ enc W 0 _ true fuel2 _ _ hf2
  obtain rfl : n2 = y2 := by injection (show [Value.int .i64 n2] = [Value.int .i64 y2] from hy2) with e1 _; injection e1
  clear hA0 hval0
  simp only [List.append_nil] at hW'
  have hlt := whole_lt hW'
  obtain ⟨n, hm⟩ := law6 g0 g1 g2
  refine (laws_FnExactPlayGame_ok r0 r1 hm).mono fun e W' ⟨he, HH⟩ => ?_
  subst he
  exact ⟨_, rfl, post_ext hW' rfl rfl rfl Try.underlying4 HH.ext (by have hz := trodAll_mk3 (Below.trod laidOut (by kernel_rfl) (of_decide_eq_true (by kernel_rfl)) h0 HH.ext (fun x hx => hlt x (by simp [hx]))) (Below.trod laidOut (by kernel_rfl) (of_decide_eq_true (by kernel_rfl)) h1 HH.ext (fun x hx => hlt x (by simp [hx]))) (Below.trod laidOut (by kernel_rfl) (of_decide_eq_true (by kernel_rfl)) h2 HH.ext (fun x hx => hlt x (by simp [hx]))); rw [← List.append_assoc] at hz; exact hz)⟩
end JFnExactPlayGame
theorem holds6 : Rows.FnExactPlayGameSaid :=
  OpenClaim.holds_of_wide 8 Try.f8 rfl rfl rfl rfl rfl rfl rfl ⟨rfl, rfl, rfl, rfl, rfl⟩ rfl rfl rfl rfl rfl (by kernel_rfl) Try.func8 (by kernel_rfl)
    (of_decide_eq_true (by kernel_rfl)) (by unfold Func.isWrapper; rw [if_neg (by decide +kernel)]; exact ⟨rfl, rfl⟩)
    (fun os started H enc _ => JFnExactPlayGame.lifted os started H enc)
end Go.Proofs.Ytlnibadkmdmelaa
