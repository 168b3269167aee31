/-
  FnExactProofText: its row holds.
-/
import Derived.Test.YtepcckhcocjgaaaDoorLProofText
import Derived.Test.YtepcckhcocjgaaaDoorS13
import Derived.Test.YtepcckhcocjgaaaDoorGxP
import Derived.Test.YtepcckhcocjgaaaDoorGxV
import Derived.Lay
import Derived.Test.YtepcckhcocjgaaaDoorTie
import Derived.Test.YtepcckhcocjgaaaDoorCards
import Derived.Test.YtepcckhcocjgaaaDoorJS
namespace Go.Proofs.YtepcckhcocjgaaaDoor
open Go.Gx Go.RowKit Go.ChangeShapes Go.WideShapes Go.ChangeAt
namespace JFnExactProofText
open JS
theorem brg4 : Brg Tryd.prog 4 rBool gAny := brg_bool Tryd.underlying4 (by kernel_rfl)
theorem brg2 : Brg Tryd.prog 2 (rInt .i64) (gInt .i64) := brg_int Tryd.underlying2 (by kernel_rfl)
theorem brg48 : Brg Tryd.prog 48 (rList (rInt .i64)) (gList (gInt .i64)) := brg_list Tryd.underlying48 (by kernel_rfl) (by decide) brg2
theorem brg22 : Brg Tryd.prog 22 (rList (rList (rInt .i64))) (gList (gList (gInt .i64))) := brg_list Tryd.underlying22 (by kernel_rfl) (by decide) brg48
theorem brg24 : Brg Tryd.prog 24 Rlaws_Proof (gAnd gAny (gList (gList (gInt .i64)))) := brg_struct Tryd.underlying24 (by kernel_rfl) (brgF_cons _ brg4 rfl (brgF_one _ brg22 rfl))
set_option maxRecDepth 100000 in
theorem lifted (os : Os) (started : os.Started) (H : Type) (enc : TypeId × Value → H) :
    ReturnsInHanded {} Tryd.checked os 3 .any (fun w args => (Rows.fnExactProofTextSpec.pre enc Tryd.prog Tryd.f3 [] false w args ∧ laidMetH Tryd.prog Rows.fnExactProofTextRow.laid w) ∧ sizedMet enc Tryd.prog Tryd.f3 (OpenSpec.ofChange Rows.fnExactProofTextSpec) false w args) (Rows.fnExactProofTextSpec.post enc Tryd.prog Tryd.f3 false true false false) := by
  refine returns_glob (C := Tryd.checked) (X := fun w _ => laidMetH Tryd.prog Rows.fnExactProofTextRow.laid w) (fun _ _ _ hh h => h.of_heap hh) own started (by kernel_rfl) Tryd.func3
    (ChangeSpec.witness_shaped (enc := enc) (C := Tryd.checked) (os := os) (X := fun w _ => laidMetH Tryd.prog Rows.fnExactProofTextRow.laid w) false (World.laidAll Tryd.prog os Rows.fnExactProofTextRow.laid) #[(.agg #[(.bool false), (.slice none 0 0)])] 8 (World.laidAll_os _ _ _)
      (World.shaped_of_ZipB (by kernel_rfl) (by kernel_rfl)) (by kernel_rfl) (by kernel_rfl) (by kernel_rfl)
      (by rw [MakeChecks.laidMetH_plain _ _ _ (by kernel_rfl)]; exact laidMet_laidAll _ (by kernel_rfl) (by kernel_rfl))) ?_
  intro W base args ds gs before hval0 hW hcnd hL hsh
  rw [MakeChecks.laidMetH_plain _ _ _ (by kernel_rfl)] at hL
  have hG : Glob Tryd.prog W := ⟨hsh, tab_of_reads (g := 3) (by kernel_rfl) (by kernel_rfl) Tryd.underlying136 Tryd.underlying116 (by kernel_rfl) (by kernel_rfl) (Lib.laidMet.reads hL (.tail _ (.tail _ (.head _))))⟩
  have hval : ∀ (j : Nat) t v, Tryd.f3.params[j]? = some t → args[j]? = some v → Value.okWide Tryd.prog W .any base t v := hval0
  have hW' := hW
  obtain ⟨p, q, hA0, hV, rfl, hfz, hnd⟩ := hW
  have hA : DataW.TrodAll enc Tryd.prog W 0 (fun _ => true) true Tryd.f3.params.toList args.toList ds p := hA0
  rw [Tryd.params3] at hA hval
  obtain ⟨v0, d0, rfl, rfl, h0⟩ := trodAll_one hA
  obtain ⟨rfl, rfl⟩ := trodVars_none hV
  obtain ⟨cs0, rfl, _⟩ := okWide_struct Tryd.underlying24 (hval 0 24 v0 rfl rfl)
  obtain ⟨fuel0, hf0⟩ := id h0
  obtain ⟨y0, hy0, g0⟩ := brg24.2 _ enc W 0 _ true fuel0 _ _ hf0
  have r0 : Rd Rlaws_Proof W _ y0 := brg_agg rfl hy0
  clear hA0 hval0
  simp only [List.append_nil] at hW'
  have hlt := whole_lt hW'
  obtain ⟨n, hm⟩ := law_ProofText g0
  refine (laws_FnExactProofText_ok hG r0 hm).mono fun e W' ⟨he, HH⟩ => ?_
  subst he
  exact ⟨_, rfl, post_ext hW' rfl rfl rfl Tryd.underlying4 HH.ext (trodAll_mk1 (Below.trod laidOut (by kernel_rfl) (of_decide_eq_true (by kernel_rfl)) h0 HH.ext.below hlt))⟩
theorem c_named : Tryd.prog.funcNamed "loop.example/g01075/laws.FnExactProofText" = some 3 := by kernel_rfl
theorem c_lift2 : (Rows.fnExactProofTextRow.lifted == Tryd.prog.liftsFinal) = true := by rw [c_lift]; rfl
theorem c_make2 : (Tryd.prog.make == some Rows.fnExactProofTextRow.make) = true := by rw [c_make]; rfl
set_option maxRecDepth 100000 in
set_option maxHeartbeats 4000000 in
theorem c_closed : joinedFacts Tryd.prog 3 Tryd.f3 Rows.fnExactProofTextSpec Rows.fnExactProofTextRow = true := by
  simp only [joinedFacts, Bool.and_eq_true]
  repeat' apply And.intro
  all_goals first | (with_reducible exact c_enter) | (with_reducible exact laidOut) | (with_reducible exact c_rowed) | (with_reducible exact c_lift2) | (with_reducible exact c_make2) | (as_aux_lemma => kernel_rfl)
theorem c_inst : Tryd.f3.isInstance Tryd.prog Rows.fnExactProofTextRow.origin Rows.fnExactProofTextRow.targs := of_decide_eq_true (by kernel_rfl)
theorem c_wrap : Tryd.f3.isWrapper Tryd.prog Rows.fnExactProofTextRow.wrapper Rows.fnExactProofTextRow.mainSum := by unfold Func.isWrapper; rw [if_neg (by decide +kernel)]; exact ⟨rfl, rfl⟩
theorem row_holds : Rows.FnExactProofTextSaid :=
  OpenClaim.holds_of_wide 3 Tryd.f3 rfl rfl rfl rfl rfl rfl rfl ⟨rfl, rfl, rfl, rfl, rfl⟩ rfl rfl rfl rfl rfl c_named Tryd.func3 c_closed c_inst c_wrap
    (fun os started H enc _ => lifted os started H enc)
theorem c_wf : Rows.fnExactProofTextRow.wfByText (OpenSpec.ofChange Rows.fnExactProofTextSpec) = true := by kernel_rfl
theorem c_goes : false = Rows.fnExactProofTextRow.goesBy Tryd.pinned.checked.prog := by kernel_rfl
end JFnExactProofText
open JFnExactProofText JS in
theorem holds13 : Rows.FnExactProofTextCardSaid :=
  Claim7.holds_tied_plain_at .later [] [.data, .data, .data] true (true, "8b7ebb5f4431836b2c2a444e4b77c0fa77646bbff191e633e79fd26cb0b3a3dd") true row_holds (fun _ h => by cases h) c_wf (fun _ h => by cases h) fnExactProofText_row_tie rfl ⟨rfl, rfl⟩ c_main rfl
    (fun f fn hf hfn => by
      obtain rfl : f = 3 := Option.some.inj (c_named.symm.trans hf) |>.symm
      obtain rfl : fn = Tryd.f3 := (Option.some.inj (Tryd.func3.symm.trans hfn)).symm
      exact ⟨c_looks, fun j t ht => by
        rw [Tryd.params3] at ht
        have hm : t ∈ [24] := by simpa using Array.mem_of_getElem? ht
        have hall : ([24].all fun u => !Tryd.prog.wantsStandIn u) = true := by kernel_rfl
        exact (show Tryd.prog.wantsStandIn t = false by simpa using List.all_eq_true.1 hall t hm)⟩)
    (by kernel_rfl)
end Go.Proofs.YtepcckhcocjgaaaDoor
