/-
  FnExactEquationsText: its row holds.
-/
import Derived.Test.YtepcckhcocjgaaaDoorLEquationsText
import Derived.Test.YtepcckhcocjgaaaDoorS15
import Derived.Test.YtepcckhcocjgaaaDoorGxP
import Derived.Test.YtepcckhcocjgaaaDoorGxV
import Derived.Lay
import Derived.Test.YtepcckhcocjgaaaDoorTie
import Derived.Test.YtepcckhcocjgaaaDoorCards
import Derived.Test.YtepcckhcocjgaaaDoorJS
namespace Go.Proofs.YtepcckhcocjgaaaDoor
open Go.Gx Go.RowKit Go.ChangeShapes Go.WideShapes Go.ChangeAt
namespace JFnExactEquationsText
open JS
theorem brg4 : Brg Tryd.prog 4 rBool gAny := brg_bool Tryd.underlying4 (by kernel_rfl)
theorem brg2 : Brg Tryd.prog 2 (rInt .i64) (gInt .i64) := brg_int Tryd.underlying2 (by kernel_rfl)
theorem brg48 : Brg Tryd.prog 48 (rList (rInt .i64)) (gList (gInt .i64)) := brg_list Tryd.underlying48 (by kernel_rfl) (by decide) brg2
theorem brg57 : Brg Tryd.prog 57 Rlaws_Equation (gAnd gAny (gAnd gAny (gList (gInt .i64)))) := brg_struct Tryd.underlying57 (by kernel_rfl) (brgF_cons _ brg4 rfl (brgF_cons _ brg4 rfl (brgF_one _ brg48 rfl)))
theorem brg31 : Brg Tryd.prog 31 (rList Rlaws_Equation) (gList (gAnd gAny (gAnd gAny (gList (gInt .i64))))) := brg_list Tryd.underlying31 (by kernel_rfl) (by decide) brg57
set_option maxRecDepth 100000 in
theorem lifted (os : Os) (started : os.Started) (H : Type) (enc : TypeId × Value → H) :
    ReturnsInHanded {} Tryd.checked os 4 .any (fun w args => (Rows.fnExactEquationsTextSpec.pre enc Tryd.prog Tryd.f4 [] false w args ∧ laidMetH Tryd.prog Rows.fnExactEquationsTextRow.laid w) ∧ sizedMet enc Tryd.prog Tryd.f4 (OpenSpec.ofChange Rows.fnExactEquationsTextSpec) false w args) (Rows.fnExactEquationsTextSpec.post enc Tryd.prog Tryd.f4 false true false false) := by
  refine returns_glob (C := Tryd.checked) (X := fun w _ => laidMetH Tryd.prog Rows.fnExactEquationsTextRow.laid w) (fun _ _ _ hh h => h.of_heap hh) own started (by kernel_rfl) Tryd.func4
    (ChangeSpec.witness_shaped (enc := enc) (C := Tryd.checked) (os := os) (X := fun w _ => laidMetH Tryd.prog Rows.fnExactEquationsTextRow.laid w) false (World.laidAll Tryd.prog os Rows.fnExactEquationsTextRow.laid) #[.slice none 0 0] 8 (World.laidAll_os _ _ _)
      (World.shaped_of_ZipB (by kernel_rfl) (by kernel_rfl)) (by kernel_rfl) (by kernel_rfl) (by kernel_rfl)
      (by rw [MakeChecks.laidMetH_plain _ _ _ (by kernel_rfl)]; exact laidMet_laidAll _ (by kernel_rfl) (by kernel_rfl))) ?_
  intro W base args ds gs before hval0 hW hcnd hL hsh
  rw [MakeChecks.laidMetH_plain _ _ _ (by kernel_rfl)] at hL
  have hG : Glob Tryd.prog W := ⟨hsh, tab_of_reads (g := 3) (by kernel_rfl) (by kernel_rfl) Tryd.underlying136 Tryd.underlying116 (by kernel_rfl) (by kernel_rfl) (Lib.laidMet.reads hL (.tail _ (.tail _ (.head _))))⟩
  have hval : ∀ (j : Nat) t v, Tryd.f4.params[j]? = some t → args[j]? = some v → Value.okWide Tryd.prog W .any base t v := hval0
  have hW' := hW
  obtain ⟨p, q, hA0, hV, rfl, hfz, hnd⟩ := hW
  have hA : DataW.TrodAll enc Tryd.prog W 0 (fun _ => true) true Tryd.f4.params.toList args.toList ds p := hA0
  rw [Tryd.params4] at hA hval
  obtain ⟨v0, d0, rfl, rfl, h0⟩ := trodAll_one hA
  obtain ⟨rfl, rfl⟩ := trodVars_none hV
  obtain ⟨A0, len0, cap0, rfl⟩ := okWide_slice Tryd.underlying31 (hval 0 31 v0 rfl rfl)
  obtain ⟨fuel0, hf0⟩ := id h0
  obtain ⟨y0, hy0, g0⟩ := brg31.2 _ enc W 0 _ true fuel0 _ _ hf0
  have r0 : Rd (rList Rlaws_Equation) W _ y0 := brg_val rfl rfl hy0
  clear hA0 hval0
  simp only [List.append_nil] at hW'
  have hlt := whole_lt hW'
  obtain ⟨n, hm⟩ := law_EquationsText g0
  refine (laws_FnExactEquationsText_ok hG r0 hm).mono fun e W' ⟨he, HH⟩ => ?_
  subst he
  exact ⟨_, rfl, post_ext hW' rfl rfl rfl Tryd.underlying4 HH.ext (trodAll_mk1 (Below.trod laidOut (by kernel_rfl) (of_decide_eq_true (by kernel_rfl)) h0 HH.ext.below hlt))⟩
theorem c_named : Tryd.prog.funcNamed "loop.example/g01075/laws.FnExactEquationsText" = some 4 := by kernel_rfl
theorem c_lift2 : (Rows.fnExactEquationsTextRow.lifted == Tryd.prog.liftsFinal) = true := by rw [c_lift]; rfl
theorem c_make2 : (Tryd.prog.make == some Rows.fnExactEquationsTextRow.make) = true := by rw [c_make]; rfl
set_option maxRecDepth 100000 in
set_option maxHeartbeats 4000000 in
theorem c_closed : joinedFacts Tryd.prog 4 Tryd.f4 Rows.fnExactEquationsTextSpec Rows.fnExactEquationsTextRow = true := by
  simp only [joinedFacts, Bool.and_eq_true]
  repeat' apply And.intro
  all_goals first | (with_reducible exact c_enter) | (with_reducible exact laidOut) | (with_reducible exact c_rowed) | (with_reducible exact c_lift2) | (with_reducible exact c_make2) | (as_aux_lemma => kernel_rfl)
theorem c_inst : Tryd.f4.isInstance Tryd.prog Rows.fnExactEquationsTextRow.origin Rows.fnExactEquationsTextRow.targs := of_decide_eq_true (by kernel_rfl)
theorem c_wrap : Tryd.f4.isWrapper Tryd.prog Rows.fnExactEquationsTextRow.wrapper Rows.fnExactEquationsTextRow.mainSum := by unfold Func.isWrapper; rw [if_neg (by decide +kernel)]; exact ⟨rfl, rfl⟩
theorem row_holds : Rows.FnExactEquationsTextSaid :=
  OpenClaim.holds_of_wide 4 Tryd.f4 rfl rfl rfl rfl rfl rfl rfl ⟨rfl, rfl, rfl, rfl, rfl⟩ rfl rfl rfl rfl rfl c_named Tryd.func4 c_closed c_inst c_wrap
    (fun os started H enc _ => lifted os started H enc)
theorem c_wf : Rows.fnExactEquationsTextRow.wfByText (OpenSpec.ofChange Rows.fnExactEquationsTextSpec) = true := by kernel_rfl
theorem c_goes : false = Rows.fnExactEquationsTextRow.goesBy Tryd.pinned.checked.prog := by kernel_rfl
end JFnExactEquationsText
open JFnExactEquationsText JS in
theorem holds15 : Rows.FnExactEquationsTextCardSaid :=
  Claim7.holds_tied_plain_at .later [] [.data, .data, .data] true (true, "8b7ebb5f4431836b2c2a444e4b77c0fa77646bbff191e633e79fd26cb0b3a3dd") true row_holds (fun _ h => by cases h) c_wf (fun _ h => by cases h) fnExactEquationsText_row_tie rfl ⟨rfl, rfl⟩ c_main rfl
    (fun f fn hf hfn => by
      obtain rfl : f = 4 := Option.some.inj (c_named.symm.trans hf) |>.symm
      obtain rfl : fn = Tryd.f4 := (Option.some.inj (Tryd.func4.symm.trans hfn)).symm
      exact ⟨c_looks, fun j t ht => by
        rw [Tryd.params4] at ht
        have hm : t ∈ [31] := by simpa using Array.mem_of_getElem? ht
        have hall : ([31].all fun u => !Tryd.prog.wantsStandIn u) = true := by kernel_rfl
        exact (show Tryd.prog.wantsStandIn t = false by simpa using List.all_eq_true.1 hall t hm)⟩)
    (by kernel_rfl)
end Go.Proofs.YtepcckhcocjgaaaDoor
