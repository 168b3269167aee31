/-
  FnExactStatesWhere: its row holds.
-/
import Derived.Test.YtnkpniekdipgaaaGreatDoorLStatesWhere
import Derived.Test.YtnkpniekdipgaaaGreatDoorS42
import Derived.Test.YtnkpniekdipgaaaGreatDoorGxP
import Derived.Test.YtnkpniekdipgaaaGreatDoorGxV
import Derived.Lay
import Derived.Test.YtnkpniekdipgaaaGreatDoorTie
import Derived.Test.YtnkpniekdipgaaaGreatDoorCards
import Derived.Test.YtnkpniekdipgaaaGreatDoorJS
namespace Go.Proofs.YtnkpniekdipgaaaGreatDoor
open Go.Gx Go.RowKit Go.ChangeShapes Go.WideShapes Go.ChangeAt
namespace JFnExactStatesWhere
open JS
theorem brg2 : Brg Tryz.prog 2 (rInt .i64) (gInt .i64) := brg_int Tryz.underlying2 (by kernel_rfl)
theorem brg9 : Brg Tryz.prog 9 rStr gStr := brg_str Tryz.underlying9 (by kernel_rfl)
theorem brg4 : Brg Tryz.prog 4 rBool gAny := brg_bool Tryz.underlying4 (by kernel_rfl)
theorem brg52 : Brg Tryz.prog 52 Rlaws_Node (gAnd (gInt .i64) (gAnd (gInt .i64) (gAnd gStr gAny))) := brg_struct Tryz.underlying52 (by kernel_rfl) (brgF_cons _ brg2 rfl (brgF_cons _ brg2 rfl (brgF_cons _ brg9 rfl (brgF_one _ brg4 rfl))))
theorem brg22 : Brg Tryz.prog 22 (rList Rlaws_Node) (gList (gAnd (gInt .i64) (gAnd (gInt .i64) (gAnd gStr gAny)))) := brg_list Tryz.underlying22 (by kernel_rfl) (by decide) brg52
theorem brg23 : Brg Tryz.prog 23 (rList rStr) (gList gStr) := brg_list Tryz.underlying23 (by kernel_rfl) (by decide) brg9
theorem brg87 : Brg Tryz.prog 87 Rlaws_Edge (gAnd (gInt .i64) (gAnd (gInt .i64) (gInt .i64))) := brg_struct Tryz.underlying87 (by kernel_rfl) (brgF_cons _ brg2 rfl (brgF_cons _ brg2 rfl (brgF_one _ brg2 rfl)))
theorem brg24 : Brg Tryz.prog 24 (rList Rlaws_Edge) (gList (gAnd (gInt .i64) (gAnd (gInt .i64) (gInt .i64)))) := brg_list Tryz.underlying24 (by kernel_rfl) (by decide) brg87
theorem brg26 : Brg Tryz.prog 26 Rlaws_Lts (gAnd (gInt .i64) (gAnd (gInt .i64) (gAnd (gList gStr) (gList (gAnd (gInt .i64) (gAnd (gInt .i64) (gInt .i64))))))) := brg_struct Tryz.underlying26 (by kernel_rfl) (brgF_cons _ brg2 rfl (brgF_cons _ brg2 rfl (brgF_cons _ brg23 rfl (brgF_one _ brg24 rfl))))
set_option maxRecDepth 100000 in
theorem lifted (os : Os) (started : os.Started) (H : Type) (enc : TypeId × Value → H) :
    ReturnsInHanded {} Tryz.checked os 5 .any (fun w args => (Rows.fnExactStatesWhereSpec.pre enc Tryz.prog Tryz.f5 [] false w args ∧ laidMetH Tryz.prog Rows.fnExactStatesWhereRow.laid w) ∧ sizedMet enc Tryz.prog Tryz.f5 (OpenSpec.ofChange Rows.fnExactStatesWhereSpec) false w args) (Rows.fnExactStatesWhereSpec.post enc Tryz.prog Tryz.f5 false true false false) := by
  refine returns_glob (C := Tryz.checked) (X := fun w _ => laidMetH Tryz.prog Rows.fnExactStatesWhereRow.laid w) (fun _ _ _ hh h => h.of_heap hh) own started (by kernel_rfl) Tryz.func5
    (ChangeSpec.witness_shaped (enc := enc) (C := Tryz.checked) (os := os) (X := fun w _ => laidMetH Tryz.prog Rows.fnExactStatesWhereRow.laid w) false (World.laidAll Tryz.prog os Rows.fnExactStatesWhereRow.laid) #[.slice none 0 0, (.agg #[(.int .i64 (0)), (.int .i64 (0)), (.slice none 0 0), (.slice none 0 0)])] 8 (World.laidAll_os _ _ _)
      (World.shaped_of_ZipB (by kernel_rfl) (by kernel_rfl)) (by kernel_rfl) (by kernel_rfl) (by kernel_rfl)
      (by rw [MakeChecks.laidMetH_plain _ _ _ (by kernel_rfl)]; exact laidMet_laidAll _ (by kernel_rfl) (by kernel_rfl))) ?_
  intro W base args ds gs before hval0 hW hcnd hL hsh
  rw [MakeChecks.laidMetH_plain _ _ _ (by kernel_rfl)] at hL
  have hG : GlobE Tryz.prog W := ⟨⟨hsh, tab_of_reads (g := 5) (by kernel_rfl) (by kernel_rfl) Tryz.underlying194 Tryz.underlying126 (by kernel_rfl) (by kernel_rfl) (Lib.laidMet.reads hL (.tail _ (.tail _ (.head _))))⟩, iface_of_reads (g := 1) (by kernel_rfl) (by kernel_rfl) Tryz.underlying147 (Lib.laidMet.reads hL (.tail _ (.tail _ (.tail _ (.tail _ (.tail _ (.head _))))))),
    iface_of_reads (g := 2) (by kernel_rfl) (by kernel_rfl) Tryz.underlying147 (Lib.laidMet.reads hL (.tail _ (.tail _ (.tail _ (.tail _ (.head _))))))⟩
  have hval : ∀ (j : Nat) t v, Tryz.f5.params[j]? = some t → args[j]? = some v → Value.okWide Tryz.prog W .any base t v := hval0
  have hW' := hW
  obtain ⟨p, q, hA0, hV, rfl, hfz, hnd⟩ := hW
  have hA : DataW.TrodAll enc Tryz.prog W 0 (fun _ => true) true Tryz.f5.params.toList args.toList ds p := hA0
  rw [Tryz.params5] at hA hval
  obtain ⟨v0, v1, d0, d1, p0, p1, rfl, rfl, rfl, h0, h1⟩ := trodAll_two hA
  obtain ⟨rfl, rfl⟩ := trodVars_none hV
  obtain ⟨A0, len0, cap0, rfl⟩ := okWide_slice Tryz.underlying22 (hval 0 22 v0 rfl rfl)
  obtain ⟨fuel0, hf0⟩ := id h0
  obtain ⟨y0, hy0, g0⟩ := brg22.2 _ enc W 0 _ true fuel0 _ _ hf0
  have r0 : Rd (rList Rlaws_Node) W _ y0 := brg_val rfl rfl hy0
  obtain ⟨cs1, rfl, _⟩ := okWide_struct Tryz.underlying26 (hval 1 26 v1 rfl rfl)
  obtain ⟨fuel1, hf1⟩ := id h1
  obtain ⟨y1, hy1, g1⟩ := brg26.2 _ enc W 0 _ true fuel1 _ _ hf1
  have r1 : Rd Rlaws_Lts W _ y1 := brg_agg rfl hy1
  clear hA0 hval0
  simp only [List.append_nil] at hW'
  have hlt := whole_lt hW'
  obtain ⟨n, hm⟩ := law_StatesWhere g0 g1
  refine (laws_FnExactStatesWhere_ok hG r0 r1 hm).mono fun e W' ⟨he, HH⟩ => ?_
  subst he
  exact ⟨_, rfl, post_ext hW' rfl rfl rfl Tryz.underlying4 HH.ext (trodAll_mk2 (Below.trod laidOut (by kernel_rfl) (of_decide_eq_true (by kernel_rfl)) h0 HH.ext.below (fun x hx => hlt x (by simp [hx]))) (Below.trod laidOut (by kernel_rfl) (of_decide_eq_true (by kernel_rfl)) h1 HH.ext.below (fun x hx => hlt x (by simp [hx]))))⟩
theorem c_named : Tryz.prog.funcNamed "loop.example/g01075/laws.FnExactStatesWhere" = some 5 := by kernel_rfl
theorem c_lift2 : (Rows.fnExactStatesWhereRow.lifted == Tryz.prog.liftsFinal) = true := by rw [c_lift]; rfl
theorem c_make2 : (Tryz.prog.make == some Rows.fnExactStatesWhereRow.make) = true := by rw [c_make]; rfl
set_option maxRecDepth 100000 in
set_option maxHeartbeats 4000000 in
theorem c_closed : joinedFacts Tryz.prog 5 Tryz.f5 Rows.fnExactStatesWhereSpec Rows.fnExactStatesWhereRow = true := by
  simp only [joinedFacts, Bool.and_eq_true]
  repeat' apply And.intro
  all_goals first | (with_reducible exact c_enter) | (with_reducible exact laidOut) | (with_reducible exact c_rowed) | (with_reducible exact c_lift2) | (with_reducible exact c_make2) | (as_aux_lemma => kernel_rfl)
theorem c_inst : Tryz.f5.isInstance Tryz.prog Rows.fnExactStatesWhereRow.origin Rows.fnExactStatesWhereRow.targs := of_decide_eq_true (by kernel_rfl)
theorem c_wrap : Tryz.f5.isWrapper Tryz.prog Rows.fnExactStatesWhereRow.wrapper Rows.fnExactStatesWhereRow.mainSum := by unfold Func.isWrapper; rw [if_neg (by decide +kernel)]; exact ⟨rfl, rfl⟩
theorem row_holds : Rows.FnExactStatesWhereSaid :=
  OpenClaim.holds_of_wide 5 Tryz.f5 rfl rfl rfl rfl rfl rfl rfl ⟨rfl, rfl, rfl, rfl, rfl⟩ rfl rfl rfl rfl rfl c_named Tryz.func5 c_closed c_inst c_wrap
    (fun os started H enc _ => lifted os started H enc)
theorem c_wf : Rows.fnExactStatesWhereRow.wfByText (OpenSpec.ofChange Rows.fnExactStatesWhereSpec) = true := by kernel_rfl
theorem c_goes : false = Rows.fnExactStatesWhereRow.goesBy Tryz.pinned.checked.prog := by kernel_rfl
end JFnExactStatesWhere
open JFnExactStatesWhere JS in
theorem holds42 : Rows.FnExactStatesWhereCardSaid :=
  Claim7.holds_tied_plain_at .later [] [.data, .data, .data, .data, .sentinel, .sentinel, .pinned] true (true, "4f0eb9f5703239d273387f44dd2c10154d9eeb405473d81a5f1e32493291d8e6") true row_holds (fun _ h => by cases h) c_wf (fun _ h => by cases h) fnExactStatesWhere_row_tie rfl ⟨rfl, rfl⟩ c_main rfl
    (fun f fn hf hfn => by
      obtain rfl : f = 5 := Option.some.inj (c_named.symm.trans hf) |>.symm
      obtain rfl : fn = Tryz.f5 := (Option.some.inj (Tryz.func5.symm.trans hfn)).symm
      exact ⟨c_looks, fun j t ht => by
        rw [Tryz.params5] at ht
        have hm : t ∈ [22, 26] := by simpa using Array.mem_of_getElem? ht
        have hall : ([22, 26].all fun u => !Tryz.prog.wantsStandIn u) = true := by kernel_rfl
        exact (show Tryz.prog.wantsStandIn t = false by simpa using List.all_eq_true.1 hall t hm)⟩)
    (by kernel_rfl)
end Go.Proofs.YtnkpniekdipgaaaGreatDoor
