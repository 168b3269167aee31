/-
  FnExactRenameLabels: its row holds.
-/
import Derived.Test.YtldmecdkdoipdaaGreatDoorLRenameLabels
import Derived.Test.YtldmecdkdoipdaaGreatDoorS56
import Derived.Test.YtldmecdkdoipdaaGreatDoorGxP
import Derived.Test.YtldmecdkdoipdaaGreatDoorGxV
import Derived.Lay
import Derived.Test.YtldmecdkdoipdaaGreatDoorTie
import Derived.Test.YtldmecdkdoipdaaGreatDoorCards
import Derived.Test.YtldmecdkdoipdaaGreatDoorJS
namespace Go.Proofs.YtldmecdkdoipdaaGreatDoor
open Go.Gx Go.RowKit Go.ChangeShapes Go.WideShapes Go.ChangeAt
namespace JFnExactRenameLabels
open JS
theorem brg2 : Brg Tryz.prog 2 (rInt .i64) (gInt .i64) := brg_int Tryz.underlying2 (by kernel_rfl)
theorem brg9 : Brg Tryz.prog 9 rStr gStr := brg_str Tryz.underlying9 (by kernel_rfl)
theorem brg22 : Brg Tryz.prog 22 (rList rStr) (gList gStr) := brg_list Tryz.underlying22 (by kernel_rfl) (by decide) brg9
theorem brg74 : Brg Tryz.prog 74 Rlaws_Edge (gAnd (gInt .i64) (gAnd (gInt .i64) (gInt .i64))) := brg_struct Tryz.underlying74 (by kernel_rfl) (brgF_cons _ brg2 rfl (brgF_cons _ brg2 rfl (brgF_one _ brg2 rfl)))
theorem brg23 : Brg Tryz.prog 23 (rList Rlaws_Edge) (gList (gAnd (gInt .i64) (gAnd (gInt .i64) (gInt .i64)))) := brg_list Tryz.underlying23 (by kernel_rfl) (by decide) brg74
theorem brg25 : Brg Tryz.prog 25 Rlaws_Lts (gAnd (gInt .i64) (gAnd (gInt .i64) (gAnd (gList gStr) (gList (gAnd (gInt .i64) (gAnd (gInt .i64) (gInt .i64))))))) := brg_struct Tryz.underlying25 (by kernel_rfl) (brgF_cons _ brg2 rfl (brgF_cons _ brg2 rfl (brgF_cons _ brg22 rfl (brgF_one _ brg23 rfl))))
set_option maxRecDepth 100000 in
theorem lifted (os : Os) (started : os.Started) (H : Type) (enc : TypeId × Value → H) :
    ReturnsInHanded {} Tryz.checked os 5 .any (fun w args => (Rows.fnExactRenameLabelsSpec.pre enc Tryz.prog Tryz.f5 [] false w args ∧ laidMetH Tryz.prog Rows.fnExactRenameLabelsRow.laid w) ∧ sizedMet enc Tryz.prog Tryz.f5 (OpenSpec.ofChange Rows.fnExactRenameLabelsSpec) false w args) (Rows.fnExactRenameLabelsSpec.post enc Tryz.prog Tryz.f5 false true false false) := by
  refine returns_glob (C := Tryz.checked) (X := fun w _ => laidMetH Tryz.prog Rows.fnExactRenameLabelsRow.laid w) (fun _ _ _ hh h => h.of_heap hh) own started (by kernel_rfl) Tryz.func5
    (ChangeSpec.witness_shaped (enc := enc) (C := Tryz.checked) (os := os) (X := fun w _ => laidMetH Tryz.prog Rows.fnExactRenameLabelsRow.laid w) false (World.laidAll Tryz.prog os Rows.fnExactRenameLabelsRow.laid) #[(.agg #[(.int .i64 (0)), (.int .i64 (0)), (.slice none 0 0), (.slice none 0 0)]), .string ⟨#[]⟩, .string ⟨#[]⟩] 8 (World.laidAll_os _ _ _)
      (World.shaped_of_ZipB (by kernel_rfl) (by kernel_rfl)) (by kernel_rfl) (by kernel_rfl) (by kernel_rfl)
      (by rw [MakeChecks.laidMetH_plain _ _ _ (by kernel_rfl)]; exact laidMet_laidAll _ (by kernel_rfl) (by kernel_rfl))) ?_
  intro W base args ds gs before hval0 hW hcnd hL hsh
  rw [MakeChecks.laidMetH_plain _ _ _ (by kernel_rfl)] at hL
  have hG : GlobE Tryz.prog W := ⟨⟨hsh, tab_of_reads (g := 5) (by kernel_rfl) (by kernel_rfl) Tryz.underlying218 Tryz.underlying149 (by kernel_rfl) (by kernel_rfl) (Lib.laidMet.reads hL (.tail _ (.tail _ (.head _))))⟩, iface_of_reads (g := 1) (by kernel_rfl) (by kernel_rfl) Tryz.underlying129 (Lib.laidMet.reads hL (.tail _ (.tail _ (.tail _ (.tail _ (.tail _ (.head _))))))),
    iface_of_reads (g := 2) (by kernel_rfl) (by kernel_rfl) Tryz.underlying129 (Lib.laidMet.reads hL (.tail _ (.tail _ (.tail _ (.tail _ (.head _))))))⟩
  have hval : ∀ (j : Nat) t v, Tryz.f5.params[j]? = some t → args[j]? = some v → Value.okWide Tryz.prog W .any base t v := hval0
  have hW' := hW
  obtain ⟨p, q, hA0, hV, rfl, hfz, hnd⟩ := hW
  have hA : DataW.TrodAll enc Tryz.prog W 0 (fun _ => true) true Tryz.f5.params.toList args.toList ds p := hA0
  rw [Tryz.params5] at hA hval
  obtain ⟨v0, v1, v2, d0, d1, d2, p0, p1, p2, rfl, rfl, rfl, h0, h1, h2⟩ := trodAll_three hA
  obtain ⟨rfl, rfl⟩ := trodVars_none hV
  obtain ⟨cs0, rfl, _⟩ := okWide_struct Tryz.underlying25 (hval 0 25 v0 rfl rfl)
  obtain ⟨fuel0, hf0⟩ := id h0
  obtain ⟨y0, hy0, g0⟩ := brg25.2 _ enc W 0 _ true fuel0 _ _ hf0
  have r0 : Rd Rlaws_Lts W _ y0 := brg_agg rfl hy0
  obtain ⟨n1, rfl⟩ := okWide_string Tryz.underlying9 (hval 1 9 v1 rfl rfl)
  obtain ⟨fuel1, hf1⟩ := id h1
  obtain ⟨y1, hy1, g1⟩ := brg9.2 _ enc W 0 _ true fuel1 _ _ hf1
  obtain rfl : n1 = (⟨y1.toArray⟩ : ByteArray) := by injection (show [Value.string n1] = [Value.string ⟨y1.toArray⟩] from hy1) with e1 _; injection e1
  obtain ⟨n2, rfl⟩ := okWide_string Tryz.underlying9 (hval 2 9 v2 rfl rfl)
  obtain ⟨fuel2, hf2⟩ := id h2
  obtain ⟨y2, hy2, g2⟩ := brg9.2 _ enc W 0 _ true fuel2 _ _ hf2
  obtain rfl : n2 = (⟨y2.toArray⟩ : ByteArray) := by injection (show [Value.string n2] = [Value.string ⟨y2.toArray⟩] from hy2) with e1 _; injection e1
  clear hA0 hval0
  simp only [List.append_nil] at hW'
  have hlt := whole_lt hW'
  obtain ⟨n, hm⟩ := law_RenameLabels g0 g1 g2
  refine (laws_FnExactRenameLabels_ok hG r0 hm).mono fun e W' ⟨he, HH⟩ => ?_
  subst he
  exact ⟨_, rfl, post_ext hW' rfl rfl rfl Tryz.underlying4 HH.ext (by have hz := trodAll_mk3 (Below.trod laidOut (by kernel_rfl) (of_decide_eq_true (by kernel_rfl)) h0 HH.ext.below (fun x hx => hlt x (by simp [hx]))) (Below.trod laidOut (by kernel_rfl) (of_decide_eq_true (by kernel_rfl)) h1 HH.ext.below (fun x hx => hlt x (by simp [hx]))) (Below.trod laidOut (by kernel_rfl) (of_decide_eq_true (by kernel_rfl)) h2 HH.ext.below (fun x hx => hlt x (by simp [hx]))); rw [← List.append_assoc] at hz; exact hz)⟩
theorem c_named : Tryz.prog.funcNamed "loop.example/g01075/laws.FnExactRenameLabels" = some 5 := by kernel_rfl
theorem c_lift2 : (Rows.fnExactRenameLabelsRow.lifted == Tryz.prog.liftsFinal) = true := by rw [c_lift]; rfl
theorem c_make2 : (Tryz.prog.make == some Rows.fnExactRenameLabelsRow.make) = true := by rw [c_make]; rfl
set_option maxRecDepth 100000 in
set_option maxHeartbeats 4000000 in
theorem c_closed : joinedFacts Tryz.prog 5 Tryz.f5 Rows.fnExactRenameLabelsSpec Rows.fnExactRenameLabelsRow = true := by
  simp only [joinedFacts, Bool.and_eq_true]
  repeat' apply And.intro
  all_goals first | (with_reducible exact c_enter) | (with_reducible exact laidOut) | (with_reducible exact c_rowed) | (with_reducible exact c_lift2) | (with_reducible exact c_make2) | (as_aux_lemma => kernel_rfl)
theorem c_inst : Tryz.f5.isInstance Tryz.prog Rows.fnExactRenameLabelsRow.origin Rows.fnExactRenameLabelsRow.targs := of_decide_eq_true (by kernel_rfl)
theorem c_wrap : Tryz.f5.isWrapper Tryz.prog Rows.fnExactRenameLabelsRow.wrapper Rows.fnExactRenameLabelsRow.mainSum := by unfold Func.isWrapper; rw [if_neg (by decide +kernel)]; exact ⟨rfl, rfl⟩
theorem row_holds : Rows.FnExactRenameLabelsSaid :=
  OpenClaim.holds_of_wide 5 Tryz.f5 rfl rfl rfl rfl rfl rfl rfl ⟨rfl, rfl, rfl, rfl, rfl⟩ rfl rfl rfl rfl rfl c_named Tryz.func5 c_closed c_inst c_wrap
    (fun os started H enc _ => lifted os started H enc)
theorem c_wf : Rows.fnExactRenameLabelsRow.wfByText (OpenSpec.ofChange Rows.fnExactRenameLabelsSpec) = true := by kernel_rfl
theorem c_goes : false = Rows.fnExactRenameLabelsRow.goesBy Tryz.pinned.checked.prog := by kernel_rfl
end JFnExactRenameLabels
open JFnExactRenameLabels JS in
theorem holds56 : Rows.FnExactRenameLabelsCardSaid :=
  Claim7.holds_tied_plain_at .later [] [.data, .data, .data, .data, .sentinel, .sentinel, .pinned] true (true, "2445c3471ab9fada04a7bba1dda201aaccd41104fce8e3d741f2d3f41a5d4fa4") true row_holds (fun _ h => by cases h) c_wf (fun _ h => by cases h) fnExactRenameLabels_row_tie rfl ⟨rfl, rfl⟩ c_main rfl
    (fun f fn hf hfn => by
      obtain rfl : f = 5 := Option.some.inj (c_named.symm.trans hf) |>.symm
      obtain rfl : fn = Tryz.f5 := (Option.some.inj (Tryz.func5.symm.trans hfn)).symm
      exact ⟨c_looks, fun j t ht => by
        rw [Tryz.params5] at ht
        have hm : t ∈ [25, 9] := by simpa using Array.mem_of_getElem? ht
        have hall : ([25, 9].all fun u => !Tryz.prog.wantsStandIn u) = true := by kernel_rfl
        exact (show Tryz.prog.wantsStandIn t = false by simpa using List.all_eq_true.1 hall t hm)⟩)
    (by kernel_rfl)
end Go.Proofs.YtldmecdkdoipdaaGreatDoor
