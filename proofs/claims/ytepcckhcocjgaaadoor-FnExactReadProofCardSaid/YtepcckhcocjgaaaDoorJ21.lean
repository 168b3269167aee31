/-
  FnExactReadProof: its row holds.
-/
import Derived.Test.YtepcckhcocjgaaaDoorLReadProof
import Derived.Test.YtepcckhcocjgaaaDoorS21
import Derived.Test.YtepcckhcocjgaaaDoorGxP
import Derived.Test.YtepcckhcocjgaaaDoorGxV
import Derived.Lay
import Derived.Test.YtepcckhcocjgaaaDoorTie
import Derived.Test.YtepcckhcocjgaaaDoorCards
import Derived.Test.YtepcckhcocjgaaaDoorJS
namespace Go.Proofs.YtepcckhcocjgaaaDoor
open Go.Gx Go.RowKit Go.ChangeShapes Go.WideShapes Go.ChangeAt
namespace JFnExactReadProof
open JS
theorem brg9 : Brg Tryd.prog 9 rStr gStr := brg_str Tryd.underlying9 (by kernel_rfl)
set_option maxRecDepth 100000 in
theorem lifted (os : Os) (started : os.Started) (H : Type) (enc : TypeId × Value → H) :
    ReturnsInHanded {} Tryd.checked os 5 .any (fun w args => (Rows.fnExactReadProofSpec.pre enc Tryd.prog Tryd.f5 [] false w args ∧ laidMetH Tryd.prog Rows.fnExactReadProofRow.laid w) ∧ sizedMet enc Tryd.prog Tryd.f5 (OpenSpec.ofChange Rows.fnExactReadProofSpec) false w args) (Rows.fnExactReadProofSpec.post enc Tryd.prog Tryd.f5 false true false false) := by
  refine returns_glob (C := Tryd.checked) (X := fun w _ => laidMetH Tryd.prog Rows.fnExactReadProofRow.laid w) (fun _ _ _ hh h => h.of_heap hh) own started (by kernel_rfl) Tryd.func5
    (ChangeSpec.witness_shaped (enc := enc) (C := Tryd.checked) (os := os) (X := fun w _ => laidMetH Tryd.prog Rows.fnExactReadProofRow.laid w) false (World.laidAll Tryd.prog os Rows.fnExactReadProofRow.laid) #[.string ⟨#[]⟩] 8 (World.laidAll_os _ _ _)
      (World.shaped_of_ZipB (by kernel_rfl) (by kernel_rfl)) (by kernel_rfl) (by kernel_rfl) (by kernel_rfl)
      (by rw [MakeChecks.laidMetH_plain _ _ _ (by kernel_rfl)]; exact laidMet_laidAll _ (by kernel_rfl) (by kernel_rfl))) ?_
  intro W base args ds gs before hval0 hW hcnd hL hsh
  rw [MakeChecks.laidMetH_plain _ _ _ (by kernel_rfl)] at hL
  have hG : GlobE Tryd.prog W := ⟨⟨hsh, tab_of_reads (g := 3) (by kernel_rfl) (by kernel_rfl) Tryd.underlying136 Tryd.underlying116 (by kernel_rfl) (by kernel_rfl) (Lib.laidMet.reads hL (.tail _ (.tail _ (.head _))))⟩, iface_of_reads (g := 4) (by kernel_rfl) (by kernel_rfl) Tryd.underlying79 (Lib.laidMet.reads hL (.tail _ (.tail _ (.tail _ (.tail _ (.tail _ (.head _))))))),
    iface_of_reads (g := 5) (by kernel_rfl) (by kernel_rfl) Tryd.underlying79 (Lib.laidMet.reads hL (.tail _ (.tail _ (.tail _ (.tail _ (.head _))))))⟩
  have hval : ∀ (j : Nat) t v, Tryd.f5.params[j]? = some t → args[j]? = some v → Value.okWide Tryd.prog W .any base t v := hval0
  have hW' := hW
  obtain ⟨p, q, hA0, hV, rfl, hfz, hnd⟩ := hW
  have hA : DataW.TrodAll enc Tryd.prog W 0 (fun _ => true) true Tryd.f5.params.toList args.toList ds p := hA0
  rw [Tryd.params5] at hA hval
  obtain ⟨v0, d0, rfl, rfl, h0⟩ := trodAll_one hA
  obtain ⟨rfl, rfl⟩ := trodVars_none hV
  obtain ⟨n0, rfl⟩ := okWide_string Tryd.underlying9 (hval 0 9 v0 rfl rfl)
  obtain ⟨fuel0, hf0⟩ := id h0
  obtain ⟨y0, hy0, g0⟩ := brg9.2 _ enc W 0 _ true fuel0 _ _ hf0
  obtain rfl : n0 = (⟨y0.toArray⟩ : ByteArray) := by injection (show [Value.string n0] = [Value.string ⟨y0.toArray⟩] from hy0) with e1 _; injection e1
  clear hA0 hval0
  simp only [List.append_nil] at hW'
  have hlt := whole_lt hW'
  obtain ⟨n, hm⟩ := law_ReadProof g0
  refine (laws_FnExactReadProof_ok hG  hm).mono fun e W' ⟨he, HH⟩ => ?_
  subst he
  exact ⟨_, rfl, post_ext hW' rfl rfl rfl Tryd.underlying4 HH.ext (trodAll_mk1 (Below.trod laidOut (by kernel_rfl) (of_decide_eq_true (by kernel_rfl)) h0 HH.ext.below hlt))⟩
theorem c_named : Tryd.prog.funcNamed "loop.example/g01075/laws.FnExactReadProof" = some 5 := by kernel_rfl
theorem c_lift2 : (Rows.fnExactReadProofRow.lifted == Tryd.prog.liftsFinal) = true := by rw [c_lift]; rfl
theorem c_make2 : (Tryd.prog.make == some Rows.fnExactReadProofRow.make) = true := by rw [c_make]; rfl
set_option maxRecDepth 100000 in
set_option maxHeartbeats 4000000 in
theorem c_closed : joinedFacts Tryd.prog 5 Tryd.f5 Rows.fnExactReadProofSpec Rows.fnExactReadProofRow = true := by
  simp only [joinedFacts, Bool.and_eq_true]
  repeat' apply And.intro
  all_goals first | (with_reducible exact c_enter) | (with_reducible exact laidOut) | (with_reducible exact c_rowed) | (with_reducible exact c_lift2) | (with_reducible exact c_make2) | (as_aux_lemma => kernel_rfl)
theorem c_inst : Tryd.f5.isInstance Tryd.prog Rows.fnExactReadProofRow.origin Rows.fnExactReadProofRow.targs := of_decide_eq_true (by kernel_rfl)
theorem c_wrap : Tryd.f5.isWrapper Tryd.prog Rows.fnExactReadProofRow.wrapper Rows.fnExactReadProofRow.mainSum := by unfold Func.isWrapper; rw [if_neg (by decide +kernel)]; exact ⟨rfl, rfl⟩
theorem row_holds : Rows.FnExactReadProofSaid :=
  OpenClaim.holds_of_wide 5 Tryd.f5 rfl rfl rfl rfl rfl rfl rfl ⟨rfl, rfl, rfl, rfl, rfl⟩ rfl rfl rfl rfl rfl c_named Tryd.func5 c_closed c_inst c_wrap
    (fun os started H enc _ => lifted os started H enc)
theorem c_wf : Rows.fnExactReadProofRow.wfByText (OpenSpec.ofChange Rows.fnExactReadProofSpec) = true := by kernel_rfl
theorem c_goes : false = Rows.fnExactReadProofRow.goesBy Tryd.pinned.checked.prog := by kernel_rfl
end JFnExactReadProof
open JFnExactReadProof JS in
theorem holds21 : Rows.FnExactReadProofCardSaid :=
  Claim7.holds_tied_plain_at .later [] [.data, .data, .data, .data, .sentinel, .sentinel, .pinned] true (true, "8b7ebb5f4431836b2c2a444e4b77c0fa77646bbff191e633e79fd26cb0b3a3dd") true row_holds (fun _ h => by cases h) c_wf (fun _ h => by cases h) fnExactReadProof_row_tie rfl ⟨rfl, rfl⟩ c_main rfl
    (fun f fn hf hfn => by
      obtain rfl : f = 5 := Option.some.inj (c_named.symm.trans hf) |>.symm
      obtain rfl : fn = Tryd.f5 := (Option.some.inj (Tryd.func5.symm.trans hfn)).symm
      exact ⟨c_looks, fun j t ht => by
        rw [Tryd.params5] at ht
        have hm : t ∈ [9] := by simpa using Array.mem_of_getElem? ht
        have hall : ([9].all fun u => !Tryd.prog.wantsStandIn u) = true := by kernel_rfl
        exact (show Tryd.prog.wantsStandIn t = false by simpa using List.all_eq_true.1 hall t hm)⟩)
    (by kernel_rfl)
end Go.Proofs.YtepcckhcocjgaaaDoor
