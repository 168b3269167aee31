/-
  FnExactReadLts: its row holds.
-/
import Derived.Test.YtlmopoaeekhmeaaGreatDoorLReadLts
import Derived.Test.YtlmopoaeekhmeaaGreatDoorS33
import Derived.Test.YtlmopoaeekhmeaaGreatDoorGxP
import Derived.Test.YtlmopoaeekhmeaaGreatDoorGxV
import Derived.Lay
import Derived.Test.YtlmopoaeekhmeaaGreatDoorTie
import Derived.Test.YtlmopoaeekhmeaaGreatDoorCards
import Derived.Test.YtlmopoaeekhmeaaGreatDoorJS
namespace Go.Proofs.YtlmopoaeekhmeaaGreatDoor
open Go.Gx Go.RowKit Go.ChangeShapes Go.WideShapes Go.ChangeAt
namespace JFnExactReadLts
open JS
theorem brg9 : Brg Tryz.prog 9 rStr gStr := brg_str Tryz.underlying9 (by kernel_rfl)
set_option maxRecDepth 100000 in
theorem lifted (os : Os) (started : os.Started) (H : Type) (enc : TypeId × Value → H) :
    ReturnsInHanded {} Tryz.checked os 3 .any (fun w args => (Rows.fnExactReadLtsSpec.pre enc Tryz.prog Tryz.f3 [] false w args ∧ laidMetH Tryz.prog Rows.fnExactReadLtsRow.laid w) ∧ sizedMet enc Tryz.prog Tryz.f3 (OpenSpec.ofChange Rows.fnExactReadLtsSpec) false w args) (Rows.fnExactReadLtsSpec.post enc Tryz.prog Tryz.f3 false true false false) := by
  refine returns_glob (C := Tryz.checked) (X := fun w _ => laidMetH Tryz.prog Rows.fnExactReadLtsRow.laid w) (fun _ _ _ hh h => h.of_heap hh) own started (by kernel_rfl) Tryz.func3
    (ChangeSpec.witness_shaped (enc := enc) (C := Tryz.checked) (os := os) (X := fun w _ => laidMetH Tryz.prog Rows.fnExactReadLtsRow.laid w) false (World.laidAll Tryz.prog os Rows.fnExactReadLtsRow.laid) #[.string ⟨#[]⟩] 8 (World.laidAll_os _ _ _)
      (World.shaped_of_ZipB (by kernel_rfl) (by kernel_rfl)) (by kernel_rfl) (by kernel_rfl) (by kernel_rfl)
      (by rw [MakeChecks.laidMetH_plain _ _ _ (by kernel_rfl)]; exact laidMet_laidAll _ (by kernel_rfl) (by kernel_rfl))) ?_
  intro W base args ds gs before hval0 hW hcnd hL hsh
  rw [MakeChecks.laidMetH_plain _ _ _ (by kernel_rfl)] at hL
  have hG : GlobE Tryz.prog W := ⟨⟨hsh, tab_of_reads (g := 5) (by kernel_rfl) (by kernel_rfl) Tryz.underlying136 Tryz.underlying106 (by kernel_rfl) (by kernel_rfl) (Lib.laidMet.reads hL (.tail _ (.tail _ (.head _))))⟩, iface_of_reads (g := 3) (by kernel_rfl) (by kernel_rfl) Tryz.underlying71 (Lib.laidMet.reads hL (.tail _ (.tail _ (.tail _ (.tail _ (.tail _ (.head _))))))),
    iface_of_reads (g := 4) (by kernel_rfl) (by kernel_rfl) Tryz.underlying71 (Lib.laidMet.reads hL (.tail _ (.tail _ (.tail _ (.tail _ (.head _))))))⟩
  have hval : ∀ (j : Nat) t v, Tryz.f3.params[j]? = some t → args[j]? = some v → Value.okWide Tryz.prog W .any base t v := hval0
  have hW' := hW
  obtain ⟨p, q, hA0, hV, rfl, hfz, hnd⟩ := hW
  have hA : DataW.TrodAll enc Tryz.prog W 0 (fun _ => true) true Tryz.f3.params.toList args.toList ds p := hA0
  rw [Tryz.params3] at hA hval
  obtain ⟨v0, d0, rfl, rfl, h0⟩ := trodAll_one hA
  obtain ⟨rfl, rfl⟩ := trodVars_none hV
  obtain ⟨n0, rfl⟩ := okWide_string Tryz.underlying9 (hval 0 9 v0 rfl rfl)
  obtain ⟨fuel0, hf0⟩ := id h0
  obtain ⟨y0, hy0, g0⟩ := brg9.2 _ enc W 0 _ true fuel0 _ _ hf0
  obtain rfl : n0 = (⟨y0.toArray⟩ : ByteArray) := by injection (show [Value.string n0] = [Value.string ⟨y0.toArray⟩] from hy0) with e1 _; injection e1
  clear hA0 hval0
  simp only [List.append_nil] at hW'
  have hlt := whole_lt hW'
  obtain ⟨n, hm⟩ := law_ReadLts g0
  refine (laws_FnExactReadLts_ok hG  hm).mono fun e W' ⟨he, HH⟩ => ?_
  subst he
  exact ⟨_, rfl, post_ext hW' rfl rfl rfl Tryz.underlying4 HH.ext (trodAll_mk1 (Below.trod laidOut (by kernel_rfl) (of_decide_eq_true (by kernel_rfl)) h0 HH.ext.below hlt))⟩
theorem c_named : Tryz.prog.funcNamed "loop.example/g01075/laws.FnExactReadLts" = some 3 := by kernel_rfl
theorem c_lift2 : (Rows.fnExactReadLtsRow.lifted == Tryz.prog.liftsFinal) = true := by rw [c_lift]; rfl
theorem c_make2 : (Tryz.prog.make == some Rows.fnExactReadLtsRow.make) = true := by rw [c_make]; rfl
set_option maxRecDepth 100000 in
set_option maxHeartbeats 4000000 in
theorem c_closed : joinedFacts Tryz.prog 3 Tryz.f3 Rows.fnExactReadLtsSpec Rows.fnExactReadLtsRow = true := by
  simp only [joinedFacts, Bool.and_eq_true]
  repeat' apply And.intro
  all_goals first | (with_reducible exact c_enter) | (with_reducible exact laidOut) | (with_reducible exact c_rowed) | (with_reducible exact c_lift2) | (with_reducible exact c_make2) | (as_aux_lemma => kernel_rfl)
theorem c_inst : Tryz.f3.isInstance Tryz.prog Rows.fnExactReadLtsRow.origin Rows.fnExactReadLtsRow.targs := of_decide_eq_true (by kernel_rfl)
theorem c_wrap : Tryz.f3.isWrapper Tryz.prog Rows.fnExactReadLtsRow.wrapper Rows.fnExactReadLtsRow.mainSum := by unfold Func.isWrapper; rw [if_neg (by decide +kernel)]; exact ⟨rfl, rfl⟩
theorem row_holds : Rows.FnExactReadLtsSaid :=
  OpenClaim.holds_of_wide 3 Tryz.f3 rfl rfl rfl rfl rfl rfl rfl ⟨rfl, rfl, rfl, rfl, rfl⟩ rfl rfl rfl rfl rfl c_named Tryz.func3 c_closed c_inst c_wrap
    (fun os started H enc _ => lifted os started H enc)
theorem c_wf : Rows.fnExactReadLtsRow.wfByText (OpenSpec.ofChange Rows.fnExactReadLtsSpec) = true := by kernel_rfl
theorem c_goes : false = Rows.fnExactReadLtsRow.goesBy Tryz.pinned.checked.prog := by kernel_rfl
end JFnExactReadLts
open JFnExactReadLts JS in
theorem holds33 : Rows.FnExactReadLtsCardSaid :=
  Claim7.holds_tied_plain_at .later [] [.data, .data, .data, .data, .sentinel, .sentinel, .pinned] true (true, "4a50013815471774f7f448c941ce33434dd5d92962529dd9e99d3dbd40eab191") true row_holds (fun _ h => by cases h) c_wf (fun _ h => by cases h) fnExactReadLts_row_tie rfl ⟨rfl, rfl⟩ c_main rfl
    (fun f fn hf hfn => by
      obtain rfl : f = 3 := Option.some.inj (c_named.symm.trans hf) |>.symm
      obtain rfl : fn = Tryz.f3 := (Option.some.inj (Tryz.func3.symm.trans hfn)).symm
      exact ⟨c_looks, fun j t ht => by
        rw [Tryz.params3] at ht
        have hm : t ∈ [9] := by simpa using Array.mem_of_getElem? ht
        have hall : ([9].all fun u => !Tryz.prog.wantsStandIn u) = true := by kernel_rfl
        exact (show Tryz.prog.wantsStandIn t = false by simpa using List.all_eq_true.1 hall t hm)⟩)
    (by kernel_rfl)
end Go.Proofs.YtlmopoaeekhmeaaGreatDoor
