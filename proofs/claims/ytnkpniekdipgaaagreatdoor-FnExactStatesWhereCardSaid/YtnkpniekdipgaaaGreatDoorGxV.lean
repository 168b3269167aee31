/-
  The last step of a statement whose row lists package variables.
-/
import Derived.Test.YtnkpniekdipgaaaGreatDoorGxP
import Derived.Test.YtnkpniekdipgaaaGreatDoorGxX
import Derived.ProofKit
import Derived.Handed
import Derived.Lib.LaidU8
import Derived.Lib.LaidTab
import Derived.SevenTiedAt
import Derived.LaidOnce
namespace Go.Gx
open Go.RowKit Go.ChangeShapes Go.WideShapes
variable {H : Type} {enc : TypeId × Value → H}

theorem returns_glob {a : Assume} {C : Checked} {os : Os} {f : FuncId} {fn : Func} {s : ChangeSpec} {conds : List PathCond} {apart fresh handsOn again : Bool} {X : World → Array Value → Prop}
    (hX : ∀ (w w' : World) (args : Array Value), w.heap = w'.heap → X w args → X w' args)
    (own : ownKnob C.prog.godebug = none) (started : os.Started) (noInit : C.prog.inits.idxOf? f = none) (hfn : C.prog.funcs[f]? = some fn)
    (witness : ∃ (w : World) (tape : Tape) (i : Input), w.os = os ∧ (w.forCall tape i).Shaped C.prog ∧ i.vars = [] ∧ Input.okWide C.prog (w.forCall tape i) .any w.heap.size f i ∧
      ((s.pre enc C.prog fn conds apart (w.forCall tape i).memory i.args ∧ X (w.forCall tape i).memory i.args) ∧ sizedMet enc C.prog fn (OpenSpec.ofChange s) apart (w.forCall tape i).memory i.args) ∧ a.holds C.prog (lone (Frame.enter C.prog f i.args .normal) [] (w.forCall tape i)))
    (contract : ∀ (W : World) (base : Nat) (args : Array Value) (ds gs : List (DataW H)) (before : List MemPlace),
      (∀ (j : Nat) t v, fn.params[j]? = some t → args[j]? = some v → Value.okWide C.prog W .any base t v) →
      DataW.Whole enc C.prog fn.params.toList s.vars apart W args.toList ds gs before →
      conds.all (PathCond.test C.prog ⟨fn.params.toList, ds, s.plain.varTypes C.prog, gs⟩) = true → X W args → W.ShapedOpen C.prog →
      Calls C.prog f args W fun e W' => ∃ v, e = .returned v ∧ s.post enc C.prog fn apart fresh handsOn again W args v W') :
    ReturnsInHanded a C os f .any (fun w args => (s.pre enc C.prog fn conds apart w args ∧ X w args) ∧ sizedMet enc C.prog fn (OpenSpec.ofChange s) apart w args) (s.post enc C.prog fn apart fresh handsOn again) := by
  refine returnsInHanded_of_calls own started noInit witness ?_
  intro w tape i _ hsh _ hok hpre hholds
  obtain ⟨_, _, _, fn', hfn', _, _, _, _, hval⟩ := hok
  have e : fn' = fn := Option.some.inj (hfn'.symm.trans hfn)
  subst e
  obtain ⟨⟨⟨ds, gs, before, hw, hc⟩, hx⟩, hz⟩ := hpre
  have hw' := DataW.Whole.of_heap (w' := w.forCall tape i) (by rfl) hw
  refine (contract (w.forCall tape i) w.heap.size i.args ds gs before hval hw' hc (hX _ _ _ (by rfl) hx) hsh).mono fun e W' ⟨v, he, hp⟩ => ?_
  subst he
  exact ChangeSpec.post_blind hp

theorem tab_of_reads {P : Program} {W : World} {name : String} {k : IntKind} {zs : List Int} {g : Nat} {t e : TypeId} {n : Nat}
    (hg : P.globalNamed name = some g) (hty : (P.globals[g]?).map (·.type) = some t) (ht : P.underlying t = some (.array n e)) (he : P.underlying e = some (.int k)) (hce : P.cellsOf e = 1) (hct : P.cellsOf t = n)
    (h : Lib.VarReads P W name (Lib.tabData k zs)) : Lib.TabIs P W name k zs := by
  obtain ⟨g', t', cs, fuel, p, hg', ht', hvar, hd⟩ := h
  obtain rfl := Option.some.inj (hg.symm.trans hg')
  obtain rfl := Option.some.inj (hty.symm.trans ht')
  unfold Lib.TabIs
  rw [hvar, ← Lib.cells_of_tab ht he hce hct hd]

theorem iface_of_reads {P : Program} {W : World} {name nm : String} {d : DataW Unit} {g : Nat} {t : TypeId} {ms : Array (String × TypeId)}
    (hg : P.globalNamed name = some g) (hty : (P.globals[g]?).map (·.type) = some t) (ht : P.underlying t = some (.interface ms))
    (h : Lib.VarReads P W name (.iface nm d)) : ∃ ti p, W.var? P name = some #[.iface ti p] := by
  obtain ⟨g', t', cs, fuel, p, hg', ht', hvar, hd⟩ := h
  obtain rfl := Option.some.inj (hg.symm.trans hg')
  obtain rfl := Option.some.inj (hty.symm.trans ht')
  rw [hvar]
  cases fuel with
  | zero => simp [DataW.trod] at hd
  | succ fuel =>
    unfold DataW.trod at hd
    rw [ht] at hd
    have key : ∀ l : List Value, cs.toList = l → ∃ ti p, some cs = some #[Value.iface ti p] := by
      intro l hl
      rw [hl] at hd
      match l, hl, hd with
      | [.iface u v], hl, _ => exact ⟨u, v, by rw [← Array.toArray_toList (xs := cs), hl]⟩
      | [.nilIface], _, hd => simp at hd
    exact key _ rfl

/-! ### the head of a dump -/
abbrev spc : Char := Char.ofNat 32
theorem ws_word : ∀ (a r : List Char), (∀ c ∈ a, c ≠ spc) → wordsSigns (a ++ spc :: r) = a :: wordsSigns r
  | [], r, _ => rfl
  | c :: a, r, h => by
    have ih := ws_word a r fun d hd => h d (List.mem_cons_of_mem _ hd)
    have hc : c ≠ spc := h c List.mem_cons_self
    rw [List.cons_append]
    conv => lhs; unfold wordsSigns
    split
    · rename_i e; cases e
    · rename_i e
      exact absurd (List.cons.inj e).1 hc
    · rename_i c' r' _ e
      obtain ⟨rfl, rfl⟩ := List.cons.inj e
      rw [ih]

theorem head_words {P : Program} {s : String} {n : Nat} (sum : String) (h : P.initOrder.toList.take n = s.toList) (hs : s.toList = "harness".toList ++ spc :: (sum.toList ++ spc :: ("cut".toList ++ [spc])))
    (h2 : (sum.toList.all fun c => c != spc) = true) : ∃ T, wordsSigns P.initOrder.toList = "harness".toList :: sum.toList :: "cut".toList :: T := by
  refine ⟨wordsSigns (P.initOrder.toList.drop n), ?_⟩
  conv => lhs; rw [← List.take_append_drop n P.initOrder.toList, h, hs]
  have e : ("harness".toList ++ spc :: (sum.toList ++ spc :: ("cut".toList ++ [spc]))) ++ P.initOrder.toList.drop n = "harness".toList ++ spc :: (sum.toList ++ spc :: ("cut".toList ++ spc :: P.initOrder.toList.drop n)) := by simp
  rw [e, ws_word _ _ (by decide +kernel), ws_word _ _ (fun c hc => by rw [List.all_eq_true] at h2; simpa using h2 c hc), ws_word _ _ (by decide +kernel)]

theorem main_is {P : Program} {sum : String} {T : List (List Char)} (h : wordsSigns P.initOrder.toList = "harness".toList :: sum.toList :: "cut".toList :: T) (h1 : isSumSigns sum.toList = true) : P.mainIs = some (true, sum.toList) := by
  unfold Program.mainIs
  rw [h]
  simp only [h1]
  rfl

theorem strip_cut (T : List (List Char)) : stripLifts liftWords ("cut".toList :: T) = ([], "cut".toList :: T) := by rfl
theorem may_enter {P : Program} {sum : String} {T : List (List Char)} (h : wordsSigns P.initOrder.toList = "harness".toList :: sum.toList :: "cut".toList :: T) (h1 : isSumSigns sum.toList = true)
    (h2 : P.laysLater = false) (h3 : P.bearsReflect = false) (h4 : P.doorFits [] = true) : P.mayEnter = true := by
  have e : behindMainWord (wordsSigns P.initOrder.toList) = "cut".toList :: T := by
    rw [h]
    simp only [behindMainWord, h1, beq_self_eq_true, Bool.true_or, Bool.and_true, if_true]
  unfold Program.mayEnter
  rw [e]
  simp only [strip_cut, h2, h3, h4]
  simp

theorem main_word {P : Program} {sum : String} {T : List (List Char)} (h : wordsSigns P.initOrder.toList = "harness".toList :: sum.toList :: "cut".toList :: T) (h1 : isSumSigns sum.toList = true) : behindMainWord (wordsSigns P.initOrder.toList) = "cut".toList :: T := by
  rw [h]
  simp only [behindMainWord, h1, beq_self_eq_true, Bool.true_or, Bool.and_true, if_true]
theorem lifts_final {P : Program} {sum : String} {T : List (List Char)} (h : wordsSigns P.initOrder.toList = "harness".toList :: sum.toList :: "cut".toList :: T) (h1 : isSumSigns sum.toList = true) : P.liftsFinal = false := by
  unfold Program.liftsFinal Program.headLifts
  rw [main_word h h1]
  simp only [strip_cut]
  rfl
theorem make_cut {P : Program} {sum : String} {T : List (List Char)} (h : wordsSigns P.initOrder.toList = "harness".toList :: sum.toList :: "cut".toList :: T) (h1 : isSumSigns sum.toList = true) : P.make = some .cut := by
  unfold Program.make
  rw [main_word h h1]
  rfl
end Go.Gx
