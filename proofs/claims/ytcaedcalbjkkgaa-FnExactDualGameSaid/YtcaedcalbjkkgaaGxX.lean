/-
  Package variables of the library that calls look at; errors; the library's contracts over strings.
-/
import Derived.Test.YtcaedcalbjkkgaaGxT
import Derived.Lib.LaidTab
import Derived.ShapedOpen
import Derived.ChangeAgain
import Derived.LaidEql
import Derived.Lib.ConvBytes
import Derived.Lib.ItoaNum
namespace Go.Gx
open Go.RowKit

/-- What is known of the package variables. -/
structure Glob (P : Program) (w : World) : Prop where
  shaped : w.ShapedOpen P
  pow : Lib.TabIs P w "internal/strconv.uint64pow10" .u64 Lib.pow10Tab
/-- The same, and of the errors of reading numbers. -/
structure GlobE (P : Program) (w : World) : Prop extends Glob P w where
  syn : ∃ t p, w.var? P "strconv.ErrSyntax" = some #[.iface t p]
  rng : ∃ t p, w.var? P "strconv.ErrRange" = some #[.iface t p]

theorem var_ext [dr : Dr] {P : Program} {w w' : World} {n : String} {cs : Array Value} (h : w.var? P n = some cs) (he : Ext w w') : w'.var? P n = some cs := by
  unfold World.var? at *
  cases hg : P.globalNamed n with
  | none => rw [hg] at h; cases h
  | some g =>
    rw [hg] at h
    simp only [Option.bind_some] at h ⊢
    have hlt : g < w.heap.size := by
      by_cases hlt : g < w.heap.size
      · exact hlt
      · rw [Array.getElem?_eq_none (by omega)] at h; cases h
    rw [he.block hlt]
    exact h

theorem Glob.ext [dr : Dr] {P : Program} {w w' : World} (h : Glob P w) (he : Ext w w') : Glob P w' :=
  ⟨h.shaped.keptBut (Below.frame he.below fun _ => False) (fun _ hp => hp.elim), var_ext h.pow he⟩
theorem GlobE.ext [dr : Dr] {P : Program} {w w' : World} (h : GlobE P w) (he : Ext w w') : GlobE P w' :=
  ⟨h.toGlob.ext he, by obtain ⟨t, p, hv⟩ := h.syn; exact ⟨t, p, var_ext hv he⟩, by obtain ⟨t, p, hv⟩ := h.rng; exact ⟨t, p, var_ext hv he⟩⟩

theorem ext_drewN [dr : Dr] (w : World) (n : Nat) : Ext w (w.drewN n) := by
  exact ⟨⟨rfl, rfl, rfl, Nat.le_refl _, fun _ _ => rfl⟩, fun _ => Nat.le_add_right _ _⟩
theorem ext_grow [dr : Dr] (w : World) (n : Nat) (os : Array Obj) : Ext w (Sort.grow (w.drewN n) os) := by
  refine ⟨⟨rfl, rfl, rfl, by simp [Sort.grow, World.drewN], fun b hb => ?_⟩, fun _ => Nat.le_add_right _ _⟩
  simp only [Sort.grow, World.drewN]
  rw [Array.getElem?_append_left hb]

theorem ext_bytes [dr : Dr] (w : World) (e : TypeId) (s : ByteArray) : Ext w (Lib.bytesWorld w e s) := by
  refine ⟨⟨rfl, rfl, rfl, by simp [Lib.bytesWorld, World.freeze], fun b hb => ?_⟩, fun _ => by simp only [Lib.bytesWorld, World.freeze]; rw [if_neg (by decide)]; exact Nat.le_succ _⟩
  have hne : ¬ w.heap.size = b := by omega
  simp only [Lib.bytesWorld, World.freeze]
  rw [if_neg (by decide)]
  show ((w.drew.alloc (Obj.cells (Lib.bytesCells w e s) e)).heap.modify w.heap.size _)[b]? = _
  rw [Array.getElem?_modify, if_neg hne]
  exact Below.heap_alloc w _ b hb

theorem Heap.of_ext [dr : Dr] {w w' : World} (h : Ext w w') : Heap w [] w' := ⟨h, [], rfl, List.nodup_nil, by simp⟩

/-- An error: nil or not. -/
def IsErr (v : Value) (b : Bool) : Prop := (b = false ∧ v = .nilIface) ∨ (b = true ∧ ∃ t p, v = .iface t p)

section
variable {P : Program} {N : Nat} {env : List (Nat × Value)} {C : World → Prop} {x y : Operand} {v : Value} {t yt : TypeId} {b : Bool} {ms : Array (String × TypeId)}
theorem eq_nil_nil (w : World) (hu : P.underlying t = some (.interface ms)) : (Op.equal t .nilIface .nilIface).run P w = .ok true w := by
  have h : ∀ d : Nat, (Op.equalIn (d + 1) t .nilIface .nilIface).run P w = .ok true w := fun d => by simp [Op.equalIn, run_underlying hu]
  simp [Op.equal, Op.maxDepth, h 9999]
theorem eq_iface_nil (w : World) {ti : TypeId} {p : Value} (hu : P.underlying t = some (.interface ms)) : (Op.equal t (.iface ti p) .nilIface).run P w = .ok false w := by
  have h : ∀ d : Nat, (Op.equalIn (d + 1) t (.iface ti p) .nilIface).run P w = .ok false w := fun d => by simp [Op.equalIn, run_underlying hu]
  simp [Op.equal, Op.maxDepth, h 9999]
theorem q_errneq (hx : ev env x = some v) (hv : IsErr v b) (hu : P.underlying t = some (.interface ms)) : Q1 P N env C (.binOp .neq t x (.const .nilIface) yt) (.bool b) := fun o ho a w S _ => .inl (by
  rcases hv with ⟨rfl, rfl⟩ | ⟨rfl, ti, p, rfl⟩
  · have h : (binOp .neq t .nilIface .nilIface).run P w = .ok (.bool false) w := by simp only [binOp]; simp [eq_nil_nil w hu]
    have hc : a.eval (.const .nilIface) = Value.nilIface := rfl
    simp [execOp, ho, S.eval hx, hc, eqGuard, h]
  · have h : (binOp .neq t (.iface ti p) .nilIface).run P w = .ok (.bool true) w := by simp only [binOp]; simp [eq_iface_nil w hu]
    have hc : a.eval (.const .nilIface) = Value.nilIface := rfl
    simp [execOp, ho, S.eval hx, hc, eqGuard, h])
theorem q_erreql (hx : ev env x = some v) (hv : IsErr v b) (hu : P.underlying t = some (.interface ms)) : Q1 P N env C (.binOp .eql t x (.const .nilIface) yt) (.bool (!b)) := fun o ho a w S _ => .inl (by
  rcases hv with ⟨rfl, rfl⟩ | ⟨rfl, ti, p, rfl⟩
  · have h : (binOp .eql t .nilIface .nilIface).run P w = .ok (.bool true) w := by simp only [binOp]; simp [eq_nil_nil w hu]
    have hc : a.eval (.const .nilIface) = Value.nilIface := rfl
    simp [execOp, ho, S.eval hx, hc, eqGuard, h]
  · have h : (binOp .eql t (.iface ti p) .nilIface).run P w = .ok (.bool false) w := by simp only [binOp]; simp [eq_iface_nil w hu]
    have hc : a.eval (.const .nilIface) = Value.nilIface := rfl
    simp [execOp, ho, S.eval hx, hc, eqGuard, h])
end

/-! ### strings that a contract hands back -/
theorem sv_mk (s : Str) : sv s = .string ⟨s.toArray⟩ := rfl
theorem sv_of (b : ByteArray) : Value.string b = sv b.data.toList := by unfold sv; rw [Array.toArray_toList]

/-- A row of strings in a new block. -/
theorem own_strs [dr : Dr] {w : World} {e : TypeId} {xs : List Str} {n : Nat} (hn : xs.length = n) (hm : n ≤ maxLen) (bs : List ByteArray) (hb : bs.map Value.string = xs.map sv) :
    Heap w [oA (rList rStr) (.slice (some ⟨w.heap.size, 0, none⟩) n n) xs] (w.alloc (.cells (bs.map Value.string).toArray e)) := by
  have H := (Heap.start w).alloc (.cells (bs.map Value.string).toArray e) (A := oA (rList rStr) (.slice (some ⟨w.heap.size, 0, none⟩) n n) xs) ?_
  · exact H
  · refine oA_list.2 (.inr ⟨w.heap.size, 0, n, (bs.map Value.string).toArray, e, [], xs.map sv, by rw [hn], rfl, heap_alloc_new w _, ?_, by omega, hm, ?_, enc_str.ownL.2 ⟨rfl, rfl⟩⟩)
    · have : (bs.map Value.string).length = n := by rw [hb]; simpa using hn
      simp at this
      simp [rStr, this]
    · rw [hb]; simp [rStr, List.take_of_length_le]

/-- The cells of strings that are read. -/
theorem Rd.strs {w : World} {v : Value} {xs : List Str} (h : Rd (rList rStr) w v xs) : (xs = [] ∧ ∃ A c, v = .slice A 0 c) ∨ ∃ a c, v = .slice (some a) xs.length c ∧ xs.length ≤ c ∧ a.block < w.heap.size ∧ ∀ j x, xs[j]? = some x → w.cell? (a.add j) = some (sv x) := by
  obtain ⟨cs, hv, A, c, rfl, hc, h2⟩ := h
  have hv' : v = .slice A xs.length c := hv
  rcases h2 with rfl | ⟨p, cc, rfl, hb, hcell, hL⟩
  · exact .inl ⟨rfl, A, c, hv'⟩
  · refine .inr ⟨p, c, hv', hc, hb, fun j x hx => ?_⟩
    obtain ⟨cx, h3, h4⟩ := rdL_get hL hx
    have h3' : cx = [sv x] := h3
    have := h4 0 (sv x) (by rw [h3']; rfl)
    have e : rStr.size = 1 := rfl
    rw [e, Nat.mul_one, Nat.add_zero] at this
    exact hcell j _ this
end Go.Gx
