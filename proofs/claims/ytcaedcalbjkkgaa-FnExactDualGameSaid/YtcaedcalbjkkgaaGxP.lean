/-
  From the reading of an argument as data to the reading that the walks use; and the row's last step.
-/
import Derived.Test.YtcaedcalbjkkgaaGxO
import Derived.Deep.Slices
import Derived.ProofKit
import Derived.Carry
namespace Go.Gx
open Go.RowKit Go.ChangeShapes Go.WideShapes Go.Deep

/-- Whatever reads as data of type t reads by r too, and what it reads as is good. -/
def Brg {α : Type} (P : Program) (t : TypeId) (r : Rep α) (g : α → Prop) : Prop :=
  P.cellsOf t = r.size ∧ ∀ (H : Type) (enc : TypeId × Value → H) (W : World) (base : Nat) (sp : Nat → Bool) (hd : Bool) (fuel : Nat) (cs : List Value) (x : DataW H × List MemPlace),
    DataW.trod enc P W base sp hd fuel t cs = some x → ∃ y, r.rd W.heap.size W cs y ∧ g y

/-- What is known of two parts, of every element. -/
@[reducible] def gAnd {α β : Type} (g : α → Prop) (g' : β → Prop) : α × β → Prop := fun y => g y.1 ∧ g' y.2
@[reducible] def gAny {α : Type} : α → Prop := fun _ => True
@[reducible] def gInt (k : IntKind) : Int → Prop := fun n => (Lit.int k n).wf = true
@[reducible] def gStr : Str → Prop := fun s => s.length ≤ maxLen
@[reducible] def gList {α : Type} (g : α → Prop) : List α → Prop := fun ys => ys.length ≤ maxLen ∧ ∀ y ∈ ys, g y

/-- .. of the fields of a struct, from the cell 'off' on. -/
def BrgF {α : Type} (P : Program) (fs : List Field) (off : Nat) (r : Rep α) (g : α → Prop) : Prop :=
  ∀ (H : Type) (enc : TypeId × Value → H) (W : World) (base : Nat) (sp : Nat → Bool) (hd : Bool) (fuel : Nat) (cs : List Value) (xs : List (DataW H × List MemPlace)),
    fs.mapM (fun f => DataW.trod enc P W base sp hd fuel f.type ((cs.drop f.offset).take (P.cellsOf f.type))) = some xs → ∃ y, r.rd W.heap.size W ((cs.drop off).take r.size) y ∧ g y

section
variable {P : Program} {t e : TypeId} {α β : Type} {r : Rep α} {s : Rep β} {g : α → Prop} {g' : β → Prop}

theorem brg_int {k : IntKind} (ht : P.underlying t = some (.int k)) (hc : P.cellsOf t = 1) : Brg P t (rInt k) (gInt k) := by
  refine ⟨hc, fun H enc W base sp hd fuel cs x h => ?_⟩
  obtain ⟨n, rfl, hw⟩ : ∃ n, cs = [.int k n] ∧ (Lit.int k n).wf = true := by
    cases fuel with
    | zero => simp [DataW.trod] at h
    | succ fuel =>
      unfold DataW.trod at h
      rw [ht] at h
      split at h <;> simp_all
  exact ⟨n, rfl, hw⟩

theorem brg_bool (ht : P.underlying t = some .bool) (hc : P.cellsOf t = 1) : Brg P t rBool gAny := by
  refine ⟨hc, fun H enc W base sp hd fuel cs x h => ?_⟩
  obtain ⟨n, rfl⟩ : ∃ n, cs = [.bool n] := by
    cases fuel with
    | zero => simp [DataW.trod] at h
    | succ fuel =>
      unfold DataW.trod at h
      rw [ht] at h
      split at h <;> simp_all
  exact ⟨n, rfl, trivial⟩

theorem brg_str (ht : P.underlying t = some .string) (hc : P.cellsOf t = 1) : Brg P t rStr gStr := by
  refine ⟨hc, fun H enc W base sp hd fuel cs x h => ?_⟩
  obtain ⟨n, rfl, hw⟩ : ∃ n, cs = [.string n] ∧ n.size ≤ maxLen := by
    cases fuel with
    | zero => simp [DataW.trod] at h
    | succ fuel =>
      unfold DataW.trod at h
      rw [ht] at h
      split at h <;> simp_all
  refine ⟨n.data.toList, ?_, ?_⟩
  · show [Value.string n] = [sv n.data.toList]
    unfold sv
    rw [Array.toArray_toList]
  · show n.data.toList.length ≤ maxLen
    rw [Array.length_toList]; exact hw

theorem brgF_one (f : Field) {off : Nat} (hf : Brg P f.type r g) (ho : f.offset = off) : BrgF P [f] off r g := by
  intro H enc W base sp hd fuel cs xs h
  simp only [List.mapM_cons, List.mapM_nil, Option.bind_eq_bind, Option.bind_eq_some_iff] at h
  obtain ⟨y, h1, _⟩ := h
  have := hf.2 H enc W base sp hd fuel _ _ h1
  rwa [ho, hf.1] at this

theorem brgF_cons (f : Field) {fs : List Field} {off : Nat} (hf : Brg P f.type r g) (ho : f.offset = off) (hs : BrgF P fs (off + r.size) s g') : BrgF P (f :: fs) off (rProd r s) (gAnd g g') := by
  intro H enc W base sp hd fuel cs xs h
  simp only [List.mapM_cons, Option.bind_eq_bind, Option.bind_eq_some_iff] at h
  obtain ⟨y, h1, ys, h2, _⟩ := h
  obtain ⟨z, hz, gz⟩ := hf.2 H enc W base sp hd fuel _ _ h1
  obtain ⟨u, hu, gu⟩ := hs H enc W base sp hd fuel _ _ h2
  rw [ho, hf.1] at hz
  refine ⟨(z, u), ⟨_, _, ?_, hz, hu⟩, gz, gu⟩
  show (cs.drop off).take (r.size + s.size) = _
  rw [List.take_add, List.drop_drop]

theorem brg_one (h : Brg P t r g) : Brg P t (rOne r) g := h

theorem brg_struct {fs : Array Field} (ht : P.underlying t = some (.struct fs)) (hc : P.cellsOf t = r.size) (h : BrgF P fs.toList 0 r g) : Brg P t r g := by
  refine ⟨hc, fun H enc W base sp hd fuel cs x hx => ?_⟩
  cases fuel with
  | zero => simp [DataW.trod] at hx
  | succ fuel =>
    have key : ∃ xs, cs.length = P.cellsOf t ∧ fs.toList.mapM (fun f => DataW.trod enc P W base sp hd fuel f.type ((cs.drop f.offset).take (P.cellsOf f.type))) = some xs := by
      unfold DataW.trod at hx
      rw [ht] at hx
      split at hx <;> simp_all
      obtain ⟨q, hq, _⟩ := hx.2
      exact ⟨_, hq⟩
    obtain ⟨xs, hl, hm⟩ := key
    obtain ⟨y, hy, gy⟩ := h H enc W base sp hd fuel cs xs hm
    refine ⟨y, ?_, gy⟩
    rwa [List.drop_zero, List.take_of_length_le (by omega)] at hy

theorem mapM_range_len {γ : Type} {n : Nat} {f : Nat → Option γ} {l : List γ} (h : (List.range n).mapM f = some l) : l.length = n ∧ ∀ i, i < n → f i = l[i]? := by
  have key : ∀ (is : List Nat) (l : List γ), is.mapM f = some l → l.length = is.length ∧ ∀ i, i < is.length → (is[i]?).bind f = l[i]? := by
    intro is
    induction is with
    | nil => intro l h; simp at h; subst h; simp
    | cons i is ih =>
      intro l h
      simp only [List.mapM_cons, Option.bind_eq_bind, Option.bind_eq_some_iff] at h
      obtain ⟨x, hx, ys, hys, he⟩ := h
      cases he
      obtain ⟨h1, h2⟩ := ih ys hys
      refine ⟨by simp [h1], fun j hj => ?_⟩
      cases j with
      | zero => simp [hx]
      | succ j => simpa using h2 j (by simpa using hj)
  obtain ⟨h1, h2⟩ := key _ _ h
  refine ⟨by simpa using h1, fun i hi => ?_⟩
  have := h2 i (by simpa using hi)
  simpa [hi] using this

theorem brg_list (ht : P.underlying t = some (.slice e)) (hc : P.cellsOf t = 1) (hz : 0 < r.size) (he : Brg P e r g) : Brg P t (rList r) (gList g) := by
  refine ⟨hc, fun H enc W base sp hd fuel cs x hx => ?_⟩
  rcases open_slice ht hx with ⟨rfl, _⟩ | ⟨a, len, cap, m, n, D, Pl, rfl, hb, hl, hm, hmm, _, hel⟩
  · exact ⟨[], ⟨none, 0, rfl, Nat.le_refl _, .inl rfl⟩, Nat.zero_le _, by simp⟩
  have hle : len ≤ m := by rw [hmm]; split <;> omega
  have key : ∀ k, k ≤ len → ∃ cc ys, ys.length = k ∧ (∀ j u, cc[j]? = some u → W.cell? (a.add j) = some u) ∧ rdL r W.heap.size W cc ys ∧ cc.length = k * r.size ∧ ∀ y ∈ ys, g y := by
    intro k
    induction k with
    | zero => exact fun _ => ⟨[], [], rfl, by simp, rfl, by simp, by simp⟩
    | succ k ih =>
      intro hk
      obtain ⟨cc, ys, h1, h2, h3, h4, h5⟩ := ih (by omega)
      obtain ⟨cs', h6, h7⟩ := hel k (by omega)
      obtain ⟨y, hy, gy⟩ := he.2 H enc W base sp hd n cs' _ h7
      unfold World.cells? at h6
      split at h6
      · obtain ⟨q1, q2⟩ := mapM_range_len h6
        refine ⟨cc ++ cs', ys ++ [y], by simp [h1], fun j u hu => ?_, rdL_append h3 ⟨cs', [], by simp, hy, rfl⟩, ?_, ?_⟩
        · by_cases hj : j < cc.length
          · rw [List.getElem?_append_left hj] at hu; exact h2 j u hu
          · rw [List.getElem?_append_right (by omega)] at hu
            have hj' : j - cc.length < cs'.length := (List.getElem?_eq_some_iff.1 hu).1
            have := q2 (j - cc.length) (by omega)
            rw [hu, add_add, he.1] at this
            rwa [show k * r.size + (j - cc.length) = j by omega] at this
        · rw [List.length_append, h4, q1, he.1, Nat.add_mul, Nat.one_mul]
        · intro z hz
          rcases List.mem_append.1 hz with hz | hz
          · exact h5 z hz
          · simp at hz; subst hz; exact gy
      · cases h6
  obtain ⟨cc, ys, h1, h2, h3, h4, h5⟩ := key len (Nat.le_refl _)
  refine ⟨ys, ⟨some a, cap, by rw [h1], by omega, ?_⟩, by omega, h5⟩
  by_cases h0 : len = 0
  · left; exact List.eq_nil_of_length_eq_zero (by omega)
  · right
    refine ⟨a, cc, rfl, ?_, h2, h3⟩
    obtain ⟨cs', h6, h7⟩ := hel 0 (by omega)
    obtain ⟨y, hy, _⟩ := he.2 H enc W base sp hd n cs' _ h7
    unfold World.cells? at h6
    split at h6
    · obtain ⟨q1, q2⟩ := mapM_range_len h6
      have h8 := q2 0 (by rw [he.1]; exact hz)
      have h9 : 0 < cs'.length := by rw [q1, he.1]; exact hz
      rw [List.getElem?_eq_getElem h9] at h8
      have hbk : ((a.add (0 * P.cellsOf e)).add 0).block = a.block := by unfold Addr.add; split <;> simp_all
      by_cases hlt : a.block < W.heap.size
      · exact hlt
      · unfold World.cell? at h8
        rw [hbk, Array.getElem?_eq_none (by omega)] at h8
        cases h8
    · cases h6

/-- One cell that is no struct: its value is its cells. -/
theorem brg_val {v : Value} {W : World} {y : α} (ha : r.agg = false) (hv : v.cells.toList = [v]) (hr : r.rd W.heap.size W v.cells.toList y) : Rd r W v y :=
  ⟨[v], by simp [toVal, ha], by rw [← hv]; exact hr⟩

theorem brg_agg {cs : Array Value} {W : World} {y : α} (ha : r.agg = true) (hr : r.rd W.heap.size W (Value.agg cs).cells.toList y) : Rd r W (.agg cs) y :=
  ⟨cs.toList, by simp [toVal, ha], hr⟩

theorem whole_lt {H : Type} {enc : TypeId × Value → H} {ts : List TypeId} {vars : List String} {ap : Bool} {W : World} {args : List Value} {ds gs : List (DataW H)} {ps : List MemPlace} (h : DataW.Whole enc P ts vars ap W args ds gs ps) : ∀ p ∈ ps, p.block < W.heap.size := fun p hp => h.lt p hp

/-- The last step: the call answered 'true' and left all that came in as it was. -/
theorem post_ext [dr : Dr] {H : Type} {enc : TypeId × Value → H} {f : Func} {s : ChangeSpec} {ap fresh handsOn : Bool} {W W' : World} {args : Array Value} {ds : List (DataW H)} {ps : List MemPlace} {tb : TypeId} {b : Bool}
    (hW : DataW.Whole enc P f.params.toList s.vars ap W args.toList ds [] ps) (hvars : s.vars = []) (hfn : s.fn H ds = { results := [.lit (.bool b)], args := ds })
    (hr : f.resultTypes = #[tb]) (hb : P.underlying tb = some .bool) (he : Ext W W')
    (hargs : DataW.TrodAll enc P W' 0 (fun b => decide (b < W.heap.size)) true f.params.toList args.toList ds ps) :
    s.post enc P f ap fresh handsOn false W args (.bool b) W' := by
  refine ⟨ds, [], ps, [], ps, [], hW, ?_, ?_, ?_, ?_, fun h => by cases h⟩
  · rw [List.append_nil, hfn, hr]
    exact trodAll_mk1 ⟨1, by simp [DataW.trod, hb, Value.cells]⟩
  · rw [List.append_nil, hfn]; exact hargs
  · rw [hvars, List.append_nil, hfn]
    exact rfl
  · exact World.keptBut_mono (fun p hp => ⟨hp, .inr (.inl hp)⟩) (Below.frame he.below (· ∈ ps))
end
end Go.Gx
