/-
  A program-free library of the claims: worlds that only grow, what a call owns, frames by their known slots, and one walk of a region in the order of its text.
-/
import Derived.WalkKit
import Derived.Orders
import Derived.Still
namespace Go.Gx
open Go.RowKit

/-! ### the world later -/

/-- Is it told of the worlds, too, that draws only grow? (The contract of a sort asks it of its comparison; not every contract of the library says it.) -/
class Dr where
  on : Bool
instance drOff : Dr := ⟨false⟩
abbrev drOn : Dr := ⟨true⟩

/-- Later: the blocks that were there are as they were. -/
structure Ext [dr : Dr] (w w' : World) : Prop where
  below : Below w.heap.size w w'
  dr : dr.on = true → w.drawn ≤ w'.drawn

theorem Ext.refl [dr : Dr] (w : World) : Ext w w := ⟨Below.refl _ _, fun _ => Nat.le_refl _⟩
theorem Ext.os [dr : Dr] {w w' : World} (h : Ext w w') : w'.os = w.os := h.below.os
theorem Ext.tape [dr : Dr] {w w' : World} (h : Ext w w') : w'.tape = w.tape := h.below.tape
theorem Ext.output [dr : Dr] {w w' : World} (h : Ext w w') : w'.output = w.output := h.below.output
theorem Ext.size [dr : Dr] {w w' : World} (h : Ext w w') : w.heap.size ≤ w'.heap.size := Below.size h.below
theorem Ext.trans [dr : Dr] {a b c : World} (h : Ext a b) (k : Ext b c) : Ext a c := ⟨Below.trans h.below (Below.mono k.below h.size), fun d => Nat.le_trans (h.dr d) (k.dr d)⟩
theorem Ext.block [dr : Dr] {w w' : World} (h : Ext w w') {b : Nat} (hb : b < w.heap.size) : w'.heap[b]? = w.heap[b]? := Below.block h.below b hb
theorem Ext.drew [dr : Dr] (w : World) : Ext w w.drew := ⟨(Below.refl _ _).drew, fun _ => Nat.le_succ _⟩
theorem Ext.drawn [dr : Dr] (w : World) : Ext w { w with drawn := w.drawn + 1 } := ⟨(Below.refl _ _).drew, fun _ => Nat.le_succ _⟩
theorem Ext.alloc [dr : Dr] (w : World) (o : Obj) : Ext w (w.alloc o) := ⟨(Below.refl _ _).alloc (Nat.le_refl _) o, fun _ => Nat.le_refl _⟩

/-! ### how a value of a type lies in memory -/

structure Rep (α : Type) where
  size : Nat
  agg : Bool
  own : World → List Nat → List Value → α → Prop
  rd : Nat → World → List Value → α → Prop
  own_len : ∀ {w F cs x}, own w F cs x → cs.length = size
  rd_len : ∀ {B w cs x}, rd B w cs x → cs.length = size
  own_one : ∀ {w F cs x}, own w F cs x → ∀ c ∈ cs, c.oneCell' = true
  rd_one : ∀ {B w cs x}, rd B w cs x → ∀ c ∈ cs, c.oneCell' = true
  own_keep : ∀ {w w' : World} {F cs x}, own w F cs x → (∀ b ∈ F, w'.heap[b]? = w.heap[b]?) → own w' F cs x
  rd_keep : ∀ {w w' : World} {B cs x}, rd B w cs x → (∀ b, b < B → w'.heap[b]? = w.heap[b]?) → rd B w' cs x
  rd_mono : ∀ {w B B' cs x}, rd B w cs x → B ≤ B' → rd B' w cs x
  own_rd : ∀ {w F B cs x}, own w F cs x → (∀ b ∈ F, b < B) → rd B w cs x
  own_lt : ∀ {w F cs x}, own w F cs x → ∀ b ∈ F, b < w.heap.size

def rInt (k : IntKind) : Rep Int where
  size := 1
  agg := false
  own _ F cs x := F = [] ∧ cs = [.int k x]
  rd _ _ cs x := cs = [.int k x]
  own_len h := by simp [h.2]
  rd_len h := by simp [h]
  own_one h := by simp [h.2, Value.oneCell']
  rd_one h := by simp [h, Value.oneCell']
  own_keep h _ := h
  rd_keep h _ := h
  rd_mono h _ := h
  own_rd h _ := h.2
  own_lt h := by simp [h.1]

def rBool : Rep Bool where
  size := 1
  agg := false
  own _ F cs x := F = [] ∧ cs = [.bool x]
  rd _ _ cs x := cs = [.bool x]
  own_len h := by simp [h.2]
  rd_len h := by simp [h]
  own_one h := by simp [h.2, Value.oneCell']
  rd_one h := by simp [h, Value.oneCell']
  own_keep h _ := h
  rd_keep h _ := h
  rd_mono h _ := h
  own_rd h _ := h.2
  own_lt h := by simp [h.1]

/-- A text as a list of bytes. -/
abbrev Str := List UInt8
def sv (s : Str) : Value := .string ⟨s.toArray⟩

def rStr : Rep Str where
  size := 1
  agg := false
  own _ F cs x := F = [] ∧ cs = [sv x]
  rd _ _ cs x := cs = [sv x]
  own_len h := by simp [h.2]
  rd_len h := by simp [h]
  own_one h := by simp [h.2, Value.oneCell', sv]
  rd_one h := by simp [h, Value.oneCell', sv]
  own_keep h _ := h
  rd_keep h _ := h
  rd_mono h _ := h
  own_rd h _ := h.2
  own_lt h := by simp [h.1]

/-- Two parts of a struct, one behind the other. -/
def rProd {α β : Type} (r : Rep α) (s : Rep β) : Rep (α × β) where
  size := r.size + s.size
  agg := true
  own w F cs x := ∃ F1 F2 c1 c2, F = F1 ++ F2 ∧ cs = c1 ++ c2 ∧ r.own w F1 c1 x.1 ∧ s.own w F2 c2 x.2
  rd B w cs x := ∃ c1 c2, cs = c1 ++ c2 ∧ r.rd B w c1 x.1 ∧ s.rd B w c2 x.2
  own_len := by rintro w F cs x ⟨F1, F2, c1, c2, rfl, rfl, h1, h2⟩; simp [r.own_len h1, s.own_len h2]
  rd_len := by rintro B w cs x ⟨c1, c2, rfl, h1, h2⟩; simp [r.rd_len h1, s.rd_len h2]
  own_one := by
    rintro w F cs x ⟨F1, F2, c1, c2, rfl, rfl, h1, h2⟩ c hc
    rcases List.mem_append.1 hc with hc | hc
    · exact r.own_one h1 c hc
    · exact s.own_one h2 c hc
  rd_one := by
    rintro B w cs x ⟨c1, c2, rfl, h1, h2⟩ c hc
    rcases List.mem_append.1 hc with hc | hc
    · exact r.rd_one h1 c hc
    · exact s.rd_one h2 c hc
  own_keep := by
    rintro w w' F cs x ⟨F1, F2, c1, c2, rfl, rfl, h1, h2⟩ hk
    exact ⟨F1, F2, c1, c2, rfl, rfl, r.own_keep h1 fun b hb => hk b (List.mem_append.2 (.inl hb)), s.own_keep h2 fun b hb => hk b (List.mem_append.2 (.inr hb))⟩
  rd_keep := by
    rintro w w' B cs x ⟨c1, c2, rfl, h1, h2⟩ hk
    exact ⟨c1, c2, rfl, r.rd_keep h1 hk, s.rd_keep h2 hk⟩
  rd_mono := by
    rintro w B B' cs x ⟨c1, c2, rfl, h1, h2⟩ hB
    exact ⟨c1, c2, rfl, r.rd_mono h1 hB, s.rd_mono h2 hB⟩
  own_rd := by
    rintro w F B cs x ⟨F1, F2, c1, c2, rfl, rfl, h1, h2⟩ hB
    exact ⟨c1, c2, rfl, r.own_rd h1 fun b hb => hB b (List.mem_append.2 (.inl hb)), s.own_rd h2 fun b hb => hB b (List.mem_append.2 (.inr hb))⟩
  own_lt := by
    rintro w F cs x ⟨F1, F2, c1, c2, rfl, rfl, h1, h2⟩ b hb
    rcases List.mem_append.1 hb with hb | hb
    · exact r.own_lt h1 b hb
    · exact s.own_lt h2 b hb

/-- A struct of one field. -/
def rOne {α : Type} (r : Rep α) : Rep α := { r with agg := true }

/-! ### rows of elements -/
section
variable {α : Type} (r : Rep α)

def ownL (w : World) : List Nat → List Value → List α → Prop
  | F, cs, [] => F = [] ∧ cs = []
  | F, cs, x :: xs => ∃ F1 F2 c1 c2, F = F1 ++ F2 ∧ cs = c1 ++ c2 ∧ r.own w F1 c1 x ∧ ownL w F2 c2 xs

def rdL (B : Nat) (w : World) : List Value → List α → Prop
  | cs, [] => cs = []
  | cs, x :: xs => ∃ c1 c2, cs = c1 ++ c2 ∧ r.rd B w c1 x ∧ rdL B w c2 xs

variable {r}

theorem ownL_len {w : World} : ∀ {xs : List α} {F cs}, ownL r w F cs xs → cs.length = xs.length * r.size
  | [], _, _, h => by simp [h.2]
  | x :: xs, _, _, ⟨_, _, _, _, _, hc, h1, h2⟩ => by
    rw [hc, List.length_append, r.own_len h1, ownL_len h2, List.length_cons, Nat.add_mul, Nat.one_mul, Nat.add_comm]

theorem rdL_len {B : Nat} {w : World} : ∀ {xs : List α} {cs}, rdL r B w cs xs → cs.length = xs.length * r.size
  | [], _, h => by simp [show _ = [] from h]
  | x :: xs, _, ⟨_, _, hc, h1, h2⟩ => by
    rw [hc, List.length_append, r.rd_len h1, rdL_len h2, List.length_cons, Nat.add_mul, Nat.one_mul, Nat.add_comm]

theorem ownL_one {w : World} : ∀ {xs : List α} {F cs}, ownL r w F cs xs → ∀ c ∈ cs, c.oneCell' = true
  | [], _, _, h, c, hc => by rw [h.2] at hc; cases hc
  | x :: xs, _, _, ⟨_, _, _, _, _, e, h1, h2⟩, c, hc => by
    rw [e] at hc
    rcases List.mem_append.1 hc with hc | hc
    · exact r.own_one h1 c hc
    · exact ownL_one h2 c hc

theorem rdL_one {B : Nat} {w : World} : ∀ {xs : List α} {cs}, rdL r B w cs xs → ∀ c ∈ cs, c.oneCell' = true
  | [], _, h, c, hc => by rw [show _ = [] from h] at hc; cases hc
  | x :: xs, _, ⟨_, _, e, h1, h2⟩, c, hc => by
    rw [e] at hc
    rcases List.mem_append.1 hc with hc | hc
    · exact r.rd_one h1 c hc
    · exact rdL_one h2 c hc

theorem ownL_keep {w w' : World} : ∀ {xs : List α} {F cs}, ownL r w F cs xs → (∀ b ∈ F, w'.heap[b]? = w.heap[b]?) → ownL r w' F cs xs
  | [], _, _, h, _ => h
  | x :: xs, _, _, ⟨F1, F2, c1, c2, e, e2, h1, h2⟩, hk => by
    subst e
    exact ⟨F1, F2, c1, c2, rfl, e2, r.own_keep h1 fun b hb => hk b (List.mem_append.2 (.inl hb)), ownL_keep h2 fun b hb => hk b (List.mem_append.2 (.inr hb))⟩

theorem rdL_keep {B : Nat} {w w' : World} : ∀ {xs : List α} {cs}, rdL r B w cs xs → (∀ b, b < B → w'.heap[b]? = w.heap[b]?) → rdL r B w' cs xs
  | [], _, h, _ => h
  | _ :: _, _, ⟨c1, c2, e, h1, h2⟩, hk => ⟨c1, c2, e, r.rd_keep h1 hk, rdL_keep h2 hk⟩

theorem rdL_mono {B B' : Nat} {w : World} : ∀ {xs : List α} {cs}, rdL r B w cs xs → B ≤ B' → rdL r B' w cs xs
  | [], _, h, _ => h
  | _ :: _, _, ⟨c1, c2, e, h1, h2⟩, hk => ⟨c1, c2, e, r.rd_mono h1 hk, rdL_mono h2 hk⟩

theorem ownL_rdL {B : Nat} {w : World} : ∀ {xs : List α} {F cs}, ownL r w F cs xs → (∀ b ∈ F, b < B) → rdL r B w cs xs
  | [], _, _, h, _ => h.2
  | x :: xs, _, _, ⟨F1, F2, c1, c2, e, e2, h1, h2⟩, hk => by
    subst e
    exact ⟨c1, c2, e2, r.own_rd h1 fun b hb => hk b (List.mem_append.2 (.inl hb)), ownL_rdL h2 fun b hb => hk b (List.mem_append.2 (.inr hb))⟩

theorem ownL_lt {w : World} : ∀ {xs : List α} {F cs}, ownL r w F cs xs → ∀ b ∈ F, b < w.heap.size
  | [], _, _, h, b, hb => by rw [h.1] at hb; cases hb
  | x :: xs, _, _, ⟨F1, F2, c1, c2, e, e2, h1, h2⟩, b, hb => by
    subst e
    rcases List.mem_append.1 hb with hb | hb
    · exact r.own_lt h1 b hb
    · exact ownL_lt h2 b hb

theorem ownL_append {w : World} : ∀ {xs ys : List α} {F cs G ds}, ownL r w F cs xs → ownL r w G ds ys → ownL r w (F ++ G) (cs ++ ds) (xs ++ ys)
  | [], ys, _, _, _, _, h, h' => by rw [h.1, h.2]; exact h'
  | x :: xs, ys, _, _, _, _, ⟨F1, F2, c1, c2, e, e2, h1, h2⟩, h' =>
    ⟨F1, F2 ++ _, c1, c2 ++ _, by rw [e, List.append_assoc], by rw [e2, List.append_assoc], h1, ownL_append h2 h'⟩

theorem ownL_one_mk {w : World} {x : α} {F cs} (h : r.own w F cs x) : ownL r w F cs [x] := ⟨F, [], cs, [], by simp, by simp, h, rfl, rfl⟩

theorem rdL_append {B : Nat} {w : World} : ∀ {xs ys : List α} {cs ds}, rdL r B w cs xs → rdL r B w ds ys → rdL r B w (cs ++ ds) (xs ++ ys)
  | [], ys, _, _, h, h' => by rw [show _ = [] from h]; exact h'
  | x :: xs, ys, _, _, ⟨c1, c2, e2, h1, h2⟩, h' => ⟨c1, c2 ++ _, by rw [e2, List.append_assoc], h1, rdL_append h2 h'⟩

/-- The element at a place. -/
theorem rdL_get {B : Nat} {w : World} : ∀ {xs : List α} {cs} {i : Nat} {x : α}, rdL r B w cs xs → xs[i]? = some x →
    ∃ c, r.rd B w c x ∧ ∀ j u, c[j]? = some u → cs[i * r.size + j]? = some u
  | [], _, _, _, _, hi => by simp at hi
  | y :: xs, _, 0, x, ⟨c1, c2, e, h1, h2⟩, hi => by
    simp at hi
    subst hi
    refine ⟨c1, h1, fun j u hu => ?_⟩
    rw [e, Nat.zero_mul, Nat.zero_add, List.getElem?_append_left (by exact (List.getElem?_eq_some_iff.1 hu).1)]
    exact hu
  | y :: xs, _, i + 1, x, ⟨c1, c2, e, h1, h2⟩, hi => by
    simp at hi
    obtain ⟨c, hc, hk⟩ := rdL_get h2 hi
    refine ⟨c, hc, fun j u hu => ?_⟩
    have := hk j u hu
    rw [e, List.getElem?_append_right (by rw [r.rd_len h1, Nat.add_mul, Nat.one_mul]; omega), r.rd_len h1, Nat.add_mul, Nat.one_mul,
      show i * r.size + r.size + j - r.size = i * r.size + j by omega]
    exact this

/-- The owned element at a place, and what may take its place. -/
theorem ownL_get {w : World} : ∀ {xs : List α} {F cs} {i : Nat} {x : α}, ownL r w F cs xs → xs[i]? = some x →
    ∃ Fa Fx Fb ca c cb, F = Fa ++ (Fx ++ Fb) ∧ cs = ca ++ (c ++ cb) ∧ ca.length = i * r.size ∧ r.own w Fx c x ∧
      ∀ (w' : World) F' c' x', (∀ b ∈ Fa ++ Fb, w'.heap[b]? = w.heap[b]?) → r.own w' F' c' x' → ownL r w' (Fa ++ (F' ++ Fb)) (ca ++ (c' ++ cb)) (xs.set i x')
  | [], _, _, _, _, _, hi => by simp at hi
  | y :: xs, _, _, 0, x, ⟨F1, F2, c1, c2, e, e2, h1, h2⟩, hi => by
    simp at hi
    subst hi
    refine ⟨[], F1, F2, [], c1, c2, by simpa using e, by simpa using e2, by simp, h1, fun w' F' c' x' hk h' => ?_⟩
    exact ⟨F', F2, c', c2, by simp, by simp, h', ownL_keep h2 fun b hb => hk b (by simpa using hb)⟩
  | y :: xs, _, _, i + 1, x, ⟨F1, F2, c1, c2, e, e2, h1, h2⟩, hi => by
    simp at hi
    obtain ⟨Fa, Fx, Fb, ca, c, cb, e3, e4, hl, hx, hset⟩ := ownL_get h2 hi
    subst e3
    subst e4
    refine ⟨F1 ++ Fa, Fx, Fb, c1 ++ ca, c, cb, by rw [e, List.append_assoc], by rw [e2, List.append_assoc], ?_, hx, fun w' F' c' x' hk h' => ?_⟩
    · rw [List.length_append, r.own_len h1, hl, Nat.add_mul, Nat.one_mul, Nat.add_comm]
    · refine ⟨F1, Fa ++ (F' ++ Fb), c1, ca ++ (c' ++ cb), by rw [List.append_assoc], by rw [List.append_assoc], r.own_keep h1 fun b hb => hk b (by simp [hb]), ?_⟩
      exact hset w' F' c' x' (fun b hb => hk b (by simp at hb ⊢; rcases hb with hb | hb <;> simp [hb])) h'

end

/-- An owned slice lies from offset 'o' of an unfrozen block on; a read one anywhere. -/
def rList {α : Type} (r : Rep α) : Rep (List α) where
  size := 1
  agg := false
  own w F cs xs := (xs = [] ∧ F = [] ∧ cs = [.slice none 0 0]) ∨
    ∃ g o cap cur te F' cc, cs = [.slice (some ⟨g, o, none⟩) xs.length cap] ∧ F = g :: F' ∧ w.heap[g]? = some (.cells cur te (0, 0)) ∧ o + cap * r.size ≤ cur.size ∧
      xs.length ≤ cap ∧ cap ≤ maxLen ∧ (cur.toList.drop o).take (xs.length * r.size) = cc ∧ ownL r w F' cc xs
  rd B w cs xs := ∃ A c, cs = [.slice A xs.length c] ∧ xs.length ≤ c ∧
    (xs = [] ∨ ∃ a cc, A = some a ∧ a.block < B ∧ (∀ j u, cc[j]? = some u → w.cell? (a.add j) = some u) ∧ rdL r B w cc xs)
  own_len := by
    rintro w F cs x (⟨_, _, rfl⟩ | ⟨g, o, cap, cur, te, F', cc, rfl, _⟩) <;> rfl
  rd_len := by rintro B w cs x ⟨A, c, rfl, _⟩; rfl
  own_one := by
    rintro w F cs x (⟨_, _, rfl⟩ | ⟨g, o, cap, cur, te, F', cc, rfl, _⟩) c hc <;> simp at hc <;> subst hc <;> rfl
  rd_one := by rintro B w cs x ⟨A, c, rfl, _⟩ c hc; simp at hc; subst hc; rfl
  own_keep := by
    rintro w w' F cs x (h | ⟨g, o, cap, cur, te, F', cc, h1, rfl, h3, h4, h5, h6, h7, h8⟩) hk
    · exact .inl h
    · exact .inr ⟨g, o, cap, cur, te, F', cc, h1, rfl, by rw [hk g (by simp)]; exact h3, h4, h5, h6, h7, ownL_keep h8 fun b hb => hk b (by simp [hb])⟩
  rd_keep := by
    rintro w w' B cs x ⟨A, c, h1, h2, h3⟩ hk
    refine ⟨A, c, h1, h2, ?_⟩
    rcases h3 with h3 | ⟨a, cc, h4, h5, h6, h7⟩
    · exact .inl h3
    · refine .inr ⟨a, cc, h4, h5, fun j u hu => ?_, rdL_keep h7 hk⟩
      have hb : (a.add j).block = a.block := by unfold Addr.add; split <;> rfl
      rw [World.cell?_of_block (w := w) (w' := w') (by rw [hb]; exact hk _ h5)]
      exact h6 j u hu
  rd_mono := by
    rintro w B B' cs x ⟨A, c, h1, h2, h3⟩ hB
    refine ⟨A, c, h1, h2, ?_⟩
    rcases h3 with h3 | ⟨a, cc, h4, h5, h6, h7⟩
    · exact .inl h3
    · exact .inr ⟨a, cc, h4, by omega, h6, rdL_mono h7 hB⟩
  own_rd := by
    rintro w F B cs x (⟨rfl, _, h⟩ | ⟨g, o, cap, cur, te, F', cc, h1, rfl, h3, h4, h5, h6, h7, h8⟩) hB
    · exact ⟨none, 0, h, Nat.le_refl _, .inl rfl⟩
    · refine ⟨_, _, h1, h5, .inr ⟨_, cc, rfl, hB g (by simp), fun j u hu => ?_, ownL_rdL h8 fun b hb => hB b (by simp [hb])⟩⟩
      have e : (⟨g, o, none⟩ : Addr).add j = ⟨g, o + j, none⟩ := by unfold Addr.add; split <;> simp_all
      rw [e, cell_of_row w g (o + j) cur te (0, 0) h3]
      rw [← h7, List.getElem?_take] at hu
      split at hu
      · rw [List.getElem?_drop] at hu; simpa using hu
      · cases hu
  own_lt := by
    rintro w F cs x (⟨_, rfl, _⟩ | ⟨g, o, cap, cur, te, F', cc, h1, rfl, h3, h4, h5, h6, h7, h8⟩) b hb
    · cases hb
    · rcases List.mem_cons.1 hb with hb | hb
      · subst hb; exact (Array.getElem?_eq_some_iff.1 h3).1
      · exact ownL_lt h8 b hb

/-- The value of a slot out of its cells. -/
def toVal {α : Type} (r : Rep α) (cs : List Value) : Value := if r.agg = true then .agg cs.toArray else cs.headD undef

/-- A value that reads as x in a world, all its blocks there. -/
def Rd {α : Type} (r : Rep α) (w : World) (v : Value) (x : α) : Prop := ∃ cs, v = toVal r cs ∧ r.rd w.heap.size w cs x

theorem Rd.ext [dr : Dr] {α : Type} {r : Rep α} {w w' : World} {v : Value} {x : α} (h : Rd r w v x) (he : Ext w w') : Rd r w' v x := by
  obtain ⟨cs, hv, hr⟩ := h
  exact ⟨cs, hv, r.rd_mono (r.rd_keep hr fun b hb => he.block hb) he.size⟩

end Go.Gx
