/-
  What a call owns, piece by piece: a list of assertions over disjoint sets of blocks, all of them new since the call began.
-/
import Derived.Test.YtcaedcalbjkkgaaGxA
namespace Go.Gx
open Go.RowKit

/-- An assertion on some blocks. -/
structure Asrt where
  holds : World → List Nat → Prop
  keep : ∀ {w w' : World} {F}, holds w F → (∀ b ∈ F, w'.heap[b]? = w.heap[b]?) → holds w' F
  lt : ∀ {w : World} {F}, holds w F → ∀ b ∈ F, b < w.heap.size

/-- The value v owns the datum x. -/
def oA {α : Type} (r : Rep α) (v : Value) (x : α) : Asrt where
  holds w F := ∃ cs, v = toVal r cs ∧ r.own w F cs x
  keep := fun ⟨cs, h1, h2⟩ hk => ⟨cs, h1, r.own_keep h2 hk⟩
  lt := fun ⟨_, _, h2⟩ => r.own_lt h2

/-- A block of cells known whole (a variable in memory). -/
def bA (g : Nat) (cs : List Value) (te : TypeId) : Asrt where
  holds w F := F = [g] ∧ w.heap[g]? = some (.cells cs.toArray te (0, 0))
  keep := fun ⟨h1, h2⟩ hk => ⟨h1, by rw [hk g (by rw [h1]; simp)]; exact h2⟩
  lt := by
    rintro w F ⟨rfl, h2⟩ b hb
    simp at hb
    subst hb
    exact (Array.getElem?_eq_some_iff.1 h2).1

/-- A map known whole. -/
def mA (g : Nat) (es : Array MapEntry) (ck : Nat) : Asrt where
  holds w F := F = [g] ∧ w.heap[g]? = some (.map es ck)
  keep := fun ⟨h1, h2⟩ hk => ⟨h1, by rw [hk g (by rw [h1]; simp)]; exact h2⟩
  lt := by
    rintro w F ⟨rfl, h2⟩ b hb
    simp at hb
    subst hb
    exact (Array.getElem?_eq_some_iff.1 h2).1

def HL (w : World) : List Asrt → List Nat → Prop
  | [], F => F = []
  | A :: L, F => ∃ F1 F2, F = F1 ++ F2 ∧ A.holds w F1 ∧ HL w L F2

theorem HL.keep {w w' : World} : ∀ {L : List Asrt} {F}, HL w L F → (∀ b ∈ F, w'.heap[b]? = w.heap[b]?) → HL w' L F
  | [], _, h, _ => h
  | A :: _, _, ⟨F1, F2, e, h1, h2⟩, hk => by
    subst e
    exact ⟨F1, F2, rfl, A.keep h1 fun b hb => hk b (List.mem_append.2 (.inl hb)), HL.keep h2 fun b hb => hk b (List.mem_append.2 (.inr hb))⟩

theorem HL.lt {w : World} : ∀ {L : List Asrt} {F}, HL w L F → ∀ b ∈ F, b < w.heap.size
  | [], _, h, b, hb => by rw [show _ = [] from h] at hb; cases hb
  | A :: _, _, ⟨F1, F2, e, h1, h2⟩, b, hb => by
    subst e
    rcases List.mem_append.1 hb with hb | hb
    · exact A.lt h1 b hb
    · exact HL.lt h2 b hb

theorem HL.append {w : World} : ∀ {L M : List Asrt} {F G}, HL w L F → HL w M G → HL w (L ++ M) (F ++ G)
  | [], _, _, _, h, h' => by rw [show _ = [] from h]; exact h'
  | _ :: _, _, _, _, ⟨F1, F2, e, h1, h2⟩, h' => ⟨F1, F2 ++ _, by rw [e, List.append_assoc], h1, HL.append h2 h'⟩

/-- One of them, the others apart. -/
theorem HL.split {w : World} : ∀ {L : List Asrt} {F} {k : Nat} {A : Asrt}, HL w L F → L[k]? = some A →
    ∃ Fa Fk Fb, F = Fa ++ (Fk ++ Fb) ∧ A.holds w Fk ∧ HL w (L.eraseIdx k) (Fa ++ Fb) ∧
      ∀ (w' : World) (A' : Asrt) F', (∀ b ∈ Fa ++ Fb, w'.heap[b]? = w.heap[b]?) → A'.holds w' F' → HL w' (L.set k A') (Fa ++ (F' ++ Fb))
  | [], _, _, _, _, hk => by simp at hk
  | A :: L, _, 0, B, ⟨F1, F2, e, h1, h2⟩, hk => by
    simp at hk
    subst hk
    exact ⟨[], F1, F2, by simpa using e, h1, by simpa using h2, fun w' A' F' hk h' => ⟨F', F2, by simp, h', HL.keep h2 fun b hb => hk b (by simpa using hb)⟩⟩
  | A :: L, _, k + 1, B, ⟨F1, F2, e, h1, h2⟩, hk => by
    simp at hk
    obtain ⟨Fa, Fk, Fb, e3, hB, hE, hset⟩ := HL.split h2 hk
    subst e3
    refine ⟨F1 ++ Fa, Fk, Fb, by rw [e, List.append_assoc], hB, ⟨F1, Fa ++ Fb, by rw [List.append_assoc], h1, hE⟩, fun w' A' F' hk h' => ?_⟩
    exact ⟨F1, Fa ++ (F' ++ Fb), by rw [List.append_assoc], A.keep h1 fun b hb => hk b (by simp [hb]), hset w' A' F' (fun b hb => hk b (by simp at hb ⊢; rcases hb with hb | hb <;> simp [hb])) h'⟩

/-- Since the world w0: nothing of w0 has turned, and the call owns L. -/
structure Heap [dr : Dr] (w0 : World) (L : List Asrt) (w : World) : Prop where
  ext : Ext w0 w
  own : ∃ F, HL w L F ∧ F.Nodup ∧ ∀ b ∈ F, w0.heap.size ≤ b

theorem Heap.start [dr : Dr] (w : World) : Heap w [] w := ⟨Ext.refl w, [], rfl, List.nodup_nil, by simp⟩

/-- A world later, by blocks that are new. -/
theorem Heap.later [dr : Dr] {w0 w w' : World} {L : List Asrt} (H : Heap w0 L w) (he : Ext w w') : Heap w0 L w' := by
  obtain ⟨h0, F, hF, hn, hb⟩ := H
  exact ⟨h0.trans he, F, HL.keep hF fun b hb => he.block (HL.lt hF b hb), hn, hb⟩

theorem Heap.nil [dr : Dr] {w0 w : World} {L : List Asrt} (H : Heap w0 L w) : Heap w0 [] w := ⟨H.ext, [], rfl, List.nodup_nil, by simp⟩

/-- A callee's results. -/
theorem Heap.call [dr : Dr] {w0 w w' : World} {L M : List Asrt} (H : Heap w0 L w) (Hc : Heap w M w') : Heap w0 (M ++ L) w' := by
  obtain ⟨h0, F, hF, hn, hb⟩ := H
  obtain ⟨h1, G, hG, hn', hb'⟩ := Hc
  have hlt := HL.lt hF
  refine ⟨h0.trans h1, G ++ F, HL.append hG (HL.keep hF fun b hb => h1.block (hlt b hb)), ?_, ?_⟩
  · refine List.nodup_append.2 ⟨hn', hn, ?_⟩
    intro a ha b hb2 e
    subst e
    have := hb' a ha
    have := hlt a hb2
    omega
  · intro b hb2
    rcases List.mem_append.1 hb2 with h | h
    · have := hb' b h
      have := h0.size
      omega
    · exact hb b h

/-- One piece turns into another; what is not of it stays. -/
theorem Heap.turn [dr : Dr] {w0 w w' : World} {L : List Asrt} (H : Heap w0 L w) (k : Nat) {A A' : Asrt} (hk : L[k]? = some A)
    (hos : w'.os = w.os) (ht : w'.tape = w.tape) (ho : w'.output = w.output ∧ w.drawn ≤ w'.drawn) (hz : w.heap.size ≤ w'.heap.size)
    (h : ∀ F, A.holds w F → F.Nodup → ∃ F', A'.holds w' F' ∧ F'.Nodup ∧ (∀ b ∈ F', b ∈ F ∨ w.heap.size ≤ b) ∧ ∀ b, b < w.heap.size → b ∉ F → w'.heap[b]? = w.heap[b]?) :
    Heap w0 (L.set k A') w' := by
  obtain ⟨h0, F, hF, hn, hb⟩ := H
  have hlt := HL.lt hF
  obtain ⟨Fa, Fk, Fb, e, hA, _, hset⟩ := HL.split hF hk
  subst e
  have hn1 := List.nodup_append.1 hn
  have hn2 := List.nodup_append.1 hn1.2.1
  obtain ⟨F', hA', hn', hsub, hkeep⟩ := h Fk hA hn2.1
  have hout : ∀ b ∈ Fa ++ Fb, b ∉ Fk := by
    intro b hb2 hbk
    rcases List.mem_append.1 hb2 with hx | hx
    · exact hn1.2.2 b hx b (List.mem_append.2 (.inl hbk)) rfl
    · exact hn2.2.2 b hbk b hx rfl
  have hsame : ∀ b ∈ Fa ++ Fb, w'.heap[b]? = w.heap[b]? := by
    intro b hb2
    refine hkeep b (hlt b ?_) (hout b hb2)
    rcases List.mem_append.1 hb2 with hx | hx <;> simp [hx]
  refine ⟨⟨⟨hos.trans h0.os, ht.trans h0.tape, ho.1.trans h0.output, Nat.le_trans h0.size hz, fun b hb2 => ?_⟩, fun d => Nat.le_trans (h0.dr d) ho.2⟩, Fa ++ (F' ++ Fb), hset w' A' F' hsame hA', ?_, ?_⟩
  · have : b ∉ Fk := fun hbk => by
      have := hb b (by simp [hbk])
      omega
    have h0z := h0.size
    exact (hkeep b (by omega) this).trans (h0.block hb2)
  · have hdis : ∀ a ∈ F', ∀ b ∈ Fa ++ Fb, a ≠ b := by
      intro a ha b hb2 e
      subst e
      rcases hsub a ha with h | h
      · exact hout a hb2 h
      · have := hlt a (by rcases List.mem_append.1 hb2 with hx | hx <;> simp [hx])
        omega
    refine List.nodup_append.2 ⟨hn1.1, List.nodup_append.2 ⟨hn', hn2.2.1, fun a ha b hb2 => hdis a ha b (by simp [hb2])⟩, ?_⟩
    intro a ha b hb2 e
    subst e
    rcases List.mem_append.1 hb2 with hx | hx
    · exact hdis a hx a (by simp [ha]) rfl
    · exact hn1.2.2 a ha a (by simp [hx]) rfl
  · intro b hb2
    rcases List.mem_append.1 hb2 with hx | hx
    · exact hb b (by simp [hx])
    · rcases List.mem_append.1 hx with hx | hx
      · rcases hsub b hx with h | h
        · exact hb b (by simp [h])
        · have := h0.size; omega
      · exact hb b (by simp [hx])

theorem Heap.ofHL [dr : Dr] {w0 w : World} {L M : List Asrt} (H : Heap w0 L w) (h : ∀ F, HL w L F → F.Nodup → ∃ G, HL w M G ∧ G.Nodup ∧ ∀ b ∈ G, b ∈ F) : Heap w0 M w := by
  obtain ⟨h0, F, hF, hn, hb⟩ := H
  obtain ⟨G, hG, hn', hs⟩ := h F hF hn
  exact ⟨h0, G, hG, hn', fun b hb2 => hb b (hs b hb2)⟩

/-- One piece to the front. -/
theorem Heap.front [dr : Dr] {w0 w : World} {L : List Asrt} (H : Heap w0 L w) (k : Nat) {A : Asrt} (hk : L[k]? = some A) : Heap w0 (A :: L.eraseIdx k) w :=
  H.ofHL fun F hF hn => by
    obtain ⟨Fa, Fk, Fb, e, hA, hE, _⟩ := HL.split hF hk
    subst e
    refine ⟨Fk ++ (Fa ++ Fb), ⟨Fk, Fa ++ Fb, rfl, hA, hE⟩, ?_, fun b hb => by simp at hb ⊢; rcases hb with hb | hb | hb <;> simp [hb]⟩
    have hn1 := List.nodup_append.1 hn
    have hn2 := List.nodup_append.1 hn1.2.1
    refine List.nodup_append.2 ⟨hn2.1, List.nodup_append.2 ⟨hn1.1, hn2.2.1, fun a ha b hb => hn1.2.2 a ha b (by simp [hb])⟩, ?_⟩
    intro a ha b hb e
    subst e
    rcases List.mem_append.1 hb with hx | hx
    · exact hn1.2.2 a hx a (by simp [ha]) rfl
    · exact hn2.2.2 a ha a hx rfl

theorem Heap.drop [dr : Dr] {w0 w : World} {L : List Asrt} (H : Heap w0 L w) (k : Nat) {A : Asrt} (hk : L[k]? = some A) : Heap w0 (L.eraseIdx k) w :=
  (H.front k hk).ofHL fun F ⟨F1, F2, e, _, h2⟩ hn => by
    subst e
    exact ⟨F2, h2, (List.nodup_append.1 hn).2.1, fun b hb => by simp [hb]⟩

theorem Heap.tail [dr : Dr] {w0 w : World} {A : Asrt} {L : List Asrt} (H : Heap w0 (A :: L) w) : Heap w0 L w := H.drop 0 rfl

/-- Pieces picked by their places, each once. -/
theorem Heap.two [dr : Dr] {w0 w : World} {A B C : Asrt} {L : List Asrt} (H : Heap w0 (A :: B :: L) w) (h : ∀ F G, A.holds w F → B.holds w G → C.holds w (F ++ G)) : Heap w0 (C :: L) w :=
  H.ofHL fun F ⟨F1, F2, e, h1, F3, F4, e2, h2, h3⟩ hn => ⟨F, ⟨F1 ++ F3, F4, by rw [e, e2, List.append_assoc], h _ _ h1 h2, h3⟩, hn, fun _ hb => hb⟩

theorem Heap.as [dr : Dr] {w0 w : World} {A C : Asrt} {L : List Asrt} (H : Heap w0 (A :: L) w) (h : ∀ F, A.holds w F → C.holds w F) : Heap w0 (C :: L) w :=
  H.ofHL fun F ⟨F1, F2, e, h1, h2⟩ hn => ⟨F, ⟨F1, F2, e, h _ h1, h2⟩, hn, fun _ hb => hb⟩

/-- A piece without blocks. -/
theorem Heap.put0 [dr : Dr] {w0 w : World} {A : Asrt} {L : List Asrt} (H : Heap w0 L w) (h : A.holds w []) : Heap w0 (A :: L) w :=
  H.ofHL fun F hF hn => ⟨F, ⟨[], F, rfl, h, hF⟩, hn, fun _ hb => hb⟩

/-- A new block. -/
theorem Heap.alloc [dr : Dr] {w0 w : World} {L : List Asrt} (H : Heap w0 L w) (o : Obj) {A : Asrt} (h : A.holds (w.alloc o) [w.heap.size]) : Heap w0 (A :: L) (w.alloc o) := by
  have : Heap w [A] (w.alloc o) := ⟨Ext.alloc w o, [w.heap.size], ⟨[w.heap.size], [], by simp, h, rfl⟩, by simp, by simp⟩
  exact H.call this

/-- What is owned can be read. -/
theorem Heap.rdAt [dr : Dr] {w0 w : World} {L : List Asrt} (H : Heap w0 L w) (k : Nat) {α : Type} {r : Rep α} {v : Value} {x : α} (hk : L[k]? = some (oA r v x)) : Rd r w v x := by
  obtain ⟨h0, F, hF, hn, hb⟩ := H
  have hlt := HL.lt hF
  obtain ⟨Fa, Fk, Fb, e, ⟨cs, hv, ho⟩, _, _⟩ := HL.split hF hk
  exact ⟨cs, hv, r.own_rd ho fun b hb => hlt b (by rw [e]; simp [hb])⟩

/-- What was read when the call began can be read. -/
theorem Heap.arg [dr : Dr] {w0 w : World} {L : List Asrt} (H : Heap w0 L w) {α : Type} {r : Rep α} {v : Value} {x : α} (h : Rd r w0 v x) : Rd r w v x := h.ext H.ext

/-- The cells of a variable. -/
theorem Heap.box [dr : Dr] {w0 w : World} {L : List Asrt} (H : Heap w0 L w) (k : Nat) {g : Nat} {cs : List Value} {te : TypeId} (hk : L[k]? = some (bA g cs te)) :
    w.heap[g]? = some (.cells cs.toArray te (0, 0)) := by
  obtain ⟨h0, F, hF, hn, hb⟩ := H
  obtain ⟨Fa, Fk, Fb, e, ⟨_, ho⟩, _, _⟩ := HL.split hF hk
  exact ho

end Go.Gx
