/-
  Pointers to data that is read; parts of owned elements: changed, or lent out and taken back.
-/
import Derived.Test.YtcaedcalbjkkgaaGxM
namespace Go.Gx
open Go.RowKit

/-- A pointer to a datum (read alone). -/
def rPtr {α : Type} (r : Rep α) : Rep α where
  size := 1
  agg := false
  own _ _ _ _ := False
  rd B w cs x := ∃ a cc, cs = [.pointer (some a)] ∧ a.block < B ∧ (∀ j u, cc[j]? = some u → w.cell? (a.add j) = some u) ∧ r.rd B w cc x
  own_len h := h.elim
  rd_len := by rintro B w cs x ⟨a, cc, rfl, _⟩; rfl
  own_one h := h.elim
  rd_one := by rintro B w cs x ⟨a, cc, rfl, _⟩ c hc; simp at hc; subst hc; rfl
  own_keep h _ := h.elim
  rd_keep := by
    rintro w w' B cs x ⟨a, cc, h1, h2, h3, h4⟩ hk
    refine ⟨a, cc, h1, h2, fun j u hu => ?_, r.rd_keep h4 hk⟩
    have hb : (a.add j).block = a.block := by unfold Addr.add; split <;> rfl
    rw [World.cell?_of_block (w := w) (w' := w') (by rw [hb]; exact hk _ h2)]
    exact h3 j u hu
  rd_mono := by
    rintro w B B' cs x ⟨a, cc, h1, h2, h3, h4⟩ hB
    exact ⟨a, cc, h1, by omega, h3, r.rd_mono h4 hB⟩
  own_rd h _ := h.elim
  own_lt h := h.elim

section
variable {α : Type} {r : Rep α} {w w0 : World} {L : List Asrt} {v : Value} {x : α}

theorem Rd.ptr (h : Rd (rPtr r) w v x) : ∃ cs, r.rd w.heap.size w cs x ∧ ∀ j u, cs[j]? = some u → At w v j u := by
  obtain ⟨cs, hv, a, cc, rfl, _, h3, h4⟩ := h
  have hv' : v = .pointer (some a) := hv
  subst hv'
  exact ⟨cc, h4, fun j u hu => ⟨a, rfl, h3 j u hu⟩⟩

theorem Rd.isP (h : Rd (rPtr r) w v x) : IsP v := by
  obtain ⟨cs, hv, a, cc, rfl, _⟩ := h
  exact ⟨a, hv⟩

theorem Rd.elemPtr {xs : List α} (h : Rd (rList r) w v xs) {i : Nat} (hi : xs[i]? = some x) : Rd (rPtr r) w (ePtr v (i * r.size)) x := by
  obtain ⟨cs, hv, A, c, rfl, hc, h2⟩ := h
  have hv' : v = .slice A xs.length c := hv
  subst hv'
  rcases h2 with rfl | ⟨p, cc, rfl, hb, hcell, hL⟩
  · simp at hi
  · obtain ⟨cx, hx, hj⟩ := rdL_get hL hi
    have hbl : (p.add (i * r.size)).block = p.block := by unfold Addr.add; split <;> rfl
    exact ⟨[.pointer (some (p.add (i * r.size)))], rfl, _, cx, rfl, by rw [hbl]; exact hb, fun j u hu => by rw [add_add]; exact hcell _ _ (hj j u hu), hx⟩

theorem At.isP {u : Value} {j : Nat} (h : At w v j u) : IsP v := by obtain ⟨a, h, _⟩ := h; exact ⟨a, h⟩

theorem At.eq {u u' : Value} {j : Nat} (h : At w v j u) (h' : At w v j u') : u = u' := by
  obtain ⟨a, rfl, h1⟩ := h
  obtain ⟨a', h2, h3⟩ := h'
  cases h2
  rw [h1] at h3
  exact Option.some.inj h3

theorem rdPtr_box [dr : Dr] (H : Heap w0 L w) (i : Nat) {b : Nat} {cs : List Value} {e : TypeId} (hk : L[i]? = some (bA b cs e)) (hr : r.rd w.heap.size w cs x) : Rd (rPtr r) w (bp b) x := by
  have hb := H.box i hk
  refine ⟨[bp b], rfl, _, cs, rfl, (Array.getElem?_eq_some_iff.1 hb).1, fun j u hu => ?_, hr⟩
  have ha : (⟨b, 0, none⟩ : Addr).add j = ⟨b, j, none⟩ := by unfold Addr.add; split <;> simp_all
  rw [ha, cell_of_row w b j cs.toArray e (0, 0) hb]
  simpa using hu

theorem Heap.nilRd [_dr : Dr] {β : Type} {s : Rep β} (_H : Heap w0 L w) : Rd (rList s) w (.slice none 0 0) ([] : List β) := ⟨_, rfl, none, 0, rfl, Nat.le_refl _, .inl rfl⟩

theorem ownF {β : Type} {s : Rep β} {F G : List Nat} {cs : List Value} {y : β} (h : s.own w F cs y) (e : G = F := by simp) : s.own w G cs y := by rw [e]; exact h

theorem Rd.elemAt {xs : List α} (h : Rd (rList r) w v xs) {i : Nat} (hi : xs[i]? = some x) {j : Nat} {u : Value} (hr : ∀ B w cs, r.rd B w cs x → cs[j]? = some u) : At w (ePtr v (i * r.size)) j u := by
  obtain ⟨cs, h1, h2⟩ := h.elem hi
  exact h2 j u (hr _ _ _ h1)

theorem Rd.elemCells {xs : List α} (h : Rd (rList r) w v xs) {i : Nat} (hi : xs[i]? = some x) {cells : List Value} (hr : ∀ B w cs, r.rd B w cs x → cs = cells) : ∀ j u, cells[j]? = some u → At w (ePtr v (i * r.size)) j u := by
  obtain ⟨cs, h1, h2⟩ := h.elem hi
  have := hr _ _ _ h1
  subst this
  exact h2

/-! ### a part of an element changes -/

/-- Cells of x written over at 'off' make x', which owns what x owned but for the part, and what B owns. -/
def Upd (r : Rep α) (off : Nat) (us : List Value) (x x' : α) (B : Asrt) : Prop :=
  ∀ w F c G, r.own w F c x → B.holds w G → (F ++ G).Nodup → ∃ F', r.own w F' (splice c off us) x' ∧ F'.Nodup ∧ ∀ b ∈ F', b ∈ F ∨ b ∈ G

theorem splice_all {c us : List Value} (h : c.length = us.length) : splice c 0 us = us := by simp [splice, h]

theorem Upd.full {us : List Value} {x x' : α} {B : Asrt} (hl : us.length = r.size) (h : ∀ w G, B.holds w G → r.own w G us x') : Upd r 0 us x x' B := by
  intro w F c G hF hG hn
  rw [splice_all (by rw [r.own_len hF, hl])]
  exact ⟨G, h w G hG, (List.nodup_append.1 hn).2.1, fun b hb => .inr hb⟩

theorem Upd.fst {β : Type} {s : Rep β} {off : Nat} {us : List Value} {e : α × β} {x' : α} {B : Asrt} (ho : off + us.length ≤ r.size) (h : Upd r off us e.1 x' B) : Upd (rProd r s) off us e (x', e.2) B := by
  rintro w F c G ⟨F1, F2, c1, c2, rfl, rfl, h1, h2⟩ hG hn
  have hn1 := List.nodup_append.1 hn
  have hn2 := List.nodup_append.1 hn1.1
  have hc1 := r.own_len h1
  obtain ⟨F', q1, q2, q3⟩ := h w F1 c1 G h1 hG (List.nodup_append.2 ⟨hn2.1, hn1.2.1, fun a ha b hb => hn1.2.2 a (by simp [ha]) b hb⟩)
  refine ⟨F' ++ F2, ⟨F', F2, splice c1 off us, c2, rfl, ?_, q1, h2⟩, List.nodup_append.2 ⟨q2, hn2.2.1, fun a ha b hb e => ?_⟩, fun b hb => ?_⟩
  · unfold splice
    rw [List.take_append_of_le_length (by omega), List.drop_append_of_le_length (by omega)]
    simp
  · subst e
    rcases q3 a ha with h | h
    · exact hn2.2.2 a h a hb rfl
    · exact hn1.2.2 a (by simp [hb]) a h rfl
  · rcases List.mem_append.1 hb with hb | hb
    · rcases q3 b hb with h | h
      · exact .inl (by simp [h])
      · exact .inr h
    · exact .inl (by simp [hb])

theorem Upd.snd {β : Type} {s : Rep β} {off : Nat} {us : List Value} {e : α × β} {y' : β} {B : Asrt} (h : Upd s off us e.2 y' B) : Upd (rProd r s) (r.size + off) us e (e.1, y') B := by
  rintro w F c G ⟨F1, F2, c1, c2, rfl, rfl, h1, h2⟩ hG hn
  have hn1 := List.nodup_append.1 hn
  have hn2 := List.nodup_append.1 hn1.1
  have hc1 := r.own_len h1
  obtain ⟨F', q1, q2, q3⟩ := h w F2 c2 G h2 hG (List.nodup_append.2 ⟨hn2.2.1, hn1.2.1, fun a ha b hb => hn1.2.2 a (by simp [ha]) b hb⟩)
  refine ⟨F1 ++ F', ⟨F1, F', c1, splice c2 off us, rfl, ?_, h1, q1⟩, List.nodup_append.2 ⟨hn2.1, q2, fun a ha b hb e => ?_⟩, fun b hb => ?_⟩
  · unfold splice
    rw [← hc1]
    simp [List.take_append, List.drop_append, Nat.add_assoc]
    rw [List.take_of_length_le (by omega), List.drop_of_length_le (by omega)]
    simp
  · subst e
    rcases q3 a hb with h | h
    · exact hn2.2.2 a ha a h rfl
    · exact hn1.2.2 a (by simp [ha]) a h rfl
  · rcases List.mem_append.1 hb with hb | hb
    · exact .inl (by simp [hb])
    · rcases q3 b hb with h | h
      · exact .inl (by simp [h])
      · exact .inr h

theorem Heap.putE [dr : Dr] (H : Heap w0 (oA r v x :: L) w) : Heap w0 (oA r v x :: eA :: L) w :=
  H.ofHL fun F ⟨F1, F2, e1, h1, h2⟩ hn => ⟨F, ⟨F1, F2, e1, h1, [], F2, rfl, rfl, h2⟩, hn, fun _ hb => hb⟩

/-! ### a part is lent out and taken back -/

/-- Given the part again, with whatever content, the whole is there. -/
def wA {β : Type} (A B : β → Asrt) : Asrt where
  holds w F := (∀ b ∈ F, b < w.heap.size) ∧ ∀ (w' : World) G y, (∀ b ∈ F, w'.heap[b]? = w.heap[b]?) → (A y).holds w' G → (F ++ G).Nodup → ∃ F', (B y).holds w' F' ∧ F'.Nodup ∧ ∀ b ∈ F', b ∈ F ∨ b ∈ G
  keep := by
    rintro w w' F ⟨h1, h2⟩ hk
    refine ⟨fun b hb => ?_, fun w2 G y hs => h2 w2 G y fun b hb => (hs b hb).trans (hk b hb)⟩
    have hl := h1 b hb
    have : w'.heap[b]? = some w.heap[b] := by rw [hk b hb]; simp [hl]
    exact (Array.getElem?_eq_some_iff.1 this).1
  lt := fun h => h.1

theorem Heap.back [dr : Dr] {β : Type} {A B : β → Asrt} {y : β} (H : Heap w0 (A y :: wA A B :: L) w) : Heap w0 (B y :: L) w :=
  H.ofHL fun F ⟨F1, F2, e, h1, F3, F4, e2, ⟨_, h2⟩, h3⟩ hn => by
    subst e
    subst e2
    have n1 := List.nodup_append.1 hn
    have n2 := List.nodup_append.1 n1.2.1
    obtain ⟨F', q1, q2, q3⟩ := h2 w F1 y (fun _ _ => rfl) h1 (List.nodup_append.2 ⟨n2.1, n1.1, fun a ha b hb e => n1.2.2 b hb a (by simp [ha]) e.symm⟩)
    refine ⟨F' ++ F4, ⟨F', F4, rfl, q1, h3⟩, List.nodup_append.2 ⟨q2, n2.2.1, fun a ha b hb e => ?_⟩, fun b hb => ?_⟩
    · subst e
      rcases q3 a ha with h | h
      · exact n2.2.2 a h a hb rfl
      · exact n1.2.2 a h a (by simp [hb]) rfl
    · rcases List.mem_append.1 hb with hb | hb
      · rcases q3 b hb with h | h <;> simp [h]
      · simp [hb]

/-- The part of x in cell 'off' is a slice u that owns y; any other content of it makes another x. -/
def Lend (r : Rep α) {β : Type} (s : Rep β) (off : Nat) (x : α) (y : List β) (mk : List β → α) : Prop :=
  ∀ w F c, r.own w F c x → ∃ u Fa Fx Fb, c[off]? = some u ∧ F = Fa ++ (Fx ++ Fb) ∧ (rList s).own w Fx [u] y ∧
    ∀ (w' : World) G y', (∀ b ∈ Fa ++ Fb, w'.heap[b]? = w.heap[b]?) → (rList s).own w' G [u] y' → r.own w' (Fa ++ (G ++ Fb)) c (mk y')

theorem Lend.here {β : Type} {s : Rep β} {y : List β} : Lend (rList s) s 0 y y id := by
  intro w F c h
  have hc : ∃ u, c = [u] := by
    rcases h with ⟨_, _, rfl⟩ | ⟨g, o, cap, cur, te, F', cc, rfl, _⟩ <;> exact ⟨_, rfl⟩
  obtain ⟨u, rfl⟩ := hc
  exact ⟨u, [], F, [], rfl, by simp, h, fun w' G y' _ h' => by simpa using h'⟩

theorem Lend.fst {β γ : Type} {s : Rep β} {t : Rep γ} {off : Nat} {e : α × γ} {y : List β} {mk : List β → α} (ho : off < r.size) (h : Lend r s off e.1 y mk) : Lend (rProd r t) s off e y (fun y => (mk y, e.2)) := by
  rintro w F c ⟨F1, F2, c1, c2, rfl, rfl, h1, h2⟩
  obtain ⟨u, Fa, Fx, Fb, hu, rfl, hx, hset⟩ := h w F1 c1 h1
  have hc1 := r.own_len h1
  refine ⟨u, Fa, Fx, Fb ++ F2, by rw [List.getElem?_append_left (by omega)]; exact hu, by simp, hx, fun w' G y' hk h' => ?_⟩
  exact ⟨Fa ++ (G ++ Fb), F2, c1, c2, by simp, rfl, hset w' G y' (fun b hb => hk b (by rcases List.mem_append.1 hb with h | h <;> simp [h])) h', t.own_keep h2 fun b hb => hk b (by simp [hb])⟩

theorem Lend.snd {β γ : Type} {s : Rep β} {t : Rep γ} {off : Nat} {e : α × γ} {y : List β} {mk : List β → γ} (h : Lend t s off e.2 y mk) : Lend (rProd r t) s (r.size + off) e y (fun y => (e.1, mk y)) := by
  rintro w F c ⟨F1, F2, c1, c2, rfl, rfl, h1, h2⟩
  obtain ⟨u, Fa, Fx, Fb, hu, rfl, hx, hset⟩ := h w F2 c2 h2
  have hc1 := r.own_len h1
  refine ⟨u, F1 ++ Fa, Fx, Fb, by rw [List.getElem?_append_right (by omega), hc1, Nat.add_sub_cancel_left]; exact hu, by simp, hx, fun w' G y' hk h' => ?_⟩
  exact ⟨F1, Fa ++ (G ++ Fb), c1, c2, by simp, rfl, r.own_keep h1 fun b hb => hk b (by simp [hb]), hset w' G y' (fun b hb => hk b (by rcases List.mem_append.1 hb with h | h <;> simp [h])) h'⟩

/-- An element's part is lent out. -/
theorem Heap.lend [dr : Dr] {β : Type} {s : Rep β} {off : Nat} {xs : List α} {i : Nat} {y : List β} {mk : List β → α} (H : Heap w0 (oA (rList r) v xs :: L) w) (hi : xs[i]? = some x) (h : Lend r s off x y mk) :
    ∃ u, At w (ePtr v (i * r.size)) off u ∧ Heap w0 (oA (rList s) u y :: wA (fun y' => oA (rList s) u y') (fun y' => oA (rList r) v (xs.set i (mk y'))) :: L) w := by
  obtain ⟨hext, F, ⟨F1, F2, rfl, h1, h2⟩, hn, hb⟩ := H
  rcases oA_list.1 h1 with ⟨rfl, _, _⟩ | ⟨g, o, cap, cur, te, F', cc, hv, rfl, hg, hfit, hnc, hcm, htake, hL⟩
  · simp at hi
  · cases hv
    obtain ⟨Ga, Gx, Gb, ca, c, cb, rfl, e4, hl, hx, hset⟩ := ownL_get hL hi
    obtain ⟨u, Ha, Hx, Hb, hu, rfl, hux, hset2⟩ := h w Gx c hx
    have hcl := r.own_len hx
    have hil := (List.getElem?_eq_some_iff.1 hi).1
    refine ⟨u, ?_, hext, (Hx ++ ((g :: (Ga ++ (Ha ++ (Hb ++ Gb)))) ++ F2)), ?_, ?_, ?_⟩
    · have hj : off < c.length := (List.getElem?_eq_some_iff.1 hu).1
      refine ⟨_, rfl, ?_⟩
      rw [add_add]
      have hadd : (⟨g, o, none⟩ : Addr).add (i * r.size + off) = ⟨g, o + (i * r.size + off), none⟩ := by unfold Addr.add; split <;> simp_all
      rw [hadd, cell_of_row w g _ cur te (0, 0) hg]
      have hcc : cc[i * r.size + off]? = some u := by
        rw [e4, List.getElem?_append_right (by omega), show i * r.size + off - ca.length = off by omega, List.getElem?_append_left hj]
        exact hu
      rw [← htake, List.getElem?_take] at hcc
      split at hcc
      · rw [List.getElem?_drop] at hcc; simpa using hcc
      · cases hcc
    · refine ⟨Hx, _, rfl, oA_list.2 hux, g :: (Ga ++ (Ha ++ (Hb ++ Gb))), F2, rfl, ⟨?_, ?_⟩, h2⟩
      · intro b hb2
        refine HL.lt (L := [oA (rList r) (.slice (some ⟨g, o, none⟩) xs.length cap) xs]) (F := g :: (Ga ++ (Ha ++ (Hx ++ Hb) ++ Gb))) ⟨_, [], by simp, h1, rfl⟩ b ?_
        simp at hb2 ⊢
        rcases hb2 with h | h | h | h | h <;> simp [h]
      · intro w' G y' hk hG hnn
        have hk' : ∀ b, b ∈ Ga ∨ b ∈ Gb ∨ b ∈ Ha ∨ b ∈ Hb ∨ b = g → w'.heap[b]? = w.heap[b]? := fun b hb2 => hk b (by simp; rcases hb2 with h | h | h | h | h <;> simp [h])
        have hnew := hset2 w' G y' (fun b hb2 => hk' b (by rcases List.mem_append.1 hb2 with h | h <;> simp [h])) (oA_list.1 hG)
        have hrow := hset w' _ c (mk y') (fun b hb2 => hk' b (by rcases List.mem_append.1 hb2 with h | h <;> simp [h])) hnew
        refine ⟨g :: (Ga ++ ((Ha ++ (G ++ Hb)) ++ Gb)), oA_list.2 (.inr ⟨g, o, cap, cur, te, _, cc, by simp, rfl, by rw [hk' g (by simp)]; exact hg, hfit, by simpa using hnc, hcm, by simpa using htake, by rw [e4]; exact hrow⟩), ?_, ?_⟩
        · refine (List.Perm.nodup_iff ?_).1 hnn
          simp only [List.cons_append, List.append_assoc]
          refine List.Perm.cons g (List.Perm.append_left Ga (List.Perm.append_left Ha ?_))
          rw [← List.append_assoc, ← List.append_assoc]
          exact (List.perm_append_comm).trans (by rw [List.append_assoc])
        · intro b hb2
          simp at hb2 ⊢
          rcases hb2 with h | h | h | h | h | h <;> simp [h]
    · refine (List.Perm.nodup_iff ?_).1 hn
      simp only [List.cons_append, List.append_assoc]
      refine (List.perm_middle (l₁ := []) (a := g)).symm.trans ?_
      simp only [List.nil_append]
      refine List.Perm.trans ?_ (List.perm_append_comm (l₁ := g :: (Ga ++ (Ha ++ (Hb ++ (Gb ++ F2))))) (l₂ := Hx))
      simp only [List.cons_append, List.append_assoc]
      refine List.Perm.cons g (List.Perm.append_left Ga (List.Perm.append_left Ha ?_))
      refine (List.perm_append_comm).trans ?_
      simp
    · intro b hb2
      refine hb b ?_
      simp at hb2 ⊢
      rcases hb2 with h | h | h | h | h | h | h <;> simp [h]
end
end Go.Gx
