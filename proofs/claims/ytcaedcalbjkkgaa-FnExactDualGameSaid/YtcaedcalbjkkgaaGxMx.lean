/-
  Slots of lists: what stands in one is owned, or is read memory of an older world, or is let go.
-/
import Derived.Test.YtcaedcalbjkkgaaGxT
namespace Go.Gx
open Go.RowKit

inductive Mx (α : Type) where
  | own (x : α)
  | rd (x : α)
  | gone

def Mx.val {α : Type} : Mx α → Option α
  | .own x => some x
  | .rd x => some x
  | .gone => none
def Mx.mine {α : Type} : Mx α → Option α
  | .own x => some x
  | _ => none
theorem Mx.mine_some {α : Type} {m : Mx α} {x : α} (h : m.mine = some x) : m = .own x := by cases m <;> simp [Mx.mine] at h; rw [h]
theorem Mx.val_mine {α : Type} {m : Mx α} {x : α} (h : m.mine = some x) : m.val = some x := by rw [Mx.mine_some h]; rfl

/-- f on every element. -/
def allO {α β : Type} (f : β → Option α) : List β → Option (List α)
  | [] => some []
  | m :: ms => (f m).bind fun x => (allO f ms).bind fun xs => some (x :: xs)
theorem allO_cons {α β : Type} {f : β → Option α} {m : β} {ms : List β} {ys : List α} (h : allO f (m :: ms) = some ys) : ∃ x xs, f m = some x ∧ allO f ms = some xs ∧ ys = x :: xs := by
  unfold allO at h
  cases h1 : f m with
  | none => rw [h1] at h; cases h
  | some x =>
    cases h2 : allO f ms with
    | none => rw [h1, h2] at h; cases h
    | some xs => rw [h1, h2] at h; cases h; exact ⟨x, xs, rfl, rfl, rfl⟩
theorem allO_len {α β : Type} {f : β → Option α} : ∀ {ms : List β} {ys : List α}, allO f ms = some ys → ys.length = ms.length
  | [], ys, h => by cases h; rfl
  | m :: ms, ys, h => by
    obtain ⟨x, xs, _, h2, rfl⟩ := allO_cons h
    simp [allO_len h2]
theorem allO_map {α β γ : Type} {f : β → Option α} {g : γ → β} {k : γ → α} (hk : ∀ x, f (g x) = some (k x)) : ∀ (l : List γ), allO f (l.map g) = some (l.map k)
  | [] => rfl
  | x :: l => by simp [allO, hk, allO_map hk l]

/-- A slot of a list in a call that began in the world W (or in a later one). -/
def rMx {α : Type} (W : World) (r : Rep α) : Rep (Mx α) where
  size := r.size
  agg := r.agg
  own w F cs m := match m with
    | .own x => r.own w F cs x
    | .rd x => F = [] ∧ r.rd W.heap.size W cs x
    | .gone => F = [] ∧ cs.length = r.size ∧ ∀ c ∈ cs, c.oneCell' = true
  rd B w cs m := match m with
    | .own x => r.rd B w cs x
    | .rd x => r.rd W.heap.size W cs x
    | .gone => cs.length = r.size ∧ ∀ c ∈ cs, c.oneCell' = true
  own_len := by intro w F cs m h; cases m with
    | own x => exact r.own_len h
    | rd x => exact r.rd_len h.2
    | gone => exact h.2.1
  rd_len := by intro B w cs m h; cases m with
    | own x => exact r.rd_len h
    | rd x => exact r.rd_len h
    | gone => exact h.1
  own_one := by intro w F cs m h; cases m with
    | own x => exact r.own_one h
    | rd x => exact r.rd_one h.2
    | gone => exact h.2.2
  rd_one := by intro B w cs m h; cases m with
    | own x => exact r.rd_one h
    | rd x => exact r.rd_one h
    | gone => exact h.2
  own_keep := by intro w w' F cs m h hk; cases m with
    | own x => exact r.own_keep h hk
    | rd x => exact h
    | gone => exact h
  rd_keep := by intro w w' B cs m h hk; cases m with
    | own x => exact r.rd_keep h hk
    | rd x => exact h
    | gone => exact h
  rd_mono := by intro w B B' cs m h hB; cases m with
    | own x => exact r.rd_mono h hB
    | rd x => exact h
    | gone => exact h
  own_rd := by intro w F B cs m h hB; cases m with
    | own x => exact r.own_rd h hB
    | rd x => exact h.2
    | gone => exact h.2
  own_lt := by intro w F cs m h; cases m with
    | own x => exact r.own_lt h
    | rd x => rw [h.1]; intro b hb; cases hb
    | gone => rw [h.1]; intro b hb; cases hb

theorem mx_val [dr : Dr] {α : Type} {W w : World} {r : Rep α} {B : Nat} {cs : List Value} {m : Mx α} {x : α} (h : (rMx W r).rd B w cs m) (he : Ext W w) (hB : w.heap.size ≤ B) (hv : m.val = some x) : r.rd B w cs x := by
  cases m with
  | own y => cases hv; exact h
  | rd y => cases hv; exact r.rd_mono (r.rd_keep (show r.rd W.heap.size W cs x from h) fun b hb => he.block hb) (Nat.le_trans he.size hB)
  | gone => cases hv

theorem rd_mx1 {α : Type} {W w : World} {r : Rep α} {B : Nat} {cs : List Value} {m : Mx α} (h : (rMx W r).rd B w cs m) (h1 : r.size = 1) : ∃ u, cs = [u] :=
  List.length_eq_one_iff.1 (by rw [(rMx W r).rd_len h]; exact h1)

/-- What reads as one reads as the other. -/
def CvR [dr : Dr] {α β : Type} (W : World) (rm : Rep β) (r : Rep α) (f : β → Option α) : Prop :=
  rm.size = r.size ∧ rm.agg = r.agg ∧ ∀ {w : World} {B : Nat} {cs : List Value} {m : β} {x : α}, Ext W w → w.heap.size ≤ B → rm.rd B w cs m → f m = some x → r.rd B w cs x
theorem CvR.mx [dr : Dr] {α : Type} {W : World} {r : Rep α} : CvR W (rMx W r) r Mx.val := ⟨rfl, rfl, fun he hB h hv => mx_val h he hB hv⟩
theorem CvR.same [dr : Dr] {α : Type} {W : World} {r : Rep α} : CvR W r r some := ⟨rfl, rfl, fun _ _ h hv => by cases hv; exact h⟩
def prodO {α β γ δ : Type} (f : β → Option α) (g : δ → Option γ) (p : β × δ) : Option (α × γ) := (f p.1).bind fun x => (g p.2).bind fun y => some (x, y)
theorem prodO_some {α β γ δ : Type} {f : β → Option α} {g : δ → Option γ} {p : β × δ} {q : α × γ} (h : prodO f g p = some q) : f p.1 = some q.1 ∧ g p.2 = some q.2 := by
  unfold prodO at h
  cases h1 : f p.1 with
  | none => rw [h1] at h; cases h
  | some x =>
    cases h2 : g p.2 with
    | none => rw [h1, h2] at h; cases h
    | some y => rw [h1, h2] at h; cases h; exact ⟨rfl, rfl⟩
theorem CvR.prod [dr : Dr] {α β γ δ : Type} {W : World} {rm : Rep β} {r : Rep α} {sm : Rep δ} {s : Rep γ} {f : β → Option α} {g : δ → Option γ} (h1 : CvR W rm r f) (h2 : CvR W sm s g) : CvR W (rProd rm sm) (rProd r s) (prodO f g) := by
  refine ⟨by show rm.size + sm.size = r.size + s.size; rw [h1.1, h2.1], rfl, ?_⟩
  rintro w B cs m x he hB ⟨c1, c2, e, a, b⟩ hv
  obtain ⟨v1, v2⟩ := prodO_some hv
  exact ⟨c1, c2, e, h1.2.2 he hB a v1, h2.2.2 he hB b v2⟩
theorem rdL_cv [dr : Dr] {α β : Type} {W w : World} {rm : Rep β} {r : Rep α} {f : β → Option α} {B : Nat} (h : CvR W rm r f) (he : Ext W w) (hB : w.heap.size ≤ B) : ∀ {ms : List β} {xs : List α} {cs}, rdL rm B w cs ms → allO f ms = some xs → rdL r B w cs xs
  | [], xs, cs, hr, hv => by cases hv; exact hr
  | m :: ms, xs, cs, ⟨c1, c2, e, a, b⟩, hv => by
    obtain ⟨x, ys, v1, v2, rfl⟩ := allO_cons hv
    exact ⟨c1, c2, e, h.2.2 he hB a v1, rdL_cv h he hB b v2⟩
theorem CvR.list [dr : Dr] {α β : Type} {W : World} {rm : Rep β} {r : Rep α} {f : β → Option α} (h : CvR W rm r f) : CvR W (rList rm) (rList r) (allO f) := by
  refine ⟨rfl, rfl, ?_⟩
  rintro w B cs ms xs he hB ⟨A, c, h1, h2, h3⟩ hv
  have hl := allO_len hv
  refine ⟨A, c, by rw [hl]; exact h1, by rw [hl]; exact h2, ?_⟩
  rcases h3 with rfl | ⟨a, cc, h4, h5, h6, h7⟩
  · left; cases hv; rfl
  · exact .inr ⟨a, cc, h4, h5, h6, rdL_cv h he hB h7 hv⟩
theorem Rd.cv [dr : Dr] {α β : Type} {W w : World} {rm : Rep β} {r : Rep α} {f : β → Option α} {v : Value} {m : β} {x : α} (h : Rd rm w v m) (hc : CvR W rm r f) (he : Ext W w) (hv : f m = some x) : Rd r w v x := by
  obtain ⟨cs, h1, h2⟩ := h
  exact ⟨cs, by rw [h1]; unfold toVal; rw [hc.2.1], hc.2.2 he (Nat.le_refl _) h2 hv⟩

/-- What is owned as one is owned as the other. -/
def CvO {α β : Type} (rm : Rep β) (r : Rep α) (f : β → Option α) : Prop :=
  rm.size = r.size ∧ ∀ {w : World} {F : List Nat} {cs : List Value} {m : β} {x : α}, rm.own w F cs m → f m = some x → r.own w F cs x
theorem CvO.mx {α : Type} {W : World} {r : Rep α} : CvO (rMx W r) r Mx.mine := ⟨rfl, fun h hv => by cases Mx.mine_some hv; exact h⟩
theorem CvO.same {α : Type} {r : Rep α} : CvO r r some := ⟨rfl, fun h hv => by cases hv; exact h⟩
theorem CvO.prod {α β γ δ : Type} {rm : Rep β} {r : Rep α} {sm : Rep δ} {s : Rep γ} {f : β → Option α} {g : δ → Option γ} (h1 : CvO rm r f) (h2 : CvO sm s g) : CvO (rProd rm sm) (rProd r s) (prodO f g) := by
  refine ⟨by show rm.size + sm.size = r.size + s.size; rw [h1.1, h2.1], ?_⟩
  rintro w F cs m x ⟨F1, F2, c1, c2, e1, e, a, b⟩ hv
  obtain ⟨v1, v2⟩ := prodO_some hv
  exact ⟨F1, F2, c1, c2, e1, e, h1.2 a v1, h2.2 b v2⟩
theorem ownL_cv {α β : Type} {w : World} {rm : Rep β} {r : Rep α} {f : β → Option α} (h : CvO rm r f) : ∀ {ms : List β} {xs : List α} {F cs}, ownL rm w F cs ms → allO f ms = some xs → ownL r w F cs xs
  | [], xs, F, cs, hr, hv => by cases hv; exact hr
  | m :: ms, xs, F, cs, ⟨F1, F2, c1, c2, e1, e, a, b⟩, hv => by
    obtain ⟨x, ys, v1, v2, rfl⟩ := allO_cons hv
    exact ⟨F1, F2, c1, c2, e1, e, h.2 a v1, ownL_cv h b v2⟩

section
variable {α β : Type} {w w0 W : World} {L : List Asrt} {v : Value}
/-- All slots are owned: the list is. -/
theorem Heap.mine [dr : Dr] {rm : Rep β} {r : Rep α} {f : β → Option α} {ms : List β} {xs : List α} (H : Heap w0 (oA (rList rm) v ms :: L) w) (hc : CvO rm r f) (hv : allO f ms = some xs) : Heap w0 (oA (rList r) v xs :: L) w := by
  have hl := allO_len hv
  refine H.as fun F hA => ?_
  rcases oA_list.1 hA with ⟨rfl, e1, e2⟩ | ⟨g, o, cap, cur, te, F', cc, e1, e2, h3, h4, h5, h6, h7, h8⟩
  · cases hv; exact oA_list.2 (.inl ⟨rfl, e1, e2⟩)
  · exact oA_list.2 (.inr ⟨g, o, cap, cur, te, F', cc, by rw [hl]; exact e1, e2, h3, by rw [← hc.1]; exact h4, by rw [hl]; exact h5, h6, by rw [hl, ← hc.1]; exact h7, ownL_cv hc h8 hv⟩)

/-- A slot that is owned is taken out; the list goes on without it. -/
theorem Heap.takeM [dr : Dr] {s : Rep α} {ms : List (Mx (List α))} {i : Nat} {m : Mx (List α)} {y : List α} (H : Heap w0 (oA (rList (rMx W (rList s))) v ms :: L) w) (hi : ms[i]? = some m) (hm : m.mine = some y) :
    ∃ u, At w (ePtr v (i * (rMx W (rList s)).size)) 0 u ∧ Heap w0 (oA (rList s) u y :: oA (rList (rMx W (rList s))) v (ms.set i .gone) :: L) w := by
  cases Mx.mine_some hm
  obtain ⟨hext, F, ⟨F1, F2, rfl, h1, h2⟩, hn, hb⟩ := H
  rcases oA_list.1 h1 with ⟨rfl, _, _⟩ | ⟨g, o, cap, cur, te, F', cc, hv, rfl, hg, hfit, hnc, hcm, htake, hL⟩
  · simp at hi
  · cases hv
    obtain ⟨Ga, Gx, Gb, ca, c, cb, rfl, e4, hl, hx, hset⟩ := ownL_get hL hi
    have hx' : (rList s).own w Gx c y := hx
    have hc : ∃ u, c = [u] := by
      rcases hx' with ⟨_, _, rfl⟩ | ⟨g, o, cap, cur, te, F', cc, rfl, _⟩ <;> exact ⟨_, rfl⟩
    obtain ⟨u, rfl⟩ := hc
    have hil := (List.getElem?_eq_some_iff.1 hi).1
    have hone : ∀ c ∈ [u], c.oneCell' = true := (rList s).own_one hx'
    have hnew := hset w [] [u] .gone (fun _ _ => rfl) ⟨rfl, rfl, hone⟩
    rw [List.nil_append] at hnew
    have hccl := ownL_len hL
    refine ⟨u, ⟨_, rfl, ?_⟩, hext, Gx ++ ((g :: (Ga ++ Gb)) ++ F2), ⟨Gx, _, rfl, oA_list.2 hx', g :: (Ga ++ Gb), F2, rfl, oA_list.2 (.inr ⟨g, o, cap, cur, te, Ga ++ Gb, cc, by rw [List.length_set], rfl, hg, hfit, by rw [List.length_set]; exact hnc, hcm, by rw [List.length_set]; exact htake, by rw [e4]; exact hnew⟩), h2⟩, ?_, ?_⟩
    · rw [show (⟨g, o, none⟩ : Addr).add (i * (rMx W (rList s)).size) = ⟨g, o + i * (rMx W (rList s)).size, none⟩ from addr_add _ _ _, show (⟨g, o + i * (rMx W (rList s)).size, none⟩ : Addr).add 0 = ⟨g, o + i * (rMx W (rList s)).size, none⟩ from by rw [addr_add]; rfl, cell_of_row w g _ cur te (0, 0) hg]
      have hcc : cc[i * (rMx W (rList s)).size]? = some u := by
        rw [e4, List.getElem?_append_right (by omega), show i * (rMx W (rList s)).size - ca.length = 0 by omega]
        rfl
      rw [← htake, List.getElem?_take] at hcc
      split at hcc
      · rw [List.getElem?_drop] at hcc; simpa using hcc
      · cases hcc
    · refine (List.Perm.nodup_iff ?_).1 hn
      simp only [List.cons_append, List.append_assoc]
      refine List.Perm.trans ?_ (List.perm_append_comm (l₁ := g :: (Ga ++ (Gb ++ F2))) (l₂ := Gx))
      simp only [List.cons_append, List.append_assoc]
      refine List.Perm.cons g (List.Perm.append_left Ga ?_)
      refine (List.perm_append_comm).trans ?_
      simp
    · intro b hb2
      refine hb b ?_
      simp at hb2 ⊢
      rcases hb2 with h | h | h | h | h <;> simp [h]
end

/-- An element together with the value that it is. -/
def rTg {α : Type} (r : Rep α) : Rep (α × Value) where
  size := r.size
  agg := r.agg
  own w F cs m := r.own w F cs m.1 ∧ cs = [m.2]
  rd B w cs m := r.rd B w cs m.1 ∧ cs = [m.2]
  own_len h := r.own_len h.1
  rd_len h := r.rd_len h.1
  own_one h := r.own_one h.1
  rd_one h := r.rd_one h.1
  own_keep h hk := ⟨r.own_keep h.1 hk, h.2⟩
  rd_keep h hk := ⟨r.rd_keep h.1 hk, h.2⟩
  rd_mono h hB := ⟨r.rd_mono h.1 hB, h.2⟩
  own_rd h hB := ⟨r.own_rd h.1 hB, h.2⟩
  own_lt h := r.own_lt h.1
theorem rd_tg {α : Type} {r : Rep α} {w : World} {v u : Value} {T : List (α × Value)} {i : Nat} {x : α} (h : Rd (rList (rTg r)) w v T) (hi : T[i]? = some (x, u)) (ha : r.agg = false) : Rd r w u x := by
  obtain ⟨cs, ⟨h1, h2⟩, _⟩ := h.elem hi
  refine ⟨cs, ?_, h1⟩
  rw [show cs = [u] from h2]
  unfold toVal
  rw [ha]
  rfl
theorem CvO.tg {α : Type} {r : Rep α} : CvO (rTg r) r (fun m => some m.1) := ⟨rfl, fun h hv => by cases hv; exact h.1⟩
theorem allO_tg {α : Type} {T : List (α × Value)} : allO (fun m : α × Value => some m.1) T = some (T.map (·.1)) := by
  have := allO_map (f := fun m : α × Value => some m.1) (g := fun m : α × Value => m) (k := fun m : α × Value => m.1) (fun _ => rfl) T
  simpa using this

/-- Elements whose parts are read memory of the world W: owned with slots that read. -/
def Fl {α β : Type} (W : World) (r : Rep α) (rm : Rep β) (g : α → β) : Prop := ∀ cs x, r.rd W.heap.size W cs x → ∀ w', rm.own w' [] cs (g x)
theorem Fl.flat {α : Type} {W : World} {r : Rep α} (h : Flat r) : Fl W r r id := fun cs x hx w' => h _ _ cs x hx w'
theorem Fl.mx {α : Type} {W : World} {r : Rep α} : Fl W r (rMx W r) Mx.rd := fun _ _ h _ => ⟨rfl, h⟩
theorem Fl.prod {α β γ δ : Type} {W : World} {r : Rep α} {s : Rep γ} {rm : Rep β} {sm : Rep δ} {f : α → β} {g : γ → δ} (h1 : Fl W r rm f) (h2 : Fl W s sm g) : Fl W (rProd r s) (rProd rm sm) (fun p => (f p.1, g p.2)) :=
  fun _ _ ⟨c1, c2, e, a, b⟩ w' => ⟨[], [], c1, c2, rfl, e, h1 c1 _ a w', h2 c2 _ b w'⟩
theorem Fl.rd {α β : Type} {W w : World} {r : Rep α} {rm : Rep β} {g : α → β} (h : Fl W r rm g) {v : Value} {x : α} (hx : Rd r W v x) (ha : rm.agg = r.agg) : Rd rm w v (g x) := by
  obtain ⟨cs, h1, h2⟩ := hx
  exact ⟨cs, by rw [h1]; unfold toVal; rw [ha], rm.own_rd (h cs x h2 w) (fun b hb => by cases hb)⟩
theorem fl_list {α β : Type} {W : World} {r : Rep α} {rm : Rep β} {g : α → β} (hf : Fl W r rm g) {w' : World} : ∀ {xs : List α} {cs}, rdL r W.heap.size W cs xs → ownL rm w' [] cs (xs.map g)
  | [], _, h => ⟨rfl, h⟩
  | _ :: _, _, ⟨c1, c2, e, h1, h2⟩ => ⟨[], [], c1, c2, rfl, e, hf _ _ h1 w', fl_list hf h2⟩

section
variable {P : Program} {ops : Array Oper} {C : World → Prop} {eff : Nat → Bool} {Q : Act → World → Prop} {N : Nat} {env : List (Nat × Value)} {a : Act} {w w0 : World} {k : Nat} {rest : List Oper} {L : List Asrt}
variable {x y : Operand} {v u zv : Value} {t ty e : TypeId} {i : TypeInfo} {pos : String} {after : Array Edge} {g : Option (Nat × Bool)} {d : Nat}
/-- append(xs, ys...), ys read only: the elements' slices become slots that read. -/
theorem lx_appendFl [dr : Dr] {α β : Type} {r : Rep α} {rm : Rep β} {gm : α → β} {xs : List β} {ys : List α}
    (S : Slots a N env) (hw : Want ops env g) (hd : d < N) (he : eff k = true) (H : Heap w0 (oA (rList rm) v xs :: L) w) (hf : Fl w0 r rm gm) (hR : Rd (rList r) w0 u ys)
    (hx : ev env x = some v) (hy : ev env y = some u) (ht : P.underlying t = some (.slice e)) (hi : P.info? e = some i) (hz : i.zero = some zv) (hsz : i.size = rm.size) (hzs : zv.cells.size = rm.size) (hpos : 0 < rm.size) (hby : i.bytes ≤ 128)
    (h63 : xs.length + ys.length ≤ 1099511627776)
    (h : ∀ v' w', Heap w0 (oA (rList rm) v' (xs ++ ys.map gm) :: L) w' → C w' ∧ ∀ a, Slots a N ((d, v') :: env) → LX P ops C eff Q (k + 1) rest a w') :
    LX P ops C eff Q k (⟨some d, .call { callee := .builtin .append, args := #[x, y], argTypes := #[t, t] }, ty, pos, after, g⟩ :: rest) a w := by
  have hext := H.ext
  obtain ⟨F1, hF1⟩ : ∃ F1, (oA (rList rm) v xs).holds w F1 := by
    obtain ⟨_, F, ⟨F1, _, _, h1, _⟩, _⟩ := H
    exact ⟨F1, h1⟩
  obtain ⟨news, hsrc, hG⟩ : ∃ news, Src w rm.size u (ys.map gm).length news ∧ ownL rm w [] news (ys.map gm) := by
    obtain ⟨cs, hv, A, c, rfl, hc, h2⟩ := hR
    have hv' : u = .slice A ys.length c := hv
    rcases h2 with rfl | ⟨p, cc, rfl, hb, hcell, hL⟩
    · exact ⟨[], ⟨A, c, hv', by simp, .inl rfl⟩, rfl, rfl⟩
    · have hown := fl_list hf (w' := w) hL
      refine ⟨cc, ⟨some p, c, by rw [List.length_map]; exact hv', ownL_len hown, .inr ⟨p, rfl, fun j u' hu => ?_⟩⟩, hown⟩
      have hbk : (p.add j).block = p.block := by unfold Addr.add; split <;> rfl
      rw [World.cell?_of_block (w := w0) (w' := w) (by rw [hbk]; exact hext.block hb)]
      exact hcell j u' hu
  have h63' : xs.length + (ys.map gm).length ≤ 1099511627776 := by rw [List.length_map]; exact h63
  obtain ⟨v', w', hr, t1, t2, t3, t4, _, _⟩ := run_append_rep (P := P) (v := v) (u := u) (ty := ty) ht hi hz hsz hzs hpos (oA_list.1 hF1) hsrc (ownL_one hG) h63' hby
  have h' := h v' w' (H.turn 0 rfl t1 t2 t3 t4 fun F ha hn => ?_)
  · exact lx_val S hw hd he (fun a S => run_append_op hx hy hr a S) h'.1 h'.2
  · obtain ⟨v2, w2, hr2, _, _, _, _, h5, h6⟩ := run_append_rep (P := P) (v := v) (u := u) (ty := ty) ht hi hz hsz hzs hpos (oA_list.1 ha) hsrc (ownL_one hG) h63' hby
    rw [hr] at hr2
    cases hr2
    obtain ⟨F', q1, q2, q3⟩ := h6 [] (ys.map gm) hG rfl (by simp) hn List.nodup_nil
    refine ⟨F', oA_list.2 q1, q2, fun c hc => ?_, h5⟩
    rcases q3 c hc with h | h | h
    · exact .inl h
    · cases h
    · exact .inr h
end
end Go.Gx
