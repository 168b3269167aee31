/-
  The words of the plain models: options for what may stop, loops by a count.
-/
import Derived.Test.YtcaedcalbjkkgaaGxH
namespace Go.Gx

abbrev W (x : Int) : Int := IntKind.i64.wrap x

def idx {α : Type} (xs : List α) (i : Int) : Option α := if 0 ≤ i then xs[i.toNat]? else none
/-- A list grown: no greater than memory bears. -/
def app {α : Type} (xs ys : List α) : Option (List α) := if xs.length + ys.length ≤ 1099511627776 then some (xs ++ ys) else none
def mks {α : Type} (n : Int) (z : α) : Option (List α) := if 0 ≤ n ∧ n ≤ 1099511627776 then some (List.replicate n.toNat z) else none
def tdiv (m n : Int) : Option Int := if n = 0 then none else some (W (m.tdiv n))
def tmod (m n : Int) : Option Int := if n = 0 then none else some (m.tmod n)

def iter {σ β : Type} (step : σ → Option (σ ⊕ β)) : Nat → σ → Option β
  | 0, _ => none
  | n + 1, s => match step s with
    | none => none
    | some (.inl s') => iter step n s'
    | some (.inr b) => some b

/-- Behind a loop: on, or the function returns. -/
def ctl {β ρ τ : Type} (x : β ⊕ ρ) (k : β → Option τ) (ret : ρ → Option τ) : Option τ := match x with
  | .inl b => k b
  | .inr r => ret r

def join {κ ρ : Type} (k : κ) (b : κ → Option ρ) : Option ρ := b k

theorem bind_some {α β : Type} {x : Option α} {f : α → Option β} {r : β} (h : x.bind f = some r) : ∃ a, x = some a ∧ f a = some r := Option.bind_eq_some_iff.1 h
theorem ite_t {α : Type} {c : Bool} {x y : Option α} {r : α} (hc : c = true) (h : (if c = true then x else y) = some r) : x = some r := by rw [if_pos hc] at h; exact h
theorem ite_f {α : Type} {c : Bool} {x y : Option α} {r : α} (hc : c = false) (h : (if c = true then x else y) = some r) : y = some r := by rw [if_neg (by rw [hc]; simp)] at h; exact h
theorem join_elim {κ ρ : Type} {k : κ} {b : κ → Option ρ} {r : ρ} (h : join k b = some r) : ∃ K, K = k ∧ b K = some r := ⟨k, rfl, h⟩
theorem ctl_inl {β ρ τ : Type} {b : β} {k : β → Option τ} {ret : ρ → Option τ} {r : τ} (h : ctl (.inl b) k ret = some r) : k b = some r := h
theorem ctl_inr {β ρ τ : Type} {b : ρ} {k : β → Option τ} {ret : ρ → Option τ} {r : τ} (h : ctl (.inr b) k ret = some r) : ret b = some r := h
theorem iter_name {σ β : Type} {f : σ → Option (σ ⊕ β)} {n : Nat} {s : σ} {b : β} (h : iter f n s = some b) : ∃ g, g = f ∧ iter g n s = some b := ⟨f, rfl, h⟩
theorem iter_step {σ β : Type} {f : σ → Option (σ ⊕ β)} {n : Nat} {s : σ} {b : β} (h : iter f n s = some b) : ∃ m o, n = m + 1 ∧ f s = some o ∧ ((∃ s', o = .inl s' ∧ iter f m s' = some b) ∨ o = .inr b) := by
  cases n with
  | zero => cases h
  | succ m =>
    unfold iter at h
    split at h
    · cases h
    · rename_i s' hs; exact ⟨m, _, rfl, hs, .inl ⟨s', rfl, h⟩⟩
    · rename_i b' hs; cases h; exact ⟨m, _, rfl, hs, .inr rfl⟩
theorem it_cont {σ β : Type} {f : σ → Option (σ ⊕ β)} {m : Nat} {s : σ} {b : β} {o : σ ⊕ β} (h : (some (Sum.inl s) : Option (σ ⊕ β)) = some o) (hc : (∃ s', o = .inl s' ∧ iter f m s' = some b) ∨ o = .inr b) : iter f m s = some b := by
  cases h
  rcases hc with ⟨s', h1, h2⟩ | h
  · cases h1; exact h2
  · cases h
theorem it_brk {σ β : Type} {f : σ → Option (σ ⊕ β)} {m : Nat} {b b' : β} {o : σ ⊕ β} (h : (some (Sum.inr b') : Option (σ ⊕ β)) = some o) (hc : (∃ s', o = .inl s' ∧ iter f m s' = some b) ∨ o = .inr b) : b = b' := by
  cases h
  rcases hc with ⟨s', h1, h2⟩ | h
  · cases h1
  · cases h; rfl
theorem idx_some {α : Type} {xs : List α} {i : Int} {x : α} (h : idx xs i = some x) : 0 ≤ i ∧ xs[i.toNat]? = some x := by
  unfold idx at h; split at h
  · exact ⟨by assumption, h⟩
  · cases h
theorem lt_of_idx {α : Type} {xs : List α} {n : Nat} {x : α} (h : xs[n]? = some x) : n < xs.length := (List.getElem?_eq_some_iff.1 h).1
theorem app_some {α : Type} {xs ys zs : List α} (h : app xs ys = some zs) : xs.length + ys.length ≤ 1099511627776 ∧ zs = xs ++ ys := by
  unfold app at h; split at h
  · cases h; exact ⟨by assumption, rfl⟩
  · cases h
theorem mks_some {α : Type} {n : Int} {z : α} {zs : List α} (h : mks n z = some zs) : ∃ m : Nat, n = m ∧ m ≤ 1099511627776 ∧ zs = List.replicate m z := by
  unfold mks at h; split at h
  · rename_i hc; cases h; exact ⟨n.toNat, by omega, by omega, rfl⟩
  · cases h
theorem tdiv_some {m n r : Int} (h : tdiv m n = some r) : n ≠ 0 ∧ r = W (m.tdiv n) := by
  unfold tdiv at h; split at h
  · cases h
  · cases h; exact ⟨by assumption, rfl⟩
theorem tmod_some {m n r : Int} (h : tmod m n = some r) : n ≠ 0 ∧ r = m.tmod n := by
  unfold tmod at h; split at h
  · cases h
  · cases h; exact ⟨by assumption, rfl⟩

open Go.RowKit
theorem rd_list' {α : Type} {r : Rep α} {w : World} {B : Nat} {cs : List Value} {xs : List α} (h : (rList r).rd B w cs xs) : ∃ v, cs = [v] ∧ (rList r).rd B w [v] xs := by
  have h' := h
  obtain ⟨A, c, rfl, _⟩ := h
  exact ⟨_, rfl, h'⟩
section
variable {P : Program} {ops : Array Oper} {C : World → Prop} {eff : Nat → Bool} {Q : Act → World → Prop} {N : Nat} {env : List (Nat × Value)} {a : Act} {w w0 : World} {k : Nat} {rest : List Oper} {L : List Asrt}

/-- The walk over the first operations, then over the rest. -/
theorem lx_cut (n : Nat) (R : Act → World → Prop) {l : List Oper} (h1 : LX P ops C eff R k (l.take n) a w) (h2 : ∀ a w, R a w → LX P ops C eff Q (k + (l.take n).length) (l.drop n) a w) : LX P ops C eff Q k l a w := by
  induction n generalizing k l a w with
  | zero => exact h2 a w h1
  | succ n ih =>
    cases l with
    | nil => exact h2 a w h1
    | cons o l =>
      simp only [List.take_succ_cons, List.drop_succ_cons, List.length_cons] at h1 h2
      have h2' : ∀ a w, R a w → LX P ops C eff Q (k + 1 + (l.take n).length) (l.drop n) a w := by
        intro a w hr
        have := h2 a w hr
        rwa [show k + ((l.take n).length + 1) = k + 1 + (l.take n).length by omega] at this
      unfold LX at h1 ⊢
      unfold Step at h1 ⊢
      split
      · rename_i hw
        rw [if_pos hw] at h1
        rcases h1 with ⟨v, hv, hk⟩ | ⟨he, hk⟩
        · exact .inl ⟨v, hv, ih hk h2'⟩
        · exact .inr ⟨he, effUpon_mono (fun v w ⟨x, y⟩ => ⟨x, ih y h2'⟩) hk⟩
      · rename_i hw
        rw [if_neg hw] at h1
        exact ih h1 h2'

theorem seq_cut {x y : Code} {Q : Exit → Act → World → Prop} (R : Act → World → Prop) (hy : ∀ a w, R a w → y.wp P Q a w) (hx : x.wp P (Exit.then R Q) a w) : (Code.seq x y).wp P Q a w := by
  refine wp_seq (wp_mono hx fun e a w h => ?_)
  cases e <;> first | exact hy _ _ h | exact h

theorem then_exit {next : Act → World → Prop} {Q : Exit → Act → World → Prop} {id : Nat} (h : Q (.exit id) a w) : Exit.then next Q (.exit id) a w := h
theorem then_ret {next : Act → World → Prop} {Q : Exit → Act → World → Prop} (h : Q .ret a w) : Exit.then next Q .ret a w := h
theorem inBlock_ret {id : Nat} {Q : Exit → Act → World → Prop} (h : Q .ret a w) : Exit.inBlock id Q .ret a w := h
theorem inBlock_norm {id : Nat} {Q : Exit → Act → World → Prop} (h : Q .normal a w) : Exit.inBlock id Q .normal a w := h
theorem inBlock_other {id id' : Nat} {Q : Exit → Act → World → Prop} (hne : id' ≠ id) (h : Q (.exit id') a w) : Exit.inBlock id Q (.exit id') a w := by simp [Exit.inBlock, hne]; exact h

theorem pAdd_zero (v : Value) : pAdd v 0 = v := by
  unfold pAdd
  split
  · simp [Addr.add]
  · rfl

theorem block_loop {id : Nat} {c : Code} {Q : Exit → Act → World → Prop} (R : Act → World → Prop) (hk : ∀ a w, R a w → Q .normal a w) (h : (Code.loop c).wp P (Exit.inBlock id (Exit.then R Q)) a w) : (Code.block id (.loop c)).wp P Q a w := by
  refine wp_block (wp_mono h fun e a w hq => ?_)
  cases e with
  | normal => exact hk _ _ hq
  | exit id' =>
    by_cases hx : id' = id
    · subst hx
      simp only [Exit.inBlock, if_true] at hq ⊢
      exact hk _ _ hq
    · simp only [Exit.inBlock, hx, if_false] at hq ⊢
      exact hq
  | _ => exact hq

theorem region_drawG [dr : Dr] {id : Nat} {l : List Oper} {Q' : Exit → Act → World → Prop} (C : World → Prop) (eff : Nat → Bool) (hm : P.follows .mixedOrders = true)
    (hok : orderOk l.toArray eff = true) (h : ∀ w', Ext w w' → C w' ∧ LX P l.toArray C eff (fun a w => Q' .normal a w) 0 l a w') : (Code.region id l.toArray true).wp P Q' a w :=
  region_draw C eff hm hok (h _ (Ext.drawn w)).1 (h _ (Ext.drawn w)).2

theorem Heap.call0 [dr : Dr] {w' : World} (H : Heap w0 L w) (Hc : Heap w [] w') : Heap w0 L w' := H.call Hc
theorem Heap.call1 [dr : Dr] {w' : World} {A : Asrt} (H : Heap w0 L w) (Hc : Heap w [A] w') : Heap w0 (A :: L) w' := H.call Hc
theorem Heap.call2 [dr : Dr] {w' : World} {A B : Asrt} (H : Heap w0 L w) (Hc : Heap w [A, B] w') : Heap w0 (A :: B :: L) w' := H.call Hc
theorem Heap.call3 [dr : Dr] {w' : World} {A B D : Asrt} (H : Heap w0 L w) (Hc : Heap w [A, B, D] w') : Heap w0 (A :: B :: D :: L) w' := H.call Hc
theorem Rd.list_rd {α : Type} {r : Rep α} {v : Value} {xs : List α} (h : Rd (rList r) w v xs) : (rList r).rd w.heap.size w [v] xs := by
  obtain ⟨cs, hv, hr⟩ := h
  obtain ⟨v', rfl, _⟩ := rd_list' hr
  have : v = v' := hv
  subst this
  exact hr

theorem cond_b {c : Operand} {x y : Code} {Q : Exit → Act → World → Prop} {b : Bool} (S : Slots a N env) (hc : ev env c = some (.bool b)) (ht : b = true → x.wp P Q a w) (hf : b = false → y.wp P Q a w) : (Code.cond c x y).wp P Q a w :=
  wp_cond_split (S.eval hc) ht hf

theorem want_b {j d : Nat} {b b' : Bool} (h1 : (ops[j]?).bind (·.dst) = some d) (h2 : lk env d = some (.bool b')) (h3 : b' = b) : Want ops env (some (j, b)) := ⟨d, h1, by rw [h2, h3]⟩
theorem isB_ne {b c : Bool} (h : b = !c) : isB (.bool b) c = false := by subst h; cases c <;> rfl

theorem q_pickT' {c x y : Operand} {v : Value} {b : Bool} (hc : ev env c = some (.bool b)) (hb : b = true) (hx : ev env x = some v) : Q1 P N env C (.pick c x y) v := q_pickT (by rw [hc, hb]) hx
theorem q_pickF' {c x y : Operand} {v : Value} {b : Bool} (hc : ev env c = some (.bool b)) (hb : b = false) (hy : ev env y = some v) : Q1 P N env C (.pick c x y) v := q_pickF (by rw [hc, hb]) hy

theorem At.ext [dr : Dr] {p u : Value} {j : Nat} {w w' : World} (h : At w p j u) (he : Ext w w') : At w' p j u := by
  obtain ⟨a, hp, hc⟩ := h
  refine ⟨a, hp, ?_⟩
  have hl := World.block_lt_of_cell? w _ hc
  rw [World.cell?_of_block (w := w) (he.block hl)]
  exact hc

theorem Rd.elemOne {α : Type} {r : Rep α} {w : World} {v : Value} {xs : List α} (h : Rd (rList r) w v xs) {i : Nat} {x : α} (hi : xs[i]? = some x) {u : Value} (hr : ∀ cs, r.rd w.heap.size w cs x → cs = [u]) : At w (ePtr v (i * r.size)) 0 u := by
  obtain ⟨cs, h1, h2⟩ := h.elem hi
  exact h2 0 u (by rw [hr cs h1]; rfl)

/-- A list's value among read cells. -/
theorem rd_list {α : Type} {r : Rep α} {w : World} {cs : List Value} {xs : List α} (h : (rList r).rd w.heap.size w cs xs) : ∃ v, cs = [v] ∧ Rd (rList r) w v xs := by
  have h' := h
  obtain ⟨A, c, rfl, _⟩ := h
  exact ⟨_, rfl, _, rfl, h'⟩

theorem cells_sl {v : Value} {n : Nat} (h : IsSl v n) : v.cells = #[v] := by obtain ⟨A, c, rfl, _⟩ := h; rfl
theorem one_sl {v : Value} {n : Nat} (h : IsSl v n) : v.oneCell' = true := by obtain ⟨A, c, rfl, _⟩ := h; rfl
theorem Heap.isSl [dr : Dr] {α : Type} {r : Rep α} {v : Value} {xs : List α} (H : Heap w0 L w) (i : Nat) (hk : L[i]? = some (oA (rList r) v xs)) : IsSl v xs.length := (H.rdAt i hk).isSl
theorem isSl_nil : IsSl (.slice none 0 0) 0 := ⟨none, 0, rfl, Nat.le_refl _, fun h => absurd h (by omega)⟩
theorem Heap.nilList [dr : Dr] {α : Type} (r : Rep α) (H : Heap w0 L w) : Heap w0 (oA (rList r) (.slice none 0 0) ([] : List α) :: L) w := H.put0 drop_nil_own

def pickL (L : List Asrt) : List Nat → List Asrt
  | [] => []
  | i :: r => match L[i]? with
    | none => pickL L r
    | some A => A :: pickL L r

theorem HL.sel {w : World} : ∀ (L : List Asrt) (F : List Nat) (is : List Nat) (d : Nat), is.Pairwise (· < ·) → (∀ i ∈ is, d ≤ i) → HL w L F → ∃ G, HL w (pickL L (is.map (· - d))) G ∧ G.Sublist F
  | [], F, is, d, _, _, h => by
    have : ∀ l : List Nat, pickL [] l = [] := by intro l; induction l with
      | nil => rfl
      | cons x l ih => simp [pickL, ih]
    rw [this]
    exact ⟨[], rfl, List.nil_sublist _⟩
  | A :: L, F, [], d, _, _, h => ⟨[], rfl, List.nil_sublist _⟩
  | A :: L, F, i :: is, d, hp, hd, ⟨F1, F2, e, h1, h2⟩ => by
    subst e
    have hp' := List.pairwise_cons.1 hp
    have shift : ∀ l : List Nat, (∀ j ∈ l, d + 1 ≤ j) → pickL (A :: L) (l.map (· - d)) = pickL L (l.map (· - (d + 1))) := by
      intro l hl
      induction l with
      | nil => rfl
      | cons j l ih =>
        have hj := hl j (by simp)
        simp only [List.map_cons, pickL]
        rw [show j - d = (j - (d + 1)) + 1 by omega]
        simp only [List.getElem?_cons_succ]
        rw [ih fun q hq => hl q (by simp [hq])]
    by_cases hid : i = d
    · subst hid
      have hrest : ∀ j ∈ is, i + 1 ≤ j := fun j hj => hp'.1 j hj
      obtain ⟨G, hG, hs⟩ := HL.sel L F2 is (i + 1) hp'.2 hrest h2
      refine ⟨F1 ++ G, ?_, List.Sublist.append (List.Sublist.refl _) hs⟩
      simp only [List.map_cons, Nat.sub_self, pickL, List.getElem?_cons_zero]
      rw [shift is hrest]
      exact ⟨F1, G, rfl, h1, hG⟩
    · have hall : ∀ j ∈ i :: is, d + 1 ≤ j := by
        intro j hj
        have h1 := hd i (by simp)
        rcases List.mem_cons.1 hj with h | h
        · omega
        · have := hp'.1 j h; omega
      obtain ⟨G, hG, hs⟩ := HL.sel L F2 (i :: is) (d + 1) hp hall h2
      rw [shift _ hall]
      exact ⟨G, hG, hs.trans (List.sublist_append_right _ _)⟩

/-- Some of the pieces, in their order. -/
theorem Heap.sel [dr : Dr] (H : Heap w0 L w) (is : List Nat) (hp : is.Pairwise (· < ·)) : Heap w0 (pickL L is) w :=
  H.ofHL fun F hF hn => by
    obtain ⟨G, hG, hs⟩ := HL.sel L F is 0 hp (fun _ _ => Nat.zero_le _) hF
    have : is.map (· - 0) = is := by simp
    rw [this] at hG
    exact ⟨G, hG, hs.nodup hn, fun b hb => hs.subset hb⟩
end
end Go.Gx
