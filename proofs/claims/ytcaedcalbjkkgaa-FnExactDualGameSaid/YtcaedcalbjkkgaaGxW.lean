/-
  A region in which two operations that are carried out wait for neither: it is walked in both orders.
-/
import Derived.Test.YtcaedcalbjkkgaaGxS
namespace Go.Gx
open Go.RowKit

section
variable {P : Program} {ops : Array Oper} {C : World → Prop} {eff : Nat → Bool} {Q : Act → World → Prop}

/-- i waits for j by an edge. -/
def dep (ops : Array Oper) (i j : Nat) : Bool := match ops[i]? with
  | none => false
  | some o => o.after.any (fun e => Region.binds .any e && e.on == j)

/-- j may stand ahead of i. -/
def okPair (ops : Array Oper) (eff : Nat → Bool) (j i : Nat) : Bool := match ops[j]?, ops[i]? with
  | some oj, some oi => !dep ops j i && (dep ops i j || (oj.apart ops oi && !(eff i && eff j)) || reach ops ops.size i j)
  | _, _ => true

/-- A ready place is apart from what stands ahead of it. -/
theorem okPair_ready {listed : Array Bool} {i j : Nat} {oi : Oper} (hcl : Closed ops listed) (hoi : ops[i]? = some oi) (hall : ∀ e ∈ oi.after, Region.binds .any e = true → listed.getD e.on false = true)
    (hj : listed.getD j false = false) (h : okPair ops eff j i = true) : ∀ oj, ops[j]? = some oj → oj.apart ops oi = true ∧ ¬ (eff i = true ∧ eff j = true) := by
  intro oj hoj
  have hjf : ¬ listed.getD j false = true := by rw [hj]; simp
  simp only [okPair, hoj, hoi, dep, Bool.and_eq_true, Bool.or_eq_true, Bool.not_eq_true', Bool.and_eq_false_iff] at h
  rcases h.2 with (h2 | h2) | h2
  · obtain ⟨e, he, hb⟩ := Array.any_eq_true'.1 h2
    simp only [Bool.and_eq_true, beq_iff_eq] at hb
    exact absurd (by rw [← hb.2]; exact hall e he hb.1) hjf
  · exact ⟨h2.1, fun hx => by rcases h2.2 with h | h <;> simp_all⟩
  · exact absurd (reach_listed hcl _ i j (fun o ho e he hb => by rw [hoi] at ho; cases ho; exact hall e he hb) h2) hjf

/-- What is left to be carried out. -/
structure Left (ops : Array Oper) (listed : Array Bool) (l : List Nat) : Prop where
  size : listed.size = ops.size
  closed : Closed ops listed
  nodup : l.Nodup
  mem : ∀ i, i < ops.size → (i ∈ l ↔ listed.getD i true = false)
  lt : ∀ i ∈ l, i < ops.size

theorem Left.f {listed : Array Bool} {l : List Nat} (h : Left ops listed l) {i : Nat} (hi : i ∈ l) : listed.getD i false = false := by
  have h1 := h.lt i hi
  have h2 := (h.mem i h1).1 hi
  have : listed.getD i false = listed.getD i true := by simp [Array.getD, h.size, h1]
  rw [this, h2]

theorem Left.next {listed : Array Bool} {l1 l2 : List Nat} {i : Nat} {oi : Oper} (h : Left ops listed (l1 ++ i :: l2)) (hoi : ops[i]? = some oi) (hall : ∀ e ∈ oi.after, Region.binds .any e = true → listed.getD e.on false = true) :
    Left ops (listed.setIfInBounds i true) (l1 ++ l2) := by
  have hsub : (l1 ++ l2).Sublist (l1 ++ i :: l2) := List.Sublist.append_left (List.sublist_cons_self ..) _
  have hil := (Array.getElem?_eq_some_iff.1 hoi).1
  refine ⟨by simp [h.size], ?_, h.nodup.sublist hsub, ?_, fun j hj => h.lt j (hsub.subset hj)⟩
  · intro k hk o ho e he hb
    by_cases hki : i = k
    · subst hki
      rw [hoi] at ho
      cases ho
      exact getD_set_true (hall e he hb)
    · rw [getD_set_ne false hki] at hk
      exact getD_set_true (h.closed k hk o ho e he hb)
  · intro j hj
    by_cases hji : i = j
    · subst hji
      have hn := List.nodup_append.1 h.nodup
      have h1 : i ∉ l1 := fun hx => hn.2.2 i hx i (List.mem_cons_self ..) rfl
      have h2 : i ∉ l2 := (List.nodup_cons.1 hn.2.1).1
      have hsz : i < listed.size := by rw [h.size]; exact hj
      simp [h1, h2, Array.getD, hsz]
    · rw [getD_set_ne true hji, ← h.mem j hj]
      have : j ≠ i := fun hx => hji hx.symm
      simp [this]

/-- The first of a good order is ready. -/
theorem Left.ready {listed : Array Bool} {i : Nat} {l : List Nat} (h : Left ops listed (i :: l)) (hp : ∀ j ∈ l, dep ops i j = false) (he : ∀ i o, ops[i]? = some o → ∀ e ∈ o.after, Region.binds .any e = true → e.on < ops.size ∧ e.on ≠ i) :
    i ∈ Region.ready .any ops listed := by
  have hil := h.lt i (List.mem_cons_self ..)
  have ho : ops[i]? = some ops[i] := Array.getElem?_eq_getElem hil
  refine mem_ready.2 ⟨(h.mem i hil).1 (List.mem_cons_self ..), _, ho, fun e hem hb => ?_⟩
  obtain ⟨h1, h2⟩ := he i _ ho e hem hb
  have hn : e.on ∉ i :: l := by
    intro hm
    rcases List.mem_cons.1 hm with hx | hx
    · exact h2 hx
    · have := hp e.on hx
      simp only [dep, ho] at this
      rw [← Bool.not_eq_true] at this
      exact this (Array.any_eq_true'.2 ⟨e, hem, by simp [hb]⟩)
  have h3 : ¬ listed.getD e.on true = false := fun hx => hn ((h.mem _ h1).2 hx)
  have : listed.getD e.on false = listed.getD e.on true := by simp [Array.getD, h.size, h1]
  rw [this]
  simpa using h3

theorem wpOp_of_step {Q' : Exit → Act → World → Prop} {fuel : Nat} {listed : Array Bool} {i : Nat} {oi : Oper} {a : Act} {w : World} {K : Act → World → Prop} (hoi : ops[i]? = some oi) (hC : C w)
    (hnext : ∀ a' w', C w' → K a' w' → wpAny P .any ops Q' fuel (listed.setIfInBounds i true) a' w') (hst : Step P ops C eff i oi a w K) : wpOp P ops Q' i (wpAny P .any ops Q' fuel (listed.setIfInBounds i true)) a w := by
  unfold wpOp
  rw [hoi]
  dsimp only
  unfold Step at hst
  split
  · rename_i hw
    rw [if_pos hw] at hst
    left
    unfold Oper.wp
    rcases hst with ⟨v, hv, hk⟩ | ⟨_, hk⟩
    · rcases hv w hC with hr | ⟨hr, rfl⟩ <;> rw [hr]
      · exact hnext _ _ hC hk
      · exact hnext _ _ hC hk
    · unfold EffAt at hk
      generalize (execOp a.eval oi).run P w = r at hk
      cases r with
      | ok n w'' =>
        cases n <;> simp only [effUpon] at hk <;> simp only [Oper.upon]
        case value v => exact hnext _ _ hk.1 hk.2
        case skip => exact hnext _ _ hk.1 hk.2
        case enter f args => exact hk.mono fun e w3 ⟨v, hv, hc, hx⟩ => by subst hv; exact hnext _ _ hc hx
      | halt x w'' => exact hk.elim
  · rename_i hw
    rw [if_neg hw] at hst
    exact hnext _ _ hC hst

def edgesOk (ops : Array Oper) : Bool := (List.range ops.size).all fun i => match ops[i]? with
  | none => true
  | some o => o.after.all fun e => !Region.binds .any e || (decide (e.on < ops.size) && e.on != i)

theorem edgesOk_spec (h : edgesOk ops = true) : ∀ i o, ops[i]? = some o → ∀ e ∈ o.after, Region.binds .any e = true → e.on < ops.size ∧ e.on ≠ i := by
  intro i o ho e he hb
  have hi := (Array.getElem?_eq_some_iff.1 ho).1
  simp only [edgesOk, List.all_eq_true, List.mem_range] at h
  have h1 := h i hi
  rw [ho] at h1
  have h2 := Array.all_eq_true_iff_forall_mem.1 h1 e he
  simpa [hb] using h2

/-- One order. -/
theorem wpAny_one {Q' : Exit → Act → World → Prop} (hsel : Region.noSelect ops = true) (hedge : edgesOk ops = true) (hQ : ∀ a w, Q a w → Q' .normal a w) :
    ∀ (fuel : Nat) (listed : Array Bool) (l : List Nat) (a : Act) (w : World), Left ops listed l → l.Pairwise (fun j i => okPair ops eff j i = true) → l.length = fuel → C w → LI P ops C eff Q l a w → wpAny P .any ops Q' fuel listed a w := by
  intro fuel
  induction fuel with
  | zero =>
    intro listed l a w hL _ hlen _ h
    have : l = [] := List.eq_nil_of_length_eq_zero hlen
    subst this
    refine ⟨?_, hQ _ _ h⟩
    refine List.eq_nil_iff_forall_not_mem.2 fun i hi => ?_
    obtain ⟨h0, o, ho, _⟩ := mem_ready.1 hi
    have := (hL.mem i (Array.getElem?_eq_some_iff.1 ho).1).2 h0
    cases this
  | succ fuel ih =>
    intro listed l a w hL hpw hlen hC h
    constructor
    · intro hr
      exfalso
      cases l with
      | nil => simp at hlen
      | cons i l' =>
        have := hL.ready (fun j hj => by
          have h1 := (List.pairwise_cons.1 hpw).1 j hj
          have hi := hL.lt i (List.mem_cons_self ..)
          have hj' := hL.lt j (List.mem_cons_of_mem _ hj)
          simp only [okPair, Array.getElem?_eq_getElem hi, Array.getElem?_eq_getElem hj', Bool.and_eq_true, Bool.not_eq_true'] at h1
          exact h1.1) (edgesOk_spec hedge)
        rw [hr] at this
        cases this
    · intro i hi
      obtain ⟨hun, oi, hoi, hall⟩ := mem_ready.1 hi
      have hil := (Array.getElem?_eq_some_iff.1 hoi).1
      have him : i ∈ l := (hL.mem i hil).2 hun
      obtain ⟨l1, l2, rfl⟩ := List.append_of_mem him
      have hb := LI.bring hoi hsel l1 l2 a w hC (fun j hj => okPair_ready hL.closed hoi hall (hL.f (by simp [hj])) ((List.pairwise_append.1 hpw).2.2 j hj i (List.mem_cons_self ..))) h
      obtain ⟨o, ho, hst⟩ := hb
      rw [hoi] at ho
      cases ho
      have hsub : (l1 ++ l2).Sublist (l1 ++ i :: l2) := List.Sublist.append_left (List.sublist_cons_self ..) _
      exact wpOp_of_step hoi hC (fun a' w' hC' h' => ih _ (l1 ++ l2) a' w' (hL.next hoi hall) (hpw.sublist hsub) (by simp at hlen ⊢; omega) hC' h') hst

/-- Two orders, of which x and y stand in turn. -/
def twoOk (ops : Array Oper) (eff : Nat → Bool) (l1 l2 : List Nat) (x y : Nat) : Bool :=
  Region.noSelect ops && edgesOk ops &&
  decide (l1.Pairwise fun j i => (j = x ∧ i = y) ∨ okPair ops eff j i = true) && decide (l2.Pairwise fun j i => (j = y ∧ i = x) ∨ okPair ops eff j i = true) &&
  decide (∀ i ∈ l1, eff i = true → i = x ∨ i = y ∨ reach ops ops.size i x = true ∨ reach ops ops.size i y = true) &&
  decide (dep ops x y = false) && decide (dep ops y x = false) && decide (x ≠ y) && decide (l1.Nodup) && decide (l2.Nodup) && decide (∀ i ∈ List.range ops.size, i ∈ l1 ∧ i ∈ l2) && decide (∀ i ∈ l1, i < ops.size) && decide (∀ i ∈ l2, i < ops.size)

theorem Step.both {i : Nat} {o : Oper} {a : Act} {w : World} {K K' : Act → World → Prop} (hC : C w) (he : ¬ eff i = true) (h : Step P ops C eff i o a w K) (h' : Step P ops C eff i o a w K') : Step P ops C eff i o a w (fun a w => K a w ∧ K' a w) := by
  unfold Step at *
  split
  · rename_i hw
    rw [if_pos hw] at h h'
    rcases h with ⟨v, h1, h2⟩ | ⟨h1, _⟩
    · rcases h' with ⟨u, h3, h4⟩ | ⟨h3, _⟩
      · have := Runs.eq (h1 w hC) (h3 w hC)
        subst this
        exact .inl ⟨v, h1, h2, h4⟩
      · exact absurd h3 he
    · exact absurd h1 he
  · rename_i hw
    rw [if_neg hw] at h h'
    exact ⟨h, h'⟩

theorem wpAny_two {Q' : Exit → Act → World → Prop} {x y : Nat} (hsel : Region.noSelect ops = true) (hedge : edgesOk ops = true) (hQ : ∀ a w, Q a w → Q' .normal a w) (hxy : x ≠ y)
    (heff : ∀ i, i < ops.size → eff i = true → i = x ∨ i = y ∨ reach ops ops.size i x = true ∨ reach ops ops.size i y = true) (hd1 : dep ops x y = false) (hd2 : dep ops y x = false) :
    ∀ (fuel : Nat) (listed : Array Bool) (l l' : List Nat) (a : Act) (w : World), Left ops listed l → Left ops listed l' → l.Pairwise (fun j i => (j = x ∧ i = y) ∨ okPair ops eff j i = true) → l'.Pairwise (fun j i => (j = y ∧ i = x) ∨ okPair ops eff j i = true) →
      x ∈ l → y ∈ l → l.length = fuel → C w → LI P ops C eff Q l a w → LI P ops C eff Q l' a w → wpAny P .any ops Q' fuel listed a w := by
  intro fuel
  induction fuel with
  | zero =>
    intro listed l l' a w hL _ _ _ hx _ hlen _ _ _
    have : l = [] := List.eq_nil_of_length_eq_zero hlen
    subst this
    cases hx
  | succ fuel ih =>
    intro listed l l' a w hL hL' hpw hpw' hxl hyl hlen hC h h'
    have hlen' : l'.length = fuel + 1 := by
      rw [← hlen]
      refine (List.Perm.length_eq ?_)
      refine (List.perm_ext_iff_of_nodup hL'.nodup hL.nodup).2 fun i => ?_
      constructor
      · intro hi; exact (hL.mem i (hL'.lt i hi)).2 ((hL'.mem i (hL'.lt i hi)).1 hi)
      · intro hi; exact (hL'.mem i (hL.lt i hi)).2 ((hL.mem i (hL.lt i hi)).1 hi)
    constructor
    · intro hr
      exfalso
      cases l with
      | nil => simp at hlen
      | cons i m =>
        have := hL.ready (fun j hj => by
          have h1 := (List.pairwise_cons.1 hpw).1 j hj
          have hi := hL.lt i (List.mem_cons_self ..)
          have hj' := hL.lt j (List.mem_cons_of_mem _ hj)
          rcases h1 with ⟨rfl, rfl⟩ | h1
          · exact hd1
          · simp only [okPair, Array.getElem?_eq_getElem hi, Array.getElem?_eq_getElem hj', Bool.and_eq_true, Bool.not_eq_true'] at h1
            exact h1.1) (edgesOk_spec hedge)
        rw [hr] at this
        cases this
    · intro i hi
      obtain ⟨hun, oi, hoi, hall⟩ := mem_ready.1 hi
      have hil := (Array.getElem?_eq_some_iff.1 hoi).1
      have him : i ∈ l := (hL.mem i hil).2 hun
      have him' : i ∈ l' := (hL'.mem i hil).2 hun
      obtain ⟨l1, l2, rfl⟩ := List.append_of_mem him
      obtain ⟨m1, m2, rfl⟩ := List.append_of_mem him'
      have hn1 := List.nodup_append.1 hL.nodup
      have hn2 := List.nodup_append.1 hL'.nodup
      have hni1 : i ∉ l1 ++ l2 := fun hx => by
        rcases List.mem_append.1 hx with hx | hx
        · exact hn1.2.2 i hx i (List.mem_cons_self ..) rfl
        · exact (List.nodup_cons.1 hn1.2.1).1 hx
      have hni2 : i ∉ m1 ++ m2 := fun hx => by
        rcases List.mem_append.1 hx with hx | hx
        · exact hn2.2.2 i hx i (List.mem_cons_self ..) rfl
        · exact (List.nodup_cons.1 hn2.2.1).1 hx
      have hsub : (l1 ++ l2).Sublist (l1 ++ i :: l2) := List.Sublist.append_left (List.sublist_cons_self ..) _
      have hsub' : (m1 ++ m2).Sublist (m1 ++ i :: m2) := List.Sublist.append_left (List.sublist_cons_self ..) _
      have bring1 : i ≠ y → LI P ops C eff Q (i :: (l1 ++ l2)) a w := fun hiy => LI.bring hoi hsel l1 l2 a w hC (fun j hj => okPair_ready hL.closed hoi hall (hL.f (by simp [hj])) (by
        rcases (List.pairwise_append.1 hpw).2.2 j hj i (List.mem_cons_self ..) with ⟨_, h2⟩ | h2
        · exact absurd h2 hiy
        · exact h2)) h
      have bring2 : i ≠ x → LI P ops C eff Q (i :: (m1 ++ m2)) a w := fun hix => LI.bring hoi hsel m1 m2 a w hC (fun j hj => okPair_ready hL'.closed hoi hall (hL'.f (by simp [hj])) (by
        rcases (List.pairwise_append.1 hpw').2.2 j hj i (List.mem_cons_self ..) with ⟨_, h2⟩ | h2
        · exact absurd h2 hix
        · exact h2)) h'
      have one1 : (i = x ∨ i = y) → ∀ a' w', C w' → LI P ops C eff Q (l1 ++ l2) a' w' → wpAny P .any ops Q' fuel (listed.setIfInBounds i true) a' w' := fun hi' a' w' hC' hk =>
        wpAny_one hsel hedge hQ fuel _ (l1 ++ l2) a' w' (hL.next hoi hall) ((hpw.sublist hsub).imp_of_mem (fun {j k} hj hk hh => by
          rcases hh with ⟨h1, h2⟩ | hh
          · exfalso
            rcases hi' with e | e
            · exact hni1 (by rw [e, ← h1]; exact hj)
            · exact hni1 (by rw [e, ← h2]; exact hk)
          · exact hh)) (by simp at hlen ⊢; omega) hC' hk
      have one2 : (i = x ∨ i = y) → ∀ a' w', C w' → LI P ops C eff Q (m1 ++ m2) a' w' → wpAny P .any ops Q' fuel (listed.setIfInBounds i true) a' w' := fun hi' a' w' hC' hk =>
        wpAny_one hsel hedge hQ fuel _ (m1 ++ m2) a' w' (hL'.next hoi hall) ((hpw'.sublist hsub').imp_of_mem (fun {j k} hj hk hh => by
          rcases hh with ⟨h1, h2⟩ | hh
          · exfalso
            rcases hi' with e | e
            · exact hni2 (by rw [e, ← h2]; exact hk)
            · exact hni2 (by rw [e, ← h1]; exact hj)
          · exact hh)) (by simp at hlen' ⊢; omega) hC' hk
      by_cases hix : i = x
      · obtain ⟨o, ho, hst⟩ := bring1 (fun e => hxy (hix.symm.trans e))
        rw [hoi] at ho
        cases ho
        exact wpOp_of_step hoi hC (one1 (.inl hix)) hst
      · by_cases hiy : i = y
        · obtain ⟨o, ho, hst⟩ := bring2 hix
          rw [hoi] at ho
          cases ho
          exact wpOp_of_step hoi hC (one2 (.inr hiy)) hst
        · obtain ⟨o, ho, hst⟩ := bring1 hiy
          obtain ⟨o', ho', hst'⟩ := bring2 hix
          rw [hoi] at ho ho'
          cases ho
          cases ho'
          have hne : ¬ eff i = true := by
            intro he
            have hall' : ∀ o, ops[i]? = some o → ∀ e ∈ o.after, Region.binds .any e = true → listed.getD e.on false = true := fun o ho e hem hb => by rw [hoi] at ho; cases ho; exact hall e hem hb
            rcases heff i hil he with e | e | e | e
            · exact hix e
            · exact hiy e
            · have := reach_listed hL.closed _ i x hall' e
              rw [hL.f hxl] at this; cases this
            · have := reach_listed hL.closed _ i y hall' e
              rw [hL.f hyl] at this; cases this
          have hx' : x ∈ l1 ++ l2 := by
            simp at hxl ⊢
            rcases hxl with h | h | h
            · exact .inl h
            · exact absurd h.symm hix
            · exact .inr h
          have hy' : y ∈ l1 ++ l2 := by
            simp at hyl ⊢
            rcases hyl with h | h | h
            · exact .inl h
            · exact absurd h.symm hiy
            · exact .inr h
          exact wpOp_of_step hoi hC (fun a' w' hC' ⟨k1, k2⟩ => ih _ (l1 ++ l2) (m1 ++ m2) a' w' (hL.next hoi hall) (hL'.next hoi hall) (hpw.sublist hsub) (hpw'.sublist hsub') hx' hy' (by simp at hlen ⊢; omega) hC' k1 k2) (Step.both hC hne hst hst')

theorem LI_of_LXp : ∀ (m : List Oper) (l : List Nat) (eff' : Nat → Bool) (k : Nat) (a : Act) (w : World), (∀ j o, m[j]? = some o → ∃ i, l[j]? = some i ∧ ops[i]? = some o ∧ eff' (k + j) = eff i) → m.length = l.length → C w → LX P ops C eff' Q k m a w → LI P ops C eff Q l a w
  | [], l, _, _, a, w, _, hl, _, h => by
    have : l = [] := List.eq_nil_of_length_eq_zero hl.symm
    subst this
    exact h
  | o :: m, l, eff', k, a, w, hm, hl, hC, h => by
    cases l with
    | nil => simp at hl
    | cons i l =>
      obtain ⟨i', h1, h2, h3⟩ := hm 0 o rfl
      simp at h1
      subst h1
      refine ⟨o, h2, ?_⟩
      have h' : Step P ops C eff i o a w (LX P ops C eff' Q (k + 1) m) := by
        unfold LX at h
        unfold Step at *
        simp only [Nat.add_zero] at h3
        rw [h3] at h
        exact h
      exact Step.mono hC (fun v w' hC' hx => LI_of_LXp m l eff' (k + 1) _ w' (fun j o' hj => by
        obtain ⟨i2, g1, g2, g3⟩ := hm (j + 1) o' (by simpa using hj)
        exact ⟨i2, by simpa using g1, g2, by rw [← g3]; congr 1; omega⟩) (by simpa using hl) hC' hx) h'

/-- A region of two orders. -/
theorem region_draw2 [dr : Dr] {id : Nat} {l m : List Oper} {Q' : Exit → Act → World → Prop} {a : Act} {w : World} (C : World → Prop) (eff eff' : Nat → Bool) (p : List Nat) (x y : Nat) (hm : P.follows .mixedOrders = true)
    (hok : twoOk l.toArray eff (List.range l.length) p x y = true) (hp : p.map (fun i => l[i]?) = m.map some) (he : p.map eff = (List.range p.length).map eff') (hx : (decide (x < l.length) && decide (y < l.length)) = true)
    (h : ∀ w', Ext w w' → (C w' ∧ LX P l.toArray C eff (fun a w => Q' .normal a w) 0 l a w') ∧ LX P l.toArray C eff' (fun a w => Q' .normal a w) 0 m a w') : (Code.region id l.toArray true).wp P Q' a w := by
  obtain ⟨⟨hC, h1⟩, h2⟩ := h _ (Ext.drawn w)
  simp only [twoOk, Bool.and_eq_true, decide_eq_true_eq] at hok
  obtain ⟨⟨⟨⟨⟨⟨⟨⟨⟨⟨⟨⟨q1, q2⟩, q3⟩, q4⟩, q5⟩, q6⟩, q7⟩, q8⟩, q9⟩, q10⟩, q11⟩, q12⟩, q13⟩ := hok
  simp only [Bool.and_eq_true, decide_eq_true_eq] at hx
  have hsz : l.toArray.size = l.length := by simp
  have none_ : ∀ k, (Array.replicate l.length false).getD k false = false := by
    intro k
    simp only [Array.getD, Array.size_replicate]
    split <;> simp
  have mk : ∀ p' : List Nat, p'.Nodup → (∀ i, i < l.length → i ∈ p') → (∀ i ∈ p', i < l.length) → Left l.toArray (Array.replicate l.toArray.size false) p' := by
    intro p' hn hin hlt
    refine ⟨by simp, ?_, hn, ?_, fun i hi => by simpa using hlt i hi⟩
    · intro k hk
      rw [hsz, none_] at hk
      cases hk
    · intro i hi
      have hi' : i < l.length := by simpa using hi
      constructor
      · intro _; simp [Array.getD, hi']
      · intro _; exact hin i hi'
  have hL2 := mk p q10 (fun i hi => (q11 i (List.mem_range.2 (by simpa using hi))).2) (fun i hi => by simpa using q13 i hi)
  have hL1 := mk (List.range l.length) q9 (fun i hi => List.mem_range.2 hi) (fun i hi => List.mem_range.1 hi)
  have hpl : m.length = p.length := by have := congrArg List.length hp; simpa using this.symm
  have li1 : LI P l.toArray C eff (fun a w => Q' .normal a w) (List.range l.length) a { w with drawn := w.drawn + 1 } := by
    have := LI_of_LX (ops := l.toArray) l 0 a _ (by simp) hC h1
    rwa [← List.range_eq_range'] at this
  have li2 : LI P l.toArray C eff (fun a w => Q' .normal a w) p a { w with drawn := w.drawn + 1 } := by
    refine LI_of_LXp m p eff' 0 a _ (fun j o hj => ?_) hpl hC h2
    have hj' : j < p.length := by have := (List.getElem?_eq_some_iff.1 hj).1; omega
    refine ⟨p[j], List.getElem?_eq_getElem hj', ?_, ?_⟩
    · have := congrArg (fun z => z[j]?) hp
      simp only [List.getElem?_map, hj, List.getElem?_eq_getElem hj', Option.map_some] at this
      simpa using this
    · have := congrArg (fun z => z[j]?) he
      simp only [List.getElem?_map, List.getElem?_eq_getElem hj', Option.map_some, List.getElem?_range hj'] at this
      simpa using this.symm
  refine wp_region_any hm ?_
  exact wpAny_two (Q := fun a w => Q' .normal a w) q1 q2 (fun _ _ h => h) q8 (fun i hi => q5 i (List.mem_range.2 (by simpa using hi))) q6 q7 _ _ (List.range l.length) p a _ hL1 hL2 q3 q4 (List.mem_range.2 hx.1) (List.mem_range.2 hx.2) (by simp) hC li1 li2
end
end Go.Gx
