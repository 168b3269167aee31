/-
  A region in which several operations that are carried out wait for none of each other: it is walked in each of their orders.
-/
import Derived.Test.YtlmopoaeekhmeaaGreatDoorGxW
namespace Go.Gx
open Go.RowKit

/-- An operation that makes something new, and enters no function. -/
def plainOp : Op → Bool
  | .buildSlice .. => true
  | .alloc .. => true
  | .box .. => true
  | .makeSlice .. => true
  | .load .. => true
  | .call c => (match c.callee with | .builtin .append => true | _ => false)
  | _ => false

section
variable {P : Program} {ops : Array Oper} {C : World → Prop} {eff : Nat → Bool} {Q : Act → World → Prop}

theorem run_value_bind (s : Sem Value) (w w' : World) (n : Next) (h : (do pure (Next.value (← s)) : Sem Next).run P w = .ok n w') : ∃ v, n = .value v := by
  simp only [Sem.run_bind, Sem.run_pure] at h
  cases hs : s.run P w with
  | ok x w1 => rw [hs] at h; cases h; exact ⟨x, rfl⟩
  | halt x w1 => rw [hs] at h; cases h

theorem plain_value {o : Oper} {a : Act} {w w' : World} {n : Next} (hp : plainOp o.op = true) (h : (execOp a.eval o).run P w = .ok n w') : ∃ v, n = .value v := by
  obtain ⟨dst, op, ty, pos, after, g⟩ := o
  cases op with
  | buildSlice t l p => exact run_value_bind _ _ _ _ h
  | alloc t => exact run_value_bind _ _ _ _ h
  | box t x => exact run_value_bind _ _ _ _ h
  | makeSlice t x y => exact run_value_bind _ _ _ _ h
  | load t x => exact run_value_bind _ _ _ _ h
  | call c =>
    obtain ⟨callee, args, aty⟩ := c
    cases callee with
    | builtin b =>
      cases b with
      | append =>
        refine run_value_bind (P := P) (Builtin.append_ aty ty (args.map a.eval)) w w' n ?_
        simpa [execOp, resolve, invoke, builtin] using h
      | _ => simp [plainOp] at hp
    | _ => simp [plainOp] at hp
  | _ => simp [plainOp] at hp

theorem Step.both' {i : Nat} {o : Oper} {a : Act} {w : World} {K K' : Act → World → Prop} (hC : C w) (he : plainOp o.op = true ∨ ¬ eff i = true) (h : Step P ops C eff i o a w K) (h' : Step P ops C eff i o a w K') :
    Step P ops C eff i o a w (fun a w => K a w ∧ K' a w) := by
  rcases he with he | he
  · unfold Step at *
    split
    · rename_i hw
      rw [if_pos hw] at h h'
      -- what the operation yields here
      have quiet : ∀ {K K' : Act → World → Prop} {v : Value}, eff i = true → (∀ w1, C w1 → Runs P o a w1 v) → K (a.put o.dst v) w → EffAt P o a w (fun a w => C w ∧ K' a w) → EffAt P o a w (fun a w => C w ∧ K a w ∧ K' a w) := by
        intro K K' v _ hv hk hh
        unfold EffAt at hh ⊢
        rcases hv w hC with hr | ⟨hr, rfl⟩
        · rw [hr] at hh ⊢; exact ⟨hC, hk, hh.2⟩
        · rw [hr] at hh ⊢; exact ⟨hC, hk, hh.2⟩
      rcases h with ⟨v, h1, h2⟩ | ⟨h1, h2⟩
      · rcases h' with ⟨u, h3, h4⟩ | ⟨h3, h4⟩
        · have := Runs.eq (h1 w hC) (h3 w hC)
          subst this
          exact .inl ⟨v, h1, h2, h4⟩
        · exact .inr ⟨h3, quiet h3 h1 h2 h4⟩
      · rcases h' with ⟨u, h3, h4⟩ | ⟨h3, h4⟩
        · refine .inr ⟨h1, ?_⟩
          have := quiet (K := K') (K' := K) h1 h3 h4 h2
          exact effUpon_mono (fun v w ⟨x, y, z⟩ => ⟨x, z, y⟩) this
        · refine .inr ⟨h1, ?_⟩
          unfold EffAt at h2 h4 ⊢
          cases hr : (execOp a.eval o).run P w with
          | ok n w' =>
            obtain ⟨v, rfl⟩ := plain_value he hr
            rw [hr] at h2 h4
            exact ⟨h2.1, h2.2, h4.2⟩
          | halt x w' => rw [hr] at h2; exact h2.elim
    · rename_i hw
      rw [if_neg hw] at h h'
      exact ⟨h, h'⟩
  · exact Step.both hC he h h'

theorem Step.all {i : Nat} {o : Oper} {a : Act} {w : World} (hC : C w) : ∀ (Ks : List (Act → World → Prop)), Ks ≠ [] → (Ks.length = 1 ∨ plainOp o.op = true ∨ ¬ eff i = true) → (∀ K ∈ Ks, Step P ops C eff i o a w K) →
    Step P ops C eff i o a w (fun a w => ∀ K ∈ Ks, K a w)
  | [], h, _, _ => absurd rfl h
  | [K], _, _, h => Step.mono hC (fun v w _ hk => by intro K' hK'; simp at hK'; subst hK'; exact hk) (h K (List.mem_cons_self ..))
  | K :: K2 :: Ks, _, he, h => by
    have he' : plainOp o.op = true ∨ ¬ eff i = true := he.resolve_left (by simp)
    have ih := Step.all hC (K2 :: Ks) (by simp) (.inr he') (fun K hK => h K (List.mem_cons_of_mem _ hK))
    refine Step.mono hC (fun v w _ hk => ?_) (Step.both' hC he' (h K (List.mem_cons_self ..)) ih)
    intro K' hK'
    rcases List.mem_cons.1 hK' with rfl | hK'
    · exact hk.1
    · exact hk.2 K' hK'

/-- Orders of the operations that are carried out: whichever is ready, there is an order that begins with it. -/
def famOk (ops : Array Oper) : Nat → List (List Nat) → Bool
  | 0, _ => false
  | n + 1, ls => match ls with
    | [] => false
    | e0 :: _ => e0.all fun i => e0.any (fun j => reach ops ops.size i j) ||
        (let ls' := ls.filter (fun l => l.head? == some i)
         !ls'.isEmpty && (ls'.length == 1 || (match ops[i]? with | some o => plainOp o.op | none => false)) && famOk ops n (ls'.map List.tail))

theorem filter_erase_ne {i : Nat} (he : ¬ eff i = true) (l1 l2 : List Nat) : (l1 ++ l2).filter eff = (l1 ++ i :: l2).filter eff := by
  simp [List.filter_append, he]

/-- What stands for the family. -/
structure Fam (ops : Array Oper) (eff : Nat → Bool) (listed : Array Bool) (l : List Nat) : Prop where
  left : Left ops listed l
  pw : l.Pairwise (fun j i => dep ops j i = false ∧ ((eff j = true ∧ eff i = true) ∨ okPair ops eff j i = true))

theorem split_at {i : Nat} {l : List Nat} (hi : i ∈ l) (hn : l.Nodup) : ∃ l1 l2, l = l1 ++ i :: l2 ∧ l.erase i = l1 ++ l2 ∧ i ∉ l1 := by
  obtain ⟨l1, l2, rfl⟩ := List.append_of_mem hi
  have h1 : i ∉ l1 := fun hx => (List.nodup_append.1 hn).2.2 i hx i (List.mem_cons_self ..) rfl
  exact ⟨l1, l2, rfl, by rw [List.erase_append_right _ h1, List.erase_cons_head], h1⟩

theorem wpAny_fam {Q' : Exit → Act → World → Prop} (hsel : Region.noSelect ops = true) (hedge : edgesOk ops = true) (hQ : ∀ a w, Q a w → Q' .normal a w) :
    ∀ (fuel n : Nat) (listed : Array Bool) (Ls : List (List Nat)) (a : Act) (w : World), Ls ≠ [] → (∀ l ∈ Ls, Fam ops eff listed l) → (∀ l ∈ Ls, l.length = fuel) → famOk ops n (Ls.map (·.filter eff)) = true →
      C w → (∀ l ∈ Ls, LI P ops C eff Q l a w) → wpAny P .any ops Q' fuel listed a w := by
  intro fuel
  induction fuel with
  | zero =>
    intro n listed Ls a w hne hF hlen _ _ h
    obtain ⟨l, Ls', rfl⟩ := List.exists_cons_of_ne_nil hne
    have hl := hF l (List.mem_cons_self ..)
    have : l = [] := List.eq_nil_of_length_eq_zero (hlen l (List.mem_cons_self ..))
    subst this
    refine ⟨?_, hQ _ _ (h [] (List.mem_cons_self ..))⟩
    refine List.eq_nil_iff_forall_not_mem.2 fun i hi => ?_
    obtain ⟨h0, o, ho, _⟩ := mem_ready.1 hi
    have := (hl.left.mem i (Array.getElem?_eq_some_iff.1 ho).1).2 h0
    cases this
  | succ fuel ih =>
    intro n listed Ls a w hne hF hlen hok hC h
    obtain ⟨l0, Ls0, hLs⟩ := List.exists_cons_of_ne_nil hne
    have hl0 : l0 ∈ Ls := by rw [hLs]; exact List.mem_cons_self ..
    constructor
    · intro hr
      exfalso
      have hL := (hF l0 hl0).left
      have hpw := (hF l0 hl0).pw
      -- the first of an order is ready where nothing of it is waited for
      cases hl : l0 with
      | nil => have := hlen l0 hl0; rw [hl] at this; simp at this
      | cons i m =>
        rw [hl] at hL hpw
        have := hL.ready (fun j hj => ((List.pairwise_cons.1 hpw).1 j hj).1) (edgesOk_spec hedge)
        rw [hr] at this
        cases this
    · intro i hi
      obtain ⟨hun, oi, hoi, hall⟩ := mem_ready.1 hi
      have hil := (Array.getElem?_eq_some_iff.1 hoi).1
      have him : ∀ l ∈ Ls, i ∈ l := fun l hl => ((hF l hl).left.mem i hil).2 hun
      have hbring : ∀ l ∈ Ls, (¬ eff i = true ∨ (l.filter eff).head? = some i) → LI P ops C eff Q (i :: l.erase i) a w := by
        intro l hl hc
        obtain ⟨l1, l2, e1, e2, hn1⟩ := split_at (him l hl) (hF l hl).left.nodup
        rw [e2]
        have hpw := (hF l hl).pw
        rw [e1] at hpw
        have hL := (hF l hl).left
        rw [e1] at hL
        refine LI.bring hoi hsel l1 l2 a w hC (fun j hj => okPair_ready hL.closed hoi hall (hL.f (by simp [hj])) ?_) (by rw [← e1]; exact h l hl)
        rcases ((List.pairwise_append.1 hpw).2.2 j hj i (List.mem_cons_self ..)).2 with ⟨h1, h2⟩ | h2
        · exfalso
          rcases hc with hc | hc
          · exact hc h2
          · rw [e1, List.filter_append] at hc
            have hj2 : j ∈ l1.filter eff := List.mem_filter.2 ⟨hj, h1⟩
            obtain ⟨q, qs, hq⟩ := List.exists_cons_of_ne_nil (List.ne_nil_of_mem hj2)
            rw [hq] at hc
            simp at hc
            subst hc
            exact hn1 ((List.mem_filter.1 (show _ ∈ List.filter eff l1 by rw [hq]; exact List.mem_cons_self ..)).1)
        · exact h2
      have hnextF : ∀ l ∈ Ls, Fam ops eff (listed.setIfInBounds i true) (l.erase i) := by
        intro l hl
        obtain ⟨l1, l2, e1, e2, hn1⟩ := split_at (him l hl) (hF l hl).left.nodup
        have hL := (hF l hl).left
        rw [e1] at hL
        refine ⟨by rw [e2]; exact hL.next hoi hall, (hF l hl).pw.sublist (List.erase_sublist ..)⟩
      have hnextLen : ∀ l ∈ Ls, (l.erase i).length = fuel := by
        intro l hl
        rw [List.length_erase_of_mem (him l hl), hlen l hl]
        rfl
      by_cases hei : eff i = true
      · cases n with
        | zero => simp [famOk] at hok
        | succ n =>
          have hok' := hok
          rw [hLs] at hok'
          simp only [famOk, List.map_cons] at hok'
          have hi0 : i ∈ l0.filter eff := List.mem_filter.2 ⟨him l0 hl0, hei⟩
          have h1 := List.all_eq_true.1 hok' i hi0
          rw [Bool.or_eq_true] at h1
          rcases h1 with h1 | h1
          · exfalso
            obtain ⟨j, hj, hr⟩ := List.any_eq_true.1 h1
            have hjl : j ∈ l0 := (List.mem_filter.1 hj).1
            have := reach_listed (hF l0 hl0).left.closed _ i j (fun o ho e hem hb => by rw [hoi] at ho; cases ho; exact hall e hem hb) hr
            rw [(hF l0 hl0).left.f hjl] at this
            cases this
          · rw [← List.map_cons (f := fun l => List.filter eff l), ← hLs] at h1
            simp only [Bool.and_eq_true, Bool.not_eq_true', Bool.or_eq_true, beq_iff_eq, hoi] at h1
            obtain ⟨⟨g1, g2⟩, g3⟩ := h1
            rw [List.filter_map] at g1 g2 g3
            have hLs' : ∀ l ∈ Ls.filter ((fun l => l.head? == some i) ∘ fun l => List.filter eff l), l ∈ Ls ∧ (l.filter eff).head? = some i := by
              intro l hl
              obtain ⟨a1, a2⟩ := List.mem_filter.1 hl
              exact ⟨a1, by simpa using a2⟩
            generalize Ls.filter ((fun l => l.head? == some i) ∘ fun l => List.filter eff l) = Ls' at g1 g2 g3 hLs'
            have hne' : Ls' ≠ [] := by intro e; rw [e] at g1; simp at g1
            have hst := Step.all (P := P) (ops := ops) (C := C) (eff := eff) (i := i) (o := oi) (a := a) hC (Ls'.map fun l => LI P ops C eff Q (l.erase i)) (by simpa using hne') (by
              rcases g2 with g2 | g2
              · exact .inl (by simpa using g2)
              · exact .inr (.inl g2)) (by
              intro K hK
              obtain ⟨l, hl, rfl⟩ := List.mem_map.1 hK
              obtain ⟨q1, q2⟩ := hLs' l hl
              obtain ⟨o, ho, hs⟩ := hbring l q1 (.inr q2)
              rw [hoi] at ho; cases ho; exact hs)
            refine wpOp_of_step hoi hC (fun a' w' hC' hk => ih n _ (Ls'.map fun l => l.erase i) a' w' (by simpa using hne') ?_ ?_ ?_ hC' ?_) hst
            · intro l hl
              obtain ⟨l', hl', rfl⟩ := List.mem_map.1 hl
              exact hnextF l' (hLs' l' hl').1
            · intro l hl
              obtain ⟨l', hl', rfl⟩ := List.mem_map.1 hl
              exact hnextLen l' (hLs' l' hl').1
            · rw [List.map_map] at g3 ⊢
              have e : Ls'.map ((fun l => List.filter eff l) ∘ fun l => l.erase i) = Ls'.map (List.tail ∘ fun l => List.filter eff l) := by
                refine List.map_congr_left fun l hl => ?_
                obtain ⟨q1, q2⟩ := hLs' l hl
                obtain ⟨l1, l2, e1, e2, hn1⟩ := split_at (him l q1) (hF l q1).left.nodup
                simp only [Function.comp]
                rw [e2]
                rw [e1, List.filter_append] at q2
                rw [e1]
                have hz : l1.filter eff = [] := by
                  apply Classical.byContradiction
                  intro hx
                  obtain ⟨q, qs, hq⟩ := List.exists_cons_of_ne_nil hx
                  rw [hq] at q2
                  simp at q2
                  subst q2
                  exact hn1 ((List.mem_filter.1 (show _ ∈ List.filter eff l1 by rw [hq]; exact List.mem_cons_self ..)).1)
                rw [List.filter_append, List.filter_append, hz, List.filter_cons, if_pos hei]
                rfl
              rw [e]
              exact g3
            · intro l hl
              obtain ⟨l', hl', rfl⟩ := List.mem_map.1 hl
              exact hk _ (List.mem_map.2 ⟨l', hl', rfl⟩)
      · have hst := Step.all (P := P) (ops := ops) (C := C) (eff := eff) (i := i) (o := oi) (a := a) hC (Ls.map fun l => LI P ops C eff Q (l.erase i)) (by simpa using hne) (.inr (.inr hei)) (by
          intro K hK
          obtain ⟨l, hl, rfl⟩ := List.mem_map.1 hK
          obtain ⟨o, ho, hs⟩ := hbring l hl (.inl hei)
          rw [hoi] at ho; cases ho; exact hs)
        refine wpOp_of_step hoi hC (fun a' w' hC' hk => ih n _ (Ls.map fun l => l.erase i) a' w' (by simpa using hne) ?_ ?_ ?_ hC' ?_) hst
        · intro l hl
          obtain ⟨l', hl', rfl⟩ := List.mem_map.1 hl
          exact hnextF l' hl'
        · intro l hl
          obtain ⟨l', hl', rfl⟩ := List.mem_map.1 hl
          exact hnextLen l' hl'
        · rw [List.map_map]
          have e : Ls.map ((fun l => List.filter eff l) ∘ fun l => l.erase i) = Ls.map (fun l => List.filter eff l) := by
            refine List.map_congr_left fun l hl => ?_
            obtain ⟨l1, l2, e1, e2, hn1⟩ := split_at (him l hl) (hF l hl).left.nodup
            simp only [Function.comp]
            rw [e2, e1]
            exact filter_erase_ne hei l1 l2
          rw [e]
          exact hok
        · intro l hl
          obtain ⟨l', hl', rfl⟩ := List.mem_map.1 hl
          exact hk _ (List.mem_map.2 ⟨l', hl', rfl⟩)
/-- All of it as one check. -/
def manyOk (ops : Array Oper) (eff : Nat → Bool) (ps : List (List Nat)) : Bool :=
  Region.noSelect ops && edgesOk ops && !ps.isEmpty && famOk ops (ops.size + 1) (ps.map (·.filter eff)) &&
  ps.all fun l => decide (l.Pairwise fun j i => dep ops j i = false ∧ ((eff j = true ∧ eff i = true) ∨ okPair ops eff j i = true)) && decide l.Nodup && decide (∀ i ∈ List.range ops.size, i ∈ l) && decide (∀ i ∈ l, i < ops.size)

/-- The walks of the orders. -/
def Walks (P : Program) (l : List Oper) (C : World → Prop) (eff : Nat → Bool) (Q : Act → World → Prop) (a : Act) (w : World) : List (List Nat) → Prop
  | [] => True
  | p :: ps => (∃ (m : List Oper) (eff' : Nat → Bool), p.map (fun i => l[i]?) = m.map some ∧ p.map eff = (List.range p.length).map eff' ∧ LX P l.toArray C eff' Q 0 m a w) ∧ Walks P l C eff Q a w ps

/-- A region of several orders. -/
theorem region_drawN [dr : Dr] {id : Nat} {l : List Oper} {Q' : Exit → Act → World → Prop} {a : Act} {w : World} (C : World → Prop) (eff : Nat → Bool) (ps : List (List Nat)) (hm : P.follows .mixedOrders = true)
    (hok : manyOk l.toArray eff ps = true) (h : ∀ w', Ext w w' → C w' ∧ Walks P l C eff (fun a w => Q' .normal a w) a w' ps) : (Code.region id l.toArray true).wp P Q' a w := by
  obtain ⟨hC, h1⟩ := h _ (Ext.drawn w)
  simp only [manyOk, Bool.and_eq_true, Bool.not_eq_true', List.all_eq_true, decide_eq_true_eq] at hok
  obtain ⟨⟨⟨⟨q1, q2⟩, q3⟩, q4⟩, q5⟩ := hok
  have hsz : l.toArray.size = l.length := by simp
  have none_ : ∀ k, (Array.replicate l.length false).getD k false = false := by
    intro k
    simp only [Array.getD, Array.size_replicate]
    split <;> simp
  have mk : ∀ p' : List Nat, p'.Nodup → (∀ i, i < l.length → i ∈ p') → (∀ i ∈ p', i < l.length) → Left l.toArray (Array.replicate l.toArray.size false) p' := by
    intro p' hn hin hlt
    refine ⟨by simp, ?_, hn, ?_, fun i hi => by simpa using hlt i hi⟩
    · intro k hk
      rw [hsz, none_] at hk
      cases hk
    · intro i hi
      have hi' : i < l.length := by simpa using hi
      constructor
      · intro _; simp [Array.getD, hi']
      · intro _; exact hin i hi'
  have hall : ∀ ps : List (List Nat), Walks P l C eff (fun a w => Q' .normal a w) a { w with drawn := w.drawn + 1 } ps → ∀ p ∈ ps, LI P l.toArray C eff (fun a w => Q' .normal a w) p a { w with drawn := w.drawn + 1 } := by
    intro ps
    induction ps with
    | nil => intro _ p hp; cases hp
    | cons q ps ih =>
      rintro ⟨⟨m, eff', hp, he, h2⟩, hw⟩ p hpm
      rcases List.mem_cons.1 hpm with rfl | hpm
      · have hpl : m.length = p.length := by have := congrArg List.length hp; simpa using this.symm
        refine LI_of_LXp m p eff' 0 a _ (fun j o hj => ?_) hpl hC h2
        have hj' : j < p.length := by have := (List.getElem?_eq_some_iff.1 hj).1; omega
        refine ⟨p[j], List.getElem?_eq_getElem hj', ?_, ?_⟩
        · have := congrArg (fun z => z[j]?) hp
          simp only [List.getElem?_map, hj, List.getElem?_eq_getElem hj', Option.map_some] at this
          simpa using this
        · have := congrArg (fun z => z[j]?) he
          simp only [List.getElem?_map, List.getElem?_eq_getElem hj', Option.map_some, List.getElem?_range hj'] at this
          simpa using this.symm
      · exact ih hw p hpm
  refine wp_region_any hm ?_
  have hfam : ∀ p ∈ ps, Fam l.toArray eff (Array.replicate l.toArray.size false) p := fun p hp => by
    obtain ⟨⟨⟨a1, a2⟩, a3⟩, a4⟩ := q5 p hp
    exact ⟨mk p a2 (fun i hi => a3 i (List.mem_range.2 (by simpa using hi))) (fun i hi => by simpa using a4 i hi), a1⟩
  refine wpAny_fam (Q := fun a w => Q' .normal a w) q1 q2 (fun _ _ h => h) _ _ _ ps a _ (by intro e; rw [e] at q3; simp at q3) hfam ?_ q4 hC (hall ps h1)
  intro p hp
  have hF := (hfam p hp).left
  have := List.Perm.length_eq ((List.perm_ext_iff_of_nodup hF.nodup List.nodup_range).2 (fun i => by
    constructor
    · intro hi; exact List.mem_range.2 (hF.lt i hi)
    · intro hi
      obtain ⟨⟨⟨a1, a2⟩, a3⟩, a4⟩ := q5 p hp
      exact a3 i hi))
  simpa using this
end
end Go.Gx
