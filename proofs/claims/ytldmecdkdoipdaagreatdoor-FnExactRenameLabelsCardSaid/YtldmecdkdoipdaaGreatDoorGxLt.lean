/-
  A region of several orders in which a function is called: each walk goes as far as the call, and behind it in every order that is left.
-/
import Derived.Test.YtldmecdkdoipdaaGreatDoorGxL
namespace Go.Gx
open Go.RowKit

section
variable {P : Program} {ops : Array Oper} {C : World → Prop} {eff : Nat → Bool} {Q : Act → World → Prop}

/-- A walk as far as a call, and behind it the walks of all orders that are left. -/
def LJ (P : Program) (ops : Array Oper) (C : World → Prop) (eff : Nat → Bool) (Q : Act → World → Prop) (t : List Nat × List (List Nat)) (a : Act) (w : World) : Prop :=
  LI P ops C eff (fun a w => ∀ r ∈ t.2, LI P ops C eff Q r a w) t.1 a w

theorem LI_append : ∀ (l1 l2 : List Nat), LI P ops C eff Q (l1 ++ l2) = LI P ops C eff (LI P ops C eff Q l2) l1
  | [], _ => rfl
  | i :: l1, l2 => by
    funext a w
    show (∃ o, ops[i]? = some o ∧ Step P ops C eff i o a w (LI P ops C eff Q (l1 ++ l2))) = _
    rw [LI_append l1 l2]
    rfl

theorem LI_monoQ {Q2 : Act → World → Prop} (h : ∀ a w, C w → Q a w → Q2 a w) : ∀ (l : List Nat) (a : Act) (w : World), C w → LI P ops C eff Q l a w → LI P ops C eff Q2 l a w
  | [], a, w, hC, hh => h a w hC hh
  | _ :: l, _, _, hC, ⟨o, ho, hs⟩ => ⟨o, ho, hs.mono hC fun _ _ hC' hx => LI_monoQ h l _ _ hC' hx⟩

theorem filter_erase_quiet {i : Nat} (he : ¬ eff i = true) : ∀ l : List Nat, (l.erase i).filter eff = l.filter eff
  | [] => rfl
  | j :: l => by
    by_cases h : j = i
    · subst h
      rw [List.erase_cons_head, List.filter_cons_of_neg he]
    · rw [List.erase_cons_tail (by simpa using h), List.filter_cons, List.filter_cons, filter_erase_quiet he l]

theorem filter_erase_head {i : Nat} : ∀ l : List Nat, (l.filter eff).head? = some i → (l.erase i).filter eff = (l.filter eff).tail
  | [], h => by simp at h
  | j :: l, h => by
    by_cases hj : eff j = true
    · rw [List.filter_cons_of_pos hj] at h ⊢
      simp at h
      subst h
      rw [List.erase_cons_head]
      rfl
    · rw [List.filter_cons_of_neg hj] at h ⊢
      have hi : eff i = true := (List.mem_filter.1 (List.mem_of_head? h)).2
      have : j ≠ i := by rintro rfl; exact hj hi
      rw [List.erase_cons_tail (by simpa using this), List.filter_cons_of_neg hj]
      exact filter_erase_head l h

theorem Fam.next {listed : Array Bool} {l : List Nat} {i : Nat} {oi : Oper} (hF : Fam ops eff listed l) (hi : i ∈ l) (hoi : ops[i]? = some oi) (hall : ∀ e ∈ oi.after, Region.binds .any e = true → listed.getD e.on false = true) :
    Fam ops eff (listed.setIfInBounds i true) (l.erase i) := by
  obtain ⟨l1, l2, e1, e2, hn1⟩ := split_at hi hF.left.nodup
  have hL := hF.left
  rw [e1] at hL
  exact ⟨by rw [e2]; exact hL.next hoi hall, hF.pw.sublist (List.erase_sublist ..)⟩

theorem Fam.ap {listed : Array Bool} {l1 l2 : List Nat} {i : Nat} {oi : Oper} (hF : Fam ops eff listed (l1 ++ i :: l2)) (hoi : ops[i]? = some oi) (hall : ∀ e ∈ oi.after, Region.binds .any e = true → listed.getD e.on false = true)
    (hq : ¬ eff i = true ∨ ∀ j ∈ l1, ¬ eff j = true) : ∀ j ∈ l1, ∀ oj, ops[j]? = some oj → oj.apart ops oi = true ∧ ¬ (eff i = true ∧ eff j = true) := by
  intro j hj
  refine okPair_ready hF.left.closed hoi hall (hF.left.f (by simp [hj])) ?_
  rcases ((List.pairwise_append.1 hF.pw).2.2 j hj i (List.mem_cons_self ..)).2 with ⟨h1, h2⟩ | h2
  · exfalso
    rcases hq with hq | hq
    · exact hq h2
    · exact hq j hj h1
  · exact h2

/-- What is left of a walk behind operation i. -/
def eraseT (i : Nat) (t : List Nat × List (List Nat)) : List Nat × List (List Nat) := (t.1.erase i, if i ∈ t.1 then t.2 else t.2.map (·.erase i))

/-- Operation i is the next one, whichever walk: it is quiet, or the first that is carried out. -/
theorem LJ.step {t : List Nat × List (List Nat)} {listed : Array Bool} {i : Nat} {oi : Oper} {a : Act} {w : World} (hsel : Region.noSelect ops = true) (hoi : ops[i]? = some oi) (hall : ∀ e ∈ oi.after, Region.binds .any e = true → listed.getD e.on false = true)
    (hne : t.2 ≠ []) (hF : ∀ r ∈ t.2, Fam ops eff listed (t.1 ++ r)) (hi : ∀ r ∈ t.2, i ∈ t.1 ++ r) (hq : ¬ eff i = true ∨ (t.1.filter eff).head? = some i) (hC : C w) (h : LJ P ops C eff Q t a w) :
    Step P ops C eff i oi a w (LJ P ops C eff Q (eraseT i t)) := by
  obtain ⟨p, rs⟩ := t
  dsimp only at hne hF hi hq
  obtain ⟨r0, rs0, hrs⟩ := List.exists_cons_of_ne_nil hne
  have hr0 : r0 ∈ rs := by rw [hrs]; exact List.mem_cons_self ..
  have hn0 := (hF r0 hr0).left.nodup
  by_cases hip : i ∈ p
  · obtain ⟨l1, l2, e1, e2, hn1⟩ := split_at hip (List.nodup_append.1 hn0).1
    unfold LJ eraseT at *
    dsimp only at h ⊢
    rw [if_pos hip, e2]
    have hF0 := hF r0 hr0
    rw [e1, List.append_assoc, List.cons_append] at hF0
    have hb := LI.bring hoi hsel l1 l2 a w hC (hF0.ap hoi hall (by
      rcases hq with hq | hq
      · exact .inl hq
      · right
        intro j hj hej
        rw [e1, List.filter_append] at hq
        have hj2 : j ∈ l1.filter eff := List.mem_filter.2 ⟨hj, hej⟩
        obtain ⟨q, qs, hqq⟩ := List.exists_cons_of_ne_nil (List.ne_nil_of_mem hj2)
        rw [hqq] at hq
        simp at hq
        subst hq
        exact hn1 ((List.mem_filter.1 (show _ ∈ List.filter eff l1 by rw [hqq]; exact List.mem_cons_self ..)).1))) (by rw [← e1]; exact h)
    obtain ⟨o, ho, hs⟩ := hb
    rw [hoi] at ho
    cases ho
    exact hs
  · have hei : ¬ eff i = true := by
      rcases hq with hq | hq
      · exact hq
      · exact absurd (List.mem_filter.1 (List.mem_of_head? hq)).1 hip
    have hir : ∀ r ∈ rs, i ∈ r := fun r hr => (List.mem_append.1 (hi r hr)).resolve_left hip
    unfold LJ eraseT at *
    dsimp only at h ⊢
    rw [if_neg hip, List.erase_of_not_mem hip]
    -- in every order that is left it comes to the front
    have h1 : LI P ops C eff (LI P ops C eff (fun a w => ∀ r ∈ rs.map (·.erase i), LI P ops C eff Q r a w) [i]) p a w := by
      refine LI_monoQ (fun a w hC h => ?_) p a w hC h
      have hst := Step.all (P := P) (ops := ops) (C := C) (eff := eff) (i := i) (o := oi) (a := a) hC (rs.map fun r => LI P ops C eff Q (r.erase i)) (by simpa using hne) (.inr (.inr hei)) (by
        intro K hK
        obtain ⟨r, hr, rfl⟩ := List.mem_map.1 hK
        have hFr := hF r hr
        obtain ⟨r1, r2, e1, e2, hn1⟩ := split_at (hir r hr) (List.nodup_append.1 hFr.left.nodup).2.1
        rw [e1, ← List.append_assoc] at hFr
        have hap := hFr.ap hoi hall (.inl hei)
        obtain ⟨o, ho, hs⟩ := LI.bring hoi hsel r1 r2 a w hC (fun j hj => hap j (List.mem_append.2 (.inr hj))) (by rw [← e1]; exact h r hr)
        rw [hoi] at ho
        cases ho
        rw [e2]
        exact hs)
      refine ⟨oi, hoi, hst.mono hC fun v w' _ hk => ?_⟩
      intro r hr
      obtain ⟨r', hr', rfl⟩ := List.mem_map.1 hr
      exact hk _ (List.mem_map.2 ⟨r', hr', rfl⟩)
    rw [← LI_append] at h1
    obtain ⟨r1, r2, e1, e2, hn1⟩ := split_at (hir r0 hr0) (List.nodup_append.1 hn0).2.1
    have hF0 := hF r0 hr0
    rw [e1, ← List.append_assoc] at hF0
    have hap := hF0.ap hoi hall (.inl hei)
    obtain ⟨o, ho, hs⟩ := LI.bring hoi hsel p [] a w hC (fun j hj => hap j (List.mem_append.2 (.inl hj))) h1
    rw [hoi] at ho
    cases ho
    rw [List.append_nil] at hs
    exact hs

/-- The walks' effects: whichever is ready, there is a walk that begins with it. -/
def famOkT (ops : Array Oper) : Nat → List (List Nat × List (List Nat)) → Bool
  | 0, _ => false
  | n + 1, ts => match ts with
    | [] => false
    | t0 :: _ => ts.all (fun t => !t.1.isEmpty) && (match t0.2 with
      | [] => false
      | r0 :: _ => (t0.1 ++ r0).all fun i => (t0.1 ++ r0).any (fun j => reach ops ops.size i j) ||
        (let ts' := ts.filter (fun t => t.1.head? == some i)
         !ts'.isEmpty && ((match ops[i]? with | some o => plainOp o.op | none => false) && famOkT ops n (ts'.map fun t => (t.1.tail, t.2)) ||
          (match ts' with
           | [t] => (t.1.tail.isEmpty && famOk ops n t.2) || famOkT ops n [(t.1.tail, t.2)]
           | _ => false))))

theorem wpAny_famT {Q' : Exit → Act → World → Prop} (hsel : Region.noSelect ops = true) (hedge : edgesOk ops = true) (hQ : ∀ a w, Q a w → Q' .normal a w) :
    ∀ (fuel n : Nat) (listed : Array Bool) (Ts : List (List Nat × List (List Nat))) (a : Act) (w : World), Ts ≠ [] → (∀ t ∈ Ts, t.2 ≠ [] ∧ ∀ r ∈ t.2, Fam ops eff listed (t.1 ++ r) ∧ (t.1 ++ r).length = fuel) →
      famOkT ops n (Ts.map fun t => (t.1.filter eff, t.2.map (·.filter eff))) = true → C w → (∀ t ∈ Ts, LJ P ops C eff Q t a w) → wpAny P .any ops Q' fuel listed a w := by
  intro fuel
  induction fuel with
  | zero =>
    intro n listed Ts a w hne hF hok _ _
    exfalso
    obtain ⟨t0, Ts0, hTs⟩ := List.exists_cons_of_ne_nil hne
    have ht0 : t0 ∈ Ts := by rw [hTs]; exact List.mem_cons_self ..
    obtain ⟨hr, hl⟩ := hF t0 ht0
    obtain ⟨r0, rs0, hrs⟩ := List.exists_cons_of_ne_nil hr
    have hlen := (hl r0 (by rw [hrs]; exact List.mem_cons_self ..)).2
    have hz := List.append_eq_nil_iff.1 (List.eq_nil_of_length_eq_zero hlen)
    cases n with
    | zero => simp [famOkT] at hok
    | succ n =>
      rw [hTs] at hok
      simp only [famOkT, List.map_cons, Bool.and_eq_true, List.all_cons] at hok
      have := hok.1.1
      rw [hz.1] at this
      simp at this
  | succ fuel ih =>
    intro n listed Ts a w hne hF hok hC h
    obtain ⟨t0, Ts0, hTs⟩ := List.exists_cons_of_ne_nil hne
    have ht0 : t0 ∈ Ts := by rw [hTs]; exact List.mem_cons_self ..
    obtain ⟨hne0, hF0⟩ := hF t0 ht0
    obtain ⟨r0, rs0, hrs⟩ := List.exists_cons_of_ne_nil hne0
    have hr0 : r0 ∈ t0.2 := by rw [hrs]; exact List.mem_cons_self ..
    obtain ⟨hFr, hlr⟩ := hF0 r0 hr0
    constructor
    · intro hr
      exfalso
      cases hl : t0.1 ++ r0 with
      | nil => rw [hl] at hlr; simp at hlr
      | cons i m =>
        have hL := hFr.left
        have hpw := hFr.pw
        rw [hl] at hL hpw
        have := hL.ready (fun j hj => ((List.pairwise_cons.1 hpw).1 j hj).1) (edgesOk_spec hedge)
        rw [hr] at this
        cases this
    · intro i hi
      obtain ⟨hun, oi, hoi, hall⟩ := mem_ready.1 hi
      have hil := (Array.getElem?_eq_some_iff.1 hoi).1
      have him : ∀ t ∈ Ts, ∀ r ∈ t.2, i ∈ t.1 ++ r := fun t ht r hr => (((hF t ht).2 r hr).1.left.mem i hil).2 hun
      have hcut : ∀ t ∈ Ts, (eraseT i t).2 ≠ [] ∧ ∀ r ∈ (eraseT i t).2, Fam ops eff (listed.setIfInBounds i true) ((eraseT i t).1 ++ r) ∧ ((eraseT i t).1 ++ r).length = fuel := by
        intro t ht
        obtain ⟨h1, h2⟩ := hF t ht
        have key : ∀ r ∈ t.2, Fam ops eff (listed.setIfInBounds i true) ((t.1 ++ r).erase i) ∧ ((t.1 ++ r).erase i).length = fuel := by
          intro r hr
          refine ⟨(h2 r hr).1.next (him t ht r hr) hoi hall, ?_⟩
          rw [List.length_erase_of_mem (him t ht r hr), (h2 r hr).2]
          rfl
        unfold eraseT
        by_cases hip : i ∈ t.1
        · dsimp only
          rw [if_pos hip]
          refine ⟨h1, fun r hr => ?_⟩
          have := key r hr
          rw [List.erase_append_left _ hip] at this
          exact this
        · dsimp only
          rw [if_neg hip]
          refine ⟨by simpa using h1, fun r hr => ?_⟩
          obtain ⟨r', hr', rfl⟩ := List.mem_map.1 hr
          have := key r' hr'
          rw [List.erase_append_right _ hip] at this
          rw [List.erase_of_not_mem hip]
          exact this
      by_cases hei : eff i = true
      · cases n with
        | zero => simp [famOkT] at hok
        | succ n =>
          have hok' := hok
          rw [hTs] at hok'
          simp only [famOkT, List.map_cons, hrs, Bool.and_eq_true] at hok'
          have hi0 : i ∈ t0.1.filter eff ++ r0.filter eff := by rw [← List.filter_append]; exact List.mem_filter.2 ⟨him t0 ht0 r0 hr0, hei⟩
          have h1 := List.all_eq_true.1 hok'.2 i hi0
          rw [Bool.or_eq_true] at h1
          rcases h1 with h1 | h1
          · exfalso
            obtain ⟨j, hj, hr⟩ := List.any_eq_true.1 h1
            rw [← List.filter_append] at hj
            have hjl := (List.mem_filter.1 hj).1
            have := reach_listed hFr.left.closed _ i j (fun o ho e hem hb => by rw [hoi] at ho; cases ho; exact hall e hem hb) hr
            rw [hFr.left.f hjl] at this
            cases this
          · have hback : (t0.1.filter eff, r0.filter eff :: rs0.map (·.filter eff)) :: Ts0.map (fun t => (t.1.filter eff, t.2.map (·.filter eff))) = Ts.map fun t => (t.1.filter eff, t.2.map (·.filter eff)) := by
              rw [hTs, List.map_cons, hrs, List.map_cons]
            rw [hback] at h1
            rw [List.filter_map] at h1
            have hTs' : ∀ t ∈ Ts.filter ((fun t : List Nat × List (List Nat) => t.1.head? == some i) ∘ fun t => (t.1.filter eff, t.2.map (·.filter eff))), t ∈ Ts ∧ (t.1.filter eff).head? = some i := by
              intro t ht
              obtain ⟨a1, a2⟩ := List.mem_filter.1 ht
              exact ⟨a1, by simpa using a2⟩
            generalize Ts.filter ((fun t : List Nat × List (List Nat) => t.1.head? == some i) ∘ fun t => (t.1.filter eff, t.2.map (·.filter eff))) = Ts' at h1 hTs'
            rw [Bool.and_eq_true] at h1
            obtain ⟨g1, g2⟩ := h1
            have hne' : Ts' ≠ [] := by intro e; rw [e] at g1; simp at g1
            have hin : ∀ t ∈ Ts', i ∈ t.1 := fun t ht => (List.mem_filter.1 (List.mem_of_head? (hTs' t ht).2)).1
            have hstep : ∀ t ∈ Ts', Step P ops C eff i oi a w (LJ P ops C eff Q (eraseT i t)) := fun t ht =>
              LJ.step hsel hoi hall (hF t (hTs' t ht).1).1 (fun r hr => ((hF t (hTs' t ht).1).2 r hr).1) (him t (hTs' t ht).1) (.inr (hTs' t ht).2) hC (h t (hTs' t ht).1)
            have hfil : ∀ t ∈ Ts', ((eraseT i t).1.filter eff, (eraseT i t).2.map (·.filter eff)) = ((t.1.filter eff).tail, t.2.map (·.filter eff)) := by
              intro t ht
              unfold eraseT
              dsimp only
              rw [if_pos (hin t ht), filter_erase_head _ (hTs' t ht).2]
            rw [Bool.or_eq_true] at g2
            -- the walks go on
            have goon : ∀ (Us : List (List Nat × List (List Nat))), Us ≠ [] → (∀ t ∈ Us, t ∈ Ts') → famOkT ops n (Us.map fun t => ((t.1.filter eff).tail, t.2.map (·.filter eff))) = true → ∀ a' w', C w' → (∀ t ∈ Us, LJ P ops C eff Q (eraseT i t) a' w') → wpAny P .any ops Q' fuel (listed.setIfInBounds i true) a' w' := by
              intro Us hU hin' hfo a' w' hC' hk
              refine ih n _ (Us.map (eraseT i)) a' w' (by simpa using hU) ?_ ?_ hC' ?_
              · intro t ht
                obtain ⟨t', ht', rfl⟩ := List.mem_map.1 ht
                exact hcut t' (hTs' t' (hin' t' ht')).1
              · rw [List.map_map]
                rw [show Us.map ((fun t : List Nat × List (List Nat) => (t.1.filter eff, t.2.map (·.filter eff))) ∘ eraseT i) = Us.map fun t => ((t.1.filter eff).tail, t.2.map (·.filter eff)) from List.map_congr_left fun t ht => hfil t (hin' t ht)]
                exact hfo
              · intro t ht
                obtain ⟨t', ht', rfl⟩ := List.mem_map.1 ht
                exact hk t' ht'
            rcases g2 with g2 | g2
            · simp only [hoi, Bool.and_eq_true, List.map_map] at g2
              have hst := Step.all (P := P) (ops := ops) (C := C) (eff := eff) (i := i) (o := oi) (a := a) hC (Ts'.map fun t => LJ P ops C eff Q (eraseT i t)) (by simpa using hne') (.inr (.inl g2.1)) (by
                intro K hK
                obtain ⟨t, ht, rfl⟩ := List.mem_map.1 hK
                exact hstep t ht)
              exact wpOp_of_step hoi hC (fun a' w' hC' hk => goon Ts' hne' (fun _ h => h) g2.2 a' w' hC' fun t ht => hk _ (List.mem_map.2 ⟨t, ht, rfl⟩)) hst
            · match Ts', g2, hstep, hTs', hfil, hin, goon with
              | [], g2, _, _, _, _, _ => simp at g2
              | [t], g2, hstep, hTs', hfil, hin, goon =>
                simp only [List.map_cons, List.map_nil, Bool.or_eq_true, Bool.and_eq_true] at g2
                have htm : t ∈ [t] := List.mem_cons_self ..
                rcases g2 with ⟨g2, g3⟩ | g2
                · refine wpOp_of_step hoi hC (fun a' w' hC' hk => ?_) (hstep t htm)
                  obtain ⟨c1, c2⟩ := hcut t (hTs' t htm).1
                  have hf := hfil t htm
                  have hf1 := congrArg Prod.fst hf
                  have hf2 := congrArg Prod.snd hf
                  dsimp only at hf1 hf2
                  have hz : (eraseT i t).1.filter eff = [] := by rw [hf1]; simpa using g2
                  refine wpAny_fam (eff := eff) hsel hedge hQ fuel n _ ((eraseT i t).2.map fun r => (eraseT i t).1 ++ r) a' w' (by simpa using c1) ?_ ?_ ?_ hC' ?_
                  · intro l hl
                    obtain ⟨r, hr, rfl⟩ := List.mem_map.1 hl
                    exact (c2 r hr).1
                  · intro l hl
                    obtain ⟨r, hr, rfl⟩ := List.mem_map.1 hl
                    exact (c2 r hr).2
                  · rw [List.map_map]
                    rw [show (eraseT i t).2.map ((fun l => List.filter eff l) ∘ fun r => (eraseT i t).1 ++ r) = (eraseT i t).2.map (·.filter eff) from List.map_congr_left fun r _ => by
                      show List.filter eff ((eraseT i t).1 ++ r) = _
                      rw [List.filter_append, hz, List.nil_append]]
                    rw [hf2]
                    exact g3
                  · intro l hl
                    obtain ⟨r, hr, rfl⟩ := List.mem_map.1 hl
                    rw [LI_append]
                    exact LI_monoQ (fun a w _ h => h r hr) _ _ _ hC' hk
                · refine wpOp_of_step hoi hC (fun a' w' hC' hk => goon [t] (by simp) (fun _ h => h) ?_ a' w' hC' ?_) (hstep t htm)
                  · simpa using g2
                  · intro t' ht'
                    simp at ht'
                    subst ht'
                    exact hk
              | _ :: _ :: _, g2, _, _, _, _, _ => simp at g2
      · have hst := Step.all (P := P) (ops := ops) (C := C) (eff := eff) (i := i) (o := oi) (a := a) hC (Ts.map fun t => LJ P ops C eff Q (eraseT i t)) (by simpa using hne) (.inr (.inr hei)) (by
          intro K hK
          obtain ⟨t, ht, rfl⟩ := List.mem_map.1 hK
          exact LJ.step hsel hoi hall (hF t ht).1 (fun r hr => ((hF t ht).2 r hr).1) (him t ht) (.inl hei) hC (h t ht))
        refine wpOp_of_step hoi hC (fun a' w' hC' hk => ih n _ (Ts.map (eraseT i)) a' w' (by simpa using hne) ?_ ?_ hC' ?_) hst
        · intro t ht
          obtain ⟨t', ht', rfl⟩ := List.mem_map.1 ht
          exact hcut t' ht'
        · rw [List.map_map]
          rw [show Ts.map ((fun t : List Nat × List (List Nat) => (t.1.filter eff, t.2.map (·.filter eff))) ∘ eraseT i) = Ts.map fun t => (t.1.filter eff, t.2.map (·.filter eff)) from List.map_congr_left fun t _ => by
            show ((eraseT i t).1.filter eff, (eraseT i t).2.map (·.filter eff)) = _
            unfold eraseT
            dsimp only
            rw [filter_erase_quiet hei]
            split
            · rfl
            · rw [List.map_map]
              congr 1
              exact List.map_congr_left fun r _ => filter_erase_quiet hei r]
          exact hok
        · intro t ht
          obtain ⟨t', ht', rfl⟩ := List.mem_map.1 ht
          exact hk _ (List.mem_map.2 ⟨t', ht', rfl⟩)

/-- All of it as one check. -/
def treeOk (ops : Array Oper) (eff : Nat → Bool) (ts : List (List Nat × List (List Nat))) : Bool :=
  Region.noSelect ops && edgesOk ops && !ts.isEmpty && famOkT ops (ops.size + 1) (ts.map fun t => (t.1.filter eff, t.2.map (·.filter eff))) &&
  ts.all fun t => !t.2.isEmpty && (t.2.map (t.1 ++ ·)).all fun l => decide (l.Pairwise fun j i => dep ops j i = false ∧ ((eff j = true ∧ eff i = true) ∨ okPair ops eff j i = true)) && decide l.Nodup && decide (∀ i ∈ List.range ops.size, i ∈ l) && decide (∀ i ∈ l, i < ops.size)

def WalksT (P : Program) (l : List Oper) (C : World → Prop) (eff : Nat → Bool) (Q : Act → World → Prop) (a : Act) (w : World) : List (List Nat × List (List Nat)) → Prop
  | [] => True
  | t :: ts => (∃ (m : List Oper) (eff' : Nat → Bool), t.1.map (fun i => l[i]?) = m.map some ∧ t.1.map eff = (List.range t.1.length).map eff' ∧ LX P l.toArray C eff' (fun a w => Walks P l C eff Q a w t.2) 0 m a w) ∧ WalksT P l C eff Q a w ts

theorem li_of_walk {l : List Oper} {p : List Nat} {m : List Oper} {eff' : Nat → Bool} {a : Act} {w : World} (hp : p.map (fun i => l[i]?) = m.map some) (he : p.map eff = (List.range p.length).map eff') (hC : C w) (h2 : LX P l.toArray C eff' Q 0 m a w) : LI P l.toArray C eff Q p a w := by
  have hpl : m.length = p.length := by have := congrArg List.length hp; simpa using this.symm
  refine LI_of_LXp m p eff' 0 a _ (fun j o hj => ?_) hpl hC h2
  have hj' : j < p.length := by have := (List.getElem?_eq_some_iff.1 hj).1; omega
  refine ⟨p[j], List.getElem?_eq_getElem hj', ?_, ?_⟩
  · have := congrArg (fun z => z[j]?) hp
    simp only [List.getElem?_map, hj, List.getElem?_eq_getElem hj', Option.map_some] at this
    simpa using this
  · have := congrArg (fun z => z[j]?) he
    simp only [List.getElem?_map, List.getElem?_eq_getElem hj', Option.map_some, List.getElem?_range hj'] at this
    simpa using this.symm

theorem walks_li {l : List Oper} {a : Act} {w : World} (hC : C w) : ∀ {ps : List (List Nat)}, Walks P l C eff Q a w ps → ∀ p ∈ ps, LI P l.toArray C eff Q p a w
  | [], _, _, hp => by cases hp
  | _ :: _, ⟨⟨_, _, hp, he, h2⟩, hw⟩, p, hpm => by
    rcases List.mem_cons.1 hpm with rfl | hpm
    · exact li_of_walk hp he hC h2
    · exact walks_li hC hw p hpm

theorem walksT_lj {l : List Oper} {a : Act} {w : World} (hC : C w) : ∀ {ts : List (List Nat × List (List Nat))}, WalksT P l C eff Q a w ts → ∀ t ∈ ts, LJ P l.toArray C eff Q t a w
  | [], _, _, hp => by cases hp
  | _ :: _, ⟨⟨_, _, hp, he, h2⟩, hw⟩, t, htm => by
    rcases List.mem_cons.1 htm with rfl | htm
    · exact LI_monoQ (fun a w hC' h => walks_li hC' h) _ _ _ hC (li_of_walk hp he hC h2)
    · exact walksT_lj hC hw t htm

/-- A region of several orders with a call. -/
theorem region_drawT [dr : Dr] {id : Nat} {l : List Oper} {Q' : Exit → Act → World → Prop} {a : Act} {w : World} (C : World → Prop) (eff : Nat → Bool) (ts : List (List Nat × List (List Nat))) (hm : P.follows .mixedOrders = true)
    (hok : treeOk l.toArray eff ts = true) (h : ∀ w', Ext w w' → C w' ∧ WalksT P l C eff (fun a w => Q' .normal a w) a w' ts) : (Code.region id l.toArray true).wp P Q' a w := by
  obtain ⟨hC, h1⟩ := h _ (Ext.drawn w)
  simp only [treeOk, Bool.and_eq_true, Bool.not_eq_true', List.all_eq_true, decide_eq_true_eq] at hok
  obtain ⟨⟨⟨⟨q1, q2⟩, q3⟩, q4⟩, q5⟩ := hok
  have none_ : ∀ k, (Array.replicate l.length false).getD k false = false := by
    intro k
    simp only [Array.getD, Array.size_replicate]
    split <;> simp
  have hsz : l.toArray.size = l.length := by simp
  have mk : ∀ p' : List Nat, p'.Nodup → (∀ i, i < l.length → i ∈ p') → (∀ i ∈ p', i < l.length) → Left l.toArray (Array.replicate l.toArray.size false) p' := by
    intro p' hn hin hlt
    refine ⟨by simp, ?_, hn, ?_, fun i hi => by simpa using hlt i hi⟩
    · intro k hk
      rw [hsz, none_] at hk
      cases hk
    · intro i hi
      have hi' : i < l.length := by simpa using hi
      constructor
      · intro _; simp [Array.getD, hi']
      · intro _; exact hin i hi'
  refine wp_region_any hm ?_
  refine wpAny_famT (Q := fun a w => Q' .normal a w) q1 q2 (fun _ _ h => h) _ _ _ ts a _ (by intro e; rw [e] at q3; simp at q3) ?_ q4 hC (walksT_lj hC h1)
  intro t ht
  obtain ⟨z1, z2⟩ := q5 t ht
  refine ⟨by intro e; rw [e] at z1; simp at z1, fun r hr => ?_⟩
  obtain ⟨⟨⟨a1, a2⟩, a3⟩, a4⟩ := z2 _ (List.mem_map.2 ⟨r, hr, rfl⟩)
  have hF : Fam l.toArray eff (Array.replicate l.toArray.size false) (t.1 ++ r) := ⟨mk _ a2 (fun i hi => a3 i (List.mem_range.2 (by simpa using hi))) (fun i hi => by simpa using a4 i hi), a1⟩
  refine ⟨hF, ?_⟩
  have := List.Perm.length_eq ((List.perm_ext_iff_of_nodup hF.left.nodup List.nodup_range).2 (fun i => by
    constructor
    · intro hi; exact List.mem_range.2 (hF.left.lt i hi)
    · intro hi; exact a3 i hi))
  simpa using this
end
end Go.Gx
