/-
  Systems in plain words: valid to the program just where valid to the reference; the law's helpers for systems.
-/
import Derived.Test.YtkgkfbmcnchdbaaGreatDoorF0
import Derived.Test.YtkgkfbmcnchdbaaGreatDoorF2
import Derived.Test.YtkgkfbmcnchdbaaGreatDoorF3
import Derived.Test.YtkgkfbmcnchdbaaGreatDoorGxP
import Derived.Test.YtkgkfbmcnchdbaaGreatDoorGxU
import Derived.Test.YtkgkfbmcnchdbaaGreatDoorGxZ
import Derived.Test.YtkgkfbmcnchdbaaGreatDoorP1
import Derived.Test.YtkgkfbmcnchdbaaGreatDoorPT
import Derived.Test.YtkgkfbmcnchdbaaGreatDoorPU
import Derived.Test.YtkgkfbmcnchdbaaGreatDoorPW
namespace Go.Proofs.YtkgkfbmcnchdbaaGreatDoor
open Go.Gx

/-! ### the order of texts -/
theorem bl_irr : ∀ a : Str, Op.bytesLess a a = false
  | [] => rfl
  | x :: a => by simp [Op.bytesLess, bl_irr a]
theorem bl_asym : ∀ a b : Str, Op.bytesLess a b = true → Op.bytesLess b a = false
  | _, [], h => by simp [Op.bytesLess] at h
  | [], _ :: _, _ => by simp [Op.bytesLess]
  | x :: a, y :: b, h => by
    simp only [Op.bytesLess, Bool.or_eq_true, Bool.and_eq_true, decide_eq_true_eq, beq_iff_eq] at h
    rcases h with h | ⟨rfl, h⟩
    · have h1 : ¬ y < x := fun h' => by rw [UInt8.lt_iff_toNat_lt] at h h'; omega
      have h2 : ¬ y = x := fun h' => by subst h'; rw [UInt8.lt_iff_toNat_lt] at h; omega
      simp [Op.bytesLess, h1, h2]
    · have := bl_asym a b h
      have h1 : ¬ x < x := fun h' => by rw [UInt8.lt_iff_toNat_lt] at h'; omega
      simp [Op.bytesLess, h1, this]
theorem bl_tri : ∀ a b : Str, Op.bytesLess a b = false → Op.bytesLess b a = false → a = b
  | [], [], _, _ => rfl
  | [], _ :: _, h, _ => by simp [Op.bytesLess] at h
  | _ :: _, [], _, h => by simp [Op.bytesLess] at h
  | x :: a, y :: b, h1, h2 => by
    simp only [Op.bytesLess, Bool.or_eq_false_iff, Bool.and_eq_false_iff, decide_eq_false_iff_not, beq_eq_false_iff_ne] at h1 h2
    have e : x = y := by
      apply UInt8.toNat_inj.1
      have l1 := h1.1
      have l2 := h2.1
      rw [UInt8.lt_iff_toNat_lt] at l1 l2
      omega
    subst e
    have g1 : Op.bytesLess a b = false := h1.2.resolve_left (fun h => h rfl)
    have g2 : Op.bytesLess b a = false := h2.2.resolve_left (fun h => h rfl)
    rw [bl_tri a b g1 g2]
theorem bl_le (s p : Str) : (Op.bytesLess s p || s == p) = !Op.bytesLess p s := by
  cases h : Op.bytesLess p s with
  | true =>
    have h1 := bl_asym p s h
    have h2 : (s == p) = false := by
      rw [beq_eq_false_iff_ne]
      rintro rfl
      rw [bl_irr] at h
      cases h
    rw [h1, h2]; rfl
  | false =>
    cases h1 : Op.bytesLess s p with
    | true => rfl
    | false => rw [bl_tri s p h1 h]; simp

/-! ### valid systems -/
def tau' : Str := [116, 97, 117]
def condX (ls : List Str) (k : Nat) (b : Str → Bool) : Bool := match ls[k]? with
  | none => false
  | some s => !labelP s || (b s || (decide ((1 : Int) < (k : Int)) && (match ls[k - 1]? with | none => false | some p => !Op.bytesLess p s)))
def okL (ls : List Str) (k : Nat) : Bool := !condX ls k fun s => (s == tau') != ((k : Int) == 0)
def labsP (ls : List Str) : Bool := decide (1 ≤ ls.length) && decide (ls.length ≤ 12) && decide (∀ k, k < ls.length → okL ls k = true)
def edgeLess (a b : Timpl_Edge) : Bool := if a.1 ≠ b.1 then decide (a.1 < b.1) else if a.2.1 ≠ b.2.1 then decide (a.2.1 < b.2.1) else decide (a.2.2 < b.2.2)
def inn (a b c : Int) : Bool := decide (b ≤ a) && decide (a ≤ c)
def condE (n m : Int) (es : List Timpl_Edge) (k : Nat) : Bool := match es[k]? with
  | none => false
  | some e => (!inn e.1 0 n || !inn e.2.2 0 n) || (!inn e.2.1 0 m || (decide ((0 : Int) < (k : Int)) && (match es[k - 1]? with | none => false | some p => !edgeLess p e)))
def edgesP (n m : Int) (es : List Timpl_Edge) : Bool := decide (es.length ≤ 300) && decide (∀ k, k < es.length → (!condE n m es k) = true)
def validP (t : Timpl_Lts) : Bool := inn t.1 1 40 && inn t.2.1 0 (W (t.1 - 1)) && labsP t.2.2.1 && edgesP (W (t.1 - 1)) (W ((t.2.2.1.length : Int) - 1)) t.2.2.2

theorem compare_m {m : Nat} {a b : Int} : cmp_Compare_int64_m m a b = some (if a < b then -1 else if b < a then 1 else 0) := by
  unfold cmp_Compare_int64_m cmp_isNaN_int64_m
  simp
  split
  · rfl
  · split <;> rfl
theorem or3 (x y z : Int) : Ev (fun m => cmp_Or_int_m m [x, y, z]) (if x ≠ 0 then x else if y ≠ 0 then y else z) := by
  unfold cmp_Or_int_m
  refine Exists.elim (EvI.find (step := _) 3 (fun k => ([x, y, z][k]?).getD 0 == 0) (fun k => ([x, y, z][k]?).getD 0) (fun k hk hok => ?_) (fun k hk hok => ?_) (Ev.const rfl) (Nat.zero_le _)) (fun res ⟨g1, g2⟩ => Ev.bind g1.ev ?_)
  · obtain ⟨v, hv⟩ := get_lt (xs := [x, y, z]) (k := k) hk
    have hk' : decide ((k : Int) < (([x, y, z] : List Int).length : Int)) = true := decide_eq_true (by simp; omega)
    have h0 : v = 0 := by rw [hv] at hok; simpa using hok
    refine Ev.ite_t hk' (Ev.bindc (idx_at hv) (Ev.ite_f (by rw [h0]; simp) (Ev.const ?_)))
    rw [W_succ hk (by omega)]
  · obtain ⟨v, hv⟩ := get_lt (xs := [x, y, z]) (k := k) hk
    have hk' : decide ((k : Int) < (([x, y, z] : List Int).length : Int)) = true := decide_eq_true (by simp; omega)
    have h0 : v ≠ 0 := by rw [hv] at hok; simpa using hok
    refine Ev.ite_t hk' (Ev.bindc (idx_at hv) (Ev.ite_t (by simpa using h0) (Ev.const ?_)))
    rw [hv]; rfl
  · rcases g2 with ⟨rfl, h⟩ | ⟨k, _, hk, hok, hj, rfl⟩
    · have h0 := h 0 (Nat.zero_le _) (by omega)
      have h1 := h 1 (Nat.zero_le _) (by omega)
      have h2 := h 2 (Nat.zero_le _) (by omega)
      simp at h0 h1 h2
      subst h0; subst h1; subst h2
      exact Ev.const rfl
    · match k, hk with
      | 0, _ => simp at hok; exact Ev.const (by rw [ctl_r]; simp [hok])
      | 1, _ =>
        have h0 := hj 0 (Nat.zero_le _) (by omega)
        simp at hok h0
        exact Ev.const (by rw [ctl_r]; simp [hok, h0])
      | 2, _ =>
        have h0 := hj 0 (Nat.zero_le _) (by omega)
        have h1 := hj 1 (Nat.zero_le _) (by omega)
        simp at hok h0 h1
        exact Ev.const (by rw [ctl_r]; simp [h0, h1])
theorem edges_cmp (a b : Timpl_Edge) : ∃ r : Int, Ev (fun m => impl_compareEdges_m m a b) r ∧ decide (0 ≤ r) = !edgeLess a b := by
  unfold impl_compareEdges_m edgeLess
  simp only [compare_m, Option.bind_some]
  obtain ⟨a1, a2, a3⟩ := a
  obtain ⟨b1, b2, b3⟩ := b
  refine ⟨_, Ev.bind (or3 _ _ _) (Ev.pure _), ?_⟩
  simp only []
  rcases Int.lt_trichotomy a1 b1 with h | h | h
  · have h1 : a1 ≠ b1 := by omega
    simp [h, h1]
  · subst h
    rcases Int.lt_trichotomy a2 b2 with h | h | h
    · have h1 : a2 ≠ b2 := by omega
      simp [h, h1]
    · subst h
      rcases Int.lt_trichotomy a3 b3 with h | h | h
      · simp [h]
      · subst h; simp
      · have h1 : ¬ a3 < b3 := by omega
        simp [h, h1]
    · have h1 : a2 ≠ b2 := by omega
      have h2 : ¬ a2 < b2 := by omega
      simp [h, h1, h2]
  · have h1 : a1 ≠ b1 := by omega
    have h2 : ¬ a1 < b1 := by omega
    simp [h, h1, h2]
theorem less_m {m : Nat} {a b : Timpl_Edge} : spec_l11Less_m m a b = some (edgeLess a b) := by
  unfold spec_l11Less_m edgeLess
  by_cases h1 : a.1 = b.1
  · by_cases h2 : a.2.1 = b.2.1
    · simp [h1, h2]
    · simp [h1, h2]
  · simp [h1]

theorem isState_m {m : Nat} {t : Timpl_Lts} {k : Int} : impl_Lts_isState_m m t k = some (inn k 0 (W (t.1 - 1))) := by
  unfold impl_Lts_isState_m
  rw [within_eq]; rfl

theorem names_spec {ls : List Str} (hl : ls.length ≤ 1048576) (hs : ∀ s ∈ ls, s.length ≤ 1048576) : Ev (fun m => spec_l11Names_m m ls) (labsP ls) := by
  have hm := mx
  unfold spec_l11Names_m
  by_cases h0 : ls.length = 0
  · have e : ((ls.length : Int) == 0) = true := by rw [h0]; rfl
    refine Ev.eq (r := false) (Ev.const' fun m => by simp only [e, if_true, Option.bind_some]) ?_
    unfold labsP
    rw [decide_eq_false (show ¬ 1 ≤ ls.length by omega)]; rfl
  · have e : ((ls.length : Int) == 0) = false := beq_false_of_ne (by omega)
    by_cases h1 : 12 < ls.length
    · have e1 : decide ((12 : Int) < (ls.length : Int)) = true := decide_eq_true (by omega)
      refine Ev.eq (r := false) (Ev.const' fun m => by simp only [e, e1, if_true, Bool.false_eq_true, if_false, Option.bind_some]) ?_
      unfold labsP
      rw [decide_eq_false (show ¬ ls.length ≤ 12 by omega)]; simp
    · have e1 : decide ((12 : Int) < (ls.length : Int)) = false := decide_eq_false (by omega)
      obtain ⟨s0, hs0⟩ := get_lt (xs := ls) (k := 0) (by omega)
      have hi : idx ls (0 : Int) = some s0 := idx_at (k := 0) hs0
      have hlab : labsP ls = decide (∀ k, k < ls.length → okL ls k = true) := by
        unfold labsP
        rw [decide_eq_true (show 1 ≤ ls.length by omega), decide_eq_true (show ls.length ≤ 12 by omega)]; rfl
      rw [hlab]
      by_cases h2 : s0 = tau'
      · have e2 : (s0 != ([116, 97, 117] : Str)) = false := by rw [h2]; rfl
        refine Ev.bindc (a := false) (by simp only [e, e1, Bool.false_eq_true, if_false]) (Ev.bindc (a := false) (by simp only [hi, e2, Bool.false_eq_true, if_false, Option.bind_some]) (Ev.ite_f (by simp) ?_))
        have cond : ∀ k s, k < ls.length → ls[k]? = some s → Ev (fun m => (spec_l01Label_m m s).bind fun x140 => (if (!x140) = true then some true else (idx ls (k : Int)).bind fun x146 => some (x146 == ([116, 97, 117] : Str))).bind fun t143 => (if t143 = true then some true else (if (decide ((1 : Int) < (k : Int))) = true then (idx ls (W ((k : Int) - (1 : Int)))).bind fun x157 => (idx ls (k : Int)).bind fun x162 => some (!Op.bytesLess x157 x162) else some false).bind fun t154 => some t154).bind fun t151 => (if t151 = true then some (.inr (.inr false)) else some (.inl ((W ((k : Int) + (1 : Int))))) : Option (Int ⊕ (Unit ⊕ Bool)))) (if condX ls k (fun s => s == tau') = true then .inr (.inr false) else .inl ((k + 1 : Nat) : Int)) := by
          intro k s hk hs'
          refine Ev.bind (label_spec (hs s (List.mem_of_getElem? hs'))) (Ev.const ?_)
          unfold condX
          rw [hs']
          cases k with
          | zero =>
            simp only [idx_at hs', Option.bind_some, or_some, show decide ((1 : Int) < ((0 : Nat) : Int)) = false from rfl, Bool.false_eq_true, if_false, W_succ hk (by omega), Bool.false_and, Bool.or_false]
            rw [ite_some]
            rfl
          | succ j =>
            obtain ⟨p, hp⟩ := get_lt (xs := ls) (k := j) (by omega)
            have w2 := W_pred (k := j) (n := ls.length) (by omega) (by omega)
            simp only [idx_at hs', hp, w2, idx_at hp, Option.bind_some, or_some, and_some, W_succ hk (by omega), Nat.add_sub_cancel]
            rw [ite_some, Bool.or_assoc]
            rfl
        refine Exists.elim (EvI.find (step := _) ls.length (fun k => !condX ls k fun s => s == tau') (fun _ => false) (fun k hk hok => ?_) (fun k hk hok => ?_) (Ev.ite_f (by simp) (Ev.pure _)) (s := 1) (by omega)) (fun res ⟨g1, g2⟩ => Ev.bind g1.ev ?_)
        · obtain ⟨s, hs'⟩ := get_lt hk
          have hk' : decide ((k : Int) < (ls.length : Int)) = true := by simpa using hk
          have hc : (condX ls k fun s => s == tau') = false := by rwa [Bool.not_eq_true'] at hok
          exact Ev.ite_t hk' (Ev.bindc (idx_at hs') ((cond k s hk hs').eq (by rw [hc]; rfl)))
        · obtain ⟨s, hs'⟩ := get_lt hk
          have hk' : decide ((k : Int) < (ls.length : Int)) = true := by simpa using hk
          have hc : (condX ls k fun s => s == tau') = true := by rwa [Bool.not_eq_false'] at hok
          exact Ev.ite_t hk' (Ev.bindc (idx_at hs') ((cond k s hk hs').eq (by rw [hc]; rfl)))
        · have hrel : ∀ k, 1 ≤ k → (!condX ls k fun s => s == tau') = okL ls k := by
            intro k hk1
            unfold okL condX
            have : ((k : Int) == 0) = false := beq_false_of_ne (by omega)
            rw [this]
            simp only [Bool.bne_false]
          have h0k : okL ls 0 = true := by
            unfold okL condX
            rw [hs0, h2]
            have : labelP tau' = true := by unfold labelP; rw [if_neg (by decide)]; exact name_tau
            simp only [this]
            rfl
          rcases g2 with ⟨rfl, h⟩ | ⟨k, hk1, hk, hok, _, rfl⟩
          · refine (Ev.pure _).eq (decide_eq_true fun k hk => ?_).symm
            cases k with
            | zero => exact h0k
            | succ j => rw [← hrel _ (by omega)]; exact h _ (by omega) hk
          · refine (Ev.pure _).eq (decide_eq_false fun h => ?_).symm
            rw [hrel k hk1, h k hk] at hok
            cases hok
      · have e2 : (s0 != ([116, 97, 117] : Str)) = true := bne_iff_ne.2 h2
        refine Ev.eq (r := false) (Ev.const' fun m => by simp only [e, e1, hi, e2, if_true, Bool.false_eq_true, if_false, Option.bind_some]) ?_
        rw [decide_eq_false]
        intro h
        have := h 0 (by omega)
        unfold okL condX at this
        rw [hs0] at this
        have e3 : (s0 == tau') = false := beq_false_of_ne h2
        simp [e3] at this

/-! ### edges -/
theorem valid_spec {t : Timpl_Lts} (hl : t.2.2.1.length ≤ 1048576) (hs : ∀ s ∈ t.2.2.1, s.length ≤ 1048576) (he : t.2.2.2.length ≤ 1048576) : Ev (fun m => spec_l11Is_m m t) (validP t) := by
  have hm := mx
  unfold spec_l11Is_m validP
  simp only [l00In_eq, Option.bind_some]
  cases h1 : inn t.1 1 40
  · unfold inn at h1
    exact Ev.eq (r := false) (Ev.const' fun m => by simp only [h1, Bool.not_false, if_true, Option.bind_some]) rfl
  · unfold inn at h1
    cases h2 : inn t.2.1 0 (W (t.1 - 1))
    · unfold inn at h2
      exact Ev.eq (r := false) (Ev.const' fun m => by simp only [h1, h2, Bool.not_false, Bool.not_true, Bool.false_eq_true, if_true, if_false, Option.bind_some]) rfl
    · unfold inn at h2
      simp only [h1, h2, Bool.not_true, Bool.false_eq_true, if_false, Option.bind_some]
      refine Ev.bind (Ev.bind (names_spec hl hs) (Ev.pure _)) ?_
      cases h3 : labsP t.2.2.1
      · exact Ev.eq (r := false) (Ev.const' fun m => by simp only [Bool.not_false, if_true, Option.bind_some]) rfl
      · simp only [Bool.not_true, Bool.false_eq_true, if_false, Option.bind_some, Bool.and_true, Bool.true_and]
        unfold edgesP
        by_cases h4 : 300 < t.2.2.2.length
        · rw [decide_eq_false (show ¬ t.2.2.2.length ≤ 300 by omega)]
          exact Ev.ite_t (decide_eq_true (by omega)) (Ev.pure _)
        · rw [decide_eq_true (show t.2.2.2.length ≤ 300 by omega), Bool.true_and]
          refine Ev.ite_f (by simp; omega) ?_
          have cond : ∀ k e, k < t.2.2.2.length → t.2.2.2[k]? = some e → (if (!(decide ((0 : Int) ≤ e.1) && decide (e.1 ≤ W (t.1 - 1)))) = true then some true else some (!(decide ((0 : Int) ≤ e.2.2) && decide (e.2.2 ≤ W (t.1 - 1))))) = some (!inn e.1 0 (W (t.1 - 1)) || !inn e.2.2 0 (W (t.1 - 1))) := fun k e _ _ => by rw [or_some]; rfl
          have c3 : ∀ k e, k < t.2.2.2.length → t.2.2.2[k]? = some e → (if (decide ((0 : Int) < (k : Int))) = true then (idx t.2.2.2 (W ((k : Int) - (1 : Int)))).bind fun x261 => some (!edgeLess x261 e) else some false) = some (decide ((0 : Int) < (k : Int)) && (match t.2.2.2[k - 1]? with | none => false | some p => !edgeLess p e)) := by
            intro k e hk he'
            cases k with
            | zero => rfl
            | succ j =>
              obtain ⟨p, hp⟩ := get_lt (xs := t.2.2.2) (k := j) (by omega)
              rw [W_pred (k := j) (n := t.2.2.2.length) (by omega) (by omega), idx_at hp, Nat.add_sub_cancel, hp, Option.bind_some, and_some]
          refine (Ev.all t.2.2.2.length (fun k => !condE (W (t.1 - 1)) (W ((t.2.2.1.length : Int) - 1)) t.2.2.2 k) false true (fun k hk hok => Ev.const' fun m => ?_) (fun k hk hok => Ev.const' fun m => ?_) (Ev.ite_f (by simp) (Ev.pure _))).eq (by split <;> simp_all)
          · obtain ⟨e, he'⟩ := get_lt hk
            have hk' : decide ((k : Int) < (t.2.2.2.length : Int)) = true := by simpa using hk
            have hc : condE (W (t.1 - 1)) (W ((t.2.2.1.length : Int) - 1)) t.2.2.2 k = false := by rwa [Bool.not_eq_true'] at hok
            unfold condE at hc
            rw [he'] at hc
            simp only [Bool.or_eq_false_iff] at hc
            obtain ⟨⟨g1, g2⟩, g3, g4⟩ := hc
            unfold inn at g1 g2 g3
            simp only [hk', if_true, idx_at he', Option.bind_some, g1, g2, g3, Bool.false_eq_true, if_false, less_m, c3 k e hk he', g4, W_succ hk (by omega)]
          · obtain ⟨e, he'⟩ := get_lt hk
            have hk' : decide ((k : Int) < (t.2.2.2.length : Int)) = true := by simpa using hk
            have hc : condE (W (t.1 - 1)) (W ((t.2.2.1.length : Int) - 1)) t.2.2.2 k = true := by rwa [Bool.not_eq_false'] at hok
            unfold condE at hc
            rw [he'] at hc
            simp only [hk', if_true, idx_at he', Option.bind_some, or_some, less_m]
            cases ha : (!(decide ((0 : Int) ≤ e.1) && decide (e.1 ≤ W (t.1 - 1))) || !(decide ((0 : Int) ≤ e.2.2) && decide (e.2.2 ≤ W (t.1 - 1))))
            · cases hb : (!(decide ((0 : Int) ≤ e.2.1) && decide (e.2.1 ≤ W ((t.2.2.1.length : Int) - 1))))
              · have hd : (decide ((0 : Int) < (k : Int)) && (match t.2.2.2[k - 1]? with | none => false | some p => !edgeLess p e)) = true := by
                  unfold inn at hc
                  simp only [ha, hb, Bool.false_or] at hc
                  exact hc
                simp only [Bool.false_or, Bool.false_eq_true, if_false, c3 k e hk he', hd, Option.bind_some, if_true]
              · simp only [Bool.false_or, if_true]
            · simp only [Bool.true_or, if_true]
end Go.Proofs.YtkgkfbmcnchdbaaGreatDoor
