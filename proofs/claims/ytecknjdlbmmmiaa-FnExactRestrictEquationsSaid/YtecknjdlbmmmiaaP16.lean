/-
  Statement 16 in plain words: what an equation depends on.
-/
import Derived.Test.YtecknjdlbmmmiaaF0
import Derived.Test.YtecknjdlbmmmiaaF9
import Derived.Test.YtecknjdlbmmmiaaFS
import Derived.Test.YtecknjdlbmmmiaaLRelevantEquations
import Derived.Test.YtecknjdlbmmmiaaP10
namespace Go.Proofs.Ytecknjdlbmmmiaa
open Go.Gx

theorem list_law {a : List Bool} (hl : a.length ≤ 1048576) : Ev (fun m => spec_l14List_m m a) (trues a) := by
  unfold spec_l14List_m trues
  refine Ev.bind (EvI.places (step := _) a.length (fun k => a[k]? == some true) (fun k xs hk hx => Ev.const ?_) (fun xs => Ev.ite_f (by simp) (Ev.pure _))).ev (Ev.pure _)
  obtain ⟨b, hb⟩ := get_lt hk
  simp only [decide_eq_true (show (k : Int) < (a.length : Int) by omega), if_true, join, idx_at hb, Option.bind_some, hb, app_ok (show xs.length + [(k : Int)].length ≤ 1099511627776 by simp; omega), W_succ hk (show a.length ≤ 9223372036854775807 by omega)]
  cases b <;> simp

theorem sort_ints {l : List Int} (hl : l.length ≤ 1048576) (m : Nat) : slices_Sort__int64_int64_m m l = some (srt l) := by
  unfold slices_Sort__int64_int64_m
  rw [if_pos (by omega)]

def termsOf (a : List Timpl_Equation) (u : Int) : List Int := match idx a u with | some x => x.2.2 | none => []
theorem termsOf_at {a : List Timpl_Equation} {u : Int} {x : Timpl_Equation} (h : idx a u = some x) : termsOf a u = x.2.2 := by simp [termsOf, h]
theorem idx_in {α : Type} {a : List α} {u : Int} (h0 : 0 ≤ u) (h : u < (a.length : Int)) : ∃ x, idx a u = some x ∧ x ∈ a := by
  obtain ⟨x, hx⟩ := get_lt (xs := a) (k := u.toNat) (by omega)
  exact ⟨x, by unfold idx; rw [if_pos h0]; exact hx, List.mem_of_getElem? hx⟩
theorem terms_range {a : List Timpl_Equation} (hv : validE a = true) (u : Int) (h0 : 0 ≤ u) (h : u < (a.length : Int)) : ∀ v ∈ termsOf a u, 0 ≤ v ∧ v < (a.length : Int) := by
  intro v hvm
  obtain ⟨x, hx, hxm⟩ := idx_in h0 h
  rw [termsOf_at hx] at hvm
  obtain ⟨y, h1, h2⟩ := term_at hv (v := List.replicate a.length true) (by simp) hxm hvm
  have := (List.getElem?_eq_some_iff.1 h2).1
  have := (idx_some h1).1
  simp at *
  omega

/-- What both compute. -/
theorem relevant_core {a : List Timpl_Equation} (hv : validE a = true) (g : ∀ x ∈ a, x.2.2.length ≤ 1048576) {k : Int} (hk0 : 0 ≤ k) (hk : k < (a.length : Int)) :
    ∃ l, Ev (fun m => impl_relevant_m m a k) l ∧ Ev (fun m => spec_l22Relevant_m m a k) l ∧ l.length ≤ a.length ∧ l.Pairwise (· < ·) ∧ (∀ v ∈ l, 0 ≤ v ∧ v < (a.length : Int)) ∧ ∀ u ∈ l, ∀ v ∈ termsOf a u, v ∈ l := by
  have hn : a.length ≤ 120 := (validE_wf hv).2
  have h0 : OkL a.length [k] := ⟨by simp, fun v hvm => by simp at hvm; subst hvm; exact ⟨hk0, hk⟩⟩
  obtain ⟨L, hL, hin, hcl, _, hrun⟩ := EvI.work (termsOf a) a.length (terms_range hv) h0
  have hLl := hL.len
  have e := srt_below hL.nodup hL.range
  refine ⟨srt L, ?_, ?_, by rw [srt_len]; exact hLl, srt_lt hL.nodup, fun v hvm => hL.range v (mem_srt.1 hvm), fun u hu v hvm => mem_srt.2 (hcl u (mem_srt.1 hu) v hvm)⟩
  · unfold impl_relevant_m
    refine Ev.bind (hrun (step := _) (fun l i => (l, (i : Int))) (fun l => .inl l) (fun l i u hl hu => ?_) (fun l hl => Ev.ite_f (by simp) (Ev.pure _))).ev (Ev.const' fun m => by simp only [ctl, sort_ints (show L.length ≤ 1048576 by omega), Option.bind_some])
    have hi := (List.getElem?_eq_some_iff.1 hu).1
    have hll := hl.len
    have hur := hl.range u (List.mem_of_getElem? hu)
    obtain ⟨x, hx, hxm⟩ := idx_in hur.1 hur.2
    have hxl := g x hxm
    refine Ev.ite_t (decide_eq_true (by omega)) (Ev.bindc (idx_at hu) (Ev.bindc hx (Ev.bind (a := .inl (visits l x.2.2)) (EvI.ev (EvI.upto (step := _) x.2.2.length (fun q (_ : Unit) => (visits l (x.2.2.take q), (q : Int))) (fun _ _ => True) (k := 0) (t := ()) (by simp [visits_nil]) (Nat.zero_le _) trivial (fun q t hq _ => ⟨(), ?_, trivial⟩) (fun t _ => Ev.eq (Ev.ite_f (by simp) (Ev.pure _)) (by simp)))) (Ev.const ?_))))
    · obtain ⟨v, hvq⟩ := get_lt hq
      have hvl : (visits l (x.2.2.take q)).length ≤ a.length := (hl.visits (ns := x.2.2.take q) (fun w hw => by rw [← termsOf_at hx] at hw; exact terms_range hv u hur.1 hur.2 w (List.mem_of_mem_take hw))).len
      refine (contains_ints (xs := visits l (x.2.2.take q)) (c := v) (by unfold maxLen; omega)).use fun m h => ?_
      simp only [decide_eq_true (show (q : Int) < (x.2.2.length : Int) by omega), if_true, join, idx_at hvq, Option.bind_some, h, W_succ hq (show x.2.2.length ≤ 9223372036854775807 by omega), visits_take l _ q hvq, app_ok (show (visits l (x.2.2.take q)).length + [v].length ≤ 1099511627776 by simp; omega)]
      by_cases hmem : v ∈ visits l (x.2.2.take q) <;> simp [hmem]
    · simp only [ctl, termsOf_at hx, W_succ hi (show l.length ≤ 9223372036854775807 by omega)]
  · unfold spec_l22Relevant_m
    have hset : (List.replicate a.length false).set k.toNat true = marks a.length [k] := by rw [← marks_nil, marks_snoc hk0]; rfl
    have hidx : idx (List.replicate a.length false) k = some false := by
      rw [← marks_nil, marks_at hk0 hk]; simp
    refine Ev.bindc (mks_ok (by omega)) (Ev.bindc hidx ?_)
    rw [hset]
    refine Ev.bind (hrun (step := _) (fun l i => (marks a.length l, l, (i : Int))) (fun l => .inl (marks a.length l)) (fun l i u hl hu => ?_) (fun l hl => Ev.ite_f (by simp) (Ev.pure _))).ev ?_
    · have hi := (List.getElem?_eq_some_iff.1 hu).1
      have hll := hl.len
      have hur := hl.range u (List.mem_of_getElem? hu)
      obtain ⟨x, hx, hxm⟩ := idx_in hur.1 hur.2
      have hxl := g x hxm
      have hxr : ∀ w ∈ x.2.2, 0 ≤ w ∧ w < (a.length : Int) := fun w hw => by rw [← termsOf_at hx] at hw; exact terms_range hv u hur.1 hur.2 w hw
      refine Ev.ite_t (decide_eq_true (by omega)) (Ev.bindc (idx_at hu) (Ev.bindc hx (Ev.bind (a := .inl (marks a.length (visits l x.2.2), visits l x.2.2)) (EvI.ev (EvI.upto (step := _) x.2.2.length (fun q (_ : Unit) => (marks a.length (visits l (x.2.2.take q)), visits l (x.2.2.take q), (q : Int))) (fun _ _ => True) (k := 0) (t := ()) (by simp [visits_nil]) (Nat.zero_le _) trivial (fun q t hq _ => ⟨(), Ev.const ?_, trivial⟩) (fun t _ => Ev.eq (Ev.ite_f (by simp) (Ev.pure _)) (by simp)))) (Ev.const ?_))))
      · obtain ⟨v, hvq⟩ := get_lt hq
        have hvr := hxr v (List.mem_of_getElem? hvq)
        have hvl : (visits l (x.2.2.take q)).length ≤ a.length := (hl.visits (ns := x.2.2.take q) (fun w hw => hxr w (List.mem_of_mem_take hw))).len
        simp only [decide_eq_true (show (q : Int) < (x.2.2.length : Int) by omega), if_true, join, idx_at hvq, Option.bind_some, marks_at hvr.1 hvr.2, W_succ hq (show x.2.2.length ≤ 9223372036854775807 by omega), visits_take l _ q hvq, app_ok (show (visits l (x.2.2.take q)).length + [v].length ≤ 1099511627776 by simp; omega), marks_snoc hvr.1]
        by_cases hmem : v ∈ visits l (x.2.2.take q) <;> simp [hmem]
      · simp only [ctl, termsOf_at hx, W_succ hi (show l.length ≤ 9223372036854775807 by omega)]
    · refine Ev.bind (list_law (by rw [marks_len]; omega)) (Ev.eq (Ev.pure _) ?_)
      rw [trues_marks, e]

theorem rel_core {a : List Timpl_Equation} (B : a.length ≤ 1048576 ∧ ∀ x ∈ a, x.2.2.length ≤ 1048576) {k : Int} :
    ∃ r, Ev (fun m => spec_RelevantEquations_m m a k) r ∧ Ev (fun m => impl_RelevantEquations_m m a k) r ∧ r.1.length ≤ 1048576 := by
  obtain ⟨hl, g⟩ := B
  unfold spec_RelevantEquations_m impl_RelevantEquations_m impl_equationCode_m
  have hvi := validE_impl hl g
  have hvs := l22Is_law hl g
  cases hv : validE a with
  | false =>
    rw [hv] at hvi hvs
    exact ⟨([], 1), Ev.bind hvs (Ev.ite_t rfl (Ev.pure _)), Ev.bind (a := 1) (Ev.bind hvi (Ev.ite_t rfl (Ev.pure _))) (Ev.ite_t (by simp) (Ev.pure _)), Nat.zero_le _⟩
  | true =>
    rw [hv] at hvi hvs
    have hn := validE_wf hv
    have hw : W ((a.length : Int) - 1) = (a.length : Int) - 1 := W_of (by omega) (by omega)
    by_cases hk : 0 ≤ k ∧ k < (a.length : Int)
    · obtain ⟨l, h1, h2, h3, _⟩ := relevant_core hv g hk.1 hk.2
      refine ⟨(l, 0), Ev.bind hvs (Ev.ite_f (by simp) (Ev.bind (a := true) (Ev.const' fun m => ?_) (Ev.ite_f (by simp) (Ev.bind h2 (Ev.pure _))))), Ev.bind (a := 0) (Ev.bind hvi (Ev.ite_f (by simp) (Ev.bind (a := true) (Ev.const' fun m => ?_) (Ev.ite_f (by simp) (Ev.pure _))))) (Ev.ite_f (by simp) (Ev.bind h1 (Ev.pure _))), by show l.length ≤ _; omega⟩
      · rw [l00In_eq, hw]; simp; omega
      · rw [index_eq, hw]; simp; omega
    · refine ⟨([], 2), Ev.bind hvs (Ev.ite_f (by simp) (Ev.bind (a := false) (Ev.const' fun m => ?_) (Ev.ite_t rfl (Ev.pure _)))), Ev.bind (a := 2) (Ev.bind hvi (Ev.ite_f (by simp) (Ev.bind (a := false) (Ev.const' fun m => ?_) (Ev.ite_t rfl (Ev.pure _))))) (Ev.ite_t (by simp) (Ev.pure _)), Nat.zero_le _⟩
      · rw [l00In_eq, hw]; simp; omega
      · rw [index_eq, hw]; simp; omega
end Go.Proofs.Ytecknjdlbmmmiaa
