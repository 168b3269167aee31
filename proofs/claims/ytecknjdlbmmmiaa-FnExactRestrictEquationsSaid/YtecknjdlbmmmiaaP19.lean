/-
  Statement 19 in plain words: the part of a system on which an equation depends.
-/
import Derived.Test.YtecknjdlbmmmiaaF0
import Derived.Test.YtecknjdlbmmmiaaF6
import Derived.Test.YtecknjdlbmmmiaaF7
import Derived.Test.YtecknjdlbmmmiaaF9
import Derived.Test.YtecknjdlbmmmiaaFS
import Derived.Test.YtecknjdlbmmmiaaLRestrictEquations
import Derived.Test.YtecknjdlbmmmiaaP16
namespace Go.Proofs.Ytecknjdlbmmmiaa
open Go.Gx

theorem srt_id {l : List Int} (h : l.Pairwise (· < ·)) : srt l = l := srt_eq (h.imp fun hab => by omega) h fun _ => Iff.rfl
theorem compact_id {l : List Int} (h : l.Pairwise (· < ·)) : Lib.compact l = l := by
  refine Lib.compact_all l fun j hj => ?_
  simp only [Lib.keeps, decide_eq_true_eq]
  by_cases h0 : j = 0
  · exact .inl h0
  · right
    have := List.pairwise_iff_getElem.1 h (j - 1) j (by omega) hj (by omega)
    rw [getElem!_pos l.toArray j (by simpa using hj), getElem!_pos l.toArray (j - 1) (by simp; omega)]
    simp
    omega
theorem pos_spec {xs : List Int} {c : Int} (h : c ∈ xs) : ∃ k : Nat, pos xs c = k ∧ xs[k]? = some c := by
  unfold pos
  cases hf : xs.findIdx? (· == c) with
  | none =>
    rw [List.findIdx?_eq_none_iff] at hf
    have := hf c h
    simp at this
  | some k =>
    obtain ⟨hk, h1, _⟩ := List.findIdx?_eq_some_iff_getElem.1 hf
    exact ⟨k, rfl, by rw [List.getElem?_eq_getElem hk]; simpa using h1⟩
theorem pos_lt_of {xs : List Int} (h : xs.Pairwise (· < ·)) {a b : Int} (ha : a ∈ xs) (hb : b ∈ xs) (hab : a < b) : pos xs a < pos xs b := by
  obtain ⟨i, hi, hi'⟩ := pos_spec ha
  obtain ⟨j, hj, hj'⟩ := pos_spec hb
  obtain ⟨hil, rfl⟩ := List.getElem?_eq_some_iff.1 hi'
  obtain ⟨hjl, rfl⟩ := List.getElem?_eq_some_iff.1 hj'
  rw [hi, hj]
  by_cases hij : i < j
  · omega
  · exfalso
    by_cases e : i = j
    · subst e; omega
    · have := List.pairwise_iff_getElem.1 h j i hjl hil (by omega)
      omega
theorem places_lt {xs ns : List Int} (h : xs.Pairwise (· < ·)) (hn : ns.Pairwise (· < ·)) (hs : ∀ v ∈ ns, v ∈ xs) : (ns.map (pos xs)).Pairwise (· < ·) := by
  rw [List.pairwise_map]
  exact hn.imp_of_mem fun {a b} ha hb hab => pos_lt_of h (hs a ha) (hs b hb) hab

theorem places_law {xs ns : List Int} (hx : xs.length ≤ 1048576) (hn : ns.length ≤ 1048576) (h : (ns.map (pos xs)).Pairwise (· < ·)) : Ev (fun m => impl_placesIn_m m xs ns) (ns.map (pos xs)) := by
  unfold impl_placesIn_m
  refine Ev.bind (append_map (step := _) ns (pos xs) (fun k x hk => ?_) (fun xs => Ev.ite_f (by simp) (Ev.pure _))).ev ?_
  · have hkl := (List.getElem?_eq_some_iff.1 hk).1
    refine (index_ints (xs := xs) (c := x) (by unfold maxLen; omega)).use fun m hp => ?_
    simp only [decide_eq_true (show (k : Int) < (ns.length : Int) by omega), if_true, idx_at hk, Option.bind_some, hp, app_ok (show ((ns.take k).map (pos xs)).length + [pos xs x].length ≤ 1099511627776 by simp; omega), W_succ hkl (show ns.length ≤ 9223372036854775807 by omega)]
  · unfold impl_sortedSet_m
    refine Ev.bind (Ev.bind (clone_ints (by simpa using hn)) (Ev.bind (Ev.const' fun m => sort_ints (by simpa using hn) m) (Ev.bind (a := ns.map (pos xs)) (Ev.const' fun m => ?_) (Ev.pure _)))) (Ev.pure _)
    unfold slices_Compact__int64_int64_m
    rw [srt_id h, compact_id h]

theorem rises_pw {xs : List Int} {n : Int} (h : rises xs n = true) : xs.Pairwise (· < ·) := by
  simp only [rises, decide_eq_true_eq] at h
  have step : ∀ k (hk : k + 1 < xs.length), xs[k] < xs[k + 1] := by
    intro k hk
    have := h (k + 1) hk
    have hk0 : k < xs.length := by omega
    simp only [okAt, List.getElem?_eq_getElem hk, Nat.add_sub_cancel, List.getElem?_eq_getElem hk0] at this
    simp at this
    omega
  rw [List.pairwise_iff_getElem]
  intro i j hi hj hij
  induction j with
  | zero => omega
  | succ j ih =>
    by_cases e : i = j
    · subst e; exact step i hj
    · have h1 := ih (by omega) (by omega)
      have h2 := step j hj
      omega
theorem validE_terms {a : List Timpl_Equation} (hv : validE a = true) {x : Timpl_Equation} (hx : x ∈ a) : x.2.2.Pairwise (· < ·) := by
  simp only [validE, Bool.and_eq_true, decide_eq_true_eq, List.all_eq_true] at hv
  exact rises_pw (hv.2 x hx)

def eqAt (a : List Timpl_Equation) (u : Int) : Timpl_Equation := match idx a u with | some x => x | none => (false, false, [])
theorem eqAt_of {a : List Timpl_Equation} {u : Int} {x : Timpl_Equation} (h : idx a u = some x) : eqAt a u = x := by simp [eqAt, h]

theorem restrict_core {a : List Timpl_Equation} (B : a.length ≤ 1048576 ∧ ∀ x ∈ a, x.2.2.length ≤ 1048576) {k : Int} :
    ∃ r, Ev (fun m => spec_RestrictEquations_m m a k) r ∧ Ev (fun m => impl_RestrictEquations_m m a k) r ∧ (r.1.length ≤ 1048576 ∧ ∀ x ∈ r.1, x.2.2.length ≤ 1048576) ∧ r.2.1.length ≤ 1048576 := by
  obtain ⟨hl, g⟩ := B
  unfold spec_RestrictEquations_m impl_RestrictEquations_m impl_equationCode_m
  have hvi := validE_impl hl g
  have hvs := l22Is_law hl g
  cases hv : validE a with
  | false =>
    rw [hv] at hvi hvs
    exact ⟨([], [], 1), Ev.bind hvs (Ev.ite_t rfl (Ev.pure _)), Ev.bind (a := 1) (Ev.bind hvi (Ev.ite_t rfl (Ev.pure _))) (Ev.ite_t (by simp) (Ev.pure _)), ⟨Nat.zero_le _, fun x hx => by cases hx⟩, Nat.zero_le _⟩
  | true =>
    rw [hv] at hvi hvs
    have hn := validE_wf hv
    have hw : W ((a.length : Int) - 1) = (a.length : Int) - 1 := W_of (by omega) (by omega)
    by_cases hk : 0 ≤ k ∧ k < (a.length : Int)
    · obtain ⟨l, h1, h2, h3, h4, h5, h6⟩ := relevant_core hv g hk.1 hk.2
      have hterm : ∀ u ∈ l, ∃ x, idx a u = some x ∧ x ∈ a ∧ x.2.2.length ≤ 1048576 ∧ (x.2.2.map (pos l)).Pairwise (· < ·) := fun u hu => by
        obtain ⟨x, hx, hxm⟩ := idx_in (h5 u hu).1 (h5 u hu).2
        exact ⟨x, hx, hxm, g x hxm, places_lt h4 (validE_terms hv hxm) fun v hvm => h6 u hu v (by rw [termsOf_at hx]; exact hvm)⟩
      refine ⟨(l.map fun u => ((eqAt a u).1, (eqAt a u).2.1, (eqAt a u).2.2.map (pos l)), l, 0), Ev.bind hvs (Ev.ite_f (by simp) (Ev.bind (a := true) (Ev.const' fun m => ?_) (Ev.ite_f (by simp) (Ev.bind h2 (Ev.bind (append_map (step := _) l _ (fun q u hq => ?_) (fun xs => Ev.ite_f (by simp) (Ev.pure _))).ev (Ev.pure _)))))),
        Ev.bind (a := 0) (Ev.bind hvi (Ev.ite_f (by simp) (Ev.bind (a := true) (Ev.const' fun m => ?_) (Ev.ite_f (by simp) (Ev.pure _))))) (Ev.ite_f (by simp) (Ev.bind h1 (Ev.bind (append_map (step := _) l _ (fun q u hq => ?_) (fun xs => Ev.ite_f (by simp) (Ev.pure _))).ev (Ev.pure _)))), ⟨by simp; omega, fun x hx => ?_⟩, by show l.length ≤ _; omega⟩
      · rw [l00In_eq, hw]; simp; omega
      · have hql := (List.getElem?_eq_some_iff.1 hq).1
        obtain ⟨x, hx, hxm, hxl, hxp⟩ := hterm u (List.mem_of_getElem? hq)
        have inner := append_map (ρ := (List Timpl_Equation) × (List Int) × Int) (step := fun fuel (s : (List Int) × (Int)) => (match s with | (xs364, x366) => (if (decide (x366 < (x.2.2.length : Int))) = true then (idx x.2.2 x366).bind fun x410 => (spec_l11Place_m fuel l x410).bind fun x417 => (app xs364 [x417]).bind fun x423 => some (.inl (x423, (W (x366 + (1 : Int))))) else some (.inr (.inl (xs364)))) : Option (((List Int) × (Int)) ⊕ (((List Int)) ⊕ (((List Timpl_Equation) × (List Int) × Int)))))) x.2.2 (pos l) (fun j t ht => by
            have htl := (List.getElem?_eq_some_iff.1 ht).1
            refine (place_ints (xs := l) (c := t) (by unfold maxLen; omega)).use fun m hp => ?_
            simp only [decide_eq_true (show (j : Int) < (x.2.2.length : Int) by omega), if_true, idx_at ht, Option.bind_some, hp, app_ok (show ((x.2.2.take j).map (pos l)).length + [pos l t].length ≤ 1099511627776 by simp; omega), W_succ htl (show x.2.2.length ≤ 9223372036854775807 by omega)]) (fun xs => Ev.ite_f (by simp) (Ev.pure _))
        refine Ev.ite_t (decide_eq_true (by omega)) (Ev.bindc (idx_at hq) (Ev.bindc hx (Ev.bind inner.ev (Ev.const ?_))))
        simp only [ctl, eqAt_of hx, app_ok (show ((l.take q).map fun u => ((eqAt a u).1, (eqAt a u).2.1, (eqAt a u).2.2.map (pos l))).length + [(x.1, x.2.1, x.2.2.map (pos l))].length ≤ 1099511627776 by simp; omega), Option.bind_some, W_succ hql (show l.length ≤ 9223372036854775807 by omega)]
      · rw [index_eq, hw]; simp; omega
      · have hql := (List.getElem?_eq_some_iff.1 hq).1
        obtain ⟨x, hx, hxm, hxl, hxp⟩ := hterm u (List.mem_of_getElem? hq)
        refine (places_law (xs := l) (ns := x.2.2) (by omega) hxl hxp).use fun m hp => ?_
        simp only [decide_eq_true (show (q : Int) < (l.length : Int) by omega), if_true, idx_at hq, Option.bind_some, hx, hp, eqAt_of hx, app_ok (show ((l.take q).map fun u => ((eqAt a u).1, (eqAt a u).2.1, (eqAt a u).2.2.map (pos l))).length + [(x.1, x.2.1, x.2.2.map (pos l))].length ≤ 1099511627776 by simp; omega), W_succ hql (show l.length ≤ 9223372036854775807 by omega)]
      · obtain ⟨u, hu, rfl⟩ := List.mem_map.1 hx
        obtain ⟨y, hy, _, hyl, _⟩ := hterm u hu
        simp only [eqAt_of hy, List.length_map]
        exact hyl
    · refine ⟨([], [], 2), Ev.bind hvs (Ev.ite_f (by simp) (Ev.bind (a := false) (Ev.const' fun m => ?_) (Ev.ite_t rfl (Ev.pure _)))), Ev.bind (a := 2) (Ev.bind hvi (Ev.ite_f (by simp) (Ev.bind (a := false) (Ev.const' fun m => ?_) (Ev.ite_t rfl (Ev.pure _))))) (Ev.ite_t (by simp) (Ev.pure _)), ⟨Nat.zero_le _, fun x hx => by cases hx⟩, Nat.zero_le _⟩
      · rw [l00In_eq, hw]; simp; omega
      · rw [index_eq, hw]; simp; omega
end Go.Proofs.Ytecknjdlbmmmiaa
