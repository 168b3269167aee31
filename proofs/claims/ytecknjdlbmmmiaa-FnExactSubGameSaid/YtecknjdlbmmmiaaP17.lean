/-
  Statement 17 in plain words: a part of a game.
-/
import Derived.Test.YtecknjdlbmmmiaaF0
import Derived.Test.YtecknjdlbmmmiaaF5
import Derived.Test.YtecknjdlbmmmiaaLSubGame
import Derived.Test.YtecknjdlbmmmiaaP19
namespace Go.Proofs.Ytecknjdlbmmmiaa
open Go.Gx

theorem index_ok {a : List Int} {f : Nat → Int → Option Bool} {ok : Int → Bool} (hl : a.length ≤ maxLen) (hf : ∀ x ∈ a, Ev (fun m => f m x) (!(ok x))) :
    ∃ r : Int, Ev (fun m => slices_IndexFunc__int64_int64_m m a (f m)) r ∧ ((r = -1 ∧ a.all ok = true) ∨ ∃ k x, k < a.length ∧ r = (k : Int) ∧ a[k]? = some x ∧ ok x = false ∧ ∀ j y, j < k → a[j]? = some y → ok y = true) := index_loop hl hf

theorem delete_ints {a : List Int} (hl : a.length ≤ 1048576) {f : Nat → Int → Option Bool} {ok : Int → Bool} (hf : ∀ x ∈ a, Ev (fun m => f m x) (!(ok x))) : Ev (fun m => slices_DeleteFunc__int64_int64_m m a (f m)) (a.filter ok) := by
  have hm : maxLen = 9223372036854775807 := by unfold maxLen; rfl
  unfold slices_DeleteFunc__int64_int64_m
  obtain ⟨r, h1, h2⟩ := index_ok (by omega) hf
  refine Ev.bind h1 ?_
  rcases h2 with ⟨rfl, hall⟩ | ⟨k, x, hk, rfl, hx, hok, hpre⟩
  · have : a.filter ok = a := List.filter_eq_self.2 (List.all_eq_true.1 hall)
    rw [this]
    exact Ev.ite_t rfl (Ev.pure _)
  · refine Ev.ite_f (by first | (simp; done) | (simp; omega)) ?_
    obtain ⟨ys, e1, e2, e3⟩ := delete_loop (step := fun fuel (s : (List Int) × (Int) × (Int)) => (match s with | (xs61, x62, x63) => (if (decide (x63 < (xs61.length : Int))) = true then join (κ := List Int → Int → Option (((List Int) × (Int) × (Int)) ⊕ (((List Int) × Int) ⊕ ((List Int))))) (fun (xs104 : List Int) (x105 : Int) => some (.inl (xs104, x105, (W (x63 + (1 : Int)))))) (fun K106 => (idx xs61 x63).bind fun x108 => (f fuel x108).bind fun x117 => (if (!x117) = true then (idx xs61 x62).bind fun _ => (K106 (xs61.set x62.toNat x108) (W (x62 + (1 : Int)))) else (K106 xs61 x62))) else some (.inr (.inl (xs61, x62)))) : Option (((List Int) × (Int) × (Int)) ⊕ (((List Int) × Int) ⊕ ((List Int))))))
      (a := a) (ok := ok) hk (by omega) (fun j y hj hy => hpre j y hj hy) (fun y hy => by rw [hx] at hy; cases hy; exact hok) (fun xs i j y hxl hj hij hy hym => by
        have hyi : ∃ z, xs[i]? = some z := get_lt (by omega)
        obtain ⟨z, hz⟩ := hyi
        refine (hf y hym).use fun m hfm => ?_
        simp only [decide_eq_true (show (j : Int) < (xs.length : Int) by omega), if_true, join, idx_at hy, Option.bind_some, hfm, Bool.not_not, W_succ hj (show a.length ≤ 9223372036854775807 by omega), W_succ (show i < a.length by omega) (show a.length ≤ 9223372036854775807 by omega), idx_at hz, Int.toNat_natCast]
        cases ok y <;> simp) (fun xs i hxl => Ev.ite_f (by simp [hxl]) (Ev.pure _))
    have hfl := List.length_filter_le ok a
    refine Ev.bind e1.ev (Ev.const ?_)
    simp only [ctl]
    have s1 : sub ys ((a.filter ok).length : Int) (ys.length : Int) = some (ys.drop (a.filter ok).length) := by
      rw [sub_ok (by omega) (by omega), List.take_length]
    have hcl : (clr ys (a.filter ok).length ys.length (0 : Int)).take (a.filter ok).length = a.filter ok := by
      unfold clr
      rw [List.take_append_of_le_length (by simp; omega), List.take_take, Nat.min_self, e3]
    have hcll : (clr ys (a.filter ok).length ys.length (0 : Int)).length = ys.length := by unfold clr; simp; omega
    have s2 : sub (clr ys (a.filter ok).length ys.length (0 : Int)) (0 : Int) ((a.filter ok).length : Int) = some (a.filter ok) := by
      have := sub_ok (xs := clr ys (a.filter ok).length ys.length (0 : Int)) (lo := 0) (hi := (a.filter ok).length) (by omega) (by omega)
      simp only [Int.natCast_zero, List.drop_zero] at this
      rw [this, hcl]
    simp only [s1, Option.bind_some, Int.toNat_natCast, s2]

def vxAt (a : List Timpl_Vertex) (u : Int) : Timpl_Vertex := match idx a u with | some x => x | none => (0, 0, [])
theorem vxAt_of {a : List Timpl_Vertex} {u : Int} {x : Timpl_Vertex} (h : idx a u = some x) : vxAt a u = x := by simp [vxAt, h]
theorem validG_next {a : List Timpl_Vertex} (hv : validG a = true) {x : Timpl_Vertex} (hx : x ∈ a) : x.2.2.Pairwise (· < ·) ∧ ∀ v ∈ x.2.2, 0 ≤ v ∧ v < (a.length : Int) := by
  have hm : maxLen = 9223372036854775807 := by unfold maxLen; rfl
  simp only [validG, Bool.and_eq_true, decide_eq_true_eq, List.all_eq_true] at hv
  have h1 := hv.2 x hx
  simp only [okVx, Bool.and_eq_true] at h1
  refine ⟨rises_pw h1.2.2, fun v hvm => ?_⟩
  have h2 := h1.2.2
  simp only [rises, decide_eq_true_eq] at h2
  obtain ⟨i, hi, rfl⟩ := List.getElem_of_mem hvm
  have h4 := h2 i hi
  simp only [okAt, List.getElem?_eq_getElem hi, Bool.and_eq_true, decide_eq_true_eq] at h4
  rw [W_of (by omega) (by omega)] at h4
  omega
theorem validG_len {a : List Timpl_Vertex} (hv : validG a = true) : 1 ≤ a.length ∧ a.length ≤ 120 := by
  simp only [validG, Bool.and_eq_true, decide_eq_true_eq] at hv
  exact hv.1
theorem rises_in {xs : List Int} {n : Int} (h : rises xs n = true) : ∀ v ∈ xs, 0 ≤ v ∧ v ≤ n := by
  simp only [rises, decide_eq_true_eq] at h
  intro v hv
  obtain ⟨i, hi, rfl⟩ := List.getElem_of_mem hv
  have h4 := h i hi
  simp only [okAt, List.getElem?_eq_getElem hi, Bool.and_eq_true, decide_eq_true_eq] at h4
  exact h4.1

theorem subgame_core {a : List Timpl_Vertex} {vs : List Int} (B : a.length ≤ 1048576 ∧ ∀ x ∈ a, x.2.2.length ≤ 1048576) (Bv : vs.length ≤ 1048576) :
    ∃ r, Ev (fun m => spec_SubGame_m m a vs) r ∧ Ev (fun m => impl_SubGame_m m a vs) r ∧ (r.1.length ≤ 1048576 ∧ ∀ x ∈ r.1, x.2.2.length ≤ 1048576) := by
  obtain ⟨hl, g⟩ := B
  have hm : maxLen = 9223372036854775807 := by unfold maxLen; rfl
  unfold spec_SubGame_m impl_SubGame_m
  have hvi := validG_impl hl g
  have hvs := validG_spec hl g
  cases hv : validG a with
  | false =>
    rw [hv] at hvi hvs
    exact ⟨([], 1), Ev.bind hvs (Ev.ite_t rfl (Ev.pure _)), Ev.bind hvi (Ev.ite_t rfl (Ev.pure _)), Nat.zero_le _, fun x hx => by cases hx⟩
  | true =>
    rw [hv] at hvi hvs
    have hn := validG_len hv
    have hri := increasing_law (xs := vs) (n := (a.length : Int)) (by omega)
    have hrs := rises_spec (xs := vs) (n := W ((a.length : Int) - 1)) (by omega)
    cases hr : rises vs (W ((a.length : Int) - 1)) with
    | false =>
      rw [hr] at hri hrs
      exact ⟨([], 2), Ev.bind hvs (Ev.ite_f (by simp) (Ev.bind hrs (Ev.ite_t rfl (Ev.pure _)))), Ev.bind hvi (Ev.ite_f (by simp) (Ev.bind hri (Ev.ite_t rfl (Ev.pure _)))), Nat.zero_le _, fun x hx => by cases hx⟩
    | true =>
      rw [hr] at hri hrs
      have hpw := rises_pw hr
      have hin := rises_in hr
      rw [W_of (by omega) (by omega)] at hin
      by_cases h0 : vs.length = 0
      · exact ⟨([], 3), Ev.bind hvs (Ev.ite_f (by simp) (Ev.bind hrs (Ev.ite_f (by simp) (Ev.ite_t (by simp [h0]) (Ev.pure _))))), Ev.bind hvi (Ev.ite_f (by simp) (Ev.bind hri (Ev.ite_f (by simp) (Ev.ite_t (by simp [h0]) (Ev.pure _))))), Nat.zero_le _, fun x hx => by cases hx⟩
      · have hne : ((vs.length : Int) == 0) = false := by rw [beq_eq_false_iff_ne]; omega
        have hterm : ∀ u ∈ vs, ∃ x, idx a u = some x ∧ x ∈ a ∧ x.2.2.length ≤ 1048576 ∧ x.2.2.Pairwise (· < ·) := fun u hu => by
          obtain ⟨x, hx, hxm⟩ := idx_in (a := a) (hin u hu).1 (by have := (hin u hu).2; omega)
          exact ⟨x, hx, hxm, g x hxm, (validG_next hv hxm).1⟩
        refine ⟨(vs.map fun u => ((vxAt a u).1, (vxAt a u).2.1, ((vxAt a u).2.2.filter fun t => decide (t ∈ vs)).map (pos vs)), 0), Ev.bind hvs (Ev.ite_f (by simp) (Ev.bind hrs (Ev.ite_f (by simp) (Ev.ite_f (by rw [hne]; simp) (Ev.bind (append_map (step := _) vs _ (fun q u hq => ?_) (fun xs => Ev.ite_f (by simp) (Ev.pure _))).ev (Ev.pure _)))))),
          Ev.bind hvi (Ev.ite_f (by simp) (Ev.bind hri (Ev.ite_f (by simp) (Ev.ite_f (by rw [hne]; simp) (Ev.bind (append_map (step := _) vs _ (fun q u hq => ?_) (fun xs => Ev.ite_f (by simp) (Ev.pure _))).ev (Ev.pure _)))))), by simp; omega, fun x hx => ?_⟩
        · have hql := (List.getElem?_eq_some_iff.1 hq).1
          obtain ⟨x, hx, hxm, hxl, hxp⟩ := hterm u (List.mem_of_getElem? hq)
          refine Ev.ite_t (decide_eq_true (by omega)) (Ev.join (Ev.bindc (idx_at hq) (Ev.bindc hx (Ev.bindc (idx_at hq) (Ev.bindc hx (Ev.bindc (idx_at hq) (Ev.bindc hx (Ev.bind (a := .inl ((x.2.2.filter fun t => decide (t ∈ vs)).map (pos vs))) (EvI.ev ?_) (Ev.const ?_)))))))))
          · refine EvI.upto (step := _) x.2.2.length (fun k (_ : Unit) => (((x.2.2.take k).filter fun t => decide (t ∈ vs)).map (pos vs), (k : Int))) (fun _ _ => True) (k := 0) (t := ()) (by simp) (Nat.zero_le _) trivial (fun k t hk _ => ⟨(), ?_, trivial⟩) (fun t _ => Ev.eq (Ev.ite_f (by simp) (Ev.pure _)) (by simp))
            obtain ⟨t, ht⟩ := get_lt hk
            have hfl := List.length_filter_le (fun t => decide (t ∈ vs)) (x.2.2.take k)
            simp at hfl
            have hpos := pos_ge (xs := vs) (c := t)
            refine (place_ints (xs := vs) (c := t) (by omega)).use fun m hp => ?_
            simp only [decide_eq_true (show (k : Int) < (x.2.2.length : Int) by omega), if_true, join, idx_at ht, Option.bind_some, hp, app_ok (show (((x.2.2.take k).filter fun t => decide (t ∈ vs)).map (pos vs)).length + [pos vs t].length ≤ 1099511627776 by simp; omega), W_succ hk (show x.2.2.length ≤ 9223372036854775807 by omega), List.take_add_one, ht, Option.toList_some, List.filter_append, List.map_append]
            by_cases hmem : t ∈ vs
            · rw [if_pos (decide_eq_true (hpos.2 hmem))]; simp [hmem]
            · rw [if_neg (by simpa using fun h => hmem (hpos.1 h))]; simp [hmem]
          · simp only [ctl, vxAt_of hx, app_ok (show ((vs.take q).map fun u => ((vxAt a u).1, (vxAt a u).2.1, ((vxAt a u).2.2.filter fun t => decide (t ∈ vs)).map (pos vs))).length + [(x.1, x.2.1, (x.2.2.filter fun t => decide (t ∈ vs)).map (pos vs))].length ≤ 1099511627776 by simp; omega), Option.bind_some, W_succ hql (show vs.length ≤ 9223372036854775807 by omega)]
        · have hql := (List.getElem?_eq_some_iff.1 hq).1
          obtain ⟨x, hx, hxm, hxl, hxp⟩ := hterm u (List.mem_of_getElem? hq)
          have hfl := List.length_filter_le (fun t => decide (t ∈ vs)) x.2.2
          have hdel := delete_ints (a := x.2.2) hxl (f := fun m z0 => impl_SubGame_1_m m z0 vs) (ok := fun t => decide (t ∈ vs)) (fun t _ => Ev.bind (contains_ints (xs := vs) (c := t) (by omega)) (Ev.pure _))
          have hpl := places_law (xs := vs) (ns := x.2.2.filter fun t => decide (t ∈ vs)) (by omega) (by omega) (places_lt hpw (hxp.filter _) fun v hvm => by simpa using (List.mem_filter.1 hvm).2)
          refine Ev.ite_t (decide_eq_true (by omega)) (Ev.bindc (idx_at hq) (Ev.bindc hx (Ev.bind (clone_ints hxl) (Ev.bind hdel (Ev.bindc hx (Ev.bindc hx (Ev.bind hpl (Ev.const ?_))))))))
          simp only [vxAt_of hx, app_ok (show ((vs.take q).map fun u => ((vxAt a u).1, (vxAt a u).2.1, ((vxAt a u).2.2.filter fun t => decide (t ∈ vs)).map (pos vs))).length + [(x.1, x.2.1, (x.2.2.filter fun t => decide (t ∈ vs)).map (pos vs))].length ≤ 1099511627776 by simp; omega), Option.bind_some, W_succ hql (show vs.length ≤ 9223372036854775807 by omega)]
        · obtain ⟨u, hu, rfl⟩ := List.mem_map.1 hx
          obtain ⟨y, hy, _, hyl, _⟩ := hterm u hu
          have hfl := List.length_filter_le (fun t => decide (t ∈ vs)) y.2.2
          simp only [vxAt_of hy, List.length_map]
          omega
end Go.Proofs.Ytecknjdlbmmmiaa
