/-
  Statement 6: both programs play alike.
-/
import Derived.Test.YtlnibadkmdmelaaP6
namespace Go.Proofs.Ytlnibadkmdmelaa
open Go.Gx

section
variable (a : List Timpl_Vertex) (cs : List Int)
def nx (k : Int) : Int := match idx cs k with | some c => c | none => -1
def ow (k : Int) : Int := match idx a k with | some x => x.1 | none => 0
def pr (k : Int) : Int := match idx a k with | some x => x.2.1 | none => 0
def least (xs : List Int) : Int := xs.foldl (fun m v => if pr a v < m then pr a v else m) 9
def finP (path : List Int) : List Int × Int × Int × Int := (path, -1, W (1 - ow a (path.getLast?.getD 0)), 0)
def cycP (path : List Int) (ag : Int) : List Int × Int × Int × Int := (path, ag, (least a (path.drop ag.toNat)).tmod 2, 0)
end

theorem okVx_wf {a : List Timpl_Vertex} (hv : validG a = true) : 1 ≤ a.length ∧ a.length ≤ 120 ∧ ∀ x ∈ a, okVx (W ((a.length : Int) - 1)) x = true := by
  simp only [validG, Bool.and_eq_true, decide_eq_true_eq, List.all_eq_true] at hv
  exact ⟨hv.1.1, hv.1.2, hv.2⟩

/-- What a choice of a valid game is. -/
theorem nx_at {a : List Timpl_Vertex} {cs : List Int} (hv : validG a = true) (hc : okChs a cs = true) {k : Int} (h0 : 0 ≤ k) (hk : k < a.length) :
    ∃ x, idx a k = some x ∧ idx cs k = some (nx cs k) ∧ nx cs k < a.length := by
  obtain ⟨g1, g2, g3⟩ := okVx_wf hv
  simp only [okChs, Bool.and_eq_true, beq_iff_eq, decide_eq_true_eq] at hc
  obtain ⟨j, rfl⟩ : ∃ j : Nat, k = j := ⟨k.toNat, by omega⟩
  obtain ⟨x, hx⟩ := get_lt (xs := a) (k := j) (by omega)
  obtain ⟨c, hcj⟩ := get_lt (xs := cs) (k := j) (by omega)
  have hch := hc.2 j (by omega)
  simp only [chAt, hx, hcj, okCh] at hch
  have hnx : nx cs (j : Int) = c := by simp [nx, idx_at hcj]
  refine ⟨x, idx_at hx, by rw [hnx]; exact idx_at hcj, ?_⟩
  rw [hnx]
  split at hch
  · simp at hch; omega
  · have hr := g3 x (List.mem_of_getElem? hx)
    simp only [okVx, Bool.and_eq_true, rises, decide_eq_true_eq] at hr
    have hmem : c ∈ x.2.2 := by simpa using hch
    obtain ⟨i, hi, rfl⟩ := List.getElem_of_mem hmem
    have h4 := hr.2.2 i hi
    simp only [okAt, List.getElem?_eq_getElem hi, Bool.and_eq_true, decide_eq_true_eq] at h4
    rw [W_of (by omega) (by omega)] at h4
    omega

/-- The program's own look at the choices. -/
theorem choices_step {a : List Timpl_Vertex} {cs : List Int} (he : cs.length = a.length) (g : ∀ x ∈ a, x.2.2.length ≤ 1048576) {k : Nat} (hk : k < a.length) {A B : Option (Int ⊕ (Unit ⊕ (List Int × Int × Int × Int)))} {r : Int ⊕ (Unit ⊕ (List Int × Int × Int × Int))}
    (hr : (if (!chAt a cs k) = true then A else B) = some r) :
    Ev (fun m => (idx a (k : Int)).bind fun x403 => (if (decide ((0 : Int) < (x403.2.2.length : Int))) = true then (idx cs (k : Int)).bind fun x427 => (slices_Contains__int64_int64_m m x403.2.2 x427).bind fun x434 => some (!x434) else some false).bind fun t424 => (if t424 = true then some true else (if ((x403.2.2.length : Int) == (0 : Int)) = true then (idx cs (k : Int)).bind fun x443 => some (x443 != (-1 : Int)) else some false).bind fun t440 => some t440).bind fun t437 => (if t437 = true then A else B)) r := by
  have hm : maxLen = 9223372036854775807 := by unfold maxLen; rfl
  obtain ⟨x, hx⟩ := get_lt hk
  obtain ⟨c, hc⟩ := get_lt (xs := cs) (k := k) (by omega)
  have hh := contains_ints (xs := x.2.2) (c := c) (by have := g x (List.mem_of_getElem? hx); omega)
  simp only [chAt, hx, hc, okCh] at hr
  simp only [idx_at hx, idx_at hc, Option.bind_some]
  by_cases h0 : x.2.2.length = 0
  · rw [if_pos h0] at hr
    simp only [show ((x.2.2.length : Int) == 0) = true from by rw [beq_iff_eq]; omega, if_true, Option.bind_some, bne]
    refine Ev.bind (a := false) (Ev.ite_f (by simp [h0]) (Ev.pure _)) (Ev.bind (a := !(c == (-1 : Int))) (Ev.ite_f (by simp) (Ev.pure _)) ?_)
    exact Ev.const hr
  · rw [if_neg h0] at hr
    simp only [show ((x.2.2.length : Int) == 0) = false from by rw [beq_eq_false_iff_ne]; omega, decide_eq_true (show (0 : Int) < (x.2.2.length : Int) by omega), if_true, Bool.false_eq_true, if_false, Option.bind_some]
    refine Ev.bind (Ev.bind hh (Ev.pure _)) ?_
    cases hb : decide (c ∈ x.2.2) with
    | true => rw [hb] at hr; exact Ev.bind (a := false) (Ev.ite_f (by simp) (Ev.pure _)) (Ev.const hr)
    | false => rw [hb] at hr; exact Ev.bind (a := true) (Ev.ite_t rfl (Ev.pure _)) (Ev.const hr)

/-! ### the least priority on a cycle -/
theorem least_snoc (a : List Timpl_Vertex) (xs : List Int) (v : Int) : least a (xs ++ [v]) = if pr a v < least a xs then pr a v else least a xs := by
  unfold least
  rw [List.foldl_append]
  rfl
theorem pr_at {a : List Timpl_Vertex} {v : Int} (h0 : 0 ≤ v) (h1 : v < a.length) : ∃ x, idx a v = some x ∧ pr a v = x.2.1 := by
  obtain ⟨j, rfl⟩ : ∃ j : Nat, v = j := ⟨v.toNat, by omega⟩
  obtain ⟨x, hx⟩ := get_lt (xs := a) (k := j) (by omega)
  exact ⟨x, idx_at hx, by simp [pr, idx_at hx]⟩
theorem l00Min_eq {n : Nat} {m p : Int} : spec_l00Min_m n m p = some (if p < m then p else m) := by
  unfold spec_l00Min_m
  by_cases h : m < p
  · rw [if_pos (decide_eq_true h), if_neg (by omega)]
  · rw [if_neg (by simpa using h)]
    by_cases h' : p < m
    · rw [if_pos h']
    · rw [if_neg h']; congr 1; omega

theorem least_spec {R : Type} {a : List Timpl_Vertex} {path : List Int} {ag : Nat} (hl : path.length ≤ 1048576) (hr : ∀ v ∈ path, 0 ≤ v ∧ v < (a.length : Int)) (hag : ag ≤ path.length) :
    EvI (β := Int ⊕ R) (fun m (s : (Int) × (Int)) => (match s with | (x404, x405) => (if (decide (x405 < (path.length : Int))) = true then (idx path x405).bind fun x444 => (idx a x444).bind fun x449 => (spec_l00Min_m m x404 x449.2.1).bind fun x466 => some (.inl (x466, (W (x405 + (1 : Int))))) else some (.inr (.inl (x404)))) : Option (((Int) × (Int)) ⊕ ((Int) ⊕ R)))) ((9 : Int), (ag : Int)) (.inl (least a (path.drop ag))) := by
  refine EvI.upto path.length (fun k (_ : Unit) => (least a ((path.take k).drop ag), (k : Int))) (fun k _ => ag ≤ k) (k := ag) (t := ()) ?_ hag (Nat.le_refl _) (fun k t hk hI => ⟨(), ?_, by omega⟩) (fun t _ => Ev.eq (Ev.ite_f (by simp) (Ev.pure _)) (by simp))
  · have : (path.take ag).drop ag = [] := by rw [List.drop_eq_nil_iff]; simp; omega
    rw [this]; rfl
  · obtain ⟨v, hv⟩ := get_lt hk
    obtain ⟨x, hx, hp⟩ := pr_at (hr v (List.mem_of_getElem? hv)).1 (hr v (List.mem_of_getElem? hv)).2
    have e : (path.take (k + 1)).drop ag = (path.take k).drop ag ++ [v] := by
      rw [List.take_add_one, hv, List.drop_append_of_le_length (by simp; omega)]; rfl
    refine Ev.eq (Ev.ite_t (decide_eq_true (by omega)) (Ev.bindc (idx_at hv) (Ev.bindc hx (Ev.bind (Ev.const' fun m => l00Min_eq) (Ev.pure _))))) ?_
    rw [W_succ hk (by omega), e, least_snoc, hp]

theorem least_impl {R : Type} {a : List Timpl_Vertex} {path : List Int} (hl : path.length ≤ 1048576) (hr : ∀ v ∈ path, 0 ≤ v ∧ v < (a.length : Int)) :
    EvI (β := Int ⊕ R) (fun _ (s : (Int) × (Int)) => (match s with | (x293, x294) => (if (decide (x294 < (path.length : Int))) = true then (idx path x294).bind fun x328 => (idx a x328).bind fun x333 => some (.inl ((if x333.2.1 < x293 then x333.2.1 else x293), (W (x294 + (1 : Int))))) else some (.inr (.inl (x293)))) : Option (((Int) × (Int)) ⊕ ((Int) ⊕ R)))) ((9 : Int), (0 : Int)) (.inl (least a path)) := by
  refine EvI.upto path.length (fun k (_ : Unit) => (least a (path.take k), (k : Int))) (fun _ _ => True) (k := 0) (t := ()) rfl (Nat.zero_le _) trivial (fun k t hk hI => ⟨(), ?_, trivial⟩) (fun t _ => Ev.eq (Ev.ite_f (by simp) (Ev.pure _)) (by simp))
  obtain ⟨v, hv⟩ := get_lt hk
  obtain ⟨x, hx, hp⟩ := pr_at (hr v (List.mem_of_getElem? hv)).1 (hr v (List.mem_of_getElem? hv)).2
  have e : path.take (k + 1) = path.take k ++ [v] := by rw [List.take_add_one, hv]; rfl
  refine Ev.eq (Ev.ite_t (decide_eq_true (by omega)) (Ev.bindc (idx_at hv) (Ev.bindc hx (Ev.pure _)))) ?_
  rw [W_succ hk (by omega), e, least_snoc, hp]

theorem play_law {a : List Timpl_Vertex} {cs : List Int} {start : Int} (hl : a.length ≤ 1048576) (g : ∀ x ∈ a, x.2.2.length ≤ 1048576) (hcl : cs.length ≤ 1048576) :
    ∃ r, Ev (fun m => spec_PlayGame_m m a cs start) r ∧ Ev (fun m => impl_PlayGame_m m a cs start) r ∧ r.1.length ≤ 1048576 := by
  have hm : maxLen = 9223372036854775807 := by unfold maxLen; rfl
  unfold spec_PlayGame_m impl_PlayGame_m
  have hvs := validG_spec hl g
  have hvi := validG_impl hl g
  cases hv : validG a with
  | false =>
    rw [hv] at hvs hvi
    exact ⟨_, Ev.bind hvs (Ev.ite_t rfl (Ev.pure _)), Ev.bind hvi (Ev.ite_t rfl (Ev.pure _)), Nat.zero_le _⟩
  | true =>
  rw [hv] at hvs hvi
  obtain ⟨g1, g2, g3⟩ := okVx_wf hv
  have hw : W ((a.length : Int) - 1) = (a.length : Int) - 1 := W_of (by omega) (by omega)
  cases hst : (decide (0 ≤ start) && decide (start ≤ W ((a.length : Int) - 1))) with
  | false =>
    refine ⟨_, Ev.bind hvs (Ev.ite_f (by simp) (Ev.bind (a := false) (Ev.const' fun m => by rw [l00In_eq, hst]) (Ev.ite_t rfl (Ev.pure _)))), Ev.bind hvi (Ev.ite_f (by simp) (Ev.bind (a := false) (Ev.const' fun m => by rw [index_eq, hst]) (Ev.ite_t rfl (Ev.pure _)))), Nat.zero_le _⟩
  | true =>
  have hsp : ∀ m, spec_l00In_m m start 0 (W ((a.length : Int) - 1)) = some true := fun m => by rw [l00In_eq, hst]
  have hip : ∀ m, impl_index_m m start (a.length : Int) = some true := fun m => by rw [index_eq, hst]
  rw [hw, Bool.and_eq_true, decide_eq_true_eq, decide_eq_true_eq] at hst
  have hch := choices_spec (cs := cs) hl g
  by_cases he : cs.length = a.length
  · have hall : ∀ {A B}, okChs a cs = decide (∀ k, k < a.length → chAt a cs k = true) ∧ (A = B → A = B) := fun {A B : Nat} => ⟨by simp [okChs, he], id⟩
    cases hc : okChs a cs with
    | false =>
      rw [hc] at hch
      have hno : ¬ ∀ k, k < a.length → chAt a cs k = true := by
        have := (hall (A := 0) (B := 0)).1
        rw [hc] at this
        exact fun h => by rw [decide_eq_true h] at this; cases this
      refine ⟨_, Ev.bind hvs (Ev.ite_f (by simp) (Ev.bind (Ev.const' hsp) (Ev.ite_f (by simp) (Ev.bind hch (Ev.ite_t rfl (Ev.pure _)))))),
        Ev.bind hvi (Ev.ite_f (by simp) (Ev.bind (Ev.const' hip) (Ev.ite_f (by simp) (Ev.ite_f (by simp [he]) (Ev.bind (EvI.all (step := _) a.length (chAt a cs) ([], 0, 0, 7) (fun k hk hok => ?_) (fun k hk hok => ?_) ?_).ev ?_))))), Nat.zero_le _⟩
      · exact Ev.ite_t (decide_eq_true (by omega)) (choices_step he g hk (by rw [hok, W_succ hk (by omega)]; rfl))
      · exact Ev.ite_t (decide_eq_true (by omega)) (choices_step he g hk (by rw [hok]; rfl))
      · exact Ev.ite_f (by simp) (Ev.pure _)
      · rw [if_neg hno]; exact Ev.pure _
    | true =>
      rw [hc] at hch
      have hyes : ∀ k, k < a.length → chAt a cs k = true := by
        have := (hall (A := 0) (B := 0)).1
        rw [hc] at this
        exact of_decide_eq_true this.symm
      have hnx := fun (k : Int) (h0 : 0 ≤ k) (hk : k < a.length) => nx_at hv hc h0 hk
      have hlast : ∀ (pre : List Int) (k : Int), (pre ++ [k]).length ≤ a.length → idx (pre ++ [k]) (W (((pre ++ [k]).length : Int) - 1)) = some k := fun pre k hle => by
        have e : (pre ++ [k]).length = pre.length + 1 := by simp
        rw [e, W_pred (k := pre.length) (n := pre.length + 1) (by omega) (by omega)]
        exact idx_at (by simp)
      have hfin : ∀ (pre : List Int) (k : Int) (x : Timpl_Vertex), idx a k = some x → (pre ++ [k], (-1 : Int), W (1 - x.1), (0 : Int)) = finP a (pre ++ [k]) := fun pre k x hx => by simp [finP, ow, hx]
      refine Exists.elim (play_loop (R := List Int × Int × Int × Int) (n := a.length) (nxt := nx cs) (fin := finP a) (cyc := cycP a)
        (sstep := fun fuel (s : (List Int)) => (match s with | (xs194) => (idx xs194 (W ((xs194.length : Int) - (1 : Int)))).bind fun x342 => (idx cs x342).bind fun x347 => (if (decide (x347 < (0 : Int))) = true then (idx a x342).bind fun x355 => some (.inr (.inr (xs194, (-1 : Int), (W ((1 : Int) - x355.1)), (0 : Int)))) else (spec_l11Place_m fuel xs194 x347).bind fun x372 => (if (decide ((0 : Int) ≤ x372)) = true then (iter (fun (s : (Int) × (Int)) => (match s with | (x404, x405) => (if (decide (x405 < (xs194.length : Int))) = true then (idx xs194 x405).bind fun x444 => (idx a x444).bind fun x449 => (spec_l00Min_m fuel x404 x449.2.1).bind fun x466 => some (.inl (x466, (W (x405 + (1 : Int))))) else some (.inr (.inl (x404)))) : Option (((Int) × (Int)) ⊕ ((Int) ⊕ (((List Int) × Int × Int × Int)))))) fuel ((9 : Int), x372)).bind fun res435 => ctl (β := Int) (ρ := ((List Int) × Int × Int × Int)) (τ := (((List Int)) ⊕ ((Empty) ⊕ (((List Int) × Int × Int × Int))))) res435 (fun (x434) => some (.inr (.inr (xs194, x372, (x434.tmod (2 : Int)), (0 : Int))))) (fun q => some (.inr (.inr q))) else (app xs194 [x347]).bind fun x472 => some (.inl (x472)))) : Option (((List Int)) ⊕ ((Empty) ⊕ (((List Int) × Int × Int × Int))))))
        (istep := fun fuel (s : (List Int) × (Int) × (Int)) => (match s with | (xs203, x205, x206) => (if (decide (x205 < (0 : Int))) = true then (app xs203 [x206]).bind fun x356 => (idx cs x206).bind fun x361 => (if (decide (x361 < (0 : Int))) = true then (idx a x206).bind fun x369 => some (.inr (.inr (x356, (-1 : Int), (W ((1 : Int) - x369.1)), (0 : Int)))) else (idx cs x206).bind fun x384 => (slices_Index__int64_int64_m fuel x356 x384).bind fun x391 => (idx cs x206).bind fun x394 => some (.inl (x356, x391, x394))) else some (.inr (.inl (xs203, x205)))) : Option (((List Int) × (Int) × (Int)) ⊕ (((List Int) × Int) ⊕ (((List Int) × Int × Int × Int))))))
        (post := fun fuel xs260 x262 => (sub xs260 x262 (xs260.length : Int)).bind fun xs268 => (iter (fun (s : (Int) × (Int)) => (match s with | (x293, x294) => (if (decide (x294 < (xs268.length : Int))) = true then (idx xs268 x294).bind fun x328 => (idx a x328).bind fun x333 => some (.inl ((if x333.2.1 < x293 then x333.2.1 else x293), (W (x294 + (1 : Int))))) else some (.inr (.inl (x293)))) : Option (((Int) × (Int)) ⊕ ((Int) ⊕ (((List Int) × Int × Int × Int)))))) fuel ((9 : Int), (0 : Int))).bind fun res319 => ctl (β := Int) (ρ := ((List Int) × Int × Int × Int)) (τ := ((List Int) × Int × Int × Int)) res319 (fun (x318) => some ((xs260, x262, (x318.tmod (2 : Int)), (0 : Int)))) (fun q => some (q)))
        (fun k h0 hk => (hnx k h0 hk).choose_spec.2.2) ?_ ?_ ?_ ?_ ?_ ?_ ?_ a.length [] start (by simp) (by simpa using ⟨hst.1, by omega⟩) (by simp)) (fun r ⟨⟨path, hp1, hp2, hp3⟩, hs, hi⟩ => ?_)
      · intro pre k hr hle hneg
        obtain ⟨x, hx, hc1, _⟩ := hnx k (hr k (by simp)).1 (hr k (by simp)).2
        rw [← hfin pre k x hx]
        exact Ev.bindc (hlast pre k hle) (Ev.bindc hc1 (Ev.ite_t (decide_eq_true hneg) (Ev.bindc hx (Ev.pure _))))
      · intro pre k hr hle hpos hp
        obtain ⟨x, hx, hc1, _⟩ := hnx k (hr k (by simp)).1 (hr k (by simp)).2
        obtain ⟨ag, hag⟩ : ∃ ag : Nat, pos (pre ++ [k]) (nx cs k) = ag := ⟨(pos (pre ++ [k]) (nx cs k)).toNat, by omega⟩
        have hlt := pos_lt (xs := pre ++ [k]) (c := nx cs k)
        have hpl := place_ints (xs := pre ++ [k]) (c := nx cs k) (by omega)
        rw [hag] at hpl hlt ⊢
        refine Ev.bindc (hlast pre k hle) (Ev.bindc hc1 (Ev.ite_f (by simp; omega) (Ev.bind hpl (Ev.ite_t (by simp) (Ev.bind (least_spec (by omega) hr (by omega)).ev ?_)))))
        exact Ev.pure _
      · intro pre k hr hle hpos hp
        obtain ⟨x, hx, hc1, _⟩ := hnx k (hr k (by simp)).1 (hr k (by simp)).2
        have hpl := place_ints (xs := pre ++ [k]) (c := nx cs k) (by omega)
        exact Ev.bindc (hlast pre k hle) (Ev.bindc hc1 (Ev.ite_f (by simp; omega) (Ev.bind hpl (Ev.ite_f (by simpa using hp) (Ev.bindc (app_ok (by simp at hle ⊢; omega)) (Ev.pure _))))))
      · intro pre k hr hle hneg
        obtain ⟨x, hx, hc1, _⟩ := hnx k (hr k (by simp)).1 (hr k (by simp)).2
        rw [← hfin pre k x hx]
        exact Ev.ite_t rfl (Ev.bindc (app_ok (by simp at hle ⊢; omega)) (Ev.bindc hc1 (Ev.ite_t (decide_eq_true hneg) (Ev.bindc hx (Ev.pure _)))))
      · intro pre k hr hle hpos
        obtain ⟨x, hx, hc1, _⟩ := hnx k (hr k (by simp)).1 (hr k (by simp)).2
        exact Ev.ite_t rfl (Ev.bindc (app_ok (by simp at hle ⊢; omega)) (Ev.bindc hc1 (Ev.ite_f (by simp; omega) (Ev.bindc hc1 (Ev.bind (index_ints (by omega)) (Ev.bindc hc1 (Ev.pure _)))))))
      · intro xs ag k h0
        exact Ev.ite_f (by simp; omega) (Ev.pure _)
      · intro path ag hr hle h0 hlt
        have hs : sub path ag (path.length : Int) = some (path.drop ag.toNat) := by
          unfold sub
          rw [if_pos ⟨h0, by omega, Int.le_refl _⟩]
          simp
        refine Ev.bindc hs (Ev.bind (least_impl (a := a) (path := path.drop ag.toNat) (by simp; omega) (fun v hv => hr v (List.mem_of_mem_drop hv))).ev ?_)
        exact Ev.pure _
      refine ⟨r, Ev.bind hvs (Ev.ite_f (by simp) (Ev.bind (Ev.const' hsp) (Ev.ite_f (by simp) (Ev.bind hch (Ev.ite_f (by simp) (Ev.bind hs.ev (Ev.pure _))))))),
        Ev.bind hvi (Ev.ite_f (by simp) (Ev.bind (Ev.const' hip) (Ev.ite_f (by simp) (Ev.ite_f (by simp [he]) (Ev.bind (EvI.all (step := _) a.length (chAt a cs) ([], 0, 0, 7) (fun k hk hok => ?_) (fun k hk hok => ?_) ?_).ev ?_))))), ?_⟩
      · exact Ev.ite_t (decide_eq_true (by omega)) (choices_step he g hk (by rw [hok, W_succ hk (by omega)]; rfl))
      · exact Ev.ite_t (decide_eq_true (by omega)) (choices_step he g hk (by rw [hok]; rfl))
      · exact Ev.ite_f (by simp) (Ev.pure _)
      · rw [if_pos hyes]
        rcases hi with hi | ⟨xs, ag, h1, h2⟩
        · exact Ev.bind hi.ev (Ev.pure _)
        · exact Ev.bind h1.ev h2
      · rcases hp3 with rfl | ⟨ag, rfl⟩
        · show path.length ≤ _; omega
        · show path.length ≤ _; omega
  · have hc : okChs a cs = false := by simp [okChs, he]
    rw [hc] at hch
    exact ⟨_, Ev.bind hvs (Ev.ite_f (by simp) (Ev.bind (Ev.const' hsp) (Ev.ite_f (by simp) (Ev.bind hch (Ev.ite_t rfl (Ev.pure _)))))),
      Ev.bind hvi (Ev.ite_f (by simp) (Ev.bind (Ev.const' hip) (Ev.ite_f (by simp) (Ev.ite_t (by simp; omega) (Ev.pure _))))), Nat.zero_le _⟩
end Go.Proofs.Ytlnibadkmdmelaa
