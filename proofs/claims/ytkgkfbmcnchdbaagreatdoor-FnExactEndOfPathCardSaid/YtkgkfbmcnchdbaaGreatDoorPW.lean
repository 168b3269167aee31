/-
  Labels in plain words, the end: a text is a label to the program just where it is one to the reference.
-/
import Derived.Test.YtkgkfbmcnchdbaaGreatDoorF0
import Derived.Test.YtkgkfbmcnchdbaaGreatDoorF1
import Derived.Test.YtkgkfbmcnchdbaaGreatDoorF2
import Derived.Test.YtkgkfbmcnchdbaaGreatDoorF3
import Derived.Test.YtkgkfbmcnchdbaaGreatDoorFS
import Derived.Test.YtkgkfbmcnchdbaaGreatDoorGxP
import Derived.Test.YtkgkfbmcnchdbaaGreatDoorGxU
import Derived.Test.YtkgkfbmcnchdbaaGreatDoorGxZ
import Derived.Test.YtkgkfbmcnchdbaaGreatDoorP1
import Derived.Test.YtkgkfbmcnchdbaaGreatDoorPT
import Derived.Test.YtkgkfbmcnchdbaaGreatDoorPU
namespace Go.Proofs.YtkgkfbmcnchdbaaGreatDoor
open Go.Gx

def valsOk (ps : List Str) : Bool := ps.all fun w => numB w && val63 (numV w)
def labelP (s : Str) : Bool :=
  if (40 : UInt8) ∈ s then actP (pre 40 s) && decide (s.getLast? = some 41) && valsOk (splitC 44 (suf 40 s).dropLast) && decide ((splitC 44 (suf 40 s).dropLast).length ≤ 2)
  else nameP s

def labOf (n : Str) (vs : List Int) : Str × Bool :=
  if n = [116, 97, 117] then ([116, 97, 117], decide (vs.length = 0))
  else if actP n = true ∧ vs.length ≤ 2 ∧ vs.all val63 = true then (if vs.length = 0 then (n, true) else (n ++ [40] ++ dots vs ++ [41], true))
  else ([], false)

theorem label_of {n : Str} (hn : n.length ≤ 4294967296) {vs : List Int} (hv : vs.length ≤ maxLen) : Ev (fun m => impl_labelOf_m m n vs) (labOf n vs) := by
  have hm := mx
  unfold impl_labelOf_m labOf
  by_cases h1 : n = [116, 97, 117]
  · have e : (n == ([116, 97, 117] : Str)) = true := by rw [h1]; rfl
    rw [if_pos h1]
    refine Ev.ite_t e (Ev.const ?_)
    by_cases h : vs.length = 0
    · rw [h]; rfl
    · rw [decide_eq_false h, beq_false_of_ne (show ((vs.length : Int)) ≠ 0 by omega)]
  · have e : ¬ (n == ([116, 97, 117] : Str)) = true := by simpa using h1
    rw [if_neg h1]
    refine Ev.ite_f e (Ev.bind (act_impl (by omega)) ?_)
    by_cases h2 : actP n = true
    · simp only [h2, Bool.not_true, Bool.false_eq_true, if_false, Option.bind_some, true_and]
      by_cases h3 : vs.length ≤ 2
      · have e3 : decide ((2 : Int) < (vs.length : Int)) = false := decide_eq_false (by omega)
        simp only [e3, Bool.false_eq_true, if_false, h3, true_and]
        refine Ev.bind (Ev.bind (values_ev hv) (Ev.pure _)) ?_
        by_cases h4 : vs.all val63 = true
        · rw [if_pos h4]
          refine Ev.ite_f (by simp [h4]) ?_
          by_cases h5 : vs.length = 0
          · rw [if_pos h5]
            exact Ev.ite_t (by rw [h5]; rfl) (Ev.pure _)
          · rw [if_neg h5]
            have hd := dots_len h3 h4
            refine Ev.ite_f (by intro g; have := beq_iff_eq.1 g; omega) (Ev.bindc (show cat n [40] = some (n ++ [40]) from ?_) (Ev.bind (joined_ev h3 h4) (Ev.bindc (show cat (n ++ [40]) (dots vs) = some (n ++ [40] ++ dots vs) from ?_) (Ev.bindc (show cat (n ++ [40] ++ dots vs) [41] = some (n ++ [40] ++ dots vs ++ [41]) from ?_) (Ev.pure _)))))
            · unfold cat; rw [if_pos (by simp; omega)]
            · unfold cat; rw [if_pos (by simp; omega)]
            · unfold cat; rw [if_pos (by simp; omega)]
        · rw [if_neg h4]
          exact Ev.ite_t (by simpa using h4) (Ev.pure _)
      · have e3 : decide ((2 : Int) < (vs.length : Int)) = true := decide_eq_true (by omega)
        exact Ev.eq (r := (([] : Str), false)) (Ev.const' fun m => by simp only [e3, if_true, Option.bind_some]) (if_neg (fun h => h3 h.1)).symm
    · have e2 : (!actP n) = true := by simpa using h2
      exact Ev.eq (r := (([] : Str), false)) (Ev.const' fun m => by simp only [e2, if_true, Option.bind_some]) (if_neg (fun h => h2 h.1)).symm

theorem nums_join {ws : List Str} (h : ws.all numB = true) : (ws.map numV).map Lib.itoa = ws := by
  rw [List.map_map]
  rw [List.all_eq_true] at h
  conv => rhs; rw [← List.map_id ws]
  refine List.map_congr_left fun w hw => ?_
  have := h w hw
  unfold numB at this
  obtain ⟨v, hv⟩ := Option.isSome_iff_exists.1 this
  show Lib.itoa (numV w) = w
  unfold numV
  rw [hv]
  exact (num_some hv).1

theorem last_eq {s : Str} (h : (40 : UInt8) ∈ s) : s.getLast? = some 41 ↔ (suf 40 s).getLast? = some 41 := by
  conv => lhs; rw [pre_suf h]
  rw [List.getLast?_append]
  cases hs : suf 40 s with
  | nil => simp
  | cons b r =>
    rw [List.getLast?_cons_cons]
    cases hl : (b :: r).getLast? with
    | none => simp at hl
    | some c => simp

theorem name_tau : nameP [116, 97, 117] = true := by decide +kernel
theorem act_tau : actP [116, 97, 117] = false := by unfold actP; simp

theorem third {c : Bool} {a : Str} {b : List Int} : (if c = true then (([] : Str), ([] : List Int), false) else (a, b, true)).2.2 = !c := by cases c <;> rfl

theorem read_label {s : Str} (hl : s.length ≤ 1048576) : ∃ r, Ev (fun m => impl_readLabel_m m s) r ∧ r.2.2 = labelP s := by
  have hm := mx
  unfold impl_readLabel_m
  by_cases hc : (40 : UInt8) ∈ s
  · have hp := pre_len 40 s
    have hsf : (suf 40 s).length ≤ s.length := by unfold suf; simp
    have hcut : ∀ m, strings_Cut_m m s [40] = some (pre 40 s, suf 40 s, true) := fun m => by rw [cut_lib (by omega), if_pos hc]
    obtain ⟨t, ht⟩ : ∃ t, t = if (suf 40 s).getLast? = some 41 then (suf 40 s).dropLast else suf 40 s := ⟨_, rfl⟩
    have htl : t.length ≤ s.length := by rw [ht]; split <;> (try simp) <;> omega
    have htr : ∀ m, strings_TrimSuffix_m m (suf 40 s) [41] = some t := fun m => by rw [trimS_lib (by omega), ← ht]
    have hsp : ∀ m, strings_Split_m m t [44] = some (splitC 44 t) := fun m => split_lib (by omega)
    have hln := splitC_len 44 t
    have hne := List.length_pos_iff.2 (splitC_ne 44 t)
    have hrn := read_nums (ws := splitC 44 t) (by omega) (fun w hw => by have := splitC_mem 44 t w hw; omega)
    by_cases hn : (splitC 44 t).all numB = true
    · rw [if_pos hn] at hrn
      have hlo := label_of (n := pre 40 s) (by omega) (vs := (splitC 44 t).map numV) (by simp; omega)
      refine ⟨_, Ev.bind (Ev.const' hcut) (Ev.join (Ev.ite_t rfl (Ev.bind (Ev.const' htr) (Ev.bind (Ev.const' hsp) (Ev.bind hrn (Ev.ite_f (by simp) (Ev.bind hlo (Ev.const' fun m => by rw [or_some, Option.bind_some, ite_some])))))))), ?_⟩
      have hd : dots ((splitC 44 t).map numV) = t := by unfold dots; rw [nums_join hn, join_splitC]
      have hlast : (pre 40 s ++ [40] ++ t ++ [41] = s) ↔ (suf 40 s).getLast? = some 41 := by
        conv => lhs; rhs; rw [pre_suf hc]
        rw [List.append_assoc, List.append_assoc, List.append_cancel_left_eq]
        simp only [List.singleton_append, List.cons.injEq, true_and]
        constructor
        · intro h; rw [← h]; simp
        · intro h
          rw [ht, if_pos h]
          rcases snoc_or (suf 40 s) with e | ⟨q, x, e⟩
          · rw [e] at h; cases h
          · rw [e] at h ⊢
            have : x = 41 := by simpa using h
            rw [this]; simp
      have hvo : (suf 40 s).getLast? = some 41 → splitC 44 (suf 40 s).dropLast = splitC 44 t := fun h => by rw [ht, if_pos h]
      have hall : ((splitC 44 t).map numV).all val63 = valsOk (splitC 44 t) := by
        unfold valsOk
        rw [List.all_map]
        rw [List.all_eq_true] at hn
        apply Bool.eq_iff_iff.2
        rw [List.all_eq_true, List.all_eq_true]
        constructor
        · intro h w hw; rw [hn w hw]; exact h w hw
        · intro h w hw; have := h w hw; rw [hn w hw] at this; exact this
      rw [third]
      unfold labelP labOf
      rw [if_pos hc]
      simp only [decide_eq_decide.2 (last_eq hc), List.length_map, hall]
      by_cases h1 : pre 40 s = [116, 97, 117]
      · rw [if_pos h1, h1, act_tau, decide_eq_false (by omega)]
        rfl
      · rw [if_neg h1]
        by_cases h6 : (suf 40 s).getLast? = some 41
        · rw [hvo h6, decide_eq_true h6]
          by_cases h2 : actP (pre 40 s) = true ∧ (splitC 44 t).length ≤ 2 ∧ valsOk (splitC 44 t) = true
          · rw [if_pos h2, if_neg (show ¬ (splitC 44 t).length = 0 by omega), h2.1, h2.2.2, decide_eq_true h2.2.1, hd]
            rw [hlast.2 h6]
            simp
          · rw [if_neg h2]
            cases ha : actP (pre 40 s)
            · rfl
            · cases hv : valsOk (splitC 44 t)
              · rfl
              · rw [decide_eq_false (fun h => h2 ⟨ha, h, hv⟩)]; rfl
        · rw [decide_eq_false h6, Bool.and_false]
          split
          · rw [if_neg (show ¬ (splitC 44 t).length = 0 by omega), hd]
            have : (pre 40 s ++ [40] ++ t ++ [41] != s) = true := by
              rw [bne_iff_ne]
              exact fun h => h6 (hlast.1 h)
            rw [this]
            rfl
          · rfl
    · rw [if_neg hn] at hrn
      refine ⟨_, Ev.bind (Ev.const' hcut) (Ev.join (Ev.ite_t rfl (Ev.bind (Ev.const' htr) (Ev.bind (Ev.const' hsp) (Ev.bind hrn (Ev.ite_t (by rfl) (Ev.pure _))))))), ?_⟩
      unfold labelP
      rw [if_pos hc]
      by_cases h6 : (suf 40 s).getLast? = some 41
      · have : valsOk (splitC 44 (suf 40 s).dropLast) = false := by
          rw [ht, if_pos h6] at hn
          apply Bool.eq_false_iff.2
          intro h
          apply hn
          unfold valsOk at h
          rw [List.all_eq_true] at h ⊢
          intro w hw
          have := h w hw
          rw [Bool.and_eq_true] at this
          exact this.1
        rw [this]; simp
      · rw [decide_eq_false (fun h => h6 ((last_eq hc).1 h))]; simp
  · have hcut : ∀ m, strings_Cut_m m s [40] = some (s, [], false) := fun m => by rw [cut_lib (by omega), if_neg hc]
    have hlo := label_of (n := s) (by omega) (vs := []) (by simp)
    refine ⟨_, Ev.bind (Ev.const' hcut) (Ev.join (Ev.ite_f (by simp) (Ev.bind hlo (Ev.const' fun m => by rw [or_some, Option.bind_some, ite_some])))), ?_⟩
    rw [third]
    unfold labelP labOf
    rw [if_neg hc]
    by_cases h1 : s = [116, 97, 117]
    · rw [if_pos h1, h1, name_tau]; rfl
    · rw [if_neg h1]
      have e : actP s = nameP s := by
        unfold actP
        rw [bne_iff_ne.2 h1, Bool.and_true]
      rw [e]
      by_cases h2 : nameP s = true
      · rw [if_pos ⟨h2, by simp, rfl⟩, h2]
        simp
      · rw [if_neg (fun h => h2 h.1)]
        have : nameP s = false := by simpa using h2
        rw [this]
        rfl
theorem label_impl {s : Str} (hl : s.length ≤ 1048576) : Ev (fun m => impl_IsLabel_m m s) (labelP s) := by
  obtain ⟨r, h1, h2⟩ := read_label hl
  unfold impl_IsLabel_m
  exact Ev.bind h1 (Ev.const (by rw [h2]))

/-! ### the reference -/
theorem pre_hit : ∀ (s : Str) (k : Nat), s[k]? = some 40 → (40 : UInt8) ∉ s.take k → (pre 40 s).length = k
  | [], k, h, _ => by simp at h
  | b :: r, 0, h, _ => by
    have : b = 40 := by simpa using h
    rw [pre_cons, if_pos this]; rfl
  | b :: r, k + 1, h, h2 => by
    rw [List.take_succ_cons, List.mem_cons, not_or] at h2
    rw [pre_cons, if_neg (fun e => h2.1 e.symm), List.length_cons, pre_hit r k (by simpa using h) h2.2]
theorem open_spec {s : Str} (hl : s.length ≤ 1048576) : Ev (fun m => spec_l01Open_m m s) ((pre 40 s).length : Int) := by
  unfold spec_l01Open_m
  refine Exists.elim (EvI.count (step := _) s.length (fun k (_ : Unit) => (k : Int)) (fun k _ => (40 : UInt8) ∉ s.take k)
    (fun r => r = .inr ((pre 40 s).length : Int) ∨ (r = .inl () ∧ (pre 40 s).length = s.length)) ?_ ?_ (k := 0) (t := ()) (Nat.zero_le _) (by simp))
    (fun res ⟨h1, h2⟩ => Ev.bind h1.ev (by
      rcases h2 with rfl | ⟨rfl, h⟩
      · exact Ev.pure _
      · exact (Ev.pure _).eq (by rw [h])))
  · intro k t hk hI
    obtain ⟨b, hb⟩ := get_lt hk
    have hk' : decide ((k : Int) < (s.length : Int)) = true := by simpa using hk
    by_cases h : b = 40
    · subst h
      exact .inr ⟨_, Ev.ite_t hk' (Ev.bindc (idx_at hb) (Ev.ite_t (by rfl) (Ev.pure _))), .inl (by rw [pre_hit s k hb hI])⟩
    · refine .inl ⟨(), Ev.ite_t hk' (Ev.bindc (idx_at hb) (Ev.ite_f ?_ (Ev.const (by rw [W_succ hk (by omega)])))), ?_⟩
      · intro g
        have := beq_iff_eq.1 g
        exact h (UInt8.toNat_inj.1 (show b.toNat = 40 by omega))
      · rw [List.take_add_one, hb]
        simp [hI, Ne.symm h]
  · intro t hI
    rw [List.take_length] at hI
    exact ⟨_, Ev.ite_f (by simp) (Ev.pure _), .inr ⟨rfl, (pre_full 40 s).2 hI⟩⟩

def lsp : (List Int) ⊕ ((List Int) × Bool) → (List Int) × Bool
  | .inl xs => (xs, decide ((xs.length : Int) ≤ 2))
  | .inr q => q
theorem lsp_ctl {res : (List Int) ⊕ ((List Int) × Bool)} : ctl (β := (List Int)) (ρ := ((List Int) × Bool)) (τ := ((List Int) × Bool)) res (fun (xs140) => some ((xs140, (decide ((xs140.length : Int) ≤ (2 : Int)))))) (fun q => some (q)) = some (lsp res) := by cases res <;> rfl
theorem vals_loop {ps : List Str} (hl : ps.length ≤ 1048577) (hw : ∀ w ∈ ps, w.length ≤ 1048576) :
    Ev (fun fuel => iter (fun (s : (List Int) × (Int)) => (match s with | (xs104, x106) => (if (decide (x106 < (ps.length : Int))) = true then (idx ps x106).bind fun x151 => (spec_l01Number_m fuel x151).bind fun x158 => (if (!x158.2) = true then some true else (spec_l00In_m fuel x158.1 (0 : Int) (63 : Int)).bind fun x166 => some (!x166)).bind fun t161 => (if t161 = true then some (.inr (.inr ([], false))) else (app xs104 [x158.1]).bind fun x174 => some (.inl (x174, (W (x106 + (1 : Int)))))) else some (.inr (.inl (xs104)))) : Option (((List Int) × (Int)) ⊕ (((List Int)) ⊕ (((List Int) × Bool)))))) fuel (([] : List Int), (0 : Int)))
      (if valsOk ps = true then .inl (ps.map numV) else .inr ([], false)) := by
  have hm := mx
  refine Exists.elim (EvI.count (β := (List Int) ⊕ ((List Int) × Bool)) (step := fun fuel (s : (List Int) × (Int)) => (match s with | (xs104, x106) => (if (decide (x106 < (ps.length : Int))) = true then (idx ps x106).bind fun x151 => (spec_l01Number_m fuel x151).bind fun x158 => (if (!x158.2) = true then some true else (spec_l00In_m fuel x158.1 (0 : Int) (63 : Int)).bind fun x166 => some (!x166)).bind fun t161 => (if t161 = true then some (.inr (.inr ([], false))) else (app xs104 [x158.1]).bind fun x174 => some (.inl (x174, (W (x106 + (1 : Int)))))) else some (.inr (.inl (xs104)))) : Option (((List Int) × (Int)) ⊕ (((List Int)) ⊕ (((List Int) × Bool))))))
    ps.length (fun k (_ : Unit) => ((ps.take k).map numV, (k : Int))) (fun k _ => valsOk (ps.take k) = true)
    (fun r => r = (if valsOk ps = true then .inl (ps.map numV) else .inr ([], false))) ?_ ?_ (k := 0) (t := ()) (Nat.zero_le _) rfl)
    (fun res ⟨h3, h4⟩ => by subst h4; exact h3.ev)
  · intro k t hk hI
    obtain ⟨w, hw'⟩ := get_lt hk
    have hk' : decide ((k : Int) < (ps.length : Int)) = true := by simpa using hk
    have htk : ps.take (k + 1) = ps.take k ++ [w] := by rw [List.take_add_one, hw']; rfl
    have hwl := hw w (List.mem_of_getElem? hw')
    have hnum := num_spec (w := w) (by omega)
    have hcc : ∀ m : Nat, (if (!numB w) = true then some true else (spec_l00In_m m (numV w) (0 : Int) (63 : Int)).bind fun x166 => some (!x166)) = some (!(numB w && val63 (numV w))) := fun m => by
      rw [l00In_eq, Option.bind_some, or_some]
      cases numB w <;> rfl
    by_cases hv : (numB w && val63 (numV w)) = true
    · left
      refine ⟨(), Ev.ite_t hk' (Ev.bindc (idx_at hw') (Ev.bind hnum (Ev.bind (Ev.const' hcc) (Ev.ite_f (by rw [hv]; simp) (Ev.bindc (app_ok (by simp; omega)) (Ev.const ?_)))))), ?_⟩
      · rw [W_succ hk (by omega), htk, List.map_append]; rfl
      · unfold valsOk at hI ⊢
        rw [htk, List.all_append, hI]
        simp only [List.all_cons, List.all_nil, Bool.and_true, Bool.true_and]
        exact hv
    · right
      have hv' : (numB w && val63 (numV w)) = false := by simpa using hv
      refine ⟨_, Ev.ite_t hk' (Ev.bindc (idx_at hw') (Ev.bind hnum (Ev.bind (Ev.const' hcc) (Ev.ite_t (by rw [hv']; rfl) (Ev.pure _))))), ?_⟩
      rw [if_neg]
      intro h
      unfold valsOk at h
      rw [List.all_eq_true] at h
      exact hv (h w (List.mem_of_getElem? hw'))
  · intro t hI
    refine ⟨_, Ev.ite_f (by simp) (Ev.pure _), ?_⟩
    rw [List.take_length] at *
    rw [if_pos hI]

theorem label_spec {s : Str} (hl : s.length ≤ 1048576) : Ev (fun m => spec_l01Label_m m s) (labelP s) := by
  have hm := mx
  unfold spec_l01Label_m
  suffices h : ∃ r, Ev (fun m => spec_l01Values_m m s) r ∧ r.2 = labelP s by
    obtain ⟨r, h1, h2⟩ := h
    exact Ev.bind h1 (Ev.const (by rw [h2]))
  unfold spec_l01Values_m labelP
  by_cases hc : (40 : UInt8) ∈ s
  · have hp := pre_len 40 s
    have hpn : (pre 40 s).length ≠ s.length := fun h => (pre_full 40 s).1 h hc
    have hs0 : sub s (0 : Int) ((pre 40 s).length : Int) = some (pre 40 s) := by
      have := sub_ok (xs := s) (lo := 0) (hi := (pre 40 s).length) (Nat.zero_le _) hp
      rw [pre_take] at this
      exact this
    have hpos : 0 < s.length := by omega
    obtain ⟨b, hb⟩ := get_lt (xs := s) (k := s.length - 1) (by omega)
    have hlast : s.getLast? = some b := by rw [List.getLast?_eq_getElem?]; exact hb
    have hw1 : W ((s.length : Int) - 1) = ((s.length - 1 : Nat) : Int) := by rw [W_of (by omega) (by omega)]; omega
    rw [if_pos hc]
    have hbase : ∀ {r} (_ : Ev (fun m => (if (!actP (pre 40 s)) = true then some true else (idx s (W ((s.length : Int) - (1 : Int)))).bind fun b55 => some ((b55.toNat : Int) != (41 : Int))) ) r), r = !(actP (pre 40 s) && decide (s.getLast? = some 41)) := by
      intro r h
      obtain ⟨n, hn⟩ := h.one
      rw [hw1, idx_at hb] at hn
      simp only [Option.bind_some, or_some, Option.some.injEq] at hn
      rw [← hn, hlast]
      cases actP (pre 40 s)
      · rfl
      · simp only [Bool.not_true, Bool.false_or, Bool.true_and]
        by_cases h41 : b = 41
        · rw [h41]; rfl
        · rw [decide_eq_false (by simpa using h41)]
          have : ((b.toNat : Int) != 41) = true := by
            rw [bne_iff_ne]
            intro g
            exact h41 (UInt8.toNat_inj.1 (show b.toNat = 41 by omega))
          rw [this]; rfl
    have hcond : ∀ m : Nat, (if (!actP (pre 40 s)) = true then some true else (idx s (W ((s.length : Int) - (1 : Int)))).bind fun b55 => some ((b55.toNat : Int) != (41 : Int))) = some (!(actP (pre 40 s) && decide (s.getLast? = some 41))) := by
      intro m
      have e : (if (!actP (pre 40 s)) = true then some true else (idx s (W ((s.length : Int) - (1 : Int)))).bind fun b55 => some ((b55.toNat : Int) != (41 : Int))) = some ((!actP (pre 40 s)) || ((b.toNat : Int) != (41 : Int))) := by rw [hw1, idx_at hb, Option.bind_some, or_some]
      rw [e]
      exact congrArg some (hbase (Ev.const e))
    by_cases h1 : (actP (pre 40 s) && decide (s.getLast? = some 41)) = true
    · have h41 : s.getLast? = some 41 := of_decide_eq_true (Bool.and_eq_true _ _ ▸ h1).2
      have hsl := (last_eq hc).1 h41
      have hsn : suf 40 s ≠ [] := fun e => by rw [e] at hsl; cases hsl
      have hsl2 : (suf 40 s).length = s.length - ((pre 40 s).length + 1) := by unfold suf; simp
      have hsp := List.length_pos_iff.2 hsn
      have hsub : sub s (W (((pre 40 s).length : Int) + 1)) (W ((s.length : Int) - 1)) = some (suf 40 s).dropLast := by
        rw [hw1, W_of (by omega) (by omega), show (((pre 40 s).length : Int) + 1) = (((pre 40 s).length + 1 : Nat) : Int) from rfl, sub_ok (by omega) (by omega), List.drop_take, List.dropLast_eq_take, hsl2]
        unfold suf
        congr 2
        omega
      have hpl : (splitC 44 (suf 40 s).dropLast).length ≤ s.length := by have := splitC_len 44 (suf 40 s).dropLast; simp at this; omega
      rw [h1, Bool.true_and]
      refine ⟨_, Ev.bind (open_spec hl) (Ev.ite_f (by intro g; have := beq_iff_eq.1 g; omega) (Ev.bindc hs0 (Ev.bind (act_spec (by omega)) (Ev.bind (Ev.const' hcond) (Ev.ite_f (by rw [h1]; simp) (Ev.bindc hsub (Ev.bind (split_spec (by simp; omega)) (Ev.bind (vals_loop (by omega) (fun w hw => ?_)) (Ev.const' fun m => lsp_ctl))))))))), ?_⟩
      · have := splitC_mem 44 _ w hw
        simp at this
        omega
      · by_cases hv : valsOk (splitC 44 (suf 40 s).dropLast) = true
        · rw [if_pos hv, hv, Bool.true_and]
          exact decide_eq_decide.2 (by simp; omega)
        · rw [if_neg hv]
          have : valsOk (splitC 44 (suf 40 s).dropLast) = false := by simpa using hv
          rw [this]
          rfl
    · refine ⟨_, Ev.bind (open_spec hl) (Ev.ite_f (by intro g; have := beq_iff_eq.1 g; omega) (Ev.bindc hs0 (Ev.bind (act_spec (by omega)) (Ev.bind (Ev.const' hcond) (Ev.ite_t (by rw [Bool.not_eq_true']; exact Bool.eq_false_iff.2 h1) (Ev.pure _)))))), ?_⟩
      have : (actP (pre 40 s) && decide (s.getLast? = some 41)) = false := by simpa using h1
      rw [this]
      rfl
  · rw [if_neg hc]
    exact ⟨_, Ev.bind (open_spec hl) (Ev.ite_t (by rw [(pre_full 40 s).2 hc]; simp) (Ev.bind (name_spec (by omega)) (Ev.pure _))), rfl⟩
end Go.Proofs.YtkgkfbmcnchdbaaGreatDoor
