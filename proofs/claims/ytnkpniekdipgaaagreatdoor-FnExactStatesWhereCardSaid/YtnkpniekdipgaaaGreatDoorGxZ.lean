/-
  Plain laws of decimals and of texts cut at a byte: nothing of any program.
-/
import Derived.Test.YtnkpniekdipgaaaGreatDoorGxX
import Derived.Lib.ParseIntB
import Derived.Lib.SplitLaws
import Derived.Lib.Join
import Derived.Lib.IndexMore
namespace Go.Gx
open Go.Lib (decDigits itoa parseIntB parseUintB parseUintM NumEnd)

/-! ### decimals -/
def isDig (b : UInt8) : Bool := decide (48 ≤ b.toNat) && decide (b.toNat ≤ 57)
abbrev dstep (a : Nat) (b : UInt8) : Nat := 10 * a + (b.toNat - 48)
def valN (ds : Str) : Nat := ds.foldl dstep 0
theorem valN_snoc (ds : Str) (b : UInt8) : valN (ds ++ [b]) = 10 * valN ds + (b.toNat - 48) := by simp [valN]

theorem dig_le {b : UInt8} (h : isDig b = true) : 48 ≤ b.toNat ∧ b.toNat ≤ 57 := by simpa [isDig] using h
theorem snoc_or {α : Type} (l : List α) : l = [] ∨ ∃ m x, l = m ++ [x] := by
  rcases List.eq_nil_or_concat l with h | ⟨m, x, h⟩
  · exact .inl h
  · exact .inr ⟨m, x, by rw [h, List.concat_eq_append]⟩
theorem valN_lt : ∀ (n : Nat) (ds : Str), ds.length = n → ds.all isDig = true → valN ds < 10 ^ n
  | 0, ds, h, _ => by rw [List.length_eq_zero_iff.1 h]; decide
  | n + 1, ds, h, ha => by
    rcases snoc_or ds with rfl | ⟨m, b, rfl⟩
    · cases h
    · rw [List.all_append, Bool.and_eq_true] at ha
      have ih := valN_lt n m (by simpa using h) ha.1
      have hb : isDig b = true := by simpa using ha.2
      have := dig_le hb
      rw [valN_snoc, Nat.pow_succ]
      omega

theorem fold_le : ∀ (ds : Str) (a : Nat), a ≤ ds.foldl dstep a
  | [], a => Nat.le_refl _
  | b :: r, a => by
    have := fold_le r (dstep a b)
    simp only [List.foldl_cons]
    have h2 : a ≤ dstep a b := by unfold dstep; omega
    omega

theorem parse_digits : ∀ (ds : Str) (a : Nat), ds.all isDig = true → ds.foldl dstep a < 10 ^ 18 → parseUintM (2 ^ 64 - 1) a ds = .ok (ds.foldl dstep a)
  | [], a, _, _ => rfl
  | b :: r, a, hd, hv => by
    simp only [List.all_cons, Bool.and_eq_true] at hd
    simp only [List.foldl_cons] at hv ⊢
    have h1 := dig_le hd.1
    have h2 := fold_le r (dstep a b)
    have e : a * 10 + (b.toNat - 48) = dstep a b := by unfold dstep; omega
    have e2 : dstep a b = 10 * a + (b.toNat - 48) := rfl
    unfold parseUintM
    rw [if_pos h1, if_neg (by omega), if_neg (by rw [e]; omega), e]
    exact parse_digits r _ hd.2 hv

theorem ofNat_dig {b : UInt8} (h : isDig b = true) : UInt8.ofNat (48 + (b.toNat - 48)) = b := by
  have := dig_le h
  rw [show 48 + (b.toNat - 48) = b.toNat by omega]
  exact UInt8.ofNat_toNat

theorem dig_ofNat {d : Nat} (h : d < 10) : isDig (UInt8.ofNat (48 + d)) = true ∧ (UInt8.ofNat (48 + d)).toNat - 48 = d := by
  have e : (UInt8.ofNat (48 + d)).toNat = 48 + d := by
    rw [UInt8.toNat_ofNat']
    omega
  unfold isDig
  rw [e]
  simp
  omega

theorem dec_big {u : Nat} (h : ¬ u < 10) : decDigits u = decDigits (u / 10) ++ [UInt8.ofNat (48 + u % 10)] := by rw [decDigits, dif_neg h]
theorem dec_ne (u : Nat) : decDigits u ≠ [] := by
  by_cases h : u < 10
  · rw [Lib.decDigits_one h]; simp
  · rw [dec_big h]; simp
theorem dec_all : ∀ u : Nat, (decDigits u).all isDig = true := by
  intro u
  induction u using Nat.strongRecOn with
  | _ u ih =>
    by_cases h : u < 10
    · rw [Lib.decDigits_one h, List.all_cons, (dig_ofNat h).1]; rfl
    · rw [dec_big h, List.all_append, ih (u / 10) (by omega)]
      rw [List.all_cons, (dig_ofNat (d := u % 10) (by omega)).1]; rfl
theorem dec_val : ∀ u : Nat, valN (decDigits u) = u := by
  intro u
  induction u using Nat.strongRecOn with
  | _ u ih =>
    by_cases h : u < 10
    · rw [Lib.decDigits_one h]
      have := (dig_ofNat h).2
      show 10 * 0 + ((UInt8.ofNat (48 + u)).toNat - 48) = u
      omega
    · rw [dec_big h, valN_snoc, ih (u / 10) (by omega), (dig_ofNat (d := u % 10) (by omega)).2]
      omega
theorem dec_head : ∀ u : Nat, 0 < u → (decDigits u).head? ≠ some 48 := by
  intro u
  induction u using Nat.strongRecOn with
  | _ u ih =>
    intro h0
    by_cases h : u < 10
    · rw [Lib.decDigits_one h]
      intro e
      have e1 : UInt8.ofNat (48 + u) = 48 := by simpa using e
      have := (dig_ofNat h).2
      rw [e1] at this
      simp at this
      omega
    · rw [dec_big h]
      have := ih (u / 10) (by omega) (by omega)
      rw [List.head?_append]
      cases hd : (decDigits (u / 10)).head? with
      | none => exact absurd (List.head?_eq_none_iff.1 hd) (dec_ne _)
      | some c => rw [hd] at this; simpa using this
theorem dec_one {u : Nat} (h : (decDigits u).head? = some 48) : (decDigits u).length = 1 := by
  rcases Nat.eq_zero_or_pos u with rfl | h0
  · rw [Lib.decDigits_one (by omega)]; rfl
  · exact absurd h (dec_head u h0)

theorem head_pos : ∀ (ds : Str), ds ≠ [] → ds.all isDig = true → ds.head? ≠ some 48 → 0 < valN ds := by
  intro ds h1 h2 h3
  cases ds with
  | nil => exact absurd rfl h1
  | cons b r =>
    simp only [List.all_cons, Bool.and_eq_true] at h2
    have hb := dig_le h2.1
    have hne : b.toNat ≠ 48 := fun e => h3 (by rw [List.head?_cons]; congr 1; exact UInt8.toNat_inj.1 e)
    have := fold_le r (dstep 0 b)
    unfold valN
    rw [List.foldl_cons]
    have e : dstep 0 b = b.toNat - 48 := by unfold dstep; omega
    omega

theorem dec_of : ∀ (n : Nat) (ds : Str), ds.length = n → ds ≠ [] → ds.all isDig = true → (ds.head? ≠ some 48 ∨ ds.length = 1) → decDigits (valN ds) = ds
  | 0, ds, h, h1, _, _ => absurd (List.length_eq_zero_iff.1 h) h1
  | n + 1, ds, h, h1, h2, h3 => by
    rcases snoc_or ds with rfl | ⟨m, b, rfl⟩
    · exact absurd rfl h1
    · rw [List.all_append, Bool.and_eq_true] at h2
      have hb : isDig b = true := by simpa using h2.2
      have hb2 := dig_le hb
      rw [valN_snoc]
      cases m with
      | nil =>
        rw [show valN [] = 0 from rfl]
        rw [Lib.decDigits_one (by omega)]
        simp [ofNat_dig hb]
      | cons c r =>
        have hh : (c :: r).head? ≠ some 48 := by
          rcases h3 with h3 | h3
          · simpa using h3
          · simp at h3
        have ih := dec_of n (c :: r) (by simpa using h) (by simp) h2.1 (.inl hh)
        have hp := head_pos (c :: r) (by simp) h2.1 hh
        rw [dec_big (by omega), show (10 * valN (c :: r) + (b.toNat - 48)) / 10 = valN (c :: r) by omega, ih, show (10 * valN (c :: r) + (b.toNat - 48)) % 10 = b.toNat - 48 by omega, ofNat_dig hb]

/-- Digits of a number: one to 18, no zero ahead. -/
def okD (ds : Str) : Bool := decide (ds ≠ []) && decide (ds.length ≤ 18) && ds.all isDig
/-- The number that a text of at most 18 digits spells. -/
def num (w : Str) : Option Int :=
  if w.head? = some 45 then (if okD w.tail = true ∧ w.tail.head? ≠ some 48 then some (-(valN w.tail : Int)) else none)
  else if okD w = true ∧ (w.head? ≠ some 48 ∨ w.length = 1) then some (valN w : Int) else none
/-- The number by the library's functions. -/
def rdDec (w : Str) : Option Int :=
  if 18 < (Lib.trimPrefix w [45]).length then none else match parseIntB 64 w with
    | .ok v => if itoa v = w then some v else none
    | _ => none

theorem trim_minus (r : Str) : Lib.trimPrefix (45 :: r) [45] = r := by simp [Lib.trimPrefix, Lib.hasPrefix, List.isPrefixOf]
theorem trim_other {w : Str} (h : w.head? ≠ some 45) : Lib.trimPrefix w [45] = w := by
  cases w with
  | nil => rfl
  | cons b r =>
    have : b ≠ 45 := fun e => h (by rw [e]; rfl)
    simp [Lib.trimPrefix, Lib.hasPrefix, List.isPrefixOf, Ne.symm this]
theorem okD_iff {ds : Str} : okD ds = true ↔ ds ≠ [] ∧ ds.length ≤ 18 ∧ ds.all isDig = true := by simp [okD, and_assoc]

theorem dig_head {ds : Str} (h : ds.all isDig = true) : ds.head? ≠ some 45 ∧ ds.head? ≠ some 43 := by
  cases ds with
  | nil => simp
  | cons b r =>
    simp only [List.all_cons, Bool.and_eq_true] at h
    have hb := dig_le h.1
    constructor
    · intro e
      have e1 : b = 45 := by simpa using e
      subst e1
      simp at hb
    · intro e
      have e1 : b = 43 := by simpa using e
      subst e1
      simp at hb

theorem num_itoa {w : Str} {v : Int} (h1 : itoa v = w) (h2 : (Lib.trimPrefix w [45]).length ≤ 18) : num w = some v := by
  subst h1
  by_cases hn : v < 0
  · have e : itoa v = 45 :: decDigits v.natAbs := by unfold itoa; rw [if_pos hn]
    rw [e] at h2 ⊢
    rw [trim_minus] at h2
    unfold num
    rw [if_pos (show (45 :: decDigits v.natAbs).head? = some 45 from rfl), List.tail_cons, if_pos ⟨okD_iff.2 ⟨dec_ne _, h2, dec_all _⟩, dec_head _ (by omega)⟩, dec_val]
    congr 1
    omega
  · have e : itoa v = decDigits v.toNat := by unfold itoa; rw [if_neg hn]
    rw [e] at h2 ⊢
    have hh := (dig_head (dec_all v.toNat)).1
    rw [trim_other hh] at h2
    unfold num
    have hx : (decDigits v.toNat).head? ≠ some 48 ∨ (decDigits v.toNat).length = 1 := by
      by_cases h0 : (decDigits v.toNat).head? = some 48
      · exact .inr (dec_one h0)
      · exact .inl h0
    rw [if_neg hh, if_pos ⟨okD_iff.2 ⟨dec_ne _, h2, dec_all _⟩, hx⟩, dec_val]
    congr 1
    omega

theorem val_small {ds : Str} (h : ds.length ≤ 18) (hd : ds.all isDig = true) : valN ds < 10 ^ 18 := Nat.lt_of_lt_of_le (valN_lt _ ds rfl hd) (Nat.pow_le_pow_right (by omega) h)
theorem num_some {w : Str} {v : Int} (h : num w = some v) : itoa v = w ∧ (Lib.trimPrefix w [45]).length ≤ 18 ∧ parseIntB 64 w = .ok v := by
  unfold num at h
  by_cases hm : w.head? = some 45
  · rw [if_pos hm] at h
    split at h
    · rename_i hc
      obtain ⟨r, rfl⟩ : ∃ r, w = 45 :: r := by cases w with
        | nil => cases hm
        | cons b r => exact ⟨r, by have : b = 45 := by simpa using hm
                                   rw [this]⟩
      rw [List.tail_cons] at hc h
      obtain ⟨h1, h2, h3⟩ := okD_iff.1 hc.1
      have hp := head_pos r h1 h3 hc.2
      have hs := val_small h2 h3
      cases h
      refine ⟨?_, by rw [trim_minus]; exact h2, ?_⟩
      · unfold itoa
        rw [if_pos (by omega), Int.natAbs_neg, Int.natAbs_natCast, dec_of _ r rfl h1 h3 (.inl hc.2)]
      · unfold parseIntB parseUintB
        simp only [show (45 : UInt8).toNat = 45 from rfl, or_true, if_true]
        rw [if_neg h1, parse_digits r 0 h3 hs]
        have hs' : r.foldl dstep 0 < 10 ^ 18 := hs
        simp only [not_true_eq_false, false_and, if_false, true_and]
        rw [if_neg (by omega)]
        rfl
    · cases h
  · rw [if_neg hm] at h
    split at h
    · rename_i hc
      obtain ⟨h1, h2, h3⟩ := okD_iff.1 hc.1
      have hs := val_small h2 h3
      cases h
      refine ⟨?_, by rw [trim_other hm]; exact h2, ?_⟩
      · unfold itoa
        rw [if_neg (by omega), Int.toNat_natCast, dec_of _ w rfl h1 h3 hc.2]
      · obtain ⟨g1, g2⟩ := dig_head h3
        cases w with
        | nil => exact absurd rfl h1
        | cons b r =>
          have n1 : b.toNat ≠ 45 := fun e => g1 (by rw [List.head?_cons]; congr 1; exact UInt8.toNat_inj.1 e)
          have n2 : b.toNat ≠ 43 := fun e => g2 (by rw [List.head?_cons]; congr 1; exact UInt8.toNat_inj.1 e)
          unfold parseIntB parseUintB
          simp only []
          rw [if_neg (show ¬ (b.toNat = 43 ∨ b.toNat = 45) from fun h => h.elim n2 n1), if_neg (by simp), parse_digits (b :: r) 0 h3 hs]
          have hs' : (b :: r).foldl dstep 0 < 10 ^ 18 := hs
          simp only [n1, not_false_eq_true, true_and, false_and, if_false]
          rw [if_neg (by omega)]
          rfl
    · cases h

theorem rdDec_eq (w : Str) : rdDec w = num w := by
  cases hn : num w with
  | some v =>
    obtain ⟨h1, h2, h3⟩ := num_some hn
    unfold rdDec
    rw [if_neg (by omega), h3]
    simp [h1]
  | none =>
    unfold rdDec
    split
    · rfl
    · rename_i hl
      split
      · rename_i v hv
        split
        · rename_i hi
          rw [num_itoa hi (by omega)] at hn
          cases hn
        · rfl
      · rfl

theorem parse_range {w : Str} {v : Int} (h : parseIntB 64 w = .ok v) : -9223372036854775808 ≤ v ∧ v ≤ 9223372036854775807 := by
  unfold parseIntB at h
  cases w with
  | nil => cases h
  | cons c r =>
    simp only [] at h
    split at h
    · cases h
    · cases h
    · rename_i u hu
      split at h
      · cases h
      · split at h
        · cases h
        · rename_i h1 h2
          cases h
          by_cases hm : c.toNat = 45
          · simp [hm] at h2 ⊢
            omega
          · simp [hm] at h1 ⊢
            omega

/-! ### texts cut at a byte -/
def splitC (c : UInt8) : Str → List Str
  | [] => [[]]
  | b :: r => if b = c then [] :: splitC c r else (b :: (splitC c r).headD []) :: (splitC c r).tail
theorem splitC_ne (c : UInt8) (s : Str) : splitC c s ≠ [] := by
  cases s with
  | nil => simp [splitC]
  | cons b r => unfold splitC; split <;> simp
theorem splitK_eq (c : UInt8) : ∀ s : Str, Lib.splitK [c] 0 (Lib.count s [c]) s = splitC c s
  | [] => by rw [Lib.count_miss (by simp [Lib.index])]; rfl
  | b :: r => by
    have ih := splitK_eq c r
    by_cases h : b = c
    · subst h
      have hix : Lib.index (b :: r) [b] = 0 := by rw [Lib.index]; simp [List.isPrefixOf]
      rw [Lib.count_cons_eq, Nat.add_comm, Lib.splitK, hix]
      simp only [show ((0 : Int) == -1) = false from rfl, Bool.false_eq_true, if_false]
      simp [splitC, ih]
    · have hp : ([c] : List UInt8).isPrefixOf (b :: r) = false := by simp [List.isPrefixOf, Ne.symm h]
      have hix : Lib.index (b :: r) [c] = if Lib.index r [c] == -1 then -1 else Lib.index r [c] + 1 := by rw [Lib.index, hp]; simp
      rw [Lib.count_cons_ne b c r h]
      unfold splitC
      rw [if_neg h, ← ih]
      by_cases hm : Lib.index r [c] = -1
      · rw [Lib.count_miss hm]
        rfl
      · have hge := Lib.index_ge r [c]
        obtain ⟨j, hj⟩ : ∃ j : Nat, Lib.index r [c] = j := ⟨(Lib.index r [c]).toNat, by omega⟩
        have hix' : Lib.index (b :: r) [c] = ((j + 1 : Nat) : Int) := by rw [hix, if_neg (fun e => hm (beq_iff_eq.1 e)), hj]; omega
        rw [Lib.count_hit (by simp) hj, Nat.add_comm, Lib.splitK, Lib.splitK, hix', hj]
        have e1 : (((j + 1 : Nat) : Int) == -1) = false := beq_false_of_ne (by omega)
        have e2 : ((j : Int) == -1) = false := beq_false_of_ne (by omega)
        rw [e1, e2]
        simp [Nat.add_assoc]

theorem join_splitC (c : UInt8) : ∀ s : Str, Lib.join (splitC c s) [c] = s
  | [] => Lib.join_one _ _
  | b :: r => by
    have ih := join_splitC c r
    unfold splitC
    cases hs : splitC c r with
    | nil => exact absurd hs (splitC_ne c r)
    | cons x t =>
      rw [hs, Lib.join_cons] at ih
      split
      · rename_i h
        subst h
        rw [Lib.join_cons]
        simp only [Lib.joinTail, List.map_cons, List.flatten_cons]
        have : (t.map ([b] ++ ·)).flatten = Lib.joinTail [b] t := rfl
        rw [this, List.nil_append, List.append_assoc, ih]
        rfl
      · rw [Lib.join_cons]
        simp only [List.headD_cons, List.tail_cons, List.cons_append, ih]
theorem splitC_len (c : UInt8) : ∀ s : Str, (splitC c s).length ≤ s.length + 1
  | [] => Nat.le_refl _
  | b :: r => by
    have ih := splitC_len c r
    have h1 := List.length_pos_iff.2 (splitC_ne c r)
    unfold splitC
    split
    · simp; omega
    · simp; omega
theorem splitC_mem (c : UInt8) : ∀ (s w : Str), w ∈ splitC c s → w.length ≤ s.length
  | [], w, h => by simp [splitC] at h; subst h; simp
  | b :: r, w, h => by
    unfold splitC at h
    have ih := splitC_mem c r
    split at h
    · rcases List.mem_cons.1 h with rfl | h
      · simp
      · have := ih w h; simp; omega
    · rcases List.mem_cons.1 h with rfl | h
      · cases hs : splitC c r with
        | nil => exact absurd hs (splitC_ne c r)
        | cons x t =>
          have := ih x (by rw [hs]; simp)
          simpa using this
      · have := ih w (List.mem_of_mem_tail h)
        simp; omega

/-- What stands ahead of the first such byte, and behind it. -/
def pre (c : UInt8) (s : Str) : Str := s.takeWhile (· != c)
def suf (c : UInt8) (s : Str) : Str := s.drop ((pre c s).length + 1)
theorem pre_cons (c b : UInt8) (r : Str) : pre c (b :: r) = if b = c then [] else b :: pre c r := by
  unfold pre
  by_cases h : b = c
  · subst h; simp
  · rw [List.takeWhile_cons_of_pos (by simpa using h), if_neg h]
theorem pre_len (c : UInt8) : ∀ s : Str, (pre c s).length ≤ s.length
  | [] => Nat.le_refl _
  | b :: r => by
    have := pre_len c r
    rw [pre_cons]
    split <;> simp; exact this
theorem pre_full (c : UInt8) : ∀ s : Str, (pre c s).length = s.length ↔ c ∉ s
  | [] => by simp [pre]
  | b :: r => by
    have ih := pre_full c r
    rw [pre_cons]
    by_cases h : b = c
    · subst h; simp
    · rw [if_neg h]
      simp only [List.length_cons, Nat.add_right_cancel_iff, ih, List.mem_cons, not_or]
      exact ⟨fun e => ⟨Ne.symm h, e⟩, fun e => e.2⟩
theorem pre_take (c : UInt8) : ∀ s : Str, s.take (pre c s).length = pre c s
  | [] => rfl
  | b :: r => by
    rw [pre_cons]
    split
    · rfl
    · rw [List.length_cons, List.take_succ_cons, pre_take c r]
theorem pre_all {c : UInt8} {s : Str} (h : c ∉ s) : pre c s = s := by
  have := pre_take c s
  rw [(pre_full c s).2 h, List.take_length] at this
  exact this.symm
theorem pre_suf {c : UInt8} : ∀ {s : Str}, c ∈ s → s = pre c s ++ c :: suf c s
  | b :: r, h => by
    unfold suf
    rw [pre_cons]
    by_cases hb : b = c
    · subst hb; simp
    · rw [if_neg hb]
      have hr : c ∈ r := by
        rcases List.mem_cons.1 h with e | e
        · exact absurd e.symm hb
        · exact e
      have ih := pre_suf hr
      unfold suf at ih
      rw [List.length_cons, List.drop_succ_cons, List.cons_append, ← ih]
theorem index_one (c : UInt8) : ∀ s : Str, Lib.index s [c] = if c ∈ s then ((pre c s).length : Int) else -1
  | [] => by simp [Lib.index]
  | b :: r => by
    by_cases h : b = c
    · subst h
      rw [Lib.index, pre_cons]
      simp [List.isPrefixOf]
    · have hp : ([c] : List UInt8).isPrefixOf (b :: r) = false := by simp [List.isPrefixOf, Ne.symm h]
      have ih := index_one c r
      rw [Lib.index, hp, ih, pre_cons, if_neg h]
      by_cases hc : c ∈ r
      · have e1 : (((pre c r).length : Int) == -1) = false := beq_false_of_ne (by omega)
        simp [hc, e1]
      · simp [hc, Ne.symm h]
theorem cut_one (c : UInt8) (s : Str) : Lib.cut s [c] = if c ∈ s then (pre c s, suf c s, true) else (s, [], false) := by
  unfold Lib.cut
  rw [index_one]
  by_cases h : c ∈ s
  · simp only [h, if_true]
    rw [if_pos (by omega), Int.toNat_natCast, pre_take]
    rfl
  · simp [h]
theorem suf_one (c : UInt8) (s : Str) : Lib.trimSuffix s [c] = if s.getLast? = some c then s.dropLast else s := by
  unfold Lib.trimSuffix Lib.hasSuffix
  by_cases h : s.getLast? = some c
  · have : ([c] : Str).isSuffixOf s = true := by
      rw [List.isSuffixOf_iff_suffix]
      rcases snoc_or s with rfl | ⟨m, x, rfl⟩
      · cases h
      · have : x = c := by simpa using h
        subst this
        exact List.suffix_append _ _
    rw [if_pos this, if_pos h, List.dropLast_eq_take]
    rfl
  · have : ¬ ([c] : Str).isSuffixOf s = true := by
      rw [List.isSuffixOf_iff_suffix]
      rintro ⟨m, rfl⟩
      exact h (by simp)
    rw [if_neg this, if_neg h]
end Go.Gx
