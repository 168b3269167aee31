/-
  The plain laws of a statement, joined into one text.
-/
import Derived.Test.YtalcdoidimmdlaaGreatDoorF0
import Derived.Test.YtalcdoidimmdlaaGreatDoorF1
import Derived.Test.YtalcdoidimmdlaaGreatDoorF2
import Derived.Test.YtalcdoidimmdlaaGreatDoorF3
import Derived.Test.YtalcdoidimmdlaaGreatDoorF7
import Derived.Test.YtalcdoidimmdlaaGreatDoorFS
import Derived.Test.YtalcdoidimmdlaaGreatDoorGxP
import Derived.Test.YtalcdoidimmdlaaGreatDoorGxU
import Derived.Test.YtalcdoidimmdlaaGreatDoorGxZ
import Derived.Test.YtalcdoidimmdlaaGreatDoorLBinderOf
namespace Go.Proofs.YtalcdoidimmdlaaGreatDoor
open Go.Gx
theorem l00In_eq {n : Nat} {a b c : Int} : spec_l00In_m n a b c = some (decide (b ≤ a) && decide (a ≤ c)) := by
  unfold spec_l00In_m
  by_cases h : b ≤ a <;> simp [h]
theorem within_eq {n : Nat} {a b c : Int} : impl_within_m n a b c = some (decide (b ≤ a) && decide (a ≤ c)) := by
  unfold impl_within_m
  by_cases h : b ≤ a <;> simp [h]
theorem index_eq {n : Nat} {a b : Int} : impl_index_m n a b = some (decide (0 ≤ a) && decide (a ≤ W (b - 1))) := by
  unfold impl_index_m
  simp [within_eq]

/-! ### changes of the sign -/
/-! ### letters and names -/
def small (b : UInt8) : Bool := decide ((97 : Int) ≤ (b.toNat : Int)) && decide ((b.toNat : Int) ≤ 122)
def dg (b : UInt8) : Bool := decide ((48 : Int) ≤ (b.toNat : Int)) && decide ((b.toNat : Int) ≤ 57)
theorem dg_eq (b : UInt8) : dg b = isDig b := by
  unfold dg isDig
  rw [show decide ((48 : Int) ≤ (b.toNat : Int)) = decide (48 ≤ b.toNat) from decide_eq_decide.2 (by omega), show decide ((b.toNat : Int) ≤ 57) = decide (b.toNat ≤ 57) from decide_eq_decide.2 (by omega)]
theorem small_m {m : Nat} {b : UInt8} : spec_l01Small_m m (b.toNat : Int) = some (small b) := by unfold spec_l01Small_m; rw [and_some]; rfl
theorem dg_m {m : Nat} {b : UInt8} : spec_l01Digit_m m (b.toNat : Int) = some (dg b) := by unfold spec_l01Digit_m; rw [and_some]; rfl
theorem idg_m {m : Nat} {b : UInt8} : impl_isDigit_m m (b.toNat : Int) = some (dg b) := by unfold impl_isDigit_m; rw [and_some]; rfl

def okN (s : Str) (k : Nat) : Bool := match s[k]? with
  | none => true
  | some b => !(!(small b) && (((k : Int) == 0) || !(dg b)))
def okS (s : Str) (k : Nat) : Bool := match s[k]? with
  | none => true
  | some b => !(!(small b) && !(dg b))
def nameP (s : Str) : Bool := decide (1 ≤ s.length) && decide (s.length ≤ 10) && decide (∀ k, k < s.length → okN s k = true)
def actP (s : Str) : Bool := nameP s && (s != [116, 97, 117])

theorem name_impl {s : Str} (hl : s.length ≤ maxLen) : Ev (fun m => impl_IsName_m m s) (nameP s) := by
  have hm := maxLen_le
  unfold impl_IsName_m
  refine Ev.bind (EvI.all s.length (okN s) false (fun k hk hok => Ev.const' fun m => ?_) (fun k hk hok => Ev.const' fun m => ?_) (Ev.ite_f (by simp) (Ev.pure _))).ev (Ev.const ?_)
  · obtain ⟨b, hb⟩ := get_lt hk
    have hk' : decide ((k : Int) < (s.length : Int)) = true := by simpa using hk
    simp only [okN, hb] at hok
    have e : (!(small b) && (((k : Int) == 0) || !(dg b))) = false := by rwa [Bool.not_eq_true'] at hok
    unfold small at e
    simp only [hk', if_true, idx_at hb, Option.bind_some, and_some, idg_m, or_some, e, W_succ hk (by omega)]
    rfl
  · obtain ⟨b, hb⟩ := get_lt hk
    have hk' : decide ((k : Int) < (s.length : Int)) = true := by simpa using hk
    simp only [okN, hb] at hok
    have e : (!(small b) && (((k : Int) == 0) || !(dg b))) = true := by rwa [Bool.not_eq_false'] at hok
    unfold small at e
    simp only [hk', if_true, idx_at hb, Option.bind_some, and_some, idg_m, or_some, e]
  · unfold nameP
    rw [show decide (1 ≤ s.length) = decide ((1 : Int) ≤ (s.length : Int)) from decide_eq_decide.2 (by omega), show decide (s.length ≤ 10) = decide ((s.length : Int) ≤ 10) from decide_eq_decide.2 (by omega)]
    by_cases h : ∀ k, k < s.length → okN s k = true
    · rw [if_pos h, ctl_l, decide_eq_true h, Bool.and_true, and_some]; rfl
    · rw [if_neg h, ctl_r, decide_eq_false h, Bool.and_false]

theorem name_all {s : Str} {b : UInt8} {r : Str} (e : s = b :: r) : (∀ k, k < s.length → okN s k = true) ↔ small b = true ∧ ∀ k, k < s.length → okS s k = true := by
  subst e
  constructor
  · intro h
    have h0 := h 0 (by simp)
    simp [okN] at h0
    refine ⟨h0, fun k hk => ?_⟩
    have h1 := h k hk
    obtain ⟨c, hc⟩ := get_lt hk
    simp only [okN, okS, hc] at h1 ⊢
    cases hs : small c <;> cases hd : dg c <;> simp [hs, hd] at h1 ⊢
  · rintro ⟨h0, h⟩ k hk
    have h1 := h k hk
    obtain ⟨c, hc⟩ := get_lt hk
    simp only [okN, okS, hc] at h1 ⊢
    cases k with
    | zero => have : b = c := by simpa using hc
              subst this; simp [h0]
    | succ j =>
      have : (((j + 1 : Nat) : Int) == 0) = false := beq_false_of_ne (by omega)
      rw [this]
      simpa using h1

theorem name_spec {s : Str} (_hl : s.length ≤ maxLen) : Ev (fun m => spec_l01Name_m m s) (nameP s) := by
  have hm := maxLen_le
  unfold spec_l01Name_m
  cases hs : s with
  | nil => exact (Ev.const' fun m => rfl : Ev (fun m => _) false)
  | cons b r =>
    rw [← hs]
    have h1 : (s == ([] : Str)) = false := by rw [hs]; rfl
    have hb : s[0]? = some b := by rw [hs]; rfl
    simp only [h1, or_some, Option.bind_some, Bool.false_or]
    by_cases h2 : 10 < s.length
    · have h2' : decide ((10 : Int) < (s.length : Int)) = true := decide_eq_true (by omega)
      simp only [h2', if_true, Option.bind_some]
      refine (Ev.pure _).eq ?_
      unfold nameP
      rw [decide_eq_false (show ¬ s.length ≤ 10 by omega)]
      simp
    · have h2' : decide ((10 : Int) < (s.length : Int)) = false := decide_eq_false (by omega)
      have hi : idx s (0 : Int) = some b := idx_at (k := 0) hb
      simp only [h2', Bool.false_eq_true, if_false, hi, Option.bind_some, small_m]
      have hN := name_all hs
      have hlen : 1 ≤ s.length := by rw [hs]; simp
      cases h3 : small b with
      | false =>
        refine (Ev.ite_t (by rfl) (Ev.pure _)).eq ?_
        unfold nameP
        have : ¬ ∀ k, k < s.length → okN s k = true := fun h => by have := (hN.1 h).1; rw [h3] at this; cases this
        rw [decide_eq_false this, Bool.and_false]
      | true =>
        refine Ev.ite_f (by simp) ?_
        refine (Ev.all s.length (okS s) false true (fun k hk hok => Ev.const' fun m => ?_) (fun k hk hok => Ev.const' fun m => ?_) (Ev.ite_f (by simp) (Ev.pure _))).eq ?_
        · obtain ⟨c, hc⟩ := get_lt hk
          have hk' : decide ((k : Int) < (s.length : Int)) = true := by simpa using hk
          simp only [okS, hc] at hok
          have e : (!(small c) && !(dg c)) = false := by rwa [Bool.not_eq_true'] at hok
          simp only [hk', if_true, idx_at hc, Option.bind_some, dg_m, and_some, e, W_succ hk (by omega)]
          rfl
        · obtain ⟨c, hc⟩ := get_lt hk
          have hk' : decide ((k : Int) < (s.length : Int)) = true := by simpa using hk
          simp only [okS, hc] at hok
          have e : (!(small c) && !(dg c)) = true := by rwa [Bool.not_eq_false'] at hok
          simp only [hk', if_true, idx_at hc, Option.bind_some, dg_m, and_some, e]
        · unfold nameP
          rw [decide_eq_true hlen, decide_eq_true (show s.length ≤ 10 by omega)]
          by_cases h : ∀ k, k < s.length → okS s k = true
          · rw [if_pos h, decide_eq_true (hN.2 ⟨h3, h⟩)]; rfl
          · rw [if_neg h, decide_eq_false (fun h' => h (hN.1 h').2)]; rfl

theorem act_impl {s : Str} (hl : s.length ≤ maxLen) : Ev (fun m => impl_IsAction_m m s) (actP s) := by
  unfold impl_IsAction_m
  exact Ev.bind (name_impl hl) (Ev.const (by rw [and_some]; rfl))
theorem act_spec {s : Str} (hl : s.length ≤ maxLen) : Ev (fun m => spec_l01Action_m m s) (actP s) := by
  unfold spec_l01Action_m
  exact Ev.bind (name_spec hl) (Ev.const (by rw [and_some]; rfl))

/-! ### numbers -/
def numV (w : Str) : Int := (num w).getD 0
def numB (w : Str) : Bool := (num w).isSome
theorem dec_m {m : Nat} {n : Int} (h1 : -9223372036854775808 ≤ n) (h2 : n ≤ 9223372036854775807) : impl_Decimal_m m n = some (Lib.itoa n) := by
  unfold impl_Decimal_m strconv_FormatInt_m
  rw [if_pos ⟨rfl, h1, h2⟩]
  rfl
theorem read_dec {m : Nat} {w : Str} (hl : w.length ≤ 281474976710656) : impl_ReadDecimal_m m w = some (numV w, numB w) := by
  unfold impl_ReadDecimal_m strings_TrimPrefix_m
  rw [if_pos trivial]
  simp only [Option.bind_some]
  unfold numV numB
  rw [← rdDec_eq]
  unfold rdDec
  by_cases h : 18 < (Lib.trimPrefix w [45]).length
  · rw [if_pos h, if_pos (decide_eq_true (by omega))]; rfl
  · rw [if_neg h, if_neg (by rw [decide_eq_false (by omega)]; simp)]
    unfold strconv_ParseInt_m
    rw [if_pos ⟨rfl, rfl, hl⟩]
    cases hp : Lib.parseIntB 64 w with
    | ok v =>
      obtain ⟨h1, h2⟩ := parse_range hp
      simp only [Option.bind_some, dec_m h1 h2, Bool.false_eq_true, if_false]
      by_cases hi : Lib.itoa v = w
      · simp [hi]
      · have : (Lib.itoa v != w) = true := by simpa using hi
        simp [hi, this]
    | range => rfl
    | _ => rfl

theorem drop_take_succ {s : Str} {k i : Nat} {b : UInt8} (h : s[k]? = some b) (hi : i ≤ k) : (s.take (k + 1)).drop i = (s.take k).drop i ++ [b] := by
  rw [List.take_add_one, h, List.drop_append_of_le_length (by
    have : k < s.length := by
      rcases Nat.lt_or_ge k s.length with h' | h'
      · exact h'
      · rw [List.getElem?_eq_none h'] at h; cases h
    simp; omega)]
  rfl

theorem digits_loop {w : Str} (hl : w.length ≤ maxLen) {i : Nat} (hi : i ≤ w.length) (h18 : w.length - i ≤ 18) :
    Ev (fun m => iter (fun (s : (Int) × (Int)) => (match s with | (x59, x60) => (if (decide (x60 < (w.length : Int))) = true then (idx w x60).bind fun b88 => (spec_l01Digit_m m (b88.toNat : Int)).bind fun x92 => (if (!x92) = true then some (.inr (.inr ((0 : Int), false))) else (idx w x60).bind fun b96 => some (.inl ((W ((W ((10 : Int) * x59)) + (W (IntKind.u8.wrap ((b96.toNat : Int) - (48 : Int)))))), (W (x60 + (1 : Int)))))) else some (.inr (.inl (x59)))) : Option (((Int) × (Int)) ⊕ ((Int) ⊕ ((Int × Bool)))))) m ((0 : Int), (i : Int)))
      (if (w.drop i).all isDig = true then .inl (valN (w.drop i) : Int) else .inr ((0 : Int), false)) := by
  have hm := maxLen_le
  refine Exists.elim (EvI.count (step := fun m (s : (Int) × (Int)) => (match s with | (x59, x60) => (if (decide (x60 < (w.length : Int))) = true then (idx w x60).bind fun b88 => (spec_l01Digit_m m (b88.toNat : Int)).bind fun x92 => (if (!x92) = true then some (.inr (.inr ((0 : Int), false))) else (idx w x60).bind fun b96 => some (.inl ((W ((W ((10 : Int) * x59)) + (W (IntKind.u8.wrap ((b96.toNat : Int) - (48 : Int)))))), (W (x60 + (1 : Int)))))) else some (.inr (.inl (x59)))) : Option (((Int) × (Int)) ⊕ ((Int) ⊕ ((Int × Bool))))))
    w.length (fun k (_ : Unit) => ((valN ((w.take k).drop i) : Int), (k : Int))) (fun k _ => i ≤ k ∧ ((w.take k).drop i).all isDig = true)
    (fun r => r = (if (w.drop i).all isDig = true then .inl (valN (w.drop i) : Int) else .inr ((0 : Int), false))) ?hs ?hn hi (t := ()) ⟨Nat.le_refl _, by rw [List.drop_take_self]; rfl⟩) (fun res ⟨h1, h2⟩ => by
    subst h2
    rw [List.drop_take_self] at h1
    exact h1.ev)
  · rintro k t hk ⟨hik, hI⟩
    obtain ⟨b, hb⟩ := get_lt hk
    have hk' : decide ((k : Int) < (w.length : Int)) = true := by simpa using hk
    cases hd : isDig b with
    | true =>
      refine .inl ⟨(), Ev.const' fun m => ?_, by omega, ?_⟩
      · simp only [hk', if_true, idx_at hb, Option.bind_some, dg_m, dg_eq, hd, Bool.not_true, Bool.false_eq_true, if_false, W_succ hk (by omega)]
        have hb2 := dig_le hd
        have hv : valN ((w.take k).drop i) < 10 ^ 18 := val_small (by simp; omega) hI
        have hv2 : valN ((w.take (k + 1)).drop i) < 10 ^ 18 := val_small (by simp; omega) (by rw [drop_take_succ hb hik, List.all_append, hI]; simp [hd])
        rw [drop_take_succ hb hik, valN_snoc] at hv2 ⊢
        have e1 : IntKind.u8.wrap ((b.toNat : Int) - 48) = ((b.toNat - 48 : Nat) : Int) := by
          unfold IntKind.wrap
          simp [IntKind.signed, IntKind.bits]
          omega
        rw [e1, W_of (n := ((b.toNat - 48 : Nat) : Int)) (by omega) (by omega), W_of (n := 10 * (valN ((w.take k).drop i) : Int)) (by omega) (by omega), W_of (by omega) (by omega)]
        congr 3
      · rw [drop_take_succ hb hik, List.all_append, hI]; simp [hd]
    | false =>
      refine .inr ⟨.inr ((0 : Int), false), Ev.const' fun m => ?_, ?_⟩
      · simp only [hk', if_true, idx_at hb, Option.bind_some, dg_m, dg_eq, hd, Bool.not_false]
      · rw [if_neg]
        intro h
        rw [List.all_eq_true] at h
        have : b ∈ w.drop i := by
          have : (w.drop i)[k - i]? = some b := by rw [List.getElem?_drop, show i + (k - i) = k by omega]; exact hb
          exact List.mem_of_getElem? this
        rw [h b this] at hd
        cases hd
  · rintro t ⟨hik, hI⟩
    refine ⟨.inl (valN (w.drop i) : Int), Ev.const' fun m => ?_, ?_⟩
    · rw [List.take_length] at *
      simp
    · rw [List.take_length] at hI
      rw [if_pos hI]


def numRes (w : Str) (i : Nat) : Int × Bool :=
  if w.length = i ∨ 18 < w.length - i ∨ ((w.drop i).head? = some 48 ∧ 1 < w.length) then (0, false)
  else if (w.drop i).all isDig = true then (if i = 1 then -(valN (w.drop i) : Int) else (valN (w.drop i) : Int), true) else (0, false)

theorem num_body {w : Str} (hl : w.length ≤ maxLen) {i : Nat} {x : Int} (hx : x = (i : Int)) (hi : i ≤ w.length) :
    Ev (fun fuel => (if ((w.length : Int) == x) = true then some true else some (decide ((18 : Int) < (W ((w.length : Int) - x))))).bind fun t34 => (if t34 = true then some true else (idx w x).bind fun b40 => (if ((b40.toNat : Int) == (48 : Int)) = true then some (decide ((1 : Int) < (w.length : Int))) else some false).bind fun t42 => some t42).bind fun t37 => (if t37 = true then some (((0 : Int), false)) else (iter (fun (s : (Int) × (Int)) => (match s with | (x59, x60) => (if (decide (x60 < (w.length : Int))) = true then (idx w x60).bind fun b88 => (spec_l01Digit_m fuel (b88.toNat : Int)).bind fun x92 => (if (!x92) = true then some (.inr (.inr ((0 : Int), false))) else (idx w x60).bind fun b96 => some (.inl ((W ((W ((10 : Int) * x59)) + (W (IntKind.u8.wrap ((b96.toNat : Int) - (48 : Int)))))), (W (x60 + (1 : Int)))))) else some (.inr (.inl (x59)))) : Option (((Int) × (Int)) ⊕ ((Int) ⊕ ((Int × Bool)))))) fuel ((0 : Int), x)).bind fun res75 => ctl (β := Int) (ρ := (Int × Bool)) (τ := (Int × Bool)) res75 (fun (x74) => join (κ := Int → Option (Int × Bool)) (fun (x80 : Int) => some ((x80, true))) (fun K81 => (if (x == (1 : Int)) = true then (K81 (W (0 - x74))) else (K81 x74)))) (fun q => some (q)))) (numRes w i) := by
  have hm := maxLen_le
  subst hx
  unfold numRes
  by_cases h1 : w.length = i
  · have e1 : ((w.length : Int) == (i : Int)) = true := by rw [h1]; simp
    exact Ev.eq (r := ((0 : Int), false)) (Ev.const' fun m => by simp only [e1, if_true, Option.bind_some]) (if_pos (.inl h1)).symm
  · have e1 : ((w.length : Int) == (i : Int)) = false := beq_false_of_ne (by omega)
    have w1 : W ((w.length : Int) - (i : Int)) = (w.length : Int) - (i : Int) := W_of (by omega) (by omega)
    simp only [e1, Bool.false_eq_true, if_false, Option.bind_some, w1]
    by_cases h2 : 18 < w.length - i
    · have e2 : decide ((18 : Int) < (w.length : Int) - (i : Int)) = true := decide_eq_true (by omega)
      exact Ev.eq (r := ((0 : Int), false)) (Ev.const' fun m => by simp only [e2, if_true, Option.bind_some]) (if_pos (.inr (.inl h2))).symm
    · have e2 : decide ((18 : Int) < (w.length : Int) - (i : Int)) = false := decide_eq_false (by omega)
      obtain ⟨b, hb⟩ := get_lt (xs := w) (k := i) (by omega)
      have hh : (w.drop i).head? = some b := by rw [List.head?_drop]; exact hb
      simp only [e2, Bool.false_eq_true, if_false, idx_at hb, Option.bind_some, and_some]
      by_cases h3 : b = 48 ∧ 1 < w.length
      · have e3 : ((((b.toNat : Int) == 48) && decide ((1 : Int) < (w.length : Int)))) = true := by
          rw [h3.1, decide_eq_true (by omega : (1 : Int) < (w.length : Int))]; rfl
        exact Ev.eq (r := ((0 : Int), false)) (Ev.ite_t e3 (Ev.pure _)) (if_pos (.inr (.inr ⟨by rw [hh, h3.1], h3.2⟩))).symm
      · have e3 : ¬ ((((b.toNat : Int) == 48) && decide ((1 : Int) < (w.length : Int)))) = true := by
          intro h
          rw [Bool.and_eq_true] at h
          refine h3 ⟨?_, by have := of_decide_eq_true h.2; omega⟩
          have := beq_iff_eq.1 h.1
          exact UInt8.toNat_inj.1 (show b.toNat = 48 by omega)
        refine Ev.eq ?_ (if_neg (by
          rintro (h | h | ⟨h, h'⟩)
          · exact h1 h
          · exact h2 h
          · rw [hh] at h; exact h3 ⟨by simpa using h, h'⟩)).symm
        refine Ev.ite_f e3 (Ev.bind (digits_loop hl hi (by omega)) (Ev.const ?_))
        by_cases hd : (w.drop i).all isDig = true
        · have hv := val_small (ds := w.drop i) (by simp; omega) hd
          rw [if_pos hd, if_pos hd, ctl_l]
          show (if ((i : Int) == (1 : Int)) = true then some (W (0 - (valN (w.drop i) : Int)), true) else some ((valN (w.drop i) : Int), true)) = _
          by_cases hi1 : i = 1
          · subst hi1
            rw [if_pos (by rfl), if_pos rfl, W_of (by omega) (by omega)]
            congr 2
            omega
          · rw [if_neg (by intro h; have := beq_iff_eq.1 h; omega), if_neg hi1]
        · rw [if_neg hd, if_neg hd, ctl_r]

theorem num_minus (r : Str) : num (45 :: r) = if okD r = true ∧ r.head? ≠ some 48 then some (-(valN r : Int)) else none := by
  unfold num
  rw [if_pos (show (45 :: r : Str).head? = some 45 from rfl)]
  rfl
theorem numRes_neg (r : Str) : numRes (45 :: r) 1 = (numV (45 :: r), numB (45 :: r)) := by
  unfold numRes numV numB
  rw [num_minus]
  simp only [List.drop_succ_cons, List.drop_zero, List.length_cons, Nat.add_sub_cancel, if_true]
  by_cases h : okD r = true ∧ r.head? ≠ some 48
  · obtain ⟨h1, h2, h3⟩ := okD_iff.1 h.1
    have hp := List.length_pos_iff.2 h1
    rw [if_pos h, if_neg (by rintro (g | g | ⟨g, _⟩) <;> first | omega | exact h.2 g), if_pos h3]
    rfl
  · rw [if_neg h]
    split
    · rfl
    · rename_i hc
      split
      · rename_i hd
        exfalso
        apply h
        refine ⟨okD_iff.2 ⟨fun e => hc (.inl (by rw [e]; rfl)), by omega, hd⟩, fun e => hc (.inr (.inr ⟨e, ?_⟩))⟩
        cases r with
        | nil => cases e
        | cons _ _ => simp
      · rfl
theorem numRes_pos {w : Str} (hw : w.head? ≠ some 45) : numRes w 0 = (numV w, numB w) := by
  unfold numRes numV numB num
  rw [if_neg hw]
  simp only [List.drop_zero, Nat.sub_zero, Nat.zero_ne_one, if_false]
  by_cases h : okD w = true ∧ (w.head? ≠ some 48 ∨ w.length = 1)
  · obtain ⟨h1, h2, h3⟩ := okD_iff.1 h.1
    have hp := List.length_pos_iff.2 h1
    rw [if_pos h, if_neg (by rintro (g | g | ⟨g, g'⟩) <;> first | omega | exact h.2.elim (fun x => x g) (fun x => by omega)), if_pos h3]
    rfl
  · rw [if_neg h]
    split
    · rfl
    · rename_i hc
      split
      · rename_i hd
        exfalso
        apply h
        have hp : 0 < w.length := by
          rcases Nat.eq_zero_or_pos w.length with g | g
          · exact absurd (.inl g) hc
          · exact g
        refine ⟨okD_iff.2 ⟨fun e => hc (.inl (by rw [e]; rfl)), by omega, hd⟩, ?_⟩
        by_cases g : w.head? = some 48
        · right
          rcases Nat.lt_or_ge 1 w.length with g' | g'
          · exact absurd (.inr (.inr ⟨g, g'⟩)) hc
          · omega
        · exact .inl g
      · rfl

theorem num_spec {w : Str} (hl : w.length ≤ maxLen) : Ev (fun m => spec_l01Number_m m w) (numV w, numB w) := by
  have hm := maxLen_le
  unfold spec_l01Number_m
  refine Ev.join ?_
  cases hw : w with
  | nil => 
    rw [← hw]
    have e : decide ((0 : Int) < (w.length : Int)) = false := by rw [hw]; rfl
    simp only [e, Bool.false_eq_true, if_false, Option.bind_some]
    exact (num_body hl (i := 0) (x := 0) rfl (Nat.zero_le _)).eq (numRes_pos (by rw [hw]; simp))
  | cons b r =>
    rw [← hw]
    have e : decide ((0 : Int) < (w.length : Int)) = true := by rw [hw]; simp
    have hb : idx w (0 : Int) = some b := idx_at (k := 0) (by rw [hw]; rfl)
    refine Ev.bindc (a := ((b.toNat : Int) == (45 : Int))) (by simp only [e, if_true, hb, Option.bind_some]) ?_
    by_cases h : b = 45
    · subst h
      refine Ev.ite_t (by rfl) ?_
      exact (num_body hl (i := 1) (x := 1) rfl (by rw [hw]; simp)).eq (by rw [hw]; exact numRes_neg r)
    · refine Ev.ite_f (fun g => h ?_) ?_
      · have := beq_iff_eq.1 g
        exact UInt8.toNat_inj.1 (show b.toNat = 45 by omega)
      · exact (num_body hl (i := 0) (x := 0) rfl (Nat.zero_le _)).eq (numRes_pos (by rw [hw]; simpa using h))
theorem mx : 4294967296 ≤ maxLen ∧ maxLen ≤ 9223372036854775807 := by unfold maxLen; omega

/-! ### the library's functions -/
theorem split_lib {m : Nat} {s : Str} (hl : s.length < 4294967281) : strings_Split_m m s [44] = some (splitC 44 s) := by
  unfold strings_Split_m
  have hc : Lib.countB ⟨s.toArray⟩ ⟨([44] : Str).toArray⟩ = Lib.count s [44] := rfl
  have h3 := Lib.splitB_all ⟨([44] : Str).toArray⟩ (by decide) 0 _ ⟨s.toArray⟩ rfl
  have h4 := Lib.countB_le ⟨([44] : Str).toArray⟩ (by decide) _ ⟨s.toArray⟩ (Nat.le_refl _)
  have h5 : (⟨s.toArray⟩ : ByteArray).size = s.length := size_sv s
  have h6 := mx
  rw [if_pos ⟨hl, by decide, h3, by omega⟩, Lib.splitB_data]
  exact congrArg some (splitK_eq 44 s)
theorem cut_lib {m : Nat} {s : Str} (hl : s.length < 4294967281) : strings_Cut_m m s [40] = some (if (40 : UInt8) ∈ s then (pre 40 s, suf 40 s, true) else (s, [], false)) := by
  unfold strings_Cut_m
  rw [if_pos hl, cut_one]
theorem trimS_lib {m : Nat} {s : Str} (hl : s.length < 4294967281) : strings_TrimSuffix_m m s [41] = some (if s.getLast? = some 41 then s.dropLast else s) := by
  unfold strings_TrimSuffix_m
  rw [if_pos (by omega), suf_one]

/-! ### splitting -/
theorem splitC_snoc_eq (c : UInt8) : ∀ s : Str, splitC c (s ++ [c]) = splitC c s ++ [[]]
  | [] => by simp [splitC]
  | a :: r => by
    have ih := splitC_snoc_eq c r
    rw [List.cons_append]
    unfold splitC
    rw [ih]
    split
    · rfl
    · cases hr : splitC c r with
      | nil => exact absurd hr (splitC_ne c r)
      | cons x t => rfl
theorem splitC_snoc_ne {c b : UInt8} (hb : b ≠ c) : ∀ (s : Str) (o : List Str) (l : Str), splitC c s = o ++ [l] → splitC c (s ++ [b]) = o ++ [l ++ [b]]
  | [], o, l, h => by
    have h' : [([] : Str)] = o ++ [l] := h
    have : o = [] := by
      cases o with
      | nil => rfl
      | cons _ t => simp at h'
    subst this
    have : l = [] := by simpa using h'.symm
    subst this
    simp [splitC, hb]
  | a :: r, o, l, h => by
    rw [List.cons_append]
    unfold splitC at h ⊢
    by_cases ha : a = c
    · rw [if_pos ha] at h ⊢
      cases o with
      | nil =>
        exfalso
        have : splitC c r = [] := by simpa using (List.cons.inj h).2
        exact splitC_ne c r this
      | cons x o' =>
        rw [List.cons_append] at h ⊢
        obtain ⟨h1, h2⟩ := List.cons.inj h
        rw [← h1, splitC_snoc_ne hb r o' l h2]
    · rw [if_neg ha] at h ⊢
      rcases snoc_or (splitC c r) with hr | ⟨o', l', hr⟩
      · exact absurd hr (splitC_ne c r)
      · have ih := splitC_snoc_ne hb r o' l' hr
        rw [ih]
        rw [hr] at h
        cases o' with
        | nil =>
          simp only [List.nil_append, List.headD_cons, List.tail_cons] at h ⊢
          have : o = [] := by
            cases o with
            | nil => rfl
            | cons _ t => simp at h
          subst this
          have : l = a :: l' := by simpa using h.symm
          subst this
          rfl
        | cons x o'' =>
          simp only [List.cons_append, List.headD_cons, List.tail_cons] at h ⊢
          cases o with
          | nil => simp at h
          | cons y o3 =>
            rw [List.cons_append] at h ⊢
            obtain ⟨h1, h2⟩ := List.cons.inj h
            obtain ⟨h3, h4⟩ := List.append_inj' h2 rfl
            have : l' = l := by simpa using h4
            rw [h1, h3, this]

theorem split_spec {s : Str} (hl : s.length < 4294967281) : Ev (fun m => spec_l01Split_m m s 44) (splitC 44 s) := by
  have hm := mx
  unfold spec_l01Split_m
  refine Exists.elim (EvI.count (step := _) s.length (fun k (t : List Str × Nat) => (t.1, (t.2 : Int), (k : Int))) (fun k t => t.2 ≤ k ∧ splitC 44 (s.take k) = t.1 ++ [(s.take k).drop t.2])
    (fun r => ∃ (o : List Str) (f : Nat), r = .inl (o, (f : Int)) ∧ f ≤ s.length ∧ splitC 44 s = o ++ [s.drop f]) ?_ ?_ (k := 0) (t := ([], 0)) (Nat.zero_le _) ⟨Nat.le_refl _, rfl⟩)
    (fun res ⟨h1, o, f, h2, h3, h4⟩ => Ev.bind h1.ev (by
      subst h2
      have hlen : o.length ≤ s.length + 1 := by
        have := splitC_len 44 s
        rw [h4] at this
        simp at this
        omega
      rw [h4]
      have hs : sub s (f : Int) (s.length : Int) = some (s.drop f) := by rw [sub_ok h3 (Nat.le_refl _), List.take_length]
      exact Ev.bindc hs (Ev.bindc (app_ok (by simp; omega)) (Ev.pure _))))
  · rintro k ⟨o, f⟩ hk ⟨hf, hI⟩
    have hf : f ≤ k := hf
    have hI : splitC 44 (s.take k) = o ++ [(s.take k).drop f] := hI
    obtain ⟨b, hb⟩ := get_lt hk
    have hk' : decide ((k : Int) < (s.length : Int)) = true := by simpa using hk
    have htk : s.take (k + 1) = s.take k ++ [b] := by rw [List.take_add_one, hb]; rfl
    left
    by_cases h : b = 44
    · subst h
      have hlen : o.length ≤ s.length := by
        have := splitC_len 44 (s.take k)
        rw [hI] at this
        simp at this
        omega
      refine ⟨(o ++ [(s.take k).drop f], k + 1), Ev.ite_t hk' (Ev.join (Ev.bindc (idx_at hb) (Ev.ite_t (by rfl) (Ev.bindc (sub_ok hf (by omega)) (Ev.bindc (app_ok (by simp; omega)) (Ev.const ?_)))))), Nat.le_refl _, ?_⟩
      · rw [W_succ hk (by omega)]
      · show splitC 44 (s.take (k + 1)) = _
        rw [htk, splitC_snoc_eq, hI]
        congr 2
        rw [List.drop_eq_nil_of_le (by simp; omega)]
    · refine ⟨(o, f), Ev.ite_t hk' (Ev.join (Ev.bindc (idx_at hb) (Ev.ite_f ?_ (Ev.const ?_)))), by show f ≤ k + 1; omega, ?_⟩
      · intro g
        have := beq_iff_eq.1 g
        exact h (UInt8.toNat_inj.1 (show b.toNat = 44 by omega))
      · rw [W_succ hk (by omega)]
      · show splitC 44 (s.take (k + 1)) = o ++ [(s.take (k + 1)).drop f]
        rw [htk, splitC_snoc_ne h _ _ _ hI, List.drop_append_of_le_length (by simp; omega)]
  · rintro ⟨o, f⟩ ⟨hf, hI⟩
    refine ⟨_, Ev.ite_f (by simp) (Ev.pure _), o, f, rfl, hf, ?_⟩
    rw [List.take_length] at hI
    exact hI

/-! ### lists of numbers -/
theorem fill_iter {α β ρ : Type} {to' : Nat → α → Option β} {f : α → β} {a : List α} {z : β} (hto : ∀ x ∈ a, Ev (fun n => to' n x) (f x)) (hl : a.length ≤ 1048576) :
    EvI (fun n (s : (List β) × (Int)) => (match s with | (xs35, x36) => (if (decide (x36 < (a.length : Int))) = true then (idx a x36).bind fun x75 => (to' n x75).bind fun x92 => (idx xs35 x36).bind fun _ => some (.inl ((xs35.set x36.toNat x92), (W (x36 + (1 : Int))))) else some (.inr (.inl (xs35)))) : Option (((List β) × (Int)) ⊕ (((List β)) ⊕ (ρ))))) (List.replicate a.length z, (0 : Int)) (.inl (a.map f)) := by
  refine EvI.upto a.length (fun k (t : List β) => (t, (k : Int))) (fun k t => t = (a.take k).map f ++ List.replicate (a.length - k) z) (k := 0) (t := List.replicate a.length z) rfl (Nat.zero_le _) (by simp) (fun k t hk ht => ?_) (fun t ht => ?_)
  · obtain ⟨x, hx⟩ : ∃ x, a[k]? = some x := ⟨a[k], List.getElem?_eq_getElem hk⟩
    have hlen : ((a.take k).map f).length = k := by simp; omega
    have hi : t[k]? = some z := by
      rw [ht, List.getElem?_append_right (by omega), hlen, List.getElem?_replicate, if_pos (by omega)]
    refine ⟨_, (Ev.ite_t (by simpa using hk) (Ev.bindc (idx_at hx) (Ev.bind (hto x (List.mem_of_getElem? hx)) (Ev.bindc (idx_at hi) (Ev.pure (Sum.inl (t.set (k : Int).toNat (f x), W ((k : Int) + 1)))))))).eq ?_, rfl⟩
    rw [W_of (by omega) (by omega)]
    refine congrArg Sum.inl (Prod.ext ?_ rfl)
    show t.set (k : Int).toNat (f x) = _
    rw [ht, Int.toNat_natCast, List.set_append_right _ _ (by omega), hlen]
    rw [List.take_add_one, hx, List.map_append, List.append_assoc]
    congr 1
    rw [show a.length - k = (a.length - (k + 1)) + 1 by omega, List.replicate_succ]
    simp
  · refine (Ev.ite_f (by simp) (Ev.pure _)).eq ?_
    rw [ht]; simp

def val63 (n : Int) : Bool := decide (0 ≤ n) && decide (n ≤ 63)
def dots (vs : List Int) : Str := Lib.join (vs.map Lib.itoa) [44]

theorem read_nums {ws : List Str} (hl : ws.length < 4294967282) (hw : ∀ w ∈ ws, w.length ≤ 281474976710656) :
    Ev (fun m => impl_readNumbers_m m ws) (if ws.all numB = true then (ws.map numV, true) else ([], false)) := by
  have hm := mx
  unfold impl_readNumbers_m
  refine Exists.elim (EvI.count (step := _) ws.length (fun k (_ : Unit) => ((ws.take k).map numV, (k : Int))) (fun k _ => (ws.take k).all numB = true)
    (fun r => r = (if ws.all numB = true then .inl (ws.map numV) else .inr ([], false))) ?_ ?_ (k := 0) (t := ()) (Nat.zero_le _) rfl)
    (fun res ⟨h1, h2⟩ => Ev.bind h1.ev (by
      subst h2
      by_cases h : ws.all numB = true
      · rw [if_pos h, if_pos h]; exact Ev.pure _
      · rw [if_neg h, if_neg h]; exact Ev.pure _))
  · intro k t hk hI
    obtain ⟨w, hw'⟩ := get_lt hk
    have hk' : decide ((k : Int) < (ws.length : Int)) = true := by simpa using hk
    have htk : ws.take (k + 1) = ws.take k ++ [w] := by rw [List.take_add_one, hw']; rfl
    have hrd : ∀ m, impl_ReadDecimal_m m w = some (numV w, numB w) := fun m => read_dec (hw w (List.mem_of_getElem? hw'))
    cases hb : numB w with
    | true =>
      left
      refine ⟨(), Ev.ite_t hk' (Ev.bindc (idx_at hw') (Ev.bind (Ev.const' hrd) (Ev.ite_f (by simp [hb]) (Ev.bindc (app_ok (by simp; omega)) (Ev.const ?_))))), ?_⟩
      · rw [W_succ hk (by omega), htk, List.map_append]; rfl
      · rw [htk, List.all_append, hI]; simp [hb]
    | false =>
      right
      refine ⟨_, Ev.ite_t hk' (Ev.bindc (idx_at hw') (Ev.bind (Ev.const' hrd) (Ev.ite_t (by simp [hb]) (Ev.pure _)))), ?_⟩
      rw [if_neg]
      intro h
      rw [List.all_eq_true] at h
      rw [h w (List.mem_of_getElem? hw')] at hb
      cases hb
  · intro t hI
    refine ⟨_, Ev.ite_f (by simp) (Ev.pure _), ?_⟩
    rw [List.take_length] at *
    rw [if_pos hI]

theorem itoa_small : ∀ k : Fin 64, (Lib.itoa (k.val : Int)).length ≤ 2 := by
  intro k
  have e : Lib.itoa (k.val : Int) = Lib.decDigits k.val := by unfold Lib.itoa; rw [if_neg (by omega)]; simp
  rw [e]
  have := k.isLt
  by_cases h : k.val < 10
  · rw [Lib.decDigits_one h]; simp
  · rw [Lib.decDigits_two h (by omega)]; simp
theorem itoa_63 {n : Int} (h : val63 n = true) : (Lib.itoa n).length ≤ 2 := by
  unfold val63 at h
  simp at h
  have := itoa_small ⟨n.toNat, by omega⟩
  simp only [] at this
  rwa [show ((n.toNat : Nat) : Int) = n by omega] at this
theorem dots_len {vs : List Int} (h2 : vs.length ≤ 2) (h : vs.all val63 = true) : (dots vs).length ≤ 5 := by
  rw [List.all_eq_true] at h
  unfold dots
  match vs, h2, h with
  | [], _, _ => simp [Lib.join_nil]
  | [a], _, h =>
    have := itoa_63 (h a (by simp))
    rw [List.map_cons, List.map_nil, Lib.join_one]; omega
  | [a, b], _, h =>
    have := itoa_63 (h a (by simp))
    have := itoa_63 (h b (by simp))
    rw [List.map_cons, List.map_cons, List.map_nil, Lib.join_length]
    simp [Lib.lens]
    omega
theorem joined_ev {vs : List Int} (h2 : vs.length ≤ 2) (h : vs.all val63 = true) : Ev (fun m => impl_joined_m m vs [44]) (dots vs) := by
  unfold impl_joined_m
  have hd := dots_len h2 h
  refine Ev.bindc (mks_ok (by omega)) (Ev.bind (fill_iter (f := Lib.itoa) (to' := impl_Decimal_m) (a := vs) (z := ([] : Str)) (fun x hx => Ev.const' fun m => dec_m ?_ ?_) (by omega)).ev (Ev.const' fun m => ?_))
  · rw [List.all_eq_true] at h
    have := h x hx
    unfold val63 at this
    simp at this
    omega
  · rw [List.all_eq_true] at h
    have := h x hx
    unfold val63 at this
    simp at this
    omega
  · rw [ctl_l]
    unfold strings_Join_m
    rw [if_pos ⟨by simp; omega, by unfold dots at hd; omega⟩]
    rfl
theorem values_ev {vs : List Int} (hl : vs.length ≤ maxLen) : Ev (fun m => impl_areValues_m m vs) (vs.all val63) := by
  unfold impl_areValues_m slices_ContainsFunc__int64_int64_m slices_IndexFunc__int64_int64_m
  refine Ev.bind (contains_loop hl (f := fun m z => impl_areValues_1_m m z) (ok := val63) (fun x _ => Ev.const' fun m => ?_)) (Ev.const (by simp))
  unfold impl_areValues_1_m impl_isValue_m
  simp only [within_eq, Option.bind_some]
  rfl
def valsOk (ps : List Str) : Bool := ps.all fun w => numB w && val63 (numV w)
def labelP (s : Str) : Bool :=
  if (40 : UInt8) ∈ s then actP (pre 40 s) && decide (s.getLast? = some 41) && valsOk (splitC 44 (suf 40 s).dropLast) && decide ((splitC 44 (suf 40 s).dropLast).length ≤ 2)
  else nameP s

def labOf (n : Str) (vs : List Int) : Str × Bool :=
  if n = [116, 97, 117] then ([116, 97, 117], decide (vs.length = 0))
  else if actP n = true ∧ vs.length ≤ 2 ∧ vs.all val63 = true then (if vs.length = 0 then (n, true) else (n ++ [40] ++ dots vs ++ [41], true))
  else ([], false)

theorem label_of {n : Str} (hn : n.length ≤ 4294967296) {vs : List Int} (hv : vs.length ≤ maxLen) : Ev (fun m => impl_labelOf_m m n vs) (labOf n vs) := by
  have hm := mx
  unfold impl_labelOf_m labOf
  by_cases h1 : n = [116, 97, 117]
  · have e : (n == ([116, 97, 117] : Str)) = true := by rw [h1]; rfl
    rw [if_pos h1]
    refine Ev.ite_t e (Ev.const ?_)
    by_cases h : vs.length = 0
    · rw [h]; rfl
    · rw [decide_eq_false h, beq_false_of_ne (show ((vs.length : Int)) ≠ 0 by omega)]
  · have e : ¬ (n == ([116, 97, 117] : Str)) = true := by simpa using h1
    rw [if_neg h1]
    refine Ev.ite_f e (Ev.bind (act_impl (by omega)) ?_)
    by_cases h2 : actP n = true
    · simp only [h2, Bool.not_true, Bool.false_eq_true, if_false, Option.bind_some, true_and]
      by_cases h3 : vs.length ≤ 2
      · have e3 : decide ((2 : Int) < (vs.length : Int)) = false := decide_eq_false (by omega)
        simp only [e3, Bool.false_eq_true, if_false, h3, true_and]
        refine Ev.bind (Ev.bind (values_ev hv) (Ev.pure _)) ?_
        by_cases h4 : vs.all val63 = true
        · rw [if_pos h4]
          refine Ev.ite_f (by simp [h4]) ?_
          by_cases h5 : vs.length = 0
          · rw [if_pos h5]
            exact Ev.ite_t (by rw [h5]; rfl) (Ev.pure _)
          · rw [if_neg h5]
            have hd := dots_len h3 h4
            refine Ev.ite_f (by intro g; have := beq_iff_eq.1 g; omega) (Ev.bindc (show cat n [40] = some (n ++ [40]) from ?_) (Ev.bind (joined_ev h3 h4) (Ev.bindc (show cat (n ++ [40]) (dots vs) = some (n ++ [40] ++ dots vs) from ?_) (Ev.bindc (show cat (n ++ [40] ++ dots vs) [41] = some (n ++ [40] ++ dots vs ++ [41]) from ?_) (Ev.pure _)))))
            · unfold cat; rw [if_pos (by simp; omega)]
            · unfold cat; rw [if_pos (by simp; omega)]
            · unfold cat; rw [if_pos (by simp; omega)]
        · rw [if_neg h4]
          exact Ev.ite_t (by simpa using h4) (Ev.pure _)
      · have e3 : decide ((2 : Int) < (vs.length : Int)) = true := decide_eq_true (by omega)
        exact Ev.eq (r := (([] : Str), false)) (Ev.const' fun m => by simp only [e3, if_true, Option.bind_some]) (if_neg (fun h => h3 h.1)).symm
    · have e2 : (!actP n) = true := by simpa using h2
      exact Ev.eq (r := (([] : Str), false)) (Ev.const' fun m => by simp only [e2, if_true, Option.bind_some]) (if_neg (fun h => h2 h.1)).symm

theorem nums_join {ws : List Str} (h : ws.all numB = true) : (ws.map numV).map Lib.itoa = ws := by
  rw [List.map_map]
  rw [List.all_eq_true] at h
  conv => rhs; rw [← List.map_id ws]
  refine List.map_congr_left fun w hw => ?_
  have := h w hw
  unfold numB at this
  obtain ⟨v, hv⟩ := Option.isSome_iff_exists.1 this
  show Lib.itoa (numV w) = w
  unfold numV
  rw [hv]
  exact (num_some hv).1

theorem last_eq {s : Str} (h : (40 : UInt8) ∈ s) : s.getLast? = some 41 ↔ (suf 40 s).getLast? = some 41 := by
  conv => lhs; rw [pre_suf h]
  rw [List.getLast?_append]
  cases hs : suf 40 s with
  | nil => simp
  | cons b r =>
    rw [List.getLast?_cons_cons]
    cases hl : (b :: r).getLast? with
    | none => simp at hl
    | some c => simp

theorem name_tau : nameP [116, 97, 117] = true := by decide +kernel
theorem act_tau : actP [116, 97, 117] = false := by unfold actP; simp

theorem third {c : Bool} {a : Str} {b : List Int} : (if c = true then (([] : Str), ([] : List Int), false) else (a, b, true)).2.2 = !c := by cases c <;> rfl

theorem read_label {s : Str} (hl : s.length ≤ 1048576) : ∃ r, Ev (fun m => impl_readLabel_m m s) r ∧ r.2.2 = labelP s := by
  have hm := mx
  unfold impl_readLabel_m
  by_cases hc : (40 : UInt8) ∈ s
  · have hp := pre_len 40 s
    have hsf : (suf 40 s).length ≤ s.length := by unfold suf; simp
    have hcut : ∀ m, strings_Cut_m m s [40] = some (pre 40 s, suf 40 s, true) := fun m => by rw [cut_lib (by omega), if_pos hc]
    obtain ⟨t, ht⟩ : ∃ t, t = if (suf 40 s).getLast? = some 41 then (suf 40 s).dropLast else suf 40 s := ⟨_, rfl⟩
    have htl : t.length ≤ s.length := by rw [ht]; split <;> (try simp) <;> omega
    have htr : ∀ m, strings_TrimSuffix_m m (suf 40 s) [41] = some t := fun m => by rw [trimS_lib (by omega), ← ht]
    have hsp : ∀ m, strings_Split_m m t [44] = some (splitC 44 t) := fun m => split_lib (by omega)
    have hln := splitC_len 44 t
    have hne := List.length_pos_iff.2 (splitC_ne 44 t)
    have hrn := read_nums (ws := splitC 44 t) (by omega) (fun w hw => by have := splitC_mem 44 t w hw; omega)
    by_cases hn : (splitC 44 t).all numB = true
    · rw [if_pos hn] at hrn
      have hlo := label_of (n := pre 40 s) (by omega) (vs := (splitC 44 t).map numV) (by simp; omega)
      refine ⟨_, Ev.bind (Ev.const' hcut) (Ev.join (Ev.ite_t rfl (Ev.bind (Ev.const' htr) (Ev.bind (Ev.const' hsp) (Ev.bind hrn (Ev.ite_f (by simp) (Ev.bind hlo (Ev.const' fun m => by rw [or_some, Option.bind_some, ite_some])))))))), ?_⟩
      have hd : dots ((splitC 44 t).map numV) = t := by unfold dots; rw [nums_join hn, join_splitC]
      have hlast : (pre 40 s ++ [40] ++ t ++ [41] = s) ↔ (suf 40 s).getLast? = some 41 := by
        conv => lhs; rhs; rw [pre_suf hc]
        rw [List.append_assoc, List.append_assoc, List.append_cancel_left_eq]
        simp only [List.singleton_append, List.cons.injEq, true_and]
        constructor
        · intro h; rw [← h]; simp
        · intro h
          rw [ht, if_pos h]
          rcases snoc_or (suf 40 s) with e | ⟨q, x, e⟩
          · rw [e] at h; cases h
          · rw [e] at h ⊢
            have : x = 41 := by simpa using h
            rw [this]; simp
      have hvo : (suf 40 s).getLast? = some 41 → splitC 44 (suf 40 s).dropLast = splitC 44 t := fun h => by rw [ht, if_pos h]
      have hall : ((splitC 44 t).map numV).all val63 = valsOk (splitC 44 t) := by
        unfold valsOk
        rw [List.all_map]
        rw [List.all_eq_true] at hn
        apply Bool.eq_iff_iff.2
        rw [List.all_eq_true, List.all_eq_true]
        constructor
        · intro h w hw; rw [hn w hw]; exact h w hw
        · intro h w hw; have := h w hw; rw [hn w hw] at this; exact this
      rw [third]
      unfold labelP labOf
      rw [if_pos hc]
      simp only [decide_eq_decide.2 (last_eq hc), List.length_map, hall]
      by_cases h1 : pre 40 s = [116, 97, 117]
      · rw [if_pos h1, h1, act_tau, decide_eq_false (by omega)]
        rfl
      · rw [if_neg h1]
        by_cases h6 : (suf 40 s).getLast? = some 41
        · rw [hvo h6, decide_eq_true h6]
          by_cases h2 : actP (pre 40 s) = true ∧ (splitC 44 t).length ≤ 2 ∧ valsOk (splitC 44 t) = true
          · rw [if_pos h2, if_neg (show ¬ (splitC 44 t).length = 0 by omega), h2.1, h2.2.2, decide_eq_true h2.2.1, hd]
            rw [hlast.2 h6]
            simp
          · rw [if_neg h2]
            cases ha : actP (pre 40 s)
            · rfl
            · cases hv : valsOk (splitC 44 t)
              · rfl
              · rw [decide_eq_false (fun h => h2 ⟨ha, h, hv⟩)]; rfl
        · rw [decide_eq_false h6, Bool.and_false]
          split
          · rw [if_neg (show ¬ (splitC 44 t).length = 0 by omega), hd]
            have : (pre 40 s ++ [40] ++ t ++ [41] != s) = true := by
              rw [bne_iff_ne]
              exact fun h => h6 (hlast.1 h)
            rw [this]
            rfl
          · rfl
    · rw [if_neg hn] at hrn
      refine ⟨_, Ev.bind (Ev.const' hcut) (Ev.join (Ev.ite_t rfl (Ev.bind (Ev.const' htr) (Ev.bind (Ev.const' hsp) (Ev.bind hrn (Ev.ite_t (by rfl) (Ev.pure _))))))), ?_⟩
      unfold labelP
      rw [if_pos hc]
      by_cases h6 : (suf 40 s).getLast? = some 41
      · have : valsOk (splitC 44 (suf 40 s).dropLast) = false := by
          rw [ht, if_pos h6] at hn
          apply Bool.eq_false_iff.2
          intro h
          apply hn
          unfold valsOk at h
          rw [List.all_eq_true] at h ⊢
          intro w hw
          have := h w hw
          rw [Bool.and_eq_true] at this
          exact this.1
        rw [this]; simp
      · rw [decide_eq_false (fun h => h6 ((last_eq hc).1 h))]; simp
  · have hcut : ∀ m, strings_Cut_m m s [40] = some (s, [], false) := fun m => by rw [cut_lib (by omega), if_neg hc]
    have hlo := label_of (n := s) (by omega) (vs := []) (by simp)
    refine ⟨_, Ev.bind (Ev.const' hcut) (Ev.join (Ev.ite_f (by simp) (Ev.bind hlo (Ev.const' fun m => by rw [or_some, Option.bind_some, ite_some])))), ?_⟩
    rw [third]
    unfold labelP labOf
    rw [if_neg hc]
    by_cases h1 : s = [116, 97, 117]
    · rw [if_pos h1, h1, name_tau]; rfl
    · rw [if_neg h1]
      have e : actP s = nameP s := by
        unfold actP
        rw [bne_iff_ne.2 h1, Bool.and_true]
      rw [e]
      by_cases h2 : nameP s = true
      · rw [if_pos ⟨h2, by simp, rfl⟩, h2]
        simp
      · rw [if_neg (fun h => h2 h.1)]
        have : nameP s = false := by simpa using h2
        rw [this]
        rfl
theorem label_impl {s : Str} (hl : s.length ≤ 1048576) : Ev (fun m => impl_IsLabel_m m s) (labelP s) := by
  obtain ⟨r, h1, h2⟩ := read_label hl
  unfold impl_IsLabel_m
  exact Ev.bind h1 (Ev.const (by rw [h2]))

/-! ### the reference -/
theorem pre_hit : ∀ (s : Str) (k : Nat), s[k]? = some 40 → (40 : UInt8) ∉ s.take k → (pre 40 s).length = k
  | [], k, h, _ => by simp at h
  | b :: r, 0, h, _ => by
    have : b = 40 := by simpa using h
    rw [pre_cons, if_pos this]; rfl
  | b :: r, k + 1, h, h2 => by
    rw [List.take_succ_cons, List.mem_cons, not_or] at h2
    rw [pre_cons, if_neg (fun e => h2.1 e.symm), List.length_cons, pre_hit r k (by simpa using h) h2.2]
theorem open_spec {s : Str} (hl : s.length ≤ 1048576) : Ev (fun m => spec_l01Open_m m s) ((pre 40 s).length : Int) := by
  unfold spec_l01Open_m
  refine Exists.elim (EvI.count (step := _) s.length (fun k (_ : Unit) => (k : Int)) (fun k _ => (40 : UInt8) ∉ s.take k)
    (fun r => r = .inr ((pre 40 s).length : Int) ∨ (r = .inl () ∧ (pre 40 s).length = s.length)) ?_ ?_ (k := 0) (t := ()) (Nat.zero_le _) (by simp))
    (fun res ⟨h1, h2⟩ => Ev.bind h1.ev (by
      rcases h2 with rfl | ⟨rfl, h⟩
      · exact Ev.pure _
      · exact (Ev.pure _).eq (by rw [h])))
  · intro k t hk hI
    obtain ⟨b, hb⟩ := get_lt hk
    have hk' : decide ((k : Int) < (s.length : Int)) = true := by simpa using hk
    by_cases h : b = 40
    · subst h
      exact .inr ⟨_, Ev.ite_t hk' (Ev.bindc (idx_at hb) (Ev.ite_t (by rfl) (Ev.pure _))), .inl (by rw [pre_hit s k hb hI])⟩
    · refine .inl ⟨(), Ev.ite_t hk' (Ev.bindc (idx_at hb) (Ev.ite_f ?_ (Ev.const (by rw [W_succ hk (by omega)])))), ?_⟩
      · intro g
        have := beq_iff_eq.1 g
        exact h (UInt8.toNat_inj.1 (show b.toNat = 40 by omega))
      · rw [List.take_add_one, hb]
        simp [hI, Ne.symm h]
  · intro t hI
    rw [List.take_length] at hI
    exact ⟨_, Ev.ite_f (by simp) (Ev.pure _), .inr ⟨rfl, (pre_full 40 s).2 hI⟩⟩

def lsp : (List Int) ⊕ ((List Int) × Bool) → (List Int) × Bool
  | .inl xs => (xs, decide ((xs.length : Int) ≤ 2))
  | .inr q => q
theorem lsp_ctl {res : (List Int) ⊕ ((List Int) × Bool)} : ctl (β := (List Int)) (ρ := ((List Int) × Bool)) (τ := ((List Int) × Bool)) res (fun (xs140) => some ((xs140, (decide ((xs140.length : Int) ≤ (2 : Int)))))) (fun q => some (q)) = some (lsp res) := by cases res <;> rfl
theorem vals_loop {ps : List Str} (hl : ps.length ≤ 1048577) (hw : ∀ w ∈ ps, w.length ≤ 1048576) :
    Ev (fun fuel => iter (fun (s : (List Int) × (Int)) => (match s with | (xs104, x106) => (if (decide (x106 < (ps.length : Int))) = true then (idx ps x106).bind fun x151 => (spec_l01Number_m fuel x151).bind fun x158 => (if (!x158.2) = true then some true else (spec_l00In_m fuel x158.1 (0 : Int) (63 : Int)).bind fun x166 => some (!x166)).bind fun t161 => (if t161 = true then some (.inr (.inr ([], false))) else (app xs104 [x158.1]).bind fun x174 => some (.inl (x174, (W (x106 + (1 : Int)))))) else some (.inr (.inl (xs104)))) : Option (((List Int) × (Int)) ⊕ (((List Int)) ⊕ (((List Int) × Bool)))))) fuel (([] : List Int), (0 : Int)))
      (if valsOk ps = true then .inl (ps.map numV) else .inr ([], false)) := by
  have hm := mx
  refine Exists.elim (EvI.count (β := (List Int) ⊕ ((List Int) × Bool)) (step := fun fuel (s : (List Int) × (Int)) => (match s with | (xs104, x106) => (if (decide (x106 < (ps.length : Int))) = true then (idx ps x106).bind fun x151 => (spec_l01Number_m fuel x151).bind fun x158 => (if (!x158.2) = true then some true else (spec_l00In_m fuel x158.1 (0 : Int) (63 : Int)).bind fun x166 => some (!x166)).bind fun t161 => (if t161 = true then some (.inr (.inr ([], false))) else (app xs104 [x158.1]).bind fun x174 => some (.inl (x174, (W (x106 + (1 : Int)))))) else some (.inr (.inl (xs104)))) : Option (((List Int) × (Int)) ⊕ (((List Int)) ⊕ (((List Int) × Bool))))))
    ps.length (fun k (_ : Unit) => ((ps.take k).map numV, (k : Int))) (fun k _ => valsOk (ps.take k) = true)
    (fun r => r = (if valsOk ps = true then .inl (ps.map numV) else .inr ([], false))) ?_ ?_ (k := 0) (t := ()) (Nat.zero_le _) rfl)
    (fun res ⟨h3, h4⟩ => by subst h4; exact h3.ev)
  · intro k t hk hI
    obtain ⟨w, hw'⟩ := get_lt hk
    have hk' : decide ((k : Int) < (ps.length : Int)) = true := by simpa using hk
    have htk : ps.take (k + 1) = ps.take k ++ [w] := by rw [List.take_add_one, hw']; rfl
    have hwl := hw w (List.mem_of_getElem? hw')
    have hnum := num_spec (w := w) (by omega)
    have hcc : ∀ m : Nat, (if (!numB w) = true then some true else (spec_l00In_m m (numV w) (0 : Int) (63 : Int)).bind fun x166 => some (!x166)) = some (!(numB w && val63 (numV w))) := fun m => by
      rw [l00In_eq, Option.bind_some, or_some]
      cases numB w <;> rfl
    by_cases hv : (numB w && val63 (numV w)) = true
    · left
      refine ⟨(), Ev.ite_t hk' (Ev.bindc (idx_at hw') (Ev.bind hnum (Ev.bind (Ev.const' hcc) (Ev.ite_f (by rw [hv]; simp) (Ev.bindc (app_ok (by simp; omega)) (Ev.const ?_)))))), ?_⟩
      · rw [W_succ hk (by omega), htk, List.map_append]; rfl
      · unfold valsOk at hI ⊢
        rw [htk, List.all_append, hI]
        simp only [List.all_cons, List.all_nil, Bool.and_true, Bool.true_and]
        exact hv
    · right
      have hv' : (numB w && val63 (numV w)) = false := by simpa using hv
      refine ⟨_, Ev.ite_t hk' (Ev.bindc (idx_at hw') (Ev.bind hnum (Ev.bind (Ev.const' hcc) (Ev.ite_t (by rw [hv']; rfl) (Ev.pure _))))), ?_⟩
      rw [if_neg]
      intro h
      unfold valsOk at h
      rw [List.all_eq_true] at h
      exact hv (h w (List.mem_of_getElem? hw'))
  · intro t hI
    refine ⟨_, Ev.ite_f (by simp) (Ev.pure _), ?_⟩
    rw [List.take_length] at *
    rw [if_pos hI]

theorem label_spec {s : Str} (hl : s.length ≤ 1048576) : Ev (fun m => spec_l01Label_m m s) (labelP s) := by
  have hm := mx
  unfold spec_l01Label_m
  suffices h : ∃ r, Ev (fun m => spec_l01Values_m m s) r ∧ r.2 = labelP s by
    obtain ⟨r, h1, h2⟩ := h
    exact Ev.bind h1 (Ev.const (by rw [h2]))
  unfold spec_l01Values_m labelP
  by_cases hc : (40 : UInt8) ∈ s
  · have hp := pre_len 40 s
    have hpn : (pre 40 s).length ≠ s.length := fun h => (pre_full 40 s).1 h hc
    have hs0 : sub s (0 : Int) ((pre 40 s).length : Int) = some (pre 40 s) := by
      have := sub_ok (xs := s) (lo := 0) (hi := (pre 40 s).length) (Nat.zero_le _) hp
      rw [pre_take] at this
      exact this
    have hpos : 0 < s.length := by omega
    obtain ⟨b, hb⟩ := get_lt (xs := s) (k := s.length - 1) (by omega)
    have hlast : s.getLast? = some b := by rw [List.getLast?_eq_getElem?]; exact hb
    have hw1 : W ((s.length : Int) - 1) = ((s.length - 1 : Nat) : Int) := by rw [W_of (by omega) (by omega)]; omega
    rw [if_pos hc]
    have hbase : ∀ {r} (_ : Ev (fun m => (if (!actP (pre 40 s)) = true then some true else (idx s (W ((s.length : Int) - (1 : Int)))).bind fun b55 => some ((b55.toNat : Int) != (41 : Int))) ) r), r = !(actP (pre 40 s) && decide (s.getLast? = some 41)) := by
      intro r h
      obtain ⟨n, hn⟩ := h.one
      rw [hw1, idx_at hb] at hn
      simp only [Option.bind_some, or_some, Option.some.injEq] at hn
      rw [← hn, hlast]
      cases actP (pre 40 s)
      · rfl
      · simp only [Bool.not_true, Bool.false_or, Bool.true_and]
        by_cases h41 : b = 41
        · rw [h41]; rfl
        · rw [decide_eq_false (by simpa using h41)]
          have : ((b.toNat : Int) != 41) = true := by
            rw [bne_iff_ne]
            intro g
            exact h41 (UInt8.toNat_inj.1 (show b.toNat = 41 by omega))
          rw [this]; rfl
    have hcond : ∀ m : Nat, (if (!actP (pre 40 s)) = true then some true else (idx s (W ((s.length : Int) - (1 : Int)))).bind fun b55 => some ((b55.toNat : Int) != (41 : Int))) = some (!(actP (pre 40 s) && decide (s.getLast? = some 41))) := by
      intro m
      have e : (if (!actP (pre 40 s)) = true then some true else (idx s (W ((s.length : Int) - (1 : Int)))).bind fun b55 => some ((b55.toNat : Int) != (41 : Int))) = some ((!actP (pre 40 s)) || ((b.toNat : Int) != (41 : Int))) := by rw [hw1, idx_at hb, Option.bind_some, or_some]
      rw [e]
      exact congrArg some (hbase (Ev.const e))
    by_cases h1 : (actP (pre 40 s) && decide (s.getLast? = some 41)) = true
    · have h41 : s.getLast? = some 41 := of_decide_eq_true (Bool.and_eq_true _ _ ▸ h1).2
      have hsl := (last_eq hc).1 h41
      have hsn : suf 40 s ≠ [] := fun e => by rw [e] at hsl; cases hsl
      have hsl2 : (suf 40 s).length = s.length - ((pre 40 s).length + 1) := by unfold suf; simp
      have hsp := List.length_pos_iff.2 hsn
      have hsub : sub s (W (((pre 40 s).length : Int) + 1)) (W ((s.length : Int) - 1)) = some (suf 40 s).dropLast := by
        rw [hw1, W_of (by omega) (by omega), show (((pre 40 s).length : Int) + 1) = (((pre 40 s).length + 1 : Nat) : Int) from rfl, sub_ok (by omega) (by omega), List.drop_take, List.dropLast_eq_take, hsl2]
        unfold suf
        congr 2
        omega
      have hpl : (splitC 44 (suf 40 s).dropLast).length ≤ s.length := by have := splitC_len 44 (suf 40 s).dropLast; simp at this; omega
      rw [h1, Bool.true_and]
      refine ⟨_, Ev.bind (open_spec hl) (Ev.ite_f (by intro g; have := beq_iff_eq.1 g; omega) (Ev.bindc hs0 (Ev.bind (act_spec (by omega)) (Ev.bind (Ev.const' hcond) (Ev.ite_f (by rw [h1]; simp) (Ev.bindc hsub (Ev.bind (split_spec (by simp; omega)) (Ev.bind (vals_loop (by omega) (fun w hw => ?_)) (Ev.const' fun m => lsp_ctl))))))))), ?_⟩
      · have := splitC_mem 44 _ w hw
        simp at this
        omega
      · by_cases hv : valsOk (splitC 44 (suf 40 s).dropLast) = true
        · rw [if_pos hv, hv, Bool.true_and]
          exact decide_eq_decide.2 (by simp; omega)
        · rw [if_neg hv]
          have : valsOk (splitC 44 (suf 40 s).dropLast) = false := by simpa using hv
          rw [this]
          rfl
    · refine ⟨_, Ev.bind (open_spec hl) (Ev.ite_f (by intro g; have := beq_iff_eq.1 g; omega) (Ev.bindc hs0 (Ev.bind (act_spec (by omega)) (Ev.bind (Ev.const' hcond) (Ev.ite_t (by rw [Bool.not_eq_true']; exact Bool.eq_false_iff.2 h1) (Ev.pure _)))))), ?_⟩
      have : (actP (pre 40 s) && decide (s.getLast? = some 41)) = false := by simpa using h1
      rw [this]
      rfl
  · rw [if_neg hc]
    exact ⟨_, Ev.bind (open_spec hl) (Ev.ite_t (by rw [(pre_full 40 s).2 hc]; simp) (Ev.bind (name_spec (by omega)) (Ev.pure _))), rfl⟩
def opN (x : Timpl_Node) : Nat := if x.1 = 2 ∨ x.1 = 3 then 2 else if x.1 = 4 ∨ x.1 = 5 ∨ x.1 = 7 ∨ x.1 = 8 then 1 else 0
def kindP (x : Timpl_Node) : Bool := decide (0 ≤ x.1) && decide (x.1 ≤ 8)
def fixP (x : Timpl_Node) : Bool := x.1 == 7 || x.1 == 8
def modP (x : Timpl_Node) : Bool := x.1 == 4 || x.1 == 5
theorem opN_le (x : Timpl_Node) : opN x ≤ 2 := by
  unfold opN
  split
  · omega
  · split <;> omega
theorem op_impl {m : Nat} {x : Timpl_Node} : impl_Node_operands_m m x = some (opN x : Int) := by
  unfold impl_Node_operands_m opN join
  by_cases h2 : x.1 = 2
  · simp [h2]
  by_cases h3 : x.1 = 3
  · simp [h3]
  by_cases h4 : x.1 = 4
  · simp [h4]
  by_cases h5 : x.1 = 5
  · simp [h5]
  by_cases h7 : x.1 = 7
  · simp [h7]
  by_cases h8 : x.1 = 8
  · simp [h8]
  simp [h2, h3, h4, h5, h7, h8]
theorem op_spec {m : Nat} {x : Timpl_Node} (h : kindP x = true) : spec_l14Arity_m m x.1 = some (opN x : Int) := by
  unfold kindP at h
  simp only [Bool.and_eq_true, decide_eq_true_eq] at h
  have : x.1 = 0 ∨ x.1 = 1 ∨ x.1 = 2 ∨ x.1 = 3 ∨ x.1 = 4 ∨ x.1 = 5 ∨ x.1 = 6 ∨ x.1 = 7 ∨ x.1 = 8 := by omega
  unfold spec_l14Arity_m opN join
  rcases this with h | h | h | h | h | h | h | h | h <;> simp [h]
theorem fix_spec {m : Nat} {x : Timpl_Node} : spec_l19Fixed_m m x = some (fixP x) := by
  unfold spec_l19Fixed_m fixP
  by_cases h : x.1 = 7 <;> simp [h]
theorem fix_impl {m : Nat} {x : Timpl_Node} : impl_Node_isFixed_m m x = some (fixP x) := by
  unfold impl_Node_isFixed_m fixP
  by_cases h : x.1 = 7 <;> simp [h]
theorem mod_impl {m : Nat} {x : Timpl_Node} : impl_Node_isModality_m m x = some (modP x) := by
  unfold impl_Node_isModality_m modP
  by_cases h : x.1 = 4 <;> simp [h]
/-- How many nodes a formula that still needs n parts takes. -/
def eat : List Timpl_Node → Nat → Nat
  | _, 0 => 0
  | [], _ + 1 => 0
  | x :: r, n + 1 => eat r (n + opN x) + 1
def eats : List Timpl_Node → Nat → Bool
  | _, 0 => true
  | [], _ + 1 => false
  | x :: r, n + 1 => eats r (n + opN x)
def shq (ok : Timpl_Node → Bool) : List Timpl_Node → Nat → Bool
  | [], n => n == 0
  | _ :: _, 0 => false
  | x :: r, n + 1 => ok x && shq ok r (n + opN x)
abbrev shp := shq fun _ => true
theorem shq_eq (ok : Timpl_Node → Bool) : ∀ (l : List Timpl_Node) (n : Nat), shq ok l n = (shp l n && l.all ok)
  | [], n => by simp [shq]
  | x :: r, 0 => by simp [shq]
  | x :: r, n + 1 => by
    simp only [shq, shq_eq ok r, List.all_cons, Bool.true_and]
    cases ok x <;> simp
theorem shp_eats : ∀ (l : List Timpl_Node) (n k : Nat), shp l n = true → k ≤ n → eats l k = true
  | _, _, 0, _, _ => by unfold eats; rfl
  | [], n, k + 1, h, hk => by
    have : n = 0 := by simpa [shq] using h
    omega
  | x :: r, 0, k + 1, h, hk => by omega
  | x :: r, n + 1, k + 1, h, hk => by
    have h : shp r (n + opN x) = true := by simpa [shq] using h
    exact shp_eats r (n + opN x) (k + opN x) h (by omega)
theorem shp_drop : ∀ (l : List Timpl_Node) (n i : Nat), shp l n = true → i < l.length → eats (l.drop i) 1 = true
  | [], _, _, _, hi => absurd hi (by simp)
  | x :: r, 0, _, h, _ => by simp [shq] at h
  | x :: r, n + 1, 0, h, _ => shp_eats (x :: r) (n + 1) 1 h (by omega)
  | x :: r, n + 1, i + 1, h, hi => by
    have h : shp r (n + opN x) = true := by simpa [shq] using h
    exact shp_drop r (n + opN x) i h (by simpa using hi)
theorem drop_cons {α : Type} {a : List α} {i : Nat} {x : α} {r : List α} (h : a.drop i = x :: r) : a[i]? = some x ∧ a.drop (i + 1) = r ∧ i < a.length := by
  refine ⟨?_, ?_, ?_⟩
  · have := congrArg (fun l => l[0]?) h
    simpa using this
  · rw [← List.drop_drop, h]; rfl
  · by_cases hi : i < a.length
    · exact hi
    · rw [List.drop_eq_nil_of_le (by omega)] at h; cases h
def fend (a : List Timpl_Node) (i : Nat) : Nat := i + eat (a.drop i) 1
theorem end_loop {step : Nat → Int × Int → Option ((Int × Int) ⊕ (Int ⊕ Int))} (a : List Timpl_Node)
    (hgo : ∀ (i n : Nat) (x : Timpl_Node), a[i]? = some x → n ≤ 1000 → Ev (fun m => step m ((i : Int), ((n + 1 : Nat) : Int))) (.inl (((i + 1 : Nat) : Int), ((n + opN x : Nat) : Int))))
    (hend : ∀ (i : Nat), Ev (fun m => step m ((i : Int), ((0 : Nat) : Int))) (.inr (.inl (i : Int)))) :
    ∀ (l : List Timpl_Node) (i n : Nat), a.drop i = l → n + 2 * l.length ≤ 1000 → eats l n = true → EvI step ((i : Int), (n : Int)) (.inl ((i + eat l n : Nat) : Int)) := by
  intro l
  induction l with
  | nil =>
    intro i n _ _ he
    cases n with
    | zero => exact EvI.stop (hend i)
    | succ n => cases he
  | cons x r ih =>
    intro i n hd hn he
    cases n with
    | zero => exact EvI.stop (hend i)
    | succ n =>
      obtain ⟨h1, h2, h3⟩ := drop_cons hd
      have ho := opN_le x
      rw [List.length_cons] at hn
      have := ih (i + 1) (n + opN x) h2 (by omega) he
      rw [show i + eat (x :: r) (n + 1) = i + 1 + eat r (n + opN x) by rw [eat]; omega]
      exact EvI.go (hgo i n x h1 (by omega)) this
theorem fend_impl {a : List Timpl_Node} (ha : a.length ≤ 30) (hs : shp a 1 = true) {i : Nat} (hi : i < a.length) : Ev (fun m => impl_formulaEnd_m m a (i : Int)) (fend a i : Int) := by
  unfold impl_formulaEnd_m
  refine Ev.bind (end_loop a (fun j n x hx hn => ?_) (fun j => ?_) (a.drop i) i 1 rfl (by rw [List.length_drop]; omega) (shp_drop a 1 i hs hi)).ev (Ev.const rfl)
  · have hj : j < a.length := (List.getElem?_eq_some_iff.1 hx).1
    have ho := opN_le x
    refine Ev.ite_t (decide_eq_true (by omega)) (Ev.bindc (idx_at hx) (Ev.bind (Ev.const' fun m => op_impl) (Ev.const ?_)))
    rw [W_of (n := (j : Int) + 1) (by omega) (by omega), W_of (n := (opN x : Int) - 1) (by omega) (by omega), W_of (by omega) (by omega)]
    congr 4
    omega
  · exact Ev.ite_f (by simp) (Ev.pure _)
theorem fend_spec {a : List Timpl_Node} (ha : a.length ≤ 30) (hs : shp a 1 = true) (hk : ∀ x ∈ a, kindP x = true) {i : Nat} (hi : i < a.length) : Ev (fun m => spec_l19End_m m a (i : Int)) (fend a i : Int) := by
  unfold spec_l19End_m
  refine Ev.bind (end_loop a (fun j n x hx hn => ?_) (fun j => ?_) (a.drop i) i 1 rfl (by rw [List.length_drop]; omega) (shp_drop a 1 i hs hi)).ev (Ev.const rfl)
  · have hj : j < a.length := (List.getElem?_eq_some_iff.1 hx).1
    have ho := opN_le x
    refine Ev.ite_t (decide_eq_true (by omega)) (Ev.bindc (idx_at hx) (Ev.bind (Ev.const' fun m => op_spec (hk x (List.mem_of_getElem? hx))) (Ev.const ?_)))
    rw [W_of (n := (j : Int) + 1) (by omega) (by omega), W_of (n := (opN x : Int) - 1) (by omega) (by omega), W_of (by omega) (by omega)]
    congr 4
    omega
  · exact Ev.ite_f (by simp) (Ev.pure _)
theorem shape_loop {step : Nat → Int × Int → Option ((Int × Int) ⊕ (Int ⊕ Bool))} (ok : Timpl_Node → Bool) (a : List Timpl_Node)
    (hgo : ∀ (i n : Nat) (x : Timpl_Node), a[i]? = some x → n ≤ 1000 → ok x = true → Ev (fun m => step m (((n + 1 : Nat) : Int), (i : Int))) (.inl (((n + opN x : Nat) : Int), ((i + 1 : Nat) : Int))))
    (hbad : ∀ (i n : Nat) (x : Timpl_Node), a[i]? = some x → n = 0 ∨ ok x = false → Ev (fun m => step m ((n : Int), (i : Int))) (.inr (.inr false)))
    (hend : ∀ (n : Nat), Ev (fun m => step m ((n : Int), (a.length : Int))) (.inr (.inl (n : Int)))) :
    ∀ (l : List Timpl_Node) (i n : Nat), a.drop i = l → i ≤ a.length → n + 2 * l.length ≤ 1000 → ∃ r, EvI step ((n : Int), (i : Int)) r ∧ (match r with | .inl z => (z == 0) = shq ok l n | .inr b => b = shq ok l n) := by
  intro l
  induction l with
  | nil =>
    intro i n hd hi hn
    have : i = a.length := by
      have := congrArg List.length hd
      rw [List.length_drop, List.length_nil] at this
      omega
    subst this
    refine ⟨_, EvI.stop (hend n), ?_⟩
    show ((n : Int) == 0) = (n == 0)
    cases n <;> simp
    omega
  | cons x r ih =>
    intro i n hd hi hn
    obtain ⟨h1, h2, h3⟩ := drop_cons hd
    have ho := opN_le x
    rw [List.length_cons] at hn
    cases n with
    | zero => exact ⟨_, EvI.stop (hbad i 0 x h1 (.inl rfl)), rfl⟩
    | succ n =>
      cases hk : ok x with
      | false =>
        refine ⟨_, EvI.stop (hbad i (n + 1) x h1 (.inr hk)), ?_⟩
        show false = (ok x && shq ok r (n + opN x))
        rw [hk]; rfl
      | true =>
        obtain ⟨res, e1, e2⟩ := ih (i + 1) (n + opN x) h2 (by omega) (by omega)
        refine ⟨res, EvI.go (hgo i n x h1 (by omega) hk) e1, ?_⟩
        have : shq ok (x :: r) (n + 1) = shq ok r (n + opN x) := by
          show (ok x && shq ok r (n + opN x)) = _
          rw [hk]; rfl
        rw [this]
        exact e2
theorem shape_impl {a : List Timpl_Node} (ha : a.length ≤ 30) : Ev (fun m => impl_shapeOk_m m a) (shp a 1) := by
  unfold impl_shapeOk_m
  refine Exists.elim (shape_loop (step := _) (fun _ => true) a (fun i n x hx hn _ => ?_) (fun i n x hx h => ?_) (fun n => ?_) a 0 1 rfl (by omega) (by omega)) (fun r hr => Ev.bind hr.1.ev (Ev.const (by
    have e2 := hr.2
    cases r with
    | inl z => exact congrArg some e2
    | inr b => exact congrArg some e2)))
  · have hj : i < a.length := (List.getElem?_eq_some_iff.1 hx).1
    have ho := opN_le x
    refine Ev.ite_t (decide_eq_true (by omega)) (Ev.bindc (idx_at hx) (Ev.ite_f (by simp; omega) (Ev.bind (Ev.const' fun m => op_impl) (Ev.const ?_))))
    rw [W_of (n := (i : Int) + 1) (by omega) (by omega), W_of (n := (opN x : Int) - 1) (by omega) (by omega), W_of (by omega) (by omega)]
    congr 4
    omega
  · have hj : i < a.length := (List.getElem?_eq_some_iff.1 hx).1
    rcases h with h | h
    · subst h
      exact Ev.ite_t (decide_eq_true (by omega)) (Ev.bindc (idx_at hx) (Ev.ite_t (by simp) (Ev.pure _)))
    · cases h
  · exact Ev.ite_f (by simp) (Ev.pure _)
/-- Patterns of labels. -/
def patP (s : Str) : Bool := (s == [] || labelP s) || ((s.getLast? == some 42) && actP s.dropLast)
theorem snocStr (s : Str) (h : s ≠ []) : ∃ t b, s = t ++ [b] := by
  rcases snoc_or s with rfl | ⟨t, b, rfl⟩
  · exact absurd rfl h
  · exact ⟨t, b, rfl⟩
theorem pat_impl {s : Str} (hl : s.length ≤ 1048576) : Ev (fun m => impl_IsPattern_m m s) (patP s) := by
  have hmx := mx
  unfold impl_IsPattern_m strings_CutSuffix_m internal_stringslite_CutSuffix_m internal_stringslite_HasSuffix_m
  by_cases h : s = []
  · subst h
    exact Ev.const rfl
  obtain ⟨t, b, rfl⟩ := snocStr s h
  have hlen : (t ++ [b]).length = t.length + 1 := by simp
  have hp : patP (t ++ [b]) = (labelP (t ++ [b]) || ((b == 42) && actP t)) := by
    unfold patP
    have : ((t ++ [b]) == ([] : Str)) = false := by simp
    rw [this]
    simp
  have hw : W (((t ++ [b]).length : Int) - (([42] : Str).length : Int)) = (t.length : Int) := by
    show W (((t ++ [b]).length : Int) - ((1 : Nat) : Int)) = _
    rw [hlen, W_of (by omega) (by omega)]
    omega
  have hs1 : sub (t ++ [b]) (t.length : Int) ((t ++ [b]).length : Int) = some [b] := by
    rw [sub_ok (by simp) (Nat.le_refl _), List.take_length, List.drop_left]
  have hs2 : sub (t ++ [b]) ((0 : Nat) : Int) (t.length : Int) = some t := by
    rw [sub_ok (by omega) (by simp), List.drop_zero, List.take_left]
  rw [hp]
  have hlab := label_impl (s := t ++ [b]) hl
  have hact := act_impl (s := t) (by omega)
  refine Ev.bind (a := (if b = 42 then (t, true) else (t ++ [b], false))) ?_ ?_
  · refine Ev.bind (a := (if b = 42 then (t, true) else (t ++ [b], false))) (Ev.bind (a := (b == 42)) (Ev.bind (a := (b == 42)) (Ev.ite_t (decide_eq_true (by simp; omega)) (Ev.bindc (by rw [hw]; exact hs1) (Ev.const (by simp)))) (Ev.pure _)) ?_) (Ev.const (by split <;> rfl))
    by_cases hb : b = 42
    · rw [if_pos hb]
      exact Ev.ite_f (by simp [hb]) (Ev.bindc (by rw [hw]; exact hs2) (Ev.pure _))
    · rw [if_neg hb]
      exact Ev.ite_t (by simp [hb]) (Ev.pure _)
  · refine Ev.bind (a := labelP (t ++ [b])) (Ev.ite_f (by simp) (Ev.bind hlab (Ev.pure _))) ?_
    refine Ev.bind (a := labelP (t ++ [b]) || ((b == 42) && actP t)) ?_ (Ev.pure _)
    cases hL : labelP (t ++ [b])
    · refine Ev.ite_f (by simp) (Ev.bind (a := ((b == 42) && actP t)) ?_ (Ev.const (by simp)))
      by_cases hb : b = 42
      · rw [if_pos hb]
        exact Ev.ite_t rfl (Ev.bind hact (Ev.const (by simp [hb])))
      · rw [if_neg hb]
        exact Ev.ite_f (by simp) (Ev.const (by simp [hb]))
    · exact Ev.ite_t rfl (Ev.const (by simp))
theorem pat_spec {s : Str} (hl : s.length ≤ 1048576) : Ev (fun m => spec_l14Pattern_m m s) (patP s) := by
  have hmx := mx
  unfold spec_l14Pattern_m
  by_cases h : s = []
  · subst h
    exact Ev.const rfl
  obtain ⟨t, b, rfl⟩ := snocStr s h
  have hlen : (t ++ [b]).length = t.length + 1 := by simp
  have hp : patP (t ++ [b]) = (labelP (t ++ [b]) || ((b == 42) && actP t)) := by
    unfold patP
    have : ((t ++ [b]) == ([] : Str)) = false := by simp
    rw [this]
    simp
  have hw : W (((t ++ [b]).length : Int) - 1) = (t.length : Int) := by
    rw [hlen, W_of (by omega) (by omega)]
    omega
  have hs1 : (t ++ [b])[t.length]? = some b := by simp
  have hs2 : sub (t ++ [b]) ((0 : Nat) : Int) (t.length : Int) = some t := by
    rw [sub_ok (by omega) (by simp), List.drop_zero, List.take_left]
  rw [hp]
  have hlab := label_spec (s := t ++ [b]) hl
  have hact := act_spec (s := t) (by omega)
  refine Ev.bind (a := labelP (t ++ [b])) (Ev.ite_f (by simp) (Ev.bind hlab (Ev.pure _))) ?_
  cases hL : labelP (t ++ [b])
  · refine Ev.ite_f (by simp) ?_
    rw [hw]
    refine Ev.bindc (idx_at hs1) (Ev.bind (a := ((b == 42) && actP t)) ?_ (Ev.const (by simp)))
    by_cases hb : b = 42
    · subst hb
      exact Ev.ite_t rfl (Ev.bindc hs2 (Ev.bind hact (Ev.const (by simp))))
    · refine Ev.ite_f ?_ (Ev.const (by simp [hb]))
      intro g
      have := beq_iff_eq.1 g
      exact hb (UInt8.toNat_inj.1 (show b.toNat = (42 : UInt8).toNat by have h42 : (42 : UInt8).toNat = 42 := rfl; omega))
  · exact Ev.ite_t rfl (Ev.const (by simp))
def fieldP (x : Timpl_Node) : Bool := if modP x = true then patP x.2.2.1 else (x.2.2.1 == []) && !x.2.2.2
theorem field_impl {x : Timpl_Node} (hl : x.2.2.1.length ≤ 1048576) : Ev (fun m => impl_Node_fieldsOk_m m x) (fieldP x) := by
  unfold impl_Node_fieldsOk_m fieldP
  refine Ev.bind (Ev.const' fun m => mod_impl) ?_
  cases hm : modP x
  · refine Ev.ite_f (by simp) (Ev.bind (a := ((x.2.2.1 == []) && !x.2.2.2)) ?_ (Ev.const rfl))
    cases hs : (x.2.2.1 == ([] : Str))
    · exact Ev.ite_f (by simp) (Ev.pure _)
    · exact Ev.ite_t rfl (Ev.const (by simp))
  · exact Ev.ite_t rfl (Ev.bind (pat_impl hl) (Ev.const rfl))
def lenP (a : List Timpl_Node) : Bool := decide (1 ≤ a.length ∧ a.length ≤ 30)
theorem shape_spec {a : List Timpl_Node} (hp : ∀ x ∈ a, x.2.2.1.length ≤ 1048576) : Ev (fun m => spec_l14Shape_m m a 30 8) (lenP a && shq (fun x => kindP x && fieldP x) a 1) := by
  unfold spec_l14Shape_m
  by_cases h1 : 1 ≤ a.length
  case neg =>
    have hz : lenP a = false := decide_eq_false (by omega)
    rw [hz, Bool.false_and]
    exact Ev.bind (a := true) (Ev.ite_t (decide_eq_true (by omega)) (Ev.pure _)) (Ev.ite_t rfl (Ev.const rfl))
  by_cases h2 : a.length ≤ 30
  case neg =>
    have hz : lenP a = false := decide_eq_false (by omega)
    rw [hz, Bool.false_and]
    exact Ev.bind (a := true) (Ev.ite_f (by simp only [decide_eq_true_eq]; omega) (Ev.const (congrArg some (decide_eq_true (by omega))))) (Ev.ite_t rfl (Ev.const rfl))
  have hz : lenP a = true := decide_eq_true ⟨h1, h2⟩
  rw [hz, Bool.true_and]
  refine Ev.bind (a := false) (Ev.ite_f (by simp only [decide_eq_true_eq]; omega) (Ev.const (congrArg some (decide_eq_false (by omega))))) (Ev.ite_f (by simp) ?_)
  refine Exists.elim (shape_loop (step := _) (fun x => kindP x && fieldP x) a (fun i n x hx hn hok => ?_) (fun i n x hx h => ?_) (fun n => ?_) a 0 1 rfl (by omega) (by omega)) (fun r hr => Ev.bind hr.1.ev (Ev.const (by
    have e2 := hr.2
    cases r with
    | inl z => exact congrArg some e2
    | inr b => exact congrArg some e2)))
  · have hj : i < a.length := (List.getElem?_eq_some_iff.1 hx).1
    have ho := opN_le x
    simp only [Bool.and_eq_true] at hok
    obtain ⟨hk, hf⟩ := hok
    have hk' := hk
    unfold kindP at hk'
    refine Ev.ite_t (decide_eq_true (by omega)) (Ev.bind (a := false) (Ev.ite_f (by simp; omega) (Ev.bindc (idx_at hx) (Ev.bind (Ev.const' fun m => l00In_eq) (Ev.const (by rw [hk']; rfl))))) (Ev.ite_f (by simp) (Ev.bindc (idx_at hx) (Ev.bind (Ev.const' fun m => op_spec hk) (Ev.bindc (idx_at hx) (Ev.bind (a := modP x) ?_ ?_))))))
    · unfold modP
      by_cases h4 : x.1 = 4
      · exact Ev.ite_t (by simp [h4]) (Ev.const (by simp [h4]))
      · exact Ev.ite_f (by simp [h4]) (Ev.bindc (idx_at hx) (Ev.const (by simp [h4])))
    · have hpat := pat_spec (hp x (List.mem_of_getElem? hx))
      unfold fieldP at hf
      refine Ev.bind (a := false) ?_ (Ev.bind (a := false) ?_ (Ev.ite_f (by simp) (Ev.const ?_)))
      · cases hm : modP x
        · exact Ev.ite_f (by simp) (Ev.pure _)
        · rw [hm, if_pos rfl] at hf
          rw [hf] at hpat
          exact Ev.ite_t rfl (Ev.bindc (idx_at hx) (Ev.bind hpat (Ev.const rfl)))
      · cases hm : modP x
        · rw [hm, if_neg (by simp)] at hf
          simp only [Bool.and_eq_true, beq_iff_eq] at hf
          exact Ev.ite_f (by simp) (Ev.bind (a := false) (Ev.ite_t rfl (Ev.bindc (idx_at hx) (Ev.bind (a := false) (Ev.ite_f (by simp [hf.1]) (Ev.bindc (idx_at hx) (Ev.const (by simpa using hf.2)))) (Ev.const rfl)))) (Ev.const rfl))
        · exact Ev.ite_f (by simp) (Ev.bind (a := false) (Ev.ite_f (by simp) (Ev.const rfl)) (Ev.const rfl))
      · rw [W_of (n := (i : Int) + 1) (by omega) (by omega), W_of (n := (opN x : Int) - 1) (by omega) (by omega), W_of (by omega) (by omega)]
        congr 4
        omega
  · have hj : i < a.length := (List.getElem?_eq_some_iff.1 hx).1
    refine Ev.ite_t (decide_eq_true (by omega)) ?_
    by_cases hn : n = 0
    · subst hn
      exact Ev.bind (a := true) (Ev.ite_t (by simp) (Ev.pure _)) (Ev.ite_t rfl (Ev.const rfl))
    have hz : ¬ (((n : Int) == (0 : Int)) = true) := by simp; omega
    cases hk : kindP x
    · have hk' := hk
      unfold kindP at hk'
      exact Ev.bind (a := true) (Ev.ite_f hz (Ev.bindc (idx_at hx) (Ev.bind (Ev.const' fun m => l00In_eq) (Ev.const (by rw [hk']; rfl))))) (Ev.ite_t rfl (Ev.const rfl))
    have hk' := hk
    unfold kindP at hk'
    have hf : fieldP x = false := by
      rcases h with h | h
      · exact absurd h hn
      · rw [hk] at h; simpa using h
    refine Ev.bind (a := false) (Ev.ite_f hz (Ev.bindc (idx_at hx) (Ev.bind (Ev.const' fun m => l00In_eq) (Ev.const (by rw [hk']; rfl))))) (Ev.ite_f (by simp) (Ev.bindc (idx_at hx) (Ev.bind (Ev.const' fun m => op_spec hk) (Ev.bindc (idx_at hx) (Ev.bind (a := modP x) ?_ ?_)))))
    · unfold modP
      by_cases h4 : x.1 = 4
      · exact Ev.ite_t (by simp [h4]) (Ev.const (by simp [h4]))
      · exact Ev.ite_f (by simp [h4]) (Ev.bindc (idx_at hx) (Ev.const (by simp [h4])))
    · have hpat := pat_spec (hp x (List.mem_of_getElem? hx))
      unfold fieldP at hf
      cases hm : modP x
      · rw [hm, if_neg (by simp)] at hf
        refine Ev.bind (a := false) (Ev.ite_f (by simp) (Ev.pure _)) (Ev.bind (a := true) (Ev.ite_f (by simp) (Ev.bind (a := true) (Ev.ite_t rfl (Ev.bindc (idx_at hx) (Ev.bind (a := true) ?_ (Ev.const rfl)))) (Ev.const rfl))) (Ev.ite_t rfl (Ev.const rfl)))
        cases he : (x.2.2.1 == ([] : Str))
        · exact Ev.ite_t (by simpa [bne] using he) (Ev.pure _)
        · rw [he] at hf
          exact Ev.ite_f (by simpa [bne] using he) (Ev.bindc (idx_at hx) (Ev.const (by simpa using hf)))
      · rw [hm, if_pos rfl] at hf
        rw [hf] at hpat
        exact Ev.bind (a := true) (Ev.ite_t rfl (Ev.bindc (idx_at hx) (Ev.bind hpat (Ev.const rfl)))) (Ev.bind (a := true) (Ev.ite_t rfl (Ev.const rfl)) (Ev.ite_t rfl (Ev.const rfl)))
  · exact Ev.ite_f (by simp) (Ev.pure _)
/-- The node that binds a variable. -/
def condB (a : List Timpl_Node) (k j : Nat) : Bool := match a[j]?, a[k]? with
  | some x, some y => fixP x && (x.2.1 == y.2.1) && decide (k < fend a j)
  | _, _ => false
def bnd (a : List Timpl_Node) (k : Nat) : Nat → Int
  | 0 => -1
  | j + 1 => if condB a k j = true then (j : Int) else bnd a k j
theorem condB_at {a : List Timpl_Node} {k j : Nat} {x y : Timpl_Node} (hx : a[j]? = some x) (hy : a[k]? = some y) : condB a k j = (fixP x && (x.2.1 == y.2.1) && decide (k < fend a j)) := by unfold condB; rw [hx, hy]
theorem binder_loop {step : Nat → Int → Option (Int ⊕ (Unit ⊕ Int))} (a : List Timpl_Node) (k : Nat)
    (hgo : ∀ (j : Nat), j < k → condB a k j = false → Ev (fun m => step m (j : Int)) (.inl ((j : Int) - 1)))
    (hbad : ∀ (j : Nat), j < k → condB a k j = true → Ev (fun m => step m (j : Int)) (.inr (.inr (j : Int))))
    (hend : Ev (fun m => step m (-1)) (.inr (.inl ()))) : ∀ (j : Nat), j ≤ k → ∃ r, EvI step ((j : Int) - 1) r ∧ ctl (β := Unit) (ρ := Int) (τ := Int) r (fun _ => some (-1)) (fun q => some q) = some (bnd a k j)
  | 0, _ => ⟨_, EvI.stop hend, rfl⟩
  | j + 1, hj => by
    have e : (((j + 1 : Nat) : Int) - 1) = (j : Int) := by omega
    rw [e]
    unfold bnd
    cases hc : condB a k j
    · obtain ⟨r, e1, e2⟩ := binder_loop a k hgo hbad hend j (by omega)
      exact ⟨r, EvI.go (hgo j (by omega) hc) e1, e2⟩
    · exact ⟨_, EvI.stop (hbad j (by omega) hc), rfl⟩
theorem bnd_impl {a : List Timpl_Node} (ha : a.length ≤ 30) (hs : shp a 1 = true) {k : Nat} (hk : k < a.length) : Ev (fun m => impl_binder_m m a (k : Int)) (bnd a k k) := by
  unfold impl_binder_m
  obtain ⟨y, hy⟩ := get_lt hk
  rw [W_of (n := (k : Int) - 1) (by omega) (by omega)]
  refine Exists.elim (binder_loop (step := _) a k (fun j hj hc => ?_) (fun j hj hc => ?_) ?_ k (Nat.le_refl _)) (fun r hr => Ev.bind hr.1.ev (Ev.const hr.2))
  · obtain ⟨x, hx⟩ := get_lt (show j < a.length by omega)
    rw [condB_at hx hy] at hc
    refine Ev.ite_t (decide_eq_true (by omega)) (Ev.bindc (idx_at hx) (Ev.bind (Ev.const' fun m => fix_impl) (Ev.bind (a := fixP x && (x.2.1 == y.2.1)) ?_ (Ev.bind (a := false) ?_ (Ev.ite_f (by simp) (Ev.const ?_))))))
    · cases fixP x
      · exact Ev.ite_f (by simp) (Ev.const rfl)
      · exact Ev.ite_t rfl (Ev.bindc (idx_at hx) (Ev.bindc (idx_at hy) (Ev.const (by simp))))
    · cases hq : (fixP x && (x.2.1 == y.2.1))
      · exact Ev.ite_f (by simp) (Ev.const rfl)
      · rw [hq, Bool.true_and] at hc
        have : ¬ k < fend a j := by simpa using hc
        exact Ev.ite_t rfl (Ev.bind (fend_impl ha hs (by omega)) (Ev.const (by simp; omega)))
    · rw [W_of (by omega) (by omega)]
  · obtain ⟨x, hx⟩ := get_lt (show j < a.length by omega)
    rw [condB_at hx hy] at hc
    simp only [Bool.and_eq_true, decide_eq_true_eq] at hc
    obtain ⟨⟨c1, c2⟩, c3⟩ := hc
    exact Ev.ite_t (decide_eq_true (by omega)) (Ev.bindc (idx_at hx) (Ev.bind (Ev.const' fun m => fix_impl) (Ev.bind (a := true) (Ev.ite_t c1 (Ev.bindc (idx_at hx) (Ev.bindc (idx_at hy) (Ev.const (by rw [c2]))))) (Ev.bind (a := true) (Ev.ite_t rfl (Ev.bind (fend_impl ha hs (by omega)) (Ev.const (by simp; omega)))) (Ev.ite_t rfl (Ev.const rfl))))))
  · exact Ev.ite_f (by simp) (Ev.pure _)
theorem bnd_spec {a : List Timpl_Node} (ha : a.length ≤ 30) (hs : shp a 1 = true) (hkd : ∀ x ∈ a, kindP x = true) {k : Nat} (hk : k < a.length) : Ev (fun m => spec_l19Binder_m m a (k : Int)) (bnd a k k) := by
  unfold spec_l19Binder_m
  obtain ⟨y, hy⟩ := get_lt hk
  rw [W_of (n := (k : Int) - 1) (by omega) (by omega)]
  refine Exists.elim (binder_loop (step := _) a k (fun j hj hc => ?_) (fun j hj hc => ?_) ?_ k (Nat.le_refl _)) (fun r hr => Ev.bind hr.1.ev (Ev.const hr.2))
  · obtain ⟨x, hx⟩ := get_lt (show j < a.length by omega)
    rw [condB_at hx hy] at hc
    refine Ev.ite_t (decide_eq_true (by omega)) (Ev.bindc (idx_at hx) (Ev.bind (Ev.const' fun m => fix_spec) (Ev.bind (a := fixP x && (x.2.1 == y.2.1)) ?_ (Ev.bind (a := false) ?_ (Ev.ite_f (by simp) (Ev.const ?_))))))
    · cases fixP x
      · exact Ev.ite_f (by simp) (Ev.const rfl)
      · exact Ev.ite_t rfl (Ev.bindc (idx_at hx) (Ev.bindc (idx_at hy) (Ev.const (by simp))))
    · cases hq : (fixP x && (x.2.1 == y.2.1))
      · exact Ev.ite_f (by simp) (Ev.const rfl)
      · rw [hq, Bool.true_and] at hc
        have : ¬ k < fend a j := by simpa using hc
        exact Ev.ite_t rfl (Ev.bind (fend_spec ha hs hkd (by omega)) (Ev.const (by simp; omega)))
    · rw [W_of (by omega) (by omega)]
  · obtain ⟨x, hx⟩ := get_lt (show j < a.length by omega)
    rw [condB_at hx hy] at hc
    simp only [Bool.and_eq_true, decide_eq_true_eq] at hc
    obtain ⟨⟨c1, c2⟩, c3⟩ := hc
    exact Ev.ite_t (decide_eq_true (by omega)) (Ev.bindc (idx_at hx) (Ev.bind (Ev.const' fun m => fix_spec) (Ev.bind (a := true) (Ev.ite_t c1 (Ev.bindc (idx_at hx) (Ev.bindc (idx_at hy) (Ev.const (by rw [c2]))))) (Ev.bind (a := true) (Ev.ite_t rfl (Ev.bind (fend_spec ha hs hkd (by omega)) (Ev.const (by simp; omega)))) (Ev.ite_t rfl (Ev.const rfl))))))
  · exact Ev.ite_f (by simp) (Ev.pure _)
def boundP (x : Timpl_Node) : Bool := if (fixP x || (x.1 == 6)) = true then decide (0 ≤ x.2.1) && decide (x.2.1 ≤ 2) else x.2.1 == 0
theorem bound_impl {m : Nat} {x : Timpl_Node} : impl_Node_boundOk_m m x = some (boundP x) := by
  unfold impl_Node_boundOk_m boundP
  have hf : impl_Node_isFixed_m m (x.1, x.2.1, x.2.2.1, x.2.2.2) = some (fixP x) := fix_impl
  rw [hf]
  simp only [within_eq, Option.bind_some]
  cases fixP x <;> cases (x.1 == 6) <;> rfl
def nodeP (a : List Timpl_Node) (k : Nat) (x : Timpl_Node) : Bool := boundP x && (!(x.1 == 6) || decide (0 ≤ bnd a k k))
def okNd (a : List Timpl_Node) (k : Nat) : Bool := match a[k]? with | none => true | some x => nodeP a k x
def okNi (a : List Timpl_Node) (k : Nat) : Bool := match a[k]? with | none => true | some x => kindP x && fieldP x && nodeP a k x
theorem okNd_at {a : List Timpl_Node} {k : Nat} {x : Timpl_Node} (h : a[k]? = some x) : okNd a k = nodeP a k x := by unfold okNd; rw [h]
theorem okNi_at {a : List Timpl_Node} {k : Nat} {x : Timpl_Node} (h : a[k]? = some x) : okNi a k = (kindP x && fieldP x && nodeP a k x) := by unfold okNi; rw [h]
def formP (a : List Timpl_Node) : Bool := lenP a && shp a 1 && (a.all fun x => kindP x && fieldP x) && decide (∀ k, k < a.length → okNd a k = true)
theorem okNi_iff (a : List Timpl_Node) : (∀ k, k < a.length → okNi a k = true) ↔ (a.all fun x => kindP x && fieldP x) = true ∧ ∀ k, k < a.length → okNd a k = true := by
  constructor
  · intro h
    refine ⟨List.all_eq_true.2 fun x hx => ?_, fun k hk => ?_⟩
    · obtain ⟨k, hk, rfl⟩ := List.getElem_of_mem hx
      have := h k hk
      rw [okNi_at (List.getElem?_eq_getElem hk)] at this
      simp only [Bool.and_eq_true] at this ⊢
      exact this.1
    · obtain ⟨x, hx⟩ := get_lt hk
      have := h k hk
      rw [okNi_at hx] at this
      rw [okNd_at hx]
      simp only [Bool.and_eq_true] at this
      exact this.2
  · rintro ⟨h1, h2⟩ k hk
    obtain ⟨x, hx⟩ := get_lt hk
    have q1 := List.all_eq_true.1 h1 x (List.mem_of_getElem? hx)
    have q2 := h2 k hk
    rw [okNd_at hx] at q2
    rw [okNi_at hx, q1, q2]
    rfl
theorem form_impl {a : List Timpl_Node} (hp : ∀ x ∈ a, x.2.2.1.length ≤ 1048576) : Ev (fun m => impl_ValidFormula_m m a) (formP a) := by
  unfold impl_ValidFormula_m formP
  refine Ev.bind (Ev.const' fun m => within_eq) ?_
  by_cases h1 : 1 ≤ a.length ∧ a.length ≤ 30
  case neg =>
    have hz : lenP a = false := decide_eq_false h1
    rw [hz, Bool.false_and, Bool.false_and, Bool.false_and]
    refine Ev.bind (a := true) (Ev.ite_t ?_ (Ev.pure _)) (Ev.ite_t rfl (Ev.const rfl))
    simp
    omega
  have hz : lenP a = true := decide_eq_true h1
  rw [hz, Bool.true_and]
  have hw : (decide ((1 : Int) ≤ (a.length : Int)) && decide ((a.length : Int) ≤ 30)) = true := by simp; omega
  rw [hw]
  refine Ev.bind (a := !(shp a 1)) (Ev.ite_f (by simp) (Ev.bind (shape_impl h1.2) (Ev.pure _))) ?_
  cases hs : shp a 1
  · exact Ev.ite_t rfl (Ev.const rfl)
  refine Ev.ite_f (by simp) ((Ev.all a.length (okNi a) false true (fun k hk hok => ?_) (fun k hk hok => ?_) (Ev.ite_f (by simp) (Ev.pure _))).eq ?_)
  · obtain ⟨x, hx⟩ := get_lt hk
    rw [okNi_at hx] at hok
    unfold nodeP at hok
    simp only [Bool.and_eq_true] at hok
    obtain ⟨⟨q1, q2⟩, q3, q4⟩ := hok
    have q1' := q1
    unfold kindP at q1'
    have hf := field_impl (hp x (List.mem_of_getElem? hx))
    rw [q2] at hf
    refine Ev.ite_t (decide_eq_true (by omega)) (Ev.bindc (idx_at hx) (Ev.bind (Ev.const' fun m => within_eq) (Ev.bind (a := false) (Ev.ite_f (by simpa using q1') (Ev.bind hf (Ev.const rfl))) (Ev.bind (a := false) (Ev.ite_f (by simp) (Ev.bind (Ev.const' fun m => bound_impl) (Ev.const (by rw [q3]; rfl)))) (Ev.bind (a := false) (Ev.ite_f (by simp) (Ev.bind (a := false) ?_ (Ev.const rfl))) (Ev.ite_f (by simp) (Ev.const ?_)))))))
    · cases h6 : (x.1 == 6)
      · exact Ev.ite_f (by simp) (Ev.const rfl)
      · rw [h6] at q4
        have : (0 : Int) ≤ bnd a k k := by simpa using q4
        exact Ev.ite_t rfl (Ev.bind (bnd_impl h1.2 hs hk) (Ev.const (by simp; omega)))
    · rw [W_succ hk (by omega)]
  · obtain ⟨x, hx⟩ := get_lt hk
    rw [okNi_at hx] at hok
    unfold nodeP at hok
    have hf := field_impl (hp x (List.mem_of_getElem? hx))
    refine Ev.ite_t (decide_eq_true (by omega)) (Ev.bindc (idx_at hx) (Ev.bind (Ev.const' fun m => within_eq) (Ev.bind (a := !(kindP x && fieldP x)) ?_ (Ev.bind (a := !(kindP x && fieldP x && boundP x)) ?_ (Ev.bind (a := true) ?_ (Ev.ite_t rfl (Ev.const rfl)))))))
    · unfold kindP
      cases hk' : (decide ((0 : Int) ≤ x.1) && decide (x.1 ≤ 8))
      · exact Ev.ite_t rfl (Ev.const rfl)
      · exact Ev.ite_f (by simp) (Ev.bind hf (Ev.const (by simp)))
    · cases hq : (kindP x && fieldP x)
      · exact Ev.ite_t rfl (Ev.const rfl)
      · exact Ev.ite_f (by simp) (Ev.bind (Ev.const' fun m => bound_impl) (Ev.const (by simp)))
    · cases hq : (kindP x && fieldP x && boundP x)
      · exact Ev.ite_t rfl (Ev.const rfl)
      · simp only [Bool.and_eq_true] at hq
        obtain ⟨⟨q1, q2⟩, q3⟩ := hq
        rw [q1, q2, q3] at hok
        simp only [Bool.true_and] at hok
        refine Ev.ite_f (by simp) (Ev.bind (a := true) ?_ (Ev.const rfl))
        cases h6 : (x.1 == 6)
        · rw [h6] at hok
          simp at hok
        · rw [h6] at hok
          have : ¬ (0 : Int) ≤ bnd a k k := by simpa using hok
          exact Ev.ite_t rfl (Ev.bind (bnd_impl h1.2 hs hk) (Ev.const (by simp; omega)))
  · by_cases hA : ∀ k, k < a.length → okNi a k = true
    · rw [if_pos hA]
      obtain ⟨z1, z2⟩ := (okNi_iff a).1 hA
      rw [z1, decide_eq_true z2]
      rfl
    · rw [if_neg hA]
      cases z1 : (a.all fun x => kindP x && fieldP x)
      · rfl
      · rw [decide_eq_false (fun z2 => hA ((okNi_iff a).2 ⟨z1, z2⟩))]
        rfl
theorem form_spec {a : List Timpl_Node} (hp : ∀ x ∈ a, x.2.2.1.length ≤ 1048576) : Ev (fun m => spec_l19Is_m m a) (formP a) := by
  unfold spec_l19Is_m formP
  refine Ev.bind (shape_spec hp) ?_
  rw [shq_eq, ← Bool.and_assoc]
  cases hS : (lenP a && shp a 1 && (a.all fun x => kindP x && fieldP x))
  · exact Ev.ite_t rfl (Ev.const rfl)
  unfold lenP at hS
  simp only [Bool.and_eq_true, decide_eq_true_eq] at hS
  obtain ⟨⟨h1, hs⟩, hA⟩ := hS
  have hkd : ∀ x ∈ a, kindP x = true := fun x hx => by
    have := List.all_eq_true.1 hA x hx
    simp only [Bool.and_eq_true] at this
    exact this.1
  rw [Bool.true_and]
  refine Ev.ite_f (by simp) ((Ev.all a.length (okNd a) false true (fun k hk hok => ?_) (fun k hk hok => ?_) (Ev.ite_f (by simp) (Ev.pure _))).eq ?_)
  · obtain ⟨x, hx⟩ := get_lt hk
    rw [okNd_at hx] at hok
    unfold nodeP boundP at hok
    simp only [Bool.and_eq_true] at hok
    obtain ⟨q3, q4⟩ := hok
    have K : Ev (fun m => (idx a (k : Int)).bind fun x277 => (if (x277.1 == (6 : Int)) = true then (spec_l19Binder_m m a (k : Int)).bind fun x299 => some (decide (x299 < (0 : Int))) else some false).bind fun t294 => (if t294 = true then some (.inr (.inr false)) else some (.inl ((W ((k : Int) + (1 : Int))))) : Option (Int ⊕ (Unit ⊕ Bool)))) (.inl ((k + 1 : Nat) : Int)) := by
      refine Ev.bindc (idx_at hx) (Ev.bind (a := false) ?_ (Ev.ite_f (by simp) (Ev.const ?_)))
      · cases h6 : (x.1 == 6)
        · exact Ev.ite_f (by simp) (Ev.const rfl)
        · rw [h6] at q4
          have : (0 : Int) ≤ bnd a k k := by simpa using q4
          exact Ev.ite_t rfl (Ev.bind (bnd_spec h1.2 hs hkd hk) (Ev.const (by simp; omega)))
      · rw [W_succ hk (by omega)]
    refine Ev.ite_t (decide_eq_true (by omega)) (Ev.join (Ev.bindc (idx_at hx) (Ev.bind (Ev.const' fun m => fix_spec) (Ev.bind (a := fixP x || (x.1 == 6)) ?_ ?_))))
    · cases fixP x
      · exact Ev.ite_f (by simp) (Ev.bindc (idx_at hx) (Ev.const rfl))
      · exact Ev.ite_t rfl (Ev.const rfl)
    · cases hq : (fixP x || (x.1 == 6))
      · rw [hq, if_neg (by simp)] at q3
        exact Ev.ite_f (by simp) (Ev.bindc (idx_at hx) (Ev.ite_f (by simpa [bne] using q3) K))
      · rw [hq, if_pos rfl] at q3
        exact Ev.ite_t rfl (Ev.bindc (idx_at hx) (Ev.bind (Ev.const' fun m => l00In_eq) (Ev.ite_f (by simpa using q3) K)))
  · obtain ⟨x, hx⟩ := get_lt hk
    rw [okNd_at hx] at hok
    unfold nodeP boundP at hok
    refine Ev.ite_t (decide_eq_true (by omega)) (Ev.join (Ev.bindc (idx_at hx) (Ev.bind (Ev.const' fun m => fix_spec) (Ev.bind (a := fixP x || (x.1 == 6)) ?_ ?_))))
    · cases fixP x
      · exact Ev.ite_f (by simp) (Ev.bindc (idx_at hx) (Ev.const rfl))
      · exact Ev.ite_t rfl (Ev.const rfl)
    have K : (x.1 == 6) = true → ¬ (0 : Int) ≤ bnd a k k → Ev (fun m => (idx a (k : Int)).bind fun x277 => (if (x277.1 == (6 : Int)) = true then (spec_l19Binder_m m a (k : Int)).bind fun x299 => some (decide (x299 < (0 : Int))) else some false).bind fun t294 => (if t294 = true then some (.inr (.inr false)) else some (.inl ((W ((k : Int) + (1 : Int))))) : Option (Int ⊕ (Unit ⊕ Bool)))) (.inr (.inr false)) := fun h6 hb =>
      Ev.bindc (idx_at hx) (Ev.bind (a := true) (Ev.ite_t h6 (Ev.bind (bnd_spec h1.2 hs hkd hk) (Ev.const (by simp; omega)))) (Ev.ite_t rfl (Ev.const rfl)))
    cases hq : (fixP x || (x.1 == 6))
    · rw [hq, if_neg (by simp)] at hok
      have h6 : (x.1 == 6) = false := by
        cases h6 : (x.1 == 6)
        · rfl
        · rw [h6] at hq; simp at hq
      rw [h6] at hok
      exact Ev.ite_f (by simp) (Ev.bindc (idx_at hx) (Ev.ite_t (by simpa [bne] using hok) (Ev.const rfl)))
    · rw [hq, if_pos rfl] at hok
      refine Ev.ite_t rfl (Ev.bindc (idx_at hx) (Ev.bind (Ev.const' fun m => l00In_eq) ?_))
      cases hin : (decide ((0 : Int) ≤ x.2.1) && decide (x.2.1 ≤ 2))
      · exact Ev.ite_t rfl (Ev.const rfl)
      · rw [hin, Bool.true_and] at hok
        refine Ev.ite_f (by simp) ?_
        cases h6 : (x.1 == 6)
        · rw [h6] at hok; simp at hok
        · rw [h6] at hok
          exact K h6 (by simpa using hok)
  · by_cases hB : ∀ k, k < a.length → okNd a k = true
    · rw [if_pos hB, decide_eq_true hB]
    · rw [if_neg hB, decide_eq_false hB]
def askP (a : List Timpl_Node) (v : Int) : Int := if formP a = true then (if (decide (0 ≤ v) && decide (v ≤ W ((a.length : Int) - 1))) = true then 0 else 2) else 1
theorem ask_impl {a : List Timpl_Node} (hp : ∀ x ∈ a, x.2.2.1.length ≤ 1048576) {v : Int} : Ev (fun m => impl_nodeCode_m m a v) (askP a v) := by
  unfold impl_nodeCode_m askP
  refine Ev.bind (form_impl hp) ?_
  cases formP a
  · exact Ev.ite_t rfl (Ev.const rfl)
  refine Ev.ite_f (by simp) (Ev.bind (Ev.const' fun m => index_eq) ?_)
  cases (decide (0 ≤ v) && decide (v ≤ W ((a.length : Int) - 1)))
  · exact Ev.ite_t rfl (Ev.const rfl)
  · exact Ev.ite_f (by simp) (Ev.const rfl)
theorem ask_spec {a : List Timpl_Node} (hp : ∀ x ∈ a, x.2.2.1.length ≤ 1048576) {v : Int} : Ev (fun m => spec_l19Ask_m m a v) (askP a v) := by
  unfold spec_l19Ask_m askP
  refine Ev.bind (form_spec hp) ?_
  cases formP a
  · exact Ev.ite_t rfl (Ev.const rfl)
  refine Ev.ite_f (by simp) (Ev.bind (Ev.const' fun m => l00In_eq) ?_)
  cases (decide (0 ≤ v) && decide (v ≤ W ((a.length : Int) - 1)))
  · exact Ev.ite_t rfl (Ev.const rfl)
  · exact Ev.ite_f (by simp) (Ev.const rfl)
theorem ask_zero {a : List Timpl_Node} {v : Int} (h : askP a v = 0) : a.length ≤ 30 ∧ shp a 1 = true ∧ (∀ x ∈ a, kindP x = true) ∧ ∃ k : Nat, v = (k : Int) ∧ k < a.length := by
  unfold askP at h
  split at h
  · rename_i hf
    split at h
    · rename_i hv
      unfold formP lenP at hf
      simp only [Bool.and_eq_true, decide_eq_true_eq] at hf hv
      obtain ⟨⟨⟨h1, hs⟩, hA⟩, _⟩ := hf
      rw [W_of (by omega) (by omega)] at hv
      refine ⟨h1.2, hs, fun x hx => ?_, v.toNat, by omega, by omega⟩
      have := List.all_eq_true.1 hA x hx
      simp only [Bool.and_eq_true] at this
      exact this.1
    · cases h
  · cases h
theorem binder_core {a : List Tlaws_Node} (h : a.length ≤ 1048576 ∧ ∀ x ∈ a, x.2.2.1.length ≤ 1048576) {v : Int} : ∃ r, Ev (fun m => spec_BinderOf_m m a v) r ∧ Ev (fun m => impl_BinderOf_m m a v) r := by
  unfold spec_BinderOf_m impl_BinderOf_m
  by_cases h0 : askP a v = 0
  · obtain ⟨h1, hs, hk, k, rfl, hkl⟩ := ask_zero h0
    have e1 := ask_spec (a := a) h.2 (v := (k : Int))
    have e2 := ask_impl (a := a) h.2 (v := (k : Int))
    rw [h0] at e1 e2
    obtain ⟨x, hx⟩ := get_lt hkl
    by_cases h6 : x.1 = 6
    · exact ⟨(bnd a k k, 0), Ev.bind e1 (Ev.ite_f (by simp) (Ev.bindc (idx_at hx) (Ev.ite_f (by simp [h6]) (Ev.bind (bnd_spec h1 hs hk hkl) (Ev.pure _))))), Ev.bind e2 (Ev.ite_f (by simp) (Ev.bindc (idx_at hx) (Ev.ite_f (by simp [h6]) (Ev.bind (bnd_impl h1 hs hkl) (Ev.pure _)))))⟩
    · exact ⟨(0, 3), Ev.bind e1 (Ev.ite_f (by simp) (Ev.bindc (idx_at hx) (Ev.ite_t (by simpa using h6) (Ev.pure _)))), Ev.bind e2 (Ev.ite_f (by simp) (Ev.bindc (idx_at hx) (Ev.ite_t (by simpa using h6) (Ev.pure _))))⟩
  · exact ⟨(0, askP a v), Ev.bind (ask_spec h.2) (Ev.ite_t (by simpa using h0) (Ev.pure _)), Ev.bind (ask_impl h.2) (Ev.ite_t (by simpa using h0) (Ev.pure _))⟩
abbrev GNd : Tlaws_Node → Prop := gAnd (gInt .i64) (gAnd (gInt .i64) (gAnd gStr gAny))
abbrev GNds : List Tlaws_Node → Prop := gList GNd
theorem sz_node {x : Tlaws_Node} (g : GNd x) {b : Int} (h0 : 0 ≤ b) (hb : b ≤ 1048576) : ∃ r, Ev (fun n => laws_szNode_m n x b) r ∧ Sz b r (x.2.2.1.length ≤ 1048576) := sz_leaf h0 hb g.2.2.1
theorem sz_nodes {a : List Tlaws_Node} (g : GNds a) {b : Int} (h0 : 0 ≤ b) (hb : b ≤ 1048576) : ∃ r, Ev (fun n => laws_szNodeS_m n a b) r ∧ Sz b r (a.length ≤ 1048576 ∧ ∀ x ∈ a, x.2.2.1.length ≤ 1048576) :=
  sz_loop (fun x hx _ h0 hb => sz_node (g.2 x hx) h0 hb) g.1 h0 hb
theorem toB_nodes {a : List Tlaws_Node} (h : a.length ≤ 1048576 ∧ ∀ x ∈ a, x.2.2.1.length ≤ 1048576) : Ev (fun n => laws_toNodeS_m n a) a := by
  have := to_loop («to» := fun n x => laws_toNode_m n x) (f := id) (a := a) (z := (0, 0, [], false)) (fun x hx => Ev.const rfl) h.1
  rw [List.map_id] at this
  exact this
theorem eqB_nodes {a : List Timpl_Node} (h : a.length ≤ 1048576 ∧ ∀ x ∈ a, x.2.2.1.length ≤ 1048576) : Ev (fun n => laws_eqNodeS_m n a a) true :=
  have hm : maxLen = 9223372036854775807 := by unfold maxLen; rfl
  eq_loop (eq := fun n x y => laws_eqNode_m n x y) (fun x hx => Ev.ite_f (by simp) (Ev.ite_f (by simp) (Ev.ite_f (by simp) (Ev.ite_f (by simp) (Ev.pure _))))) (by have := h.1; omega)
set_option maxHeartbeats 4000000 in
theorem law_BinderOf {a : List Tlaws_Node} {v : Int} (g_a : (GNds) a) (_g_v : (gInt .i64) v) : ∃ n, laws_FnExactBinderOf_m n a v = some true := by
  have hm : maxLen = 9223372036854775807 := by unfold maxLen; rfl
  refine Ev.one (f := fun n => laws_FnExactBinderOf_m n a v) ?_
  unfold laws_FnExactBinderOf_m
  obtain ⟨r1, h1, s1⟩ := sz_nodes g_a (b := (1048576 : Int)) (by omega) (by omega)
  refine Ev.bind h1 ?_
  by_cases n1 : r1 < 0
  · exact Ev.ite_t (decide_eq_true n1) (Ev.pure _)
  rcases s1 with s1 | ⟨p1, q1, B_a⟩
  · exact absurd s1 n1
  refine Ev.ite_f (by simpa using n1) ?_
  obtain ⟨r, hs, hi⟩ := binder_core B_a (v := v)
  have to_a_ := toB_nodes B_a
  have eq_a_ := eqB_nodes B_a
  repeat (first
    | exact Ev.pure _
    | refine Ev.bind (by with_reducible assumption) ?_
    | refine Ev.ite_f (by first | (simp; done) | (simp; omega)) ?_
    | refine Ev.bind (Ev.ite_f (by first | (simp; done) | (simp; omega)) (Ev.bind (by with_reducible assumption) (Ev.pure _))) ?_
    | refine Ev.bind (a := false) (Ev.ite_f (by first | (simp; done) | (simp; omega)) (Ev.const (by simp))) ?_
    | refine Ev.bind (a := false) (Ev.ite_f (by first | (simp; done) | (simp; omega)) (Ev.bind (by with_reducible assumption) (Ev.const (by simp)))) ?_
    | refine Ev.bindc (by with_reducible rfl) ?_)
end Go.Proofs.YtalcdoidimmdlaaGreatDoor

