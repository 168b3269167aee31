/-
  The plain laws of a statement, joined into one text.
-/
import Derived.Test.YtlmopoaeekhmeaaGreatDoorF0
import Derived.Test.YtlmopoaeekhmeaaGreatDoorF1
import Derived.Test.YtlmopoaeekhmeaaGreatDoorF2
import Derived.Test.YtlmopoaeekhmeaaGreatDoorF3
import Derived.Test.YtlmopoaeekhmeaaGreatDoorF4
import Derived.Test.YtlmopoaeekhmeaaGreatDoorF5
import Derived.Test.YtlmopoaeekhmeaaGreatDoorF6
import Derived.Test.YtlmopoaeekhmeaaGreatDoorFS
import Derived.Test.YtlmopoaeekhmeaaGreatDoorGxFd
import Derived.Test.YtlmopoaeekhmeaaGreatDoorGxI
import Derived.Test.YtlmopoaeekhmeaaGreatDoorGxP
import Derived.Test.YtlmopoaeekhmeaaGreatDoorGxU
import Derived.Test.YtlmopoaeekhmeaaGreatDoorGxZ
import Derived.Test.YtlmopoaeekhmeaaGreatDoorLReadLts
namespace Go.Proofs.YtlmopoaeekhmeaaGreatDoor
open Go.Gx
theorem l00In_eq {n : Nat} {a b c : Int} : spec_l00In_m n a b c = some (decide (b ≤ a) && decide (a ≤ c)) := by
  unfold spec_l00In_m
  by_cases h : b ≤ a <;> simp [h]
theorem within_eq {n : Nat} {a b c : Int} : impl_within_m n a b c = some (decide (b ≤ a) && decide (a ≤ c)) := by
  unfold impl_within_m
  by_cases h : b ≤ a <;> simp [h]
theorem index_eq {n : Nat} {a b : Int} : impl_index_m n a b = some (decide (0 ≤ a) && decide (a ≤ W (b - 1))) := by
  unfold impl_index_m
  simp [within_eq]


/-! ### changes of the sign -/
/-! ### marks -/
/-! ### the blocks -/
/-! ### places in a list -/
def pos (xs : List Int) (c : Int) : Int := match xs.findIdx? (· == c) with
  | some k => (k : Int)
  | none => -1

/-! ### letters and names -/
def small (b : UInt8) : Bool := decide ((97 : Int) ≤ (b.toNat : Int)) && decide ((b.toNat : Int) ≤ 122)
def dg (b : UInt8) : Bool := decide ((48 : Int) ≤ (b.toNat : Int)) && decide ((b.toNat : Int) ≤ 57)
theorem dg_eq (b : UInt8) : dg b = isDig b := by
  unfold dg isDig
  rw [show decide ((48 : Int) ≤ (b.toNat : Int)) = decide (48 ≤ b.toNat) from decide_eq_decide.2 (by omega), show decide ((b.toNat : Int) ≤ 57) = decide (b.toNat ≤ 57) from decide_eq_decide.2 (by omega)]
theorem small_m {m : Nat} {b : UInt8} : spec_l01Small_m m (b.toNat : Int) = some (small b) := by unfold spec_l01Small_m; rw [and_some]; rfl
theorem dg_m {m : Nat} {b : UInt8} : spec_l01Digit_m m (b.toNat : Int) = some (dg b) := by unfold spec_l01Digit_m; rw [and_some]; rfl
theorem idg_m {m : Nat} {b : UInt8} : impl_isDigit_m m (b.toNat : Int) = some (dg b) := by unfold impl_isDigit_m; rw [and_some]; rfl

def okN (s : Str) (k : Nat) : Bool := match s[k]? with
  | none => true
  | some b => !(!(small b) && (((k : Int) == 0) || !(dg b)))
def okS (s : Str) (k : Nat) : Bool := match s[k]? with
  | none => true
  | some b => !(!(small b) && !(dg b))
def nameP (s : Str) : Bool := decide (1 ≤ s.length) && decide (s.length ≤ 10) && decide (∀ k, k < s.length → okN s k = true)
def actP (s : Str) : Bool := nameP s && (s != [116, 97, 117])

theorem name_impl {s : Str} (hl : s.length ≤ maxLen) : Ev (fun m => impl_IsName_m m s) (nameP s) := by
  have hm := maxLen_le
  unfold impl_IsName_m
  refine Ev.bind (EvI.all s.length (okN s) false (fun k hk hok => Ev.const' fun m => ?_) (fun k hk hok => Ev.const' fun m => ?_) (Ev.ite_f (by simp) (Ev.pure _))).ev (Ev.const ?_)
  · obtain ⟨b, hb⟩ := get_lt hk
    have hk' : decide ((k : Int) < (s.length : Int)) = true := by simpa using hk
    simp only [okN, hb] at hok
    have e : (!(small b) && (((k : Int) == 0) || !(dg b))) = false := by rwa [Bool.not_eq_true'] at hok
    unfold small at e
    simp only [hk', if_true, idx_at hb, Option.bind_some, and_some, idg_m, or_some, e, W_succ hk (by omega)]
    rfl
  · obtain ⟨b, hb⟩ := get_lt hk
    have hk' : decide ((k : Int) < (s.length : Int)) = true := by simpa using hk
    simp only [okN, hb] at hok
    have e : (!(small b) && (((k : Int) == 0) || !(dg b))) = true := by rwa [Bool.not_eq_false'] at hok
    unfold small at e
    simp only [hk', if_true, idx_at hb, Option.bind_some, and_some, idg_m, or_some, e]
  · unfold nameP
    rw [show decide (1 ≤ s.length) = decide ((1 : Int) ≤ (s.length : Int)) from decide_eq_decide.2 (by omega), show decide (s.length ≤ 10) = decide ((s.length : Int) ≤ 10) from decide_eq_decide.2 (by omega)]
    by_cases h : ∀ k, k < s.length → okN s k = true
    · rw [if_pos h, ctl_l, decide_eq_true h, Bool.and_true, and_some]; rfl
    · rw [if_neg h, ctl_r, decide_eq_false h, Bool.and_false]

theorem name_all {s : Str} {b : UInt8} {r : Str} (e : s = b :: r) : (∀ k, k < s.length → okN s k = true) ↔ small b = true ∧ ∀ k, k < s.length → okS s k = true := by
  subst e
  constructor
  · intro h
    have h0 := h 0 (by simp)
    simp [okN] at h0
    refine ⟨h0, fun k hk => ?_⟩
    have h1 := h k hk
    obtain ⟨c, hc⟩ := get_lt hk
    simp only [okN, okS, hc] at h1 ⊢
    cases hs : small c <;> cases hd : dg c <;> simp [hs, hd] at h1 ⊢
  · rintro ⟨h0, h⟩ k hk
    have h1 := h k hk
    obtain ⟨c, hc⟩ := get_lt hk
    simp only [okN, okS, hc] at h1 ⊢
    cases k with
    | zero => have : b = c := by simpa using hc
              subst this; simp [h0]
    | succ j =>
      have : (((j + 1 : Nat) : Int) == 0) = false := beq_false_of_ne (by omega)
      rw [this]
      simpa using h1

theorem name_spec {s : Str} (_hl : s.length ≤ maxLen) : Ev (fun m => spec_l01Name_m m s) (nameP s) := by
  have hm := maxLen_le
  unfold spec_l01Name_m
  cases hs : s with
  | nil => exact (Ev.const' fun m => rfl : Ev (fun m => _) false)
  | cons b r =>
    rw [← hs]
    have h1 : (s == ([] : Str)) = false := by rw [hs]; rfl
    have hb : s[0]? = some b := by rw [hs]; rfl
    simp only [h1, or_some, Option.bind_some, Bool.false_or]
    by_cases h2 : 10 < s.length
    · have h2' : decide ((10 : Int) < (s.length : Int)) = true := decide_eq_true (by omega)
      simp only [h2', if_true, Option.bind_some]
      refine (Ev.pure _).eq ?_
      unfold nameP
      rw [decide_eq_false (show ¬ s.length ≤ 10 by omega)]
      simp
    · have h2' : decide ((10 : Int) < (s.length : Int)) = false := decide_eq_false (by omega)
      have hi : idx s (0 : Int) = some b := idx_at (k := 0) hb
      simp only [h2', Bool.false_eq_true, if_false, hi, Option.bind_some, small_m]
      have hN := name_all hs
      have hlen : 1 ≤ s.length := by rw [hs]; simp
      cases h3 : small b with
      | false =>
        refine (Ev.ite_t (by rfl) (Ev.pure _)).eq ?_
        unfold nameP
        have : ¬ ∀ k, k < s.length → okN s k = true := fun h => by have := (hN.1 h).1; rw [h3] at this; cases this
        rw [decide_eq_false this, Bool.and_false]
      | true =>
        refine Ev.ite_f (by simp) ?_
        refine (Ev.all s.length (okS s) false true (fun k hk hok => Ev.const' fun m => ?_) (fun k hk hok => Ev.const' fun m => ?_) (Ev.ite_f (by simp) (Ev.pure _))).eq ?_
        · obtain ⟨c, hc⟩ := get_lt hk
          have hk' : decide ((k : Int) < (s.length : Int)) = true := by simpa using hk
          simp only [okS, hc] at hok
          have e : (!(small c) && !(dg c)) = false := by rwa [Bool.not_eq_true'] at hok
          simp only [hk', if_true, idx_at hc, Option.bind_some, dg_m, and_some, e, W_succ hk (by omega)]
          rfl
        · obtain ⟨c, hc⟩ := get_lt hk
          have hk' : decide ((k : Int) < (s.length : Int)) = true := by simpa using hk
          simp only [okS, hc] at hok
          have e : (!(small c) && !(dg c)) = true := by rwa [Bool.not_eq_false'] at hok
          simp only [hk', if_true, idx_at hc, Option.bind_some, dg_m, and_some, e]
        · unfold nameP
          rw [decide_eq_true hlen, decide_eq_true (show s.length ≤ 10 by omega)]
          by_cases h : ∀ k, k < s.length → okS s k = true
          · rw [if_pos h, decide_eq_true (hN.2 ⟨h3, h⟩)]; rfl
          · rw [if_neg h, decide_eq_false (fun h' => h (hN.1 h').2)]; rfl

theorem act_impl {s : Str} (hl : s.length ≤ maxLen) : Ev (fun m => impl_IsAction_m m s) (actP s) := by
  unfold impl_IsAction_m
  exact Ev.bind (name_impl hl) (Ev.const (by rw [and_some]; rfl))
theorem act_spec {s : Str} (hl : s.length ≤ maxLen) : Ev (fun m => spec_l01Action_m m s) (actP s) := by
  unfold spec_l01Action_m
  exact Ev.bind (name_spec hl) (Ev.const (by rw [and_some]; rfl))

/-! ### numbers -/
def numV (w : Str) : Int := (num w).getD 0
def numB (w : Str) : Bool := (num w).isSome
theorem dec_m {m : Nat} {n : Int} (h1 : -9223372036854775808 ≤ n) (h2 : n ≤ 9223372036854775807) : impl_Decimal_m m n = some (Lib.itoa n) := by
  unfold impl_Decimal_m strconv_FormatInt_m
  rw [if_pos ⟨rfl, h1, h2⟩]
  rfl
theorem read_dec {m : Nat} {w : Str} (hl : w.length ≤ 281474976710656) : impl_ReadDecimal_m m w = some (numV w, numB w) := by
  unfold impl_ReadDecimal_m strings_TrimPrefix_m
  rw [if_pos trivial]
  simp only [Option.bind_some]
  unfold numV numB
  rw [← rdDec_eq]
  unfold rdDec
  by_cases h : 18 < (Lib.trimPrefix w [45]).length
  · rw [if_pos h, if_pos (decide_eq_true (by omega))]; rfl
  · rw [if_neg h, if_neg (by rw [decide_eq_false (by omega)]; simp)]
    unfold strconv_ParseInt_m
    rw [if_pos ⟨rfl, rfl, hl⟩]
    cases hp : Lib.parseIntB 64 w with
    | ok v =>
      obtain ⟨h1, h2⟩ := parse_range hp
      simp only [Option.bind_some, dec_m h1 h2, Bool.false_eq_true, if_false]
      by_cases hi : Lib.itoa v = w
      · simp [hi]
      · have : (Lib.itoa v != w) = true := by simpa using hi
        simp [hi, this]
    | range => rfl
    | _ => rfl

theorem drop_take_succ {s : Str} {k i : Nat} {b : UInt8} (h : s[k]? = some b) (hi : i ≤ k) : (s.take (k + 1)).drop i = (s.take k).drop i ++ [b] := by
  rw [List.take_add_one, h, List.drop_append_of_le_length (by
    have : k < s.length := by
      rcases Nat.lt_or_ge k s.length with h' | h'
      · exact h'
      · rw [List.getElem?_eq_none h'] at h; cases h
    simp; omega)]
  rfl

theorem digits_loop {w : Str} (hl : w.length ≤ maxLen) {i : Nat} (hi : i ≤ w.length) (h18 : w.length - i ≤ 18) :
    Ev (fun m => iter (fun (s : (Int) × (Int)) => (match s with | (x59, x60) => (if (decide (x60 < (w.length : Int))) = true then (idx w x60).bind fun b88 => (spec_l01Digit_m m (b88.toNat : Int)).bind fun x92 => (if (!x92) = true then some (.inr (.inr ((0 : Int), false))) else (idx w x60).bind fun b96 => some (.inl ((W ((W ((10 : Int) * x59)) + (W (IntKind.u8.wrap ((b96.toNat : Int) - (48 : Int)))))), (W (x60 + (1 : Int)))))) else some (.inr (.inl (x59)))) : Option (((Int) × (Int)) ⊕ ((Int) ⊕ ((Int × Bool)))))) m ((0 : Int), (i : Int)))
      (if (w.drop i).all isDig = true then .inl (valN (w.drop i) : Int) else .inr ((0 : Int), false)) := by
  have hm := maxLen_le
  refine Exists.elim (EvI.count (step := fun m (s : (Int) × (Int)) => (match s with | (x59, x60) => (if (decide (x60 < (w.length : Int))) = true then (idx w x60).bind fun b88 => (spec_l01Digit_m m (b88.toNat : Int)).bind fun x92 => (if (!x92) = true then some (.inr (.inr ((0 : Int), false))) else (idx w x60).bind fun b96 => some (.inl ((W ((W ((10 : Int) * x59)) + (W (IntKind.u8.wrap ((b96.toNat : Int) - (48 : Int)))))), (W (x60 + (1 : Int)))))) else some (.inr (.inl (x59)))) : Option (((Int) × (Int)) ⊕ ((Int) ⊕ ((Int × Bool))))))
    w.length (fun k (_ : Unit) => ((valN ((w.take k).drop i) : Int), (k : Int))) (fun k _ => i ≤ k ∧ ((w.take k).drop i).all isDig = true)
    (fun r => r = (if (w.drop i).all isDig = true then .inl (valN (w.drop i) : Int) else .inr ((0 : Int), false))) ?hs ?hn hi (t := ()) ⟨Nat.le_refl _, by rw [List.drop_take_self]; rfl⟩) (fun res ⟨h1, h2⟩ => by
    subst h2
    rw [List.drop_take_self] at h1
    exact h1.ev)
  · rintro k t hk ⟨hik, hI⟩
    obtain ⟨b, hb⟩ := get_lt hk
    have hk' : decide ((k : Int) < (w.length : Int)) = true := by simpa using hk
    cases hd : isDig b with
    | true =>
      refine .inl ⟨(), Ev.const' fun m => ?_, by omega, ?_⟩
      · simp only [hk', if_true, idx_at hb, Option.bind_some, dg_m, dg_eq, hd, Bool.not_true, Bool.false_eq_true, if_false, W_succ hk (by omega)]
        have hb2 := dig_le hd
        have hv : valN ((w.take k).drop i) < 10 ^ 18 := val_small (by simp; omega) hI
        have hv2 : valN ((w.take (k + 1)).drop i) < 10 ^ 18 := val_small (by simp; omega) (by rw [drop_take_succ hb hik, List.all_append, hI]; simp [hd])
        rw [drop_take_succ hb hik, valN_snoc] at hv2 ⊢
        have e1 : IntKind.u8.wrap ((b.toNat : Int) - 48) = ((b.toNat - 48 : Nat) : Int) := by
          unfold IntKind.wrap
          simp [IntKind.signed, IntKind.bits]
          omega
        rw [e1, W_of (n := ((b.toNat - 48 : Nat) : Int)) (by omega) (by omega), W_of (n := 10 * (valN ((w.take k).drop i) : Int)) (by omega) (by omega), W_of (by omega) (by omega)]
        congr 3
      · rw [drop_take_succ hb hik, List.all_append, hI]; simp [hd]
    | false =>
      refine .inr ⟨.inr ((0 : Int), false), Ev.const' fun m => ?_, ?_⟩
      · simp only [hk', if_true, idx_at hb, Option.bind_some, dg_m, dg_eq, hd, Bool.not_false]
      · rw [if_neg]
        intro h
        rw [List.all_eq_true] at h
        have : b ∈ w.drop i := by
          have : (w.drop i)[k - i]? = some b := by rw [List.getElem?_drop, show i + (k - i) = k by omega]; exact hb
          exact List.mem_of_getElem? this
        rw [h b this] at hd
        cases hd
  · rintro t ⟨hik, hI⟩
    refine ⟨.inl (valN (w.drop i) : Int), Ev.const' fun m => ?_, ?_⟩
    · rw [List.take_length] at *
      simp
    · rw [List.take_length] at hI
      rw [if_pos hI]


def numRes (w : Str) (i : Nat) : Int × Bool :=
  if w.length = i ∨ 18 < w.length - i ∨ ((w.drop i).head? = some 48 ∧ 1 < w.length) then (0, false)
  else if (w.drop i).all isDig = true then (if i = 1 then -(valN (w.drop i) : Int) else (valN (w.drop i) : Int), true) else (0, false)

theorem num_body {w : Str} (hl : w.length ≤ maxLen) {i : Nat} {x : Int} (hx : x = (i : Int)) (hi : i ≤ w.length) :
    Ev (fun fuel => (if ((w.length : Int) == x) = true then some true else some (decide ((18 : Int) < (W ((w.length : Int) - x))))).bind fun t34 => (if t34 = true then some true else (idx w x).bind fun b40 => (if ((b40.toNat : Int) == (48 : Int)) = true then some (decide ((1 : Int) < (w.length : Int))) else some false).bind fun t42 => some t42).bind fun t37 => (if t37 = true then some (((0 : Int), false)) else (iter (fun (s : (Int) × (Int)) => (match s with | (x59, x60) => (if (decide (x60 < (w.length : Int))) = true then (idx w x60).bind fun b88 => (spec_l01Digit_m fuel (b88.toNat : Int)).bind fun x92 => (if (!x92) = true then some (.inr (.inr ((0 : Int), false))) else (idx w x60).bind fun b96 => some (.inl ((W ((W ((10 : Int) * x59)) + (W (IntKind.u8.wrap ((b96.toNat : Int) - (48 : Int)))))), (W (x60 + (1 : Int)))))) else some (.inr (.inl (x59)))) : Option (((Int) × (Int)) ⊕ ((Int) ⊕ ((Int × Bool)))))) fuel ((0 : Int), x)).bind fun res75 => ctl (β := Int) (ρ := (Int × Bool)) (τ := (Int × Bool)) res75 (fun (x74) => join (κ := Int → Option (Int × Bool)) (fun (x80 : Int) => some ((x80, true))) (fun K81 => (if (x == (1 : Int)) = true then (K81 (W (0 - x74))) else (K81 x74)))) (fun q => some (q)))) (numRes w i) := by
  have hm := maxLen_le
  subst hx
  unfold numRes
  by_cases h1 : w.length = i
  · have e1 : ((w.length : Int) == (i : Int)) = true := by rw [h1]; simp
    exact Ev.eq (r := ((0 : Int), false)) (Ev.const' fun m => by simp only [e1, if_true, Option.bind_some]) (if_pos (.inl h1)).symm
  · have e1 : ((w.length : Int) == (i : Int)) = false := beq_false_of_ne (by omega)
    have w1 : W ((w.length : Int) - (i : Int)) = (w.length : Int) - (i : Int) := W_of (by omega) (by omega)
    simp only [e1, Bool.false_eq_true, if_false, Option.bind_some, w1]
    by_cases h2 : 18 < w.length - i
    · have e2 : decide ((18 : Int) < (w.length : Int) - (i : Int)) = true := decide_eq_true (by omega)
      exact Ev.eq (r := ((0 : Int), false)) (Ev.const' fun m => by simp only [e2, if_true, Option.bind_some]) (if_pos (.inr (.inl h2))).symm
    · have e2 : decide ((18 : Int) < (w.length : Int) - (i : Int)) = false := decide_eq_false (by omega)
      obtain ⟨b, hb⟩ := get_lt (xs := w) (k := i) (by omega)
      have hh : (w.drop i).head? = some b := by rw [List.head?_drop]; exact hb
      simp only [e2, Bool.false_eq_true, if_false, idx_at hb, Option.bind_some, and_some]
      by_cases h3 : b = 48 ∧ 1 < w.length
      · have e3 : ((((b.toNat : Int) == 48) && decide ((1 : Int) < (w.length : Int)))) = true := by
          rw [h3.1, decide_eq_true (by omega : (1 : Int) < (w.length : Int))]; rfl
        exact Ev.eq (r := ((0 : Int), false)) (Ev.ite_t e3 (Ev.pure _)) (if_pos (.inr (.inr ⟨by rw [hh, h3.1], h3.2⟩))).symm
      · have e3 : ¬ ((((b.toNat : Int) == 48) && decide ((1 : Int) < (w.length : Int)))) = true := by
          intro h
          rw [Bool.and_eq_true] at h
          refine h3 ⟨?_, by have := of_decide_eq_true h.2; omega⟩
          have := beq_iff_eq.1 h.1
          exact UInt8.toNat_inj.1 (show b.toNat = 48 by omega)
        refine Ev.eq ?_ (if_neg (by
          rintro (h | h | ⟨h, h'⟩)
          · exact h1 h
          · exact h2 h
          · rw [hh] at h; exact h3 ⟨by simpa using h, h'⟩)).symm
        refine Ev.ite_f e3 (Ev.bind (digits_loop hl hi (by omega)) (Ev.const ?_))
        by_cases hd : (w.drop i).all isDig = true
        · have hv := val_small (ds := w.drop i) (by simp; omega) hd
          rw [if_pos hd, if_pos hd, ctl_l]
          show (if ((i : Int) == (1 : Int)) = true then some (W (0 - (valN (w.drop i) : Int)), true) else some ((valN (w.drop i) : Int), true)) = _
          by_cases hi1 : i = 1
          · subst hi1
            rw [if_pos (by rfl), if_pos rfl, W_of (by omega) (by omega)]
            congr 2
            omega
          · rw [if_neg (by intro h; have := beq_iff_eq.1 h; omega), if_neg hi1]
        · rw [if_neg hd, if_neg hd, ctl_r]

theorem num_minus (r : Str) : num (45 :: r) = if okD r = true ∧ r.head? ≠ some 48 then some (-(valN r : Int)) else none := by
  unfold num
  rw [if_pos (show (45 :: r : Str).head? = some 45 from rfl)]
  rfl
theorem numRes_neg (r : Str) : numRes (45 :: r) 1 = (numV (45 :: r), numB (45 :: r)) := by
  unfold numRes numV numB
  rw [num_minus]
  simp only [List.drop_succ_cons, List.drop_zero, List.length_cons, Nat.add_sub_cancel, if_true]
  by_cases h : okD r = true ∧ r.head? ≠ some 48
  · obtain ⟨h1, h2, h3⟩ := okD_iff.1 h.1
    have hp := List.length_pos_iff.2 h1
    rw [if_pos h, if_neg (by rintro (g | g | ⟨g, _⟩) <;> first | omega | exact h.2 g), if_pos h3]
    rfl
  · rw [if_neg h]
    split
    · rfl
    · rename_i hc
      split
      · rename_i hd
        exfalso
        apply h
        refine ⟨okD_iff.2 ⟨fun e => hc (.inl (by rw [e]; rfl)), by omega, hd⟩, fun e => hc (.inr (.inr ⟨e, ?_⟩))⟩
        cases r with
        | nil => cases e
        | cons _ _ => simp
      · rfl
theorem numRes_pos {w : Str} (hw : w.head? ≠ some 45) : numRes w 0 = (numV w, numB w) := by
  unfold numRes numV numB num
  rw [if_neg hw]
  simp only [List.drop_zero, Nat.sub_zero, Nat.zero_ne_one, if_false]
  by_cases h : okD w = true ∧ (w.head? ≠ some 48 ∨ w.length = 1)
  · obtain ⟨h1, h2, h3⟩ := okD_iff.1 h.1
    have hp := List.length_pos_iff.2 h1
    rw [if_pos h, if_neg (by rintro (g | g | ⟨g, g'⟩) <;> first | omega | exact h.2.elim (fun x => x g) (fun x => by omega)), if_pos h3]
    rfl
  · rw [if_neg h]
    split
    · rfl
    · rename_i hc
      split
      · rename_i hd
        exfalso
        apply h
        have hp : 0 < w.length := by
          rcases Nat.eq_zero_or_pos w.length with g | g
          · exact absurd (.inl g) hc
          · exact g
        refine ⟨okD_iff.2 ⟨fun e => hc (.inl (by rw [e]; rfl)), by omega, hd⟩, ?_⟩
        by_cases g : w.head? = some 48
        · right
          rcases Nat.lt_or_ge 1 w.length with g' | g'
          · exact absurd (.inr (.inr ⟨g, g'⟩)) hc
          · omega
        · exact .inl g
      · rfl

theorem num_spec {w : Str} (hl : w.length ≤ maxLen) : Ev (fun m => spec_l01Number_m m w) (numV w, numB w) := by
  have hm := maxLen_le
  unfold spec_l01Number_m
  refine Ev.join ?_
  cases hw : w with
  | nil => 
    rw [← hw]
    have e : decide ((0 : Int) < (w.length : Int)) = false := by rw [hw]; rfl
    simp only [e, Bool.false_eq_true, if_false, Option.bind_some]
    exact (num_body hl (i := 0) (x := 0) rfl (Nat.zero_le _)).eq (numRes_pos (by rw [hw]; simp))
  | cons b r =>
    rw [← hw]
    have e : decide ((0 : Int) < (w.length : Int)) = true := by rw [hw]; simp
    have hb : idx w (0 : Int) = some b := idx_at (k := 0) (by rw [hw]; rfl)
    refine Ev.bindc (a := ((b.toNat : Int) == (45 : Int))) (by simp only [e, if_true, hb, Option.bind_some]) ?_
    by_cases h : b = 45
    · subst h
      refine Ev.ite_t (by rfl) ?_
      exact (num_body hl (i := 1) (x := 1) rfl (by rw [hw]; simp)).eq (by rw [hw]; exact numRes_neg r)
    · refine Ev.ite_f (fun g => h ?_) ?_
      · have := beq_iff_eq.1 g
        exact UInt8.toNat_inj.1 (show b.toNat = 45 by omega)
      · exact (num_body hl (i := 0) (x := 0) rfl (Nat.zero_le _)).eq (numRes_pos (by rw [hw]; simpa using h))
theorem mx : 4294967296 ≤ maxLen ∧ maxLen ≤ 9223372036854775807 := by unfold maxLen; omega

/-! ### the library's functions -/
theorem split_lib {m : Nat} {s : Str} (hl : s.length < 4294967281) : strings_Split_m m s [44] = some (splitC 44 s) := by
  unfold strings_Split_m
  have hc : Lib.countB ⟨s.toArray⟩ ⟨([44] : Str).toArray⟩ = Lib.count s [44] := rfl
  have h3 := Lib.splitB_all ⟨([44] : Str).toArray⟩ (by decide) 0 _ ⟨s.toArray⟩ rfl
  have h4 := Lib.countB_le ⟨([44] : Str).toArray⟩ (by decide) _ ⟨s.toArray⟩ (Nat.le_refl _)
  have h5 : (⟨s.toArray⟩ : ByteArray).size = s.length := size_sv s
  have h6 := mx
  rw [if_pos ⟨hl, by decide, h3, by omega⟩, Lib.splitB_data]
  exact congrArg some (splitK_eq 44 s)
theorem cut_lib {m : Nat} {s : Str} (hl : s.length < 4294967281) : strings_Cut_m m s [40] = some (if (40 : UInt8) ∈ s then (pre 40 s, suf 40 s, true) else (s, [], false)) := by
  unfold strings_Cut_m
  rw [if_pos hl, cut_one]
theorem trimS_lib {m : Nat} {s : Str} (hl : s.length < 4294967281) : strings_TrimSuffix_m m s [41] = some (if s.getLast? = some 41 then s.dropLast else s) := by
  unfold strings_TrimSuffix_m
  rw [if_pos (by omega), suf_one]

/-! ### splitting -/
theorem splitC_snoc_eq (c : UInt8) : ∀ s : Str, splitC c (s ++ [c]) = splitC c s ++ [[]]
  | [] => by simp [splitC]
  | a :: r => by
    have ih := splitC_snoc_eq c r
    rw [List.cons_append]
    unfold splitC
    rw [ih]
    split
    · rfl
    · cases hr : splitC c r with
      | nil => exact absurd hr (splitC_ne c r)
      | cons x t => rfl
theorem splitC_snoc_ne {c b : UInt8} (hb : b ≠ c) : ∀ (s : Str) (o : List Str) (l : Str), splitC c s = o ++ [l] → splitC c (s ++ [b]) = o ++ [l ++ [b]]
  | [], o, l, h => by
    have h' : [([] : Str)] = o ++ [l] := h
    have : o = [] := by
      cases o with
      | nil => rfl
      | cons _ t => simp at h'
    subst this
    have : l = [] := by simpa using h'.symm
    subst this
    simp [splitC, hb]
  | a :: r, o, l, h => by
    rw [List.cons_append]
    unfold splitC at h ⊢
    by_cases ha : a = c
    · rw [if_pos ha] at h ⊢
      cases o with
      | nil =>
        exfalso
        have : splitC c r = [] := by simpa using (List.cons.inj h).2
        exact splitC_ne c r this
      | cons x o' =>
        rw [List.cons_append] at h ⊢
        obtain ⟨h1, h2⟩ := List.cons.inj h
        rw [← h1, splitC_snoc_ne hb r o' l h2]
    · rw [if_neg ha] at h ⊢
      rcases snoc_or (splitC c r) with hr | ⟨o', l', hr⟩
      · exact absurd hr (splitC_ne c r)
      · have ih := splitC_snoc_ne hb r o' l' hr
        rw [ih]
        rw [hr] at h
        cases o' with
        | nil =>
          simp only [List.nil_append, List.headD_cons, List.tail_cons] at h ⊢
          have : o = [] := by
            cases o with
            | nil => rfl
            | cons _ t => simp at h
          subst this
          have : l = a :: l' := by simpa using h.symm
          subst this
          rfl
        | cons x o'' =>
          simp only [List.cons_append, List.headD_cons, List.tail_cons] at h ⊢
          cases o with
          | nil => simp at h
          | cons y o3 =>
            rw [List.cons_append] at h ⊢
            obtain ⟨h1, h2⟩ := List.cons.inj h
            obtain ⟨h3, h4⟩ := List.append_inj' h2 rfl
            have : l' = l := by simpa using h4
            rw [h1, h3, this]

theorem split_spec {s : Str} (hl : s.length < 4294967281) : Ev (fun m => spec_l01Split_m m s 44) (splitC 44 s) := by
  have hm := mx
  unfold spec_l01Split_m
  refine Exists.elim (EvI.count (step := _) s.length (fun k (t : List Str × Nat) => (t.1, (t.2 : Int), (k : Int))) (fun k t => t.2 ≤ k ∧ splitC 44 (s.take k) = t.1 ++ [(s.take k).drop t.2])
    (fun r => ∃ (o : List Str) (f : Nat), r = .inl (o, (f : Int)) ∧ f ≤ s.length ∧ splitC 44 s = o ++ [s.drop f]) ?_ ?_ (k := 0) (t := ([], 0)) (Nat.zero_le _) ⟨Nat.le_refl _, rfl⟩)
    (fun res ⟨h1, o, f, h2, h3, h4⟩ => Ev.bind h1.ev (by
      subst h2
      have hlen : o.length ≤ s.length + 1 := by
        have := splitC_len 44 s
        rw [h4] at this
        simp at this
        omega
      rw [h4]
      have hs : sub s (f : Int) (s.length : Int) = some (s.drop f) := by rw [sub_ok h3 (Nat.le_refl _), List.take_length]
      exact Ev.bindc hs (Ev.bindc (app_ok (by simp; omega)) (Ev.pure _))))
  · rintro k ⟨o, f⟩ hk ⟨hf, hI⟩
    have hf : f ≤ k := hf
    have hI : splitC 44 (s.take k) = o ++ [(s.take k).drop f] := hI
    obtain ⟨b, hb⟩ := get_lt hk
    have hk' : decide ((k : Int) < (s.length : Int)) = true := by simpa using hk
    have htk : s.take (k + 1) = s.take k ++ [b] := by rw [List.take_add_one, hb]; rfl
    left
    by_cases h : b = 44
    · subst h
      have hlen : o.length ≤ s.length := by
        have := splitC_len 44 (s.take k)
        rw [hI] at this
        simp at this
        omega
      refine ⟨(o ++ [(s.take k).drop f], k + 1), Ev.ite_t hk' (Ev.join (Ev.bindc (idx_at hb) (Ev.ite_t (by rfl) (Ev.bindc (sub_ok hf (by omega)) (Ev.bindc (app_ok (by simp; omega)) (Ev.const ?_)))))), Nat.le_refl _, ?_⟩
      · rw [W_succ hk (by omega)]
      · show splitC 44 (s.take (k + 1)) = _
        rw [htk, splitC_snoc_eq, hI]
        congr 2
        rw [List.drop_eq_nil_of_le (by simp; omega)]
    · refine ⟨(o, f), Ev.ite_t hk' (Ev.join (Ev.bindc (idx_at hb) (Ev.ite_f ?_ (Ev.const ?_)))), by show f ≤ k + 1; omega, ?_⟩
      · intro g
        have := beq_iff_eq.1 g
        exact h (UInt8.toNat_inj.1 (show b.toNat = 44 by omega))
      · rw [W_succ hk (by omega)]
      · show splitC 44 (s.take (k + 1)) = o ++ [(s.take (k + 1)).drop f]
        rw [htk, splitC_snoc_ne h _ _ _ hI, List.drop_append_of_le_length (by simp; omega)]
  · rintro ⟨o, f⟩ ⟨hf, hI⟩
    refine ⟨_, Ev.ite_f (by simp) (Ev.pure _), o, f, rfl, hf, ?_⟩
    rw [List.take_length] at hI
    exact hI

/-! ### lists of numbers -/
theorem fill_iter {α β ρ : Type} {to' : Nat → α → Option β} {f : α → β} {a : List α} {z : β} (hto : ∀ x ∈ a, Ev (fun n => to' n x) (f x)) (hl : a.length ≤ 1048576) :
    EvI (fun n (s : (List β) × (Int)) => (match s with | (xs35, x36) => (if (decide (x36 < (a.length : Int))) = true then (idx a x36).bind fun x75 => (to' n x75).bind fun x92 => (idx xs35 x36).bind fun _ => some (.inl ((xs35.set x36.toNat x92), (W (x36 + (1 : Int))))) else some (.inr (.inl (xs35)))) : Option (((List β) × (Int)) ⊕ (((List β)) ⊕ (ρ))))) (List.replicate a.length z, (0 : Int)) (.inl (a.map f)) := by
  refine EvI.upto a.length (fun k (t : List β) => (t, (k : Int))) (fun k t => t = (a.take k).map f ++ List.replicate (a.length - k) z) (k := 0) (t := List.replicate a.length z) rfl (Nat.zero_le _) (by simp) (fun k t hk ht => ?_) (fun t ht => ?_)
  · obtain ⟨x, hx⟩ : ∃ x, a[k]? = some x := ⟨a[k], List.getElem?_eq_getElem hk⟩
    have hlen : ((a.take k).map f).length = k := by simp; omega
    have hi : t[k]? = some z := by
      rw [ht, List.getElem?_append_right (by omega), hlen, List.getElem?_replicate, if_pos (by omega)]
    refine ⟨_, (Ev.ite_t (by simpa using hk) (Ev.bindc (idx_at hx) (Ev.bind (hto x (List.mem_of_getElem? hx)) (Ev.bindc (idx_at hi) (Ev.pure (Sum.inl (t.set (k : Int).toNat (f x), W ((k : Int) + 1)))))))).eq ?_, rfl⟩
    rw [W_of (by omega) (by omega)]
    refine congrArg Sum.inl (Prod.ext ?_ rfl)
    show t.set (k : Int).toNat (f x) = _
    rw [ht, Int.toNat_natCast, List.set_append_right _ _ (by omega), hlen]
    rw [List.take_add_one, hx, List.map_append, List.append_assoc]
    congr 1
    rw [show a.length - k = (a.length - (k + 1)) + 1 by omega, List.replicate_succ]
    simp
  · refine (Ev.ite_f (by simp) (Ev.pure _)).eq ?_
    rw [ht]; simp

def val63 (n : Int) : Bool := decide (0 ≤ n) && decide (n ≤ 63)
def dots (vs : List Int) : Str := Lib.join (vs.map Lib.itoa) [44]

theorem read_nums {ws : List Str} (hl : ws.length < 4294967282) (hw : ∀ w ∈ ws, w.length ≤ 281474976710656) :
    Ev (fun m => impl_readNumbers_m m ws) (if ws.all numB = true then (ws.map numV, true) else ([], false)) := by
  have hm := mx
  unfold impl_readNumbers_m
  refine Exists.elim (EvI.count (step := _) ws.length (fun k (_ : Unit) => ((ws.take k).map numV, (k : Int))) (fun k _ => (ws.take k).all numB = true)
    (fun r => r = (if ws.all numB = true then .inl (ws.map numV) else .inr ([], false))) ?_ ?_ (k := 0) (t := ()) (Nat.zero_le _) rfl)
    (fun res ⟨h1, h2⟩ => Ev.bind h1.ev (by
      subst h2
      by_cases h : ws.all numB = true
      · rw [if_pos h, if_pos h]; exact Ev.pure _
      · rw [if_neg h, if_neg h]; exact Ev.pure _))
  · intro k t hk hI
    obtain ⟨w, hw'⟩ := get_lt hk
    have hk' : decide ((k : Int) < (ws.length : Int)) = true := by simpa using hk
    have htk : ws.take (k + 1) = ws.take k ++ [w] := by rw [List.take_add_one, hw']; rfl
    have hrd : ∀ m, impl_ReadDecimal_m m w = some (numV w, numB w) := fun m => read_dec (hw w (List.mem_of_getElem? hw'))
    cases hb : numB w with
    | true =>
      left
      refine ⟨(), Ev.ite_t hk' (Ev.bindc (idx_at hw') (Ev.bind (Ev.const' hrd) (Ev.ite_f (by simp [hb]) (Ev.bindc (app_ok (by simp; omega)) (Ev.const ?_))))), ?_⟩
      · rw [W_succ hk (by omega), htk, List.map_append]; rfl
      · rw [htk, List.all_append, hI]; simp [hb]
    | false =>
      right
      refine ⟨_, Ev.ite_t hk' (Ev.bindc (idx_at hw') (Ev.bind (Ev.const' hrd) (Ev.ite_t (by simp [hb]) (Ev.pure _)))), ?_⟩
      rw [if_neg]
      intro h
      rw [List.all_eq_true] at h
      rw [h w (List.mem_of_getElem? hw')] at hb
      cases hb
  · intro t hI
    refine ⟨_, Ev.ite_f (by simp) (Ev.pure _), ?_⟩
    rw [List.take_length] at *
    rw [if_pos hI]

theorem itoa_small : ∀ k : Fin 64, (Lib.itoa (k.val : Int)).length ≤ 2 := by
  intro k
  have e : Lib.itoa (k.val : Int) = Lib.decDigits k.val := by unfold Lib.itoa; rw [if_neg (by omega)]; simp
  rw [e]
  have := k.isLt
  by_cases h : k.val < 10
  · rw [Lib.decDigits_one h]; simp
  · rw [Lib.decDigits_two h (by omega)]; simp
theorem itoa_63 {n : Int} (h : val63 n = true) : (Lib.itoa n).length ≤ 2 := by
  unfold val63 at h
  simp at h
  have := itoa_small ⟨n.toNat, by omega⟩
  simp only [] at this
  rwa [show ((n.toNat : Nat) : Int) = n by omega] at this
theorem dots_len {vs : List Int} (h2 : vs.length ≤ 2) (h : vs.all val63 = true) : (dots vs).length ≤ 5 := by
  rw [List.all_eq_true] at h
  unfold dots
  match vs, h2, h with
  | [], _, _ => simp [Lib.join_nil]
  | [a], _, h =>
    have := itoa_63 (h a (by simp))
    rw [List.map_cons, List.map_nil, Lib.join_one]; omega
  | [a, b], _, h =>
    have := itoa_63 (h a (by simp))
    have := itoa_63 (h b (by simp))
    rw [List.map_cons, List.map_cons, List.map_nil, Lib.join_length]
    simp [Lib.lens]
    omega
theorem joined_ev {vs : List Int} (h2 : vs.length ≤ 2) (h : vs.all val63 = true) : Ev (fun m => impl_joined_m m vs [44]) (dots vs) := by
  unfold impl_joined_m
  have hd := dots_len h2 h
  refine Ev.bindc (mks_ok (by omega)) (Ev.bind (fill_iter (f := Lib.itoa) (to' := impl_Decimal_m) (a := vs) (z := ([] : Str)) (fun x hx => Ev.const' fun m => dec_m ?_ ?_) (by omega)).ev (Ev.const' fun m => ?_))
  · rw [List.all_eq_true] at h
    have := h x hx
    unfold val63 at this
    simp at this
    omega
  · rw [List.all_eq_true] at h
    have := h x hx
    unfold val63 at this
    simp at this
    omega
  · rw [ctl_l]
    unfold strings_Join_m
    rw [if_pos ⟨by simp; omega, by unfold dots at hd; omega⟩]
    rfl
theorem values_ev {vs : List Int} (hl : vs.length ≤ maxLen) : Ev (fun m => impl_areValues_m m vs) (vs.all val63) := by
  unfold impl_areValues_m slices_ContainsFunc__int64_int64_m slices_IndexFunc__int64_int64_m
  refine Ev.bind (contains_loop hl (f := fun m z => impl_areValues_1_m m z) (ok := val63) (fun x _ => Ev.const' fun m => ?_)) (Ev.const (by simp))
  unfold impl_areValues_1_m impl_isValue_m
  simp only [within_eq, Option.bind_some]
  rfl
def valsOk (ps : List Str) : Bool := ps.all fun w => numB w && val63 (numV w)
def labelP (s : Str) : Bool :=
  if (40 : UInt8) ∈ s then actP (pre 40 s) && decide (s.getLast? = some 41) && valsOk (splitC 44 (suf 40 s).dropLast) && decide ((splitC 44 (suf 40 s).dropLast).length ≤ 2)
  else nameP s

def labOf (n : Str) (vs : List Int) : Str × Bool :=
  if n = [116, 97, 117] then ([116, 97, 117], decide (vs.length = 0))
  else if actP n = true ∧ vs.length ≤ 2 ∧ vs.all val63 = true then (if vs.length = 0 then (n, true) else (n ++ [40] ++ dots vs ++ [41], true))
  else ([], false)

theorem label_of {n : Str} (hn : n.length ≤ 4294967296) {vs : List Int} (hv : vs.length ≤ maxLen) : Ev (fun m => impl_labelOf_m m n vs) (labOf n vs) := by
  have hm := mx
  unfold impl_labelOf_m labOf
  by_cases h1 : n = [116, 97, 117]
  · have e : (n == ([116, 97, 117] : Str)) = true := by rw [h1]; rfl
    rw [if_pos h1]
    refine Ev.ite_t e (Ev.const ?_)
    by_cases h : vs.length = 0
    · rw [h]; rfl
    · rw [decide_eq_false h, beq_false_of_ne (show ((vs.length : Int)) ≠ 0 by omega)]
  · have e : ¬ (n == ([116, 97, 117] : Str)) = true := by simpa using h1
    rw [if_neg h1]
    refine Ev.ite_f e (Ev.bind (act_impl (by omega)) ?_)
    by_cases h2 : actP n = true
    · simp only [h2, Bool.not_true, Bool.false_eq_true, if_false, Option.bind_some, true_and]
      by_cases h3 : vs.length ≤ 2
      · have e3 : decide ((2 : Int) < (vs.length : Int)) = false := decide_eq_false (by omega)
        simp only [e3, Bool.false_eq_true, if_false, h3, true_and]
        refine Ev.bind (Ev.bind (values_ev hv) (Ev.pure _)) ?_
        by_cases h4 : vs.all val63 = true
        · rw [if_pos h4]
          refine Ev.ite_f (by simp [h4]) ?_
          by_cases h5 : vs.length = 0
          · rw [if_pos h5]
            exact Ev.ite_t (by rw [h5]; rfl) (Ev.pure _)
          · rw [if_neg h5]
            have hd := dots_len h3 h4
            refine Ev.ite_f (by intro g; have := beq_iff_eq.1 g; omega) (Ev.bindc (show cat n [40] = some (n ++ [40]) from ?_) (Ev.bind (joined_ev h3 h4) (Ev.bindc (show cat (n ++ [40]) (dots vs) = some (n ++ [40] ++ dots vs) from ?_) (Ev.bindc (show cat (n ++ [40] ++ dots vs) [41] = some (n ++ [40] ++ dots vs ++ [41]) from ?_) (Ev.pure _)))))
            · unfold cat; rw [if_pos (by simp; omega)]
            · unfold cat; rw [if_pos (by simp; omega)]
            · unfold cat; rw [if_pos (by simp; omega)]
        · rw [if_neg h4]
          exact Ev.ite_t (by simpa using h4) (Ev.pure _)
      · have e3 : decide ((2 : Int) < (vs.length : Int)) = true := decide_eq_true (by omega)
        exact Ev.eq (r := (([] : Str), false)) (Ev.const' fun m => by simp only [e3, if_true, Option.bind_some]) (if_neg (fun h => h3 h.1)).symm
    · have e2 : (!actP n) = true := by simpa using h2
      exact Ev.eq (r := (([] : Str), false)) (Ev.const' fun m => by simp only [e2, if_true, Option.bind_some]) (if_neg (fun h => h2 h.1)).symm

theorem nums_join {ws : List Str} (h : ws.all numB = true) : (ws.map numV).map Lib.itoa = ws := by
  rw [List.map_map]
  rw [List.all_eq_true] at h
  conv => rhs; rw [← List.map_id ws]
  refine List.map_congr_left fun w hw => ?_
  have := h w hw
  unfold numB at this
  obtain ⟨v, hv⟩ := Option.isSome_iff_exists.1 this
  show Lib.itoa (numV w) = w
  unfold numV
  rw [hv]
  exact (num_some hv).1

theorem last_eq {s : Str} (h : (40 : UInt8) ∈ s) : s.getLast? = some 41 ↔ (suf 40 s).getLast? = some 41 := by
  conv => lhs; rw [pre_suf h]
  rw [List.getLast?_append]
  cases hs : suf 40 s with
  | nil => simp
  | cons b r =>
    rw [List.getLast?_cons_cons]
    cases hl : (b :: r).getLast? with
    | none => simp at hl
    | some c => simp

theorem name_tau : nameP [116, 97, 117] = true := by decide +kernel
theorem act_tau : actP [116, 97, 117] = false := by unfold actP; simp

theorem third {c : Bool} {a : Str} {b : List Int} : (if c = true then (([] : Str), ([] : List Int), false) else (a, b, true)).2.2 = !c := by cases c <;> rfl

theorem read_label {s : Str} (hl : s.length ≤ 1048576) : ∃ r, Ev (fun m => impl_readLabel_m m s) r ∧ r.2.2 = labelP s := by
  have hm := mx
  unfold impl_readLabel_m
  by_cases hc : (40 : UInt8) ∈ s
  · have hp := pre_len 40 s
    have hsf : (suf 40 s).length ≤ s.length := by unfold suf; simp
    have hcut : ∀ m, strings_Cut_m m s [40] = some (pre 40 s, suf 40 s, true) := fun m => by rw [cut_lib (by omega), if_pos hc]
    obtain ⟨t, ht⟩ : ∃ t, t = if (suf 40 s).getLast? = some 41 then (suf 40 s).dropLast else suf 40 s := ⟨_, rfl⟩
    have htl : t.length ≤ s.length := by rw [ht]; split <;> (try simp) <;> omega
    have htr : ∀ m, strings_TrimSuffix_m m (suf 40 s) [41] = some t := fun m => by rw [trimS_lib (by omega), ← ht]
    have hsp : ∀ m, strings_Split_m m t [44] = some (splitC 44 t) := fun m => split_lib (by omega)
    have hln := splitC_len 44 t
    have hne := List.length_pos_iff.2 (splitC_ne 44 t)
    have hrn := read_nums (ws := splitC 44 t) (by omega) (fun w hw => by have := splitC_mem 44 t w hw; omega)
    by_cases hn : (splitC 44 t).all numB = true
    · rw [if_pos hn] at hrn
      have hlo := label_of (n := pre 40 s) (by omega) (vs := (splitC 44 t).map numV) (by simp; omega)
      refine ⟨_, Ev.bind (Ev.const' hcut) (Ev.join (Ev.ite_t rfl (Ev.bind (Ev.const' htr) (Ev.bind (Ev.const' hsp) (Ev.bind hrn (Ev.ite_f (by simp) (Ev.bind hlo (Ev.const' fun m => by rw [or_some, Option.bind_some, ite_some])))))))), ?_⟩
      have hd : dots ((splitC 44 t).map numV) = t := by unfold dots; rw [nums_join hn, join_splitC]
      have hlast : (pre 40 s ++ [40] ++ t ++ [41] = s) ↔ (suf 40 s).getLast? = some 41 := by
        conv => lhs; rhs; rw [pre_suf hc]
        rw [List.append_assoc, List.append_assoc, List.append_cancel_left_eq]
        simp only [List.singleton_append, List.cons.injEq, true_and]
        constructor
        · intro h; rw [← h]; simp
        · intro h
          rw [ht, if_pos h]
          rcases snoc_or (suf 40 s) with e | ⟨q, x, e⟩
          · rw [e] at h; cases h
          · rw [e] at h ⊢
            have : x = 41 := by simpa using h
            rw [this]; simp
      have hvo : (suf 40 s).getLast? = some 41 → splitC 44 (suf 40 s).dropLast = splitC 44 t := fun h => by rw [ht, if_pos h]
      have hall : ((splitC 44 t).map numV).all val63 = valsOk (splitC 44 t) := by
        unfold valsOk
        rw [List.all_map]
        rw [List.all_eq_true] at hn
        apply Bool.eq_iff_iff.2
        rw [List.all_eq_true, List.all_eq_true]
        constructor
        · intro h w hw; rw [hn w hw]; exact h w hw
        · intro h w hw; have := h w hw; rw [hn w hw] at this; exact this
      rw [third]
      unfold labelP labOf
      rw [if_pos hc]
      simp only [decide_eq_decide.2 (last_eq hc), List.length_map, hall]
      by_cases h1 : pre 40 s = [116, 97, 117]
      · rw [if_pos h1, h1, act_tau, decide_eq_false (by omega)]
        rfl
      · rw [if_neg h1]
        by_cases h6 : (suf 40 s).getLast? = some 41
        · rw [hvo h6, decide_eq_true h6]
          by_cases h2 : actP (pre 40 s) = true ∧ (splitC 44 t).length ≤ 2 ∧ valsOk (splitC 44 t) = true
          · rw [if_pos h2, if_neg (show ¬ (splitC 44 t).length = 0 by omega), h2.1, h2.2.2, decide_eq_true h2.2.1, hd]
            rw [hlast.2 h6]
            simp
          · rw [if_neg h2]
            cases ha : actP (pre 40 s)
            · rfl
            · cases hv : valsOk (splitC 44 t)
              · rfl
              · rw [decide_eq_false (fun h => h2 ⟨ha, h, hv⟩)]; rfl
        · rw [decide_eq_false h6, Bool.and_false]
          split
          · rw [if_neg (show ¬ (splitC 44 t).length = 0 by omega), hd]
            have : (pre 40 s ++ [40] ++ t ++ [41] != s) = true := by
              rw [bne_iff_ne]
              exact fun h => h6 (hlast.1 h)
            rw [this]
            rfl
          · rfl
    · rw [if_neg hn] at hrn
      refine ⟨_, Ev.bind (Ev.const' hcut) (Ev.join (Ev.ite_t rfl (Ev.bind (Ev.const' htr) (Ev.bind (Ev.const' hsp) (Ev.bind hrn (Ev.ite_t (by rfl) (Ev.pure _))))))), ?_⟩
      unfold labelP
      rw [if_pos hc]
      by_cases h6 : (suf 40 s).getLast? = some 41
      · have : valsOk (splitC 44 (suf 40 s).dropLast) = false := by
          rw [ht, if_pos h6] at hn
          apply Bool.eq_false_iff.2
          intro h
          apply hn
          unfold valsOk at h
          rw [List.all_eq_true] at h ⊢
          intro w hw
          have := h w hw
          rw [Bool.and_eq_true] at this
          exact this.1
        rw [this]; simp
      · rw [decide_eq_false (fun h => h6 ((last_eq hc).1 h))]; simp
  · have hcut : ∀ m, strings_Cut_m m s [40] = some (s, [], false) := fun m => by rw [cut_lib (by omega), if_neg hc]
    have hlo := label_of (n := s) (by omega) (vs := []) (by simp)
    refine ⟨_, Ev.bind (Ev.const' hcut) (Ev.join (Ev.ite_f (by simp) (Ev.bind hlo (Ev.const' fun m => by rw [or_some, Option.bind_some, ite_some])))), ?_⟩
    rw [third]
    unfold labelP labOf
    rw [if_neg hc]
    by_cases h1 : s = [116, 97, 117]
    · rw [if_pos h1, h1, name_tau]; rfl
    · rw [if_neg h1]
      have e : actP s = nameP s := by
        unfold actP
        rw [bne_iff_ne.2 h1, Bool.and_true]
      rw [e]
      by_cases h2 : nameP s = true
      · rw [if_pos ⟨h2, by simp, rfl⟩, h2]
        simp
      · rw [if_neg (fun h => h2 h.1)]
        have : nameP s = false := by simpa using h2
        rw [this]
        rfl
theorem label_impl {s : Str} (hl : s.length ≤ 1048576) : Ev (fun m => impl_IsLabel_m m s) (labelP s) := by
  obtain ⟨r, h1, h2⟩ := read_label hl
  unfold impl_IsLabel_m
  exact Ev.bind h1 (Ev.const (by rw [h2]))

/-! ### the reference -/
theorem pre_hit : ∀ (s : Str) (k : Nat), s[k]? = some 40 → (40 : UInt8) ∉ s.take k → (pre 40 s).length = k
  | [], k, h, _ => by simp at h
  | b :: r, 0, h, _ => by
    have : b = 40 := by simpa using h
    rw [pre_cons, if_pos this]; rfl
  | b :: r, k + 1, h, h2 => by
    rw [List.take_succ_cons, List.mem_cons, not_or] at h2
    rw [pre_cons, if_neg (fun e => h2.1 e.symm), List.length_cons, pre_hit r k (by simpa using h) h2.2]
theorem open_spec {s : Str} (hl : s.length ≤ 1048576) : Ev (fun m => spec_l01Open_m m s) ((pre 40 s).length : Int) := by
  unfold spec_l01Open_m
  refine Exists.elim (EvI.count (step := _) s.length (fun k (_ : Unit) => (k : Int)) (fun k _ => (40 : UInt8) ∉ s.take k)
    (fun r => r = .inr ((pre 40 s).length : Int) ∨ (r = .inl () ∧ (pre 40 s).length = s.length)) ?_ ?_ (k := 0) (t := ()) (Nat.zero_le _) (by simp))
    (fun res ⟨h1, h2⟩ => Ev.bind h1.ev (by
      rcases h2 with rfl | ⟨rfl, h⟩
      · exact Ev.pure _
      · exact (Ev.pure _).eq (by rw [h])))
  · intro k t hk hI
    obtain ⟨b, hb⟩ := get_lt hk
    have hk' : decide ((k : Int) < (s.length : Int)) = true := by simpa using hk
    by_cases h : b = 40
    · subst h
      exact .inr ⟨_, Ev.ite_t hk' (Ev.bindc (idx_at hb) (Ev.ite_t (by rfl) (Ev.pure _))), .inl (by rw [pre_hit s k hb hI])⟩
    · refine .inl ⟨(), Ev.ite_t hk' (Ev.bindc (idx_at hb) (Ev.ite_f ?_ (Ev.const (by rw [W_succ hk (by omega)])))), ?_⟩
      · intro g
        have := beq_iff_eq.1 g
        exact h (UInt8.toNat_inj.1 (show b.toNat = 40 by omega))
      · rw [List.take_add_one, hb]
        simp [hI, Ne.symm h]
  · intro t hI
    rw [List.take_length] at hI
    exact ⟨_, Ev.ite_f (by simp) (Ev.pure _), .inr ⟨rfl, (pre_full 40 s).2 hI⟩⟩

def lsp : (List Int) ⊕ ((List Int) × Bool) → (List Int) × Bool
  | .inl xs => (xs, decide ((xs.length : Int) ≤ 2))
  | .inr q => q
theorem lsp_ctl {res : (List Int) ⊕ ((List Int) × Bool)} : ctl (β := (List Int)) (ρ := ((List Int) × Bool)) (τ := ((List Int) × Bool)) res (fun (xs140) => some ((xs140, (decide ((xs140.length : Int) ≤ (2 : Int)))))) (fun q => some (q)) = some (lsp res) := by cases res <;> rfl
theorem vals_loop {ps : List Str} (hl : ps.length ≤ 1048577) (hw : ∀ w ∈ ps, w.length ≤ 1048576) :
    Ev (fun fuel => iter (fun (s : (List Int) × (Int)) => (match s with | (xs104, x106) => (if (decide (x106 < (ps.length : Int))) = true then (idx ps x106).bind fun x151 => (spec_l01Number_m fuel x151).bind fun x158 => (if (!x158.2) = true then some true else (spec_l00In_m fuel x158.1 (0 : Int) (63 : Int)).bind fun x166 => some (!x166)).bind fun t161 => (if t161 = true then some (.inr (.inr ([], false))) else (app xs104 [x158.1]).bind fun x174 => some (.inl (x174, (W (x106 + (1 : Int)))))) else some (.inr (.inl (xs104)))) : Option (((List Int) × (Int)) ⊕ (((List Int)) ⊕ (((List Int) × Bool)))))) fuel (([] : List Int), (0 : Int)))
      (if valsOk ps = true then .inl (ps.map numV) else .inr ([], false)) := by
  have hm := mx
  refine Exists.elim (EvI.count (β := (List Int) ⊕ ((List Int) × Bool)) (step := fun fuel (s : (List Int) × (Int)) => (match s with | (xs104, x106) => (if (decide (x106 < (ps.length : Int))) = true then (idx ps x106).bind fun x151 => (spec_l01Number_m fuel x151).bind fun x158 => (if (!x158.2) = true then some true else (spec_l00In_m fuel x158.1 (0 : Int) (63 : Int)).bind fun x166 => some (!x166)).bind fun t161 => (if t161 = true then some (.inr (.inr ([], false))) else (app xs104 [x158.1]).bind fun x174 => some (.inl (x174, (W (x106 + (1 : Int)))))) else some (.inr (.inl (xs104)))) : Option (((List Int) × (Int)) ⊕ (((List Int)) ⊕ (((List Int) × Bool))))))
    ps.length (fun k (_ : Unit) => ((ps.take k).map numV, (k : Int))) (fun k _ => valsOk (ps.take k) = true)
    (fun r => r = (if valsOk ps = true then .inl (ps.map numV) else .inr ([], false))) ?_ ?_ (k := 0) (t := ()) (Nat.zero_le _) rfl)
    (fun res ⟨h3, h4⟩ => by subst h4; exact h3.ev)
  · intro k t hk hI
    obtain ⟨w, hw'⟩ := get_lt hk
    have hk' : decide ((k : Int) < (ps.length : Int)) = true := by simpa using hk
    have htk : ps.take (k + 1) = ps.take k ++ [w] := by rw [List.take_add_one, hw']; rfl
    have hwl := hw w (List.mem_of_getElem? hw')
    have hnum := num_spec (w := w) (by omega)
    have hcc : ∀ m : Nat, (if (!numB w) = true then some true else (spec_l00In_m m (numV w) (0 : Int) (63 : Int)).bind fun x166 => some (!x166)) = some (!(numB w && val63 (numV w))) := fun m => by
      rw [l00In_eq, Option.bind_some, or_some]
      cases numB w <;> rfl
    by_cases hv : (numB w && val63 (numV w)) = true
    · left
      refine ⟨(), Ev.ite_t hk' (Ev.bindc (idx_at hw') (Ev.bind hnum (Ev.bind (Ev.const' hcc) (Ev.ite_f (by rw [hv]; simp) (Ev.bindc (app_ok (by simp; omega)) (Ev.const ?_)))))), ?_⟩
      · rw [W_succ hk (by omega), htk, List.map_append]; rfl
      · unfold valsOk at hI ⊢
        rw [htk, List.all_append, hI]
        simp only [List.all_cons, List.all_nil, Bool.and_true, Bool.true_and]
        exact hv
    · right
      have hv' : (numB w && val63 (numV w)) = false := by simpa using hv
      refine ⟨_, Ev.ite_t hk' (Ev.bindc (idx_at hw') (Ev.bind hnum (Ev.bind (Ev.const' hcc) (Ev.ite_t (by rw [hv']; rfl) (Ev.pure _))))), ?_⟩
      rw [if_neg]
      intro h
      unfold valsOk at h
      rw [List.all_eq_true] at h
      exact hv (h w (List.mem_of_getElem? hw'))
  · intro t hI
    refine ⟨_, Ev.ite_f (by simp) (Ev.pure _), ?_⟩
    rw [List.take_length] at *
    rw [if_pos hI]

theorem label_spec {s : Str} (hl : s.length ≤ 1048576) : Ev (fun m => spec_l01Label_m m s) (labelP s) := by
  have hm := mx
  unfold spec_l01Label_m
  suffices h : ∃ r, Ev (fun m => spec_l01Values_m m s) r ∧ r.2 = labelP s by
    obtain ⟨r, h1, h2⟩ := h
    exact Ev.bind h1 (Ev.const (by rw [h2]))
  unfold spec_l01Values_m labelP
  by_cases hc : (40 : UInt8) ∈ s
  · have hp := pre_len 40 s
    have hpn : (pre 40 s).length ≠ s.length := fun h => (pre_full 40 s).1 h hc
    have hs0 : sub s (0 : Int) ((pre 40 s).length : Int) = some (pre 40 s) := by
      have := sub_ok (xs := s) (lo := 0) (hi := (pre 40 s).length) (Nat.zero_le _) hp
      rw [pre_take] at this
      exact this
    have hpos : 0 < s.length := by omega
    obtain ⟨b, hb⟩ := get_lt (xs := s) (k := s.length - 1) (by omega)
    have hlast : s.getLast? = some b := by rw [List.getLast?_eq_getElem?]; exact hb
    have hw1 : W ((s.length : Int) - 1) = ((s.length - 1 : Nat) : Int) := by rw [W_of (by omega) (by omega)]; omega
    rw [if_pos hc]
    have hbase : ∀ {r} (_ : Ev (fun m => (if (!actP (pre 40 s)) = true then some true else (idx s (W ((s.length : Int) - (1 : Int)))).bind fun b55 => some ((b55.toNat : Int) != (41 : Int))) ) r), r = !(actP (pre 40 s) && decide (s.getLast? = some 41)) := by
      intro r h
      obtain ⟨n, hn⟩ := h.one
      rw [hw1, idx_at hb] at hn
      simp only [Option.bind_some, or_some, Option.some.injEq] at hn
      rw [← hn, hlast]
      cases actP (pre 40 s)
      · rfl
      · simp only [Bool.not_true, Bool.false_or, Bool.true_and]
        by_cases h41 : b = 41
        · rw [h41]; rfl
        · rw [decide_eq_false (by simpa using h41)]
          have : ((b.toNat : Int) != 41) = true := by
            rw [bne_iff_ne]
            intro g
            exact h41 (UInt8.toNat_inj.1 (show b.toNat = 41 by omega))
          rw [this]; rfl
    have hcond : ∀ m : Nat, (if (!actP (pre 40 s)) = true then some true else (idx s (W ((s.length : Int) - (1 : Int)))).bind fun b55 => some ((b55.toNat : Int) != (41 : Int))) = some (!(actP (pre 40 s) && decide (s.getLast? = some 41))) := by
      intro m
      have e : (if (!actP (pre 40 s)) = true then some true else (idx s (W ((s.length : Int) - (1 : Int)))).bind fun b55 => some ((b55.toNat : Int) != (41 : Int))) = some ((!actP (pre 40 s)) || ((b.toNat : Int) != (41 : Int))) := by rw [hw1, idx_at hb, Option.bind_some, or_some]
      rw [e]
      exact congrArg some (hbase (Ev.const e))
    by_cases h1 : (actP (pre 40 s) && decide (s.getLast? = some 41)) = true
    · have h41 : s.getLast? = some 41 := of_decide_eq_true (Bool.and_eq_true _ _ ▸ h1).2
      have hsl := (last_eq hc).1 h41
      have hsn : suf 40 s ≠ [] := fun e => by rw [e] at hsl; cases hsl
      have hsl2 : (suf 40 s).length = s.length - ((pre 40 s).length + 1) := by unfold suf; simp
      have hsp := List.length_pos_iff.2 hsn
      have hsub : sub s (W (((pre 40 s).length : Int) + 1)) (W ((s.length : Int) - 1)) = some (suf 40 s).dropLast := by
        rw [hw1, W_of (by omega) (by omega), show (((pre 40 s).length : Int) + 1) = (((pre 40 s).length + 1 : Nat) : Int) from rfl, sub_ok (by omega) (by omega), List.drop_take, List.dropLast_eq_take, hsl2]
        unfold suf
        congr 2
        omega
      have hpl : (splitC 44 (suf 40 s).dropLast).length ≤ s.length := by have := splitC_len 44 (suf 40 s).dropLast; simp at this; omega
      rw [h1, Bool.true_and]
      refine ⟨_, Ev.bind (open_spec hl) (Ev.ite_f (by intro g; have := beq_iff_eq.1 g; omega) (Ev.bindc hs0 (Ev.bind (act_spec (by omega)) (Ev.bind (Ev.const' hcond) (Ev.ite_f (by rw [h1]; simp) (Ev.bindc hsub (Ev.bind (split_spec (by simp; omega)) (Ev.bind (vals_loop (by omega) (fun w hw => ?_)) (Ev.const' fun m => lsp_ctl))))))))), ?_⟩
      · have := splitC_mem 44 _ w hw
        simp at this
        omega
      · by_cases hv : valsOk (splitC 44 (suf 40 s).dropLast) = true
        · rw [if_pos hv, hv, Bool.true_and]
          exact decide_eq_decide.2 (by simp; omega)
        · rw [if_neg hv]
          have : valsOk (splitC 44 (suf 40 s).dropLast) = false := by simpa using hv
          rw [this]
          rfl
    · refine ⟨_, Ev.bind (open_spec hl) (Ev.ite_f (by intro g; have := beq_iff_eq.1 g; omega) (Ev.bindc hs0 (Ev.bind (act_spec (by omega)) (Ev.bind (Ev.const' hcond) (Ev.ite_t (by rw [Bool.not_eq_true']; exact Bool.eq_false_iff.2 h1) (Ev.pure _)))))), ?_⟩
      have : (actP (pre 40 s) && decide (s.getLast? = some 41)) = false := by simpa using h1
      rw [this]
      rfl
  · rw [if_neg hc]
    exact ⟨_, Ev.bind (open_spec hl) (Ev.ite_t (by rw [(pre_full 40 s).2 hc]; simp) (Ev.bind (name_spec (by omega)) (Ev.pure _))), rfl⟩
/-! ### the order of texts -/
theorem bl_irr : ∀ a : Str, Op.bytesLess a a = false
  | [] => rfl
  | x :: a => by simp [Op.bytesLess, bl_irr a]
theorem bl_asym : ∀ a b : Str, Op.bytesLess a b = true → Op.bytesLess b a = false
  | _, [], h => by simp [Op.bytesLess] at h
  | [], _ :: _, _ => by simp [Op.bytesLess]
  | x :: a, y :: b, h => by
    simp only [Op.bytesLess, Bool.or_eq_true, Bool.and_eq_true, decide_eq_true_eq, beq_iff_eq] at h
    rcases h with h | ⟨rfl, h⟩
    · have h1 : ¬ y < x := fun h' => by rw [UInt8.lt_iff_toNat_lt] at h h'; omega
      have h2 : ¬ y = x := fun h' => by subst h'; rw [UInt8.lt_iff_toNat_lt] at h; omega
      simp [Op.bytesLess, h1, h2]
    · have := bl_asym a b h
      have h1 : ¬ x < x := fun h' => by rw [UInt8.lt_iff_toNat_lt] at h'; omega
      simp [Op.bytesLess, h1, this]
theorem bl_tri : ∀ a b : Str, Op.bytesLess a b = false → Op.bytesLess b a = false → a = b
  | [], [], _, _ => rfl
  | [], _ :: _, h, _ => by simp [Op.bytesLess] at h
  | _ :: _, [], _, h => by simp [Op.bytesLess] at h
  | x :: a, y :: b, h1, h2 => by
    simp only [Op.bytesLess, Bool.or_eq_false_iff, Bool.and_eq_false_iff, decide_eq_false_iff_not, beq_eq_false_iff_ne] at h1 h2
    have e : x = y := by
      apply UInt8.toNat_inj.1
      have l1 := h1.1
      have l2 := h2.1
      rw [UInt8.lt_iff_toNat_lt] at l1 l2
      omega
    subst e
    have g1 : Op.bytesLess a b = false := h1.2.resolve_left (fun h => h rfl)
    have g2 : Op.bytesLess b a = false := h2.2.resolve_left (fun h => h rfl)
    rw [bl_tri a b g1 g2]
theorem bl_le (s p : Str) : (Op.bytesLess s p || s == p) = !Op.bytesLess p s := by
  cases h : Op.bytesLess p s with
  | true =>
    have h1 := bl_asym p s h
    have h2 : (s == p) = false := by
      rw [beq_eq_false_iff_ne]
      rintro rfl
      rw [bl_irr] at h
      cases h
    rw [h1, h2]; rfl
  | false =>
    cases h1 : Op.bytesLess s p with
    | true => rfl
    | false => rw [bl_tri s p h1 h]; simp

/-! ### valid systems -/
def tau' : Str := [116, 97, 117]
def condX (ls : List Str) (k : Nat) (b : Str → Bool) : Bool := match ls[k]? with
  | none => false
  | some s => !labelP s || (b s || (decide ((1 : Int) < (k : Int)) && (match ls[k - 1]? with | none => false | some p => !Op.bytesLess p s)))
def okL (ls : List Str) (k : Nat) : Bool := !condX ls k fun s => (s == tau') != ((k : Int) == 0)
def labsP (ls : List Str) : Bool := decide (1 ≤ ls.length) && decide (ls.length ≤ 12) && decide (∀ k, k < ls.length → okL ls k = true)
def edgeLess (a b : Timpl_Edge) : Bool := if a.1 ≠ b.1 then decide (a.1 < b.1) else if a.2.1 ≠ b.2.1 then decide (a.2.1 < b.2.1) else decide (a.2.2 < b.2.2)
def inn (a b c : Int) : Bool := decide (b ≤ a) && decide (a ≤ c)
def condE (n m : Int) (es : List Timpl_Edge) (k : Nat) : Bool := match es[k]? with
  | none => false
  | some e => (!inn e.1 0 n || !inn e.2.2 0 n) || (!inn e.2.1 0 m || (decide ((0 : Int) < (k : Int)) && (match es[k - 1]? with | none => false | some p => !edgeLess p e)))
def edgesP (n m : Int) (es : List Timpl_Edge) : Bool := decide (es.length ≤ 300) && decide (∀ k, k < es.length → (!condE n m es k) = true)
def validP (t : Timpl_Lts) : Bool := inn t.1 1 40 && inn t.2.1 0 (W (t.1 - 1)) && labsP t.2.2.1 && edgesP (W (t.1 - 1)) (W ((t.2.2.1.length : Int) - 1)) t.2.2.2

theorem compare_m {m : Nat} {a b : Int} : cmp_Compare_int64_m m a b = some (if a < b then -1 else if b < a then 1 else 0) := by
  unfold cmp_Compare_int64_m cmp_isNaN_int64_m
  simp
  split
  · rfl
  · split <;> rfl
theorem or3 (x y z : Int) : Ev (fun m => cmp_Or_int_m m [x, y, z]) (if x ≠ 0 then x else if y ≠ 0 then y else z) := by
  unfold cmp_Or_int_m
  refine Exists.elim (EvI.find (step := _) 3 (fun k => ([x, y, z][k]?).getD 0 == 0) (fun k => ([x, y, z][k]?).getD 0) (fun k hk hok => ?_) (fun k hk hok => ?_) (Ev.const rfl) (Nat.zero_le _)) (fun res ⟨g1, g2⟩ => Ev.bind g1.ev ?_)
  · obtain ⟨v, hv⟩ := get_lt (xs := [x, y, z]) (k := k) hk
    have hk' : decide ((k : Int) < (([x, y, z] : List Int).length : Int)) = true := decide_eq_true (by simp; omega)
    have h0 : v = 0 := by rw [hv] at hok; simpa using hok
    refine Ev.ite_t hk' (Ev.bindc (idx_at hv) (Ev.ite_f (by rw [h0]; simp) (Ev.const ?_)))
    rw [W_succ hk (by omega)]
  · obtain ⟨v, hv⟩ := get_lt (xs := [x, y, z]) (k := k) hk
    have hk' : decide ((k : Int) < (([x, y, z] : List Int).length : Int)) = true := decide_eq_true (by simp; omega)
    have h0 : v ≠ 0 := by rw [hv] at hok; simpa using hok
    refine Ev.ite_t hk' (Ev.bindc (idx_at hv) (Ev.ite_t (by simpa using h0) (Ev.const ?_)))
    rw [hv]; rfl
  · rcases g2 with ⟨rfl, h⟩ | ⟨k, _, hk, hok, hj, rfl⟩
    · have h0 := h 0 (Nat.zero_le _) (by omega)
      have h1 := h 1 (Nat.zero_le _) (by omega)
      have h2 := h 2 (Nat.zero_le _) (by omega)
      simp at h0 h1 h2
      subst h0; subst h1; subst h2
      exact Ev.const rfl
    · match k, hk with
      | 0, _ => simp at hok; exact Ev.const (by rw [ctl_r]; simp [hok])
      | 1, _ =>
        have h0 := hj 0 (Nat.zero_le _) (by omega)
        simp at hok h0
        exact Ev.const (by rw [ctl_r]; simp [hok, h0])
      | 2, _ =>
        have h0 := hj 0 (Nat.zero_le _) (by omega)
        have h1 := hj 1 (Nat.zero_le _) (by omega)
        simp at hok h0 h1
        exact Ev.const (by rw [ctl_r]; simp [h0, h1])
theorem edges_cmp (a b : Timpl_Edge) : ∃ r : Int, Ev (fun m => impl_compareEdges_m m a b) r ∧ decide (0 ≤ r) = !edgeLess a b := by
  unfold impl_compareEdges_m edgeLess
  simp only [compare_m, Option.bind_some]
  obtain ⟨a1, a2, a3⟩ := a
  obtain ⟨b1, b2, b3⟩ := b
  refine ⟨_, Ev.bind (or3 _ _ _) (Ev.pure _), ?_⟩
  simp only []
  rcases Int.lt_trichotomy a1 b1 with h | h | h
  · have h1 : a1 ≠ b1 := by omega
    simp [h, h1]
  · subst h
    rcases Int.lt_trichotomy a2 b2 with h | h | h
    · have h1 : a2 ≠ b2 := by omega
      simp [h, h1]
    · subst h
      rcases Int.lt_trichotomy a3 b3 with h | h | h
      · simp [h]
      · subst h; simp
      · have h1 : ¬ a3 < b3 := by omega
        simp [h, h1]
    · have h1 : a2 ≠ b2 := by omega
      have h2 : ¬ a2 < b2 := by omega
      simp [h, h1, h2]
  · have h1 : a1 ≠ b1 := by omega
    have h2 : ¬ a1 < b1 := by omega
    simp [h, h1, h2]
theorem less_m {m : Nat} {a b : Timpl_Edge} : spec_l11Less_m m a b = some (edgeLess a b) := by
  unfold spec_l11Less_m edgeLess
  by_cases h1 : a.1 = b.1
  · by_cases h2 : a.2.1 = b.2.1
    · simp [h1, h2]
    · simp [h1, h2]
  · simp [h1]

theorem isState_m {m : Nat} {t : Timpl_Lts} {k : Int} : impl_Lts_isState_m m t k = some (inn k 0 (W (t.1 - 1))) := by
  unfold impl_Lts_isState_m
  rw [within_eq]; rfl

theorem names_spec {ls : List Str} (hl : ls.length ≤ 1048576) (hs : ∀ s ∈ ls, s.length ≤ 1048576) : Ev (fun m => spec_l11Names_m m ls) (labsP ls) := by
  have hm := mx
  unfold spec_l11Names_m
  by_cases h0 : ls.length = 0
  · have e : ((ls.length : Int) == 0) = true := by rw [h0]; rfl
    refine Ev.eq (r := false) (Ev.const' fun m => by simp only [e, if_true, Option.bind_some]) ?_
    unfold labsP
    rw [decide_eq_false (show ¬ 1 ≤ ls.length by omega)]; rfl
  · have e : ((ls.length : Int) == 0) = false := beq_false_of_ne (by omega)
    by_cases h1 : 12 < ls.length
    · have e1 : decide ((12 : Int) < (ls.length : Int)) = true := decide_eq_true (by omega)
      refine Ev.eq (r := false) (Ev.const' fun m => by simp only [e, e1, if_true, Bool.false_eq_true, if_false, Option.bind_some]) ?_
      unfold labsP
      rw [decide_eq_false (show ¬ ls.length ≤ 12 by omega)]; simp
    · have e1 : decide ((12 : Int) < (ls.length : Int)) = false := decide_eq_false (by omega)
      obtain ⟨s0, hs0⟩ := get_lt (xs := ls) (k := 0) (by omega)
      have hi : idx ls (0 : Int) = some s0 := idx_at (k := 0) hs0
      have hlab : labsP ls = decide (∀ k, k < ls.length → okL ls k = true) := by
        unfold labsP
        rw [decide_eq_true (show 1 ≤ ls.length by omega), decide_eq_true (show ls.length ≤ 12 by omega)]; rfl
      rw [hlab]
      by_cases h2 : s0 = tau'
      · have e2 : (s0 != ([116, 97, 117] : Str)) = false := by rw [h2]; rfl
        refine Ev.bindc (a := false) (by simp only [e, e1, Bool.false_eq_true, if_false]) (Ev.bindc (a := false) (by simp only [hi, e2, Bool.false_eq_true, if_false, Option.bind_some]) (Ev.ite_f (by simp) ?_))
        have cond : ∀ k s, k < ls.length → ls[k]? = some s → Ev (fun m => (spec_l01Label_m m s).bind fun x140 => (if (!x140) = true then some true else (idx ls (k : Int)).bind fun x146 => some (x146 == ([116, 97, 117] : Str))).bind fun t143 => (if t143 = true then some true else (if (decide ((1 : Int) < (k : Int))) = true then (idx ls (W ((k : Int) - (1 : Int)))).bind fun x157 => (idx ls (k : Int)).bind fun x162 => some (!Op.bytesLess x157 x162) else some false).bind fun t154 => some t154).bind fun t151 => (if t151 = true then some (.inr (.inr false)) else some (.inl ((W ((k : Int) + (1 : Int))))) : Option (Int ⊕ (Unit ⊕ Bool)))) (if condX ls k (fun s => s == tau') = true then .inr (.inr false) else .inl ((k + 1 : Nat) : Int)) := by
          intro k s hk hs'
          refine Ev.bind (label_spec (hs s (List.mem_of_getElem? hs'))) (Ev.const ?_)
          unfold condX
          rw [hs']
          cases k with
          | zero =>
            simp only [idx_at hs', Option.bind_some, or_some, show decide ((1 : Int) < ((0 : Nat) : Int)) = false from rfl, Bool.false_eq_true, if_false, W_succ hk (by omega), Bool.false_and, Bool.or_false]
            rw [ite_some]
            rfl
          | succ j =>
            obtain ⟨p, hp⟩ := get_lt (xs := ls) (k := j) (by omega)
            have w2 := W_pred (k := j) (n := ls.length) (by omega) (by omega)
            simp only [idx_at hs', hp, w2, idx_at hp, Option.bind_some, or_some, and_some, W_succ hk (by omega), Nat.add_sub_cancel]
            rw [ite_some, Bool.or_assoc]
            rfl
        refine Exists.elim (EvI.find (step := _) ls.length (fun k => !condX ls k fun s => s == tau') (fun _ => false) (fun k hk hok => ?_) (fun k hk hok => ?_) (Ev.ite_f (by simp) (Ev.pure _)) (s := 1) (by omega)) (fun res ⟨g1, g2⟩ => Ev.bind g1.ev ?_)
        · obtain ⟨s, hs'⟩ := get_lt hk
          have hk' : decide ((k : Int) < (ls.length : Int)) = true := by simpa using hk
          have hc : (condX ls k fun s => s == tau') = false := by rwa [Bool.not_eq_true'] at hok
          exact Ev.ite_t hk' (Ev.bindc (idx_at hs') ((cond k s hk hs').eq (by rw [hc]; rfl)))
        · obtain ⟨s, hs'⟩ := get_lt hk
          have hk' : decide ((k : Int) < (ls.length : Int)) = true := by simpa using hk
          have hc : (condX ls k fun s => s == tau') = true := by rwa [Bool.not_eq_false'] at hok
          exact Ev.ite_t hk' (Ev.bindc (idx_at hs') ((cond k s hk hs').eq (by rw [hc]; rfl)))
        · have hrel : ∀ k, 1 ≤ k → (!condX ls k fun s => s == tau') = okL ls k := by
            intro k hk1
            unfold okL condX
            have : ((k : Int) == 0) = false := beq_false_of_ne (by omega)
            rw [this]
            simp only [Bool.bne_false]
          have h0k : okL ls 0 = true := by
            unfold okL condX
            rw [hs0, h2]
            have : labelP tau' = true := by unfold labelP; rw [if_neg (by decide)]; exact name_tau
            simp only [this]
            rfl
          rcases g2 with ⟨rfl, h⟩ | ⟨k, hk1, hk, hok, _, rfl⟩
          · refine (Ev.pure _).eq (decide_eq_true fun k hk => ?_).symm
            cases k with
            | zero => exact h0k
            | succ j => rw [← hrel _ (by omega)]; exact h _ (by omega) hk
          · refine (Ev.pure _).eq (decide_eq_false fun h => ?_).symm
            rw [hrel k hk1, h k hk] at hok
            cases hok
      · have e2 : (s0 != ([116, 97, 117] : Str)) = true := bne_iff_ne.2 h2
        refine Ev.eq (r := false) (Ev.const' fun m => by simp only [e, e1, hi, e2, if_true, Bool.false_eq_true, if_false, Option.bind_some]) ?_
        rw [decide_eq_false]
        intro h
        have := h 0 (by omega)
        unfold okL condX at this
        rw [hs0] at this
        have e3 : (s0 == tau') = false := beq_false_of_ne h2
        simp [e3] at this

/-! ### edges -/
theorem valid_spec {t : Timpl_Lts} (hl : t.2.2.1.length ≤ 1048576) (hs : ∀ s ∈ t.2.2.1, s.length ≤ 1048576) (he : t.2.2.2.length ≤ 1048576) : Ev (fun m => spec_l11Is_m m t) (validP t) := by
  have hm := mx
  unfold spec_l11Is_m validP
  simp only [l00In_eq, Option.bind_some]
  cases h1 : inn t.1 1 40
  · unfold inn at h1
    exact Ev.eq (r := false) (Ev.const' fun m => by simp only [h1, Bool.not_false, if_true, Option.bind_some]) rfl
  · unfold inn at h1
    cases h2 : inn t.2.1 0 (W (t.1 - 1))
    · unfold inn at h2
      exact Ev.eq (r := false) (Ev.const' fun m => by simp only [h1, h2, Bool.not_false, Bool.not_true, Bool.false_eq_true, if_true, if_false, Option.bind_some]) rfl
    · unfold inn at h2
      simp only [h1, h2, Bool.not_true, Bool.false_eq_true, if_false, Option.bind_some]
      refine Ev.bind (Ev.bind (names_spec hl hs) (Ev.pure _)) ?_
      cases h3 : labsP t.2.2.1
      · exact Ev.eq (r := false) (Ev.const' fun m => by simp only [Bool.not_false, if_true, Option.bind_some]) rfl
      · simp only [Bool.not_true, Bool.false_eq_true, if_false, Option.bind_some, Bool.and_true, Bool.true_and]
        unfold edgesP
        by_cases h4 : 300 < t.2.2.2.length
        · rw [decide_eq_false (show ¬ t.2.2.2.length ≤ 300 by omega)]
          exact Ev.ite_t (decide_eq_true (by omega)) (Ev.pure _)
        · rw [decide_eq_true (show t.2.2.2.length ≤ 300 by omega), Bool.true_and]
          refine Ev.ite_f (by simp; omega) ?_
          have cond : ∀ k e, k < t.2.2.2.length → t.2.2.2[k]? = some e → (if (!(decide ((0 : Int) ≤ e.1) && decide (e.1 ≤ W (t.1 - 1)))) = true then some true else some (!(decide ((0 : Int) ≤ e.2.2) && decide (e.2.2 ≤ W (t.1 - 1))))) = some (!inn e.1 0 (W (t.1 - 1)) || !inn e.2.2 0 (W (t.1 - 1))) := fun k e _ _ => by rw [or_some]; rfl
          have c3 : ∀ k e, k < t.2.2.2.length → t.2.2.2[k]? = some e → (if (decide ((0 : Int) < (k : Int))) = true then (idx t.2.2.2 (W ((k : Int) - (1 : Int)))).bind fun x261 => some (!edgeLess x261 e) else some false) = some (decide ((0 : Int) < (k : Int)) && (match t.2.2.2[k - 1]? with | none => false | some p => !edgeLess p e)) := by
            intro k e hk he'
            cases k with
            | zero => rfl
            | succ j =>
              obtain ⟨p, hp⟩ := get_lt (xs := t.2.2.2) (k := j) (by omega)
              rw [W_pred (k := j) (n := t.2.2.2.length) (by omega) (by omega), idx_at hp, Nat.add_sub_cancel, hp, Option.bind_some, and_some]
          refine (Ev.all t.2.2.2.length (fun k => !condE (W (t.1 - 1)) (W ((t.2.2.1.length : Int) - 1)) t.2.2.2 k) false true (fun k hk hok => Ev.const' fun m => ?_) (fun k hk hok => Ev.const' fun m => ?_) (Ev.ite_f (by simp) (Ev.pure _))).eq (by split <;> simp_all)
          · obtain ⟨e, he'⟩ := get_lt hk
            have hk' : decide ((k : Int) < (t.2.2.2.length : Int)) = true := by simpa using hk
            have hc : condE (W (t.1 - 1)) (W ((t.2.2.1.length : Int) - 1)) t.2.2.2 k = false := by rwa [Bool.not_eq_true'] at hok
            unfold condE at hc
            rw [he'] at hc
            simp only [Bool.or_eq_false_iff] at hc
            obtain ⟨⟨g1, g2⟩, g3, g4⟩ := hc
            unfold inn at g1 g2 g3
            simp only [hk', if_true, idx_at he', Option.bind_some, g1, g2, g3, Bool.false_eq_true, if_false, less_m, c3 k e hk he', g4, W_succ hk (by omega)]
          · obtain ⟨e, he'⟩ := get_lt hk
            have hk' : decide ((k : Int) < (t.2.2.2.length : Int)) = true := by simpa using hk
            have hc : condE (W (t.1 - 1)) (W ((t.2.2.1.length : Int) - 1)) t.2.2.2 k = true := by rwa [Bool.not_eq_false'] at hok
            unfold condE at hc
            rw [he'] at hc
            simp only [hk', if_true, idx_at he', Option.bind_some, or_some, less_m]
            cases ha : (!(decide ((0 : Int) ≤ e.1) && decide (e.1 ≤ W (t.1 - 1))) || !(decide ((0 : Int) ≤ e.2.2) && decide (e.2.2 ≤ W (t.1 - 1))))
            · cases hb : (!(decide ((0 : Int) ≤ e.2.1) && decide (e.2.1 ≤ W ((t.2.2.1.length : Int) - 1))))
              · have hd : (decide ((0 : Int) < (k : Int)) && (match t.2.2.2[k - 1]? with | none => false | some p => !edgeLess p e)) = true := by
                  unfold inn at hc
                  simp only [ha, hb, Bool.false_or] at hc
                  exact hc
                simp only [Bool.false_or, Bool.false_eq_true, if_false, c3 k e hk he', hd, Option.bind_some, if_true]
              · simp only [Bool.false_or, if_true]
            · simp only [Bool.true_or, if_true]
structure VL (t : Timpl_Lts) (n : Nat) : Prop where
  st : t.1 = (n : Int)
  pos : 1 ≤ n
  top : n ≤ 40
  ini : 0 ≤ t.2.1 ∧ t.2.1 < (n : Int)
  labs : 1 ≤ t.2.2.1.length ∧ t.2.2.1.length ≤ 12
  lab : ∀ k, k < t.2.2.1.length → okL t.2.2.1 k = true
  few : t.2.2.2.length ≤ 300
  src : ∀ e ∈ t.2.2.2, 0 ≤ e.1 ∧ e.1 < (n : Int)
  dst : ∀ e ∈ t.2.2.2, 0 ≤ e.2.2 ∧ e.2.2 < (n : Int)
  lbl : ∀ e ∈ t.2.2.2, 0 ≤ e.2.1 ∧ e.2.1 < (t.2.2.1.length : Int)
  ord : ∀ (k : Nat) (p e : Timpl_Edge), t.2.2.2[k]? = some p → t.2.2.2[k + 1]? = some e → edgeLess p e = true

theorem valid_of {t : Timpl_Lts} (h : validP t = true) : ∃ n, VL t n := by
  unfold validP edgesP labsP at h
  simp only [Bool.and_eq_true] at h
  obtain ⟨⟨⟨h1, h2⟩, ⟨h3, h4⟩, h5⟩, h6, h7⟩ := h
  unfold inn at h1 h2
  simp only [Bool.and_eq_true, decide_eq_true_eq] at h1 h2 h3 h4 h5 h6 h7
  have hw : W (t.1 - 1) = t.1 - 1 := W_of (by omega) (by omega)
  have hw2 : W ((t.2.2.1.length : Int) - 1) = (t.2.2.1.length : Int) - 1 := W_of (by omega) (by omega)
  rw [hw] at h2 h7
  rw [hw2] at h7
  have key : ∀ (k : Nat) (e : Timpl_Edge), t.2.2.2[k]? = some e → ((0 ≤ e.1 ∧ e.1 ≤ t.1 - 1) ∧ (0 ≤ e.2.2 ∧ e.2.2 ≤ t.1 - 1)) ∧ (0 ≤ e.2.1 ∧ e.2.1 ≤ (t.2.2.1.length : Int) - 1) ∧ ∀ (j : Nat) (p : Timpl_Edge), k = j + 1 → t.2.2.2[j]? = some p → edgeLess p e = true := by
    intro k e he
    have hk := (List.getElem?_eq_some_iff.1 he).1
    have h := h7 k hk
    unfold condE inn at h
    rw [he] at h
    simp only [Bool.not_eq_true', Bool.or_eq_false_iff, Bool.not_eq_false', Bool.and_eq_true, decide_eq_true_eq] at h
    obtain ⟨⟨a, b⟩, c, d⟩ := h
    refine ⟨⟨a, b⟩, c, fun j p hj hp => ?_⟩
    subst hj
    have hpos : decide ((0 : Int) < ((j + 1 : Nat) : Int)) = true := decide_eq_true (by omega)
    rw [hpos, Bool.true_and, Nat.add_sub_cancel, hp] at d
    simpa using d
  have ofm : ∀ e ∈ t.2.2.2, ((0 ≤ e.1 ∧ e.1 ≤ t.1 - 1) ∧ (0 ≤ e.2.2 ∧ e.2.2 ≤ t.1 - 1)) ∧ (0 ≤ e.2.1 ∧ e.2.1 ≤ (t.2.2.1.length : Int) - 1) := by
    intro e he
    obtain ⟨k, hk, rfl⟩ := List.getElem_of_mem he
    obtain ⟨a, b, _⟩ := key k _ (List.getElem?_eq_getElem hk)
    exact ⟨a, b⟩
  refine ⟨t.1.toNat, ⟨by omega, by omega, by omega, by omega, ⟨h3, h4⟩, h5, h6, fun e he => ?_, fun e he => ?_, fun e he => ?_, fun k p e hp he => (key (k + 1) e he).2.2 k p rfl hp⟩⟩
  · have := (ofm e he).1.1; omega
  · have := (ofm e he).1.2; omega
  · have := (ofm e he).2; omega

/-! ### ways and distances -/
def pr (bk : Bool) (e : Timpl_Edge) : Int × Int := if bk = true then (e.2.2, e.1) else (e.1, e.2.2)
def Ws (n : Nat) (ps : List (Int × Int)) : Prop := ∀ e ∈ ps, (0 ≤ e.1 ∧ e.1 < (n : Int)) ∧ (0 ≤ e.2 ∧ e.2 < (n : Int))
def Rg (n : Nat) (fr : List Int) : Prop := ∀ v ∈ fr, 0 ≤ v ∧ v < (n : Int)
def Rch (ps : List (Int × Int)) (fr : List Int) : Nat → Int → Prop
  | 0, v => v ∈ fr
  | d + 1, v => ∃ e ∈ ps, Rch ps fr d e.1 ∧ e.2 = v
def Mn (ps : List (Int × Int)) (fr : List Int) (d : Nat) (v : Int) : Prop := Rch ps fr d v ∧ ∀ c, c < d → ¬ Rch ps fr c v
theorem VL.ws {t : Timpl_Lts} {n : Nat} (V : VL t n) (bk : Bool) : Ws n (t.2.2.2.map (pr bk)) := by
  intro e he
  obtain ⟨x, hx, rfl⟩ := List.mem_map.1 he
  have a := V.src x hx
  have b := V.dst x hx
  cases bk
  · exact ⟨a, b⟩
  · exact ⟨b, a⟩

section
variable {n : Nat} {ps : List (Int × Int)} {fr : List Int}
theorem mn_uniq {c d : Nat} {v : Int} (h : Mn ps fr c v) (h' : Mn ps fr d v) : c = d := by
  by_cases h1 : c < d
  · exact absurd h.1 (h'.2 c h1)
  · by_cases h2 : d < c
    · exact absurd h'.1 (h.2 d h2)
    · omega
theorem mn_pred {d : Nat} {v : Int} (h : Mn ps fr (d + 1) v) : ∃ e ∈ ps, Mn ps fr d e.1 ∧ e.2 = v := by
  obtain ⟨⟨e, he, h1, h2⟩, h3⟩ := h
  exact ⟨e, he, ⟨h1, fun c hc hr => h3 (c + 1) (by omega) ⟨e, he, hr, h2⟩⟩, h2⟩
theorem rch_rg (hw : Ws n ps) (hf : Rg n fr) : ∀ {d : Nat} {v : Int}, Rch ps fr d v → 0 ≤ v ∧ v < (n : Int)
  | 0, v, h => hf v h
  | d + 1, v, ⟨e, he, _, h2⟩ => by subst h2; exact (hw e he).2
structure Bfs (n : Nat) (ps : List (Int × Int)) (fr : List Int) (d : Nat) (f : Int → Int) (a b : List Int) : Prop where
  val : ∀ v, 0 ≤ v → v < (n : Int) → f v = -1 ∨ ∃ c : Nat, c ≤ d + 1 ∧ f v = (c : Int) ∧ Mn ps fr c v
  full : ∀ (v : Int) (c : Nat), c ≤ d → Mn ps fr c v → f v = (c : Int)
  one : ∀ u ∈ a, (0 ≤ u ∧ u < (n : Int)) ∧ f u = (d : Int)
  two : ∀ u ∈ b, (0 ≤ u ∧ u < (n : Int)) ∧ f u = (d : Int) + 1
  all : ∀ v, 0 ≤ v → v < (n : Int) → f v = (d : Int) + 1 → v ∈ b
  done : ∀ u, 0 ≤ u → u < (n : Int) → f u = (d : Int) → u ∉ a → ∀ e ∈ ps, e.1 = u → f e.2 ≠ -1

theorem Bfs.level (hw : Ws n ps) (hf : Rg n fr) {d : Nat} {f : Int → Int} {b : List Int} (h : Bfs n ps fr d f [] b) : Bfs n ps fr (d + 1) f b [] where
  val v h0 h1 := by
    rcases h.val v h0 h1 with q | ⟨c, q1, q⟩
    · exact .inl q
    · exact .inr ⟨c, by omega, q⟩
  full v c hc hm := by
    by_cases hd : c ≤ d
    · exact h.full v c hd hm
    obtain rfl : c = d + 1 := by omega
    obtain ⟨e, he, h1, h2⟩ := mn_pred hm
    have ra := rch_rg hw hf h1.1
    have rv := rch_rg hw hf hm.1
    have hx := h.done e.1 ra.1 ra.2 (h.full _ _ (Nat.le_refl _) h1) (by simp) e he rfl
    rw [h2] at hx
    rcases h.val v rv.1 rv.2 with q | ⟨c', _, q2, q3⟩
    · exact absurd q hx
    · rw [q2, mn_uniq q3 hm]
  one u hu := by have := h.two u hu; exact ⟨this.1, by rw [this.2]; rfl⟩
  two u hu := by cases hu
  all v h0 h1 hv := by
    rcases h.val v h0 h1 with q | ⟨c, q1, q, _⟩
    · rw [q] at hv; push_cast at hv; omega
    · rw [q] at hv; push_cast at hv; omega
  done u h0 h1 hu hn := absurd (h.all u h0 h1 (by rw [hu]; rfl)) hn

/-- In the middle of the edges. -/
structure BfsM (n : Nat) (ps : List (Int × Int)) (fr : List Int) (d : Nat) (u : Int) (r : List Int) (K i : Nat) (s : (Int → Int) × List Int) : Prop where
  at_ : s.1 u = (d : Int)
  tot : (tab n s.1).countP (fun x => decide (x < 0)) + s.2.length = K
  inv : ∃ b, s.2 = r ++ b ∧ (∀ v, 0 ≤ v → v < (n : Int) → s.1 v = -1 ∨ ∃ c : Nat, c ≤ d + 1 ∧ s.1 v = (c : Int) ∧ Mn ps fr c v) ∧ (∀ (v : Int) (c : Nat), c ≤ d → Mn ps fr c v → s.1 v = (c : Int)) ∧
    (∀ x ∈ r, (0 ≤ x ∧ x < (n : Int)) ∧ s.1 x = (d : Int)) ∧ (∀ x ∈ b, (0 ≤ x ∧ x < (n : Int)) ∧ s.1 x = (d : Int) + 1) ∧ (∀ v, 0 ≤ v → v < (n : Int) → s.1 v = (d : Int) + 1 → v ∈ b) ∧
    (∀ x, 0 ≤ x → x < (n : Int) → s.1 x = (d : Int) → x ∉ r → x ≠ u → ∀ e ∈ ps, e.1 = x → s.1 e.2 ≠ -1) ∧ ∀ (j : Nat) (e : Int × Int), j < i → ps[j]? = some e → e.1 = u → s.1 e.2 ≠ -1

def BfsI (n : Nat) (ps : List (Int × Int)) (fr : List Int) (s : (Int → Int) × List Int) : Prop :=
  (tab n s.1).countP (fun x => decide (x < 0)) + s.2.length ≤ n + fr.length ∧ ∃ d a b, s.2 = a ++ b ∧ Bfs n ps fr d s.1 a b

theorem BfsI.head (hw : Ws n ps) (hf : Rg n fr) {f : Int → Int} {u : Int} {r : List Int} (h : BfsI n ps fr (f, u :: r)) :
    ∃ d r', Mn ps fr d u ∧ (0 ≤ u ∧ u < (n : Int)) ∧ BfsM n ps fr d u r' ((tab n f).countP (fun x => decide (x < 0)) + r.length) 0 (f, r) ∧ ∀ s : (Int → Int) × List Int, BfsM n ps fr d u r' ((tab n f).countP (fun x => decide (x < 0)) + r.length) ps.length s → BfsI n ps fr s := by
  obtain ⟨hK, d, a, b, hab, hB⟩ := h
  simp only [List.length_cons] at hK
  have key : ∀ d b r', r = r' ++ b → Bfs n ps fr d f (u :: r') b → ∃ d r', Mn ps fr d u ∧ (0 ≤ u ∧ u < (n : Int)) ∧ BfsM n ps fr d u r' ((tab n f).countP (fun x => decide (x < 0)) + r.length) 0 (f, r) ∧ ∀ s : (Int → Int) × List Int, BfsM n ps fr d u r' ((tab n f).countP (fun x => decide (x < 0)) + r.length) ps.length s → BfsI n ps fr s := by
    intro d b r' hr hB
    have hu := hB.one u (by simp)
    have hmu : Mn ps fr d u := by
      rcases hB.val u hu.1.1 hu.1.2 with q | ⟨c, _, q1, q2⟩
      · have := hu.2; omega
      · have := hu.2
        obtain rfl : c = d := by omega
        exact q2
    refine ⟨d, r', hmu, hu.1, ⟨hu.2, rfl, b, hr, hB.val, hB.full, fun x hx => hB.one x (List.mem_cons_of_mem _ hx), hB.two, hB.all, fun x p q hx hxr hxu => hB.done x p q hx (by simp [hxr, hxu]), fun j e hj => by omega⟩, fun s hM => ?_⟩
    obtain ⟨b', hb', h1, h2, h3, h4, h5, h6, h7⟩ := hM.inv
    refine ⟨by have := hM.tot; omega, d, r', b', hb', ⟨h1, h2, h3, h4, h5, fun x p q hx hxr e he hex => ?_⟩⟩
    by_cases hxu : x = u
    · obtain ⟨j, hj, rfl⟩ := List.getElem_of_mem he
      exact h7 j _ hj (List.getElem?_eq_getElem hj) (hex.trans hxu)
    · exact h6 x p q hx hxr hxu e he hex
  cases a with
  | nil =>
    have e : b = u :: r := hab.symm
    subst e
    exact key (d + 1) [] r (by simp) (hB.level hw hf)
  | cons x r' =>
    simp only [List.cons_append, List.cons.injEq] at hab
    obtain ⟨rfl, hr⟩ := hab
    exact key d b r' hr hB

end
section
variable {n : Nat} {ok : Timpl_Edge → Bool} {es : List Timpl_Edge} {f0 : Int → Bool}
end
def BLts (t : Timpl_Lts) : Prop := t.2.2.1.length ≤ 1048576 ∧ (∀ s ∈ t.2.2.1, s.length ≤ 1048576) ∧ t.2.2.2.length ≤ 1048576

theorem eqB_strs {a : List Str} (h : a.length ≤ 1048576) : Ev (fun n => laws_eqStringS_m n a a) true := eq_loop_ints (by have := mx; omega)
theorem eqB_edges {a : List Timpl_Edge} (h : a.length ≤ 1048576) : Ev (fun n => laws_eqEdgeS_m n a a) true :=
  eq_loop (eq := fun n x y => laws_eqEdge_m n x y) (fun x _ => Ev.ite_f (by simp) (Ev.ite_f (by simp) (Ev.ite_f (by simp) (Ev.pure _)))) (by have := mx; omega)
theorem eqB_lts {a : Timpl_Lts} (h : BLts a) : Ev (fun n => laws_eqLts_m n a a) true :=
  Ev.ite_f (by simp) (Ev.ite_f (by simp) (Ev.bind (eqB_strs h.1) (Ev.ite_f (by simp) (Ev.bind (eqB_edges h.2.2) (Ev.ite_f (by simp) (Ev.pure _))))))
theorem valid_impl {t : Timpl_Lts} (hl : t.2.2.1.length ≤ 1048576) (hs : ∀ s ∈ t.2.2.1, s.length ≤ 1048576) (he : t.2.2.2.length ≤ 1048576) : Ev (fun m => impl_ValidLts_m m t) (validP t) := by
  have hm := mx
  unfold impl_ValidLts_m validP
  simp only [within_eq, isState_m, index_eq, Option.bind_some]
  cases h1 : inn t.1 1 40
  · unfold inn at h1
    exact Ev.eq (r := false) (Ev.const' fun m => by simp only [h1, Bool.not_false, if_true, Option.bind_some]) rfl
  · unfold inn at h1
    cases h2 : inn t.2.1 0 (W (t.1 - 1))
    · exact Ev.eq (r := false) (Ev.const' fun m => by simp only [h1, Bool.not_false, Bool.not_true, Bool.false_eq_true, if_true, if_false, Option.bind_some]) rfl
    · simp only [h1, Bool.not_true, Bool.false_eq_true, if_false, Option.bind_some, Bool.true_and]
      by_cases h3 : 1 ≤ t.2.2.1.length ∧ t.2.2.1.length ≤ 12
      · have e3 : (decide ((1 : Int) ≤ (t.2.2.1.length : Int)) && decide ((t.2.2.1.length : Int) ≤ 12)) = true := by
          rw [decide_eq_true (by omega : (1 : Int) ≤ (t.2.2.1.length : Int)), decide_eq_true (by omega : (t.2.2.1.length : Int) ≤ 12)]; rfl
        simp only [e3, Bool.not_true, Bool.false_eq_true, if_false, Option.bind_some]
        unfold edgesP
        by_cases h4 : 300 < t.2.2.2.length
        · rw [decide_eq_false (show ¬ t.2.2.2.length ≤ 300 by omega), Bool.false_and, Bool.and_false]
          exact Ev.ite_t (decide_eq_true (by omega)) (Ev.pure _)
        · rw [decide_eq_true (show t.2.2.2.length ≤ 300 by omega), Bool.true_and]
          refine Ev.ite_f (by simp; omega) ?_
          have hlab : labsP t.2.2.1 = decide (∀ k, k < t.2.2.1.length → okL t.2.2.1 k = true) := by
            unfold labsP
            rw [decide_eq_true h3.1, decide_eq_true h3.2]; rfl
          rw [hlab]
          have cond : ∀ k s, k < t.2.2.1.length → t.2.2.1[k]? = some s → Ev (fun m => (impl_IsLabel_m m s).bind fun x357 => (if (!x357) = true then some true else some ((s == ([116, 97, 117] : Str)) != ((k : Int) == (0 : Int)))).bind fun t360 => (if t360 = true then some true else (if (decide ((1 : Int) < (k : Int))) = true then (idx t.2.2.1 (W ((k : Int) - (1 : Int)))).bind fun x369 => some (Op.bytesLess s x369 || s == x369) else some false).bind fun t366 => some t366).bind fun t363 => (if t363 = true then some (.inr (.inr false)) else some (.inl ((W ((k : Int) + (1 : Int))))) : Option (Int ⊕ (Unit ⊕ Bool)))) (if okL t.2.2.1 k = true then .inl ((k + 1 : Nat) : Int) else .inr (.inr false)) := by
            intro k s hk hs'
            refine Ev.bind (label_impl (hs s (List.mem_of_getElem? hs'))) (Ev.const ?_)
            have e : ∀ (c : Bool) (x y : Int ⊕ (Unit ⊕ Bool)), some (if c = true then x else y) = some (if (!c) = true then y else x) := by intro c x y; cases c <;> rfl
            unfold okL condX
            rw [hs']
            cases k with
            | zero =>
              simp only [Option.bind_some, or_some, show decide ((1 : Int) < ((0 : Nat) : Int)) = false from rfl, Bool.false_eq_true, if_false, W_succ hk (by omega), Bool.false_and, Bool.or_false]
              rw [ite_some, e]
              rfl
            | succ j =>
              obtain ⟨p, hp⟩ := get_lt (xs := t.2.2.1) (k := j) (by omega)
              have w2 := W_pred (k := j) (n := t.2.2.1.length) (by omega) (by omega)
              simp only [hp, w2, idx_at hp, Option.bind_some, or_some, and_some, W_succ hk (by omega), Nat.add_sub_cancel, bl_le]
              rw [ite_some, e, Bool.or_assoc]
              rfl
          refine Ev.bind (EvI.all t.2.2.1.length (okL t.2.2.1) false (fun k hk hok => ?_) (fun k hk hok => ?_) (Ev.ite_f (by simp) (Ev.pure _))).ev ?_
          · obtain ⟨s, hs'⟩ := get_lt hk
            have hk' : decide ((k : Int) < (t.2.2.1.length : Int)) = true := by simpa using hk
            exact Ev.ite_t hk' (Ev.bindc (idx_at hs') ((cond k s hk hs').eq (by rw [hok]; rfl)))
          · obtain ⟨s, hs'⟩ := get_lt hk
            have hk' : decide ((k : Int) < (t.2.2.1.length : Int)) = true := by simpa using hk
            exact Ev.ite_t hk' (Ev.bindc (idx_at hs') ((cond k s hk hs').eq (by rw [hok]; rfl)))
          · by_cases h5 : ∀ k, k < t.2.2.1.length → okL t.2.2.1 k = true
            · rw [if_pos h5, decide_eq_true h5, Bool.true_and]
              have c3 : ∀ k e, k < t.2.2.2.length → t.2.2.2[k]? = some e → Ev (fun m => (if (decide ((0 : Int) < (k : Int))) = true then (idx t.2.2.2 (W ((k : Int) - (1 : Int)))).bind fun x327 => (impl_compareEdges_m m (x327.1, x327.2.1, x327.2.2) (e.1, e.2.1, e.2.2)).bind fun x342 => some (decide ((0 : Int) ≤ x342)) else some false)) (decide ((0 : Int) < (k : Int)) && (match t.2.2.2[k - 1]? with | none => false | some p => !edgeLess p e)) := by
                intro k e hk he'
                cases k with
                | zero => exact Ev.const' fun m => rfl
                | succ j =>
                  obtain ⟨p, hp⟩ := get_lt (xs := t.2.2.2) (k := j) (by omega)
                  have hpos : decide ((0 : Int) < ((j + 1 : Nat) : Int)) = true := decide_eq_true (by omega)
                  obtain ⟨r, hr1, hr2⟩ := edges_cmp p e
                  rw [W_pred (k := j) (n := t.2.2.2.length) (by omega) (by omega), Nat.add_sub_cancel, hp, hpos, Bool.true_and]
                  exact Ev.ite_t rfl (Ev.bindc (idx_at hp) (Ev.bind hr1 (Ev.const (by rw [hr2]))))
              refine (Ev.all t.2.2.2.length (fun k => !condE (W (t.1 - 1)) (W ((t.2.2.1.length : Int) - 1)) t.2.2.2 k) false true (fun k hk hok => ?_) (fun k hk hok => ?_) (Ev.ite_f (by simp) (Ev.pure _))).eq (by split <;> simp_all)
              all_goals
                obtain ⟨e, he'⟩ := get_lt hk
                have hk' : decide ((k : Int) < (t.2.2.2.length : Int)) = true := by simpa using hk
              · have hc : condE (W (t.1 - 1)) (W ((t.2.2.1.length : Int) - 1)) t.2.2.2 k = false := by rwa [Bool.not_eq_true'] at hok
                unfold condE at hc
                rw [he'] at hc
                simp only [Bool.or_eq_false_iff] at hc
                obtain ⟨⟨g1, g2⟩, g3, g4⟩ := hc
                have c := (c3 k e hk he').eq g4
                unfold inn at g3
                refine Ev.ite_t hk' (Ev.bindc (idx_at he') (Ev.bindc (a := false) ?_ (Ev.bindc (a := false) ?_ (Ev.bind (a := false) (Ev.ite_f (by simp) (Ev.bind c (Ev.pure _))) (Ev.ite_f (by simp) (Ev.const ?_))))))
                · simp only [g1, g2, Bool.false_eq_true, if_false]
                · simp only [g3, Bool.false_eq_true, if_false]
                · rw [W_succ hk (by omega)]
              · have hc : condE (W (t.1 - 1)) (W ((t.2.2.1.length : Int) - 1)) t.2.2.2 k = true := by rwa [Bool.not_eq_false'] at hok
                unfold condE at hc
                rw [he'] at hc
                have c := c3 k e hk he'
                refine Ev.ite_t hk' (Ev.bindc (idx_at he') (Ev.bindc (a := (!inn e.1 0 (W (t.1 - 1)) || !inn e.2.2 0 (W (t.1 - 1)))) (by rw [or_some]) (Ev.bindc (a := ((!inn e.1 0 (W (t.1 - 1)) || !inn e.2.2 0 (W (t.1 - 1))) || !inn e.2.1 0 (W ((t.2.2.1.length : Int) - 1)))) (by rw [or_some]; rfl) ?_)))
                refine Ev.bind (a := true) ?_ (Ev.ite_t rfl (Ev.pure _))
                cases ha : ((!inn e.1 0 (W (t.1 - 1)) || !inn e.2.2 0 (W (t.1 - 1))) || !inn e.2.1 0 (W ((t.2.2.1.length : Int) - 1)))
                · refine Ev.ite_f (by simp) (Ev.bind c (Ev.const ?_))
                  have hc' : ((!inn e.1 0 (W (t.1 - 1)) || !inn e.2.2 0 (W (t.1 - 1))) || (!inn e.2.1 0 (W ((t.2.2.1.length : Int) - 1)) || (decide ((0 : Int) < (k : Int)) && (match t.2.2.2[k - 1]? with | none => false | some p => !edgeLess p e)))) = true := hc
                  rw [← Bool.or_assoc, ha, Bool.false_or] at hc'
                  rw [hc']
                · exact Ev.ite_t rfl (Ev.pure _)
            · rw [if_neg h5, decide_eq_false h5, Bool.false_and]
              exact Ev.const' fun m => rfl
      · have e3 : (decide ((1 : Int) ≤ (t.2.2.1.length : Int)) && decide ((t.2.2.1.length : Int) ≤ 12)) = false := by
          apply Bool.eq_false_iff.2
          intro h
          rw [Bool.and_eq_true] at h
          exact h3 ⟨by have := of_decide_eq_true h.1; omega, by have := of_decide_eq_true h.2; omega⟩
        have hlab : labsP t.2.2.1 = false := by
          unfold labsP
          apply Bool.eq_false_iff.2
          intro h
          rw [Bool.and_eq_true, Bool.and_eq_true] at h
          exact h3 ⟨of_decide_eq_true h.1.1, of_decide_eq_true h.1.2⟩
        rw [hlab, Bool.false_and]
        exact Ev.const' fun m => by simp only [e3, Bool.not_false, if_true, Option.bind_some]
theorem EvI.first {β : Type} {step : Nat → Int → Option (Int ⊕ β)} {b : β} (i : Nat) (hs : ∀ j, j < i → Ev (fun m => step m (j : Int)) (.inl ((j + 1 : Nat) : Int))) (hi : Ev (fun m => step m (i : Int)) (.inr b)) : EvI step (0 : Int) b :=
  EvI.upto i (fun k (_ : Unit) => (k : Int)) (fun _ _ => True) (k := 0) (t := ()) rfl (Nat.zero_le _) trivial (fun k _t hk _ => ⟨(), hs k hk, trivial⟩) (fun _ _ => hi)

/-! ### labels -/
theorem bl_trans : ∀ a b c : Str, Op.bytesLess a b = true → Op.bytesLess b c = true → Op.bytesLess a c = true
  | _, [], _, h, _ => by simp [Op.bytesLess] at h
  | _, _ :: _, [], _, h => by simp [Op.bytesLess] at h
  | [], _ :: _, _ :: _, _, _ => by simp [Op.bytesLess]
  | x :: a, y :: b, z :: c, h1, h2 => by
    simp only [Op.bytesLess, Bool.or_eq_true, Bool.and_eq_true, decide_eq_true_eq, beq_iff_eq] at h1 h2 ⊢
    rcases h1 with h1 | ⟨rfl, h1⟩
    · rcases h2 with h2 | ⟨rfl, h2⟩
      · left; rw [UInt8.lt_iff_toNat_lt] at h1 h2 ⊢; omega
      · exact .inl h1
    · rcases h2 with h2 | ⟨rfl, h2⟩
      · exact .inl h2
      · exact .inr ⟨rfl, bl_trans a b c h1 h2⟩

theorem VL.at_ {t : Timpl_Lts} {n : Nat} (V : VL t n) {k : Nat} {s : Str} (h : t.2.2.1[k]? = some s) : labelP s = true ∧ (s = tau' ↔ k = 0) ∧ ∀ (j : Nat) (p : Str), k = j + 1 → 0 < j → t.2.2.1[j]? = some p → Op.bytesLess p s = true := by
  have hk := (List.getElem?_eq_some_iff.1 h).1
  have h1 := V.lab k hk
  unfold okL condX at h1
  rw [h] at h1
  simp only [Bool.not_eq_true', Bool.or_eq_false_iff, Bool.not_eq_false'] at h1
  obtain ⟨a, b, c⟩ := h1
  refine ⟨a, ?_, fun j p hj h0 hp => ?_⟩
  · have b' : (s == tau') = ((k : Int) == 0) := by simpa using b
    constructor
    · intro e
      rw [e, beq_self_eq_true] at b'
      have := beq_iff_eq.1 b'.symm
      omega
    · intro e
      subst e
      exact beq_iff_eq.1 (b'.trans rfl)
  · subst hj
    rw [decide_eq_true (by omega), Bool.true_and, Nat.add_sub_cancel, hp] at c
    simpa using c
theorem VL.lt {t : Timpl_Lts} {n : Nat} (V : VL t n) : ∀ (d i : Nat) (s r : Str), 1 ≤ i → t.2.2.1[i]? = some s → t.2.2.1[i + d + 1]? = some r → Op.bytesLess s r = true
  | 0, i, s, r, h1, hs, hr => (V.at_ hr).2.2 i s rfl (by omega) hs
  | d + 1, i, s, r, h1, hs, hr => by
    have hl := (List.getElem?_eq_some_iff.1 hr).1
    obtain ⟨q, hq⟩ := get_lt (xs := t.2.2.1) (k := i + d + 1) (by omega)
    exact bl_trans _ _ _ (V.lt d i s q h1 hs hq) ((V.at_ hr).2.2 (i + d + 1) q rfl (by omega) hq)
theorem VL.one {t : Timpl_Lts} {n : Nat} (V : VL t n) {i j : Nat} {s : Str} (hi : t.2.2.1[i]? = some s) (hj : t.2.2.1[j]? = some s) : i = j := by
  have key : ∀ i j : Nat, i < j → t.2.2.1[i]? = some s → t.2.2.1[j]? = some s → False := by
    intro i j hij hi hj
    by_cases h0 : i = 0
    · have := ((V.at_ hj).2.1).1 (((V.at_ hi).2.1).2 h0)
      omega
    · obtain ⟨d, rfl⟩ : ∃ d, j = i + d + 1 := ⟨j - i - 1, by omega⟩
      have := V.lt d i s s (by omega) hi hj
      rw [bl_irr] at this
      cases this
  by_cases a : i < j
  · exact (key i j a hi hj).elim
  · by_cases b : j < i
    · exact (key j i b hj hi).elim
    · omega

theorem markText_ev {k : Int} (h0 : 1 ≤ k) (hk : k ≤ 4611686018427387904) : ∃ s, Ev (fun n => laws_markText_m n k) s := by
  unfold laws_markText_m
  refine Exists.elim (EvI.inv (β := Str ⊕ Str) (step := fun (_ : Nat) (s : (Int) × (Str)) => (match s with | (x40, x41) => (if (decide ((0 : Int) < x40)) = true then (cat (bstr [(IntKind.u8.wrap (W ((48 : Int) + (x40.tmod (10 : Int)))))]) x41).bind fun x65 => some (.inl ((W (x40.tdiv (10 : Int))), x65)) else some (.inr (.inl (x41)))) : Option (((Int) × (Str)) ⊕ ((Str) ⊕ (Str)))))
    (fun s => 0 ≤ s.1 ∧ s.1 ≤ 4611686018427387904 ∧ s.1 < 10 ^ (20 - s.2.length) ∧ s.2.length ≤ 20) (fun s => s.1.toNat) (fun r => ∃ x : Str, r = .inl x ∧ x.length ≤ 20) ?_ (s := (k, [])) ⟨by show 0 ≤ k; omega, hk, by show k < 10 ^ 20; omega, by simp⟩)
    (fun res ⟨h1, x, h2, h3⟩ => ⟨[109] ++ x, Ev.ite_f (by simp; omega) (Ev.bind h1.ev ?_)⟩)
  · rintro ⟨x, s⟩ ⟨a, b, c, d⟩
    replace a : 0 ≤ x := a
    replace b : x ≤ 4611686018427387904 := b
    replace c : x < 10 ^ (20 - s.length) := c
    replace d : s.length ≤ 20 := d
    by_cases hx : 0 < x
    · left
      have hlt : s.length < 20 := by
        by_cases he : s.length = 20
        · rw [he] at c; simp at c; omega
        · omega
      have hp : (10 : Int) ^ (20 - s.length) = 10 ^ (20 - (s.length + 1)) * 10 := by rw [show 20 - s.length = (20 - (s.length + 1)) + 1 by omega, Int.pow_succ]
      have hd : x.tdiv 10 = x / 10 := Int.tdiv_eq_ediv_of_nonneg a
      have hw : W (x.tdiv 10) = x / 10 := by rw [hd]; exact W_of (by omega) (by omega)
      refine ⟨(x / 10, bstr [IntKind.u8.wrap (W (48 + x.tmod 10))] ++ s), Ev.ite_t (decide_eq_true hx) (Ev.const ?_), ⟨by show 0 ≤ x / 10; omega, by show x / 10 ≤ _; omega, ?_, ?_⟩, by show (x / 10).toNat < x.toNat; omega⟩
      · have : cat (bstr [IntKind.u8.wrap (W (48 + x.tmod 10))]) s = some (bstr [IntKind.u8.wrap (W (48 + x.tmod 10))] ++ s) := by unfold cat; rw [if_pos (by first | (simp [bstr]; done) | (simp [bstr]; omega))]
        rw [this, Option.bind_some, hw]
      · show x / 10 < 10 ^ (20 - (bstr [IntKind.u8.wrap (W (48 + x.tmod 10))] ++ s).length)
        have : (bstr [IntKind.u8.wrap (W (48 + x.tmod 10))] ++ s).length = s.length + 1 := by first | (simp [bstr]; done) | (simp [bstr]; omega)
        rw [this]
        generalize (10 : Int) ^ (20 - (s.length + 1)) = p at hp ⊢
        omega
      · show (bstr [IntKind.u8.wrap (W (48 + x.tmod 10))] ++ s).length ≤ 20
        first | (simp [bstr]; done) | (simp [bstr]; omega)
    · right
      exact ⟨_, Ev.ite_f (by simpa using hx) (Ev.pure _), s, rfl, d⟩
  · subst h2
    refine Ev.const ?_
    rw [ctl_l]
    have : cat ([109] : Str) x = some ([109] ++ x) := by unfold cat; rw [if_pos (by simp; omega)]
    rw [this]; rfl

theorem markH_strs {a : List Str} {k : Int} (h : a.length ≤ 1048576) (h0 : 1 ≤ k) (hk : k ≤ 4611686018427387904 - 1048576) :
    ∃ k' ys, Ev (fun n => laws_markStringS_m n a k) (k', ys) ∧ Ev (fun n => laws_heldStringS_m n ys k) k' ∧ k ≤ k' ∧ k' ≤ k + (a.length * 1 : Nat) ∧ ys.length = a.length := by
  unfold laws_markStringS_m laws_heldStringS_m
  refine mark_held (p := fun _ => True) (fun _ _ => trivial) h0 (by omega) (fun xs k i x hxl hx _ h1 h2 => ?_) (fun xs k hxl => Ev.const' fun m => by simp [hxl]) (fun ys k hyl => Ev.const' fun m => by simp [hyl])
  have hi : i < xs.length := (List.getElem?_eq_some_iff.1 hx).1
  have w : W (k + 1) = k + 1 := W_of (by omega) (by omega)
  obtain ⟨s, hs⟩ := markText_ev h1 (by omega)
  refine ⟨s, k + 1, Ev.eq (Ev.ite_t (by simp [hi]) (Ev.bind hs (Ev.bindc (idx_at hx) (Ev.pure _)))) ?_, by omega, by omega, fun ys hyl hy => ?_⟩
  · simp only [Int.toNat_natCast, w, W_succ (k := i) (n := xs.length) hi (by omega)]
  · have hi : i < ys.length := (List.getElem?_eq_some_iff.1 hy).1
    refine Ev.eq (Ev.ite_t (by simp [hi]) (Ev.bindc (idx_at hy) (Ev.bind hs (Ev.ite_f (by simp) (Ev.pure _))))) ?_
    rw [w, W_succ (k := i) (n := ys.length) hi (by omega)]
theorem markH_edges {a : List Timpl_Edge} {k : Int} (h : a.length ≤ 1048576) (h0 : 1 ≤ k) (hk : k ≤ 4611686018427387904 - 4194304) :
    ∃ k' ys, Ev (fun n => laws_markEdgeS_m n a k) (k', ys) ∧ Ev (fun n => laws_heldEdgeS_m n ys k) k' ∧ k ≤ k' ∧ k' ≤ k + (a.length * 3 : Nat) ∧ ys.length = a.length := by
  unfold laws_markEdgeS_m laws_heldEdgeS_m
  refine mark_held (p := fun _ => True) (fun _ _ => trivial) h0 (by omega) (fun xs k i x hxl hx _ h1 h2 => ?_) (fun xs k hxl => Ev.const' fun m => by simp [hxl]) (fun ys k hyl => Ev.const' fun m => by simp [hyl])
  have hi : i < xs.length := (List.getElem?_eq_some_iff.1 hx).1
  have w1 : W (k + 1) = k + 1 := W_of (by omega) (by omega)
  have w2 : W (k + 1 + 1) = k + 1 + 1 := W_of (by omega) (by omega)
  have w3 : W (k + 1 + 1 + 1) = k + 1 + 1 + 1 := W_of (by omega) (by omega)
  refine ⟨(k, k + 1, k + 1 + 1), k + 1 + 1 + 1, Ev.eq (Ev.ite_t (by simp [hi]) (Ev.bindc (idx_at hx) (Ev.bindc (idx_set hi) (Ev.bindc (idx_set (by simpa using hi)) (Ev.pure _))))) ?_, by omega, by omega, fun ys hyl hy => ?_⟩
  · simp only [Int.toNat_natCast, List.set_set, w1, w2, w3, W_succ (k := i) (n := xs.length) hi (by omega)]
  · have hi : i < ys.length := (List.getElem?_eq_some_iff.1 hy).1
    refine Ev.eq (Ev.ite_t (by simp [hi]) (Ev.bindc (idx_at hy) (Ev.ite_f (by simp) (Ev.bindc (idx_at hy) (Ev.ite_f (by simp [w1]) (Ev.bindc (idx_at hy) (Ev.ite_f (by simp [w1, w2]) (Ev.pure _)))))))) ?_
    rw [w1, w2, w3, W_succ (k := i) (n := ys.length) hi (by omega)]
theorem marksB_lts {a : Timpl_Lts} {k : Int} (h : BLts a) (h0 : 1 ≤ k) (hk : k ≤ 4503599627370496) :
    ∃ k' ys, Ev (fun n => laws_markLts_m n a k) (k', ys) ∧ Ev (fun n => laws_heldLts_m n (a.1, a.2.1, ys.1, ys.2) k) k' ∧ k ≤ k' ∧ k' ≤ k + 4398046511104 := by
  obtain ⟨k1, ys, h1, g1, h2, h3, _⟩ := markH_strs (a := a.2.2.1) h.1 h0 (by omega)
  have b1 := h.1
  have b2 := h.2.2
  obtain ⟨k2, zs, h4, g2, h5, h6, _⟩ := markH_edges (a := a.2.2.2) (k := k1) h.2.2 (by omega) (by omega)
  exact ⟨k2, (ys, zs), Ev.bind h1 (Ev.bind h4 (Ev.pure _)), Ev.bind g1 (Ev.ite_f (by simp; omega) (Ev.bind g2 (Ev.ite_f (by simp; omega) (Ev.pure _)))), by omega, by omega⟩
theorem cat_ev {a b : Str} (h : a.length + b.length ≤ 140737488355328) : cat a b = some (a ++ b) := by
  unfold cat
  rw [if_pos (by first | exact h | omega)]

theorem decD_len : ∀ (d u : Nat), u < 10 ^ (d + 1) → (Lib.decDigits u).length ≤ d + 1
  | 0, u, h => by rw [Lib.decDigits_one (by omega)]; simp
  | d + 1, u, h => by
    by_cases hu : u < 10
    · rw [Lib.decDigits_one hu]; simp
    · rw [dec_big hu, List.length_append]
      have := decD_len d (u / 10) (by rw [Nat.pow_succ] at h; omega)
      simp; omega
theorem itoa_len {n : Int} (h1 : -1000000000000000 ≤ n) (h2 : n ≤ 1000000000000000) : (Lib.itoa n).length ≤ 21 := by
  unfold Lib.itoa
  split
  · have := decD_len 17 n.natAbs (by omega)
    simp; omega
  · have := decD_len 17 n.toNat (by omega)
    omega
theorem join_snoc (c : Str) (xs : List Str) (y : Str) : Lib.join (xs ++ [y]) c = if xs = [] then y else Lib.join xs c ++ c ++ y := by
  cases xs with
  | nil => simp [Lib.join_one]
  | cons x r =>
    rw [if_neg (by simp), List.cons_append, Lib.join_cons, Lib.join_cons]
    simp [Lib.joinTail]
theorem join_le {c : Str} {L : Nat} : ∀ (xs : List Str), (∀ x ∈ xs, x.length ≤ L) → (Lib.join xs c).length ≤ xs.length * (L + c.length) := by
  refine rev_ind (fun _ => by simp [Lib.join_nil]) fun xs y ih h => ?_
  have h1 := ih fun x hx => h x (by simp [hx])
  have h2 := h y (by simp)
  rw [join_snoc, List.length_append, Nat.add_mul]
  split
  · simp; omega
  · simp; omega
theorem joined_law {vs : List Int} {c : UInt8} (hl : vs.length ≤ 100000) (h : ∀ v ∈ vs, -1000000000000000 ≤ v ∧ v ≤ 1000000000000000) : Ev (fun m => impl_joined_m m vs [c]) (Lib.join (vs.map Lib.itoa) [c]) := by
  unfold impl_joined_m
  have hjl := join_le (c := [c]) (L := 21) (vs.map Lib.itoa) (fun x hx => by
    obtain ⟨v, hv, rfl⟩ := List.mem_map.1 hx
    have := h v hv
    exact itoa_len this.1 this.2)
  rw [List.length_map] at hjl
  simp at hjl
  refine Ev.bindc (mks_ok (by omega)) (Ev.bind (fill_iter (f := Lib.itoa) (to' := impl_Decimal_m) (a := vs) (z := ([] : Str)) (fun x hx => Ev.const' fun m => by
    have := h x hx
    exact dec_m (by omega) (by omega)) (by omega)).ev (Ev.const' fun m => ?_))
  rw [ctl_l]
  unfold strings_Join_m
  rw [if_pos ⟨by simp; omega, by omega⟩]
  rfl
theorem splitL {m : Nat} {s : Str} (c : UInt8) (hl : s.length < 4294967281) : strings_Split_m m s [c] = some (splitC c s) := by
  unfold strings_Split_m
  have hc : Lib.countB ⟨s.toArray⟩ ⟨([c] : Str).toArray⟩ = Lib.count s [c] := rfl
  have hs1 : (⟨([c] : Str).toArray⟩ : ByteArray).size = 1 := size_sv [c]
  have h3 := Lib.splitB_all ⟨([c] : Str).toArray⟩ (by rw [hs1]; decide) 0 _ ⟨s.toArray⟩ rfl
  have h4 := Lib.countB_le ⟨([c] : Str).toArray⟩ (by rw [hs1]; decide) _ ⟨s.toArray⟩ (Nat.le_refl _)
  have h5 : (⟨s.toArray⟩ : ByteArray).size = s.length := size_sv s
  have h6 := mx
  rw [if_pos ⟨hl, by simp, h3, by omega⟩, Lib.splitB_data]
  exact congrArg some (splitK_eq c s)

theorem splitR {s : Str} (c : UInt8) (hl : s.length < 4294967281) : Ev (fun m => spec_l01Split_m m s (c.toNat : Int)) (splitC c s) := by
  have hm := mx
  unfold spec_l01Split_m
  refine Exists.elim (EvI.count (step := _) s.length (fun k (t : List Str × Nat) => (t.1, (t.2 : Int), (k : Int))) (fun k t => t.2 ≤ k ∧ splitC c (s.take k) = t.1 ++ [(s.take k).drop t.2])
    (fun r => ∃ (o : List Str) (f : Nat), r = .inl (o, (f : Int)) ∧ f ≤ s.length ∧ splitC c s = o ++ [s.drop f]) ?_ ?_ (k := 0) (t := ([], 0)) (Nat.zero_le _) ⟨Nat.le_refl _, rfl⟩)
    (fun res ⟨h1, o, f, h2, h3, h4⟩ => Ev.bind h1.ev (by
      subst h2
      have hlen : o.length ≤ s.length + 1 := by
        have := splitC_len c s
        rw [h4] at this
        simp at this
        omega
      rw [h4]
      have hs : sub s (f : Int) (s.length : Int) = some (s.drop f) := by rw [sub_ok h3 (Nat.le_refl _), List.take_length]
      exact Ev.bindc hs (Ev.bindc (app_ok (by simp; omega)) (Ev.pure _))))
  · rintro k ⟨o, f⟩ hk ⟨hf, hI⟩
    have hf : f ≤ k := hf
    have hI : splitC c (s.take k) = o ++ [(s.take k).drop f] := hI
    obtain ⟨b, hb⟩ := get_lt hk
    have hk' : decide ((k : Int) < (s.length : Int)) = true := by simpa using hk
    have htk : s.take (k + 1) = s.take k ++ [b] := by rw [List.take_add_one, hb]; rfl
    left
    by_cases h : b = c
    · subst h
      have hlen : o.length ≤ s.length := by
        have := splitC_len b (s.take k)
        rw [hI] at this
        simp at this
        omega
      refine ⟨(o ++ [(s.take k).drop f], k + 1), Ev.ite_t hk' (Ev.join (Ev.bindc (idx_at hb) (Ev.ite_t (by simp) (Ev.bindc (sub_ok hf (by omega)) (Ev.bindc (app_ok (by simp; omega)) (Ev.const ?_)))))), Nat.le_refl _, ?_⟩
      · rw [W_succ hk (by omega)]
      · show splitC b (s.take (k + 1)) = _
        rw [htk, splitC_snoc_eq, hI]
        congr 2
        rw [List.drop_eq_nil_of_le (by simp; omega)]
    · refine ⟨(o, f), Ev.ite_t hk' (Ev.join (Ev.bindc (idx_at hb) (Ev.ite_f ?_ (Ev.const ?_)))), by show f ≤ k + 1; omega, ?_⟩
      · intro g
        have := beq_iff_eq.1 g
        exact h (UInt8.toNat_inj.1 (show b.toNat = c.toNat by omega))
      · rw [W_succ hk (by omega)]
      · show splitC c (s.take (k + 1)) = o ++ [(s.take (k + 1)).drop f]
        rw [htk, splitC_snoc_ne h _ _ _ hI, List.drop_append_of_le_length (by simp; omega)]
  · rintro ⟨o, f⟩ ⟨hf, hI⟩
    refine ⟨_, Ev.ite_f (by simp) (Ev.pure _), o, f, rfl, hf, ?_⟩
    rw [List.take_length] at hI
    exact hI

theorem splitC_piece (c : UInt8) : ∀ (s : Str) (w : Str), w ∈ splitC c s → w.length ≤ s.length
  | [], w, h => by
    have : w ∈ [([] : Str)] := h
    have : w = [] := by simpa using this
    subst this; simp
  | a :: r, w, h => by
    unfold splitC at h
    split at h
    · rcases List.mem_cons.1 h with rfl | h
      · simp
      · have := splitC_piece c r w h
        simp; omega
    · rcases snoc_or (splitC c r) with hr | ⟨o', l', hr⟩
      · exact absurd hr (splitC_ne c r)
      · cases hq : splitC c r with
        | nil => exact absurd hq (splitC_ne c r)
        | cons x t =>
          rw [hq] at h
          simp only [List.headD_cons, List.tail_cons] at h
          have hx := splitC_piece c r x (by rw [hq]; simp)
          rcases List.mem_cons.1 h with rfl | h
          · simp; omega
          · have := splitC_piece c r w (by rw [hq]; simp [h])
            simp; omega

theorem readers {α β ρ : Type} {step : Nat → List β × Int → Option ((List β × Int) ⊕ (List β ⊕ ρ))} {s0 : List β × Int} (l : List α) (j : Nat → Int) (ok : α → Bool) (g : α → β) (bad : ρ) (h0 : s0 = ([], j 0))
    (hgo : ∀ (k : Nat) (x : α) (xs : List β), k < l.length → l[k]? = some x → xs.length = k → ok x = true → Ev (fun m => step m (xs, j k)) (.inl (xs ++ [g x], j (k + 1))))
    (hbad : ∀ (k : Nat) (x : α) (xs : List β), k < l.length → l[k]? = some x → xs.length = k → ok x = false → Ev (fun m => step m (xs, j k)) (.inr (.inr bad)))
    (hend : ∀ xs, Ev (fun m => step m (xs, j l.length)) (.inr (.inl xs))) : EvI step s0 (if l.all ok = true then .inl (l.map g) else .inr bad) := by
  subst h0
  refine Exists.elim (EvI.count (step := step) l.length (fun k (_ : Unit) => ((l.take k).map g, j k)) (fun k _ => (l.take k).all ok = true)
    (fun r => r = (if l.all ok = true then .inl (l.map g) else .inr bad)) ?_ ?_ (k := 0) (t := ()) (Nat.zero_le _) (by simp)) (fun res ⟨e1, e2⟩ => by subst e2; exact e1)
  · intro k _ hk hI
    obtain ⟨x, hx⟩ := get_lt hk
    have htk : l.take (k + 1) = l.take k ++ [x] := by rw [List.take_add_one, hx]; rfl
    have hl : ((l.take k).map g).length = k := by rw [List.length_map, List.length_take]; omega
    cases hr : ok x
    · right
      refine ⟨_, hbad k x _ hk hx hl hr, ?_⟩
      rw [if_neg]
      intro q
      rw [List.all_eq_true] at q
      rw [q x (List.mem_of_getElem? hx)] at hr
      cases hr
    · left
      refine ⟨(), (hgo k x _ hk hx hl hr).eq ?_, by rw [htk, List.all_append, hI]; simp [hr]⟩
      rw [htk, List.map_append]
      rfl
  · intro _ hI
    rw [List.take_length] at hI
    exact ⟨_, hend _, by rw [if_pos hI, List.take_length]⟩
def wordsT (ws : List Str) : Str := if ws = [] then [45] else Lib.join ws [32]
def edgeT (e : Timpl_Edge) : Str := Lib.join [Lib.itoa e.1, Lib.itoa e.2.1, Lib.itoa e.2.2] [58]
def ltsT (t : Timpl_Lts) : Str := Lib.itoa t.1 ++ [32] ++ Lib.itoa t.2.1 ++ [124] ++ wordsT t.2.2.1.tail ++ [124] ++ wordsT (t.2.2.2.map edgeT)
theorem edgeT_eq (e : Timpl_Edge) : edgeT e = Lib.itoa e.1 ++ [58] ++ Lib.itoa e.2.1 ++ [58] ++ Lib.itoa e.2.2 := by
  unfold edgeT
  simp [Lib.join_cons, Lib.joinTail]
theorem edgeT_len {t : Timpl_Lts} {n : Nat} (V : VL t n) {e : Timpl_Edge} (h : e ∈ t.2.2.2) : (edgeT e).length ≤ 100 := by
  have h1 := V.src e h
  have h2 := V.dst e h
  have h3 := V.lbl e h
  have h4 := V.labs
  have h5 := V.top
  have i1 := itoa_len (n := e.1) (by omega) (by omega)
  have i2 := itoa_len (n := e.2.1) (by omega) (by omega)
  have i3 := itoa_len (n := e.2.2) (by omega) (by omega)
  rw [edgeT_eq]
  simp
  omega
theorem words_impl {ws : List Str} (hl : ws.length ≤ 1000) (h : ∀ w ∈ ws, w.length ≤ 1048576) : Ev (fun m => impl_words_m m ws) (wordsT ws) := by
  have hmx := mx
  unfold impl_words_m wordsT
  by_cases h0 : ws = []
  · subst h0
    exact Ev.ite_t (by simp) (Ev.pure _)
  rw [if_neg h0]
  have hne : ¬ ((ws.length : Int) == 0) = true := by
    intro e
    exact h0 (List.eq_nil_of_length_eq_zero (by have := beq_iff_eq.1 e; omega))
  have hj := join_le (c := [32]) ws h
  have hj : (Lib.join ws [32]).length ≤ 1000 * 1048577 := Nat.le_trans hj (Nat.mul_le_mul hl (by simp))
  refine Ev.ite_f hne (Ev.bindc ?_ (Ev.pure _))
  exact if_pos ⟨by omega, by omega⟩
theorem ltext_impl {t : Timpl_Lts} {n : Nat} (V : VL t n) (h : BLts t) : Ev (fun m => (iter (fun (s : (List Str) × (Int)) => (match s with | (xs98, x100) => (if (decide (x100 < (t.2.2.2.length : Int))) = true then (idx t.2.2.2 x100).bind fun x188 => (impl_joined_m m [x188.1, x188.2.1, x188.2.2] ([58] : Str)).bind fun x210 => (app xs98 [x210]).bind fun x216 => some (.inl (x216, (W (x100 + (1 : Int))))) else some (.inr (.inl (xs98)))) : Option (((List Str) × (Int)) ⊕ (((List Str)) ⊕ (Str))))) m ([], (0 : Int))).bind fun res142 => ctl (β := (List Str)) (ρ := Str) (τ := Str) res142 (fun (xs140) => (impl_Decimal_m m t.1).bind fun x151 => (cat x151 ([32] : Str)).bind fun x154 => (impl_Decimal_m m t.2.1).bind fun x158 => (cat x154 x158).bind fun x161 => (cat x161 ([124] : Str)).bind fun x163 => (sub t.2.2.1 (1 : Int) (t.2.2.1.length : Int)).bind fun xs165 => (impl_words_m m xs165).bind fun x169 => (cat x163 x169).bind fun x172 => (cat x172 ([124] : Str)).bind fun x174 => (impl_words_m m xs140).bind fun x178 => (cat x174 x178).bind fun x181 => some (x181)) (fun q => some (q))) (ltsT t) := by
  have hmx := mx
  have hfew := V.few
  have htop := V.top
  have hst := V.st
  have hini := V.ini
  have hlabs := V.labs
  refine Ev.bind (readers (ρ := Str) t.2.2.2 (fun k => (k : Int)) (fun _ => true) edgeT [] rfl (fun k e xs hk hw hx hr => ?_) (fun k e xs hk hw hx hr => by cases hr) (fun xs => Ev.ite_f (by simp) (Ev.pure _))).ev ?_
  · have hm := List.mem_of_getElem? hw
    have h1 := V.src e hm
    have h2 := V.dst e hm
    have h3 := V.lbl e hm
    refine Ev.ite_t (decide_eq_true (by omega)) (Ev.bindc (idx_at hw) (Ev.bind (joined_law (by simp) (fun v hv => ?_)) (Ev.bindc (app_ok (by simp; omega)) (Ev.const ?_))))
    · simp only [List.mem_cons, List.not_mem_nil, or_false] at hv
      rcases hv with rfl | rfl | rfl <;> omega
    · rw [W_succ hk (by omega)]
      rfl
  rw [if_pos (by simp)]
  have i1 := itoa_len (n := t.1) (by omega) (by omega)
  have i2 := itoa_len (n := t.2.1) (by omega) (by omega)
  have hs : sub t.2.2.1 (1 : Int) (t.2.2.1.length : Int) = some t.2.2.1.tail := by
    have := sub_ok (xs := t.2.2.1) (lo := 1) (hi := t.2.2.1.length) (by omega) (Nat.le_refl _)
    rw [List.take_length, List.drop_one] at this
    exact this
  have w1 : (wordsT t.2.2.1.tail).length ≤ 1000 * 1048577 := by
    unfold wordsT
    split
    · simp
    · exact Nat.le_trans (join_le (c := [32]) _ fun x hx => h.2.1 x (List.mem_of_mem_tail hx)) (Nat.mul_le_mul (by rw [List.length_tail]; omega) (by simp))
  have w2 : (wordsT (t.2.2.2.map edgeT)).length ≤ 1000 * 1048577 := by
    unfold wordsT
    split
    · simp
    · exact Nat.le_trans (join_le (c := [32]) (L := 100) _ fun x hx => by obtain ⟨e, he, rfl⟩ := List.mem_map.1 hx; exact edgeT_len V he) (Nat.mul_le_mul (by rw [List.length_map]; omega) (by simp))
  refine Ev.bind (Ev.const' fun m => dec_m (by omega) (by omega)) (Ev.bindc (cat_ev (by simp; omega)) (Ev.bind (Ev.const' fun m => dec_m (by omega) (by omega)) (Ev.bindc (cat_ev (by simp; omega)) (Ev.bindc (cat_ev (by simp; omega)) (Ev.bindc hs (Ev.bind (words_impl (by rw [List.length_tail]; omega) fun x hx => h.2.1 x (List.mem_of_mem_tail hx)) (Ev.bindc (cat_ev (by simp; omega)) (Ev.bindc (cat_ev (by simp; omega)) (Ev.bind (words_impl (by rw [List.length_map]; omega) fun x hx => by obtain ⟨e, he, rfl⟩ := List.mem_map.1 hx; have := edgeT_len V he; omega) (Ev.bindc (cat_ev (by simp; omega)) (Ev.pure _)))))))))))
theorem join_snocs (c : UInt8) (x : Str) (y : Str) (r : List Str) : Lib.join (x :: y :: r) [c] = x ++ [c] ++ Lib.join (y :: r) [c] := by
  rw [Lib.join_cons, Lib.join_cons]
  simp [Lib.joinTail]
theorem join_splitC (c : UInt8) : ∀ s : Str, Lib.join (splitC c s) [c] = s
  | [] => by simp [splitC, Lib.join_one]
  | b :: r => by
    have ih := join_splitC c r
    unfold splitC
    by_cases h : b = c
    · rw [if_pos h]
      cases hs : splitC c r with
      | nil => exact absurd hs (splitC_ne c r)
      | cons x t =>
        rw [join_snocs, ← hs, ih, h]
        rfl
    · rw [if_neg h]
      cases hs : splitC c r with
      | nil => exact absurd hs (splitC_ne c r)
      | cons x t =>
        rw [hs] at ih
        simp only [List.headD_cons, List.tail_cons]
        cases t with
        | nil => rw [Lib.join_one] at ih ⊢; rw [ih]
        | cons y t =>
          rw [join_snocs] at ih ⊢
          rw [← ih]
          simp
theorem splitC_one {c : UInt8} : ∀ {w : Str}, c ∉ w → splitC c w = [w]
  | [], _ => rfl
  | b :: r, h => by
    unfold splitC
    rw [if_neg (by intro e; exact h (by rw [e]; simp)), splitC_one (w := r) (fun q => h (List.mem_cons_of_mem _ q))]
    rfl
theorem splitC_cat {c : UInt8} : ∀ {w : Str} (s : Str), c ∉ w → splitC c (w ++ [c] ++ s) = w :: splitC c s
  | [], s, _ => by
    show splitC c (c :: s) = _
    rw [splitC, if_pos rfl]
  | b :: r, s, h => by
    show splitC c (b :: (r ++ [c] ++ s)) = _
    rw [splitC, if_neg (by intro e; exact h (by rw [e]; simp)), splitC_cat s (w := r) (fun q => h (List.mem_cons_of_mem _ q))]
    rfl
theorem splitC_join {c : UInt8} : ∀ {ws : List Str}, ws ≠ [] → (∀ w ∈ ws, c ∉ w) → splitC c (Lib.join ws [c]) = ws
  | [], h, _ => absurd rfl h
  | [x], _, h => by rw [Lib.join_one]; exact splitC_one (h x (by simp))
  | x :: y :: r, _, h => by
    rw [join_snocs, splitC_cat _ (h x (by simp)), splitC_join (by simp) fun w hw => h w (List.mem_cons_of_mem _ hw)]
def okc (b : UInt8) : Bool := decide (b.toNat < 128) && (b != 32) && (b != 124) && (b != 58)
theorem okc_of {b : UInt8} (h1 : b.toNat < 128) (h2 : b ≠ 32) (h3 : b ≠ 124) (h4 : b ≠ 58) : okc b = true := by unfold okc; simp [h1, h2, h3, h4]
theorem okc_dig {b : UInt8} (h : isDig b = true) : okc b = true := by
  rw [← dg_eq] at h
  unfold dg at h
  simp only [Bool.and_eq_true, decide_eq_true_eq] at h
  refine okc_of (by omega) ?_ ?_ ?_ <;> (rintro rfl; revert h; decide)
theorem okc_small {b : UInt8} (h : small b = true) : okc b = true := by
  unfold small at h
  simp only [Bool.and_eq_true, decide_eq_true_eq] at h
  refine okc_of (by omega) ?_ ?_ ?_ <;> (rintro rfl; revert h; decide)
theorem num_bytes {w : Str} (h : numB w = true) : ∀ b ∈ w, okc b = true := by
  unfold numB num at h
  by_cases h45 : w.head? = some 45
  · rw [if_pos h45] at h
    split at h
    · rename_i hd
      unfold okD at hd
      simp only [Bool.and_eq_true, List.all_eq_true] at hd
      cases w with
      | nil => cases h45
      | cons x r =>
        have : x = 45 := by simpa using h45
        subst this
        intro b hb
        rcases List.mem_cons.1 hb with rfl | hb
        · decide
        · exact okc_dig (hd.1.2 b hb)
    · cases h
  · rw [if_neg h45] at h
    split at h
    · rename_i hd
      unfold okD at hd
      simp only [Bool.and_eq_true, List.all_eq_true] at hd
      exact fun b hb => okc_dig (hd.1.2 b hb)
    · cases h
theorem name_bytes {s : Str} (h : nameP s = true) : ∀ b ∈ s, okc b = true := by
  unfold nameP at h
  simp only [Bool.and_eq_true, decide_eq_true_eq] at h
  intro b hb
  obtain ⟨k, hk, rfl⟩ := List.getElem_of_mem hb
  have := h.2 k hk
  unfold okN at this
  rw [List.getElem?_eq_getElem hk] at this
  simp only [Bool.not_eq_true', Bool.and_eq_false_iff, Bool.or_eq_false_iff, Bool.not_eq_false'] at this
  rcases this with h | h
  · exact okc_small h
  · exact okc_dig (by rw [← dg_eq]; exact h.2)
theorem mem_join {c : UInt8} {b : UInt8} : ∀ {ws : List Str}, b ∈ Lib.join ws [c] → b = c ∨ ∃ w ∈ ws, b ∈ w
  | [], h => by rw [Lib.join_nil] at h; cases h
  | [x], h => by rw [Lib.join_one] at h; exact .inr ⟨x, by simp, h⟩
  | x :: y :: r, h => by
    rw [join_snocs] at h
    simp only [List.mem_append, List.mem_singleton] at h
    rcases h with (h | h) | h
    · exact .inr ⟨x, by simp, h⟩
    · exact .inl h
    · rcases mem_join (ws := y :: r) h with h | ⟨w, hw, hb⟩
      · exact .inl h
      · exact .inr ⟨w, List.mem_cons_of_mem _ hw, hb⟩
theorem pre_mem {c : UInt8} {s : Str} {b : UInt8} (hc : c ∈ s) (h : b ∈ s) : b ∈ pre c s ∨ b = c ∨ b ∈ suf c s := by
  rw [pre_suf hc] at h
  simpa using h
theorem label_bytes {s : Str} (h : labelP s = true) : ∀ b ∈ s, okc b = true := by
  unfold labelP at h
  split at h
  · rename_i h40
    simp only [Bool.and_eq_true, decide_eq_true_eq] at h
    obtain ⟨⟨⟨h1, h2⟩, h3⟩, _⟩ := h
    unfold actP at h1
    simp only [Bool.and_eq_true] at h1
    intro b hb
    rcases pre_mem h40 hb with hb | rfl | hb
    · exact name_bytes h1.1 b hb
    · decide
    · have hsl : suf 40 s = (suf 40 s).dropLast ++ [41] := by
        rcases snoc_or (suf 40 s) with e | ⟨t, x, e⟩
        · rw [e] at hb; cases hb
        · rw [e]
          have hx : s.getLast? = some x := by
            have hs : s = s.take ((pre 40 s).length + 1) ++ suf 40 s := by unfold suf; rw [List.take_append_drop]
            rw [hs, e, ← List.append_assoc, List.getLast?_append]
            rfl
          rw [h2] at hx
          cases hx
          simp
      rw [hsl, List.mem_append] at hb
      rcases hb with hb | hb
      · rw [← join_splitC 44 (suf 40 s).dropLast] at hb
        rcases mem_join hb with rfl | ⟨w, hw, hb⟩
        · decide
        · unfold valsOk at h3
          have := List.all_eq_true.1 h3 w hw
          simp only [Bool.and_eq_true] at this
          exact num_bytes this.1 b hb
      · have : b = 41 := by simpa using hb
        subst this
        decide
  · exact name_bytes h
def rowsOf (e : Str) : List Str := if e = [45] then [] else splitC 32 e
def okE (row : Str) : Bool := decide ((splitC 58 row).length = 3) && (splitC 58 row).all numB
def rdE (row : Str) : Timpl_Edge := (numV ((splitC 58 row).getD 0 []), numV ((splitC 58 row).getD 1 []), numV ((splitC 58 row).getD 2 []))
def StrictP (s : Str) (t : Timpl_Lts) : Prop := ∃ h l e x y, splitC 124 s = [h, l, e] ∧ splitC 32 h = [x, y] ∧ numB x = true ∧ numB y = true ∧ t.1 = numV x ∧ t.2.1 = numV y ∧
  t.2.2.1 = [116, 97, 117] :: rowsOf l ∧ (∀ row ∈ rowsOf e, okE row = true) ∧ t.2.2.2 = (rowsOf e).map rdE
theorem itoa_num {w : Str} (h : numB w = true) : Lib.itoa (numV w) = w := by
  unfold numB at h
  unfold numV
  cases hn : num w with
  | none => rw [hn] at h; cases h
  | some v => exact (num_some hn).1
theorem words_rows (e : Str) : wordsT (rowsOf e) = e := by
  unfold rowsOf wordsT
  by_cases h : e = [45]
  · rw [if_pos h, if_pos rfl, h]
  · rw [if_neg h, if_neg (splitC_ne 32 e), join_splitC]
theorem okE_cut {row : Str} (h : okE row = true) : ∃ a b c, splitC 58 row = [a, b, c] ∧ numB a = true ∧ numB b = true ∧ numB c = true ∧ rdE row = (numV a, numV b, numV c) := by
  unfold okE at h
  unfold rdE
  simp only [Bool.and_eq_true, decide_eq_true_eq] at h
  obtain ⟨h1, h2⟩ := h
  match hs : splitC 58 row with
  | [a, b, c] =>
    rw [hs] at h2
    simp only [List.all_cons, List.all_nil, Bool.and_true, Bool.and_eq_true] at h2
    exact ⟨a, b, c, rfl, h2.1, h2.2.1, h2.2.2, rfl⟩
  | [] => rw [hs] at h1; cases h1
  | [_] => rw [hs] at h1; cases h1
  | [_, _] => rw [hs] at h1; cases h1
  | _ :: _ :: _ :: _ :: _ => rw [hs] at h1; simp at h1
theorem edge_text {row : Str} (h : okE row = true) : edgeT (rdE row) = row := by
  obtain ⟨a, b, c, h1, h2, h3, h4, h5⟩ := okE_cut h
  rw [h5]
  unfold edgeT
  rw [itoa_num h2, itoa_num h3, itoa_num h4, ← h1, join_splitC]
theorem strict_text {s : Str} {t : Timpl_Lts} (h : StrictP s t) : ltsT t = s := by
  obtain ⟨h, l, e, x, y, h1, h2, h3, h4, h5, h6, h7, h8, h9⟩ := h
  have e1 := join_splitC 124 s
  have e2 := join_splitC 32 h
  rw [h1, join_snocs, join_snocs, Lib.join_one] at e1
  rw [h2, join_snocs, Lib.join_one] at e2
  have e3 : (t.2.2.2.map edgeT) = rowsOf e := by
    rw [h9, List.map_map]
    conv => rhs; rw [← List.map_id (rowsOf e)]
    exact List.map_congr_left fun row hr => edge_text (h8 row hr)
  unfold ltsT
  rw [e3, words_rows, h7, List.tail_cons, words_rows, h5, h6, itoa_num h3, itoa_num h4, ← e1, ← e2]
  simp
theorem small_num : ∀ k, k ≤ 40 → num (Lib.itoa ((k : Nat) : Int)) = some (k : Int) := by
  intro k hk
  refine num_itoa rfl ?_
  have : ∀ k, k ≤ 40 → (Lib.trimPrefix (Lib.itoa ((k : Nat) : Int)) [45]).length ≤ 18 := by decide +kernel
  exact this k hk
theorem small_numB {v : Int} (h0 : 0 ≤ v) (h1 : v ≤ 40) : numB (Lib.itoa v) = true ∧ numV (Lib.itoa v) = v := by
  have := small_num v.toNat (by omega)
  rw [show ((v.toNat : Nat) : Int) = v by omega] at this
  unfold numB numV
  rw [this]
  exact ⟨rfl, rfl⟩
theorem text_strict {t : Timpl_Lts} (hv : validP t = true) : StrictP (ltsT t) t := by
  obtain ⟨n, V⟩ := valid_of hv
  have htop := V.top
  have hst := V.st
  have hini := V.ini
  have hlabs := V.labs
  obtain ⟨n1, n2⟩ := small_numB (v := t.1) (by omega) (by omega)
  obtain ⟨m1, m2⟩ := small_numB (v := t.2.1) (by omega) (by omega)
  have hlab : ∀ k x, t.2.2.1[k]? = some x → labelP x = true ∧ ((x == [116, 97, 117]) = (k == 0)) := fun k x hx => by
    have hk := (List.getElem?_eq_some_iff.1 hx).1
    have := V.lab k hk
    unfold okL condX at this
    rw [hx] at this
    simp only [Bool.not_eq_true', Bool.or_eq_false_iff, Bool.not_eq_false'] at this
    obtain ⟨a1, a2, _⟩ := this
    refine ⟨a1, ?_⟩
    have a2 : ((x == [116, 97, 117]) != ((k : Int) == 0)) = false := a2
    have a3 : ((k : Int) == 0) = (k == 0) := by cases k <;> rfl
    rw [a3] at a2
    revert a2
    cases (x == [116, 97, 117]) <;> cases (k == 0) <;> simp
  obtain ⟨l0, ls, hL⟩ : ∃ l0 ls, t.2.2.1 = l0 :: ls := by
    cases hq : t.2.2.1 with
    | nil => rw [hq] at hlabs; simp at hlabs
    | cons a b => exact ⟨a, b, rfl⟩
  have hl0 : l0 = [116, 97, 117] := by
    have := (hlab 0 l0 (by rw [hL]; rfl)).2
    simpa using this
  have hlb : ∀ x ∈ ls, labelP x = true := fun x hx => by
    obtain ⟨k, hk⟩ := List.mem_iff_getElem?.1 hx
    exact (hlab (k + 1) x (by rw [hL]; exact hk)).1
  have hedge : ∀ e ∈ t.2.2.2, (numB (Lib.itoa e.1) = true ∧ numV (Lib.itoa e.1) = e.1) ∧ (numB (Lib.itoa e.2.1) = true ∧ numV (Lib.itoa e.2.1) = e.2.1) ∧ (numB (Lib.itoa e.2.2) = true ∧ numV (Lib.itoa e.2.2) = e.2.2) := fun e he => by
    have h1 := V.src e he
    have h2 := V.dst e he
    have h3 := V.lbl e he
    exact ⟨small_numB (by omega) (by omega), small_numB (by omega) (by omega), small_numB (by omega) (by omega)⟩
  have nob : ∀ {w : Str} {c : UInt8}, (∀ b ∈ w, okc b = true) → okc c = false → c ∉ w := fun hw hc hm => by
    rw [hw _ hm] at hc
    cases hc
  have hecut : ∀ e ∈ t.2.2.2, splitC 58 (edgeT e) = [Lib.itoa e.1, Lib.itoa e.2.1, Lib.itoa e.2.2] := fun e he => by
    obtain ⟨q1, q2, q3⟩ := hedge e he
    unfold edgeT
    refine splitC_join (by simp) fun w hw => ?_
    simp only [List.mem_cons, List.not_mem_nil, or_false] at hw
    rcases hw with rfl | rfl | rfl
    · exact nob (num_bytes q1.1) (by decide)
    · exact nob (num_bytes q2.1) (by decide)
    · exact nob (num_bytes q3.1) (by decide)
  have hebytes : ∀ e ∈ t.2.2.2, ∀ b ∈ edgeT e, okc b = true ∨ b = 58 := fun e he b hb => by
    obtain ⟨q1, q2, q3⟩ := hedge e he
    unfold edgeT at hb
    rcases mem_join hb with rfl | ⟨w, hw, hb⟩
    · exact .inr rfl
    · left
      simp only [List.mem_cons, List.not_mem_nil, or_false] at hw
      rcases hw with rfl | rfl | rfl
      · exact num_bytes q1.1 b hb
      · exact num_bytes q2.1 b hb
      · exact num_bytes q3.1 b hb
  have hwl : rowsOf (wordsT ls) = ls := by
    unfold rowsOf wordsT
    by_cases h0 : ls = []
    · rw [if_pos h0, if_pos rfl, h0]
    · rw [if_neg h0]
      have hj := splitC_join (c := 32) h0 fun w hw => nob (label_bytes (hlb w hw)) (by decide)
      rw [if_neg, hj]
      intro e
      rw [e] at hj
      have : [([45] : Str)] = ls := hj
      have := hlb [45] (by rw [← this]; simp)
      revert this
      decide
  have hwe : rowsOf (wordsT (t.2.2.2.map edgeT)) = t.2.2.2.map edgeT := by
    unfold rowsOf wordsT
    by_cases h0 : t.2.2.2.map edgeT = []
    · rw [if_pos h0, if_pos rfl, h0]
    · rw [if_neg h0]
      have hj := splitC_join (c := 32) h0 fun w hw => by
        obtain ⟨e, he, rfl⟩ := List.mem_map.1 hw
        intro hm
        rcases hebytes e he _ hm with q | q
        · revert q; decide
        · revert q; decide
      rw [if_neg, hj]
      intro e
      rw [e] at hj
      have hj : [([45] : Str)] = t.2.2.2.map edgeT := hj
      have hm : ([45] : Str) ∈ t.2.2.2.map edgeT := by rw [← hj]; simp
      obtain ⟨ed, hed, he2⟩ := List.mem_map.1 hm
      have := hecut ed hed
      rw [he2] at this
      have h3 := congrArg List.length this
      have h4 : (splitC 58 ([45] : Str)).length = 1 := by decide
      rw [h4] at h3
      simp at h3
  refine ⟨Lib.itoa t.1 ++ [32] ++ Lib.itoa t.2.1, wordsT ls, wordsT (t.2.2.2.map edgeT), Lib.itoa t.1, Lib.itoa t.2.1, ?_, ?_, n1, m1, n2.symm, m2.symm, ?_, ?_, ?_⟩
  · have hform : ltsT t = Lib.join [Lib.itoa t.1 ++ [32] ++ Lib.itoa t.2.1, wordsT ls, wordsT (t.2.2.2.map edgeT)] [124] := by
      rw [join_snocs, join_snocs, Lib.join_one]
      unfold ltsT
      rw [hL]
      simp
    rw [hform]
    refine splitC_join (by simp) fun w hw => ?_
    simp only [List.mem_cons, List.not_mem_nil, or_false] at hw
    rcases hw with rfl | rfl | rfl
    · intro hm
      simp only [List.mem_append, List.mem_singleton] at hm
      rcases hm with (hm | hm) | hm
      · exact nob (num_bytes n1) (by decide) hm
      · revert hm; decide
      · exact nob (num_bytes m1) (by decide) hm
    · intro hm
      unfold wordsT at hm
      split at hm
      · revert hm; decide
      · rcases mem_join hm with q | ⟨w, hw, hb⟩
        · revert q; decide
        · exact nob (label_bytes (hlb w hw)) (by decide) hb
    · intro hm
      unfold wordsT at hm
      split at hm
      · revert hm; decide
      · rcases mem_join hm with q | ⟨w, hw, hb⟩
        · revert q; decide
        · obtain ⟨e, he, rfl⟩ := List.mem_map.1 hw
          rcases hebytes e he _ hb with q | q
          · revert q; decide
          · revert q; decide
  · have : Lib.itoa t.1 ++ [32] ++ Lib.itoa t.2.1 = Lib.join [Lib.itoa t.1, Lib.itoa t.2.1] [32] := by rw [join_snocs, Lib.join_one]
    rw [this]
    refine splitC_join (by simp) fun w hw => ?_
    simp only [List.mem_cons, List.not_mem_nil, or_false] at hw
    rcases hw with rfl | rfl
    · exact nob (num_bytes n1) (by decide)
    · exact nob (num_bytes m1) (by decide)
  · rw [hwl, hL, hl0]
  · rw [hwe]
    intro row hr
    obtain ⟨e, he, rfl⟩ := List.mem_map.1 hr
    obtain ⟨q1, q2, q3⟩ := hedge e he
    unfold okE
    rw [hecut e he]
    simp [q1.1, q2.1, q3.1]
  · rw [hwe, List.map_map]
    conv => lhs; rw [← List.map_id t.2.2.2]
    refine List.map_congr_left fun e he => ?_
    obtain ⟨q1, q2, q3⟩ := hedge e he
    show e = rdE (edgeT e)
    unfold rdE
    rw [hecut e he]
    show e = (numV (Lib.itoa e.1), numV (Lib.itoa e.2.1), numV (Lib.itoa e.2.2))
    rw [q1.2, q2.2, q3.2]
def zL : Timpl_Lts × Bool := ((0, 0, [], []), false)
def RlP (s : Str) (r : Timpl_Lts × Bool) : Prop := (∃ t, StrictP s t ∧ validP t = true ∧ r = (t, true)) ∨ ((∀ t, StrictP s t → validP t = false) ∧ r = zL)
theorem strict_one {s : Str} {t t' : Timpl_Lts} (h : StrictP s t) (h' : StrictP s t') : t = t' := by
  obtain ⟨h, l, e, x, y, h1, h2, h3, h4, h5, h6, h7, h8, h9⟩ := h
  obtain ⟨h', l', e', x', y', k1, k2, k3, k4, k5, k6, k7, k8, k9⟩ := h'
  rw [h1] at k1
  cases k1
  rw [h2] at k2
  cases k2
  obtain ⟨t1, t2, t3, t4⟩ := t
  obtain ⟨u1, u2, u3, u4⟩ := t'
  simp only at h5 h6 h7 h9 k5 k6 k7 k9
  rw [h5, h6, h7, h9, k5, k6, k7, k9]
theorem rl_one {s : Str} {r r' : Timpl_Lts × Bool} (h : RlP s r) (h' : RlP s r') : r = r' := by
  rcases h with ⟨t, a, b, rfl⟩ | ⟨a, rfl⟩ <;> rcases h' with ⟨t', a', b', rfl⟩ | ⟨a', rfl⟩
  · rw [strict_one a a']
  · rw [a' t a] at b; cases b
  · rw [a t' a'] at b'; cases b'
  · rfl
theorem rl_spec {s : Str} (hl : s.length ≤ 1048576) : ∃ r, Ev (fun m => spec_ReadLts_m m s) r ∧ RlP s r := by
  have hmx := mx
  suffices h : ∃ r, Ev (fun m => spec_l11Read_m m s) r ∧ RlP s r by
    obtain ⟨r, h1, h2⟩ := h
    exact ⟨r, Ev.bind h1 (Ev.const rfl), h2⟩
  unfold spec_l11Read_m
  have hsl := splitC_len 124 s
  have hsp := splitR (s := s) 124 (by omega)
  by_cases h3 : (splitC 124 s).length = 3
  case neg =>
    refine ⟨zL, Ev.bind hsp (Ev.ite_t (by simp; omega) (Ev.pure _)), .inr ⟨fun t ht => ?_, rfl⟩⟩
    obtain ⟨h, l, e, x, y, h1, _⟩ := ht
    rw [h1] at h3
    exact absurd rfl h3
  obtain ⟨h, l, e, hs3⟩ : ∃ h l e, splitC 124 s = [h, l, e] := by
    match hq : splitC 124 s with
    | [a, b, c] => exact ⟨a, b, c, rfl⟩
    | [] => rw [hq] at h3; cases h3
    | [_] => rw [hq] at h3; cases h3
    | [_, _] => rw [hq] at h3; cases h3
    | _ :: _ :: _ :: _ :: _ => rw [hq] at h3; simp at h3
  have hlen : h.length + l.length + e.length + 2 = s.length := by
    have := join_splitC 124 s
    rw [hs3, join_snocs, join_snocs, Lib.join_one] at this
    rw [← this]
    simp
    omega
  rw [hs3] at hsp
  have hsh := splitR (s := h) 32 (by omega)
  by_cases h2 : (splitC 32 h).length = 2
  case neg =>
    refine ⟨zL, Ev.bind hsp (Ev.ite_f (by simp) (Ev.bindc (idx_at (k := 0) (x := h) rfl) (Ev.bind hsh (Ev.ite_t (by simp; omega) (Ev.pure _))))), .inr ⟨fun t ht => ?_, rfl⟩⟩
    obtain ⟨h', l', e', x, y, q1, q2, _⟩ := ht
    rw [hs3] at q1
    cases q1
    rw [q2] at h2
    exact absurd rfl h2
  obtain ⟨x, y, hxy⟩ : ∃ x y, splitC 32 h = [x, y] := by
    match hq : splitC 32 h with
    | [a, b] => exact ⟨a, b, rfl⟩
    | [] => rw [hq] at h2; cases h2
    | [_] => rw [hq] at h2; cases h2
    | _ :: _ :: _ :: _ => rw [hq] at h2; simp at h2
  have hxl := splitC_piece 32 h x (by rw [hxy]; simp)
  have hyl := splitC_piece 32 h y (by rw [hxy]; simp)
  rw [hxy] at hsh
  have hnx := num_spec (w := x) (by omega)
  have hny := num_spec (w := y) (by omega)
  by_cases hxb : (numB x && numB y) = true
  case neg =>
    refine ⟨zL, Ev.bind hsp (Ev.ite_f (by simp) (Ev.bindc (idx_at (k := 0) (x := h) rfl) (Ev.bind hsh (Ev.ite_f (by simp) (Ev.bindc (idx_at (k := 0) (x := x) rfl) (Ev.bind hnx (Ev.bindc (idx_at (k := 1) (x := y) rfl) (Ev.bind hny (Ev.bind (a := true) ?_ (Ev.ite_t rfl (Ev.pure _))))))))))), .inr ⟨fun t ht => ?_, rfl⟩⟩
    · cases q1 : numB x
      · exact Ev.ite_t rfl (Ev.pure _)
      · cases q2 : numB y
        · exact Ev.ite_f (by simp) (Ev.const rfl)
        · rw [q1, q2] at hxb; exact absurd rfl hxb
    · obtain ⟨h', l', e', x', y', q1, q2, q3, q4, _⟩ := ht
      rw [hs3] at q1
      cases q1
      rw [hxy] at q2
      cases q2
      rw [q3, q4] at hxb
      exact absurd rfl hxb
  simp only [Bool.and_eq_true] at hxb
  obtain ⟨hx1, hy1⟩ := hxb
  have hls := splitC_len 32 l
  have hlsp := splitR (s := l) 32 (by omega)
  have hes := splitC_len 32 e
  have hesp := splitR (s := e) 32 (by omega)
  have hrl : (rowsOf l).length ≤ l.length + 1 := by
    unfold rowsOf
    split
    · simp
    · omega
  have hlab : ∀ w ∈ rowsOf l, w.length ≤ 1048576 := fun w hw => by
    unfold rowsOf at hw
    split at hw
    · cases hw
    · have := splitC_piece 32 l w hw; omega
  -- the end: edges read
  have fin : ∀ es : List Timpl_Edge, es.length ≤ 300 → Ev (fun m => (spec_l11Is_m m (numV x, numV y, [116, 97, 117] :: rowsOf l, es)).bind fun x112 => (if (!x112) = true then some ((((0 : Int), (0 : Int), [], []), false)) else some (((numV x, numV y, [116, 97, 117] :: rowsOf l, es), true)))) (if validP (numV x, numV y, [116, 97, 117] :: rowsOf l, es) = true then ((numV x, numV y, [116, 97, 117] :: rowsOf l, es), true) else zL) := fun es hes => by
    refine Ev.bind (valid_spec (t := (numV x, numV y, [116, 97, 117] :: rowsOf l, es)) (by show ([116, 97, 117] :: rowsOf l).length ≤ 1048576; rw [List.length_cons]; omega) (fun w hw => ?_) (by show es.length ≤ _; omega)) ?_
    · rcases List.mem_cons.1 hw with rfl | hw
      · simp
      · exact hlab w hw
    · cases validP (numV x, numV y, [116, 97, 117] :: rowsOf l, es)
      · exact Ev.ite_t rfl (Ev.pure _)
      · exact Ev.ite_f (by simp) (Ev.pure _)
  have hrel : ∀ t, StrictP s t → t = (numV x, numV y, [116, 97, 117] :: rowsOf l, (rowsOf e).map rdE) ∧ ∀ row ∈ rowsOf e, okE row = true := fun t ht => by
    obtain ⟨h', l', e', x', y', q1, q2, q3, q4, q5, q6, q7, q8, q9⟩ := ht
    rw [hs3] at q1
    cases q1
    rw [hxy] at q2
    cases q2
    obtain ⟨t1, t2, t3, t4⟩ := t
    simp only at q5 q6 q7 q9
    exact ⟨by rw [q5, q6, q7, q9], q8⟩
  have hstr : (∀ row ∈ rowsOf e, okE row = true) → StrictP s (numV x, numV y, [116, 97, 117] :: rowsOf l, (rowsOf e).map rdE) := fun q => ⟨h, l, e, x, y, hs3, hxy, hx1, hy1, rfl, rfl, rfl, q, rfl⟩
  -- the rest behind the labels
  have rest : ∃ r, Ev (fun m => (idx [h, l, e] (2 : Int)).bind fun x120 => (if (x120 != ([45] : Str)) = true then (idx [h, l, e] (2 : Int)).bind fun x126 => (spec_l01Split_m m x126 (32 : Int)).bind fun x133 => (if (decide ((300 : Int) < (x133.length : Int))) = true then some ((((0 : Int), (0 : Int), [], []), false)) else (iter (fun (s : (List Timpl_Edge) × (Int)) => (match s with | (xs209, x211) => (if (decide (x211 < (x133.length : Int))) = true then (idx x133 x211).bind fun x290 => (spec_l01Split_m m x290 (58 : Int)).bind fun x297 => (if ((x297.length : Int) != (3 : Int)) = true then some (.inr (.inr (((0 : Int), (0 : Int), [], []), false))) else (idx x297 (0 : Int)).bind fun x306 => (spec_l01Number_m m x306).bind fun x313 => (idx x297 (1 : Int)).bind fun x316 => (spec_l01Number_m m x316).bind fun x323 => (idx x297 (2 : Int)).bind fun x326 => (spec_l01Number_m m x326).bind fun x333 => (if (!x313.2) = true then some true else some (!x323.2)).bind fun t336 => (if t336 = true then some true else some (!x333.2)).bind fun t339 => (if t339 = true then some (.inr (.inr (((0 : Int), (0 : Int), [], []), false))) else (app xs209 [(x313.1, x323.1, x333.1)]).bind fun x349 => some (.inl (x349, (W (x211 + (1 : Int))))))) else some (.inr (.inl (xs209)))) : Option (((List Timpl_Edge) × (Int)) ⊕ (((List Timpl_Edge)) ⊕ ((Timpl_Lts × Bool)))))) m (([] : List Timpl_Edge), (0 : Int))).bind fun res281 => ctl (β := (List Timpl_Edge)) (ρ := (Timpl_Lts × Bool)) (τ := (Timpl_Lts × Bool)) res281 (fun (xs279) => (spec_l11Is_m m (numV x, numV y, [116, 97, 117] :: rowsOf l, xs279)).bind fun x112 => (if (!x112) = true then some ((((0 : Int), (0 : Int), [], []), false)) else some (((numV x, numV y, [116, 97, 117] :: rowsOf l, xs279), true)))) (fun q => some (q))) else (spec_l11Is_m m (numV x, numV y, [116, 97, 117] :: rowsOf l, ([] : List Timpl_Edge))).bind fun x112 => (if (!x112) = true then some ((((0 : Int), (0 : Int), [], []), false)) else some (((numV x, numV y, [116, 97, 117] :: rowsOf l, ([] : List Timpl_Edge)), true))))) r ∧ RlP s r := by
    have done : ∀ (hq : ∀ row ∈ rowsOf e, okE row = true), RlP s (if validP (numV x, numV y, [116, 97, 117] :: rowsOf l, (rowsOf e).map rdE) = true then ((numV x, numV y, [116, 97, 117] :: rowsOf l, (rowsOf e).map rdE), true) else zL) := fun hq => by
      by_cases hv : validP (numV x, numV y, [116, 97, 117] :: rowsOf l, (rowsOf e).map rdE) = true
      · rw [if_pos hv]
        exact .inl ⟨_, hstr hq, hv, rfl⟩
      · rw [if_neg hv]
        refine .inr ⟨fun t ht => ?_, rfl⟩
        rw [(hrel t ht).1]
        simpa using hv
    by_cases he : e = [45]
    · have hre : rowsOf e = [] := by unfold rowsOf; rw [if_pos he]
      have hd := done (by rw [hre]; intro row hr; cases hr)
      rw [hre] at hd
      exact ⟨_, Ev.bindc (idx_at (k := 2) (x := e) rfl) (Ev.ite_f (by simp [he]) (fin [] (by simp))), hd⟩
    have hre : rowsOf e = splitC 32 e := by unfold rowsOf; rw [if_neg he]
    by_cases h300 : 300 < (splitC 32 e).length
    · refine ⟨zL, Ev.bindc (idx_at (k := 2) (x := e) rfl) (Ev.ite_t (by simpa using he) (Ev.bindc (idx_at (k := 2) (x := e) rfl) (Ev.bind hesp (Ev.ite_t (decide_eq_true (by omega)) (Ev.pure _))))), .inr ⟨fun t ht => ?_, rfl⟩⟩
      cases hv : validP t
      · rfl
      · obtain ⟨n, V⟩ := valid_of hv
        have := V.few
        rw [(hrel t ht).1, hre] at this
        simp at this
        omega
    have hloop := (readers (ρ := Timpl_Lts × Bool) (step := fun m (s : (List Timpl_Edge) × (Int)) => (match s with | (xs209, x211) => (if (decide (x211 < ((splitC 32 e).length : Int))) = true then (idx (splitC 32 e) x211).bind fun x290 => (spec_l01Split_m m x290 (58 : Int)).bind fun x297 => (if ((x297.length : Int) != (3 : Int)) = true then some (.inr (.inr (((0 : Int), (0 : Int), [], []), false))) else (idx x297 (0 : Int)).bind fun x306 => (spec_l01Number_m m x306).bind fun x313 => (idx x297 (1 : Int)).bind fun x316 => (spec_l01Number_m m x316).bind fun x323 => (idx x297 (2 : Int)).bind fun x326 => (spec_l01Number_m m x326).bind fun x333 => (if (!x313.2) = true then some true else some (!x323.2)).bind fun t336 => (if t336 = true then some true else some (!x333.2)).bind fun t339 => (if t339 = true then some (.inr (.inr (((0 : Int), (0 : Int), [], []), false))) else (app xs209 [(x313.1, x323.1, x333.1)]).bind fun x349 => some (.inl (x349, (W (x211 + (1 : Int))))))) else some (.inr (.inl (xs209)))) : Option (((List Timpl_Edge) × (Int)) ⊕ (((List Timpl_Edge)) ⊕ ((Timpl_Lts × Bool)))))) (s0 := (([] : List Timpl_Edge), (0 : Int)))
      (splitC 32 e) (fun k => (k : Int)) okE rdE zL rfl (fun k w xs hk hw hx hr => ?_) (fun k w xs hk hw hx hr => ?_) (fun xs => Ev.ite_f (by simp) (Ev.pure _)))
    · refine ⟨(if (splitC 32 e).all okE = true then (if validP (numV x, numV y, [116, 97, 117] :: rowsOf l, (rowsOf e).map rdE) = true then ((numV x, numV y, [116, 97, 117] :: rowsOf l, (rowsOf e).map rdE), true) else zL) else zL), Ev.bindc (idx_at (k := 2) (x := e) rfl) (Ev.ite_t (by simpa using he) (Ev.bindc (idx_at (k := 2) (x := e) rfl) (Ev.bind hesp (Ev.ite_f (by simp only [decide_eq_true_eq]; omega) (Ev.bind hloop.ev ?_))))), ?_⟩
      · by_cases hA : (splitC 32 e).all okE = true
        · rw [if_pos hA, if_pos hA, hre]
          exact fin ((splitC 32 e).map rdE) (by rw [List.length_map]; omega)
        · rw [if_neg hA, if_neg hA]
          exact Ev.const rfl
      · by_cases hA : (splitC 32 e).all okE = true
        · rw [if_pos hA]
          exact done (by rw [hre]; exact fun row hr => List.all_eq_true.1 hA row hr)
        · rw [if_neg hA]
          refine .inr ⟨fun t ht => ?_, rfl⟩
          have := (hrel t ht).2
          rw [hre] at this
          exact absurd (List.all_eq_true.2 this) hA
    · have hwl := splitC_piece 32 e w (List.mem_of_getElem? hw)
      obtain ⟨a, b, c, q1, q2, q3, q4, q5⟩ := okE_cut hr
      have hsr := splitR (s := w) 58 (by omega)
      rw [q1] at hsr
      have la := splitC_piece 58 w a (by rw [q1]; simp)
      have lb := splitC_piece 58 w b (by rw [q1]; simp)
      have lc := splitC_piece 58 w c (by rw [q1]; simp)
      have na := num_spec (w := a) (by omega)
      have nb := num_spec (w := b) (by omega)
      have nc := num_spec (w := c) (by omega)
      rw [q2] at na
      rw [q3] at nb
      rw [q4] at nc
      refine Ev.ite_t (decide_eq_true (by omega)) (Ev.bindc (idx_at hw) (Ev.bind hsr (Ev.ite_f (by simp) (Ev.bindc (idx_at (k := 0) (x := a) rfl) (Ev.bind na (Ev.bindc (idx_at (k := 1) (x := b) rfl) (Ev.bind nb (Ev.bindc (idx_at (k := 2) (x := c) rfl) (Ev.bind nc (Ev.bind (a := false) (Ev.ite_f (by simp) (Ev.const rfl)) (Ev.bind (a := false) (Ev.ite_f (by simp) (Ev.const rfl)) (Ev.ite_f (by simp) (Ev.bindc (app_ok (by simp; omega)) (Ev.const ?_))))))))))))))
      rw [W_succ hk (by omega), q5]
    · have hwl := splitC_piece 32 e w (List.mem_of_getElem? hw)
      have hsr := splitR (s := w) 58 (by omega)
      by_cases hl3 : (splitC 58 w).length = 3
      case neg =>
        exact Ev.ite_t (decide_eq_true (by omega)) (Ev.bindc (idx_at hw) (Ev.bind hsr (Ev.ite_t (by simp; omega) (Ev.pure _))))
      obtain ⟨a, b, c, q1⟩ : ∃ a b c, splitC 58 w = [a, b, c] := by
        match hq : splitC 58 w with
        | [a, b, c] => exact ⟨a, b, c, rfl⟩
        | [] => rw [hq] at hl3; cases hl3
        | [_] => rw [hq] at hl3; cases hl3
        | [_, _] => rw [hq] at hl3; cases hl3
        | _ :: _ :: _ :: _ :: _ => rw [hq] at hl3; simp at hl3
      rw [q1] at hsr
      have la := splitC_piece 58 w a (by rw [q1]; simp)
      have lb := splitC_piece 58 w b (by rw [q1]; simp)
      have lc := splitC_piece 58 w c (by rw [q1]; simp)
      have na := num_spec (w := a) (by omega)
      have nb := num_spec (w := b) (by omega)
      have nc := num_spec (w := c) (by omega)
      unfold okE at hr
      rw [q1] at hr
      simp only [List.length_cons, List.length_nil, List.all_cons, List.all_nil, Bool.and_true] at hr
      have hr : (numB a && (numB b && numB c)) = false := by simpa using hr
      refine Ev.ite_t (decide_eq_true (by omega)) (Ev.bindc (idx_at hw) (Ev.bind hsr (Ev.ite_f (by simp) (Ev.bindc (idx_at (k := 0) (x := a) rfl) (Ev.bind na (Ev.bindc (idx_at (k := 1) (x := b) rfl) (Ev.bind nb (Ev.bindc (idx_at (k := 2) (x := c) rfl) (Ev.bind nc (Ev.bind (a := !(numB a && numB b)) ?_ (Ev.bind (a := true) ?_ (Ev.ite_t rfl (Ev.pure _)))))))))))))
      · cases numB a
        · exact Ev.ite_t rfl (Ev.pure _)
        · exact Ev.ite_f (by simp) (Ev.const (by simp))
      · cases q2 : numB a
        · exact Ev.ite_t rfl (Ev.pure _)
        · cases q3 : numB b
          · exact Ev.ite_t rfl (Ev.pure _)
          · rw [q2, q3] at hr
            have : numB c = false := by simpa using hr
            exact Ev.ite_f (by simp) (Ev.const (by rw [this]; rfl))
  obtain ⟨r, hr1, hr2⟩ := rest
  refine ⟨r, Ev.bind hsp (Ev.ite_f (by simp) (Ev.bindc (idx_at (k := 0) (x := h) rfl) (Ev.bind hsh (Ev.ite_f (by simp) (Ev.bindc (idx_at (k := 0) (x := x) rfl) (Ev.bind hnx (Ev.bindc (idx_at (k := 1) (x := y) rfl) (Ev.bind hny (Ev.bind (a := false) (Ev.ite_f (by simp [hx1]) (Ev.const (by rw [hy1]; rfl))) (Ev.ite_f (by simp) (Ev.join ?_))))))))))), hr2⟩
  by_cases hld : l = [45]
  · have hrw : rowsOf l = [] := by unfold rowsOf; rw [if_pos hld]
    rw [hrw] at hr1
    exact Ev.bindc (idx_at (k := 1) (x := l) rfl) (Ev.ite_f (by simp [hld]) (Ev.join hr1))
  · have hrw : rowsOf l = splitC 32 l := by unfold rowsOf; rw [if_neg hld]
    rw [hrw] at hr1
    exact Ev.bindc (idx_at (k := 1) (x := l) rfl) (Ev.ite_t (by simpa using hld) (Ev.bindc (idx_at (k := 1) (x := l) rfl) (Ev.bind hlsp (Ev.bindc (app_ok (by simp; omega)) (Ev.join hr1)))))
def wordsF : Option Str → Str → List Str
  | none, [] => []
  | some w, [] => [w]
  | none, b :: r => if b = 32 then wordsF none r else wordsF (some [b]) r
  | some w, b :: r => if b = 32 then w :: wordsF none r else wordsF (some (w ++ [b])) r
def pieceF (l : Str) (x : Nat × Nat) : Str := (l.take x.2).drop x.1
def curF (l : Str) (pos : Nat) : Option Nat → Option Str
  | none => none
  | some a => some (pieceF l (a, pos))
theorem piece_extract (l : Str) (a b : Nat) : ((⟨l.toArray⟩ : ByteArray).extract a b).data.toList = pieceF l (a, b) := by
  unfold pieceF
  rw [ByteArray.data_extract]
  simp [List.drop_take]
theorem piece_next {l : Str} {a pos : Nat} {b : UInt8} (ha : a ≤ pos) (hb : l[pos]? = some b) : pieceF l (a, pos + 1) = pieceF l (a, pos) ++ [b] := by
  unfold pieceF
  have hl : pos < l.length := (List.getElem?_eq_some_iff.1 hb).1
  rw [List.take_add_one, hb, List.drop_append_of_le_length (by rw [List.length_take]; omega)]
  rfl
theorem piece_one {l : Str} {pos : Nat} {b : UInt8} (hb : l[pos]? = some b) : pieceF l (pos, pos + 1) = [b] := by
  have hl : pos < l.length := (List.getElem?_eq_some_iff.1 hb).1
  rw [piece_next (Nat.le_refl _) hb]
  unfold pieceF
  rw [List.drop_eq_nil_of_le (by rw [List.length_take]; omega)]
  rfl
theorem spans_words {l : Str} (hA : ∀ b ∈ l, b.toNat < 128) : ∀ (f pos : Nat) (st : Option Nat) (acc : List (Nat × Nat)), l.length ≤ pos + f → pos ≤ l.length → (∀ a, st = some a → a ≤ pos) →
    ((Lib.closeSpans ⟨l.toArray⟩ (Lib.spansFromP (fun x => (x : Int) == 32) ⟨l.toArray⟩ f pos st acc)).map (pieceF l)) = acc.map (pieceF l) ++ wordsF (curF l pos st) (l.drop pos) := by
  intro f
  induction f with
  | zero =>
    intro pos st acc h1 h2 h3
    have : pos = l.length := by omega
    subst this
    unfold Lib.spansFromP Lib.closeSpans
    rw [List.drop_length]
    cases st with
    | none => simp [wordsF, curF]
    | some a => simp [wordsF, curF, size_sv]
  | succ f ih =>
    intro pos st acc h1 h2 h3
    by_cases hp : pos < l.length
    · obtain ⟨b, hb⟩ := get_lt hp
      have hbm := List.mem_of_getElem? hb
      have hsz : pos < (⟨l.toArray⟩ : ByteArray).size := by rw [size_sv]; exact hp
      have hgb : ((⟨l.toArray⟩ : ByteArray)[pos]'hsz) = b := by
        have e := hb
        rw [List.getElem?_eq_getElem hp] at e
        exact Option.some.inj e
      have hdec := decode_at (⟨l.toArray⟩ : ByteArray) pos hsz (by rw [hgb]; exact hA b hbm)
      rw [hgb] at hdec
      have hd : l.drop pos = b :: l.drop (pos + 1) := by
        rw [List.getElem?_eq_getElem hp] at hb
        rw [List.drop_eq_getElem_cons hp, Option.some.inj hb]
      unfold Lib.spansFromP
      rw [if_pos hsz, hdec, hd]
      by_cases h32 : b = 32
      · have hc : (((b.toNat : Nat) : Int) == 32) = true := by rw [h32]; rfl
        rw [if_pos hc]
        cases st with
        | none =>
          simp only
          rw [ih (pos + 1) none acc (by omega) (by omega) (fun a h => by cases h)]
          simp [curF, wordsF, h32]
        | some a =>
          simp only
          rw [ih (pos + 1) none (acc ++ [(a, pos)]) (by omega) (by omega) (fun a h => by cases h)]
          simp [curF, wordsF, h32]
      · have hc : ¬ (((b.toNat : Nat) : Int) == 32) = true := by
          intro g
          have := beq_iff_eq.1 g
          exact h32 (UInt8.toNat_inj.1 (show b.toNat = (32 : UInt8).toNat by have h : (32 : UInt8).toNat = 32 := rfl; omega))
        rw [if_neg hc]
        cases st with
        | none =>
          simp only
          rw [ih (pos + 1) (some pos) acc (by omega) (by omega) (fun a h => by cases h; omega)]
          simp only [curF, piece_one hb, wordsF]
          rw [if_neg h32]
        | some a =>
          have ha := h3 a rfl
          simp only
          rw [ih (pos + 1) (some a) acc (by omega) (by omega) (fun a' h => by cases h; omega)]
          simp only [curF, piece_next ha hb, wordsF]
          rw [if_neg h32]
    · have : pos = l.length := by omega
      subst this
      rw [Lib.spansFromP_end _ _ _ _ _ _ (by rw [size_sv]; omega)]
      unfold Lib.closeSpans
      rw [List.drop_length]
      cases st with
      | none => simp [wordsF, curF]
      | some a => simp [wordsF, curF, size_sv]
theorem fields_ascii {l : Str} (hA : ∀ b ∈ l, b.toNat < 128) : (Lib.goFieldsP (fun x => (x : Int) == 32) ⟨l.toArray⟩).map (·.data.toList) = wordsF none l := by
  unfold Lib.goFieldsP Lib.spansOfP
  rw [List.map_map]
  have h := spans_words hA l.length 0 none [] (by omega) (by omega) (fun a h => by cases h)
  rw [size_sv]
  simp only [List.map_nil, List.nil_append, curF, List.drop_zero] at h
  rw [← h]
  refine List.map_congr_left fun x _ => ?_
  exact piece_extract l x.1 x.2
theorem spans_len (p : Nat → Bool) (s : ByteArray) : ∀ (f pos : Nat) (st : Option Nat) (acc : List (Nat × Nat)), (Lib.spansFromP p s f pos st acc).1.length ≤ acc.length + f
  | 0, _, _, _ => by unfold Lib.spansFromP; exact Nat.le_refl _
  | f + 1, pos, st, acc => by
    unfold Lib.spansFromP
    split
    · split
      · cases st with
        | none => have := spans_len p s f (pos + (Utf8.decode s pos).2) none acc; simp only; omega
        | some a =>
          have := spans_len p s f (pos + (Utf8.decode s pos).2) none (acc ++ [(a, pos)])
          rw [List.length_append, List.length_singleton] at this
          simp only; omega
      · cases st with
        | none => have := spans_len p s f (pos + (Utf8.decode s pos).2) (some pos) acc; simp only; omega
        | some a => have := spans_len p s f (pos + (Utf8.decode s pos).2) (some a) acc; simp only; omega
    · simp only; omega
theorem fields_len (p : Nat → Bool) (l : Str) : ((Lib.goFieldsP p ⟨l.toArray⟩).map (·.data.toList)).length ≤ l.length + 1 := by
  unfold Lib.goFieldsP Lib.spansOfP
  rw [List.map_map, List.length_map]
  have h := spans_len p ⟨l.toArray⟩ (⟨l.toArray⟩ : ByteArray).size 0 none []
  rw [size_sv] at h ⊢
  unfold Lib.closeSpans
  simp only [List.length_nil, Nat.zero_add] at h
  split
  · rw [List.length_append, List.length_singleton]; omega
  · omega
theorem fields_piece (p : Nat → Bool) (l : Str) : ∀ w ∈ (Lib.goFieldsP p ⟨l.toArray⟩).map (·.data.toList), w.length ≤ l.length := by
  unfold Lib.goFieldsP
  rw [List.map_map]
  intro w hw
  obtain ⟨x, _, rfl⟩ := List.mem_map.1 hw
  show ((⟨l.toArray⟩ : ByteArray).extract x.1 x.2).data.toList.length ≤ _
  rw [piece_extract]
  unfold pieceF
  rw [List.length_drop, List.length_take]
  omega
theorem words_split : ∀ (l : Str), (wordsF none l = (splitC 32 l).filter (· ≠ [])) ∧ ∀ w, w ≠ [] → wordsF (some w) l = (w ++ (splitC 32 l).headD []) :: ((splitC 32 l).tail.filter (· ≠ []))
  | [] => ⟨by simp [wordsF, splitC], fun w _ => by simp [wordsF, splitC]⟩
  | b :: r => by
    obtain ⟨h1, h2⟩ := words_split r
    by_cases h : b = 32
    · refine ⟨?_, fun w hw => ?_⟩
      · simp [wordsF, splitC, h, h1]
      · simp [wordsF, splitC, h, h1]
    · refine ⟨?_, fun w hw => ?_⟩
      · rw [wordsF, if_neg h, h2 [b] (by simp), splitC, if_neg h]
        simp
      · rw [wordsF, if_neg h, h2 (w ++ [b]) (by simp), splitC, if_neg h]
        simp
def spl (s : Str) : List Str := (Lib.goFieldsP (fun x => (x : Int) == 32) ⟨s.toArray⟩).map (·.data.toList)
theorem spl_m {m : Nat} {s : Str} (hl : s.length ≤ 1048576) : impl_SplitWords_m m s = some (spl s) := if_pos hl
theorem spl_join {ws : List Str} (h : ∀ w ∈ ws, w ≠ [] ∧ ∀ b ∈ w, okc b = true ∨ b = 58) : spl (Lib.join ws [32]) = ws := by
  have h128 : ∀ b ∈ Lib.join ws [32], b.toNat < 128 := fun b hb => by
    rcases mem_join hb with rfl | ⟨w, hw, hb⟩
    · decide
    · rcases (h w hw).2 b hb with q | rfl
      · unfold okc at q
        simp only [Bool.and_eq_true, decide_eq_true_eq] at q
        exact q.1.1.1
      · decide
  unfold spl
  rw [fields_ascii h128, (words_split _).1]
  by_cases h0 : ws = []
  · subst h0; rw [Lib.join_nil]; rfl
  · rw [splitC_join h0 fun w hw hm => ?_]
    · rw [List.filter_eq_self]
      intro w hw
      simpa using (h w hw).1
    · rcases (h w hw).2 _ hm with q | q
      · revert q; decide
      · revert q; decide
theorem readE_impl {e : Str} (hl : e.length ≤ 1048576) : Ev (fun m => impl_readEdges_m m e) (if (spl e).all okE = true then ((spl e).map rdE, true) else ([], false)) := by
  have hmx := mx
  have hsl := fields_len (fun x => (x : Int) == 32) e
  have hpc := fields_piece (fun x => (x : Int) == 32) e
  unfold impl_readEdges_m
  refine Ev.bind (Ev.const' fun m => spl_m hl) ?_
  change (spl e).length ≤ _ at hsl
  change ∀ w ∈ spl e, _ at hpc
  generalize spl e = ws at *
  refine Ev.bind (readers (ρ := List Timpl_Edge × Bool) ws (fun k => (k : Int)) okE rdE ([], false) rfl (fun k w xs hk hw hx hr => ?_) (fun k w xs hk hw hx hr => ?_) (fun xs => Ev.ite_f (by simp) (Ev.pure _))).ev ?_
  · have hwl := hpc w (List.mem_of_getElem? hw)
    obtain ⟨a, b, c, q1, q2, q3, q4, q5⟩ := okE_cut hr
    have hrd := read_nums (ws := [a, b, c]) (by simp) (fun x hx => by have := splitC_piece 58 w x (by rw [q1]; exact hx); omega)
    have hall : [a, b, c].all numB = true := by simp [q2, q3, q4]
    rw [if_pos hall] at hrd
    refine Ev.ite_t (decide_eq_true (by omega)) (Ev.bindc (idx_at hw) (Ev.bind (Ev.const' fun m => by rw [splitL 58 (by omega), q1]) (Ev.bind hrd (Ev.bind (a := false) (Ev.ite_f (by simp) (Ev.const rfl)) (Ev.ite_f (by simp) (Ev.bindc (idx_at (k := 0) (x := numV a) rfl) (Ev.bindc (idx_at (k := 1) (x := numV b) rfl) (Ev.bindc (idx_at (k := 2) (x := numV c) rfl) (Ev.bindc (app_ok (by simp; omega)) (Ev.const ?_))))))))))
    rw [W_succ hk (by omega), q5]
  · have hwl := hpc w (List.mem_of_getElem? hw)
    have hcl := splitC_len 58 w
    have hrd := read_nums (ws := splitC 58 w) (by omega) (fun x hx => by have := splitC_piece 58 w x hx; omega)
    refine Ev.ite_t (decide_eq_true (by omega)) (Ev.bindc (idx_at hw) (Ev.bind (Ev.const' fun m => splitL 58 (by omega)) (Ev.bind hrd ?_)))
    unfold okE at hr
    by_cases hA : (splitC 58 w).all numB = true
    · rw [if_pos hA]
      rw [hA, Bool.and_true] at hr
      have h3 : (splitC 58 w).length ≠ 3 := by simpa using hr
      exact Ev.bind (a := true) (Ev.ite_f (by simp) (Ev.const (by simp; omega))) (Ev.ite_t rfl (Ev.pure _))
    · rw [if_neg hA]
      exact Ev.bind (a := true) (Ev.ite_t rfl (Ev.pure _)) (Ev.ite_t rfl (Ev.pure _))
  · by_cases hA : ws.all okE = true
    · rw [if_pos hA, if_pos hA]; exact Ev.const rfl
    · rw [if_neg hA, if_neg hA]; exact Ev.const rfl
def unD (l : Str) : Str := if l = [45] then [] else l
theorem Ev.ctlL {β ρ τ : Type} {b : β} {k : Nat → β → Option τ} {ret : Nat → ρ → Option τ} {r : τ} (h : Ev (fun m => k m b) r) : Ev (fun m => ctl (β := β) (ρ := ρ) (τ := τ) (.inl b) (k m) (ret m)) r := h
theorem spl_nil : spl [] = [] := by
  have := spl_join (ws := []) (fun w hw => by cases hw)
  rwa [Lib.join_nil] at this
theorem spl_rows {l : Str} (h : ∀ w ∈ rowsOf l, w ≠ [] ∧ ∀ b ∈ w, okc b = true ∨ b = 58) : spl (unD l) = rowsOf l := by
  unfold unD
  by_cases hl : l = [45]
  · rw [if_pos hl, spl_nil]
    unfold rowsOf
    rw [if_pos hl]
  · rw [if_neg hl]
    have e : rowsOf l = splitC 32 l := by unfold rowsOf; rw [if_neg hl]
    rw [e] at h ⊢
    have := spl_join h
    rwa [join_splitC] at this
theorem rl_impl {s : Str} (hl : s.length ≤ 1048576) : ∃ r, Ev (fun m => impl_ReadLts_m m s) r ∧ RlP s r := by
  have hmx := mx
  unfold impl_ReadLts_m
  have hsp : ∀ m, strings_Split_m m s [124] = some (splitC 124 s) := fun m => splitL 124 (by omega)
  by_cases h3 : (splitC 124 s).length = 3
  case neg =>
    refine ⟨zL, Ev.bind (Ev.const' hsp) (Ev.ite_t (by simp; omega) (Ev.pure _)), .inr ⟨fun t ht => ?_, rfl⟩⟩
    obtain ⟨h, l, e, x, y, h1, _⟩ := ht
    rw [h1] at h3
    exact absurd rfl h3
  obtain ⟨h, l, e, hs3⟩ : ∃ h l e, splitC 124 s = [h, l, e] := by
    match hq : splitC 124 s with
    | [a, b, c] => exact ⟨a, b, c, rfl⟩
    | [] => rw [hq] at h3; cases h3
    | [_] => rw [hq] at h3; cases h3
    | [_, _] => rw [hq] at h3; cases h3
    | _ :: _ :: _ :: _ :: _ => rw [hq] at h3; simp at h3
  have hlen : h.length + l.length + e.length + 2 = s.length := by
    have := join_splitC 124 s
    rw [hs3, join_snocs, join_snocs, Lib.join_one] at this
    rw [← this]
    simp
    omega
  rw [hs3] at hsp
  have hul : (unD l).length ≤ l.length := by unfold unD; split <;> simp
  have hue : (unD e).length ≤ e.length := by unfold unD; split <;> simp
  have fh := fields_len (fun x => (x : Int) == 32) h
  have ph := fields_piece (fun x => (x : Int) == 32) h
  have fl := fields_len (fun x => (x : Int) == 32) (unD l)
  have pl := fields_piece (fun x => (x : Int) == 32) (unD l)
  have fe := fields_len (fun x => (x : Int) == 32) (unD e)
  change (spl h).length ≤ _ at fh
  change ∀ w ∈ spl h, _ at ph
  change (spl (unD l)).length ≤ _ at fl
  change ∀ w ∈ spl (unD l), _ at pl
  change (spl (unD e)).length ≤ _ at fe
  have hnum := read_nums (ws := spl h) (by omega) (fun w hw => by have := ph w hw; omega)
  have hedg := readE_impl (e := unD e) (by omega)
  -- what a strict reading says of the loose one
  have hrel : ∀ t, StrictP s t → validP t = true → spl h = [Lib.itoa t.1, Lib.itoa t.2.1] ∧ spl (unD l) = t.2.2.1.tail ∧ (spl (unD e)).all okE = true ∧ (spl (unD e)).map rdE = t.2.2.2 ∧ numB (Lib.itoa t.1) = true ∧ numB (Lib.itoa t.2.1) = true ∧ t.2.2.1 = [116, 97, 117] :: t.2.2.1.tail := fun t ht hv => by
    obtain ⟨h', l', e', x, y, q1, q2, q3, q4, q5, q6, q7, q8, q9⟩ := ht
    rw [hs3] at q1
    cases q1
    have hx : Lib.itoa t.1 = x := by rw [q5]; exact itoa_num q3
    have hy : Lib.itoa t.2.1 = y := by rw [q6]; exact itoa_num q4
    have hne : ∀ {w : Str}, numB w = true → w ≠ [] := fun hw he => by subst he; revert hw; decide
    obtain ⟨n, V⟩ := valid_of hv
    have hlab : ∀ w ∈ rowsOf l, labelP w = true := fun w hw => by
      obtain ⟨k, hk⟩ := List.mem_iff_getElem?.1 hw
      have hk2 : t.2.2.1[k + 1]? = some w := by rw [q7]; exact hk
      have := V.lab (k + 1) (List.getElem?_eq_some_iff.1 hk2).1
      unfold okL condX at this
      rw [hk2] at this
      simp only [Bool.not_eq_true', Bool.or_eq_false_iff, Bool.not_eq_false'] at this
      exact this.1
    have e1 : spl h = [x, y] := by
      have := spl_join (ws := [x, y]) (fun w hw => by
        simp only [List.mem_cons, List.not_mem_nil, or_false] at hw
        rcases hw with rfl | rfl
        · exact ⟨hne q3, fun b hb => .inl (num_bytes q3 b hb)⟩
        · exact ⟨hne q4, fun b hb => .inl (num_bytes q4 b hb)⟩)
      rwa [← q2, join_splitC, q2] at this
    have e2 : spl (unD l) = rowsOf l := spl_rows fun w hw => ⟨fun he => by have := hlab w hw; rw [he] at this; revert this; decide, fun b hb => .inl (label_bytes (hlab w hw) b hb)⟩
    have e3 : spl (unD e) = rowsOf e := spl_rows fun w hw => by
      obtain ⟨a, b, c, w1, w2, w3, w4, _⟩ := okE_cut (q8 w hw)
      have hj := join_splitC 58 w
      rw [w1] at hj
      refine ⟨fun he => ?_, fun z hz => ?_⟩
      · rw [he] at w1
        have := congrArg List.length w1
        have h4 : (splitC 58 ([] : Str)).length = 1 := by decide
        rw [h4] at this
        simp at this
      · rw [← hj] at hz
        rcases mem_join hz with q | ⟨u, hu, hz2⟩
        · exact .inr q
        · simp only [List.mem_cons, List.not_mem_nil, or_false] at hu
          rcases hu with rfl | rfl | rfl
          · exact .inl (num_bytes w2 z hz2)
          · exact .inl (num_bytes w3 z hz2)
          · exact .inl (num_bytes w4 z hz2)
    refine ⟨by rw [e1, hx, hy], by rw [e2, q7]; rfl, by rw [e3]; exact List.all_eq_true.2 q8, by rw [e3, q9], by rw [hx]; exact q3, by rw [hy]; exact q4, by rw [q7]; rfl⟩
  have loop : Ev (fun m => iter (fun (s : (List Str) × (Int)) => (match s with | (xs60, x61) => (if (decide (x61 < (3 : Int))) = true then join (κ := List Str → Option (((List Str) × (Int)) ⊕ (((List Str)) ⊕ ((Timpl_Lts × Bool))))) (fun (xs16183 : List Str) => some (.inl (xs16183, (W (x61 + (1 : Int)))))) (fun K16184 => (idx xs60 x61).bind fun x16186 => (if (x16186 == ([45] : Str)) = true then (idx xs60 x61).bind fun _ => (K16184 (xs60.set x61.toNat ([] : Str))) else (K16184 xs60))) else some (.inr (.inl (xs60)))) : Option (((List Str) × (Int)) ⊕ (((List Str)) ⊕ ((Timpl_Lts × Bool)))))) m ([h, l, e], (1 : Int))) (.inl [h, unD l, unD e]) := by
    refine EvI.ev (EvI.go (s' := ([h, unD l, e], 2)) ?_ (EvI.go (s' := ([h, unD l, unD e], 3)) ?_ (EvI.stop (Ev.ite_f (by decide) (Ev.pure _)))))
    · refine Ev.ite_t (by decide) (Ev.join (Ev.bindc (idx_at (k := 1) (x := l) rfl) ?_))
      unfold unD
      by_cases hd : l = [45]
      · rw [if_pos hd]
        exact Ev.ite_t (by simp [hd]) (Ev.bindc (idx_at (k := 1) (x := l) rfl) (Ev.const rfl))
      · rw [if_neg hd]
        exact Ev.ite_f (by simpa using hd) (Ev.const rfl)
    · refine Ev.ite_t (by decide) (Ev.join (Ev.bindc (idx_at (k := 2) (x := e) rfl) ?_))
      generalize unD l = l'
      unfold unD
      by_cases hd : e = [45]
      · rw [if_pos hd]
        exact Ev.ite_t (by simp [hd]) (Ev.bindc (idx_at (k := 2) (x := e) rfl) (Ev.const rfl))
      · rw [if_neg hd]
        exact Ev.ite_f (by simpa using hd) (Ev.const rfl)
  by_cases hgood : (spl h).all numB = true ∧ (spl (unD e)).all okE = true ∧ (spl h).length = 2
  case neg =>
    refine ⟨zL, Ev.bind (Ev.const' hsp) (Ev.ite_f (by simp) (Ev.bind loop (Ev.ctlL (Ev.bindc (idx_at (k := 0) (x := h) rfl) (Ev.bind (Ev.const' fun m => spl_m (by omega)) (Ev.bind hnum (Ev.bindc (idx_at (k := 2) (x := unD e) rfl) (Ev.bind hedg ?_)))))))), .inr ⟨fun t ht => ?_, rfl⟩⟩
    · by_cases g1 : (spl h).all numB = true
      · rw [if_pos g1]
        by_cases g2 : (spl (unD e)).all okE = true
        · rw [if_pos g2]
          have g3 : (spl h).length ≠ 2 := fun g3 => hgood ⟨g1, g2, g3⟩
          exact Ev.bind (a := false) (Ev.ite_f (by simp) (Ev.const rfl)) (Ev.bind (a := true) (Ev.ite_f (by simp) (Ev.const (by simp; omega))) (Ev.ite_t rfl (Ev.pure _)))
        · rw [if_neg g2]
          exact Ev.bind (a := true) (Ev.ite_f (by simp) (Ev.const rfl)) (Ev.bind (a := true) (Ev.ite_t rfl (Ev.pure _)) (Ev.ite_t rfl (Ev.pure _)))
      · rw [if_neg g1]
        exact Ev.bind (a := true) (Ev.ite_t rfl (Ev.pure _)) (Ev.bind (a := true) (Ev.ite_t rfl (Ev.pure _)) (Ev.ite_t rfl (Ev.pure _)))
    · cases hv : validP t
      · rfl
      · obtain ⟨r1, r2, r3, r4, r5, r6, r7⟩ := hrel t ht hv
        exact absurd ⟨by rw [r1]; simp [r5, r6], r3, by rw [r1]; rfl⟩ hgood
  obtain ⟨g1, g2, g3⟩ := hgood
  obtain ⟨x, y, hxy⟩ : ∃ x y, spl h = [x, y] := by
    match hq : spl h with
    | [a, b] => exact ⟨a, b, rfl⟩
    | [] => rw [hq] at g3; cases g3
    | [_] => rw [hq] at g3; cases g3
    | _ :: _ :: _ :: _ => rw [hq] at g3; simp at g3
  rw [if_pos g1, hxy] at hnum
  rw [if_pos g2] at hedg
  generalize hT : ((numV x, numV y, [116, 97, 117] :: spl (unD l), (spl (unD e)).map rdE) : Timpl_Lts) = T
  have hB : BLts T := by
    subst hT
    refine ⟨?_, fun w hw => ?_, ?_⟩
    · show ([116, 97, 117] :: spl (unD l)).length ≤ 1048576
      rw [List.length_cons]; omega
    · rcases List.mem_cons.1 hw with rfl | hw
      · simp
      · have := pl w hw; omega
    · show ((spl (unD e)).map rdE).length ≤ 1048576
      rw [List.length_map]; omega
  have hvi := valid_impl (t := T) hB.1 hB.2.1 hB.2.2
  have hend : Ev (fun m => (impl_ValidLts_m m T).bind fun x136 => (if (!x136) = true then some true else (impl_LtsText_m m T).bind fun x144 => some (x144 != s)).bind fun t139 => (if t139 = true then some ((((0 : Int), (0 : Int), [], []), false)) else some ((T, true)))) (if validP T = true ∧ ltsT T = s then (T, true) else zL) := by
    refine Ev.bind hvi ?_
    cases hv : validP T
    · rw [if_neg (fun q => by cases q.1)]
      exact Ev.bind (a := true) (Ev.ite_t rfl (Ev.pure _)) (Ev.ite_t rfl (Ev.pure _))
    · obtain ⟨n, V⟩ := valid_of hv
      have htx : Ev (fun m => impl_LtsText_m m T) (ltsT T) := by
        unfold impl_LtsText_m
        rw [hv] at hvi
        exact Ev.bind hvi (Ev.ite_f (by simp) (ltext_impl V hB))
      refine Ev.bind (a := (ltsT T != s)) (Ev.ite_f (by simp) (Ev.bind htx (Ev.pure _))) ?_
      by_cases hts : ltsT T = s
      · exact Ev.eq (r := (T, true)) (Ev.ite_f (by simp [hts]) (Ev.pure _)) (if_pos ⟨rfl, hts⟩).symm
      · exact Ev.eq (r := zL) (Ev.ite_t (by simpa using hts) (Ev.pure _)) (if_neg (fun q => hts q.2)).symm
  refine ⟨if validP T = true ∧ ltsT T = s then (T, true) else zL, Ev.bind (Ev.const' hsp) (Ev.ite_f (by simp) (Ev.bind loop (Ev.ctlL (Ev.bindc (idx_at (k := 0) (x := h) rfl) (Ev.bind (Ev.const' fun m => by rw [spl_m (by omega), hxy]) (Ev.bind hnum (Ev.bindc (idx_at (k := 2) (x := unD e) rfl) (Ev.bind hedg (Ev.bind (a := false) (Ev.ite_f (by simp) (Ev.const rfl)) (Ev.bind (a := false) (Ev.ite_f (by simp) (Ev.const rfl)) (Ev.ite_f (by simp) (Ev.join (Ev.bindc (idx_at (k := 1) (x := unD l) rfl) (Ev.bind (Ev.const' fun m => spl_m (by omega)) (Ev.bindc (app_ok (by simp; omega)) (Ev.bindc (idx_at (k := 0) (x := numV x) rfl) (Ev.bindc (idx_at (k := 1) (x := numV y) rfl) ?_))))))))))))))))), ?_⟩
  · subst hT
    exact hend
  · by_cases hc : validP T = true ∧ ltsT T = s
    · rw [if_pos hc]
      have := text_strict hc.1
      rw [hc.2] at this
      exact .inl ⟨T, this, hc.1, rfl⟩
    · rw [if_neg hc]
      refine .inr ⟨fun t ht => ?_, rfl⟩
      cases hv : validP t
      · rfl
      · exfalso
        obtain ⟨r1, r2, r3, r4, r5, r6, r7⟩ := hrel t ht hv
        rw [hxy] at r1
        have rx : x = Lib.itoa t.1 := by injection r1
        have ry : y = Lib.itoa t.2.1 := by injection r1 with _ r; injection r
        have hTt : T = t := by
          have := text_strict hv
          obtain ⟨n, V⟩ := valid_of hv
          have htop := V.top
          have hst := V.st
          have hini := V.ini
          obtain ⟨t1, t2, t3, t4⟩ := t
          subst hT
          simp only at *
          rw [rx, ry, (small_numB (v := t1) (by omega) (by omega)).2, (small_numB (v := t2) (by omega) (by omega)).2, r2, r4, ← r7]
        exact hc ⟨by rw [hTt]; exact hv, by rw [hTt]; exact strict_text ht⟩
theorem rl_bounds {s : Str} {r : Timpl_Lts × Bool} (hl : s.length ≤ 1048576) (h : RlP s r) : BLts r.1 := by
  rcases h with ⟨t, ht, hv, rfl⟩ | ⟨_, rfl⟩
  · obtain ⟨n, V⟩ := valid_of hv
    have h1 := V.labs
    have h2 := V.few
    obtain ⟨h, l, e, x, y, q1, q2, q3, q4, q5, q6, q7, q8, q9⟩ := ht
    have hll := splitC_piece 124 s l (by rw [q1]; simp)
    refine ⟨by show t.2.2.1.length ≤ _; omega, fun w hw => ?_, by show t.2.2.2.length ≤ _; omega⟩
    have hw : w ∈ t.2.2.1 := hw
    rw [q7] at hw
    rcases List.mem_cons.1 hw with rfl | hw
    · simp
    · unfold rowsOf at hw
      split at hw
      · cases hw
      · have := splitC_piece 32 l w hw
        omega
  · exact ⟨Nat.zero_le _, fun w hw => (by cases hw), Nat.zero_le _⟩
theorem readLts_core {s : Str} (hl : s.length ≤ 1048576) : ∃ r, Ev (fun m => spec_ReadLts_m m s) r ∧ Ev (fun m => impl_ReadLts_m m s) r ∧ BLts r.1 := by
  obtain ⟨r, h1, h2⟩ := rl_spec hl
  obtain ⟨r', h3, h4⟩ := rl_impl hl
  rw [rl_one h4 h2] at h3
  exact ⟨r, h1, h3, rl_bounds hl h2⟩
set_option maxHeartbeats 4000000 in
theorem law_ReadLts {a : Str} (g_a : (gStr) a) : ∃ n, laws_FnExactReadLts_m n a = some true := by
  have hm : maxLen = 9223372036854775807 := by unfold maxLen; rfl
  refine Ev.one (f := fun n => laws_FnExactReadLts_m n a) ?_
  unfold laws_FnExactReadLts_m
  by_cases B_a : (1048576 : Int) < (a.length : Int)
  · exact Ev.ite_t (decide_eq_true B_a) (Ev.pure _)
  refine Ev.ite_f (by simpa using B_a) ?_
  replace B_a : a.length ≤ 1048576 := by omega
  obtain ⟨r, hs, hi, B_r0⟩ := readLts_core B_a
  have eq_r0 := eqB_lts (a := r.1) B_r0
  obtain ⟨k_r0, ys_r0, m_r0, m0_r0, m1_r0, m2_r0⟩ := marksB_lts (k := (1 : Int)) (a := r.1) B_r0 (by omega) (by omega)
  repeat (first
    | exact Ev.pure _
    | refine Ev.bind (by with_reducible assumption) ?_
    | refine Ev.ite_f (by first | (simp; done) | (simp; omega)) ?_
    | refine Ev.bind (Ev.ite_f (by first | (simp; done) | (simp; omega)) (Ev.bind (by with_reducible assumption) (Ev.pure _))) ?_
    | refine Ev.bind (a := false) (Ev.ite_f (by first | (simp; done) | (simp; omega)) (Ev.const (by simp))) ?_
    | refine Ev.bind (a := false) (Ev.ite_f (by first | (simp; done) | (simp; omega)) (Ev.bind (by with_reducible assumption) (Ev.const (by simp)))) ?_
    | refine Ev.bindc (by with_reducible rfl) ?_)
end Go.Proofs.YtlmopoaeekhmeaaGreatDoor

