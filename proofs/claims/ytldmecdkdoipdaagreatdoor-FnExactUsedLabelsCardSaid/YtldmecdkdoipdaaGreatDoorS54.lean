/-
  The plain laws of a statement, joined into one text.
-/
import Derived.Test.YtldmecdkdoipdaaGreatDoorF0
import Derived.Test.YtldmecdkdoipdaaGreatDoorF1
import Derived.Test.YtldmecdkdoipdaaGreatDoorF2
import Derived.Test.YtldmecdkdoipdaaGreatDoorF3
import Derived.Test.YtldmecdkdoipdaaGreatDoorF4
import Derived.Test.YtldmecdkdoipdaaGreatDoorF5
import Derived.Test.YtldmecdkdoipdaaGreatDoorF6
import Derived.Test.YtldmecdkdoipdaaGreatDoorFS
import Derived.Test.YtldmecdkdoipdaaGreatDoorGxI
import Derived.Test.YtldmecdkdoipdaaGreatDoorGxKm
import Derived.Test.YtldmecdkdoipdaaGreatDoorGxP
import Derived.Test.YtldmecdkdoipdaaGreatDoorGxT
import Derived.Test.YtldmecdkdoipdaaGreatDoorGxU
import Derived.Test.YtldmecdkdoipdaaGreatDoorGxZ
import Derived.Test.YtldmecdkdoipdaaGreatDoorLUsedLabels
namespace Go.Proofs.YtldmecdkdoipdaaGreatDoor
open Go.Gx
theorem l00In_eq {n : Nat} {a b c : Int} : spec_l00In_m n a b c = some (decide (b ≤ a) && decide (a ≤ c)) := by
  unfold spec_l00In_m
  by_cases h : b ≤ a <;> simp [h]
theorem within_eq {n : Nat} {a b c : Int} : impl_within_m n a b c = some (decide (b ≤ a) && decide (a ≤ c)) := by
  unfold impl_within_m
  by_cases h : b ≤ a <;> simp [h]
theorem index_eq {n : Nat} {a b : Int} : impl_index_m n a b = some (decide (0 ≤ a) && decide (a ≤ W (b - 1))) := by
  unfold impl_index_m
  simp [within_eq]


/-! ### changes of the sign -/
/-! ### marks -/
/-! ### the blocks -/
/-! ### places in a list -/
def pos (xs : List Int) (c : Int) : Int := match xs.findIdx? (· == c) with
  | some k => (k : Int)
  | none => -1

/-! ### letters and names -/
def small (b : UInt8) : Bool := decide ((97 : Int) ≤ (b.toNat : Int)) && decide ((b.toNat : Int) ≤ 122)
def dg (b : UInt8) : Bool := decide ((48 : Int) ≤ (b.toNat : Int)) && decide ((b.toNat : Int) ≤ 57)
theorem dg_eq (b : UInt8) : dg b = isDig b := by
  unfold dg isDig
  rw [show decide ((48 : Int) ≤ (b.toNat : Int)) = decide (48 ≤ b.toNat) from decide_eq_decide.2 (by omega), show decide ((b.toNat : Int) ≤ 57) = decide (b.toNat ≤ 57) from decide_eq_decide.2 (by omega)]
theorem small_m {m : Nat} {b : UInt8} : spec_l01Small_m m (b.toNat : Int) = some (small b) := by unfold spec_l01Small_m; rw [and_some]; rfl
theorem dg_m {m : Nat} {b : UInt8} : spec_l01Digit_m m (b.toNat : Int) = some (dg b) := by unfold spec_l01Digit_m; rw [and_some]; rfl
theorem idg_m {m : Nat} {b : UInt8} : impl_isDigit_m m (b.toNat : Int) = some (dg b) := by unfold impl_isDigit_m; rw [and_some]; rfl

def okN (s : Str) (k : Nat) : Bool := match s[k]? with
  | none => true
  | some b => !(!(small b) && (((k : Int) == 0) || !(dg b)))
def okS (s : Str) (k : Nat) : Bool := match s[k]? with
  | none => true
  | some b => !(!(small b) && !(dg b))
def nameP (s : Str) : Bool := decide (1 ≤ s.length) && decide (s.length ≤ 10) && decide (∀ k, k < s.length → okN s k = true)
def actP (s : Str) : Bool := nameP s && (s != [116, 97, 117])

theorem name_impl {s : Str} (hl : s.length ≤ maxLen) : Ev (fun m => impl_IsName_m m s) (nameP s) := by
  have hm := maxLen_le
  unfold impl_IsName_m
  refine Ev.bind (EvI.all s.length (okN s) false (fun k hk hok => Ev.const' fun m => ?_) (fun k hk hok => Ev.const' fun m => ?_) (Ev.ite_f (by simp) (Ev.pure _))).ev (Ev.const ?_)
  · obtain ⟨b, hb⟩ := get_lt hk
    have hk' : decide ((k : Int) < (s.length : Int)) = true := by simpa using hk
    simp only [okN, hb] at hok
    have e : (!(small b) && (((k : Int) == 0) || !(dg b))) = false := by rwa [Bool.not_eq_true'] at hok
    unfold small at e
    simp only [hk', if_true, idx_at hb, Option.bind_some, and_some, idg_m, or_some, e, W_succ hk (by omega)]
    rfl
  · obtain ⟨b, hb⟩ := get_lt hk
    have hk' : decide ((k : Int) < (s.length : Int)) = true := by simpa using hk
    simp only [okN, hb] at hok
    have e : (!(small b) && (((k : Int) == 0) || !(dg b))) = true := by rwa [Bool.not_eq_false'] at hok
    unfold small at e
    simp only [hk', if_true, idx_at hb, Option.bind_some, and_some, idg_m, or_some, e]
  · unfold nameP
    rw [show decide (1 ≤ s.length) = decide ((1 : Int) ≤ (s.length : Int)) from decide_eq_decide.2 (by omega), show decide (s.length ≤ 10) = decide ((s.length : Int) ≤ 10) from decide_eq_decide.2 (by omega)]
    by_cases h : ∀ k, k < s.length → okN s k = true
    · rw [if_pos h, ctl_l, decide_eq_true h, Bool.and_true, and_some]; rfl
    · rw [if_neg h, ctl_r, decide_eq_false h, Bool.and_false]

theorem name_all {s : Str} {b : UInt8} {r : Str} (e : s = b :: r) : (∀ k, k < s.length → okN s k = true) ↔ small b = true ∧ ∀ k, k < s.length → okS s k = true := by
  subst e
  constructor
  · intro h
    have h0 := h 0 (by simp)
    simp [okN] at h0
    refine ⟨h0, fun k hk => ?_⟩
    have h1 := h k hk
    obtain ⟨c, hc⟩ := get_lt hk
    simp only [okN, okS, hc] at h1 ⊢
    cases hs : small c <;> cases hd : dg c <;> simp [hs, hd] at h1 ⊢
  · rintro ⟨h0, h⟩ k hk
    have h1 := h k hk
    obtain ⟨c, hc⟩ := get_lt hk
    simp only [okN, okS, hc] at h1 ⊢
    cases k with
    | zero => have : b = c := by simpa using hc
              subst this; simp [h0]
    | succ j =>
      have : (((j + 1 : Nat) : Int) == 0) = false := beq_false_of_ne (by omega)
      rw [this]
      simpa using h1

theorem name_spec {s : Str} (_hl : s.length ≤ maxLen) : Ev (fun m => spec_l01Name_m m s) (nameP s) := by
  have hm := maxLen_le
  unfold spec_l01Name_m
  cases hs : s with
  | nil => exact (Ev.const' fun m => rfl : Ev (fun m => _) false)
  | cons b r =>
    rw [← hs]
    have h1 : (s == ([] : Str)) = false := by rw [hs]; rfl
    have hb : s[0]? = some b := by rw [hs]; rfl
    simp only [h1, or_some, Option.bind_some, Bool.false_or]
    by_cases h2 : 10 < s.length
    · have h2' : decide ((10 : Int) < (s.length : Int)) = true := decide_eq_true (by omega)
      simp only [h2', if_true, Option.bind_some]
      refine (Ev.pure _).eq ?_
      unfold nameP
      rw [decide_eq_false (show ¬ s.length ≤ 10 by omega)]
      simp
    · have h2' : decide ((10 : Int) < (s.length : Int)) = false := decide_eq_false (by omega)
      have hi : idx s (0 : Int) = some b := idx_at (k := 0) hb
      simp only [h2', Bool.false_eq_true, if_false, hi, Option.bind_some, small_m]
      have hN := name_all hs
      have hlen : 1 ≤ s.length := by rw [hs]; simp
      cases h3 : small b with
      | false =>
        refine (Ev.ite_t (by rfl) (Ev.pure _)).eq ?_
        unfold nameP
        have : ¬ ∀ k, k < s.length → okN s k = true := fun h => by have := (hN.1 h).1; rw [h3] at this; cases this
        rw [decide_eq_false this, Bool.and_false]
      | true =>
        refine Ev.ite_f (by simp) ?_
        refine (Ev.all s.length (okS s) false true (fun k hk hok => Ev.const' fun m => ?_) (fun k hk hok => Ev.const' fun m => ?_) (Ev.ite_f (by simp) (Ev.pure _))).eq ?_
        · obtain ⟨c, hc⟩ := get_lt hk
          have hk' : decide ((k : Int) < (s.length : Int)) = true := by simpa using hk
          simp only [okS, hc] at hok
          have e : (!(small c) && !(dg c)) = false := by rwa [Bool.not_eq_true'] at hok
          simp only [hk', if_true, idx_at hc, Option.bind_some, dg_m, and_some, e, W_succ hk (by omega)]
          rfl
        · obtain ⟨c, hc⟩ := get_lt hk
          have hk' : decide ((k : Int) < (s.length : Int)) = true := by simpa using hk
          simp only [okS, hc] at hok
          have e : (!(small c) && !(dg c)) = true := by rwa [Bool.not_eq_false'] at hok
          simp only [hk', if_true, idx_at hc, Option.bind_some, dg_m, and_some, e]
        · unfold nameP
          rw [decide_eq_true hlen, decide_eq_true (show s.length ≤ 10 by omega)]
          by_cases h : ∀ k, k < s.length → okS s k = true
          · rw [if_pos h, decide_eq_true (hN.2 ⟨h3, h⟩)]; rfl
          · rw [if_neg h, decide_eq_false (fun h' => h (hN.1 h').2)]; rfl

theorem act_impl {s : Str} (hl : s.length ≤ maxLen) : Ev (fun m => impl_IsAction_m m s) (actP s) := by
  unfold impl_IsAction_m
  exact Ev.bind (name_impl hl) (Ev.const (by rw [and_some]; rfl))
theorem act_spec {s : Str} (hl : s.length ≤ maxLen) : Ev (fun m => spec_l01Action_m m s) (actP s) := by
  unfold spec_l01Action_m
  exact Ev.bind (name_spec hl) (Ev.const (by rw [and_some]; rfl))

/-! ### numbers -/
def numV (w : Str) : Int := (num w).getD 0
def numB (w : Str) : Bool := (num w).isSome
theorem dec_m {m : Nat} {n : Int} (h1 : -9223372036854775808 ≤ n) (h2 : n ≤ 9223372036854775807) : impl_Decimal_m m n = some (Lib.itoa n) := by
  unfold impl_Decimal_m strconv_FormatInt_m
  rw [if_pos ⟨rfl, h1, h2⟩]
  rfl
theorem read_dec {m : Nat} {w : Str} (hl : w.length ≤ 281474976710656) : impl_ReadDecimal_m m w = some (numV w, numB w) := by
  unfold impl_ReadDecimal_m strings_TrimPrefix_m
  rw [if_pos trivial]
  simp only [Option.bind_some]
  unfold numV numB
  rw [← rdDec_eq]
  unfold rdDec
  by_cases h : 18 < (Lib.trimPrefix w [45]).length
  · rw [if_pos h, if_pos (decide_eq_true (by omega))]; rfl
  · rw [if_neg h, if_neg (by rw [decide_eq_false (by omega)]; simp)]
    unfold strconv_ParseInt_m
    rw [if_pos ⟨rfl, rfl, hl⟩]
    cases hp : Lib.parseIntB 64 w with
    | ok v =>
      obtain ⟨h1, h2⟩ := parse_range hp
      simp only [Option.bind_some, dec_m h1 h2, Bool.false_eq_true, if_false]
      by_cases hi : Lib.itoa v = w
      · simp [hi]
      · have : (Lib.itoa v != w) = true := by simpa using hi
        simp [hi, this]
    | range => rfl
    | _ => rfl

theorem drop_take_succ {s : Str} {k i : Nat} {b : UInt8} (h : s[k]? = some b) (hi : i ≤ k) : (s.take (k + 1)).drop i = (s.take k).drop i ++ [b] := by
  rw [List.take_add_one, h, List.drop_append_of_le_length (by
    have : k < s.length := by
      rcases Nat.lt_or_ge k s.length with h' | h'
      · exact h'
      · rw [List.getElem?_eq_none h'] at h; cases h
    simp; omega)]
  rfl

theorem digits_loop {w : Str} (hl : w.length ≤ maxLen) {i : Nat} (hi : i ≤ w.length) (h18 : w.length - i ≤ 18) :
    Ev (fun m => iter (fun (s : (Int) × (Int)) => (match s with | (x59, x60) => (if (decide (x60 < (w.length : Int))) = true then (idx w x60).bind fun b88 => (spec_l01Digit_m m (b88.toNat : Int)).bind fun x92 => (if (!x92) = true then some (.inr (.inr ((0 : Int), false))) else (idx w x60).bind fun b96 => some (.inl ((W ((W ((10 : Int) * x59)) + (W (IntKind.u8.wrap ((b96.toNat : Int) - (48 : Int)))))), (W (x60 + (1 : Int)))))) else some (.inr (.inl (x59)))) : Option (((Int) × (Int)) ⊕ ((Int) ⊕ ((Int × Bool)))))) m ((0 : Int), (i : Int)))
      (if (w.drop i).all isDig = true then .inl (valN (w.drop i) : Int) else .inr ((0 : Int), false)) := by
  have hm := maxLen_le
  refine Exists.elim (EvI.count (step := fun m (s : (Int) × (Int)) => (match s with | (x59, x60) => (if (decide (x60 < (w.length : Int))) = true then (idx w x60).bind fun b88 => (spec_l01Digit_m m (b88.toNat : Int)).bind fun x92 => (if (!x92) = true then some (.inr (.inr ((0 : Int), false))) else (idx w x60).bind fun b96 => some (.inl ((W ((W ((10 : Int) * x59)) + (W (IntKind.u8.wrap ((b96.toNat : Int) - (48 : Int)))))), (W (x60 + (1 : Int)))))) else some (.inr (.inl (x59)))) : Option (((Int) × (Int)) ⊕ ((Int) ⊕ ((Int × Bool))))))
    w.length (fun k (_ : Unit) => ((valN ((w.take k).drop i) : Int), (k : Int))) (fun k _ => i ≤ k ∧ ((w.take k).drop i).all isDig = true)
    (fun r => r = (if (w.drop i).all isDig = true then .inl (valN (w.drop i) : Int) else .inr ((0 : Int), false))) ?hs ?hn hi (t := ()) ⟨Nat.le_refl _, by rw [List.drop_take_self]; rfl⟩) (fun res ⟨h1, h2⟩ => by
    subst h2
    rw [List.drop_take_self] at h1
    exact h1.ev)
  · rintro k t hk ⟨hik, hI⟩
    obtain ⟨b, hb⟩ := get_lt hk
    have hk' : decide ((k : Int) < (w.length : Int)) = true := by simpa using hk
    cases hd : isDig b with
    | true =>
      refine .inl ⟨(), Ev.const' fun m => ?_, by omega, ?_⟩
      · simp only [hk', if_true, idx_at hb, Option.bind_some, dg_m, dg_eq, hd, Bool.not_true, Bool.false_eq_true, if_false, W_succ hk (by omega)]
        have hb2 := dig_le hd
        have hv : valN ((w.take k).drop i) < 10 ^ 18 := val_small (by simp; omega) hI
        have hv2 : valN ((w.take (k + 1)).drop i) < 10 ^ 18 := val_small (by simp; omega) (by rw [drop_take_succ hb hik, List.all_append, hI]; simp [hd])
        rw [drop_take_succ hb hik, valN_snoc] at hv2 ⊢
        have e1 : IntKind.u8.wrap ((b.toNat : Int) - 48) = ((b.toNat - 48 : Nat) : Int) := by
          unfold IntKind.wrap
          simp [IntKind.signed, IntKind.bits]
          omega
        rw [e1, W_of (n := ((b.toNat - 48 : Nat) : Int)) (by omega) (by omega), W_of (n := 10 * (valN ((w.take k).drop i) : Int)) (by omega) (by omega), W_of (by omega) (by omega)]
        congr 3
      · rw [drop_take_succ hb hik, List.all_append, hI]; simp [hd]
    | false =>
      refine .inr ⟨.inr ((0 : Int), false), Ev.const' fun m => ?_, ?_⟩
      · simp only [hk', if_true, idx_at hb, Option.bind_some, dg_m, dg_eq, hd, Bool.not_false]
      · rw [if_neg]
        intro h
        rw [List.all_eq_true] at h
        have : b ∈ w.drop i := by
          have : (w.drop i)[k - i]? = some b := by rw [List.getElem?_drop, show i + (k - i) = k by omega]; exact hb
          exact List.mem_of_getElem? this
        rw [h b this] at hd
        cases hd
  · rintro t ⟨hik, hI⟩
    refine ⟨.inl (valN (w.drop i) : Int), Ev.const' fun m => ?_, ?_⟩
    · rw [List.take_length] at *
      simp
    · rw [List.take_length] at hI
      rw [if_pos hI]


def numRes (w : Str) (i : Nat) : Int × Bool :=
  if w.length = i ∨ 18 < w.length - i ∨ ((w.drop i).head? = some 48 ∧ 1 < w.length) then (0, false)
  else if (w.drop i).all isDig = true then (if i = 1 then -(valN (w.drop i) : Int) else (valN (w.drop i) : Int), true) else (0, false)

theorem num_body {w : Str} (hl : w.length ≤ maxLen) {i : Nat} {x : Int} (hx : x = (i : Int)) (hi : i ≤ w.length) :
    Ev (fun fuel => (if ((w.length : Int) == x) = true then some true else some (decide ((18 : Int) < (W ((w.length : Int) - x))))).bind fun t34 => (if t34 = true then some true else (idx w x).bind fun b40 => (if ((b40.toNat : Int) == (48 : Int)) = true then some (decide ((1 : Int) < (w.length : Int))) else some false).bind fun t42 => some t42).bind fun t37 => (if t37 = true then some (((0 : Int), false)) else (iter (fun (s : (Int) × (Int)) => (match s with | (x59, x60) => (if (decide (x60 < (w.length : Int))) = true then (idx w x60).bind fun b88 => (spec_l01Digit_m fuel (b88.toNat : Int)).bind fun x92 => (if (!x92) = true then some (.inr (.inr ((0 : Int), false))) else (idx w x60).bind fun b96 => some (.inl ((W ((W ((10 : Int) * x59)) + (W (IntKind.u8.wrap ((b96.toNat : Int) - (48 : Int)))))), (W (x60 + (1 : Int)))))) else some (.inr (.inl (x59)))) : Option (((Int) × (Int)) ⊕ ((Int) ⊕ ((Int × Bool)))))) fuel ((0 : Int), x)).bind fun res75 => ctl (β := Int) (ρ := (Int × Bool)) (τ := (Int × Bool)) res75 (fun (x74) => join (κ := Int → Option (Int × Bool)) (fun (x80 : Int) => some ((x80, true))) (fun K81 => (if (x == (1 : Int)) = true then (K81 (W (0 - x74))) else (K81 x74)))) (fun q => some (q)))) (numRes w i) := by
  have hm := maxLen_le
  subst hx
  unfold numRes
  by_cases h1 : w.length = i
  · have e1 : ((w.length : Int) == (i : Int)) = true := by rw [h1]; simp
    exact Ev.eq (r := ((0 : Int), false)) (Ev.const' fun m => by simp only [e1, if_true, Option.bind_some]) (if_pos (.inl h1)).symm
  · have e1 : ((w.length : Int) == (i : Int)) = false := beq_false_of_ne (by omega)
    have w1 : W ((w.length : Int) - (i : Int)) = (w.length : Int) - (i : Int) := W_of (by omega) (by omega)
    simp only [e1, Bool.false_eq_true, if_false, Option.bind_some, w1]
    by_cases h2 : 18 < w.length - i
    · have e2 : decide ((18 : Int) < (w.length : Int) - (i : Int)) = true := decide_eq_true (by omega)
      exact Ev.eq (r := ((0 : Int), false)) (Ev.const' fun m => by simp only [e2, if_true, Option.bind_some]) (if_pos (.inr (.inl h2))).symm
    · have e2 : decide ((18 : Int) < (w.length : Int) - (i : Int)) = false := decide_eq_false (by omega)
      obtain ⟨b, hb⟩ := get_lt (xs := w) (k := i) (by omega)
      have hh : (w.drop i).head? = some b := by rw [List.head?_drop]; exact hb
      simp only [e2, Bool.false_eq_true, if_false, idx_at hb, Option.bind_some, and_some]
      by_cases h3 : b = 48 ∧ 1 < w.length
      · have e3 : ((((b.toNat : Int) == 48) && decide ((1 : Int) < (w.length : Int)))) = true := by
          rw [h3.1, decide_eq_true (by omega : (1 : Int) < (w.length : Int))]; rfl
        exact Ev.eq (r := ((0 : Int), false)) (Ev.ite_t e3 (Ev.pure _)) (if_pos (.inr (.inr ⟨by rw [hh, h3.1], h3.2⟩))).symm
      · have e3 : ¬ ((((b.toNat : Int) == 48) && decide ((1 : Int) < (w.length : Int)))) = true := by
          intro h
          rw [Bool.and_eq_true] at h
          refine h3 ⟨?_, by have := of_decide_eq_true h.2; omega⟩
          have := beq_iff_eq.1 h.1
          exact UInt8.toNat_inj.1 (show b.toNat = 48 by omega)
        refine Ev.eq ?_ (if_neg (by
          rintro (h | h | ⟨h, h'⟩)
          · exact h1 h
          · exact h2 h
          · rw [hh] at h; exact h3 ⟨by simpa using h, h'⟩)).symm
        refine Ev.ite_f e3 (Ev.bind (digits_loop hl hi (by omega)) (Ev.const ?_))
        by_cases hd : (w.drop i).all isDig = true
        · have hv := val_small (ds := w.drop i) (by simp; omega) hd
          rw [if_pos hd, if_pos hd, ctl_l]
          show (if ((i : Int) == (1 : Int)) = true then some (W (0 - (valN (w.drop i) : Int)), true) else some ((valN (w.drop i) : Int), true)) = _
          by_cases hi1 : i = 1
          · subst hi1
            rw [if_pos (by rfl), if_pos rfl, W_of (by omega) (by omega)]
            congr 2
            omega
          · rw [if_neg (by intro h; have := beq_iff_eq.1 h; omega), if_neg hi1]
        · rw [if_neg hd, if_neg hd, ctl_r]

theorem num_minus (r : Str) : num (45 :: r) = if okD r = true ∧ r.head? ≠ some 48 then some (-(valN r : Int)) else none := by
  unfold num
  rw [if_pos (show (45 :: r : Str).head? = some 45 from rfl)]
  rfl
theorem numRes_neg (r : Str) : numRes (45 :: r) 1 = (numV (45 :: r), numB (45 :: r)) := by
  unfold numRes numV numB
  rw [num_minus]
  simp only [List.drop_succ_cons, List.drop_zero, List.length_cons, Nat.add_sub_cancel, if_true]
  by_cases h : okD r = true ∧ r.head? ≠ some 48
  · obtain ⟨h1, h2, h3⟩ := okD_iff.1 h.1
    have hp := List.length_pos_iff.2 h1
    rw [if_pos h, if_neg (by rintro (g | g | ⟨g, _⟩) <;> first | omega | exact h.2 g), if_pos h3]
    rfl
  · rw [if_neg h]
    split
    · rfl
    · rename_i hc
      split
      · rename_i hd
        exfalso
        apply h
        refine ⟨okD_iff.2 ⟨fun e => hc (.inl (by rw [e]; rfl)), by omega, hd⟩, fun e => hc (.inr (.inr ⟨e, ?_⟩))⟩
        cases r with
        | nil => cases e
        | cons _ _ => simp
      · rfl
theorem numRes_pos {w : Str} (hw : w.head? ≠ some 45) : numRes w 0 = (numV w, numB w) := by
  unfold numRes numV numB num
  rw [if_neg hw]
  simp only [List.drop_zero, Nat.sub_zero, Nat.zero_ne_one, if_false]
  by_cases h : okD w = true ∧ (w.head? ≠ some 48 ∨ w.length = 1)
  · obtain ⟨h1, h2, h3⟩ := okD_iff.1 h.1
    have hp := List.length_pos_iff.2 h1
    rw [if_pos h, if_neg (by rintro (g | g | ⟨g, g'⟩) <;> first | omega | exact h.2.elim (fun x => x g) (fun x => by omega)), if_pos h3]
    rfl
  · rw [if_neg h]
    split
    · rfl
    · rename_i hc
      split
      · rename_i hd
        exfalso
        apply h
        have hp : 0 < w.length := by
          rcases Nat.eq_zero_or_pos w.length with g | g
          · exact absurd (.inl g) hc
          · exact g
        refine ⟨okD_iff.2 ⟨fun e => hc (.inl (by rw [e]; rfl)), by omega, hd⟩, ?_⟩
        by_cases g : w.head? = some 48
        · right
          rcases Nat.lt_or_ge 1 w.length with g' | g'
          · exact absurd (.inr (.inr ⟨g, g'⟩)) hc
          · omega
        · exact .inl g
      · rfl

theorem num_spec {w : Str} (hl : w.length ≤ maxLen) : Ev (fun m => spec_l01Number_m m w) (numV w, numB w) := by
  have hm := maxLen_le
  unfold spec_l01Number_m
  refine Ev.join ?_
  cases hw : w with
  | nil => 
    rw [← hw]
    have e : decide ((0 : Int) < (w.length : Int)) = false := by rw [hw]; rfl
    simp only [e, Bool.false_eq_true, if_false, Option.bind_some]
    exact (num_body hl (i := 0) (x := 0) rfl (Nat.zero_le _)).eq (numRes_pos (by rw [hw]; simp))
  | cons b r =>
    rw [← hw]
    have e : decide ((0 : Int) < (w.length : Int)) = true := by rw [hw]; simp
    have hb : idx w (0 : Int) = some b := idx_at (k := 0) (by rw [hw]; rfl)
    refine Ev.bindc (a := ((b.toNat : Int) == (45 : Int))) (by simp only [e, if_true, hb, Option.bind_some]) ?_
    by_cases h : b = 45
    · subst h
      refine Ev.ite_t (by rfl) ?_
      exact (num_body hl (i := 1) (x := 1) rfl (by rw [hw]; simp)).eq (by rw [hw]; exact numRes_neg r)
    · refine Ev.ite_f (fun g => h ?_) ?_
      · have := beq_iff_eq.1 g
        exact UInt8.toNat_inj.1 (show b.toNat = 45 by omega)
      · exact (num_body hl (i := 0) (x := 0) rfl (Nat.zero_le _)).eq (numRes_pos (by rw [hw]; simpa using h))
theorem mx : 4294967296 ≤ maxLen ∧ maxLen ≤ 9223372036854775807 := by unfold maxLen; omega

/-! ### the library's functions -/
theorem split_lib {m : Nat} {s : Str} (hl : s.length < 4294967281) : strings_Split_m m s [44] = some (splitC 44 s) := by
  unfold strings_Split_m
  have hc : Lib.countB ⟨s.toArray⟩ ⟨([44] : Str).toArray⟩ = Lib.count s [44] := rfl
  have h3 := Lib.splitB_all ⟨([44] : Str).toArray⟩ (by decide) 0 _ ⟨s.toArray⟩ rfl
  have h4 := Lib.countB_le ⟨([44] : Str).toArray⟩ (by decide) _ ⟨s.toArray⟩ (Nat.le_refl _)
  have h5 : (⟨s.toArray⟩ : ByteArray).size = s.length := size_sv s
  have h6 := mx
  rw [if_pos ⟨hl, by decide, h3, by omega⟩, Lib.splitB_data]
  exact congrArg some (splitK_eq 44 s)
theorem cut_lib {m : Nat} {s : Str} (hl : s.length < 4294967281) : strings_Cut_m m s [40] = some (if (40 : UInt8) ∈ s then (pre 40 s, suf 40 s, true) else (s, [], false)) := by
  unfold strings_Cut_m
  rw [if_pos hl, cut_one]
theorem trimS_lib {m : Nat} {s : Str} (hl : s.length < 4294967281) : strings_TrimSuffix_m m s [41] = some (if s.getLast? = some 41 then s.dropLast else s) := by
  unfold strings_TrimSuffix_m
  rw [if_pos (by omega), suf_one]

/-! ### splitting -/
theorem splitC_snoc_eq (c : UInt8) : ∀ s : Str, splitC c (s ++ [c]) = splitC c s ++ [[]]
  | [] => by simp [splitC]
  | a :: r => by
    have ih := splitC_snoc_eq c r
    rw [List.cons_append]
    unfold splitC
    rw [ih]
    split
    · rfl
    · cases hr : splitC c r with
      | nil => exact absurd hr (splitC_ne c r)
      | cons x t => rfl
theorem splitC_snoc_ne {c b : UInt8} (hb : b ≠ c) : ∀ (s : Str) (o : List Str) (l : Str), splitC c s = o ++ [l] → splitC c (s ++ [b]) = o ++ [l ++ [b]]
  | [], o, l, h => by
    have h' : [([] : Str)] = o ++ [l] := h
    have : o = [] := by
      cases o with
      | nil => rfl
      | cons _ t => simp at h'
    subst this
    have : l = [] := by simpa using h'.symm
    subst this
    simp [splitC, hb]
  | a :: r, o, l, h => by
    rw [List.cons_append]
    unfold splitC at h ⊢
    by_cases ha : a = c
    · rw [if_pos ha] at h ⊢
      cases o with
      | nil =>
        exfalso
        have : splitC c r = [] := by simpa using (List.cons.inj h).2
        exact splitC_ne c r this
      | cons x o' =>
        rw [List.cons_append] at h ⊢
        obtain ⟨h1, h2⟩ := List.cons.inj h
        rw [← h1, splitC_snoc_ne hb r o' l h2]
    · rw [if_neg ha] at h ⊢
      rcases snoc_or (splitC c r) with hr | ⟨o', l', hr⟩
      · exact absurd hr (splitC_ne c r)
      · have ih := splitC_snoc_ne hb r o' l' hr
        rw [ih]
        rw [hr] at h
        cases o' with
        | nil =>
          simp only [List.nil_append, List.headD_cons, List.tail_cons] at h ⊢
          have : o = [] := by
            cases o with
            | nil => rfl
            | cons _ t => simp at h
          subst this
          have : l = a :: l' := by simpa using h.symm
          subst this
          rfl
        | cons x o'' =>
          simp only [List.cons_append, List.headD_cons, List.tail_cons] at h ⊢
          cases o with
          | nil => simp at h
          | cons y o3 =>
            rw [List.cons_append] at h ⊢
            obtain ⟨h1, h2⟩ := List.cons.inj h
            obtain ⟨h3, h4⟩ := List.append_inj' h2 rfl
            have : l' = l := by simpa using h4
            rw [h1, h3, this]

theorem split_spec {s : Str} (hl : s.length < 4294967281) : Ev (fun m => spec_l01Split_m m s 44) (splitC 44 s) := by
  have hm := mx
  unfold spec_l01Split_m
  refine Exists.elim (EvI.count (step := _) s.length (fun k (t : List Str × Nat) => (t.1, (t.2 : Int), (k : Int))) (fun k t => t.2 ≤ k ∧ splitC 44 (s.take k) = t.1 ++ [(s.take k).drop t.2])
    (fun r => ∃ (o : List Str) (f : Nat), r = .inl (o, (f : Int)) ∧ f ≤ s.length ∧ splitC 44 s = o ++ [s.drop f]) ?_ ?_ (k := 0) (t := ([], 0)) (Nat.zero_le _) ⟨Nat.le_refl _, rfl⟩)
    (fun res ⟨h1, o, f, h2, h3, h4⟩ => Ev.bind h1.ev (by
      subst h2
      have hlen : o.length ≤ s.length + 1 := by
        have := splitC_len 44 s
        rw [h4] at this
        simp at this
        omega
      rw [h4]
      have hs : sub s (f : Int) (s.length : Int) = some (s.drop f) := by rw [sub_ok h3 (Nat.le_refl _), List.take_length]
      exact Ev.bindc hs (Ev.bindc (app_ok (by simp; omega)) (Ev.pure _))))
  · rintro k ⟨o, f⟩ hk ⟨hf, hI⟩
    have hf : f ≤ k := hf
    have hI : splitC 44 (s.take k) = o ++ [(s.take k).drop f] := hI
    obtain ⟨b, hb⟩ := get_lt hk
    have hk' : decide ((k : Int) < (s.length : Int)) = true := by simpa using hk
    have htk : s.take (k + 1) = s.take k ++ [b] := by rw [List.take_add_one, hb]; rfl
    left
    by_cases h : b = 44
    · subst h
      have hlen : o.length ≤ s.length := by
        have := splitC_len 44 (s.take k)
        rw [hI] at this
        simp at this
        omega
      refine ⟨(o ++ [(s.take k).drop f], k + 1), Ev.ite_t hk' (Ev.join (Ev.bindc (idx_at hb) (Ev.ite_t (by rfl) (Ev.bindc (sub_ok hf (by omega)) (Ev.bindc (app_ok (by simp; omega)) (Ev.const ?_)))))), Nat.le_refl _, ?_⟩
      · rw [W_succ hk (by omega)]
      · show splitC 44 (s.take (k + 1)) = _
        rw [htk, splitC_snoc_eq, hI]
        congr 2
        rw [List.drop_eq_nil_of_le (by simp; omega)]
    · refine ⟨(o, f), Ev.ite_t hk' (Ev.join (Ev.bindc (idx_at hb) (Ev.ite_f ?_ (Ev.const ?_)))), by show f ≤ k + 1; omega, ?_⟩
      · intro g
        have := beq_iff_eq.1 g
        exact h (UInt8.toNat_inj.1 (show b.toNat = 44 by omega))
      · rw [W_succ hk (by omega)]
      · show splitC 44 (s.take (k + 1)) = o ++ [(s.take (k + 1)).drop f]
        rw [htk, splitC_snoc_ne h _ _ _ hI, List.drop_append_of_le_length (by simp; omega)]
  · rintro ⟨o, f⟩ ⟨hf, hI⟩
    refine ⟨_, Ev.ite_f (by simp) (Ev.pure _), o, f, rfl, hf, ?_⟩
    rw [List.take_length] at hI
    exact hI

/-! ### lists of numbers -/
theorem fill_iter {α β ρ : Type} {to' : Nat → α → Option β} {f : α → β} {a : List α} {z : β} (hto : ∀ x ∈ a, Ev (fun n => to' n x) (f x)) (hl : a.length ≤ 1048576) :
    EvI (fun n (s : (List β) × (Int)) => (match s with | (xs35, x36) => (if (decide (x36 < (a.length : Int))) = true then (idx a x36).bind fun x75 => (to' n x75).bind fun x92 => (idx xs35 x36).bind fun _ => some (.inl ((xs35.set x36.toNat x92), (W (x36 + (1 : Int))))) else some (.inr (.inl (xs35)))) : Option (((List β) × (Int)) ⊕ (((List β)) ⊕ (ρ))))) (List.replicate a.length z, (0 : Int)) (.inl (a.map f)) := by
  refine EvI.upto a.length (fun k (t : List β) => (t, (k : Int))) (fun k t => t = (a.take k).map f ++ List.replicate (a.length - k) z) (k := 0) (t := List.replicate a.length z) rfl (Nat.zero_le _) (by simp) (fun k t hk ht => ?_) (fun t ht => ?_)
  · obtain ⟨x, hx⟩ : ∃ x, a[k]? = some x := ⟨a[k], List.getElem?_eq_getElem hk⟩
    have hlen : ((a.take k).map f).length = k := by simp; omega
    have hi : t[k]? = some z := by
      rw [ht, List.getElem?_append_right (by omega), hlen, List.getElem?_replicate, if_pos (by omega)]
    refine ⟨_, (Ev.ite_t (by simpa using hk) (Ev.bindc (idx_at hx) (Ev.bind (hto x (List.mem_of_getElem? hx)) (Ev.bindc (idx_at hi) (Ev.pure (Sum.inl (t.set (k : Int).toNat (f x), W ((k : Int) + 1)))))))).eq ?_, rfl⟩
    rw [W_of (by omega) (by omega)]
    refine congrArg Sum.inl (Prod.ext ?_ rfl)
    show t.set (k : Int).toNat (f x) = _
    rw [ht, Int.toNat_natCast, List.set_append_right _ _ (by omega), hlen]
    rw [List.take_add_one, hx, List.map_append, List.append_assoc]
    congr 1
    rw [show a.length - k = (a.length - (k + 1)) + 1 by omega, List.replicate_succ]
    simp
  · refine (Ev.ite_f (by simp) (Ev.pure _)).eq ?_
    rw [ht]; simp

def val63 (n : Int) : Bool := decide (0 ≤ n) && decide (n ≤ 63)
def dots (vs : List Int) : Str := Lib.join (vs.map Lib.itoa) [44]

theorem read_nums {ws : List Str} (hl : ws.length < 4294967282) (hw : ∀ w ∈ ws, w.length ≤ 281474976710656) :
    Ev (fun m => impl_readNumbers_m m ws) (if ws.all numB = true then (ws.map numV, true) else ([], false)) := by
  have hm := mx
  unfold impl_readNumbers_m
  refine Exists.elim (EvI.count (step := _) ws.length (fun k (_ : Unit) => ((ws.take k).map numV, (k : Int))) (fun k _ => (ws.take k).all numB = true)
    (fun r => r = (if ws.all numB = true then .inl (ws.map numV) else .inr ([], false))) ?_ ?_ (k := 0) (t := ()) (Nat.zero_le _) rfl)
    (fun res ⟨h1, h2⟩ => Ev.bind h1.ev (by
      subst h2
      by_cases h : ws.all numB = true
      · rw [if_pos h, if_pos h]; exact Ev.pure _
      · rw [if_neg h, if_neg h]; exact Ev.pure _))
  · intro k t hk hI
    obtain ⟨w, hw'⟩ := get_lt hk
    have hk' : decide ((k : Int) < (ws.length : Int)) = true := by simpa using hk
    have htk : ws.take (k + 1) = ws.take k ++ [w] := by rw [List.take_add_one, hw']; rfl
    have hrd : ∀ m, impl_ReadDecimal_m m w = some (numV w, numB w) := fun m => read_dec (hw w (List.mem_of_getElem? hw'))
    cases hb : numB w with
    | true =>
      left
      refine ⟨(), Ev.ite_t hk' (Ev.bindc (idx_at hw') (Ev.bind (Ev.const' hrd) (Ev.ite_f (by simp [hb]) (Ev.bindc (app_ok (by simp; omega)) (Ev.const ?_))))), ?_⟩
      · rw [W_succ hk (by omega), htk, List.map_append]; rfl
      · rw [htk, List.all_append, hI]; simp [hb]
    | false =>
      right
      refine ⟨_, Ev.ite_t hk' (Ev.bindc (idx_at hw') (Ev.bind (Ev.const' hrd) (Ev.ite_t (by simp [hb]) (Ev.pure _)))), ?_⟩
      rw [if_neg]
      intro h
      rw [List.all_eq_true] at h
      rw [h w (List.mem_of_getElem? hw')] at hb
      cases hb
  · intro t hI
    refine ⟨_, Ev.ite_f (by simp) (Ev.pure _), ?_⟩
    rw [List.take_length] at *
    rw [if_pos hI]

theorem itoa_small : ∀ k : Fin 64, (Lib.itoa (k.val : Int)).length ≤ 2 := by
  intro k
  have e : Lib.itoa (k.val : Int) = Lib.decDigits k.val := by unfold Lib.itoa; rw [if_neg (by omega)]; simp
  rw [e]
  have := k.isLt
  by_cases h : k.val < 10
  · rw [Lib.decDigits_one h]; simp
  · rw [Lib.decDigits_two h (by omega)]; simp
theorem itoa_63 {n : Int} (h : val63 n = true) : (Lib.itoa n).length ≤ 2 := by
  unfold val63 at h
  simp at h
  have := itoa_small ⟨n.toNat, by omega⟩
  simp only [] at this
  rwa [show ((n.toNat : Nat) : Int) = n by omega] at this
theorem dots_len {vs : List Int} (h2 : vs.length ≤ 2) (h : vs.all val63 = true) : (dots vs).length ≤ 5 := by
  rw [List.all_eq_true] at h
  unfold dots
  match vs, h2, h with
  | [], _, _ => simp [Lib.join_nil]
  | [a], _, h =>
    have := itoa_63 (h a (by simp))
    rw [List.map_cons, List.map_nil, Lib.join_one]; omega
  | [a, b], _, h =>
    have := itoa_63 (h a (by simp))
    have := itoa_63 (h b (by simp))
    rw [List.map_cons, List.map_cons, List.map_nil, Lib.join_length]
    simp [Lib.lens]
    omega
theorem joined_ev {vs : List Int} (h2 : vs.length ≤ 2) (h : vs.all val63 = true) : Ev (fun m => impl_joined_m m vs [44]) (dots vs) := by
  unfold impl_joined_m
  have hd := dots_len h2 h
  refine Ev.bindc (mks_ok (by omega)) (Ev.bind (fill_iter (f := Lib.itoa) (to' := impl_Decimal_m) (a := vs) (z := ([] : Str)) (fun x hx => Ev.const' fun m => dec_m ?_ ?_) (by omega)).ev (Ev.const' fun m => ?_))
  · rw [List.all_eq_true] at h
    have := h x hx
    unfold val63 at this
    simp at this
    omega
  · rw [List.all_eq_true] at h
    have := h x hx
    unfold val63 at this
    simp at this
    omega
  · rw [ctl_l]
    unfold strings_Join_m
    rw [if_pos ⟨by simp; omega, by unfold dots at hd; omega⟩]
    rfl
theorem values_ev {vs : List Int} (hl : vs.length ≤ maxLen) : Ev (fun m => impl_areValues_m m vs) (vs.all val63) := by
  unfold impl_areValues_m slices_ContainsFunc__int64_int64_m slices_IndexFunc__int64_int64_m
  refine Ev.bind (contains_loop hl (f := fun m z => impl_areValues_1_m m z) (ok := val63) (fun x _ => Ev.const' fun m => ?_)) (Ev.const (by simp))
  unfold impl_areValues_1_m impl_isValue_m
  simp only [within_eq, Option.bind_some]
  rfl
def valsOk (ps : List Str) : Bool := ps.all fun w => numB w && val63 (numV w)
def labelP (s : Str) : Bool :=
  if (40 : UInt8) ∈ s then actP (pre 40 s) && decide (s.getLast? = some 41) && valsOk (splitC 44 (suf 40 s).dropLast) && decide ((splitC 44 (suf 40 s).dropLast).length ≤ 2)
  else nameP s

def labOf (n : Str) (vs : List Int) : Str × Bool :=
  if n = [116, 97, 117] then ([116, 97, 117], decide (vs.length = 0))
  else if actP n = true ∧ vs.length ≤ 2 ∧ vs.all val63 = true then (if vs.length = 0 then (n, true) else (n ++ [40] ++ dots vs ++ [41], true))
  else ([], false)

theorem label_of {n : Str} (hn : n.length ≤ 4294967296) {vs : List Int} (hv : vs.length ≤ maxLen) : Ev (fun m => impl_labelOf_m m n vs) (labOf n vs) := by
  have hm := mx
  unfold impl_labelOf_m labOf
  by_cases h1 : n = [116, 97, 117]
  · have e : (n == ([116, 97, 117] : Str)) = true := by rw [h1]; rfl
    rw [if_pos h1]
    refine Ev.ite_t e (Ev.const ?_)
    by_cases h : vs.length = 0
    · rw [h]; rfl
    · rw [decide_eq_false h, beq_false_of_ne (show ((vs.length : Int)) ≠ 0 by omega)]
  · have e : ¬ (n == ([116, 97, 117] : Str)) = true := by simpa using h1
    rw [if_neg h1]
    refine Ev.ite_f e (Ev.bind (act_impl (by omega)) ?_)
    by_cases h2 : actP n = true
    · simp only [h2, Bool.not_true, Bool.false_eq_true, if_false, Option.bind_some, true_and]
      by_cases h3 : vs.length ≤ 2
      · have e3 : decide ((2 : Int) < (vs.length : Int)) = false := decide_eq_false (by omega)
        simp only [e3, Bool.false_eq_true, if_false, h3, true_and]
        refine Ev.bind (Ev.bind (values_ev hv) (Ev.pure _)) ?_
        by_cases h4 : vs.all val63 = true
        · rw [if_pos h4]
          refine Ev.ite_f (by simp [h4]) ?_
          by_cases h5 : vs.length = 0
          · rw [if_pos h5]
            exact Ev.ite_t (by rw [h5]; rfl) (Ev.pure _)
          · rw [if_neg h5]
            have hd := dots_len h3 h4
            refine Ev.ite_f (by intro g; have := beq_iff_eq.1 g; omega) (Ev.bindc (show cat n [40] = some (n ++ [40]) from ?_) (Ev.bind (joined_ev h3 h4) (Ev.bindc (show cat (n ++ [40]) (dots vs) = some (n ++ [40] ++ dots vs) from ?_) (Ev.bindc (show cat (n ++ [40] ++ dots vs) [41] = some (n ++ [40] ++ dots vs ++ [41]) from ?_) (Ev.pure _)))))
            · unfold cat; rw [if_pos (by simp; omega)]
            · unfold cat; rw [if_pos (by simp; omega)]
            · unfold cat; rw [if_pos (by simp; omega)]
        · rw [if_neg h4]
          exact Ev.ite_t (by simpa using h4) (Ev.pure _)
      · have e3 : decide ((2 : Int) < (vs.length : Int)) = true := decide_eq_true (by omega)
        exact Ev.eq (r := (([] : Str), false)) (Ev.const' fun m => by simp only [e3, if_true, Option.bind_some]) (if_neg (fun h => h3 h.1)).symm
    · have e2 : (!actP n) = true := by simpa using h2
      exact Ev.eq (r := (([] : Str), false)) (Ev.const' fun m => by simp only [e2, if_true, Option.bind_some]) (if_neg (fun h => h2 h.1)).symm

theorem nums_join {ws : List Str} (h : ws.all numB = true) : (ws.map numV).map Lib.itoa = ws := by
  rw [List.map_map]
  rw [List.all_eq_true] at h
  conv => rhs; rw [← List.map_id ws]
  refine List.map_congr_left fun w hw => ?_
  have := h w hw
  unfold numB at this
  obtain ⟨v, hv⟩ := Option.isSome_iff_exists.1 this
  show Lib.itoa (numV w) = w
  unfold numV
  rw [hv]
  exact (num_some hv).1

theorem last_eq {s : Str} (h : (40 : UInt8) ∈ s) : s.getLast? = some 41 ↔ (suf 40 s).getLast? = some 41 := by
  conv => lhs; rw [pre_suf h]
  rw [List.getLast?_append]
  cases hs : suf 40 s with
  | nil => simp
  | cons b r =>
    rw [List.getLast?_cons_cons]
    cases hl : (b :: r).getLast? with
    | none => simp at hl
    | some c => simp

theorem name_tau : nameP [116, 97, 117] = true := by decide +kernel
theorem act_tau : actP [116, 97, 117] = false := by unfold actP; simp

theorem third {c : Bool} {a : Str} {b : List Int} : (if c = true then (([] : Str), ([] : List Int), false) else (a, b, true)).2.2 = !c := by cases c <;> rfl

theorem read_label {s : Str} (hl : s.length ≤ 1048576) : ∃ r, Ev (fun m => impl_readLabel_m m s) r ∧ r.2.2 = labelP s := by
  have hm := mx
  unfold impl_readLabel_m
  by_cases hc : (40 : UInt8) ∈ s
  · have hp := pre_len 40 s
    have hsf : (suf 40 s).length ≤ s.length := by unfold suf; simp
    have hcut : ∀ m, strings_Cut_m m s [40] = some (pre 40 s, suf 40 s, true) := fun m => by rw [cut_lib (by omega), if_pos hc]
    obtain ⟨t, ht⟩ : ∃ t, t = if (suf 40 s).getLast? = some 41 then (suf 40 s).dropLast else suf 40 s := ⟨_, rfl⟩
    have htl : t.length ≤ s.length := by rw [ht]; split <;> (try simp) <;> omega
    have htr : ∀ m, strings_TrimSuffix_m m (suf 40 s) [41] = some t := fun m => by rw [trimS_lib (by omega), ← ht]
    have hsp : ∀ m, strings_Split_m m t [44] = some (splitC 44 t) := fun m => split_lib (by omega)
    have hln := splitC_len 44 t
    have hne := List.length_pos_iff.2 (splitC_ne 44 t)
    have hrn := read_nums (ws := splitC 44 t) (by omega) (fun w hw => by have := splitC_mem 44 t w hw; omega)
    by_cases hn : (splitC 44 t).all numB = true
    · rw [if_pos hn] at hrn
      have hlo := label_of (n := pre 40 s) (by omega) (vs := (splitC 44 t).map numV) (by simp; omega)
      refine ⟨_, Ev.bind (Ev.const' hcut) (Ev.join (Ev.ite_t rfl (Ev.bind (Ev.const' htr) (Ev.bind (Ev.const' hsp) (Ev.bind hrn (Ev.ite_f (by simp) (Ev.bind hlo (Ev.const' fun m => by rw [or_some, Option.bind_some, ite_some])))))))), ?_⟩
      have hd : dots ((splitC 44 t).map numV) = t := by unfold dots; rw [nums_join hn, join_splitC]
      have hlast : (pre 40 s ++ [40] ++ t ++ [41] = s) ↔ (suf 40 s).getLast? = some 41 := by
        conv => lhs; rhs; rw [pre_suf hc]
        rw [List.append_assoc, List.append_assoc, List.append_cancel_left_eq]
        simp only [List.singleton_append, List.cons.injEq, true_and]
        constructor
        · intro h; rw [← h]; simp
        · intro h
          rw [ht, if_pos h]
          rcases snoc_or (suf 40 s) with e | ⟨q, x, e⟩
          · rw [e] at h; cases h
          · rw [e] at h ⊢
            have : x = 41 := by simpa using h
            rw [this]; simp
      have hvo : (suf 40 s).getLast? = some 41 → splitC 44 (suf 40 s).dropLast = splitC 44 t := fun h => by rw [ht, if_pos h]
      have hall : ((splitC 44 t).map numV).all val63 = valsOk (splitC 44 t) := by
        unfold valsOk
        rw [List.all_map]
        rw [List.all_eq_true] at hn
        apply Bool.eq_iff_iff.2
        rw [List.all_eq_true, List.all_eq_true]
        constructor
        · intro h w hw; rw [hn w hw]; exact h w hw
        · intro h w hw; have := h w hw; rw [hn w hw] at this; exact this
      rw [third]
      unfold labelP labOf
      rw [if_pos hc]
      simp only [decide_eq_decide.2 (last_eq hc), List.length_map, hall]
      by_cases h1 : pre 40 s = [116, 97, 117]
      · rw [if_pos h1, h1, act_tau, decide_eq_false (by omega)]
        rfl
      · rw [if_neg h1]
        by_cases h6 : (suf 40 s).getLast? = some 41
        · rw [hvo h6, decide_eq_true h6]
          by_cases h2 : actP (pre 40 s) = true ∧ (splitC 44 t).length ≤ 2 ∧ valsOk (splitC 44 t) = true
          · rw [if_pos h2, if_neg (show ¬ (splitC 44 t).length = 0 by omega), h2.1, h2.2.2, decide_eq_true h2.2.1, hd]
            rw [hlast.2 h6]
            simp
          · rw [if_neg h2]
            cases ha : actP (pre 40 s)
            · rfl
            · cases hv : valsOk (splitC 44 t)
              · rfl
              · rw [decide_eq_false (fun h => h2 ⟨ha, h, hv⟩)]; rfl
        · rw [decide_eq_false h6, Bool.and_false]
          split
          · rw [if_neg (show ¬ (splitC 44 t).length = 0 by omega), hd]
            have : (pre 40 s ++ [40] ++ t ++ [41] != s) = true := by
              rw [bne_iff_ne]
              exact fun h => h6 (hlast.1 h)
            rw [this]
            rfl
          · rfl
    · rw [if_neg hn] at hrn
      refine ⟨_, Ev.bind (Ev.const' hcut) (Ev.join (Ev.ite_t rfl (Ev.bind (Ev.const' htr) (Ev.bind (Ev.const' hsp) (Ev.bind hrn (Ev.ite_t (by rfl) (Ev.pure _))))))), ?_⟩
      unfold labelP
      rw [if_pos hc]
      by_cases h6 : (suf 40 s).getLast? = some 41
      · have : valsOk (splitC 44 (suf 40 s).dropLast) = false := by
          rw [ht, if_pos h6] at hn
          apply Bool.eq_false_iff.2
          intro h
          apply hn
          unfold valsOk at h
          rw [List.all_eq_true] at h ⊢
          intro w hw
          have := h w hw
          rw [Bool.and_eq_true] at this
          exact this.1
        rw [this]; simp
      · rw [decide_eq_false (fun h => h6 ((last_eq hc).1 h))]; simp
  · have hcut : ∀ m, strings_Cut_m m s [40] = some (s, [], false) := fun m => by rw [cut_lib (by omega), if_neg hc]
    have hlo := label_of (n := s) (by omega) (vs := []) (by simp)
    refine ⟨_, Ev.bind (Ev.const' hcut) (Ev.join (Ev.ite_f (by simp) (Ev.bind hlo (Ev.const' fun m => by rw [or_some, Option.bind_some, ite_some])))), ?_⟩
    rw [third]
    unfold labelP labOf
    rw [if_neg hc]
    by_cases h1 : s = [116, 97, 117]
    · rw [if_pos h1, h1, name_tau]; rfl
    · rw [if_neg h1]
      have e : actP s = nameP s := by
        unfold actP
        rw [bne_iff_ne.2 h1, Bool.and_true]
      rw [e]
      by_cases h2 : nameP s = true
      · rw [if_pos ⟨h2, by simp, rfl⟩, h2]
        simp
      · rw [if_neg (fun h => h2 h.1)]
        have : nameP s = false := by simpa using h2
        rw [this]
        rfl
theorem label_impl {s : Str} (hl : s.length ≤ 1048576) : Ev (fun m => impl_IsLabel_m m s) (labelP s) := by
  obtain ⟨r, h1, h2⟩ := read_label hl
  unfold impl_IsLabel_m
  exact Ev.bind h1 (Ev.const (by rw [h2]))

/-! ### the reference -/
theorem pre_hit : ∀ (s : Str) (k : Nat), s[k]? = some 40 → (40 : UInt8) ∉ s.take k → (pre 40 s).length = k
  | [], k, h, _ => by simp at h
  | b :: r, 0, h, _ => by
    have : b = 40 := by simpa using h
    rw [pre_cons, if_pos this]; rfl
  | b :: r, k + 1, h, h2 => by
    rw [List.take_succ_cons, List.mem_cons, not_or] at h2
    rw [pre_cons, if_neg (fun e => h2.1 e.symm), List.length_cons, pre_hit r k (by simpa using h) h2.2]
theorem open_spec {s : Str} (hl : s.length ≤ 1048576) : Ev (fun m => spec_l01Open_m m s) ((pre 40 s).length : Int) := by
  unfold spec_l01Open_m
  refine Exists.elim (EvI.count (step := _) s.length (fun k (_ : Unit) => (k : Int)) (fun k _ => (40 : UInt8) ∉ s.take k)
    (fun r => r = .inr ((pre 40 s).length : Int) ∨ (r = .inl () ∧ (pre 40 s).length = s.length)) ?_ ?_ (k := 0) (t := ()) (Nat.zero_le _) (by simp))
    (fun res ⟨h1, h2⟩ => Ev.bind h1.ev (by
      rcases h2 with rfl | ⟨rfl, h⟩
      · exact Ev.pure _
      · exact (Ev.pure _).eq (by rw [h])))
  · intro k t hk hI
    obtain ⟨b, hb⟩ := get_lt hk
    have hk' : decide ((k : Int) < (s.length : Int)) = true := by simpa using hk
    by_cases h : b = 40
    · subst h
      exact .inr ⟨_, Ev.ite_t hk' (Ev.bindc (idx_at hb) (Ev.ite_t (by rfl) (Ev.pure _))), .inl (by rw [pre_hit s k hb hI])⟩
    · refine .inl ⟨(), Ev.ite_t hk' (Ev.bindc (idx_at hb) (Ev.ite_f ?_ (Ev.const (by rw [W_succ hk (by omega)])))), ?_⟩
      · intro g
        have := beq_iff_eq.1 g
        exact h (UInt8.toNat_inj.1 (show b.toNat = 40 by omega))
      · rw [List.take_add_one, hb]
        simp [hI, Ne.symm h]
  · intro t hI
    rw [List.take_length] at hI
    exact ⟨_, Ev.ite_f (by simp) (Ev.pure _), .inr ⟨rfl, (pre_full 40 s).2 hI⟩⟩

def lsp : (List Int) ⊕ ((List Int) × Bool) → (List Int) × Bool
  | .inl xs => (xs, decide ((xs.length : Int) ≤ 2))
  | .inr q => q
theorem lsp_ctl {res : (List Int) ⊕ ((List Int) × Bool)} : ctl (β := (List Int)) (ρ := ((List Int) × Bool)) (τ := ((List Int) × Bool)) res (fun (xs140) => some ((xs140, (decide ((xs140.length : Int) ≤ (2 : Int)))))) (fun q => some (q)) = some (lsp res) := by cases res <;> rfl
theorem vals_loop {ps : List Str} (hl : ps.length ≤ 1048577) (hw : ∀ w ∈ ps, w.length ≤ 1048576) :
    Ev (fun fuel => iter (fun (s : (List Int) × (Int)) => (match s with | (xs104, x106) => (if (decide (x106 < (ps.length : Int))) = true then (idx ps x106).bind fun x151 => (spec_l01Number_m fuel x151).bind fun x158 => (if (!x158.2) = true then some true else (spec_l00In_m fuel x158.1 (0 : Int) (63 : Int)).bind fun x166 => some (!x166)).bind fun t161 => (if t161 = true then some (.inr (.inr ([], false))) else (app xs104 [x158.1]).bind fun x174 => some (.inl (x174, (W (x106 + (1 : Int)))))) else some (.inr (.inl (xs104)))) : Option (((List Int) × (Int)) ⊕ (((List Int)) ⊕ (((List Int) × Bool)))))) fuel (([] : List Int), (0 : Int)))
      (if valsOk ps = true then .inl (ps.map numV) else .inr ([], false)) := by
  have hm := mx
  refine Exists.elim (EvI.count (β := (List Int) ⊕ ((List Int) × Bool)) (step := fun fuel (s : (List Int) × (Int)) => (match s with | (xs104, x106) => (if (decide (x106 < (ps.length : Int))) = true then (idx ps x106).bind fun x151 => (spec_l01Number_m fuel x151).bind fun x158 => (if (!x158.2) = true then some true else (spec_l00In_m fuel x158.1 (0 : Int) (63 : Int)).bind fun x166 => some (!x166)).bind fun t161 => (if t161 = true then some (.inr (.inr ([], false))) else (app xs104 [x158.1]).bind fun x174 => some (.inl (x174, (W (x106 + (1 : Int)))))) else some (.inr (.inl (xs104)))) : Option (((List Int) × (Int)) ⊕ (((List Int)) ⊕ (((List Int) × Bool))))))
    ps.length (fun k (_ : Unit) => ((ps.take k).map numV, (k : Int))) (fun k _ => valsOk (ps.take k) = true)
    (fun r => r = (if valsOk ps = true then .inl (ps.map numV) else .inr ([], false))) ?_ ?_ (k := 0) (t := ()) (Nat.zero_le _) rfl)
    (fun res ⟨h3, h4⟩ => by subst h4; exact h3.ev)
  · intro k t hk hI
    obtain ⟨w, hw'⟩ := get_lt hk
    have hk' : decide ((k : Int) < (ps.length : Int)) = true := by simpa using hk
    have htk : ps.take (k + 1) = ps.take k ++ [w] := by rw [List.take_add_one, hw']; rfl
    have hwl := hw w (List.mem_of_getElem? hw')
    have hnum := num_spec (w := w) (by omega)
    have hcc : ∀ m : Nat, (if (!numB w) = true then some true else (spec_l00In_m m (numV w) (0 : Int) (63 : Int)).bind fun x166 => some (!x166)) = some (!(numB w && val63 (numV w))) := fun m => by
      rw [l00In_eq, Option.bind_some, or_some]
      cases numB w <;> rfl
    by_cases hv : (numB w && val63 (numV w)) = true
    · left
      refine ⟨(), Ev.ite_t hk' (Ev.bindc (idx_at hw') (Ev.bind hnum (Ev.bind (Ev.const' hcc) (Ev.ite_f (by rw [hv]; simp) (Ev.bindc (app_ok (by simp; omega)) (Ev.const ?_)))))), ?_⟩
      · rw [W_succ hk (by omega), htk, List.map_append]; rfl
      · unfold valsOk at hI ⊢
        rw [htk, List.all_append, hI]
        simp only [List.all_cons, List.all_nil, Bool.and_true, Bool.true_and]
        exact hv
    · right
      have hv' : (numB w && val63 (numV w)) = false := by simpa using hv
      refine ⟨_, Ev.ite_t hk' (Ev.bindc (idx_at hw') (Ev.bind hnum (Ev.bind (Ev.const' hcc) (Ev.ite_t (by rw [hv']; rfl) (Ev.pure _))))), ?_⟩
      rw [if_neg]
      intro h
      unfold valsOk at h
      rw [List.all_eq_true] at h
      exact hv (h w (List.mem_of_getElem? hw'))
  · intro t hI
    refine ⟨_, Ev.ite_f (by simp) (Ev.pure _), ?_⟩
    rw [List.take_length] at *
    rw [if_pos hI]

theorem label_spec {s : Str} (hl : s.length ≤ 1048576) : Ev (fun m => spec_l01Label_m m s) (labelP s) := by
  have hm := mx
  unfold spec_l01Label_m
  suffices h : ∃ r, Ev (fun m => spec_l01Values_m m s) r ∧ r.2 = labelP s by
    obtain ⟨r, h1, h2⟩ := h
    exact Ev.bind h1 (Ev.const (by rw [h2]))
  unfold spec_l01Values_m labelP
  by_cases hc : (40 : UInt8) ∈ s
  · have hp := pre_len 40 s
    have hpn : (pre 40 s).length ≠ s.length := fun h => (pre_full 40 s).1 h hc
    have hs0 : sub s (0 : Int) ((pre 40 s).length : Int) = some (pre 40 s) := by
      have := sub_ok (xs := s) (lo := 0) (hi := (pre 40 s).length) (Nat.zero_le _) hp
      rw [pre_take] at this
      exact this
    have hpos : 0 < s.length := by omega
    obtain ⟨b, hb⟩ := get_lt (xs := s) (k := s.length - 1) (by omega)
    have hlast : s.getLast? = some b := by rw [List.getLast?_eq_getElem?]; exact hb
    have hw1 : W ((s.length : Int) - 1) = ((s.length - 1 : Nat) : Int) := by rw [W_of (by omega) (by omega)]; omega
    rw [if_pos hc]
    have hbase : ∀ {r} (_ : Ev (fun m => (if (!actP (pre 40 s)) = true then some true else (idx s (W ((s.length : Int) - (1 : Int)))).bind fun b55 => some ((b55.toNat : Int) != (41 : Int))) ) r), r = !(actP (pre 40 s) && decide (s.getLast? = some 41)) := by
      intro r h
      obtain ⟨n, hn⟩ := h.one
      rw [hw1, idx_at hb] at hn
      simp only [Option.bind_some, or_some, Option.some.injEq] at hn
      rw [← hn, hlast]
      cases actP (pre 40 s)
      · rfl
      · simp only [Bool.not_true, Bool.false_or, Bool.true_and]
        by_cases h41 : b = 41
        · rw [h41]; rfl
        · rw [decide_eq_false (by simpa using h41)]
          have : ((b.toNat : Int) != 41) = true := by
            rw [bne_iff_ne]
            intro g
            exact h41 (UInt8.toNat_inj.1 (show b.toNat = 41 by omega))
          rw [this]; rfl
    have hcond : ∀ m : Nat, (if (!actP (pre 40 s)) = true then some true else (idx s (W ((s.length : Int) - (1 : Int)))).bind fun b55 => some ((b55.toNat : Int) != (41 : Int))) = some (!(actP (pre 40 s) && decide (s.getLast? = some 41))) := by
      intro m
      have e : (if (!actP (pre 40 s)) = true then some true else (idx s (W ((s.length : Int) - (1 : Int)))).bind fun b55 => some ((b55.toNat : Int) != (41 : Int))) = some ((!actP (pre 40 s)) || ((b.toNat : Int) != (41 : Int))) := by rw [hw1, idx_at hb, Option.bind_some, or_some]
      rw [e]
      exact congrArg some (hbase (Ev.const e))
    by_cases h1 : (actP (pre 40 s) && decide (s.getLast? = some 41)) = true
    · have h41 : s.getLast? = some 41 := of_decide_eq_true (Bool.and_eq_true _ _ ▸ h1).2
      have hsl := (last_eq hc).1 h41
      have hsn : suf 40 s ≠ [] := fun e => by rw [e] at hsl; cases hsl
      have hsl2 : (suf 40 s).length = s.length - ((pre 40 s).length + 1) := by unfold suf; simp
      have hsp := List.length_pos_iff.2 hsn
      have hsub : sub s (W (((pre 40 s).length : Int) + 1)) (W ((s.length : Int) - 1)) = some (suf 40 s).dropLast := by
        rw [hw1, W_of (by omega) (by omega), show (((pre 40 s).length : Int) + 1) = (((pre 40 s).length + 1 : Nat) : Int) from rfl, sub_ok (by omega) (by omega), List.drop_take, List.dropLast_eq_take, hsl2]
        unfold suf
        congr 2
        omega
      have hpl : (splitC 44 (suf 40 s).dropLast).length ≤ s.length := by have := splitC_len 44 (suf 40 s).dropLast; simp at this; omega
      rw [h1, Bool.true_and]
      refine ⟨_, Ev.bind (open_spec hl) (Ev.ite_f (by intro g; have := beq_iff_eq.1 g; omega) (Ev.bindc hs0 (Ev.bind (act_spec (by omega)) (Ev.bind (Ev.const' hcond) (Ev.ite_f (by rw [h1]; simp) (Ev.bindc hsub (Ev.bind (split_spec (by simp; omega)) (Ev.bind (vals_loop (by omega) (fun w hw => ?_)) (Ev.const' fun m => lsp_ctl))))))))), ?_⟩
      · have := splitC_mem 44 _ w hw
        simp at this
        omega
      · by_cases hv : valsOk (splitC 44 (suf 40 s).dropLast) = true
        · rw [if_pos hv, hv, Bool.true_and]
          exact decide_eq_decide.2 (by simp; omega)
        · rw [if_neg hv]
          have : valsOk (splitC 44 (suf 40 s).dropLast) = false := by simpa using hv
          rw [this]
          rfl
    · refine ⟨_, Ev.bind (open_spec hl) (Ev.ite_f (by intro g; have := beq_iff_eq.1 g; omega) (Ev.bindc hs0 (Ev.bind (act_spec (by omega)) (Ev.bind (Ev.const' hcond) (Ev.ite_t (by rw [Bool.not_eq_true']; exact Bool.eq_false_iff.2 h1) (Ev.pure _)))))), ?_⟩
      have : (actP (pre 40 s) && decide (s.getLast? = some 41)) = false := by simpa using h1
      rw [this]
      rfl
  · rw [if_neg hc]
    exact ⟨_, Ev.bind (open_spec hl) (Ev.ite_t (by rw [(pre_full 40 s).2 hc]; simp) (Ev.bind (name_spec (by omega)) (Ev.pure _))), rfl⟩
/-! ### the order of texts -/
theorem bl_irr : ∀ a : Str, Op.bytesLess a a = false
  | [] => rfl
  | x :: a => by simp [Op.bytesLess, bl_irr a]
theorem bl_asym : ∀ a b : Str, Op.bytesLess a b = true → Op.bytesLess b a = false
  | _, [], h => by simp [Op.bytesLess] at h
  | [], _ :: _, _ => by simp [Op.bytesLess]
  | x :: a, y :: b, h => by
    simp only [Op.bytesLess, Bool.or_eq_true, Bool.and_eq_true, decide_eq_true_eq, beq_iff_eq] at h
    rcases h with h | ⟨rfl, h⟩
    · have h1 : ¬ y < x := fun h' => by rw [UInt8.lt_iff_toNat_lt] at h h'; omega
      have h2 : ¬ y = x := fun h' => by subst h'; rw [UInt8.lt_iff_toNat_lt] at h; omega
      simp [Op.bytesLess, h1, h2]
    · have := bl_asym a b h
      have h1 : ¬ x < x := fun h' => by rw [UInt8.lt_iff_toNat_lt] at h'; omega
      simp [Op.bytesLess, h1, this]
theorem bl_tri : ∀ a b : Str, Op.bytesLess a b = false → Op.bytesLess b a = false → a = b
  | [], [], _, _ => rfl
  | [], _ :: _, h, _ => by simp [Op.bytesLess] at h
  | _ :: _, [], _, h => by simp [Op.bytesLess] at h
  | x :: a, y :: b, h1, h2 => by
    simp only [Op.bytesLess, Bool.or_eq_false_iff, Bool.and_eq_false_iff, decide_eq_false_iff_not, beq_eq_false_iff_ne] at h1 h2
    have e : x = y := by
      apply UInt8.toNat_inj.1
      have l1 := h1.1
      have l2 := h2.1
      rw [UInt8.lt_iff_toNat_lt] at l1 l2
      omega
    subst e
    have g1 : Op.bytesLess a b = false := h1.2.resolve_left (fun h => h rfl)
    have g2 : Op.bytesLess b a = false := h2.2.resolve_left (fun h => h rfl)
    rw [bl_tri a b g1 g2]
theorem bl_le (s p : Str) : (Op.bytesLess s p || s == p) = !Op.bytesLess p s := by
  cases h : Op.bytesLess p s with
  | true =>
    have h1 := bl_asym p s h
    have h2 : (s == p) = false := by
      rw [beq_eq_false_iff_ne]
      rintro rfl
      rw [bl_irr] at h
      cases h
    rw [h1, h2]; rfl
  | false =>
    cases h1 : Op.bytesLess s p with
    | true => rfl
    | false => rw [bl_tri s p h1 h]; simp

/-! ### valid systems -/
def tau' : Str := [116, 97, 117]
def condX (ls : List Str) (k : Nat) (b : Str → Bool) : Bool := match ls[k]? with
  | none => false
  | some s => !labelP s || (b s || (decide ((1 : Int) < (k : Int)) && (match ls[k - 1]? with | none => false | some p => !Op.bytesLess p s)))
def okL (ls : List Str) (k : Nat) : Bool := !condX ls k fun s => (s == tau') != ((k : Int) == 0)
def labsP (ls : List Str) : Bool := decide (1 ≤ ls.length) && decide (ls.length ≤ 12) && decide (∀ k, k < ls.length → okL ls k = true)
def edgeLess (a b : Timpl_Edge) : Bool := if a.1 ≠ b.1 then decide (a.1 < b.1) else if a.2.1 ≠ b.2.1 then decide (a.2.1 < b.2.1) else decide (a.2.2 < b.2.2)
def inn (a b c : Int) : Bool := decide (b ≤ a) && decide (a ≤ c)
def condE (n m : Int) (es : List Timpl_Edge) (k : Nat) : Bool := match es[k]? with
  | none => false
  | some e => (!inn e.1 0 n || !inn e.2.2 0 n) || (!inn e.2.1 0 m || (decide ((0 : Int) < (k : Int)) && (match es[k - 1]? with | none => false | some p => !edgeLess p e)))
def edgesP (n m : Int) (es : List Timpl_Edge) : Bool := decide (es.length ≤ 300) && decide (∀ k, k < es.length → (!condE n m es k) = true)
def validP (t : Timpl_Lts) : Bool := inn t.1 1 40 && inn t.2.1 0 (W (t.1 - 1)) && labsP t.2.2.1 && edgesP (W (t.1 - 1)) (W ((t.2.2.1.length : Int) - 1)) t.2.2.2

theorem compare_m {m : Nat} {a b : Int} : cmp_Compare_int64_m m a b = some (if a < b then -1 else if b < a then 1 else 0) := by
  unfold cmp_Compare_int64_m cmp_isNaN_int64_m
  simp
  split
  · rfl
  · split <;> rfl
theorem or3 (x y z : Int) : Ev (fun m => cmp_Or_int_m m [x, y, z]) (if x ≠ 0 then x else if y ≠ 0 then y else z) := by
  unfold cmp_Or_int_m
  refine Exists.elim (EvI.find (step := _) 3 (fun k => ([x, y, z][k]?).getD 0 == 0) (fun k => ([x, y, z][k]?).getD 0) (fun k hk hok => ?_) (fun k hk hok => ?_) (Ev.const rfl) (Nat.zero_le _)) (fun res ⟨g1, g2⟩ => Ev.bind g1.ev ?_)
  · obtain ⟨v, hv⟩ := get_lt (xs := [x, y, z]) (k := k) hk
    have hk' : decide ((k : Int) < (([x, y, z] : List Int).length : Int)) = true := decide_eq_true (by simp; omega)
    have h0 : v = 0 := by rw [hv] at hok; simpa using hok
    refine Ev.ite_t hk' (Ev.bindc (idx_at hv) (Ev.ite_f (by rw [h0]; simp) (Ev.const ?_)))
    rw [W_succ hk (by omega)]
  · obtain ⟨v, hv⟩ := get_lt (xs := [x, y, z]) (k := k) hk
    have hk' : decide ((k : Int) < (([x, y, z] : List Int).length : Int)) = true := decide_eq_true (by simp; omega)
    have h0 : v ≠ 0 := by rw [hv] at hok; simpa using hok
    refine Ev.ite_t hk' (Ev.bindc (idx_at hv) (Ev.ite_t (by simpa using h0) (Ev.const ?_)))
    rw [hv]; rfl
  · rcases g2 with ⟨rfl, h⟩ | ⟨k, _, hk, hok, hj, rfl⟩
    · have h0 := h 0 (Nat.zero_le _) (by omega)
      have h1 := h 1 (Nat.zero_le _) (by omega)
      have h2 := h 2 (Nat.zero_le _) (by omega)
      simp at h0 h1 h2
      subst h0; subst h1; subst h2
      exact Ev.const rfl
    · match k, hk with
      | 0, _ => simp at hok; exact Ev.const (by rw [ctl_r]; simp [hok])
      | 1, _ =>
        have h0 := hj 0 (Nat.zero_le _) (by omega)
        simp at hok h0
        exact Ev.const (by rw [ctl_r]; simp [hok, h0])
      | 2, _ =>
        have h0 := hj 0 (Nat.zero_le _) (by omega)
        have h1 := hj 1 (Nat.zero_le _) (by omega)
        simp at hok h0 h1
        exact Ev.const (by rw [ctl_r]; simp [h0, h1])
theorem edges_cmp (a b : Timpl_Edge) : ∃ r : Int, Ev (fun m => impl_compareEdges_m m a b) r ∧ decide (0 ≤ r) = !edgeLess a b := by
  unfold impl_compareEdges_m edgeLess
  simp only [compare_m, Option.bind_some]
  obtain ⟨a1, a2, a3⟩ := a
  obtain ⟨b1, b2, b3⟩ := b
  refine ⟨_, Ev.bind (or3 _ _ _) (Ev.pure _), ?_⟩
  simp only []
  rcases Int.lt_trichotomy a1 b1 with h | h | h
  · have h1 : a1 ≠ b1 := by omega
    simp [h, h1]
  · subst h
    rcases Int.lt_trichotomy a2 b2 with h | h | h
    · have h1 : a2 ≠ b2 := by omega
      simp [h, h1]
    · subst h
      rcases Int.lt_trichotomy a3 b3 with h | h | h
      · simp [h]
      · subst h; simp
      · have h1 : ¬ a3 < b3 := by omega
        simp [h, h1]
    · have h1 : a2 ≠ b2 := by omega
      have h2 : ¬ a2 < b2 := by omega
      simp [h, h1, h2]
  · have h1 : a1 ≠ b1 := by omega
    have h2 : ¬ a1 < b1 := by omega
    simp [h, h1, h2]
theorem less_m {m : Nat} {a b : Timpl_Edge} : spec_l11Less_m m a b = some (edgeLess a b) := by
  unfold spec_l11Less_m edgeLess
  by_cases h1 : a.1 = b.1
  · by_cases h2 : a.2.1 = b.2.1
    · simp [h1, h2]
    · simp [h1, h2]
  · simp [h1]

theorem isState_m {m : Nat} {t : Timpl_Lts} {k : Int} : impl_Lts_isState_m m t k = some (inn k 0 (W (t.1 - 1))) := by
  unfold impl_Lts_isState_m
  rw [within_eq]; rfl

theorem names_spec {ls : List Str} (hl : ls.length ≤ 1048576) (hs : ∀ s ∈ ls, s.length ≤ 1048576) : Ev (fun m => spec_l11Names_m m ls) (labsP ls) := by
  have hm := mx
  unfold spec_l11Names_m
  by_cases h0 : ls.length = 0
  · have e : ((ls.length : Int) == 0) = true := by rw [h0]; rfl
    refine Ev.eq (r := false) (Ev.const' fun m => by simp only [e, if_true, Option.bind_some]) ?_
    unfold labsP
    rw [decide_eq_false (show ¬ 1 ≤ ls.length by omega)]; rfl
  · have e : ((ls.length : Int) == 0) = false := beq_false_of_ne (by omega)
    by_cases h1 : 12 < ls.length
    · have e1 : decide ((12 : Int) < (ls.length : Int)) = true := decide_eq_true (by omega)
      refine Ev.eq (r := false) (Ev.const' fun m => by simp only [e, e1, if_true, Bool.false_eq_true, if_false, Option.bind_some]) ?_
      unfold labsP
      rw [decide_eq_false (show ¬ ls.length ≤ 12 by omega)]; simp
    · have e1 : decide ((12 : Int) < (ls.length : Int)) = false := decide_eq_false (by omega)
      obtain ⟨s0, hs0⟩ := get_lt (xs := ls) (k := 0) (by omega)
      have hi : idx ls (0 : Int) = some s0 := idx_at (k := 0) hs0
      have hlab : labsP ls = decide (∀ k, k < ls.length → okL ls k = true) := by
        unfold labsP
        rw [decide_eq_true (show 1 ≤ ls.length by omega), decide_eq_true (show ls.length ≤ 12 by omega)]; rfl
      rw [hlab]
      by_cases h2 : s0 = tau'
      · have e2 : (s0 != ([116, 97, 117] : Str)) = false := by rw [h2]; rfl
        refine Ev.bindc (a := false) (by simp only [e, e1, Bool.false_eq_true, if_false]) (Ev.bindc (a := false) (by simp only [hi, e2, Bool.false_eq_true, if_false, Option.bind_some]) (Ev.ite_f (by simp) ?_))
        have cond : ∀ k s, k < ls.length → ls[k]? = some s → Ev (fun m => (spec_l01Label_m m s).bind fun x140 => (if (!x140) = true then some true else (idx ls (k : Int)).bind fun x146 => some (x146 == ([116, 97, 117] : Str))).bind fun t143 => (if t143 = true then some true else (if (decide ((1 : Int) < (k : Int))) = true then (idx ls (W ((k : Int) - (1 : Int)))).bind fun x157 => (idx ls (k : Int)).bind fun x162 => some (!Op.bytesLess x157 x162) else some false).bind fun t154 => some t154).bind fun t151 => (if t151 = true then some (.inr (.inr false)) else some (.inl ((W ((k : Int) + (1 : Int))))) : Option (Int ⊕ (Unit ⊕ Bool)))) (if condX ls k (fun s => s == tau') = true then .inr (.inr false) else .inl ((k + 1 : Nat) : Int)) := by
          intro k s hk hs'
          refine Ev.bind (label_spec (hs s (List.mem_of_getElem? hs'))) (Ev.const ?_)
          unfold condX
          rw [hs']
          cases k with
          | zero =>
            simp only [idx_at hs', Option.bind_some, or_some, show decide ((1 : Int) < ((0 : Nat) : Int)) = false from rfl, Bool.false_eq_true, if_false, W_succ hk (by omega), Bool.false_and, Bool.or_false]
            rw [ite_some]
            rfl
          | succ j =>
            obtain ⟨p, hp⟩ := get_lt (xs := ls) (k := j) (by omega)
            have w2 := W_pred (k := j) (n := ls.length) (by omega) (by omega)
            simp only [idx_at hs', hp, w2, idx_at hp, Option.bind_some, or_some, and_some, W_succ hk (by omega), Nat.add_sub_cancel]
            rw [ite_some, Bool.or_assoc]
            rfl
        refine Exists.elim (EvI.find (step := _) ls.length (fun k => !condX ls k fun s => s == tau') (fun _ => false) (fun k hk hok => ?_) (fun k hk hok => ?_) (Ev.ite_f (by simp) (Ev.pure _)) (s := 1) (by omega)) (fun res ⟨g1, g2⟩ => Ev.bind g1.ev ?_)
        · obtain ⟨s, hs'⟩ := get_lt hk
          have hk' : decide ((k : Int) < (ls.length : Int)) = true := by simpa using hk
          have hc : (condX ls k fun s => s == tau') = false := by rwa [Bool.not_eq_true'] at hok
          exact Ev.ite_t hk' (Ev.bindc (idx_at hs') ((cond k s hk hs').eq (by rw [hc]; rfl)))
        · obtain ⟨s, hs'⟩ := get_lt hk
          have hk' : decide ((k : Int) < (ls.length : Int)) = true := by simpa using hk
          have hc : (condX ls k fun s => s == tau') = true := by rwa [Bool.not_eq_false'] at hok
          exact Ev.ite_t hk' (Ev.bindc (idx_at hs') ((cond k s hk hs').eq (by rw [hc]; rfl)))
        · have hrel : ∀ k, 1 ≤ k → (!condX ls k fun s => s == tau') = okL ls k := by
            intro k hk1
            unfold okL condX
            have : ((k : Int) == 0) = false := beq_false_of_ne (by omega)
            rw [this]
            simp only [Bool.bne_false]
          have h0k : okL ls 0 = true := by
            unfold okL condX
            rw [hs0, h2]
            have : labelP tau' = true := by unfold labelP; rw [if_neg (by decide)]; exact name_tau
            simp only [this]
            rfl
          rcases g2 with ⟨rfl, h⟩ | ⟨k, hk1, hk, hok, _, rfl⟩
          · refine (Ev.pure _).eq (decide_eq_true fun k hk => ?_).symm
            cases k with
            | zero => exact h0k
            | succ j => rw [← hrel _ (by omega)]; exact h _ (by omega) hk
          · refine (Ev.pure _).eq (decide_eq_false fun h => ?_).symm
            rw [hrel k hk1, h k hk] at hok
            cases hok
      · have e2 : (s0 != ([116, 97, 117] : Str)) = true := bne_iff_ne.2 h2
        refine Ev.eq (r := false) (Ev.const' fun m => by simp only [e, e1, hi, e2, if_true, Bool.false_eq_true, if_false, Option.bind_some]) ?_
        rw [decide_eq_false]
        intro h
        have := h 0 (by omega)
        unfold okL condX at this
        rw [hs0] at this
        have e3 : (s0 == tau') = false := beq_false_of_ne h2
        simp [e3] at this

/-! ### edges -/
theorem valid_spec {t : Timpl_Lts} (hl : t.2.2.1.length ≤ 1048576) (hs : ∀ s ∈ t.2.2.1, s.length ≤ 1048576) (he : t.2.2.2.length ≤ 1048576) : Ev (fun m => spec_l11Is_m m t) (validP t) := by
  have hm := mx
  unfold spec_l11Is_m validP
  simp only [l00In_eq, Option.bind_some]
  cases h1 : inn t.1 1 40
  · unfold inn at h1
    exact Ev.eq (r := false) (Ev.const' fun m => by simp only [h1, Bool.not_false, if_true, Option.bind_some]) rfl
  · unfold inn at h1
    cases h2 : inn t.2.1 0 (W (t.1 - 1))
    · unfold inn at h2
      exact Ev.eq (r := false) (Ev.const' fun m => by simp only [h1, h2, Bool.not_false, Bool.not_true, Bool.false_eq_true, if_true, if_false, Option.bind_some]) rfl
    · unfold inn at h2
      simp only [h1, h2, Bool.not_true, Bool.false_eq_true, if_false, Option.bind_some]
      refine Ev.bind (Ev.bind (names_spec hl hs) (Ev.pure _)) ?_
      cases h3 : labsP t.2.2.1
      · exact Ev.eq (r := false) (Ev.const' fun m => by simp only [Bool.not_false, if_true, Option.bind_some]) rfl
      · simp only [Bool.not_true, Bool.false_eq_true, if_false, Option.bind_some, Bool.and_true, Bool.true_and]
        unfold edgesP
        by_cases h4 : 300 < t.2.2.2.length
        · rw [decide_eq_false (show ¬ t.2.2.2.length ≤ 300 by omega)]
          exact Ev.ite_t (decide_eq_true (by omega)) (Ev.pure _)
        · rw [decide_eq_true (show t.2.2.2.length ≤ 300 by omega), Bool.true_and]
          refine Ev.ite_f (by simp; omega) ?_
          have cond : ∀ k e, k < t.2.2.2.length → t.2.2.2[k]? = some e → (if (!(decide ((0 : Int) ≤ e.1) && decide (e.1 ≤ W (t.1 - 1)))) = true then some true else some (!(decide ((0 : Int) ≤ e.2.2) && decide (e.2.2 ≤ W (t.1 - 1))))) = some (!inn e.1 0 (W (t.1 - 1)) || !inn e.2.2 0 (W (t.1 - 1))) := fun k e _ _ => by rw [or_some]; rfl
          have c3 : ∀ k e, k < t.2.2.2.length → t.2.2.2[k]? = some e → (if (decide ((0 : Int) < (k : Int))) = true then (idx t.2.2.2 (W ((k : Int) - (1 : Int)))).bind fun x261 => some (!edgeLess x261 e) else some false) = some (decide ((0 : Int) < (k : Int)) && (match t.2.2.2[k - 1]? with | none => false | some p => !edgeLess p e)) := by
            intro k e hk he'
            cases k with
            | zero => rfl
            | succ j =>
              obtain ⟨p, hp⟩ := get_lt (xs := t.2.2.2) (k := j) (by omega)
              rw [W_pred (k := j) (n := t.2.2.2.length) (by omega) (by omega), idx_at hp, Nat.add_sub_cancel, hp, Option.bind_some, and_some]
          refine (Ev.all t.2.2.2.length (fun k => !condE (W (t.1 - 1)) (W ((t.2.2.1.length : Int) - 1)) t.2.2.2 k) false true (fun k hk hok => Ev.const' fun m => ?_) (fun k hk hok => Ev.const' fun m => ?_) (Ev.ite_f (by simp) (Ev.pure _))).eq (by split <;> simp_all)
          · obtain ⟨e, he'⟩ := get_lt hk
            have hk' : decide ((k : Int) < (t.2.2.2.length : Int)) = true := by simpa using hk
            have hc : condE (W (t.1 - 1)) (W ((t.2.2.1.length : Int) - 1)) t.2.2.2 k = false := by rwa [Bool.not_eq_true'] at hok
            unfold condE at hc
            rw [he'] at hc
            simp only [Bool.or_eq_false_iff] at hc
            obtain ⟨⟨g1, g2⟩, g3, g4⟩ := hc
            unfold inn at g1 g2 g3
            simp only [hk', if_true, idx_at he', Option.bind_some, g1, g2, g3, Bool.false_eq_true, if_false, less_m, c3 k e hk he', g4, W_succ hk (by omega)]
          · obtain ⟨e, he'⟩ := get_lt hk
            have hk' : decide ((k : Int) < (t.2.2.2.length : Int)) = true := by simpa using hk
            have hc : condE (W (t.1 - 1)) (W ((t.2.2.1.length : Int) - 1)) t.2.2.2 k = true := by rwa [Bool.not_eq_false'] at hok
            unfold condE at hc
            rw [he'] at hc
            simp only [hk', if_true, idx_at he', Option.bind_some, or_some, less_m]
            cases ha : (!(decide ((0 : Int) ≤ e.1) && decide (e.1 ≤ W (t.1 - 1))) || !(decide ((0 : Int) ≤ e.2.2) && decide (e.2.2 ≤ W (t.1 - 1))))
            · cases hb : (!(decide ((0 : Int) ≤ e.2.1) && decide (e.2.1 ≤ W ((t.2.2.1.length : Int) - 1))))
              · have hd : (decide ((0 : Int) < (k : Int)) && (match t.2.2.2[k - 1]? with | none => false | some p => !edgeLess p e)) = true := by
                  unfold inn at hc
                  simp only [ha, hb, Bool.false_or] at hc
                  exact hc
                simp only [Bool.false_or, Bool.false_eq_true, if_false, c3 k e hk he', hd, Option.bind_some, if_true]
              · simp only [Bool.false_or, if_true]
            · simp only [Bool.true_or, if_true]
structure VL (t : Timpl_Lts) (n : Nat) : Prop where
  st : t.1 = (n : Int)
  pos : 1 ≤ n
  top : n ≤ 40
  ini : 0 ≤ t.2.1 ∧ t.2.1 < (n : Int)
  labs : 1 ≤ t.2.2.1.length ∧ t.2.2.1.length ≤ 12
  lab : ∀ k, k < t.2.2.1.length → okL t.2.2.1 k = true
  few : t.2.2.2.length ≤ 300
  src : ∀ e ∈ t.2.2.2, 0 ≤ e.1 ∧ e.1 < (n : Int)
  dst : ∀ e ∈ t.2.2.2, 0 ≤ e.2.2 ∧ e.2.2 < (n : Int)
  lbl : ∀ e ∈ t.2.2.2, 0 ≤ e.2.1 ∧ e.2.1 < (t.2.2.1.length : Int)
  ord : ∀ (k : Nat) (p e : Timpl_Edge), t.2.2.2[k]? = some p → t.2.2.2[k + 1]? = some e → edgeLess p e = true

theorem valid_of {t : Timpl_Lts} (h : validP t = true) : ∃ n, VL t n := by
  unfold validP edgesP labsP at h
  simp only [Bool.and_eq_true] at h
  obtain ⟨⟨⟨h1, h2⟩, ⟨h3, h4⟩, h5⟩, h6, h7⟩ := h
  unfold inn at h1 h2
  simp only [Bool.and_eq_true, decide_eq_true_eq] at h1 h2 h3 h4 h5 h6 h7
  have hw : W (t.1 - 1) = t.1 - 1 := W_of (by omega) (by omega)
  have hw2 : W ((t.2.2.1.length : Int) - 1) = (t.2.2.1.length : Int) - 1 := W_of (by omega) (by omega)
  rw [hw] at h2 h7
  rw [hw2] at h7
  have key : ∀ (k : Nat) (e : Timpl_Edge), t.2.2.2[k]? = some e → ((0 ≤ e.1 ∧ e.1 ≤ t.1 - 1) ∧ (0 ≤ e.2.2 ∧ e.2.2 ≤ t.1 - 1)) ∧ (0 ≤ e.2.1 ∧ e.2.1 ≤ (t.2.2.1.length : Int) - 1) ∧ ∀ (j : Nat) (p : Timpl_Edge), k = j + 1 → t.2.2.2[j]? = some p → edgeLess p e = true := by
    intro k e he
    have hk := (List.getElem?_eq_some_iff.1 he).1
    have h := h7 k hk
    unfold condE inn at h
    rw [he] at h
    simp only [Bool.not_eq_true', Bool.or_eq_false_iff, Bool.not_eq_false', Bool.and_eq_true, decide_eq_true_eq] at h
    obtain ⟨⟨a, b⟩, c, d⟩ := h
    refine ⟨⟨a, b⟩, c, fun j p hj hp => ?_⟩
    subst hj
    have hpos : decide ((0 : Int) < ((j + 1 : Nat) : Int)) = true := decide_eq_true (by omega)
    rw [hpos, Bool.true_and, Nat.add_sub_cancel, hp] at d
    simpa using d
  have ofm : ∀ e ∈ t.2.2.2, ((0 ≤ e.1 ∧ e.1 ≤ t.1 - 1) ∧ (0 ≤ e.2.2 ∧ e.2.2 ≤ t.1 - 1)) ∧ (0 ≤ e.2.1 ∧ e.2.1 ≤ (t.2.2.1.length : Int) - 1) := by
    intro e he
    obtain ⟨k, hk, rfl⟩ := List.getElem_of_mem he
    obtain ⟨a, b, _⟩ := key k _ (List.getElem?_eq_getElem hk)
    exact ⟨a, b⟩
  refine ⟨t.1.toNat, ⟨by omega, by omega, by omega, by omega, ⟨h3, h4⟩, h5, h6, fun e he => ?_, fun e he => ?_, fun e he => ?_, fun k p e hp he => (key (k + 1) e he).2.2 k p rfl hp⟩⟩
  · have := (ofm e he).1.1; omega
  · have := (ofm e he).1.2; omega
  · have := (ofm e he).2; omega

/-! ### ways and distances -/
def pr (bk : Bool) (e : Timpl_Edge) : Int × Int := if bk = true then (e.2.2, e.1) else (e.1, e.2.2)
def Ws (n : Nat) (ps : List (Int × Int)) : Prop := ∀ e ∈ ps, (0 ≤ e.1 ∧ e.1 < (n : Int)) ∧ (0 ≤ e.2 ∧ e.2 < (n : Int))
def Rg (n : Nat) (fr : List Int) : Prop := ∀ v ∈ fr, 0 ≤ v ∧ v < (n : Int)
def Rch (ps : List (Int × Int)) (fr : List Int) : Nat → Int → Prop
  | 0, v => v ∈ fr
  | d + 1, v => ∃ e ∈ ps, Rch ps fr d e.1 ∧ e.2 = v
def Mn (ps : List (Int × Int)) (fr : List Int) (d : Nat) (v : Int) : Prop := Rch ps fr d v ∧ ∀ c, c < d → ¬ Rch ps fr c v
theorem VL.ws {t : Timpl_Lts} {n : Nat} (V : VL t n) (bk : Bool) : Ws n (t.2.2.2.map (pr bk)) := by
  intro e he
  obtain ⟨x, hx, rfl⟩ := List.mem_map.1 he
  have a := V.src x hx
  have b := V.dst x hx
  cases bk
  · exact ⟨a, b⟩
  · exact ⟨b, a⟩

section
variable {n : Nat} {ps : List (Int × Int)} {fr : List Int}
theorem mn_uniq {c d : Nat} {v : Int} (h : Mn ps fr c v) (h' : Mn ps fr d v) : c = d := by
  by_cases h1 : c < d
  · exact absurd h.1 (h'.2 c h1)
  · by_cases h2 : d < c
    · exact absurd h'.1 (h.2 d h2)
    · omega
theorem mn_pred {d : Nat} {v : Int} (h : Mn ps fr (d + 1) v) : ∃ e ∈ ps, Mn ps fr d e.1 ∧ e.2 = v := by
  obtain ⟨⟨e, he, h1, h2⟩, h3⟩ := h
  exact ⟨e, he, ⟨h1, fun c hc hr => h3 (c + 1) (by omega) ⟨e, he, hr, h2⟩⟩, h2⟩
theorem rch_rg (hw : Ws n ps) (hf : Rg n fr) : ∀ {d : Nat} {v : Int}, Rch ps fr d v → 0 ≤ v ∧ v < (n : Int)
  | 0, v, h => hf v h
  | d + 1, v, ⟨e, he, _, h2⟩ => by subst h2; exact (hw e he).2
structure Bfs (n : Nat) (ps : List (Int × Int)) (fr : List Int) (d : Nat) (f : Int → Int) (a b : List Int) : Prop where
  val : ∀ v, 0 ≤ v → v < (n : Int) → f v = -1 ∨ ∃ c : Nat, c ≤ d + 1 ∧ f v = (c : Int) ∧ Mn ps fr c v
  full : ∀ (v : Int) (c : Nat), c ≤ d → Mn ps fr c v → f v = (c : Int)
  one : ∀ u ∈ a, (0 ≤ u ∧ u < (n : Int)) ∧ f u = (d : Int)
  two : ∀ u ∈ b, (0 ≤ u ∧ u < (n : Int)) ∧ f u = (d : Int) + 1
  all : ∀ v, 0 ≤ v → v < (n : Int) → f v = (d : Int) + 1 → v ∈ b
  done : ∀ u, 0 ≤ u → u < (n : Int) → f u = (d : Int) → u ∉ a → ∀ e ∈ ps, e.1 = u → f e.2 ≠ -1

theorem Bfs.level (hw : Ws n ps) (hf : Rg n fr) {d : Nat} {f : Int → Int} {b : List Int} (h : Bfs n ps fr d f [] b) : Bfs n ps fr (d + 1) f b [] where
  val v h0 h1 := by
    rcases h.val v h0 h1 with q | ⟨c, q1, q⟩
    · exact .inl q
    · exact .inr ⟨c, by omega, q⟩
  full v c hc hm := by
    by_cases hd : c ≤ d
    · exact h.full v c hd hm
    obtain rfl : c = d + 1 := by omega
    obtain ⟨e, he, h1, h2⟩ := mn_pred hm
    have ra := rch_rg hw hf h1.1
    have rv := rch_rg hw hf hm.1
    have hx := h.done e.1 ra.1 ra.2 (h.full _ _ (Nat.le_refl _) h1) (by simp) e he rfl
    rw [h2] at hx
    rcases h.val v rv.1 rv.2 with q | ⟨c', _, q2, q3⟩
    · exact absurd q hx
    · rw [q2, mn_uniq q3 hm]
  one u hu := by have := h.two u hu; exact ⟨this.1, by rw [this.2]; rfl⟩
  two u hu := by cases hu
  all v h0 h1 hv := by
    rcases h.val v h0 h1 with q | ⟨c, q1, q, _⟩
    · rw [q] at hv; push_cast at hv; omega
    · rw [q] at hv; push_cast at hv; omega
  done u h0 h1 hu hn := absurd (h.all u h0 h1 (by rw [hu]; rfl)) hn

/-- In the middle of the edges. -/
structure BfsM (n : Nat) (ps : List (Int × Int)) (fr : List Int) (d : Nat) (u : Int) (r : List Int) (K i : Nat) (s : (Int → Int) × List Int) : Prop where
  at_ : s.1 u = (d : Int)
  tot : (tab n s.1).countP (fun x => decide (x < 0)) + s.2.length = K
  inv : ∃ b, s.2 = r ++ b ∧ (∀ v, 0 ≤ v → v < (n : Int) → s.1 v = -1 ∨ ∃ c : Nat, c ≤ d + 1 ∧ s.1 v = (c : Int) ∧ Mn ps fr c v) ∧ (∀ (v : Int) (c : Nat), c ≤ d → Mn ps fr c v → s.1 v = (c : Int)) ∧
    (∀ x ∈ r, (0 ≤ x ∧ x < (n : Int)) ∧ s.1 x = (d : Int)) ∧ (∀ x ∈ b, (0 ≤ x ∧ x < (n : Int)) ∧ s.1 x = (d : Int) + 1) ∧ (∀ v, 0 ≤ v → v < (n : Int) → s.1 v = (d : Int) + 1 → v ∈ b) ∧
    (∀ x, 0 ≤ x → x < (n : Int) → s.1 x = (d : Int) → x ∉ r → x ≠ u → ∀ e ∈ ps, e.1 = x → s.1 e.2 ≠ -1) ∧ ∀ (j : Nat) (e : Int × Int), j < i → ps[j]? = some e → e.1 = u → s.1 e.2 ≠ -1

def BfsI (n : Nat) (ps : List (Int × Int)) (fr : List Int) (s : (Int → Int) × List Int) : Prop :=
  (tab n s.1).countP (fun x => decide (x < 0)) + s.2.length ≤ n + fr.length ∧ ∃ d a b, s.2 = a ++ b ∧ Bfs n ps fr d s.1 a b

theorem BfsI.head (hw : Ws n ps) (hf : Rg n fr) {f : Int → Int} {u : Int} {r : List Int} (h : BfsI n ps fr (f, u :: r)) :
    ∃ d r', Mn ps fr d u ∧ (0 ≤ u ∧ u < (n : Int)) ∧ BfsM n ps fr d u r' ((tab n f).countP (fun x => decide (x < 0)) + r.length) 0 (f, r) ∧ ∀ s : (Int → Int) × List Int, BfsM n ps fr d u r' ((tab n f).countP (fun x => decide (x < 0)) + r.length) ps.length s → BfsI n ps fr s := by
  obtain ⟨hK, d, a, b, hab, hB⟩ := h
  simp only [List.length_cons] at hK
  have key : ∀ d b r', r = r' ++ b → Bfs n ps fr d f (u :: r') b → ∃ d r', Mn ps fr d u ∧ (0 ≤ u ∧ u < (n : Int)) ∧ BfsM n ps fr d u r' ((tab n f).countP (fun x => decide (x < 0)) + r.length) 0 (f, r) ∧ ∀ s : (Int → Int) × List Int, BfsM n ps fr d u r' ((tab n f).countP (fun x => decide (x < 0)) + r.length) ps.length s → BfsI n ps fr s := by
    intro d b r' hr hB
    have hu := hB.one u (by simp)
    have hmu : Mn ps fr d u := by
      rcases hB.val u hu.1.1 hu.1.2 with q | ⟨c, _, q1, q2⟩
      · have := hu.2; omega
      · have := hu.2
        obtain rfl : c = d := by omega
        exact q2
    refine ⟨d, r', hmu, hu.1, ⟨hu.2, rfl, b, hr, hB.val, hB.full, fun x hx => hB.one x (List.mem_cons_of_mem _ hx), hB.two, hB.all, fun x p q hx hxr hxu => hB.done x p q hx (by simp [hxr, hxu]), fun j e hj => by omega⟩, fun s hM => ?_⟩
    obtain ⟨b', hb', h1, h2, h3, h4, h5, h6, h7⟩ := hM.inv
    refine ⟨by have := hM.tot; omega, d, r', b', hb', ⟨h1, h2, h3, h4, h5, fun x p q hx hxr e he hex => ?_⟩⟩
    by_cases hxu : x = u
    · obtain ⟨j, hj, rfl⟩ := List.getElem_of_mem he
      exact h7 j _ hj (List.getElem?_eq_getElem hj) (hex.trans hxu)
    · exact h6 x p q hx hxr hxu e he hex
  cases a with
  | nil =>
    have e : b = u :: r := hab.symm
    subst e
    exact key (d + 1) [] r (by simp) (hB.level hw hf)
  | cons x r' =>
    simp only [List.cons_append, List.cons.injEq] at hab
    obtain ⟨rfl, hr⟩ := hab
    exact key d b r' hr hB

end
section
variable {n : Nat} {ok : Timpl_Edge → Bool} {es : List Timpl_Edge} {f0 : Int → Bool}
end
abbrev GStrs : List Str → Prop := gList gStr
abbrev GEd : Tlaws_Edge → Prop := gAnd (gInt .i64) (gAnd (gInt .i64) (gInt .i64))
abbrev GEds : List Tlaws_Edge → Prop := gList GEd
abbrev GLts : Tlaws_Lts → Prop := gAnd (gInt .i64) (gAnd (gInt .i64) (gAnd GStrs GEds))
def BLts (t : Timpl_Lts) : Prop := t.2.2.1.length ≤ 1048576 ∧ (∀ s ∈ t.2.2.1, s.length ≤ 1048576) ∧ t.2.2.2.length ≤ 1048576

theorem sz_strs {a : List Str} (g : GStrs a) {b : Int} (h0 : 0 ≤ b) (hb : b ≤ 1048576) : ∃ r, Ev (fun n => laws_szStringS_m n a b) r ∧ Sz b r (a.length ≤ 1048576 ∧ ∀ s ∈ a, s.length ≤ 1048576) := by
  have hm := mx
  have hl := g.1
  unfold laws_szStringS_m
  rw [W_of (n := b - (a.length : Int)) (by omega) (by omega)]
  by_cases h : b - (a.length : Int) < 0
  · exact ⟨-1, Ev.ite_t (by simpa using h) (Ev.pure _), .inl (by omega)⟩
  · refine Exists.elim (EvI.count (β := Int ⊕ Int) (step := _)
      a.length (fun k (t : Int) => (t, (k : Int))) (fun k t => 0 ≤ t ∧ t ≤ b ∧ ∀ i, i < k → ∀ x, a[i]? = some x → x.length ≤ 1048576) (fun r => r = .inr (-1) ∨ ∃ t, r = .inl t ∧ 0 ≤ t ∧ t ≤ b ∧ ∀ x ∈ a, x.length ≤ 1048576)
      ?_ ?_ (k := 0) (t := b - (a.length : Int)) (Nat.zero_le _) ⟨by omega, by omega, fun i hi => by omega⟩) (fun res ⟨h1, h2⟩ => Exists.intro (match res with | .inl t => t | .inr t => t) ⟨Ev.ite_f (by simpa using h) (Ev.bind h1.ev (Ev.const (by cases res <;> rfl))), by
        rcases h2 with rfl | ⟨t, rfl, h3, h4, h5⟩
        · exact .inl (by show (-1 : Int) < 0; omega)
        · exact .inr ⟨h3, h4, by omega, h5⟩⟩)
    · rintro k t hk ⟨ht0, htb, hp⟩
      obtain ⟨x, hx⟩ := get_lt hk
      have gx := g.2 x (List.mem_of_getElem? hx)
      have hw : W (t - (x.length : Int)) = t - (x.length : Int) := W_of (by omega) (by omega)
      by_cases hneg : t - (x.length : Int) < 0
      · exact .inr ⟨_, Ev.ite_t (by simpa using hk) (Ev.bindc (idx_at hx) (Ev.ite_t (by rw [hw]; exact decide_eq_true hneg) (Ev.pure _))), .inl rfl⟩
      · refine .inl ⟨t - (x.length : Int), (Ev.ite_t (by simpa using hk) (Ev.bindc (idx_at hx) (Ev.ite_f (by rw [hw]; simpa using hneg) (Ev.pure _)))).eq ?_, by omega, by omega, fun i hi y hy => ?_⟩
        · rw [hw, W_of (by omega) (by omega)]; rfl
        · by_cases hik : i = k
          · subst hik; rw [hx] at hy; cases hy; omega
          · exact hp i (by omega) y hy
    · rintro t ⟨ht0, htb, hp⟩
      refine ⟨_, Ev.ite_f (by simp) (Ev.pure _), .inr ⟨t, rfl, ht0, htb, fun x hx => ?_⟩⟩
      obtain ⟨i, hi, rfl⟩ := List.getElem_of_mem hx
      exact hp i hi _ (List.getElem?_eq_getElem hi)

theorem sz_lts {a : Tlaws_Lts} (g : GLts a) {b : Int} (h0 : 0 ≤ b) (hb : b ≤ 1048576) : ∃ r, Ev (fun n => laws_szLts_m n a b) r ∧ Sz b r (BLts a) := by
  obtain ⟨r1, h1, s1⟩ := sz_strs g.2.2.1 h0 hb
  by_cases n1 : r1 < 0
  · exact ⟨-1, Ev.bind h1 (Ev.ite_t (by simpa using n1) (Ev.pure _)), .inl (by omega)⟩
  · rcases s1 with s1 | ⟨p1, q1, b1⟩
    · exact absurd s1 n1
    · obtain ⟨r2, h2, s2⟩ := sz_leaf (n := a.2.2.2.length) (b := r1) p1 (by omega) g.2.2.2.1
      by_cases n2 : r2 < 0
      · exact ⟨-1, Ev.bind h1 (Ev.ite_f (by simpa using n1) (Ev.bind h2 (Ev.ite_t (by simpa using n2) (Ev.pure _)))), .inl (by omega)⟩
      · rcases s2 with s2 | ⟨p2, q2, b2⟩
        · exact absurd s2 n2
        · exact ⟨r2, Ev.bind h1 (Ev.ite_f (by simpa using n1) (Ev.bind h2 (Ev.ite_f (by simpa using n2) (Ev.pure _)))), .inr ⟨p2, by omega, b1.1, b1.2, b2⟩⟩

theorem toB_strs {a : List Str} (hl : a.length ≤ 1048576) : Ev (fun n => laws_toStringS_m n a) a := by
  have := to_loop («to» := fun _ (x : Str) => some x) (f := id) (a := a) (z := ([] : Str)) (fun x _ => Ev.pure x) hl
  rw [List.map_id] at this
  exact this
theorem toB_edges {a : List Tlaws_Edge} (hl : a.length ≤ 1048576) : Ev (fun n => laws_toEdgeS_m n a) a := by
  have := to_loop («to» := fun n x => laws_toEdge_m n x) (f := id) (a := a) (z := ((0 : Int), (0 : Int), (0 : Int))) (fun x _ => Ev.pure x) hl
  rw [List.map_id] at this
  exact this
theorem toB_lts {a : Tlaws_Lts} (h : BLts a) : Ev (fun n => laws_toLts_m n a) a := Ev.bind (toB_strs h.1) (Ev.bind (toB_edges h.2.2) (Ev.pure _))

theorem eqB_strs {a : List Str} (h : a.length ≤ 1048576) : Ev (fun n => laws_eqStringS_m n a a) true := eq_loop_ints (by have := mx; omega)
theorem eqB_edges {a : List Timpl_Edge} (h : a.length ≤ 1048576) : Ev (fun n => laws_eqEdgeS_m n a a) true :=
  eq_loop (eq := fun n x y => laws_eqEdge_m n x y) (fun x _ => Ev.ite_f (by simp) (Ev.ite_f (by simp) (Ev.ite_f (by simp) (Ev.pure _)))) (by have := mx; omega)
theorem eqB_lts {a : Timpl_Lts} (h : BLts a) : Ev (fun n => laws_eqLts_m n a a) true :=
  Ev.ite_f (by simp) (Ev.ite_f (by simp) (Ev.bind (eqB_strs h.1) (Ev.ite_f (by simp) (Ev.bind (eqB_edges h.2.2) (Ev.ite_f (by simp) (Ev.pure _))))))
theorem valid_impl {t : Timpl_Lts} (hl : t.2.2.1.length ≤ 1048576) (hs : ∀ s ∈ t.2.2.1, s.length ≤ 1048576) (he : t.2.2.2.length ≤ 1048576) : Ev (fun m => impl_ValidLts_m m t) (validP t) := by
  have hm := mx
  unfold impl_ValidLts_m validP
  simp only [within_eq, isState_m, index_eq, Option.bind_some]
  cases h1 : inn t.1 1 40
  · unfold inn at h1
    exact Ev.eq (r := false) (Ev.const' fun m => by simp only [h1, Bool.not_false, if_true, Option.bind_some]) rfl
  · unfold inn at h1
    cases h2 : inn t.2.1 0 (W (t.1 - 1))
    · exact Ev.eq (r := false) (Ev.const' fun m => by simp only [h1, Bool.not_false, Bool.not_true, Bool.false_eq_true, if_true, if_false, Option.bind_some]) rfl
    · simp only [h1, Bool.not_true, Bool.false_eq_true, if_false, Option.bind_some, Bool.true_and]
      by_cases h3 : 1 ≤ t.2.2.1.length ∧ t.2.2.1.length ≤ 12
      · have e3 : (decide ((1 : Int) ≤ (t.2.2.1.length : Int)) && decide ((t.2.2.1.length : Int) ≤ 12)) = true := by
          rw [decide_eq_true (by omega : (1 : Int) ≤ (t.2.2.1.length : Int)), decide_eq_true (by omega : (t.2.2.1.length : Int) ≤ 12)]; rfl
        simp only [e3, Bool.not_true, Bool.false_eq_true, if_false, Option.bind_some]
        unfold edgesP
        by_cases h4 : 300 < t.2.2.2.length
        · rw [decide_eq_false (show ¬ t.2.2.2.length ≤ 300 by omega), Bool.false_and, Bool.and_false]
          exact Ev.ite_t (decide_eq_true (by omega)) (Ev.pure _)
        · rw [decide_eq_true (show t.2.2.2.length ≤ 300 by omega), Bool.true_and]
          refine Ev.ite_f (by simp; omega) ?_
          have hlab : labsP t.2.2.1 = decide (∀ k, k < t.2.2.1.length → okL t.2.2.1 k = true) := by
            unfold labsP
            rw [decide_eq_true h3.1, decide_eq_true h3.2]; rfl
          rw [hlab]
          have cond : ∀ k s, k < t.2.2.1.length → t.2.2.1[k]? = some s → Ev (fun m => (impl_IsLabel_m m s).bind fun x357 => (if (!x357) = true then some true else some ((s == ([116, 97, 117] : Str)) != ((k : Int) == (0 : Int)))).bind fun t360 => (if t360 = true then some true else (if (decide ((1 : Int) < (k : Int))) = true then (idx t.2.2.1 (W ((k : Int) - (1 : Int)))).bind fun x369 => some (Op.bytesLess s x369 || s == x369) else some false).bind fun t366 => some t366).bind fun t363 => (if t363 = true then some (.inr (.inr false)) else some (.inl ((W ((k : Int) + (1 : Int))))) : Option (Int ⊕ (Unit ⊕ Bool)))) (if okL t.2.2.1 k = true then .inl ((k + 1 : Nat) : Int) else .inr (.inr false)) := by
            intro k s hk hs'
            refine Ev.bind (label_impl (hs s (List.mem_of_getElem? hs'))) (Ev.const ?_)
            have e : ∀ (c : Bool) (x y : Int ⊕ (Unit ⊕ Bool)), some (if c = true then x else y) = some (if (!c) = true then y else x) := by intro c x y; cases c <;> rfl
            unfold okL condX
            rw [hs']
            cases k with
            | zero =>
              simp only [Option.bind_some, or_some, show decide ((1 : Int) < ((0 : Nat) : Int)) = false from rfl, Bool.false_eq_true, if_false, W_succ hk (by omega), Bool.false_and, Bool.or_false]
              rw [ite_some, e]
              rfl
            | succ j =>
              obtain ⟨p, hp⟩ := get_lt (xs := t.2.2.1) (k := j) (by omega)
              have w2 := W_pred (k := j) (n := t.2.2.1.length) (by omega) (by omega)
              simp only [hp, w2, idx_at hp, Option.bind_some, or_some, and_some, W_succ hk (by omega), Nat.add_sub_cancel, bl_le]
              rw [ite_some, e, Bool.or_assoc]
              rfl
          refine Ev.bind (EvI.all t.2.2.1.length (okL t.2.2.1) false (fun k hk hok => ?_) (fun k hk hok => ?_) (Ev.ite_f (by simp) (Ev.pure _))).ev ?_
          · obtain ⟨s, hs'⟩ := get_lt hk
            have hk' : decide ((k : Int) < (t.2.2.1.length : Int)) = true := by simpa using hk
            exact Ev.ite_t hk' (Ev.bindc (idx_at hs') ((cond k s hk hs').eq (by rw [hok]; rfl)))
          · obtain ⟨s, hs'⟩ := get_lt hk
            have hk' : decide ((k : Int) < (t.2.2.1.length : Int)) = true := by simpa using hk
            exact Ev.ite_t hk' (Ev.bindc (idx_at hs') ((cond k s hk hs').eq (by rw [hok]; rfl)))
          · by_cases h5 : ∀ k, k < t.2.2.1.length → okL t.2.2.1 k = true
            · rw [if_pos h5, decide_eq_true h5, Bool.true_and]
              have c3 : ∀ k e, k < t.2.2.2.length → t.2.2.2[k]? = some e → Ev (fun m => (if (decide ((0 : Int) < (k : Int))) = true then (idx t.2.2.2 (W ((k : Int) - (1 : Int)))).bind fun x327 => (impl_compareEdges_m m (x327.1, x327.2.1, x327.2.2) (e.1, e.2.1, e.2.2)).bind fun x342 => some (decide ((0 : Int) ≤ x342)) else some false)) (decide ((0 : Int) < (k : Int)) && (match t.2.2.2[k - 1]? with | none => false | some p => !edgeLess p e)) := by
                intro k e hk he'
                cases k with
                | zero => exact Ev.const' fun m => rfl
                | succ j =>
                  obtain ⟨p, hp⟩ := get_lt (xs := t.2.2.2) (k := j) (by omega)
                  have hpos : decide ((0 : Int) < ((j + 1 : Nat) : Int)) = true := decide_eq_true (by omega)
                  obtain ⟨r, hr1, hr2⟩ := edges_cmp p e
                  rw [W_pred (k := j) (n := t.2.2.2.length) (by omega) (by omega), Nat.add_sub_cancel, hp, hpos, Bool.true_and]
                  exact Ev.ite_t rfl (Ev.bindc (idx_at hp) (Ev.bind hr1 (Ev.const (by rw [hr2]))))
              refine (Ev.all t.2.2.2.length (fun k => !condE (W (t.1 - 1)) (W ((t.2.2.1.length : Int) - 1)) t.2.2.2 k) false true (fun k hk hok => ?_) (fun k hk hok => ?_) (Ev.ite_f (by simp) (Ev.pure _))).eq (by split <;> simp_all)
              all_goals
                obtain ⟨e, he'⟩ := get_lt hk
                have hk' : decide ((k : Int) < (t.2.2.2.length : Int)) = true := by simpa using hk
              · have hc : condE (W (t.1 - 1)) (W ((t.2.2.1.length : Int) - 1)) t.2.2.2 k = false := by rwa [Bool.not_eq_true'] at hok
                unfold condE at hc
                rw [he'] at hc
                simp only [Bool.or_eq_false_iff] at hc
                obtain ⟨⟨g1, g2⟩, g3, g4⟩ := hc
                have c := (c3 k e hk he').eq g4
                unfold inn at g3
                refine Ev.ite_t hk' (Ev.bindc (idx_at he') (Ev.bindc (a := false) ?_ (Ev.bindc (a := false) ?_ (Ev.bind (a := false) (Ev.ite_f (by simp) (Ev.bind c (Ev.pure _))) (Ev.ite_f (by simp) (Ev.const ?_))))))
                · simp only [g1, g2, Bool.false_eq_true, if_false]
                · simp only [g3, Bool.false_eq_true, if_false]
                · rw [W_succ hk (by omega)]
              · have hc : condE (W (t.1 - 1)) (W ((t.2.2.1.length : Int) - 1)) t.2.2.2 k = true := by rwa [Bool.not_eq_false'] at hok
                unfold condE at hc
                rw [he'] at hc
                have c := c3 k e hk he'
                refine Ev.ite_t hk' (Ev.bindc (idx_at he') (Ev.bindc (a := (!inn e.1 0 (W (t.1 - 1)) || !inn e.2.2 0 (W (t.1 - 1)))) (by rw [or_some]) (Ev.bindc (a := ((!inn e.1 0 (W (t.1 - 1)) || !inn e.2.2 0 (W (t.1 - 1))) || !inn e.2.1 0 (W ((t.2.2.1.length : Int) - 1)))) (by rw [or_some]; rfl) ?_)))
                refine Ev.bind (a := true) ?_ (Ev.ite_t rfl (Ev.pure _))
                cases ha : ((!inn e.1 0 (W (t.1 - 1)) || !inn e.2.2 0 (W (t.1 - 1))) || !inn e.2.1 0 (W ((t.2.2.1.length : Int) - 1)))
                · refine Ev.ite_f (by simp) (Ev.bind c (Ev.const ?_))
                  have hc' : ((!inn e.1 0 (W (t.1 - 1)) || !inn e.2.2 0 (W (t.1 - 1))) || (!inn e.2.1 0 (W ((t.2.2.1.length : Int) - 1)) || (decide ((0 : Int) < (k : Int)) && (match t.2.2.2[k - 1]? with | none => false | some p => !edgeLess p e)))) = true := hc
                  rw [← Bool.or_assoc, ha, Bool.false_or] at hc'
                  rw [hc']
                · exact Ev.ite_t rfl (Ev.pure _)
            · rw [if_neg h5, decide_eq_false h5, Bool.false_and]
              exact Ev.const' fun m => rfl
      · have e3 : (decide ((1 : Int) ≤ (t.2.2.1.length : Int)) && decide ((t.2.2.1.length : Int) ≤ 12)) = false := by
          apply Bool.eq_false_iff.2
          intro h
          rw [Bool.and_eq_true] at h
          exact h3 ⟨by have := of_decide_eq_true h.1; omega, by have := of_decide_eq_true h.2; omega⟩
        have hlab : labsP t.2.2.1 = false := by
          unfold labsP
          apply Bool.eq_false_iff.2
          intro h
          rw [Bool.and_eq_true, Bool.and_eq_true] at h
          exact h3 ⟨of_decide_eq_true h.1.1, of_decide_eq_true h.1.2⟩
        rw [hlab, Bool.false_and]
        exact Ev.const' fun m => by simp only [e3, Bool.not_false, if_true, Option.bind_some]
theorem EvI.first {β : Type} {step : Nat → Int → Option (Int ⊕ β)} {b : β} (i : Nat) (hs : ∀ j, j < i → Ev (fun m => step m (j : Int)) (.inl ((j + 1 : Nat) : Int))) (hi : Ev (fun m => step m (i : Int)) (.inr b)) : EvI step (0 : Int) b :=
  EvI.upto i (fun k (_ : Unit) => (k : Int)) (fun _ _ => True) (k := 0) (t := ()) rfl (Nat.zero_le _) trivial (fun k _t hk _ => ⟨(), hs k hk, trivial⟩) (fun _ _ => hi)

def fi {α : Type} (p : α → Bool) : List α → Nat
  | [] => 0
  | x :: l => if p x = true then 0 else fi p l + 1
theorem fi_ok {α : Type} {p : α → Bool} : ∀ {l : List α}, (∃ x ∈ l, p x = true) → ∃ x, l[fi p l]? = some x ∧ p x = true ∧ ∀ j y, j < fi p l → l[j]? = some y → p y = false
  | [], ⟨x, hx, _⟩ => by cases hx
  | z :: l, ⟨x, hx, hp⟩ => by
    unfold fi
    by_cases hz : p z = true
    · rw [if_pos hz]
      exact ⟨z, rfl, hz, fun j y hj => by omega⟩
    · rw [if_neg hz]
      obtain ⟨w, h1, h2, h3⟩ := fi_ok (l := l) (p := p) ⟨x, by
        rcases List.mem_cons.1 hx with rfl | h
        · exact absurd hp hz
        · exact h, hp⟩
      refine ⟨w, by simpa using h1, h2, fun j y hj hy => ?_⟩
      cases j with
      | zero =>
        obtain rfl : z = y := by simpa using hy
        simpa using hz
      | succ j => exact h3 j y (by omega) (by simpa using hy)
theorem fi_uniq {α : Type} {p : α → Bool} {l : List α} {k : Nat} {x : α} (hk : l[k]? = some x) (hx : p x = true) (hb : ∀ j y, j < k → l[j]? = some y → p y = false) : k = fi p l := by
  obtain ⟨y, h1, h2, h3⟩ := fi_ok (p := p) (l := l) ⟨x, List.mem_of_getElem? hk, hx⟩
  by_cases a : k < fi p l
  · rw [h3 k x a hk] at hx; cases hx
  · by_cases b : fi p l < k
    · rw [hb _ y b h1] at h2; cases h2
    · omega
/-! ### labels -/
theorem bl_trans : ∀ a b c : Str, Op.bytesLess a b = true → Op.bytesLess b c = true → Op.bytesLess a c = true
  | _, [], _, h, _ => by simp [Op.bytesLess] at h
  | _, _ :: _, [], _, h => by simp [Op.bytesLess] at h
  | [], _ :: _, _ :: _, _, _ => by simp [Op.bytesLess]
  | x :: a, y :: b, z :: c, h1, h2 => by
    simp only [Op.bytesLess, Bool.or_eq_true, Bool.and_eq_true, decide_eq_true_eq, beq_iff_eq] at h1 h2 ⊢
    rcases h1 with h1 | ⟨rfl, h1⟩
    · rcases h2 with h2 | ⟨rfl, h2⟩
      · left; rw [UInt8.lt_iff_toNat_lt] at h1 h2 ⊢; omega
      · exact .inl h1
    · rcases h2 with h2 | ⟨rfl, h2⟩
      · exact .inl h2
      · exact .inr ⟨rfl, bl_trans a b c h1 h2⟩

theorem VL.at_ {t : Timpl_Lts} {n : Nat} (V : VL t n) {k : Nat} {s : Str} (h : t.2.2.1[k]? = some s) : labelP s = true ∧ (s = tau' ↔ k = 0) ∧ ∀ (j : Nat) (p : Str), k = j + 1 → 0 < j → t.2.2.1[j]? = some p → Op.bytesLess p s = true := by
  have hk := (List.getElem?_eq_some_iff.1 h).1
  have h1 := V.lab k hk
  unfold okL condX at h1
  rw [h] at h1
  simp only [Bool.not_eq_true', Bool.or_eq_false_iff, Bool.not_eq_false'] at h1
  obtain ⟨a, b, c⟩ := h1
  refine ⟨a, ?_, fun j p hj h0 hp => ?_⟩
  · have b' : (s == tau') = ((k : Int) == 0) := by simpa using b
    constructor
    · intro e
      rw [e, beq_self_eq_true] at b'
      have := beq_iff_eq.1 b'.symm
      omega
    · intro e
      subst e
      exact beq_iff_eq.1 (b'.trans rfl)
  · subst hj
    rw [decide_eq_true (by omega), Bool.true_and, Nat.add_sub_cancel, hp] at c
    simpa using c
theorem VL.lt {t : Timpl_Lts} {n : Nat} (V : VL t n) : ∀ (d i : Nat) (s r : Str), 1 ≤ i → t.2.2.1[i]? = some s → t.2.2.1[i + d + 1]? = some r → Op.bytesLess s r = true
  | 0, i, s, r, h1, hs, hr => (V.at_ hr).2.2 i s rfl (by omega) hs
  | d + 1, i, s, r, h1, hs, hr => by
    have hl := (List.getElem?_eq_some_iff.1 hr).1
    obtain ⟨q, hq⟩ := get_lt (xs := t.2.2.1) (k := i + d + 1) (by omega)
    exact bl_trans _ _ _ (V.lt d i s q h1 hs hq) ((V.at_ hr).2.2 (i + d + 1) q rfl (by omega) hq)
theorem VL.one {t : Timpl_Lts} {n : Nat} (V : VL t n) {i j : Nat} {s : Str} (hi : t.2.2.1[i]? = some s) (hj : t.2.2.1[j]? = some s) : i = j := by
  have key : ∀ i j : Nat, i < j → t.2.2.1[i]? = some s → t.2.2.1[j]? = some s → False := by
    intro i j hij hi hj
    by_cases h0 : i = 0
    · have := ((V.at_ hj).2.1).1 (((V.at_ hi).2.1).2 h0)
      omega
    · obtain ⟨d, rfl⟩ : ∃ d, j = i + d + 1 := ⟨j - i - 1, by omega⟩
      have := V.lt d i s s (by omega) hi hj
      rw [bl_irr] at this
      cases this
  by_cases a : i < j
  · exact (key i j a hi hj).elim
  · by_cases b : j < i
    · exact (key j i b hj hi).elim
    · omega

/-- A text's place among labels. -/
def fnd (ls : List Str) (s : Str) : Int := if s ∈ ls then ((fi (fun x => x == s) ls : Nat) : Int) else -1
theorem fnd_of {ls : List Str} {s : Str} {r : Int} (h : (r = -1 ∧ ls.all (fun x => !(x == s)) = true) ∨ ∃ k x, k < ls.length ∧ r = (k : Int) ∧ ls[k]? = some x ∧ (!(x == s)) = false ∧ ∀ j y, j < k → ls[j]? = some y → (!(y == s)) = true) : r = fnd ls s := by
  unfold fnd
  rcases h with ⟨rfl, h⟩ | ⟨k, x, hk, rfl, hx, hc, hj⟩
  · rw [if_neg]
    intro hm
    have := List.all_eq_true.1 h s hm
    simp at this
  · have hxs : x = s := by simpa using hc
    rw [if_pos (by rw [← hxs]; exact List.mem_of_getElem? hx), fi_uniq (p := fun x => x == s) hx (by simpa using hc) (fun j y hjk hy => by simpa using hj j y hjk hy)]
theorem fnd_ge {ls : List Str} {s : Str} : 0 ≤ fnd ls s ↔ s ∈ ls := by
  unfold fnd
  split
  · rename_i h; exact ⟨fun _ => h, fun _ => by omega⟩
  · rename_i h; exact ⟨fun h' => absurd h' (by decide), fun h' => absurd h' h⟩
theorem find_spec {ls : List Str} {s : Str} (hl : ls.length ≤ maxLen) : Ev (fun m => spec_l11Find_m m ls s) (fnd ls s) := by
  obtain ⟨r, h1, h2⟩ := index_loop hl (f := fun _ x => some (x == s)) (ok := fun x => !(x == s)) (fun x _ => Ev.const (by simp))
  rw [fnd_of h2] at h1
  exact h1
/-- An edge's label. -/
def labT (t : Timpl_Lts) (e : Timpl_Edge) : Str := (idx t.2.2.1 e.2.1).getD []
theorem labT_at {t : Timpl_Lts} {n : Nat} (V : VL t n) {e : Timpl_Edge} (he : e ∈ t.2.2.2) : idx t.2.2.1 e.2.1 = some (labT t e) := by
  have hl := V.lbl e he
  obtain ⟨s, hs⟩ := get_lt (xs := t.2.2.1) (k := e.2.1.toNat) (by omega)
  have hs' := idx_at hs
  rw [show ((e.2.1.toNat : Nat) : Int) = e.2.1 by omega] at hs'
  unfold labT
  rw [hs']; rfl
/-! ### edges in order -/
theorem edgeLess_trans {a b c : Timpl_Edge} (h1 : edgeLess a b = true) (h2 : edgeLess b c = true) : edgeLess a c = true := by
  unfold edgeLess at *
  by_cases p1 : a.1 = b.1 <;> by_cases p2 : a.2.1 = b.2.1 <;> by_cases q1 : b.1 = c.1 <;> by_cases q2 : b.2.1 = c.2.1 <;> by_cases r1 : a.1 = c.1 <;> by_cases r2 : a.2.1 = c.2.1 <;> simp_all <;> omega
theorem VL.sorted {t : Timpl_Lts} {n : Nat} (V : VL t n) : t.2.2.2.Pairwise fun a b => edgeLess a b = true := by
  have key : ∀ (d i : Nat) (p e : Timpl_Edge), t.2.2.2[i]? = some p → t.2.2.2[i + d + 1]? = some e → edgeLess p e = true := by
    intro d
    induction d with
    | zero => intro i p e hp he; exact V.ord i p e hp he
    | succ d ih =>
      intro i p e hp he
      have hl := (List.getElem?_eq_some_iff.1 he).1
      obtain ⟨q, hq⟩ := get_lt (xs := t.2.2.2) (k := i + d + 1) (by omega)
      exact edgeLess_trans (ih i p q hp hq) (V.ord (i + d + 1) q e hq he)
  refine List.pairwise_iff_getElem.2 fun i j hi hj hij => ?_
  obtain ⟨d, rfl⟩ : ∃ d, j = i + d + 1 := ⟨j - i - 1, by omega⟩
  exact key d i _ _ (List.getElem?_eq_getElem hi) (List.getElem?_eq_getElem hj)

theorem markText_ev {k : Int} (h0 : 1 ≤ k) (hk : k ≤ 4611686018427387904) : ∃ s, Ev (fun n => laws_markText_m n k) s := by
  unfold laws_markText_m
  refine Exists.elim (EvI.inv (β := Str ⊕ Str) (step := fun (_ : Nat) (s : (Int) × (Str)) => (match s with | (x40, x41) => (if (decide ((0 : Int) < x40)) = true then (cat (bstr [(IntKind.u8.wrap (W ((48 : Int) + (x40.tmod (10 : Int)))))]) x41).bind fun x65 => some (.inl ((W (x40.tdiv (10 : Int))), x65)) else some (.inr (.inl (x41)))) : Option (((Int) × (Str)) ⊕ ((Str) ⊕ (Str)))))
    (fun s => 0 ≤ s.1 ∧ s.1 ≤ 4611686018427387904 ∧ s.1 < 10 ^ (20 - s.2.length) ∧ s.2.length ≤ 20) (fun s => s.1.toNat) (fun r => ∃ x : Str, r = .inl x ∧ x.length ≤ 20) ?_ (s := (k, [])) ⟨by show 0 ≤ k; omega, hk, by show k < 10 ^ 20; omega, by simp⟩)
    (fun res ⟨h1, x, h2, h3⟩ => ⟨[109] ++ x, Ev.ite_f (by simp; omega) (Ev.bind h1.ev ?_)⟩)
  · rintro ⟨x, s⟩ ⟨a, b, c, d⟩
    replace a : 0 ≤ x := a
    replace b : x ≤ 4611686018427387904 := b
    replace c : x < 10 ^ (20 - s.length) := c
    replace d : s.length ≤ 20 := d
    by_cases hx : 0 < x
    · left
      have hlt : s.length < 20 := by
        by_cases he : s.length = 20
        · rw [he] at c; simp at c; omega
        · omega
      have hp : (10 : Int) ^ (20 - s.length) = 10 ^ (20 - (s.length + 1)) * 10 := by rw [show 20 - s.length = (20 - (s.length + 1)) + 1 by omega, Int.pow_succ]
      have hd : x.tdiv 10 = x / 10 := Int.tdiv_eq_ediv_of_nonneg a
      have hw : W (x.tdiv 10) = x / 10 := by rw [hd]; exact W_of (by omega) (by omega)
      refine ⟨(x / 10, bstr [IntKind.u8.wrap (W (48 + x.tmod 10))] ++ s), Ev.ite_t (decide_eq_true hx) (Ev.const ?_), ⟨by show 0 ≤ x / 10; omega, by show x / 10 ≤ _; omega, ?_, ?_⟩, by show (x / 10).toNat < x.toNat; omega⟩
      · have : cat (bstr [IntKind.u8.wrap (W (48 + x.tmod 10))]) s = some (bstr [IntKind.u8.wrap (W (48 + x.tmod 10))] ++ s) := by unfold cat; rw [if_pos (by first | (simp [bstr]; done) | (simp [bstr]; omega))]
        rw [this, Option.bind_some, hw]
      · show x / 10 < 10 ^ (20 - (bstr [IntKind.u8.wrap (W (48 + x.tmod 10))] ++ s).length)
        have : (bstr [IntKind.u8.wrap (W (48 + x.tmod 10))] ++ s).length = s.length + 1 := by first | (simp [bstr]; done) | (simp [bstr]; omega)
        rw [this]
        generalize (10 : Int) ^ (20 - (s.length + 1)) = p at hp ⊢
        omega
      · show (bstr [IntKind.u8.wrap (W (48 + x.tmod 10))] ++ s).length ≤ 20
        first | (simp [bstr]; done) | (simp [bstr]; omega)
    · right
      exact ⟨_, Ev.ite_f (by simpa using hx) (Ev.pure _), s, rfl, d⟩
  · subst h2
    refine Ev.const ?_
    rw [ctl_l]
    have : cat ([109] : Str) x = some ([109] ++ x) := by unfold cat; rw [if_pos (by simp; omega)]
    rw [this]; rfl

theorem markH_strs {a : List Str} {k : Int} (h : a.length ≤ 1048576) (h0 : 1 ≤ k) (hk : k ≤ 4611686018427387904 - 1048576) :
    ∃ k' ys, Ev (fun n => laws_markStringS_m n a k) (k', ys) ∧ Ev (fun n => laws_heldStringS_m n ys k) k' ∧ k ≤ k' ∧ k' ≤ k + (a.length * 1 : Nat) ∧ ys.length = a.length := by
  unfold laws_markStringS_m laws_heldStringS_m
  refine mark_held (p := fun _ => True) (fun _ _ => trivial) h0 (by omega) (fun xs k i x hxl hx _ h1 h2 => ?_) (fun xs k hxl => Ev.const' fun m => by simp [hxl]) (fun ys k hyl => Ev.const' fun m => by simp [hyl])
  have hi : i < xs.length := (List.getElem?_eq_some_iff.1 hx).1
  have w : W (k + 1) = k + 1 := W_of (by omega) (by omega)
  obtain ⟨s, hs⟩ := markText_ev h1 (by omega)
  refine ⟨s, k + 1, Ev.eq (Ev.ite_t (by simp [hi]) (Ev.bind hs (Ev.bindc (idx_at hx) (Ev.pure _)))) ?_, by omega, by omega, fun ys hyl hy => ?_⟩
  · simp only [Int.toNat_natCast, w, W_succ (k := i) (n := xs.length) hi (by omega)]
  · have hi : i < ys.length := (List.getElem?_eq_some_iff.1 hy).1
    refine Ev.eq (Ev.ite_t (by simp [hi]) (Ev.bindc (idx_at hy) (Ev.bind hs (Ev.ite_f (by simp) (Ev.pure _))))) ?_
    rw [w, W_succ (k := i) (n := ys.length) hi (by omega)]
theorem markA_strs {a : List Str} {k : Int} (h : a.length ≤ 1048576) (h0 : 1 ≤ k) (hk : k ≤ 4611686018427387904 - 1048576) :
    ∃ k' ys, Ev (fun n => laws_markStringS_m n a k) (k', ys) ∧ k ≤ k' ∧ k' ≤ k + (a.length * 1 : Nat) ∧ ys.length = a.length := by
  unfold laws_markStringS_m
  refine mark_alone (p := fun _ => True) (fun _ _ => trivial) h0 (by omega) (fun xs k i x hxl hx _ h1 h2 => ?_) (fun xs k hxl => Ev.const' fun m => by simp [hxl])
  have hi : i < xs.length := (List.getElem?_eq_some_iff.1 hx).1
  have w : W (k + 1) = k + 1 := W_of (by omega) (by omega)
  obtain ⟨s, hs⟩ := markText_ev h1 (by omega)
  refine ⟨s, k + 1, Ev.eq (Ev.ite_t (by simp [hi]) (Ev.bind hs (Ev.bindc (idx_at hx) (Ev.pure _)))) ?_, by omega, by omega⟩
  simp only [Int.toNat_natCast, w, W_succ (k := i) (n := xs.length) hi (by omega)]
theorem markA_edges {a : List Timpl_Edge} {k : Int} (h : a.length ≤ 1048576) (h0 : 1 ≤ k) (hk : k ≤ 4611686018427387904 - 4194304) :
    ∃ k' ys, Ev (fun n => laws_markEdgeS_m n a k) (k', ys) ∧ k ≤ k' ∧ k' ≤ k + (a.length * 3 : Nat) ∧ ys.length = a.length := by
  unfold laws_markEdgeS_m
  refine mark_alone (p := fun _ => True) (fun _ _ => trivial) h0 (by omega) (fun xs k i x hxl hx _ h1 h2 => ?_) (fun xs k hxl => Ev.const' fun m => by simp [hxl])
  have hi : i < xs.length := (List.getElem?_eq_some_iff.1 hx).1
  have w1 : W (k + 1) = k + 1 := W_of (by omega) (by omega)
  have w2 : W (k + 1 + 1) = k + 1 + 1 := W_of (by omega) (by omega)
  have w3 : W (k + 1 + 1 + 1) = k + 1 + 1 + 1 := W_of (by omega) (by omega)
  refine ⟨(k, k + 1, k + 1 + 1), k + 1 + 1 + 1, Ev.eq (Ev.ite_t (by simp [hi]) (Ev.bindc (idx_at hx) (Ev.bindc (idx_set hi) (Ev.bindc (idx_set (by simpa using hi)) (Ev.pure _))))) ?_, by omega, by omega⟩
  simp only [Int.toNat_natCast, List.set_set, w1, w2, w3, W_succ (k := i) (n := xs.length) hi (by omega)]
theorem markH_edges {a : List Timpl_Edge} {k : Int} (h : a.length ≤ 1048576) (h0 : 1 ≤ k) (hk : k ≤ 4611686018427387904 - 4194304) :
    ∃ k' ys, Ev (fun n => laws_markEdgeS_m n a k) (k', ys) ∧ Ev (fun n => laws_heldEdgeS_m n ys k) k' ∧ k ≤ k' ∧ k' ≤ k + (a.length * 3 : Nat) ∧ ys.length = a.length := by
  unfold laws_markEdgeS_m laws_heldEdgeS_m
  refine mark_held (p := fun _ => True) (fun _ _ => trivial) h0 (by omega) (fun xs k i x hxl hx _ h1 h2 => ?_) (fun xs k hxl => Ev.const' fun m => by simp [hxl]) (fun ys k hyl => Ev.const' fun m => by simp [hyl])
  have hi : i < xs.length := (List.getElem?_eq_some_iff.1 hx).1
  have w1 : W (k + 1) = k + 1 := W_of (by omega) (by omega)
  have w2 : W (k + 1 + 1) = k + 1 + 1 := W_of (by omega) (by omega)
  have w3 : W (k + 1 + 1 + 1) = k + 1 + 1 + 1 := W_of (by omega) (by omega)
  refine ⟨(k, k + 1, k + 1 + 1), k + 1 + 1 + 1, Ev.eq (Ev.ite_t (by simp [hi]) (Ev.bindc (idx_at hx) (Ev.bindc (idx_set hi) (Ev.bindc (idx_set (by simpa using hi)) (Ev.pure _))))) ?_, by omega, by omega, fun ys hyl hy => ?_⟩
  · simp only [Int.toNat_natCast, List.set_set, w1, w2, w3, W_succ (k := i) (n := xs.length) hi (by omega)]
  · have hi : i < ys.length := (List.getElem?_eq_some_iff.1 hy).1
    refine Ev.eq (Ev.ite_t (by simp [hi]) (Ev.bindc (idx_at hy) (Ev.ite_f (by simp) (Ev.bindc (idx_at hy) (Ev.ite_f (by simp [w1]) (Ev.bindc (idx_at hy) (Ev.ite_f (by simp [w1, w2]) (Ev.pure _)))))))) ?_
    rw [w1, w2, w3, W_succ (k := i) (n := ys.length) hi (by omega)]
theorem marksA_lts {a : Timpl_Lts} {k : Int} (h : BLts a) (h0 : 1 ≤ k) (hk : k ≤ 4503599627370496) :
    ∃ k' ys, Ev (fun n => laws_markLts_m n a k) (k', ys) ∧ k ≤ k' ∧ k' ≤ k + 4398046511104 := by
  obtain ⟨k1, ys, h1, h2, h3, _⟩ := markA_strs (a := a.2.2.1) h.1 h0 (by omega)
  have b1 := h.1
  have b2 := h.2.2
  obtain ⟨k2, zs, h4, h5, h6, _⟩ := markA_edges (a := a.2.2.2) (k := k1) h.2.2 (by omega) (by omega)
  exact ⟨k2, (ys, zs), Ev.bind h1 (Ev.bind h4 (Ev.pure _)), by omega, by omega⟩
theorem edgeLess_irr (e : Timpl_Edge) : edgeLess e e = false := by simp [edgeLess]

theorem marksB_lts {a : Timpl_Lts} {k : Int} (h : BLts a) (h0 : 1 ≤ k) (hk : k ≤ 4503599627370496) :
    ∃ k' ys, Ev (fun n => laws_markLts_m n a k) (k', ys) ∧ Ev (fun n => laws_heldLts_m n (a.1, a.2.1, ys.1, ys.2) k) k' ∧ k ≤ k' ∧ k' ≤ k + 4398046511104 := by
  obtain ⟨k1, ys, h1, g1, h2, h3, _⟩ := markH_strs (a := a.2.2.1) h.1 h0 (by omega)
  have b1 := h.1
  have b2 := h.2.2
  obtain ⟨k2, zs, h4, g2, h5, h6, _⟩ := markH_edges (a := a.2.2.2) (k := k1) h.2.2 (by omega) (by omega)
  exact ⟨k2, (ys, zs), Ev.bind h1 (Ev.bind h4 (Ev.pure _)), Ev.bind g1 (Ev.ite_f (by simp; omega) (Ev.bind g2 (Ev.ite_f (by simp; omega) (Ev.pure _)))), by omega, by omega⟩
structure STO {α : Type} (lt : α → α → Bool) : Prop where
  irr : ∀ a, lt a a = false
  tr : ∀ a b c, lt a b = true → lt b c = true → lt a c = true
  tri : ∀ a b, lt a b = false → lt b a = false → a = b
section
variable {α : Type} {lt : α → α → Bool}
theorem STO.asym (h : STO lt) {a b : α} (hab : lt a b = true) : lt b a = false := by
  cases h2 : lt b a
  · rfl
  · have := h.tr _ _ _ hab h2
    rw [h.irr] at this
    cases this
theorem STO.ntr (h : STO lt) {a b c : α} (h1 : lt a b = false) (h2 : lt b c = false) : lt a c = false := by
  cases h3 : lt a c
  · rfl
  · cases h4 : lt b a
    · have := h.tri a b h1 h4
      subst this
      rw [h2] at h3; cases h3
    · have := h.tr _ _ _ h4 h3
      rw [h2] at this; cases this
theorem STO.ext (h : STO lt) : ∀ {l l' : List α}, (l.Pairwise fun a b => lt a b = true) → (l'.Pairwise fun a b => lt a b = true) → (∀ v, v ∈ l ↔ v ∈ l') → l = l'
  | [], [], _, _, _ => rfl
  | [], y :: l', _, _, e => by have := (e y).2 (by simp); cases this
  | x :: l, [], _, _, e => by have := (e x).1 (by simp); cases this
  | x :: l, y :: l', h1, h2, e => by
    have p1 := List.pairwise_cons.1 h1
    have p2 := List.pairwise_cons.1 h2
    have hxy : x = y := by
      rcases List.mem_cons.1 ((e x).1 (by simp)) with q | hx
      · exact q
      rcases List.mem_cons.1 ((e y).2 (by simp)) with q | hy
      · exact q.symm
      have a1 := p2.1 x hx
      have a2 := h.asym (p1.1 y hy)
      rw [a1] at a2
      cases a2
    subst hxy
    rw [h.ext p1.2 p2.2 fun v => ?_]
    constructor
    · intro hv
      rcases List.mem_cons.1 ((e v).1 (by simp [hv])) with q | hv'
      · have := p1.1 v hv
        rw [q, h.irr] at this; cases this
      · exact hv'
    · intro hv
      rcases List.mem_cons.1 ((e v).2 (by simp [hv])) with q | hv'
      · have := p2.1 v hv
        rw [q, h.irr] at this; cases this
      · exact hv'

theorem STO.compact [Inhabited α] [DecidableEq α] (h : STO lt) {zs : List α} (hz : zs.Pairwise fun a b => lt b a = false) : (Lib.compact zs).Pairwise fun a b => lt a b = true := by
  have hle : ∀ i j : Nat, i < j → j < zs.length → lt zs.toArray[j]! zs.toArray[i]! = false := by
    intro i j hij hj
    rw [getElem!_pos zs.toArray i (by simpa using (by omega : i < zs.length)), getElem!_pos zs.toArray j (by simpa using hj)]
    simpa using List.pairwise_iff_getElem.1 hz i j (by omega) hj hij
  have key : ∀ m, m ≤ zs.length → (Lib.compactUpTo zs.toArray m).Pairwise (fun a b => lt a b = true) ∧ ∀ v, v ∈ Lib.compactUpTo zs.toArray m → ∃ j, j < m ∧ zs.toArray[j]! = v := by
    intro m
    induction m with
    | zero => intro _; exact ⟨by simp [Lib.compactUpTo], fun v hv => by simp [Lib.compactUpTo] at hv⟩
    | succ m ih =>
      intro hm
      obtain ⟨h1, h2⟩ := ih (by omega)
      rw [Lib.compactUpTo_succ]
      cases hk : Lib.keeps zs.toArray m
      · refine ⟨by simpa using h1, fun v hv => ?_⟩
        obtain ⟨j, a, b⟩ := h2 v (by simpa using hv)
        exact ⟨j, by omega, b⟩
      · simp only [if_true]
        refine ⟨List.pairwise_append.2 ⟨h1, by simp, fun a ha b hb => ?_⟩, fun v hv => ?_⟩
        · obtain ⟨j, hj, rfl⟩ := h2 a ha
          obtain rfl : b = zs.toArray[m]! := by simpa using hb
          have hz : m = 0 ∨ zs.toArray[m]! ≠ zs.toArray[m - 1]! := by
            unfold Lib.keeps at hk
            exact of_decide_eq_true hk
          rcases hz with hz | hz
          · omega
          · have l1 := hle (m - 1) m (by omega) (by omega)
            have l0 : lt zs.toArray[m - 1]! zs.toArray[m]! = true := by
              cases h3 : lt zs.toArray[m - 1]! zs.toArray[m]!
              · exact absurd (h.tri _ _ l1 h3) hz
              · rfl
            by_cases hjm : j = m - 1
            · subst hjm; exact l0
            · have l2 := hle j (m - 1) (by omega) (by omega)
              cases h3 : lt zs.toArray[j]! zs.toArray[m - 1]!
              · rw [h.tri _ _ h3 l2]; exact l0
              · exact h.tr _ _ _ h3 l0
        · rcases List.mem_append.1 hv with hv | hv
          · obtain ⟨j, a, b⟩ := h2 v hv
            exact ⟨j, by omega, b⟩
          · exact ⟨m, by omega, (List.mem_singleton.1 hv).symm⟩
  exact (key zs.length (Nat.le_refl _)).1
theorem mem_compG [Inhabited α] [DecidableEq α] {zs : List α} {v : α} : v ∈ Lib.compact zs ↔ v ∈ zs := by
  have h1 : ∀ m, ∀ x, x ∈ Lib.compactUpTo zs.toArray m → ∃ j, j < m ∧ zs.toArray[j]! = x := by
    intro m x hx
    unfold Lib.compactUpTo at hx
    obtain ⟨j, hj, rfl⟩ := List.mem_map.1 hx
    exact ⟨j, List.mem_range.1 (List.mem_filter.1 hj).1, rfl⟩
  have h2 : ∀ m j, j < m → zs.toArray[j]! ∈ Lib.compactUpTo zs.toArray m := by
    intro m
    induction m with
    | zero => intro j hj; omega
    | succ m ih =>
      intro j hj
      rw [Lib.compactUpTo_succ]
      by_cases hjm : j = m
      · subst hjm
        cases hk : Lib.keeps zs.toArray j
        · have : 0 < j ∧ zs.toArray[j]! = zs.toArray[j - 1]! := by
            unfold Lib.keeps at hk
            have := of_decide_eq_false hk
            refine ⟨?_, ?_⟩
            · by_cases h0 : j = 0
              · exact absurd (.inl h0) this
              · omega
            · by_cases h0 : zs.toArray[j]! = zs.toArray[j - 1]!
              · exact h0
              · exact absurd (.inr h0) this
          rw [this.2]
          exact List.mem_append.2 (.inl (ih (j - 1) (by omega)))
        · simp
      · exact List.mem_append.2 (.inl (ih j (by omega)))
  unfold Lib.compact
  constructor
  · intro h
    obtain ⟨j, hj, rfl⟩ := h1 _ _ h
    rw [getElem!_pos zs.toArray j (by simpa using hj)]
    simp
  · intro h
    obtain ⟨j, hj, rfl⟩ := List.getElem_of_mem h
    have := h2 zs.length j hj
    rwa [getElem!_pos zs.toArray j (by simpa using hj)] at this

/-- What a sort asks of a comparison that agrees with the order. -/
theorem STO.ok [DecidableEq α] (h : STO lt) {f : α → α → Option Int} {c : α → α → Int} (hf : ∀ x y, f x y = some (c x y)) (hc : ∀ x y, decide (c x y < 0) = lt x y) {xs : List α} (hl : xs.length < 4611686018427387904) : SortOk f xs := by
  have hlt : ∀ x y, ltF f x y = lt x y := fun x y => by
    unfold ltF
    rw [← hc]
    congr 2
    rw [hf]
    rfl
  refine ⟨hl, fun x _ y _ => ⟨_, hf x y⟩, fun x _ => by rw [hlt]; exact h.irr x, fun x _ y _ z _ h1 h2 => ?_, fun x _ y _ z _ h1 h2 => ?_, fun x _ y _ h1 h2 => ?_⟩
  · rw [hlt] at *; exact h.tr _ _ _ h1 h2
  · rw [hlt] at *; exact h.ntr h1 h2
  · rw [hlt] at *; exact h.tri _ _ h1 h2
theorem STO.sorted [DecidableEq α] (h : STO lt) {f : α → α → Option Int} {c : α → α → Int} (hf : ∀ x y, f x y = some (c x y)) (hc : ∀ x y, decide (c x y < 0) = lt x y) {xs : List α} (hl : xs.length < 4611686018427387904) : (sortF f xs).Pairwise fun a b => lt b a = false := by
  have hlt : ∀ x y, ltF f x y = lt x y := fun x y => by
    unfold ltF
    rw [← hc]
    congr 2
    rw [hf]
    rfl
  exact (sortF_sorted (h.ok hf hc hl)).imp fun h' => by rw [hlt] at h'; exact h'

/-- An element at its place. -/
theorem insert_inc (h : STO lt) {l : List α} {x : α} {i : Nat} (hl : l.Pairwise fun a b => lt a b = true) (hb : ∀ j y, j < i → l[j]? = some y → lt y x = true) (ha : ∀ y, l[i]? = some y → lt x y = true) : (l.take i ++ [x] ++ l.drop i).Pairwise fun a b => lt a b = true := by
  have h1 : (l.take i ++ l.drop i).Pairwise fun a b => lt a b = true := by rw [List.take_append_drop]; exact hl
  obtain ⟨p1, p2, p3⟩ := List.pairwise_append.1 h1
  have hd : ∀ y ∈ l.drop i, lt x y = true := by
    intro y hy
    cases hc : l.drop i with
    | nil => rw [hc] at hy; cases hy
    | cons z r =>
      have hz : l[i]? = some z := by
        have := congrArg (fun q : List α => q[0]?) hc
        simpa using this
      have hxz := ha z hz
      rw [hc] at hy p2
      rcases List.mem_cons.1 hy with rfl | hy
      · exact hxz
      · exact h.tr _ _ _ hxz ((List.pairwise_cons.1 p2).1 y hy)
  refine List.pairwise_append.2 ⟨List.pairwise_append.2 ⟨p1, by simp, fun a ha' b hb' => ?_⟩, p2, fun a ha' b hb' => ?_⟩
  · obtain rfl := List.mem_singleton.1 hb'
    obtain ⟨j, hj, rfl⟩ := List.getElem_of_mem ha'
    rw [List.length_take] at hj
    refine hb j _ (by omega) ?_
    rw [List.getElem_take]
    exact List.getElem?_eq_getElem (by omega)
  · rcases List.mem_append.1 ha' with ha' | ha'
    · exact p3 a ha' b hb'
    · obtain rfl := List.mem_singleton.1 ha'
      exact hd b hb'
theorem mem_insert {l : List α} {x y : α} {i : Nat} : y ∈ l.take i ++ [x] ++ l.drop i ↔ y = x ∨ y ∈ l := by
  have : y ∈ l ↔ y ∈ l.take i ∨ y ∈ l.drop i := by
    constructor
    · intro hy
      rw [← List.take_append_drop i l] at hy
      exact List.mem_append.1 hy
    · rintro (hy | hy)
      · exact List.mem_of_mem_take hy
      · exact List.mem_of_mem_drop hy
  rw [this, List.mem_append, List.mem_append, List.mem_singleton]
  constructor
  · rintro ((h | h) | h)
    · exact .inr (.inl h)
    · exact .inl h
    · exact .inr (.inr h)
  · rintro (h | h | h)
    · exact .inl (.inr h)
    · exact .inl (.inl h)
    · exact .inr h

/-- Elements moved up by one place, from the end down to 'at'. -/
theorem shift_loop {ρ : Type} {step : Nat → List α × Int → Option ((List α × Int) ⊕ (List α ⊕ ρ))} {l : List α} {z : α} {i : Nat} (hi : i ≤ l.length)
    (hs : ∀ (k : Nat) (xs : List α) (y : α), i < k + 1 → k < l.length → xs.length = l.length + 1 → xs[k]? = some y → Ev (fun m => step m (xs, ((k + 1 : Nat) : Int))) (.inl (xs.set (k + 1) y, (k : Int)))) (hn : ∀ xs, Ev (fun m => step m (xs, (i : Int))) (.inr (.inl xs))) :
    ∃ y, EvI step (l ++ [z], (l.length : Int)) (.inl (l.take i ++ [y] ++ l.drop i)) := by
  have key : ∀ d k y, k = i + d → k ≤ l.length → ∃ y', EvI step (l.take k ++ [y] ++ l.drop k, (k : Int)) (.inl (l.take i ++ [y'] ++ l.drop i)) := by
    intro d
    induction d with
    | zero =>
      intro k y hk _
      obtain rfl : k = i := by omega
      exact ⟨y, EvI.stop (hn _)⟩
    | succ d ih =>
      intro k y hk hkl
      obtain ⟨q, rfl⟩ : ∃ q, k = q + 1 := ⟨k - 1, by omega⟩
      obtain ⟨x, hx⟩ := get_lt (xs := l) (k := q) (by omega)
      have hq : (l.take (q + 1)).length = q + 1 := by rw [List.length_take]; omega
      have hget : (l.take (q + 1) ++ [y] ++ l.drop (q + 1))[q]? = some x := by
        rw [List.append_assoc, List.getElem?_append_left (by omega), List.getElem?_take, if_pos (by omega)]
        exact hx
      have hstep := hs q (l.take (q + 1) ++ [y] ++ l.drop (q + 1)) x (by omega) (by omega) (by simp; omega) hget
      have e : (l.take (q + 1) ++ [y] ++ l.drop (q + 1)).set (q + 1) x = l.take q ++ [x] ++ l.drop q := by
        rw [List.append_assoc, List.set_append_right _ _ (by omega), hq, Nat.sub_self]
        have h1 : l.take (q + 1) = l.take q ++ [x] := by rw [List.take_add_one, hx]; rfl
        have h2 : l.drop q = x :: l.drop (q + 1) := by
          rw [List.drop_eq_getElem_cons (by omega)]
          congr 1
          have := List.getElem?_eq_getElem (l := l) (i := q) (by omega)
          rw [hx] at this
          exact (Option.some.inj this).symm
        rw [h1, h2]
        simp
      rw [e] at hstep
      obtain ⟨y', h⟩ := ih q x (by omega) (by omega)
      exact ⟨y', EvI.go hstep h⟩
  obtain ⟨y, h⟩ := key (l.length - i) l.length z (by omega) (Nat.le_refl _)
  rw [List.take_length, List.drop_length, List.append_nil] at h
  exact ⟨y, h⟩
theorem set_mid {l : List α} {x y : α} {i : Nat} (hi : i ≤ l.length) : (l.take i ++ [y] ++ l.drop i).set i x = l.take i ++ [x] ++ l.drop i := by
  have hq : (l.take i).length = i := by rw [List.length_take]; omega
  rw [List.append_assoc, List.set_append_right _ _ (by omega), hq, Nat.sub_self]
  simp
theorem get_mid {l : List α} {y : α} {i : Nat} (hi : i ≤ l.length) : (l.take i ++ [y] ++ l.drop i)[i]? = some y := by
  have hq : (l.take i).length = i := by rw [List.length_take]; omega
  rw [List.append_assoc, List.getElem?_append_right (by omega), hq, Nat.sub_self]
  rfl
end
theorem cmpB_lt : ∀ a b : Str, decide (Lib.compareBytes a b < 0) = Op.bytesLess a b
  | [], [] => rfl
  | [], _ :: _ => rfl
  | _ :: _, [] => rfl
  | x :: a, y :: b => by
    simp only [Lib.compareBytes, Op.bytesLess]
    by_cases h1 : x < y
    · simp [h1]
    · by_cases h2 : y < x
      · have h3 : ¬ x = y := fun e => by subst e; exact h1 h2
        simp [h1, h2, h3]
      · have e : x = y := by
          apply UInt8.toNat_inj.1
          rw [UInt8.lt_iff_toNat_lt] at h1 h2
          omega
        subst e
        simp [h1, ← cmpB_lt a b]

/-- The program's order of labels. -/
def cL (x y : Str) : Int := if x = y then 0 else if x = tau' then -1 else if y = tau' then 1 else Lib.compareBytes x y
theorem cmp_m {m : Nat} {x y : Str} : impl_compareLabels_m m x y = some (cL x y) := by
  unfold impl_compareLabels_m cL strings_Compare_m tau'
  by_cases h1 : x = y
  · simp [h1]
  · have h1' : (x == y) = false := by simpa using h1
    rw [h1', if_neg h1, if_neg (by simp)]
    by_cases h2 : x = ([116, 97, 117] : Str)
    · rw [if_pos h2, if_pos (by simpa using h2)]
    · rw [if_neg h2, if_neg (by simpa using h2)]
      by_cases h3 : y = ([116, 97, 117] : Str)
      · rw [if_pos h3, if_pos (by simpa using h3)]
      · rw [if_neg h3, if_neg (by simpa using h3)]
        simp
def lessL (x y : Str) : Bool := decide (x ≠ y) && (decide (x = tau') || (decide (y ≠ tau') && Op.bytesLess x y))
theorem cL_lt (x y : Str) : decide (cL x y < 0) = lessL x y := by
  unfold cL lessL
  by_cases h1 : x = y
  · simp [h1]
  · by_cases h2 : x = tau'
    · subst h2
      rw [if_neg h1, if_pos rfl]
      simp [h1]
    · by_cases h3 : y = tau'
      · simp [h2, h3]
      · rw [if_neg h1, if_neg h2, if_neg h3, cmpB_lt]
        simp [h1, h2, h3]
theorem lessL_irr (x : Str) : lessL x x = false := by simp [lessL]
theorem lessL_iff {x y : Str} : lessL x y = true ↔ x ≠ y ∧ (x = tau' ∨ (y ≠ tau' ∧ Op.bytesLess x y = true)) := by simp [lessL]
theorem lessL_trans {x y z : Str} (h1 : lessL x y = true) (h2 : lessL y z = true) : lessL x z = true := by
  rw [lessL_iff] at *
  obtain ⟨a, h1⟩ := h1
  obtain ⟨b, h2⟩ := h2
  rcases h1 with rfl | ⟨h1, h1'⟩
  · rcases h2 with rfl | ⟨h2, h2'⟩
    · exact absurd rfl a
    · exact ⟨fun e => h2 e.symm, .inl rfl⟩
  · rcases h2 with rfl | ⟨h2, h2'⟩
    · exact absurd rfl h1
    · refine ⟨fun e => ?_, .inr ⟨h2, bl_trans _ _ _ h1' h2'⟩⟩
      subst e
      have := bl_asym _ _ h1'
      rw [this] at h2'
      cases h2'
theorem lessL_tri {x y : Str} (h1 : lessL x y = false) (h2 : lessL y x = false) : x = y := by
  by_cases e : x = y
  · exact e
  · exfalso
    have n1 : ¬ (x ≠ y ∧ (x = tau' ∨ (y ≠ tau' ∧ Op.bytesLess x y = true))) := fun h => by rw [lessL_iff.2 h] at h1; cases h1
    have n2 : ¬ (y ≠ x ∧ (y = tau' ∨ (x ≠ tau' ∧ Op.bytesLess y x = true))) := fun h => by rw [lessL_iff.2 h] at h2; cases h2
    have a1 : x ≠ tau' := fun h => n1 ⟨e, .inl h⟩
    have a2 : y ≠ tau' := fun h => n2 ⟨fun q => e q.symm, .inl h⟩
    have b1 : Op.bytesLess x y = false := by
      cases h : Op.bytesLess x y
      · rfl
      · exact absurd ⟨e, .inr ⟨a2, h⟩⟩ n1
    have b2 : Op.bytesLess y x = false := by
      cases h : Op.bytesLess y x
      · rfl
      · exact absurd ⟨fun q => e q.symm, .inr ⟨a1, h⟩⟩ n2
    exact e (bl_tri x y b1 b2)
theorem lessL_ntrans {x y z : Str} (h1 : lessL x y = false) (h2 : lessL y z = false) : lessL x z = false := by
  cases h : lessL x z
  · rfl
  · exfalso
    cases h3 : lessL z y
    · have := lessL_tri h2 h3
      subst this
      rw [h] at h1; cases h1
    · have := lessL_trans h h3
      rw [this] at h1; cases h1

abbrev cmpF : Str → Str → Option Int := fun x y => some (cL x y)
theorem ltF_cmp (x y : Str) : ltF cmpF x y = lessL x y := cL_lt x y
theorem sort_ok {xs : List Str} (hl : xs.length < 4611686018427387904) : sortOk cmpF xs = true :=
  sortOk_iff.2 ⟨hl, fun x _ y _ => ⟨_, rfl⟩, fun x _ => by rw [ltF_cmp]; exact lessL_irr x, fun x _ y _ z _ h1 h2 => by rw [ltF_cmp] at *; exact lessL_trans h1 h2,
    fun x _ y _ z _ h1 h2 => by rw [ltF_cmp] at *; exact lessL_ntrans h1 h2, fun x _ y _ h1 h2 => by rw [ltF_cmp] at *; exact lessL_tri h1 h2⟩
theorem sortf_ev {xs : List Str} (hl : xs.length < 4611686018427387904) : Ev (fun m => slices_SortFunc__string_string_m m xs (fun z0 z1 => impl_compareLabels_m m z0 z1)) (sortF cmpF xs) := by
  refine Ev.const' fun m => ?_
  have e : (fun z0 z1 => impl_compareLabels_m m z0 z1) = cmpF := by funext x y; exact cmp_m
  rw [e]
  unfold slices_SortFunc__string_string_m
  rw [if_pos (sort_ok hl)]
theorem mem_sortF {xs : List Str} {v : Str} : v ∈ sortF cmpF xs ↔ v ∈ xs := (List.mergeSort_perm _ _).mem_iff
theorem mem_compactS {zs : List Str} {v : Str} : v ∈ Lib.compact zs ↔ v ∈ zs := by
  have h1 : ∀ m, ∀ x, x ∈ Lib.compactUpTo zs.toArray m → ∃ j, j < m ∧ zs.toArray[j]! = x := by
    intro m x hx
    unfold Lib.compactUpTo at hx
    obtain ⟨j, hj, rfl⟩ := List.mem_map.1 hx
    exact ⟨j, List.mem_range.1 (List.mem_filter.1 hj).1, rfl⟩
  have h2 : ∀ m j, j < m → zs.toArray[j]! ∈ Lib.compactUpTo zs.toArray m := by
    intro m
    induction m with
    | zero => intro j hj; omega
    | succ m ih =>
      intro j hj
      rw [Lib.compactUpTo_succ]
      by_cases hjm : j = m
      · subst hjm
        cases hk : Lib.keeps zs.toArray j
        · have : 0 < j ∧ zs.toArray[j]! = zs.toArray[j - 1]! := by
            unfold Lib.keeps at hk
            have := of_decide_eq_false hk
            refine ⟨?_, ?_⟩
            · by_cases h0 : j = 0
              · exact absurd (.inl h0) this
              · omega
            · by_cases h0 : zs.toArray[j]! = zs.toArray[j - 1]!
              · exact h0
              · exact absurd (.inr h0) this
          rw [this.2]
          exact List.mem_append.2 (.inl (ih (j - 1) (by omega)))
        · simp
      · exact List.mem_append.2 (.inl (ih j (by omega)))
  unfold Lib.compact
  constructor
  · intro h
    obtain ⟨j, hj, rfl⟩ := h1 _ _ h
    rw [getElem!_pos zs.toArray j (by simpa using hj)]
    simp
  · intro h
    obtain ⟨j, hj, rfl⟩ := List.getElem_of_mem h
    have := h2 zs.length j hj
    rw [getElem!_pos zs.toArray j (by simpa using hj)] at this
    simpa using this

theorem lessL_asym {x y : Str} (h : lessL x y = true) : lessL y x = false := by
  cases h2 : lessL y x
  · rfl
  · have := lessL_trans h h2
    rw [lessL_irr] at this
    cases this
theorem compact_strs {zs : List Str} (h : zs.Pairwise fun a b => lessL b a = false) : (Lib.compact zs).Pairwise fun a b => lessL a b = true := by
  have hle : ∀ i j : Nat, i < j → j < zs.length → lessL zs.toArray[j]! zs.toArray[i]! = false := by
    intro i j hij hj
    rw [getElem!_pos zs.toArray i (by simpa using (by omega : i < zs.length)), getElem!_pos zs.toArray j (by simpa using hj)]
    simpa using List.pairwise_iff_getElem.1 h i j (by omega) hj hij
  have key : ∀ m, m ≤ zs.length → (Lib.compactUpTo zs.toArray m).Pairwise (fun a b => lessL a b = true) ∧ ∀ v, v ∈ Lib.compactUpTo zs.toArray m → ∃ j, j < m ∧ zs.toArray[j]! = v := by
    intro m
    induction m with
    | zero => intro _; exact ⟨by simp [Lib.compactUpTo], fun v hv => by simp [Lib.compactUpTo] at hv⟩
    | succ m ih =>
      intro hm
      obtain ⟨h1, h2⟩ := ih (by omega)
      rw [Lib.compactUpTo_succ]
      cases hk : Lib.keeps zs.toArray m
      · refine ⟨by simpa using h1, fun v hv => ?_⟩
        obtain ⟨j, a, b⟩ := h2 v (by simpa using hv)
        exact ⟨j, by omega, b⟩
      · simp only [if_true]
        refine ⟨List.pairwise_append.2 ⟨h1, by simp, fun a ha b hb => ?_⟩, fun v hv => ?_⟩
        · obtain ⟨j, hj, rfl⟩ := h2 a ha
          obtain rfl : b = zs.toArray[m]! := by simpa using hb
          have hz : m = 0 ∨ zs.toArray[m]! ≠ zs.toArray[m - 1]! := by
            unfold Lib.keeps at hk
            exact of_decide_eq_true hk
          rcases hz with hz | hz
          · omega
          · have l1 := hle (m - 1) m (by omega) (by omega)
            have l0 : lessL zs.toArray[m - 1]! zs.toArray[m]! = true := by
              cases h3 : lessL zs.toArray[m - 1]! zs.toArray[m]!
              · exact absurd (lessL_tri l1 h3) hz
              · rfl
            by_cases hjm : j = m - 1
            · subst hjm; exact l0
            · have l2 := hle j (m - 1) (by omega) (by omega)
              cases h3 : lessL zs.toArray[j]! zs.toArray[m - 1]!
              · rw [lessL_tri h3 l2]; exact l0
              · exact lessL_trans h3 l0
        · rcases List.mem_append.1 hv with hv | hv
          · obtain ⟨j, a, b⟩ := h2 v hv
            exact ⟨j, by omega, b⟩
          · exact ⟨m, by omega, (List.mem_singleton.1 hv).symm⟩
  exact (key zs.length (Nat.le_refl _)).1
theorem sortF_le (xs : List Str) : (sortF cmpF xs).Pairwise fun a b => lessL b a = false := by
  have := List.pairwise_mergeSort (le := fun x y : Str => !ltF cmpF y x) (fun a b c h1 h2 => by
    rw [ltF_cmp] at *
    simp only [Bool.not_eq_true'] at *
    exact lessL_ntrans h2 h1) (fun a b => by
    rw [ltF_cmp, ltF_cmp]
    cases h : lessL b a
    · simp
    · rw [lessL_asym h]; simp) xs
  unfold sortF
  exact this.imp fun h => by
    rw [ltF_cmp] at h
    simpa using h
/-! ### the order of edges -/
theorem edgeLess_tri {a b : Timpl_Edge} (h1 : edgeLess a b = false) (h2 : edgeLess b a = false) : a = b := by
  obtain ⟨a1, a2, a3⟩ := a
  obtain ⟨b1, b2, b3⟩ := b
  unfold edgeLess at h1 h2
  simp only at h1 h2
  by_cases e1 : a1 = b1
  · subst e1
    by_cases e2 : a2 = b2
    · subst e2
      simp at h1 h2
      have : a3 = b3 := by omega
      rw [this]
    · have e2' : ¬ b2 = a2 := fun e => e2 e.symm
      simp [e2, e2'] at h1 h2
      omega
  · have e1' : ¬ b1 = a1 := fun e => e1 e.symm
    simp [e1, e1'] at h1 h2
    omega
theorem sto_edges : STO edgeLess := ⟨edgeLess_irr, fun _ _ _ => edgeLess_trans, fun _ _ => edgeLess_tri⟩
theorem sto_labs : STO lessL := ⟨lessL_irr, fun _ _ _ => lessL_trans, fun _ _ => lessL_tri⟩

def cmp3 (a b : Int) : Int := if a < b then -1 else if b < a then 1 else 0
def cE (a b : Timpl_Edge) : Int := if cmp3 a.1 b.1 ≠ 0 then cmp3 a.1 b.1 else if cmp3 a.2.1 b.2.1 ≠ 0 then cmp3 a.2.1 b.2.1 else cmp3 a.2.2 b.2.2
theorem cE_lt (a b : Timpl_Edge) : decide (cE a b < 0) = edgeLess a b := by
  obtain ⟨a1, a2, a3⟩ := a
  obtain ⟨b1, b2, b3⟩ := b
  unfold cE edgeLess cmp3
  simp only
  rcases Int.lt_trichotomy a1 b1 with h | h | h
  · have h1 : a1 ≠ b1 := by omega
    simp [h, h1]
  · subst h
    rcases Int.lt_trichotomy a2 b2 with h | h | h
    · have h1 : a2 ≠ b2 := by omega
      simp [h, h1]
    · subst h
      rcases Int.lt_trichotomy a3 b3 with h | h | h
      · simp [h]
      · subst h; simp
      · have h1 : ¬ a3 < b3 := by omega
        simp [h, h1]
    · have h1 : a2 ≠ b2 := by omega
      have h2 : ¬ a2 < b2 := by omega
      simp [h, h1, h2]
  · have h1 : a1 ≠ b1 := by omega
    have h2 : ¬ a1 < b1 := by omega
    simp [h, h1, h2]
theorem orE {m : Nat} (hm : 4 ≤ m) (u v x : Int) : cmp_Or_int_m m [u, v, x] = some (if u ≠ 0 then u else if v ≠ 0 then v else x) := by
  obtain ⟨k, rfl⟩ : ∃ k, m = k + 4 := ⟨m - 4, by omega⟩
  have w1 : W 1 = 1 := W_of (by omega) (by omega)
  have w2 : W 2 = 2 := W_of (by omega) (by omega)
  have w3 : W 3 = 3 := W_of (by omega) (by omega)
  unfold cmp_Or_int_m
  by_cases hu : u = 0 <;> by_cases hv : v = 0 <;> by_cases hx : x = 0 <;> simp [iter, idx, hu, hv, hx, w1, w2, w3, ctl]
theorem cE_m {m : Nat} (hm : 4 ≤ m) (a b : Timpl_Edge) : impl_compareEdges_m m a b = some (cE a b) := by
  unfold impl_compareEdges_m
  simp only [compare_m, Option.bind_some, orE hm]
  rfl
abbrev cmpE : Timpl_Edge → Timpl_Edge → Option Int := fun x y => some (cE x y)
theorem sortE_ev {xs : List Timpl_Edge} (hl : xs.length ≤ 1048576) : Ev (fun m => slices_SortFunc__impl_Edge_impl_Edge_m m xs (fun z0 z1 => impl_compareEdges_m m z0 z1)) (sortF cmpE xs) := by
  refine ⟨4, fun m hm => ?_⟩
  have e : (fun z0 z1 => impl_compareEdges_m m z0 z1) = cmpE := by funext x y; exact cE_m hm x y
  show slices_SortFunc__impl_Edge_impl_Edge_m m xs (fun z0 z1 => impl_compareEdges_m m z0 z1) = _
  rw [e]
  unfold slices_SortFunc__impl_Edge_impl_Edge_m
  rw [if_pos (sortOk_iff.2 (sto_edges.ok (fun _ _ => rfl) cE_lt (by omega)))]
theorem sortE_le {xs : List Timpl_Edge} (hl : xs.length ≤ 1048576) : (sortF cmpE xs).Pairwise fun a b => edgeLess b a = false := sto_edges.sorted (fun _ _ => rfl) cE_lt (by omega)

/-! ### slices.Compact of edges -/
theorem eq3 (x y : Timpl_Edge) : ([x.1, x.2.1, x.2.2] == [y.1, y.2.1, y.2.2]) = decide (x = y) := by
  obtain ⟨a, b, c⟩ := x
  obtain ⟨d, e, f⟩ := y
  by_cases h : (a, b, c) = (d, e, f)
  · cases h; simp
  · rw [decide_eq_false h]
    simp only [beq_eq_false_iff_ne]
    intro hh
    simp at hh
    exact h (by rw [hh.1, hh.2.1, hh.2.2])
theorem getA {α : Type} [Inhabited α] {l : List α} {k : Nat} {x : α} (h : l[k]? = some x) : l.toArray[k]! = x := by
  obtain ⟨hk, e⟩ := List.getElem?_eq_some_iff.1 h
  rw [getElem!_pos l.toArray k (by simpa using hk)]
  simpa using e
theorem compactE_ev {xs : List Timpl_Edge} (hl : xs.length ≤ 1048576) : Ev (fun m => slices_Compact__impl_Edge_impl_Edge_m m xs) (Lib.compact xs) := by
  have hmx := mx
  unfold slices_Compact__impl_Edge_impl_Edge_m
  by_cases h2 : xs.length < 2
  · refine Ev.ite_t (decide_eq_true (by omega)) (Ev.eq (Ev.pure _) (Lib.compact_all xs fun j hj => ?_).symm)
    exact Lib.keeps_lt_one _ j (by omega)
  refine Ev.ite_f (by simp; omega) ?_
  refine Exists.elim (EvI.count (β := Unit ⊕ List Timpl_Edge) (step := _) xs.length (fun k (_ : Unit) => (k : Int)) (fun k _ => 1 ≤ k ∧ ∀ j, j < k → Lib.keeps xs.toArray j = true) (fun b => (b = .inl () ∧ Lib.compact xs = xs) ∨ b = .inr (Lib.compact xs)) (fun k _ hk hI => ?_) (fun _ hI => ⟨_, Ev.ite_f (by simp) (Ev.pure _), .inl ⟨rfl, Lib.compact_all xs fun j hj => hI.2 j hj⟩⟩) (k := 1) (t := ()) (by omega) ⟨Nat.le_refl _, fun j hj => Lib.keeps_lt_one _ j hj⟩) (fun res ⟨h1, h2⟩ => Ev.bind h1.ev ?_)
  · obtain ⟨h1, hall⟩ := hI
    obtain ⟨q, rfl⟩ : ∃ q, k = q + 1 := ⟨k - 1, by omega⟩
    obtain ⟨x, hx⟩ := get_lt hk
    obtain ⟨y, hy⟩ := get_lt (xs := xs) (k := q) (by omega)
    have hkeep : Lib.keeps xs.toArray (q + 1) = !decide (x = y) := by
      unfold Lib.keeps
      rw [getA hx, Nat.add_sub_cancel, getA hy]
      by_cases e : x = y <;> simp [e]
    by_cases e : x = y
    · right
      have hdup : Lib.keeps xs.toArray (q + 1) = false := by rw [hkeep]; simp [e]
      have hstart := Lib.CompInv.start hall hdup
      refine ⟨_, Ev.ite_t (decide_eq_true (by omega)) (Ev.bindc (idx_at hx) (Ev.bindc (a := y) (by rw [W_pred (n := xs.length) (by omega) (by omega)]; exact idx_at hy) (Ev.ite_t (by rw [eq3]; exact decide_eq_true e) (Ev.bindc (sub_ok (lo := q + 1) (hi := xs.length) (by omega) (Nat.le_refl _)) ?_)))), .inr rfl⟩
      refine Exists.elim (EvI.count (β := (List Timpl_Edge × Int) ⊕ List Timpl_Edge) (step := _) (xs.length - (q + 1)) (fun p (t : List Timpl_Edge × Nat) => (t.1, (t.2 : Int), (p : Int))) (fun p t => 1 ≤ p ∧ Lib.CompInv xs.toArray (q + 1 + p) t.2 t.1.toArray) (fun b => ∃ ys kk, b = .inl (ys, ((kk : Nat) : Int)) ∧ Lib.CompInv xs.toArray xs.length kk ys.toArray) (fun p t hp hI => ?_) (fun t hI => ?_) (k := 1) (t := (xs, q + 1)) (by omega) ⟨Nat.le_refl _, hstart⟩) (fun res ⟨h1, h2⟩ => Ev.bind h1.ev ?_)
      · obtain ⟨ys, kk⟩ := t
        obtain ⟨hp1, hc⟩ := hI
        dsimp only at hc ⊢
        left
        have hys : ys.length = xs.length := by have := hc.size; simpa using this
        have hkl := hc.lt
        obtain ⟨u, rfl⟩ : ∃ u, p = u + 1 := ⟨p - 1, by omega⟩
        have hview : ∀ j, kk ≤ q + 1 + j → q + 1 + j < xs.length → ((ys.take ((xs.length : Int)).toNat).drop (((q + 1 : Nat) : Int)).toNat)[j]? = xs[q + 1 + j]? := by
          intro j hj1 hj2
          rw [Int.toNat_natCast, Int.toNat_natCast, List.getElem?_drop, List.getElem?_take, if_pos hj2]
          have := hc.high (q + 1 + j) hj1
          rw [getElem!_pos ys.toArray _ (by simpa using (by omega : q + 1 + j < ys.length)), getElem!_pos xs.toArray _ (by simpa using hj2)] at this
          rw [List.getElem?_eq_getElem (by omega), List.getElem?_eq_getElem hj2]
          simpa using this
        have hvl : ((ys.take ((xs.length : Int)).toNat).drop (((q + 1 : Nat) : Int)).toNat).length = xs.length - (q + 1) := by
          rw [Int.toNat_natCast, Int.toNat_natCast, List.length_drop, List.length_take]; omega
        obtain ⟨a, ha⟩ := get_lt (xs := xs) (k := q + 1 + (u + 1)) (by omega)
        obtain ⟨b, hb⟩ := get_lt (xs := xs) (k := q + 1 + u) (by omega)
        have va := hview (u + 1) (by omega) (by omega)
        have vb := hview u (by omega) (by omega)
        rw [ha] at va
        rw [hb] at vb
        have hkp : Lib.keeps xs.toArray (q + 1 + (u + 1)) = !decide (a = b) := by
          unfold Lib.keeps
          rw [getA ha, show q + 1 + (u + 1) - 1 = q + 1 + u by omega, getA hb]
          by_cases e : a = b <;> simp [e]
        obtain ⟨c, hcq⟩ := get_lt (xs := ys) (k := kk) (by omega)
        by_cases hab : a = b
        · refine ⟨(ys, kk), Ev.ite_t (decide_eq_true (by rw [hvl]; omega)) (Ev.join (Ev.bindc (idx_at va) (Ev.bindc (a := b) (by rw [W_pred (n := xs.length) (by omega) (by omega)]; exact idx_at vb) (Ev.ite_f (by rw [bne, eq3, decide_eq_true hab]; simp) (Ev.const (by rw [W_succ (n := xs.length) (by omega) (by omega)])))))), by omega, ?_⟩
          exact hc.skip (by rw [hkp]; simp [hab])
        · refine ⟨(ys.set kk a, kk + 1), Ev.ite_t (decide_eq_true (by rw [hvl]; omega)) (Ev.join (Ev.bindc (idx_at va) (Ev.bindc (a := b) (by rw [W_pred (n := xs.length) (by omega) (by omega)]; exact idx_at vb) (Ev.ite_t (by rw [bne, eq3, decide_eq_false hab]; rfl) (Ev.bindc (idx_at va) (Ev.bindc (idx_at hcq) (Ev.const (by rw [W_succ (n := xs.length) (by omega) (by omega), W_succ (k := kk) (n := xs.length) (by omega) (by omega), Int.toNat_natCast])))))))), by omega, ?_⟩
          have := hc.keep (by simpa using (by omega : q + 1 + (u + 1) < xs.length)) (by rw [hkp]; simp [hab])
          rw [getA ha] at this
          rw [show q + 1 + (u + 1 + 1) = q + 1 + (u + 1) + 1 by omega]
          simpa using this
      · obtain ⟨ys, kk⟩ := t
        obtain ⟨hp1, hc⟩ := hI
        dsimp only at hc ⊢
        have hys : ys.length = xs.length := by have := hc.size; simpa using this
        have hvl : ((ys.take ((xs.length : Int)).toNat).drop (((q + 1 : Nat) : Int)).toNat).length = xs.length - (q + 1) := by
          rw [Int.toNat_natCast, Int.toNat_natCast, List.length_drop, List.length_take]; omega
        exact ⟨_, Ev.ite_f (by rw [hvl]; simp) (Ev.pure _), ys, kk, rfl, by rw [show q + 1 + (xs.length - (q + 1)) = xs.length by omega] at hc; exact hc⟩
      · obtain ⟨ys, kk, rfl, hc⟩ := h2
        have hys : ys.length = xs.length := by have := hc.size; simpa using this
        have hkl := hc.lt
        have hlen := hc.len
        simp only
        refine Ev.bindc (sub_ok (lo := kk) (hi := ys.length) (by omega) (Nat.le_refl _)) ?_
        have hcl : (clr ys ((kk : Nat) : Int).toNat ((ys.length : Int)).toNat ((0 : Int), (0 : Int), (0 : Int))).take kk = Lib.compact xs := by
          unfold clr
          rw [Int.toNat_natCast, List.take_append_of_le_length (by rw [List.length_take]; omega), List.take_take, Nat.min_self]
          apply List.ext_getElem?
          intro j
          unfold Lib.compact
          by_cases hj : j < kk
          · rw [hc.low j hj, List.getElem?_take, if_pos hj, List.getElem?_eq_getElem (by omega), getElem!_pos ys.toArray j (by simpa using (by omega : j < ys.length))]
            simp
          · rw [List.getElem?_eq_none (by rw [List.length_take]; omega), List.getElem?_eq_none (by omega)]
        refine Ev.bindc (a := Lib.compact xs) ?_ (Ev.const rfl)
        have hcll : (clr ys ((kk : Nat) : Int).toNat ((ys.length : Int)).toNat ((0 : Int), (0 : Int), (0 : Int))).length = ys.length := by
          unfold clr
          simp
          omega
        have := sub_ok (xs := clr ys ((kk : Nat) : Int).toNat ((ys.length : Int)).toNat ((0 : Int), (0 : Int), (0 : Int))) (lo := 0) (hi := kk) (by omega) (by rw [hcll]; omega)
        rw [hcl, List.drop_zero] at this
        exact this
    · left
      refine ⟨(), Ev.ite_t (decide_eq_true (by omega)) (Ev.bindc (idx_at hx) (Ev.bindc (a := y) (by rw [W_pred (n := xs.length) (by omega) (by omega)]; exact idx_at hy) (Ev.ite_f (by rw [eq3, decide_eq_false e]; simp) (Ev.const (by rw [W_succ (n := xs.length) (by omega) (by omega)]))))), by omega, fun j hj => ?_⟩
      by_cases ej : j = q + 1
      · rw [ej, hkeep]; simp [e]
      · exact hall j (by omega)
  · rcases h2 with ⟨rfl, h2⟩ | rfl
    · rw [h2]; exact Ev.const rfl
    · exact Ev.const rfl

/-! ### an edge put to its place -/
theorem putE_spec {l : List Timpl_Edge} {e : Timpl_Edge} (hl : l.length ≤ 1048576) (hi : l.Pairwise fun a b => edgeLess a b = true) :
    ∃ r, Ev (fun m => spec_l11Put_m m l e) r ∧ (r.Pairwise fun a b => edgeLess a b = true) ∧ (∀ v, v ∈ r ↔ v = e ∨ v ∈ l) ∧ r.length ≤ l.length + 1 := by
  have hmx := mx
  unfold spec_l11Put_m
  simp only [less_m, Option.bind_some]
  obtain ⟨i, hil, hev, hab, hbl⟩ : ∃ i, i ≤ l.length ∧ EvI (fun (_ : Nat) (s : Int) => (match s with | (x56) => (if (decide ((0 : Int) < x56)) = true then (idx l (W (x56 - (1 : Int)))).bind fun x166 => some (edgeLess (e.1, e.2.1, e.2.2) x166) else some false).bind fun t163 => (if t163 = true then some (.inl ((W (x56 - (1 : Int))))) else some (.inr (.inl (x56)))) : Option (((Int)) ⊕ ((Int) ⊕ ((List Timpl_Edge)))))) ((l.length : Int)) (.inl ((i : Nat) : Int)) ∧ (∀ y, l[i]? = some y → edgeLess e y = true) ∧ (∀ q y, i = q + 1 → l[q]? = some y → edgeLess e y = false) := by
    have key : ∀ k, k ≤ l.length → (∀ y, l[k]? = some y → edgeLess e y = true) → ∃ i, i ≤ l.length ∧ EvI (fun (_ : Nat) (s : Int) => (match s with | (x56) => (if (decide ((0 : Int) < x56)) = true then (idx l (W (x56 - (1 : Int)))).bind fun x166 => some (edgeLess (e.1, e.2.1, e.2.2) x166) else some false).bind fun t163 => (if t163 = true then some (.inl ((W (x56 - (1 : Int))))) else some (.inr (.inl (x56)))) : Option (((Int)) ⊕ ((Int) ⊕ ((List Timpl_Edge)))))) ((k : Nat) : Int) (.inl ((i : Nat) : Int)) ∧ (∀ y, l[i]? = some y → edgeLess e y = true) ∧ (∀ q y, i = q + 1 → l[q]? = some y → edgeLess e y = false) := by
      intro k
      induction k with
      | zero =>
        intro _ h0
        exact ⟨0, by omega, EvI.stop (Ev.bindc (a := false) (by rw [if_neg (by simp)]) (Ev.ite_f (by simp) (Ev.pure _))), h0, fun q y h => by omega⟩
      | succ k ih =>
        intro hk h0
        obtain ⟨y, hy⟩ := get_lt (xs := l) (k := k) (by omega)
        cases hc : edgeLess e y
        · refine ⟨k + 1, hk, EvI.stop (Ev.bindc (a := false) ?_ (Ev.ite_f (by simp) (Ev.pure _))), h0, fun q z hq hz => ?_⟩
          · rw [if_pos (decide_eq_true (by omega)), W_pred (n := l.length) (by omega) (by omega), idx_at hy, Option.bind_some]
            exact congrArg some hc
          · obtain rfl : q = k := by omega
            rw [hy] at hz
            cases hz
            exact hc
        · obtain ⟨i, h1, h2, h3⟩ := ih (by omega) (fun z hz => by rw [hy] at hz; cases hz; exact hc)
          refine ⟨i, h1, EvI.go (Ev.bindc (a := true) ?_ (Ev.ite_t rfl (Ev.const (by rw [W_pred (n := l.length) (by omega) (by omega)])))) h2, h3⟩
          rw [if_pos (decide_eq_true (by omega)), W_pred (n := l.length) (by omega) (by omega), idx_at hy, Option.bind_some]
          exact congrArg some hc
    exact key l.length (Nat.le_refl _) fun y hy => by rw [List.getElem?_eq_none (Nat.le_refl _)] at hy; cases hy
  -- is it there already
  by_cases hthere : ∃ q, i = q + 1 ∧ l[q]? = some e
  · obtain ⟨q, rfl, hq⟩ := hthere
    refine ⟨l, Ev.bind hev.ev ?_, hi, fun v => ⟨.inr, fun h => ?_⟩, by omega⟩
    · simp only [ctl]
      refine Ev.bindc (a := true) ?_ (Ev.ite_t rfl (Ev.pure _))
      rw [if_pos (decide_eq_true (by omega)), W_pred (n := l.length) (by omega) (by omega), idx_at hq, Option.bind_some, eq3]
      simp
    · rcases h with rfl | h
      · exact List.mem_of_getElem? hq
      · exact h
  · have hlast : ∀ q y, i = q + 1 → l[q]? = some y → edgeLess y e = true := by
      intro q y h1 h2
      cases hc : edgeLess y e
      · have := edgeLess_tri (hbl q y h1 h2) hc
        subst this
        exact absurd ⟨q, h1, h2⟩ hthere
      · rfl
    have hbelow : ∀ j y, j < i → l[j]? = some y → edgeLess y e = true := by
      intro j y hj hy
      obtain ⟨q, rfl⟩ : ∃ q, i = q + 1 := ⟨i - 1, by omega⟩
      obtain ⟨z, hz⟩ := get_lt (xs := l) (k := q) (by omega)
      have hzl := hlast q z rfl hz
      by_cases ej : j = q
      · rw [ej, hz] at hy; cases hy; exact hzl
      · have hjl := (List.getElem?_eq_some_iff.1 hy)
        have hql := (List.getElem?_eq_some_iff.1 hz)
        have := List.pairwise_iff_getElem.1 hi j q hjl.1 hql.1 (by omega)
        rw [hjl.2, hql.2] at this
        exact edgeLess_trans this hzl
    refine ⟨l.take i ++ [e] ++ l.drop i, Ev.bind hev.ev ?_, insert_inc sto_edges hi hbelow hab, fun v => mem_insert, by simp; omega⟩
    simp only [ctl]
    refine Ev.bindc (a := false) ?_ (Ev.ite_f (by simp) (Ev.bindc (app_ok (by simp; omega)) ?_))
    · by_cases h0 : 0 < i
      · obtain ⟨q, rfl⟩ : ∃ q, i = q + 1 := ⟨i - 1, by omega⟩
        obtain ⟨z, hz⟩ := get_lt (xs := l) (k := q) (by omega)
        rw [if_pos (decide_eq_true (by omega)), W_pred (n := l.length) (by omega) (by omega), idx_at hz, Option.bind_some, eq3, decide_eq_false]
        intro he
        exact hthere ⟨q, rfl, by rw [hz]; exact congrArg some he⟩
      · rw [if_neg (by simp; omega)]
    · have hsh := shift_loop (ρ := List Timpl_Edge) (l := l) (z := ((0 : Int), (0 : Int), (0 : Int))) hil (step := fun (_ : Nat) (s : (List Timpl_Edge) × (Int)) => (match s with | (xs110, x111) => (if (decide (((i : Nat) : Int) < x111)) = true then (idx xs110 (W (x111 - (1 : Int)))).bind fun x144 => (idx xs110 x111).bind fun _ => some (.inl ((xs110.set x111.toNat (x144.1, x144.2.1, x144.2.2)), (W (x111 - (1 : Int))))) else some (.inr (.inl (xs110)))) : Option (((List Timpl_Edge) × (Int)) ⊕ (((List Timpl_Edge)) ⊕ ((List Timpl_Edge))))))
        (fun k xs y h1 h2 h3 h4 => by
          obtain ⟨z, hz⟩ := get_lt (xs := xs) (k := k + 1) (by omega)
          refine Ev.ite_t (decide_eq_true (by omega)) (Ev.bindc (a := y) (by rw [W_of (by omega) (by omega), show ((k + 1 : Nat) : Int) - 1 = (k : Int) by omega]; exact idx_at h4) (Ev.bindc (idx_at hz) (Ev.const ?_)))
          rw [W_of (by omega) (by omega), show ((k + 1 : Nat) : Int) - 1 = (k : Int) by omega, Int.toNat_natCast])
        (fun xs => Ev.ite_f (by simp) (Ev.pure _))
      obtain ⟨y, hy⟩ := hsh
      have e1 : W (((l ++ [((0 : Int), (0 : Int), (0 : Int))]).length : Int) - 1) = (l.length : Int) := by
        rw [List.length_append, List.length_singleton, W_of (by omega) (by omega)]
        omega
      rw [e1]
      refine Ev.bind hy.ev ?_
      simp only
      refine Ev.bindc (idx_at (get_mid hil)) (Ev.const ?_)
      rw [Int.toNat_natCast, set_mid hil]

/-! ### labels joined -/
theorem join_spec {ls : List Str} (hl : ls.length ≤ 1048576) :
    ∃ J, Ev (fun m => spec_l11Join_m m ls) J ∧ (J.Pairwise fun a b => lessL a b = true) ∧ (∀ v, v ∈ J ↔ v = tau' ∨ v ∈ ls) ∧ J.length ≤ ls.length + 1 := by
  have hmx := mx
  unfold spec_l11Join_m
  refine Exists.elim (EvI.count (β := List Str ⊕ List Str) (step := _) ls.length (fun k (out : List Str) => (out, (k : Int))) (fun k out => (out.Pairwise fun a b => lessL a b = true) ∧ (∀ v, v ∈ out ↔ v = tau' ∨ v ∈ ls.take k) ∧ out.length ≤ k + 1 ∧ out[0]? = some tau') (fun b => ∃ J, b = .inl J ∧ (J.Pairwise fun a b => lessL a b = true) ∧ (∀ v, v ∈ J ↔ v = tau' ∨ v ∈ ls) ∧ J.length ≤ ls.length + 1) (fun k out hk hI => .inl ?_) (fun out hI => ⟨_, Ev.ite_f (by simp) (Ev.pure _), out, rfl, hI.1, by have := hI.2.1; rwa [List.take_length] at this, hI.2.2.1⟩) (k := 0) (t := [tau']) (Nat.zero_le _) ⟨by simp, by simp, by simp, rfl⟩) (fun res ⟨h1, h2⟩ => Exists.elim h2 fun J ⟨h3, h4⟩ => ⟨J, Ev.bind h1.ev (by subst h3; exact Ev.pure _), h4⟩)
  obtain ⟨hinc, hmem, hlen, h0⟩ := hI
  obtain ⟨x, hx⟩ := get_lt hk
  have htk : ∀ v, v ∈ ls.take (k + 1) ↔ v ∈ ls.take k ∨ v = x := by
    intro v
    rw [List.take_add_one, hx, List.mem_append]
    simp
  have hfind := find_spec (ls := out) (s := x) (by omega)
  have hge := fnd_ge (ls := out) (s := x)
  by_cases hin : x ∈ out
  · refine ⟨out, Ev.ite_t (decide_eq_true (by omega)) (Ev.join (Ev.bindc (idx_at hx) (Ev.bind hfind (Ev.ite_t (decide_eq_true (hge.2 hin)) (Ev.const (by rw [W_succ hk (by omega)])))))), hinc, fun v => ?_, by omega, h0⟩
    rw [hmem, htk]
    constructor
    · rintro (h | h)
      · exact .inl h
      · exact .inr (.inl h)
    · rintro (h | h | h)
      · exact .inl h
      · exact .inr h
      · rw [h]; exact (hmem x).1 hin
  · have hol : 1 ≤ out.length := by have := (List.getElem?_eq_some_iff.1 h0).1; omega
    have htau : tau' ∈ out := List.mem_of_getElem? h0
    have hxt : x ≠ tau' := fun e => hin (e ▸ htau)
    obtain ⟨i, hi1, hil, hev, hab, hbl⟩ : ∃ i, 1 ≤ i ∧ i ≤ out.length ∧ EvI (fun (_ : Nat) (s : Int) => (match s with | (x340) => (if (decide (x340 < (out.length : Int))) = true then (idx out x340).bind fun x427 => (idx ls (k : Int)).bind fun x429 => some (Op.bytesLess x427 x429) else some false).bind fun t424 => (if t424 = true then some (.inl ((W (x340 + (1 : Int))))) else some (.inr (.inl (x340)))) : Option (((Int)) ⊕ ((Int) ⊕ ((List Str)))))) (1 : Int) (.inl ((i : Nat) : Int)) ∧ (∀ y, out[i]? = some y → Op.bytesLess y x = false) ∧ (∀ j y, 1 ≤ j → j < i → out[j]? = some y → Op.bytesLess y x = true) := by
      refine Exists.elim (EvI.count (β := Int ⊕ List Str) (step := fun (_ : Nat) (s : Int) => (match s with | (x340) => (if (decide (x340 < (out.length : Int))) = true then (idx out x340).bind fun x427 => (idx ls (k : Int)).bind fun x429 => some (Op.bytesLess x427 x429) else some false).bind fun t424 => (if t424 = true then some (.inl ((W (x340 + (1 : Int))))) else some (.inr (.inl (x340)))) : Option (((Int)) ⊕ ((Int) ⊕ ((List Str)))))) out.length (fun j (_ : Unit) => (j : Int)) (fun j _ => 1 ≤ j ∧ ∀ q y, 1 ≤ q → q < j → out[q]? = some y → Op.bytesLess y x = true) (fun b => ∃ i, 1 ≤ i ∧ i ≤ out.length ∧ b = .inl ((i : Nat) : Int) ∧ (∀ y, out[i]? = some y → Op.bytesLess y x = false) ∧ (∀ j y, 1 ≤ j → j < i → out[j]? = some y → Op.bytesLess y x = true)) (fun j _ hj hI => ?_) (fun _ hI => ⟨_, Ev.bindc (a := false) (by rw [if_neg (by simp)]) (Ev.ite_f (by simp) (Ev.pure _)), out.length, hI.1, Nat.le_refl _, rfl, fun y hy => (by rw [List.getElem?_eq_none (Nat.le_refl _)] at hy; cases hy), hI.2⟩) (k := 1) (t := ()) hol ⟨Nat.le_refl _, fun q y h1 h2 => by omega⟩) (fun res ⟨h1, h2⟩ => Exists.elim h2 fun i ⟨h3, h4, h5, h6⟩ => ⟨i, h3, h4, by rw [← h5]; exact h1, h6⟩)
      obtain ⟨y, hy⟩ := get_lt hj
      cases hc : Op.bytesLess y x
      · right
        refine ⟨_, Ev.bindc (a := false) ?_ (Ev.ite_f (by simp) (Ev.pure _)), j, hI.1, by omega, rfl, fun z hz => ?_, hI.2⟩
        · rw [if_pos (decide_eq_true (by omega)), idx_at hy, Option.bind_some, idx_at hx, Option.bind_some, hc]
        · rw [hy] at hz; cases hz; exact hc
      · left
        refine ⟨(), Ev.bindc (a := true) ?_ (Ev.ite_t rfl (Ev.const (by rw [W_succ hj (by omega)]))), by omega, fun q z h1 h2 h3 => ?_⟩
        · rw [if_pos (decide_eq_true (by omega)), idx_at hy, Option.bind_some, idx_at hx, Option.bind_some, hc]
        · by_cases eq : q = j
          · rw [eq, hy] at h3; cases h3; exact hc
          · exact hI.2 q z h1 (by omega) h3
    have hnin : ∀ {j : Nat} {y : Str}, out[j]? = some y → y ≠ x := fun hy e => hin (e ▸ List.mem_of_getElem? hy)
    have hbelow : ∀ j y, j < i → out[j]? = some y → lessL y x = true := by
      intro j y hj hy
      refine lessL_iff.2 ⟨hnin hy, ?_⟩
      by_cases h : j = 0
      · rw [h, h0] at hy; cases hy; exact .inl rfl
      · exact .inr ⟨hxt, hbl j y (by omega) hj hy⟩
    have habove : ∀ y, out[i]? = some y → lessL x y = true := by
      intro y hy
      have hyl := List.getElem?_eq_some_iff.1 hy
      have h0l := List.getElem?_eq_some_iff.1 h0
      have h1 := List.pairwise_iff_getElem.1 hinc 0 i h0l.1 hyl.1 (by omega)
      rw [h0l.2, hyl.2] at h1
      have hyt : y ≠ tau' := fun e => (lessL_iff.1 h1).1 e.symm
      refine lessL_iff.2 ⟨fun e => hnin hy e.symm, .inr ⟨hyt, ?_⟩⟩
      cases hc : Op.bytesLess x y
      · exact absurd (bl_tri y x (hab y hy) hc) (hnin hy)
      · rfl
    have hsh := shift_loop (ρ := List Str) (l := out) (z := ([] : Str)) hil (step := fun (_ : Nat) (s : (List Str) × (Int)) => (match s with | (xs380, x381) => (if (decide (((i : Nat) : Int) < x381)) = true then (idx xs380 (W (x381 - (1 : Int)))).bind fun x411 => (idx xs380 x381).bind fun _ => some (.inl ((xs380.set x381.toNat x411), (W (x381 - (1 : Int))))) else some (.inr (.inl (xs380)))) : Option (((List Str) × (Int)) ⊕ (((List Str)) ⊕ ((List Str))))))
      (fun k xs y h1 h2 h3 h4 => by
        obtain ⟨z, hz⟩ := get_lt (xs := xs) (k := k + 1) (by omega)
        refine Ev.ite_t (decide_eq_true (by omega)) (Ev.bindc (a := y) (by rw [W_of (by omega) (by omega), show ((k + 1 : Nat) : Int) - 1 = (k : Int) by omega]; exact idx_at h4) (Ev.bindc (idx_at hz) (Ev.const ?_)))
        rw [W_of (by omega) (by omega), show ((k + 1 : Nat) : Int) - 1 = (k : Int) by omega, Int.toNat_natCast])
      (fun xs => Ev.ite_f (by simp) (Ev.pure _))
    obtain ⟨y, hy⟩ := hsh
    have e1 : W (((out ++ [([] : Str)]).length : Int) - 1) = (out.length : Int) := by
      rw [List.length_append, List.length_singleton, W_of (by omega) (by omega)]
      omega
    refine ⟨out.take i ++ [x] ++ out.drop i, Ev.ite_t (decide_eq_true (by omega)) (Ev.join (Ev.bindc (idx_at hx) (Ev.bind hfind (Ev.ite_f (fun h => hin (hge.1 (of_decide_eq_true h))) (Ev.bind hev.ev ?_))))), insert_inc sto_labs hinc hbelow habove, fun v => ?_, by simp; omega, ?_⟩
    · simp only [ctl]
      refine Ev.bindc (app_ok (by simp; omega)) ?_
      rw [e1]
      refine Ev.bind hy.ev ?_
      simp only
      refine Ev.bindc (idx_at hx) (Ev.bindc (idx_at (get_mid hil)) (Ev.const ?_))
      rw [Int.toNat_natCast, set_mid hil, W_succ hk (by omega)]
    · rw [mem_insert, hmem, htk]
      constructor
      · rintro (h | h | h)
        · exact .inr (.inr h)
        · exact .inl h
        · exact .inr (.inl h)
      · rintro (h | h | h)
        · exact .inr (.inl h)
        · exact .inr (.inr h)
        · exact .inl h
    · rw [List.append_assoc, List.getElem?_append_left (by rw [List.length_take]; omega), List.getElem?_take, if_pos (by omega)]
      exact h0

theorem indexS_ev {ls : List Str} {s : Str} (hl : ls.length ≤ maxLen) : Ev (fun m => slices_Index__string_string_m m ls s) (fnd ls s) := by
  obtain ⟨r, h1, h2⟩ := index_loop hl (f := fun _ x => some (s == x)) (ok := fun x => !(x == s)) (fun x _ => Ev.const (by rw [Bool.not_not, Bool.beq_comm]))
  rw [fnd_of h2] at h1
  exact h1
def jnP (L : List Str) : List Str := Lib.compact (sortF cmpF (tau' :: L))
theorem jnP_inc (L : List Str) : (jnP L).Pairwise fun a b => lessL a b = true := compact_strs (sortF_le _)
theorem mem_jnP {L : List Str} {v : Str} : v ∈ jnP L ↔ v = tau' ∨ v ∈ L := by
  unfold jnP
  rw [mem_compactS, mem_sortF, List.mem_cons]
theorem jnP_len {L : List Str} : (jnP L).length ≤ L.length + 1 := by
  unfold jnP
  refine Nat.le_trans (compact_len _) ?_
  rw [sortF_len, List.length_cons]
  omega
def edgP (J : List Str) (A : List Timpl_arc) : List Timpl_Edge := A.map fun a => (a.1, fnd J a.2.1, a.2.2)
def mkP (J : List Str) (A : List Timpl_arc) : List Timpl_Edge := Lib.compact (sortF cmpE (edgP J A))
theorem lts_impl {s i : Int} {L : List Str} {A : List Timpl_arc} (hL : L.length ≤ 1048575) (hA : A.length ≤ 1048576) : Ev (fun m => impl_lts_m m s i L A) (s, i, jnP L, mkP (jnP L) A) := by
  have hmx := mx
  have hjl := jnP_len (L := L)
  unfold impl_lts_m
  refine Ev.bindc (a := tau' :: L) (app_ok (by simp; omega)) (Ev.bind (sortf_ev (by simp; omega)) (Ev.bindc (a := jnP L) rfl ?_))
  refine Ev.bind (append_map (step := _) A (fun a => ((a.1, fnd (jnP L) a.2.1, a.2.2) : Timpl_Edge)) (fun k a hk => ?_) (fun xs => Ev.ite_f (by simp) (Ev.pure _))).ev ?_
  · have hkl := (List.getElem?_eq_some_iff.1 hk).1
    refine Ev.ite_t (decide_eq_true (by omega)) (Ev.join (Ev.bindc (idx_at hk) (Ev.bind (indexS_ev (by omega)) (Ev.bindc (app_ok (by simp; omega)) (Ev.const (by rw [W_succ hkl (by omega)]))))))
  · have hel : (edgP (jnP L) A).length ≤ 1048576 := by unfold edgP; rw [List.length_map]; exact hA
    simp only [ctl]
    refine Ev.bind (sortE_ev hel) (Ev.bind (compactE_ev (by rw [sortF_len]; exact hel)) (Ev.pure _))

/-- The label behind an edge, in a list of texts. -/
def lbP (T : List Str) (e : Timpl_Edge) : Str := (idx T e.2.1).getD []
theorem make_spec {s i : Int} {T : List Str} {E : List Timpl_Edge} (hT : T.length ≤ 1048575) (hE : E.length ≤ 1048576) (hin : ∀ e ∈ E, ∃ x, idx T e.2.1 = some x) :
    Ev (fun m => spec_l11Make_m m s i T E) (s, i, jnP T, mkP (jnP T) (E.map fun e => (e.1, lbP T e, e.2.2))) := by
  have hmx := mx
  have hjl := jnP_len (L := T)
  obtain ⟨J, j1, j2, j3, j4⟩ := join_spec (ls := T) (by omega)
  obtain rfl : J = jnP T := sto_labs.ext j2 (jnP_inc T) fun v => by rw [j3, mem_jnP]
  unfold spec_l11Make_m
  refine Ev.bind j1 ?_
  have hel : (edgP (jnP T) (E.map fun e => (e.1, lbP T e, e.2.2))).length ≤ 1048576 := by unfold edgP; rw [List.length_map, List.length_map]; exact hE
  have hget : ∀ (k : Nat) (e : Timpl_Edge), E[k]? = some e → (edgP (jnP T) (E.map fun e => (e.1, lbP T e, e.2.2)))[k]? = some (e.1, fnd (jnP T) (lbP T e), e.2.2) := by
    intro k e hk
    unfold edgP
    rw [List.getElem?_map, List.getElem?_map, hk]
    rfl
  have hfin : ∀ xs : List Timpl_Edge, (xs.Pairwise fun a b => edgeLess a b = true) → (∀ v, v ∈ xs ↔ v ∈ edgP (jnP T) (E.map fun e => (e.1, lbP T e, e.2.2))) → xs = mkP (jnP T) (E.map fun e => (e.1, lbP T e, e.2.2)) := by
    intro xs h1 h2
    refine sto_edges.ext h1 (sto_edges.compact (sortE_le hel)) fun v => ?_
    unfold mkP
    rw [mem_compG, (sortF_perm cmpE _).mem_iff]
    exact h2 v
  refine Exists.elim (EvI.count (β := List Timpl_Edge ⊕ Timpl_Lts) (step := _) E.length (fun k (xs : List Timpl_Edge) => (xs, (k : Int))) (fun k xs => (xs.Pairwise fun a b => edgeLess a b = true) ∧ (∀ v, v ∈ xs ↔ v ∈ (edgP (jnP T) (E.map fun e => (e.1, lbP T e, e.2.2))).take k) ∧ xs.length ≤ k) (fun b => b = .inl (mkP (jnP T) (E.map fun e => (e.1, lbP T e, e.2.2)))) (fun k xs hk hI => .inl ?_) (fun xs hI => ⟨_, Ev.ite_f (by simp) (Ev.pure _), ?_⟩) (k := 0) (t := []) (Nat.zero_le _) ⟨by simp, by simp, by simp⟩) (fun res ⟨h1, h2⟩ => Ev.bind h1.ev (by subst h2; exact Ev.pure _))
  · obtain ⟨hinc, hmem, hlen⟩ := hI
    obtain ⟨e, he⟩ := get_lt hk
    obtain ⟨x, hx⟩ := hin e (List.mem_of_getElem? he)
    have hlb : lbP T e = x := by unfold lbP; rw [hx]; rfl
    obtain ⟨r, r1, r2, r3, r4⟩ := putE_spec (l := xs) (e := (e.1, fnd (jnP T) x, e.2.2)) (by omega) hinc
    refine ⟨r, Ev.ite_t (decide_eq_true (by omega)) (Ev.bindc (idx_at he) (Ev.bindc hx (Ev.bind (find_spec (by omega)) (Ev.bind r1 (Ev.const (by rw [W_succ hk (by omega)])))))), r2, fun v => ?_, by omega⟩
    rw [r3, hmem, List.take_add_one, hget k e he, hlb, List.mem_append]
    simp only [Option.toList_some, List.mem_singleton]
    exact Or.comm
  · rw [hfin xs hI.1 fun v => ?_]
    have := hI.2.1 v
    rwa [List.take_of_length_le (by unfold edgP; rw [List.length_map, List.length_map]; exact Nat.le_refl _)] at this
theorem mkP_len {J : List Str} {A : List Timpl_arc} : (mkP J A).length ≤ A.length := by
  unfold mkP
  refine Nat.le_trans (compact_len _) ?_
  rw [sortF_len]
  unfold edgP
  rw [List.length_map]
  exact Nat.le_refl _
theorem arcs_ev {t : Timpl_Lts} {n : Nat} (V : VL t n) : Ev (fun m => impl_Lts_arcs_m m t) (t.2.2.2.map fun e => (e.1, labT t e, e.2.2)) := by
  have hmx := mx
  have hfew := V.few
  unfold impl_Lts_arcs_m
  refine Ev.bind (append_map (step := _) t.2.2.2 (fun e => ((e.1, labT t e, e.2.2) : Timpl_arc)) (fun k e hk => ?_) (fun xs => Ev.ite_f (by simp) (Ev.pure _))).ev (Ev.pure _)
  have hkl := (List.getElem?_eq_some_iff.1 hk).1
  exact Ev.ite_t (decide_eq_true (by omega)) (Ev.bindc (idx_at hk) (Ev.bindc (labT_at V (List.mem_of_getElem? hk)) (Ev.bindc (app_ok (by simp; omega)) (Ev.const (by rw [W_succ hkl (by omega)])))))
theorem labT_len {t : Timpl_Lts} {n : Nat} (V : VL t n) (h : BLts t) {e : Timpl_Edge} (he : e ∈ t.2.2.2) : (labT t e).length ≤ 1048576 := by
  have h1 := labT_at V he
  exact h.2.1 _ (List.mem_of_getElem? (idx_some h1).2)
/-- The edges with the places of their own texts for labels. -/
def usE (t : Timpl_Lts) (k : Nat) : List Timpl_Edge := (List.range k).map fun i => match t.2.2.2[i]? with | some e => (e.1, ((i + 1 : Nat) : Int), e.2.2) | none => (0, 0, 0)
theorem used_core {a : Tlaws_Lts} (h : BLts a) : ∃ r, Ev (fun n => spec_UsedLabels_m n a) r ∧ Ev (fun n => impl_UsedLabels_m n a) r ∧ BLts r.1 := by
  have h1 := valid_spec (t := a) h.1 h.2.1 h.2.2
  have h2 := valid_impl (t := a) h.1 h.2.1 h.2.2
  have hmx := mx
  unfold spec_UsedLabels_m impl_UsedLabels_m
  cases hv : validP a
  · rw [hv] at h1 h2
    exact ⟨((0, 0, [], []), 1), Ev.bind h1 (Ev.const rfl), Ev.bind h2 (Ev.const rfl), by simp [BLts]⟩
  · rw [hv] at h1 h2
    obtain ⟨n, V⟩ := valid_of hv
    have hfew := V.few
    obtain ⟨L, hL⟩ : ∃ L, L = a.2.2.2.map (labT a) := ⟨_, rfl⟩
    have hLl : L.length = a.2.2.2.length := by rw [hL, List.length_map]
    obtain ⟨A, hA⟩ : ∃ A : List Timpl_arc, A = a.2.2.2.map fun e => (e.1, labT a e, e.2.2) := ⟨_, rfl⟩
    have hAl : A.length = a.2.2.2.length := by rw [hA, List.length_map]
    have hjn : jnP (tau' :: L) = jnP L := sto_labs.ext (jnP_inc _) (jnP_inc _) fun v => by
      rw [mem_jnP, mem_jnP, List.mem_cons]
      constructor
      · rintro (h | h | h)
        · exact .inl h
        · exact .inl h
        · exact .inr h
      · rintro (h | h)
        · exact .inl h
        · exact .inr (.inr h)
    have hTk : ∀ k, k ≤ a.2.2.2.length → (tau' :: L.take k).length = k + 1 := fun k hk => by rw [List.length_cons, List.length_take]; omega
    have hus : ∀ (k : Nat) (e : Timpl_Edge), a.2.2.2[k]? = some e → usE a (k + 1) = usE a k ++ [(e.1, ((k + 1 : Nat) : Int), e.2.2)] := fun k e hk => by
      unfold usE
      rw [List.range_succ, List.map_append, List.map_singleton, hk]
    have hidx : ∀ (k : Nat) (e : Timpl_Edge), a.2.2.2[k]? = some e → idx (tau' :: L) ((k + 1 : Nat) : Int) = some (labT a e) := fun k e hk => idx_at (by
      rw [List.getElem?_cons_succ, hL, List.getElem?_map, hk]; rfl)
    have hmem : ∀ e' ∈ usE a a.2.2.2.length, ∃ x, idx (tau' :: L) e'.2.1 = some x := by
      intro e' he'
      obtain ⟨i, hi, rfl⟩ := List.mem_map.1 he'
      obtain ⟨e, he⟩ := get_lt (xs := a.2.2.2) (k := i) (List.mem_range.1 hi)
      rw [he]
      exact ⟨_, hidx i e he⟩
    have hmap : (usE a a.2.2.2.length).map (fun e => ((e.1, lbP (tau' :: L) e, e.2.2) : Timpl_arc)) = A := by
      rw [hA]
      apply List.ext_getElem?
      intro i
      by_cases hi : i < a.2.2.2.length
      · obtain ⟨e, he⟩ := get_lt hi
        rw [List.getElem?_map, List.getElem?_map, he]
        unfold usE
        rw [List.getElem?_map, List.getElem?_range hi, Option.map_some, he]
        simp only [Option.map_some]
        unfold lbP
        rw [hidx i e he]
        rfl
      · rw [List.getElem?_eq_none (by rw [List.length_map]; unfold usE; rw [List.length_map, List.length_range]; omega), List.getElem?_eq_none (by rw [List.length_map]; omega)]
    have hmk := make_spec (s := a.1) (i := a.2.1) (T := tau' :: L) (E := usE a a.2.2.2.length) (by rw [List.length_cons]; omega) (by unfold usE; rw [List.length_map, List.length_range]; omega) hmem
    rw [hmap, hjn] at hmk
    have hlt := lts_impl (s := a.1) (i := a.2.1) (L := L) (A := A) (by omega) (by omega)
    refine ⟨((a.1, a.2.1, jnP L, mkP (jnP L) A), 0), Ev.bind h1 (Ev.ite_f (by simp) (Ev.bind (a := (a.1, a.2.1, jnP L, mkP (jnP L) A)) ?_ (Ev.pure _))), Ev.bind h2 (Ev.ite_f (by simp) (Ev.bind (a := (a.1, a.2.1, jnP L, mkP (jnP L) A)) ?_ (Ev.pure _))), ?_⟩
    · unfold spec_l11Used_m
      refine Ev.bind (a := Sum.inl (tau' :: L, usE a a.2.2.2.length)) (EvI.upto a.2.2.2.length (fun k (_ : Unit) => (tau' :: L.take k, usE a k, (k : Int))) (fun _ _ => True) (k := 0) (t := ()) (by simp [usE, tau']) (Nat.zero_le _) trivial (fun k _ hk _ => ⟨(), ?_, trivial⟩) (fun _ _ => Ev.ite_f (by simp) (Ev.eq (Ev.pure _) (by rw [List.take_of_length_le (by omega)])))).ev (Ev.bind hmk (Ev.pure _))
      obtain ⟨e, he⟩ := get_lt hk
      have hLk : L[k]? = some (labT a e) := by rw [hL, List.getElem?_map, he]; rfl
      have happ : tau' :: L.take k ++ [labT a e] = tau' :: L.take (k + 1) := by rw [List.take_add_one, hLk]; rfl
      have hul : (usE a k).length = k := by unfold usE; rw [List.length_map, List.length_range]
      refine Ev.ite_t (decide_eq_true (by show (k : Int) < (a.2.2.2.length : Int); omega)) (Ev.bindc (idx_at he) (Ev.bindc (labT_at V (List.mem_of_getElem? he)) (Ev.bindc (a := tau' :: L.take (k + 1)) (by rw [← happ]; exact app_ok (by rw [hTk k (by omega)]; simp; omega)) (Ev.bindc (app_ok (by rw [hul]; simp; omega)) (Ev.const ?_)))))
      rw [hTk (k + 1) (by omega), hus k e he, W_succ hk (by omega), W_of (by omega) (by omega), show (((k + 1 + 1 : Nat) : Int) - 1) = ((k + 1 : Nat) : Int) by omega]
    · unfold impl_Lts_usedLabels_m
      have harc := arcs_ev V
      rw [← hA] at harc
      refine Ev.bind harc (Ev.bind (a := L) ?_ (Ev.bind hlt (Ev.pure _)))
      unfold impl_labelsOf_m
      refine Ev.bind (append_map (step := _) A (fun x => x.2.1) (fun k x hk => ?_) (fun xs => Ev.ite_f (by simp) (Ev.pure _))).ev (Ev.eq (Ev.pure _) ?_)
      · have hkl := (List.getElem?_eq_some_iff.1 hk).1
        exact Ev.ite_t (decide_eq_true (by omega)) (Ev.bindc (idx_at hk) (Ev.bindc (app_ok (by simp; omega)) (Ev.const (by rw [W_succ hkl (by omega)]))))
      · rw [hA, hL, List.map_map]; rfl
    · refine ⟨by have := jnP_len (L := L); show (jnP L).length ≤ _; omega, fun v hvm => ?_, by have := mkP_len (J := jnP L) (A := A); show (mkP (jnP L) A).length ≤ _; omega⟩
      rcases mem_jnP.1 hvm with rfl | hvm
      · simp [tau']
      · rw [hL] at hvm
        obtain ⟨e, he, rfl⟩ := List.mem_map.1 hvm
        exact labT_len V h he
set_option maxHeartbeats 4000000 in
theorem law_UsedLabels {a : Tlaws_Lts} (g_a : (GLts) a) : ∃ n, laws_FnExactUsedLabels_m n a = some true := by
  have hm : maxLen = 9223372036854775807 := by unfold maxLen; rfl
  refine Ev.one (f := fun n => laws_FnExactUsedLabels_m n a) ?_
  unfold laws_FnExactUsedLabels_m
  obtain ⟨r1, h1, s1⟩ := sz_lts g_a (b := (1048576 : Int)) (by omega) (by omega)
  refine Ev.bind h1 ?_
  by_cases n1 : r1 < 0
  · exact Ev.ite_t (decide_eq_true n1) (Ev.pure _)
  rcases s1 with s1 | ⟨p1, q1, B_a⟩
  · exact absurd s1 n1
  refine Ev.ite_f (by simpa using n1) ?_
  obtain ⟨r, hs, hi, B_r0⟩ := used_core B_a
  have to_a_ := toB_lts B_a
  have eq_a_ := eqB_lts B_a
  have eq_r0 := eqB_lts (a := r.1) B_r0
  obtain ⟨k_a, ys_a, m_a, m1_a, m2_a⟩ := marksA_lts (k := (1 : Int)) B_a (by omega) (by omega)
  obtain ⟨k_r0, ys_r0, m_r0, m0_r0, m1_r0, m2_r0⟩ := marksB_lts (k := (1 : Int)) (a := r.1) B_r0 (by omega) (by omega)
  repeat (first
    | exact Ev.pure _
    | refine Ev.bind (by with_reducible assumption) ?_
    | refine Ev.ite_f (by first | (simp; done) | (simp; omega)) ?_
    | refine Ev.bind (Ev.ite_f (by first | (simp; done) | (simp; omega)) (Ev.bind (by with_reducible assumption) (Ev.pure _))) ?_
    | refine Ev.bind (a := false) (Ev.ite_f (by first | (simp; done) | (simp; omega)) (Ev.const (by simp))) ?_
    | refine Ev.bind (a := false) (Ev.ite_f (by first | (simp; done) | (simp; omega)) (Ev.bind (by with_reducible assumption) (Ev.const (by simp)))) ?_
    | refine Ev.bindc (by with_reducible rfl) ?_)
end Go.Proofs.YtldmecdkdoipdaaGreatDoor

