/-
  The plain laws of a statement, joined into one text.
-/
import Derived.Test.YtldmecdkdoipdaaGreatDoorF0
import Derived.Test.YtldmecdkdoipdaaGreatDoorF1
import Derived.Test.YtldmecdkdoipdaaGreatDoorF2
import Derived.Test.YtldmecdkdoipdaaGreatDoorF3
import Derived.Test.YtldmecdkdoipdaaGreatDoorF4
import Derived.Test.YtldmecdkdoipdaaGreatDoorF7
import Derived.Test.YtldmecdkdoipdaaGreatDoorFS
import Derived.Test.YtldmecdkdoipdaaGreatDoorGxI
import Derived.Test.YtldmecdkdoipdaaGreatDoorGxJ
import Derived.Test.YtldmecdkdoipdaaGreatDoorGxP
import Derived.Test.YtldmecdkdoipdaaGreatDoorGxU
import Derived.Test.YtldmecdkdoipdaaGreatDoorGxZ
import Derived.Test.YtldmecdkdoipdaaGreatDoorLSeparationDepth
namespace Go.Proofs.YtldmecdkdoipdaaGreatDoor
open Go.Gx
theorem l00In_eq {n : Nat} {a b c : Int} : spec_l00In_m n a b c = some (decide (b ≤ a) && decide (a ≤ c)) := by
  unfold spec_l00In_m
  by_cases h : b ≤ a <;> simp [h]
theorem within_eq {n : Nat} {a b c : Int} : impl_within_m n a b c = some (decide (b ≤ a) && decide (a ≤ c)) := by
  unfold impl_within_m
  by_cases h : b ≤ a <;> simp [h]
theorem index_eq {n : Nat} {a b : Int} : impl_index_m n a b = some (decide (0 ≤ a) && decide (a ≤ W (b - 1))) := by
  unfold impl_index_m
  simp [within_eq]

/-! ### changes of the sign -/
/-! ### letters and names -/
def small (b : UInt8) : Bool := decide ((97 : Int) ≤ (b.toNat : Int)) && decide ((b.toNat : Int) ≤ 122)
def dg (b : UInt8) : Bool := decide ((48 : Int) ≤ (b.toNat : Int)) && decide ((b.toNat : Int) ≤ 57)
theorem dg_eq (b : UInt8) : dg b = isDig b := by
  unfold dg isDig
  rw [show decide ((48 : Int) ≤ (b.toNat : Int)) = decide (48 ≤ b.toNat) from decide_eq_decide.2 (by omega), show decide ((b.toNat : Int) ≤ 57) = decide (b.toNat ≤ 57) from decide_eq_decide.2 (by omega)]
theorem small_m {m : Nat} {b : UInt8} : spec_l01Small_m m (b.toNat : Int) = some (small b) := by unfold spec_l01Small_m; rw [and_some]; rfl
theorem dg_m {m : Nat} {b : UInt8} : spec_l01Digit_m m (b.toNat : Int) = some (dg b) := by unfold spec_l01Digit_m; rw [and_some]; rfl
theorem idg_m {m : Nat} {b : UInt8} : impl_isDigit_m m (b.toNat : Int) = some (dg b) := by unfold impl_isDigit_m; rw [and_some]; rfl

def okN (s : Str) (k : Nat) : Bool := match s[k]? with
  | none => true
  | some b => !(!(small b) && (((k : Int) == 0) || !(dg b)))
def okS (s : Str) (k : Nat) : Bool := match s[k]? with
  | none => true
  | some b => !(!(small b) && !(dg b))
def nameP (s : Str) : Bool := decide (1 ≤ s.length) && decide (s.length ≤ 10) && decide (∀ k, k < s.length → okN s k = true)
def actP (s : Str) : Bool := nameP s && (s != [116, 97, 117])

theorem name_impl {s : Str} (hl : s.length ≤ maxLen) : Ev (fun m => impl_IsName_m m s) (nameP s) := by
  have hm := maxLen_le
  unfold impl_IsName_m
  refine Ev.bind (EvI.all s.length (okN s) false (fun k hk hok => Ev.const' fun m => ?_) (fun k hk hok => Ev.const' fun m => ?_) (Ev.ite_f (by simp) (Ev.pure _))).ev (Ev.const ?_)
  · obtain ⟨b, hb⟩ := get_lt hk
    have hk' : decide ((k : Int) < (s.length : Int)) = true := by simpa using hk
    simp only [okN, hb] at hok
    have e : (!(small b) && (((k : Int) == 0) || !(dg b))) = false := by rwa [Bool.not_eq_true'] at hok
    unfold small at e
    simp only [hk', if_true, idx_at hb, Option.bind_some, and_some, idg_m, or_some, e, W_succ hk (by omega)]
    rfl
  · obtain ⟨b, hb⟩ := get_lt hk
    have hk' : decide ((k : Int) < (s.length : Int)) = true := by simpa using hk
    simp only [okN, hb] at hok
    have e : (!(small b) && (((k : Int) == 0) || !(dg b))) = true := by rwa [Bool.not_eq_false'] at hok
    unfold small at e
    simp only [hk', if_true, idx_at hb, Option.bind_some, and_some, idg_m, or_some, e]
  · unfold nameP
    rw [show decide (1 ≤ s.length) = decide ((1 : Int) ≤ (s.length : Int)) from decide_eq_decide.2 (by omega), show decide (s.length ≤ 10) = decide ((s.length : Int) ≤ 10) from decide_eq_decide.2 (by omega)]
    by_cases h : ∀ k, k < s.length → okN s k = true
    · rw [if_pos h, ctl_l, decide_eq_true h, Bool.and_true, and_some]; rfl
    · rw [if_neg h, ctl_r, decide_eq_false h, Bool.and_false]

theorem name_all {s : Str} {b : UInt8} {r : Str} (e : s = b :: r) : (∀ k, k < s.length → okN s k = true) ↔ small b = true ∧ ∀ k, k < s.length → okS s k = true := by
  subst e
  constructor
  · intro h
    have h0 := h 0 (by simp)
    simp [okN] at h0
    refine ⟨h0, fun k hk => ?_⟩
    have h1 := h k hk
    obtain ⟨c, hc⟩ := get_lt hk
    simp only [okN, okS, hc] at h1 ⊢
    cases hs : small c <;> cases hd : dg c <;> simp [hs, hd] at h1 ⊢
  · rintro ⟨h0, h⟩ k hk
    have h1 := h k hk
    obtain ⟨c, hc⟩ := get_lt hk
    simp only [okN, okS, hc] at h1 ⊢
    cases k with
    | zero => have : b = c := by simpa using hc
              subst this; simp [h0]
    | succ j =>
      have : (((j + 1 : Nat) : Int) == 0) = false := beq_false_of_ne (by omega)
      rw [this]
      simpa using h1

theorem name_spec {s : Str} (_hl : s.length ≤ maxLen) : Ev (fun m => spec_l01Name_m m s) (nameP s) := by
  have hm := maxLen_le
  unfold spec_l01Name_m
  cases hs : s with
  | nil => exact (Ev.const' fun m => rfl : Ev (fun m => _) false)
  | cons b r =>
    rw [← hs]
    have h1 : (s == ([] : Str)) = false := by rw [hs]; rfl
    have hb : s[0]? = some b := by rw [hs]; rfl
    simp only [h1, or_some, Option.bind_some, Bool.false_or]
    by_cases h2 : 10 < s.length
    · have h2' : decide ((10 : Int) < (s.length : Int)) = true := decide_eq_true (by omega)
      simp only [h2', if_true, Option.bind_some]
      refine (Ev.pure _).eq ?_
      unfold nameP
      rw [decide_eq_false (show ¬ s.length ≤ 10 by omega)]
      simp
    · have h2' : decide ((10 : Int) < (s.length : Int)) = false := decide_eq_false (by omega)
      have hi : idx s (0 : Int) = some b := idx_at (k := 0) hb
      simp only [h2', Bool.false_eq_true, if_false, hi, Option.bind_some, small_m]
      have hN := name_all hs
      have hlen : 1 ≤ s.length := by rw [hs]; simp
      cases h3 : small b with
      | false =>
        refine (Ev.ite_t (by rfl) (Ev.pure _)).eq ?_
        unfold nameP
        have : ¬ ∀ k, k < s.length → okN s k = true := fun h => by have := (hN.1 h).1; rw [h3] at this; cases this
        rw [decide_eq_false this, Bool.and_false]
      | true =>
        refine Ev.ite_f (by simp) ?_
        refine (Ev.all s.length (okS s) false true (fun k hk hok => Ev.const' fun m => ?_) (fun k hk hok => Ev.const' fun m => ?_) (Ev.ite_f (by simp) (Ev.pure _))).eq ?_
        · obtain ⟨c, hc⟩ := get_lt hk
          have hk' : decide ((k : Int) < (s.length : Int)) = true := by simpa using hk
          simp only [okS, hc] at hok
          have e : (!(small c) && !(dg c)) = false := by rwa [Bool.not_eq_true'] at hok
          simp only [hk', if_true, idx_at hc, Option.bind_some, dg_m, and_some, e, W_succ hk (by omega)]
          rfl
        · obtain ⟨c, hc⟩ := get_lt hk
          have hk' : decide ((k : Int) < (s.length : Int)) = true := by simpa using hk
          simp only [okS, hc] at hok
          have e : (!(small c) && !(dg c)) = true := by rwa [Bool.not_eq_false'] at hok
          simp only [hk', if_true, idx_at hc, Option.bind_some, dg_m, and_some, e]
        · unfold nameP
          rw [decide_eq_true hlen, decide_eq_true (show s.length ≤ 10 by omega)]
          by_cases h : ∀ k, k < s.length → okS s k = true
          · rw [if_pos h, decide_eq_true (hN.2 ⟨h3, h⟩)]; rfl
          · rw [if_neg h, decide_eq_false (fun h' => h (hN.1 h').2)]; rfl

theorem act_impl {s : Str} (hl : s.length ≤ maxLen) : Ev (fun m => impl_IsAction_m m s) (actP s) := by
  unfold impl_IsAction_m
  exact Ev.bind (name_impl hl) (Ev.const (by rw [and_some]; rfl))
theorem act_spec {s : Str} (hl : s.length ≤ maxLen) : Ev (fun m => spec_l01Action_m m s) (actP s) := by
  unfold spec_l01Action_m
  exact Ev.bind (name_spec hl) (Ev.const (by rw [and_some]; rfl))

/-! ### numbers -/
def numV (w : Str) : Int := (num w).getD 0
def numB (w : Str) : Bool := (num w).isSome
theorem dec_m {m : Nat} {n : Int} (h1 : -9223372036854775808 ≤ n) (h2 : n ≤ 9223372036854775807) : impl_Decimal_m m n = some (Lib.itoa n) := by
  unfold impl_Decimal_m strconv_FormatInt_m
  rw [if_pos ⟨rfl, h1, h2⟩]
  rfl
theorem read_dec {m : Nat} {w : Str} (hl : w.length ≤ 281474976710656) : impl_ReadDecimal_m m w = some (numV w, numB w) := by
  unfold impl_ReadDecimal_m strings_TrimPrefix_m
  rw [if_pos trivial]
  simp only [Option.bind_some]
  unfold numV numB
  rw [← rdDec_eq]
  unfold rdDec
  by_cases h : 18 < (Lib.trimPrefix w [45]).length
  · rw [if_pos h, if_pos (decide_eq_true (by omega))]; rfl
  · rw [if_neg h, if_neg (by rw [decide_eq_false (by omega)]; simp)]
    unfold strconv_ParseInt_m
    rw [if_pos ⟨rfl, rfl, hl⟩]
    cases hp : Lib.parseIntB 64 w with
    | ok v =>
      obtain ⟨h1, h2⟩ := parse_range hp
      simp only [Option.bind_some, dec_m h1 h2, Bool.false_eq_true, if_false]
      by_cases hi : Lib.itoa v = w
      · simp [hi]
      · have : (Lib.itoa v != w) = true := by simpa using hi
        simp [hi, this]
    | range => rfl
    | _ => rfl

theorem drop_take_succ {s : Str} {k i : Nat} {b : UInt8} (h : s[k]? = some b) (hi : i ≤ k) : (s.take (k + 1)).drop i = (s.take k).drop i ++ [b] := by
  rw [List.take_add_one, h, List.drop_append_of_le_length (by
    have : k < s.length := by
      rcases Nat.lt_or_ge k s.length with h' | h'
      · exact h'
      · rw [List.getElem?_eq_none h'] at h; cases h
    simp; omega)]
  rfl

theorem digits_loop {w : Str} (hl : w.length ≤ maxLen) {i : Nat} (hi : i ≤ w.length) (h18 : w.length - i ≤ 18) :
    Ev (fun m => iter (fun (s : (Int) × (Int)) => (match s with | (x59, x60) => (if (decide (x60 < (w.length : Int))) = true then (idx w x60).bind fun b88 => (spec_l01Digit_m m (b88.toNat : Int)).bind fun x92 => (if (!x92) = true then some (.inr (.inr ((0 : Int), false))) else (idx w x60).bind fun b96 => some (.inl ((W ((W ((10 : Int) * x59)) + (W (IntKind.u8.wrap ((b96.toNat : Int) - (48 : Int)))))), (W (x60 + (1 : Int)))))) else some (.inr (.inl (x59)))) : Option (((Int) × (Int)) ⊕ ((Int) ⊕ ((Int × Bool)))))) m ((0 : Int), (i : Int)))
      (if (w.drop i).all isDig = true then .inl (valN (w.drop i) : Int) else .inr ((0 : Int), false)) := by
  have hm := maxLen_le
  refine Exists.elim (EvI.count (step := fun m (s : (Int) × (Int)) => (match s with | (x59, x60) => (if (decide (x60 < (w.length : Int))) = true then (idx w x60).bind fun b88 => (spec_l01Digit_m m (b88.toNat : Int)).bind fun x92 => (if (!x92) = true then some (.inr (.inr ((0 : Int), false))) else (idx w x60).bind fun b96 => some (.inl ((W ((W ((10 : Int) * x59)) + (W (IntKind.u8.wrap ((b96.toNat : Int) - (48 : Int)))))), (W (x60 + (1 : Int)))))) else some (.inr (.inl (x59)))) : Option (((Int) × (Int)) ⊕ ((Int) ⊕ ((Int × Bool))))))
    w.length (fun k (_ : Unit) => ((valN ((w.take k).drop i) : Int), (k : Int))) (fun k _ => i ≤ k ∧ ((w.take k).drop i).all isDig = true)
    (fun r => r = (if (w.drop i).all isDig = true then .inl (valN (w.drop i) : Int) else .inr ((0 : Int), false))) ?hs ?hn hi (t := ()) ⟨Nat.le_refl _, by rw [List.drop_take_self]; rfl⟩) (fun res ⟨h1, h2⟩ => by
    subst h2
    rw [List.drop_take_self] at h1
    exact h1.ev)
  · rintro k t hk ⟨hik, hI⟩
    obtain ⟨b, hb⟩ := get_lt hk
    have hk' : decide ((k : Int) < (w.length : Int)) = true := by simpa using hk
    cases hd : isDig b with
    | true =>
      refine .inl ⟨(), Ev.const' fun m => ?_, by omega, ?_⟩
      · simp only [hk', if_true, idx_at hb, Option.bind_some, dg_m, dg_eq, hd, Bool.not_true, Bool.false_eq_true, if_false, W_succ hk (by omega)]
        have hb2 := dig_le hd
        have hv : valN ((w.take k).drop i) < 10 ^ 18 := val_small (by simp; omega) hI
        have hv2 : valN ((w.take (k + 1)).drop i) < 10 ^ 18 := val_small (by simp; omega) (by rw [drop_take_succ hb hik, List.all_append, hI]; simp [hd])
        rw [drop_take_succ hb hik, valN_snoc] at hv2 ⊢
        have e1 : IntKind.u8.wrap ((b.toNat : Int) - 48) = ((b.toNat - 48 : Nat) : Int) := by
          unfold IntKind.wrap
          simp [IntKind.signed, IntKind.bits]
          omega
        rw [e1, W_of (n := ((b.toNat - 48 : Nat) : Int)) (by omega) (by omega), W_of (n := 10 * (valN ((w.take k).drop i) : Int)) (by omega) (by omega), W_of (by omega) (by omega)]
        congr 3
      · rw [drop_take_succ hb hik, List.all_append, hI]; simp [hd]
    | false =>
      refine .inr ⟨.inr ((0 : Int), false), Ev.const' fun m => ?_, ?_⟩
      · simp only [hk', if_true, idx_at hb, Option.bind_some, dg_m, dg_eq, hd, Bool.not_false]
      · rw [if_neg]
        intro h
        rw [List.all_eq_true] at h
        have : b ∈ w.drop i := by
          have : (w.drop i)[k - i]? = some b := by rw [List.getElem?_drop, show i + (k - i) = k by omega]; exact hb
          exact List.mem_of_getElem? this
        rw [h b this] at hd
        cases hd
  · rintro t ⟨hik, hI⟩
    refine ⟨.inl (valN (w.drop i) : Int), Ev.const' fun m => ?_, ?_⟩
    · rw [List.take_length] at *
      simp
    · rw [List.take_length] at hI
      rw [if_pos hI]


def numRes (w : Str) (i : Nat) : Int × Bool :=
  if w.length = i ∨ 18 < w.length - i ∨ ((w.drop i).head? = some 48 ∧ 1 < w.length) then (0, false)
  else if (w.drop i).all isDig = true then (if i = 1 then -(valN (w.drop i) : Int) else (valN (w.drop i) : Int), true) else (0, false)

theorem num_body {w : Str} (hl : w.length ≤ maxLen) {i : Nat} {x : Int} (hx : x = (i : Int)) (hi : i ≤ w.length) :
    Ev (fun fuel => (if ((w.length : Int) == x) = true then some true else some (decide ((18 : Int) < (W ((w.length : Int) - x))))).bind fun t34 => (if t34 = true then some true else (idx w x).bind fun b40 => (if ((b40.toNat : Int) == (48 : Int)) = true then some (decide ((1 : Int) < (w.length : Int))) else some false).bind fun t42 => some t42).bind fun t37 => (if t37 = true then some (((0 : Int), false)) else (iter (fun (s : (Int) × (Int)) => (match s with | (x59, x60) => (if (decide (x60 < (w.length : Int))) = true then (idx w x60).bind fun b88 => (spec_l01Digit_m fuel (b88.toNat : Int)).bind fun x92 => (if (!x92) = true then some (.inr (.inr ((0 : Int), false))) else (idx w x60).bind fun b96 => some (.inl ((W ((W ((10 : Int) * x59)) + (W (IntKind.u8.wrap ((b96.toNat : Int) - (48 : Int)))))), (W (x60 + (1 : Int)))))) else some (.inr (.inl (x59)))) : Option (((Int) × (Int)) ⊕ ((Int) ⊕ ((Int × Bool)))))) fuel ((0 : Int), x)).bind fun res75 => ctl (β := Int) (ρ := (Int × Bool)) (τ := (Int × Bool)) res75 (fun (x74) => join (κ := Int → Option (Int × Bool)) (fun (x80 : Int) => some ((x80, true))) (fun K81 => (if (x == (1 : Int)) = true then (K81 (W (0 - x74))) else (K81 x74)))) (fun q => some (q)))) (numRes w i) := by
  have hm := maxLen_le
  subst hx
  unfold numRes
  by_cases h1 : w.length = i
  · have e1 : ((w.length : Int) == (i : Int)) = true := by rw [h1]; simp
    exact Ev.eq (r := ((0 : Int), false)) (Ev.const' fun m => by simp only [e1, if_true, Option.bind_some]) (if_pos (.inl h1)).symm
  · have e1 : ((w.length : Int) == (i : Int)) = false := beq_false_of_ne (by omega)
    have w1 : W ((w.length : Int) - (i : Int)) = (w.length : Int) - (i : Int) := W_of (by omega) (by omega)
    simp only [e1, Bool.false_eq_true, if_false, Option.bind_some, w1]
    by_cases h2 : 18 < w.length - i
    · have e2 : decide ((18 : Int) < (w.length : Int) - (i : Int)) = true := decide_eq_true (by omega)
      exact Ev.eq (r := ((0 : Int), false)) (Ev.const' fun m => by simp only [e2, if_true, Option.bind_some]) (if_pos (.inr (.inl h2))).symm
    · have e2 : decide ((18 : Int) < (w.length : Int) - (i : Int)) = false := decide_eq_false (by omega)
      obtain ⟨b, hb⟩ := get_lt (xs := w) (k := i) (by omega)
      have hh : (w.drop i).head? = some b := by rw [List.head?_drop]; exact hb
      simp only [e2, Bool.false_eq_true, if_false, idx_at hb, Option.bind_some, and_some]
      by_cases h3 : b = 48 ∧ 1 < w.length
      · have e3 : ((((b.toNat : Int) == 48) && decide ((1 : Int) < (w.length : Int)))) = true := by
          rw [h3.1, decide_eq_true (by omega : (1 : Int) < (w.length : Int))]; rfl
        exact Ev.eq (r := ((0 : Int), false)) (Ev.ite_t e3 (Ev.pure _)) (if_pos (.inr (.inr ⟨by rw [hh, h3.1], h3.2⟩))).symm
      · have e3 : ¬ ((((b.toNat : Int) == 48) && decide ((1 : Int) < (w.length : Int)))) = true := by
          intro h
          rw [Bool.and_eq_true] at h
          refine h3 ⟨?_, by have := of_decide_eq_true h.2; omega⟩
          have := beq_iff_eq.1 h.1
          exact UInt8.toNat_inj.1 (show b.toNat = 48 by omega)
        refine Ev.eq ?_ (if_neg (by
          rintro (h | h | ⟨h, h'⟩)
          · exact h1 h
          · exact h2 h
          · rw [hh] at h; exact h3 ⟨by simpa using h, h'⟩)).symm
        refine Ev.ite_f e3 (Ev.bind (digits_loop hl hi (by omega)) (Ev.const ?_))
        by_cases hd : (w.drop i).all isDig = true
        · have hv := val_small (ds := w.drop i) (by simp; omega) hd
          rw [if_pos hd, if_pos hd, ctl_l]
          show (if ((i : Int) == (1 : Int)) = true then some (W (0 - (valN (w.drop i) : Int)), true) else some ((valN (w.drop i) : Int), true)) = _
          by_cases hi1 : i = 1
          · subst hi1
            rw [if_pos (by rfl), if_pos rfl, W_of (by omega) (by omega)]
            congr 2
            omega
          · rw [if_neg (by intro h; have := beq_iff_eq.1 h; omega), if_neg hi1]
        · rw [if_neg hd, if_neg hd, ctl_r]

theorem num_minus (r : Str) : num (45 :: r) = if okD r = true ∧ r.head? ≠ some 48 then some (-(valN r : Int)) else none := by
  unfold num
  rw [if_pos (show (45 :: r : Str).head? = some 45 from rfl)]
  rfl
theorem numRes_neg (r : Str) : numRes (45 :: r) 1 = (numV (45 :: r), numB (45 :: r)) := by
  unfold numRes numV numB
  rw [num_minus]
  simp only [List.drop_succ_cons, List.drop_zero, List.length_cons, Nat.add_sub_cancel, if_true]
  by_cases h : okD r = true ∧ r.head? ≠ some 48
  · obtain ⟨h1, h2, h3⟩ := okD_iff.1 h.1
    have hp := List.length_pos_iff.2 h1
    rw [if_pos h, if_neg (by rintro (g | g | ⟨g, _⟩) <;> first | omega | exact h.2 g), if_pos h3]
    rfl
  · rw [if_neg h]
    split
    · rfl
    · rename_i hc
      split
      · rename_i hd
        exfalso
        apply h
        refine ⟨okD_iff.2 ⟨fun e => hc (.inl (by rw [e]; rfl)), by omega, hd⟩, fun e => hc (.inr (.inr ⟨e, ?_⟩))⟩
        cases r with
        | nil => cases e
        | cons _ _ => simp
      · rfl
theorem numRes_pos {w : Str} (hw : w.head? ≠ some 45) : numRes w 0 = (numV w, numB w) := by
  unfold numRes numV numB num
  rw [if_neg hw]
  simp only [List.drop_zero, Nat.sub_zero, Nat.zero_ne_one, if_false]
  by_cases h : okD w = true ∧ (w.head? ≠ some 48 ∨ w.length = 1)
  · obtain ⟨h1, h2, h3⟩ := okD_iff.1 h.1
    have hp := List.length_pos_iff.2 h1
    rw [if_pos h, if_neg (by rintro (g | g | ⟨g, g'⟩) <;> first | omega | exact h.2.elim (fun x => x g) (fun x => by omega)), if_pos h3]
    rfl
  · rw [if_neg h]
    split
    · rfl
    · rename_i hc
      split
      · rename_i hd
        exfalso
        apply h
        have hp : 0 < w.length := by
          rcases Nat.eq_zero_or_pos w.length with g | g
          · exact absurd (.inl g) hc
          · exact g
        refine ⟨okD_iff.2 ⟨fun e => hc (.inl (by rw [e]; rfl)), by omega, hd⟩, ?_⟩
        by_cases g : w.head? = some 48
        · right
          rcases Nat.lt_or_ge 1 w.length with g' | g'
          · exact absurd (.inr (.inr ⟨g, g'⟩)) hc
          · omega
        · exact .inl g
      · rfl

theorem num_spec {w : Str} (hl : w.length ≤ maxLen) : Ev (fun m => spec_l01Number_m m w) (numV w, numB w) := by
  have hm := maxLen_le
  unfold spec_l01Number_m
  refine Ev.join ?_
  cases hw : w with
  | nil => 
    rw [← hw]
    have e : decide ((0 : Int) < (w.length : Int)) = false := by rw [hw]; rfl
    simp only [e, Bool.false_eq_true, if_false, Option.bind_some]
    exact (num_body hl (i := 0) (x := 0) rfl (Nat.zero_le _)).eq (numRes_pos (by rw [hw]; simp))
  | cons b r =>
    rw [← hw]
    have e : decide ((0 : Int) < (w.length : Int)) = true := by rw [hw]; simp
    have hb : idx w (0 : Int) = some b := idx_at (k := 0) (by rw [hw]; rfl)
    refine Ev.bindc (a := ((b.toNat : Int) == (45 : Int))) (by simp only [e, if_true, hb, Option.bind_some]) ?_
    by_cases h : b = 45
    · subst h
      refine Ev.ite_t (by rfl) ?_
      exact (num_body hl (i := 1) (x := 1) rfl (by rw [hw]; simp)).eq (by rw [hw]; exact numRes_neg r)
    · refine Ev.ite_f (fun g => h ?_) ?_
      · have := beq_iff_eq.1 g
        exact UInt8.toNat_inj.1 (show b.toNat = 45 by omega)
      · exact (num_body hl (i := 0) (x := 0) rfl (Nat.zero_le _)).eq (numRes_pos (by rw [hw]; simpa using h))
theorem mx : 4294967296 ≤ maxLen ∧ maxLen ≤ 9223372036854775807 := by unfold maxLen; omega

/-! ### the library's functions -/
theorem split_lib {m : Nat} {s : Str} (hl : s.length < 4294967281) : strings_Split_m m s [44] = some (splitC 44 s) := by
  unfold strings_Split_m
  have hc : Lib.countB ⟨s.toArray⟩ ⟨([44] : Str).toArray⟩ = Lib.count s [44] := rfl
  have h3 := Lib.splitB_all ⟨([44] : Str).toArray⟩ (by decide) 0 _ ⟨s.toArray⟩ rfl
  have h4 := Lib.countB_le ⟨([44] : Str).toArray⟩ (by decide) _ ⟨s.toArray⟩ (Nat.le_refl _)
  have h5 : (⟨s.toArray⟩ : ByteArray).size = s.length := size_sv s
  have h6 := mx
  rw [if_pos ⟨hl, by decide, h3, by omega⟩, Lib.splitB_data]
  exact congrArg some (splitK_eq 44 s)
theorem cut_lib {m : Nat} {s : Str} (hl : s.length < 4294967281) : strings_Cut_m m s [40] = some (if (40 : UInt8) ∈ s then (pre 40 s, suf 40 s, true) else (s, [], false)) := by
  unfold strings_Cut_m
  rw [if_pos hl, cut_one]
theorem trimS_lib {m : Nat} {s : Str} (hl : s.length < 4294967281) : strings_TrimSuffix_m m s [41] = some (if s.getLast? = some 41 then s.dropLast else s) := by
  unfold strings_TrimSuffix_m
  rw [if_pos (by omega), suf_one]

/-! ### splitting -/
theorem splitC_snoc_eq (c : UInt8) : ∀ s : Str, splitC c (s ++ [c]) = splitC c s ++ [[]]
  | [] => by simp [splitC]
  | a :: r => by
    have ih := splitC_snoc_eq c r
    rw [List.cons_append]
    unfold splitC
    rw [ih]
    split
    · rfl
    · cases hr : splitC c r with
      | nil => exact absurd hr (splitC_ne c r)
      | cons x t => rfl
theorem splitC_snoc_ne {c b : UInt8} (hb : b ≠ c) : ∀ (s : Str) (o : List Str) (l : Str), splitC c s = o ++ [l] → splitC c (s ++ [b]) = o ++ [l ++ [b]]
  | [], o, l, h => by
    have h' : [([] : Str)] = o ++ [l] := h
    have : o = [] := by
      cases o with
      | nil => rfl
      | cons _ t => simp at h'
    subst this
    have : l = [] := by simpa using h'.symm
    subst this
    simp [splitC, hb]
  | a :: r, o, l, h => by
    rw [List.cons_append]
    unfold splitC at h ⊢
    by_cases ha : a = c
    · rw [if_pos ha] at h ⊢
      cases o with
      | nil =>
        exfalso
        have : splitC c r = [] := by simpa using (List.cons.inj h).2
        exact splitC_ne c r this
      | cons x o' =>
        rw [List.cons_append] at h ⊢
        obtain ⟨h1, h2⟩ := List.cons.inj h
        rw [← h1, splitC_snoc_ne hb r o' l h2]
    · rw [if_neg ha] at h ⊢
      rcases snoc_or (splitC c r) with hr | ⟨o', l', hr⟩
      · exact absurd hr (splitC_ne c r)
      · have ih := splitC_snoc_ne hb r o' l' hr
        rw [ih]
        rw [hr] at h
        cases o' with
        | nil =>
          simp only [List.nil_append, List.headD_cons, List.tail_cons] at h ⊢
          have : o = [] := by
            cases o with
            | nil => rfl
            | cons _ t => simp at h
          subst this
          have : l = a :: l' := by simpa using h.symm
          subst this
          rfl
        | cons x o'' =>
          simp only [List.cons_append, List.headD_cons, List.tail_cons] at h ⊢
          cases o with
          | nil => simp at h
          | cons y o3 =>
            rw [List.cons_append] at h ⊢
            obtain ⟨h1, h2⟩ := List.cons.inj h
            obtain ⟨h3, h4⟩ := List.append_inj' h2 rfl
            have : l' = l := by simpa using h4
            rw [h1, h3, this]

theorem split_spec {s : Str} (hl : s.length < 4294967281) : Ev (fun m => spec_l01Split_m m s 44) (splitC 44 s) := by
  have hm := mx
  unfold spec_l01Split_m
  refine Exists.elim (EvI.count (step := _) s.length (fun k (t : List Str × Nat) => (t.1, (t.2 : Int), (k : Int))) (fun k t => t.2 ≤ k ∧ splitC 44 (s.take k) = t.1 ++ [(s.take k).drop t.2])
    (fun r => ∃ (o : List Str) (f : Nat), r = .inl (o, (f : Int)) ∧ f ≤ s.length ∧ splitC 44 s = o ++ [s.drop f]) ?_ ?_ (k := 0) (t := ([], 0)) (Nat.zero_le _) ⟨Nat.le_refl _, rfl⟩)
    (fun res ⟨h1, o, f, h2, h3, h4⟩ => Ev.bind h1.ev (by
      subst h2
      have hlen : o.length ≤ s.length + 1 := by
        have := splitC_len 44 s
        rw [h4] at this
        simp at this
        omega
      rw [h4]
      have hs : sub s (f : Int) (s.length : Int) = some (s.drop f) := by rw [sub_ok h3 (Nat.le_refl _), List.take_length]
      exact Ev.bindc hs (Ev.bindc (app_ok (by simp; omega)) (Ev.pure _))))
  · rintro k ⟨o, f⟩ hk ⟨hf, hI⟩
    have hf : f ≤ k := hf
    have hI : splitC 44 (s.take k) = o ++ [(s.take k).drop f] := hI
    obtain ⟨b, hb⟩ := get_lt hk
    have hk' : decide ((k : Int) < (s.length : Int)) = true := by simpa using hk
    have htk : s.take (k + 1) = s.take k ++ [b] := by rw [List.take_add_one, hb]; rfl
    left
    by_cases h : b = 44
    · subst h
      have hlen : o.length ≤ s.length := by
        have := splitC_len 44 (s.take k)
        rw [hI] at this
        simp at this
        omega
      refine ⟨(o ++ [(s.take k).drop f], k + 1), Ev.ite_t hk' (Ev.join (Ev.bindc (idx_at hb) (Ev.ite_t (by rfl) (Ev.bindc (sub_ok hf (by omega)) (Ev.bindc (app_ok (by simp; omega)) (Ev.const ?_)))))), Nat.le_refl _, ?_⟩
      · rw [W_succ hk (by omega)]
      · show splitC 44 (s.take (k + 1)) = _
        rw [htk, splitC_snoc_eq, hI]
        congr 2
        rw [List.drop_eq_nil_of_le (by simp; omega)]
    · refine ⟨(o, f), Ev.ite_t hk' (Ev.join (Ev.bindc (idx_at hb) (Ev.ite_f ?_ (Ev.const ?_)))), by show f ≤ k + 1; omega, ?_⟩
      · intro g
        have := beq_iff_eq.1 g
        exact h (UInt8.toNat_inj.1 (show b.toNat = 44 by omega))
      · rw [W_succ hk (by omega)]
      · show splitC 44 (s.take (k + 1)) = o ++ [(s.take (k + 1)).drop f]
        rw [htk, splitC_snoc_ne h _ _ _ hI, List.drop_append_of_le_length (by simp; omega)]
  · rintro ⟨o, f⟩ ⟨hf, hI⟩
    refine ⟨_, Ev.ite_f (by simp) (Ev.pure _), o, f, rfl, hf, ?_⟩
    rw [List.take_length] at hI
    exact hI

/-! ### lists of numbers -/
theorem fill_iter {α β ρ : Type} {to' : Nat → α → Option β} {f : α → β} {a : List α} {z : β} (hto : ∀ x ∈ a, Ev (fun n => to' n x) (f x)) (hl : a.length ≤ 1048576) :
    EvI (fun n (s : (List β) × (Int)) => (match s with | (xs35, x36) => (if (decide (x36 < (a.length : Int))) = true then (idx a x36).bind fun x75 => (to' n x75).bind fun x92 => (idx xs35 x36).bind fun _ => some (.inl ((xs35.set x36.toNat x92), (W (x36 + (1 : Int))))) else some (.inr (.inl (xs35)))) : Option (((List β) × (Int)) ⊕ (((List β)) ⊕ (ρ))))) (List.replicate a.length z, (0 : Int)) (.inl (a.map f)) := by
  refine EvI.upto a.length (fun k (t : List β) => (t, (k : Int))) (fun k t => t = (a.take k).map f ++ List.replicate (a.length - k) z) (k := 0) (t := List.replicate a.length z) rfl (Nat.zero_le _) (by simp) (fun k t hk ht => ?_) (fun t ht => ?_)
  · obtain ⟨x, hx⟩ : ∃ x, a[k]? = some x := ⟨a[k], List.getElem?_eq_getElem hk⟩
    have hlen : ((a.take k).map f).length = k := by simp; omega
    have hi : t[k]? = some z := by
      rw [ht, List.getElem?_append_right (by omega), hlen, List.getElem?_replicate, if_pos (by omega)]
    refine ⟨_, (Ev.ite_t (by simpa using hk) (Ev.bindc (idx_at hx) (Ev.bind (hto x (List.mem_of_getElem? hx)) (Ev.bindc (idx_at hi) (Ev.pure (Sum.inl (t.set (k : Int).toNat (f x), W ((k : Int) + 1)))))))).eq ?_, rfl⟩
    rw [W_of (by omega) (by omega)]
    refine congrArg Sum.inl (Prod.ext ?_ rfl)
    show t.set (k : Int).toNat (f x) = _
    rw [ht, Int.toNat_natCast, List.set_append_right _ _ (by omega), hlen]
    rw [List.take_add_one, hx, List.map_append, List.append_assoc]
    congr 1
    rw [show a.length - k = (a.length - (k + 1)) + 1 by omega, List.replicate_succ]
    simp
  · refine (Ev.ite_f (by simp) (Ev.pure _)).eq ?_
    rw [ht]; simp

def val63 (n : Int) : Bool := decide (0 ≤ n) && decide (n ≤ 63)
def dots (vs : List Int) : Str := Lib.join (vs.map Lib.itoa) [44]

theorem read_nums {ws : List Str} (hl : ws.length < 4294967282) (hw : ∀ w ∈ ws, w.length ≤ 281474976710656) :
    Ev (fun m => impl_readNumbers_m m ws) (if ws.all numB = true then (ws.map numV, true) else ([], false)) := by
  have hm := mx
  unfold impl_readNumbers_m
  refine Exists.elim (EvI.count (step := _) ws.length (fun k (_ : Unit) => ((ws.take k).map numV, (k : Int))) (fun k _ => (ws.take k).all numB = true)
    (fun r => r = (if ws.all numB = true then .inl (ws.map numV) else .inr ([], false))) ?_ ?_ (k := 0) (t := ()) (Nat.zero_le _) rfl)
    (fun res ⟨h1, h2⟩ => Ev.bind h1.ev (by
      subst h2
      by_cases h : ws.all numB = true
      · rw [if_pos h, if_pos h]; exact Ev.pure _
      · rw [if_neg h, if_neg h]; exact Ev.pure _))
  · intro k t hk hI
    obtain ⟨w, hw'⟩ := get_lt hk
    have hk' : decide ((k : Int) < (ws.length : Int)) = true := by simpa using hk
    have htk : ws.take (k + 1) = ws.take k ++ [w] := by rw [List.take_add_one, hw']; rfl
    have hrd : ∀ m, impl_ReadDecimal_m m w = some (numV w, numB w) := fun m => read_dec (hw w (List.mem_of_getElem? hw'))
    cases hb : numB w with
    | true =>
      left
      refine ⟨(), Ev.ite_t hk' (Ev.bindc (idx_at hw') (Ev.bind (Ev.const' hrd) (Ev.ite_f (by simp [hb]) (Ev.bindc (app_ok (by simp; omega)) (Ev.const ?_))))), ?_⟩
      · rw [W_succ hk (by omega), htk, List.map_append]; rfl
      · rw [htk, List.all_append, hI]; simp [hb]
    | false =>
      right
      refine ⟨_, Ev.ite_t hk' (Ev.bindc (idx_at hw') (Ev.bind (Ev.const' hrd) (Ev.ite_t (by simp [hb]) (Ev.pure _)))), ?_⟩
      rw [if_neg]
      intro h
      rw [List.all_eq_true] at h
      rw [h w (List.mem_of_getElem? hw')] at hb
      cases hb
  · intro t hI
    refine ⟨_, Ev.ite_f (by simp) (Ev.pure _), ?_⟩
    rw [List.take_length] at *
    rw [if_pos hI]

theorem itoa_small : ∀ k : Fin 64, (Lib.itoa (k.val : Int)).length ≤ 2 := by
  intro k
  have e : Lib.itoa (k.val : Int) = Lib.decDigits k.val := by unfold Lib.itoa; rw [if_neg (by omega)]; simp
  rw [e]
  have := k.isLt
  by_cases h : k.val < 10
  · rw [Lib.decDigits_one h]; simp
  · rw [Lib.decDigits_two h (by omega)]; simp
theorem itoa_63 {n : Int} (h : val63 n = true) : (Lib.itoa n).length ≤ 2 := by
  unfold val63 at h
  simp at h
  have := itoa_small ⟨n.toNat, by omega⟩
  simp only [] at this
  rwa [show ((n.toNat : Nat) : Int) = n by omega] at this
theorem dots_len {vs : List Int} (h2 : vs.length ≤ 2) (h : vs.all val63 = true) : (dots vs).length ≤ 5 := by
  rw [List.all_eq_true] at h
  unfold dots
  match vs, h2, h with
  | [], _, _ => simp [Lib.join_nil]
  | [a], _, h =>
    have := itoa_63 (h a (by simp))
    rw [List.map_cons, List.map_nil, Lib.join_one]; omega
  | [a, b], _, h =>
    have := itoa_63 (h a (by simp))
    have := itoa_63 (h b (by simp))
    rw [List.map_cons, List.map_cons, List.map_nil, Lib.join_length]
    simp [Lib.lens]
    omega
theorem joined_ev {vs : List Int} (h2 : vs.length ≤ 2) (h : vs.all val63 = true) : Ev (fun m => impl_joined_m m vs [44]) (dots vs) := by
  unfold impl_joined_m
  have hd := dots_len h2 h
  refine Ev.bindc (mks_ok (by omega)) (Ev.bind (fill_iter (f := Lib.itoa) (to' := impl_Decimal_m) (a := vs) (z := ([] : Str)) (fun x hx => Ev.const' fun m => dec_m ?_ ?_) (by omega)).ev (Ev.const' fun m => ?_))
  · rw [List.all_eq_true] at h
    have := h x hx
    unfold val63 at this
    simp at this
    omega
  · rw [List.all_eq_true] at h
    have := h x hx
    unfold val63 at this
    simp at this
    omega
  · rw [ctl_l]
    unfold strings_Join_m
    rw [if_pos ⟨by simp; omega, by unfold dots at hd; omega⟩]
    rfl
theorem values_ev {vs : List Int} (hl : vs.length ≤ maxLen) : Ev (fun m => impl_areValues_m m vs) (vs.all val63) := by
  unfold impl_areValues_m slices_ContainsFunc__int64_int64_m slices_IndexFunc__int64_int64_m
  refine Ev.bind (contains_loop hl (f := fun m z => impl_areValues_1_m m z) (ok := val63) (fun x _ => Ev.const' fun m => ?_)) (Ev.const (by simp))
  unfold impl_areValues_1_m impl_isValue_m
  simp only [within_eq, Option.bind_some]
  rfl
def valsOk (ps : List Str) : Bool := ps.all fun w => numB w && val63 (numV w)
def labelP (s : Str) : Bool :=
  if (40 : UInt8) ∈ s then actP (pre 40 s) && decide (s.getLast? = some 41) && valsOk (splitC 44 (suf 40 s).dropLast) && decide ((splitC 44 (suf 40 s).dropLast).length ≤ 2)
  else nameP s

def labOf (n : Str) (vs : List Int) : Str × Bool :=
  if n = [116, 97, 117] then ([116, 97, 117], decide (vs.length = 0))
  else if actP n = true ∧ vs.length ≤ 2 ∧ vs.all val63 = true then (if vs.length = 0 then (n, true) else (n ++ [40] ++ dots vs ++ [41], true))
  else ([], false)

theorem label_of {n : Str} (hn : n.length ≤ 4294967296) {vs : List Int} (hv : vs.length ≤ maxLen) : Ev (fun m => impl_labelOf_m m n vs) (labOf n vs) := by
  have hm := mx
  unfold impl_labelOf_m labOf
  by_cases h1 : n = [116, 97, 117]
  · have e : (n == ([116, 97, 117] : Str)) = true := by rw [h1]; rfl
    rw [if_pos h1]
    refine Ev.ite_t e (Ev.const ?_)
    by_cases h : vs.length = 0
    · rw [h]; rfl
    · rw [decide_eq_false h, beq_false_of_ne (show ((vs.length : Int)) ≠ 0 by omega)]
  · have e : ¬ (n == ([116, 97, 117] : Str)) = true := by simpa using h1
    rw [if_neg h1]
    refine Ev.ite_f e (Ev.bind (act_impl (by omega)) ?_)
    by_cases h2 : actP n = true
    · simp only [h2, Bool.not_true, Bool.false_eq_true, if_false, Option.bind_some, true_and]
      by_cases h3 : vs.length ≤ 2
      · have e3 : decide ((2 : Int) < (vs.length : Int)) = false := decide_eq_false (by omega)
        simp only [e3, Bool.false_eq_true, if_false, h3, true_and]
        refine Ev.bind (Ev.bind (values_ev hv) (Ev.pure _)) ?_
        by_cases h4 : vs.all val63 = true
        · rw [if_pos h4]
          refine Ev.ite_f (by simp [h4]) ?_
          by_cases h5 : vs.length = 0
          · rw [if_pos h5]
            exact Ev.ite_t (by rw [h5]; rfl) (Ev.pure _)
          · rw [if_neg h5]
            have hd := dots_len h3 h4
            refine Ev.ite_f (by intro g; have := beq_iff_eq.1 g; omega) (Ev.bindc (show cat n [40] = some (n ++ [40]) from ?_) (Ev.bind (joined_ev h3 h4) (Ev.bindc (show cat (n ++ [40]) (dots vs) = some (n ++ [40] ++ dots vs) from ?_) (Ev.bindc (show cat (n ++ [40] ++ dots vs) [41] = some (n ++ [40] ++ dots vs ++ [41]) from ?_) (Ev.pure _)))))
            · unfold cat; rw [if_pos (by simp; omega)]
            · unfold cat; rw [if_pos (by simp; omega)]
            · unfold cat; rw [if_pos (by simp; omega)]
        · rw [if_neg h4]
          exact Ev.ite_t (by simpa using h4) (Ev.pure _)
      · have e3 : decide ((2 : Int) < (vs.length : Int)) = true := decide_eq_true (by omega)
        exact Ev.eq (r := (([] : Str), false)) (Ev.const' fun m => by simp only [e3, if_true, Option.bind_some]) (if_neg (fun h => h3 h.1)).symm
    · have e2 : (!actP n) = true := by simpa using h2
      exact Ev.eq (r := (([] : Str), false)) (Ev.const' fun m => by simp only [e2, if_true, Option.bind_some]) (if_neg (fun h => h2 h.1)).symm

theorem nums_join {ws : List Str} (h : ws.all numB = true) : (ws.map numV).map Lib.itoa = ws := by
  rw [List.map_map]
  rw [List.all_eq_true] at h
  conv => rhs; rw [← List.map_id ws]
  refine List.map_congr_left fun w hw => ?_
  have := h w hw
  unfold numB at this
  obtain ⟨v, hv⟩ := Option.isSome_iff_exists.1 this
  show Lib.itoa (numV w) = w
  unfold numV
  rw [hv]
  exact (num_some hv).1

theorem last_eq {s : Str} (h : (40 : UInt8) ∈ s) : s.getLast? = some 41 ↔ (suf 40 s).getLast? = some 41 := by
  conv => lhs; rw [pre_suf h]
  rw [List.getLast?_append]
  cases hs : suf 40 s with
  | nil => simp
  | cons b r =>
    rw [List.getLast?_cons_cons]
    cases hl : (b :: r).getLast? with
    | none => simp at hl
    | some c => simp

theorem name_tau : nameP [116, 97, 117] = true := by decide +kernel
theorem act_tau : actP [116, 97, 117] = false := by unfold actP; simp

theorem third {c : Bool} {a : Str} {b : List Int} : (if c = true then (([] : Str), ([] : List Int), false) else (a, b, true)).2.2 = !c := by cases c <;> rfl

theorem read_label {s : Str} (hl : s.length ≤ 1048576) : ∃ r, Ev (fun m => impl_readLabel_m m s) r ∧ r.2.2 = labelP s := by
  have hm := mx
  unfold impl_readLabel_m
  by_cases hc : (40 : UInt8) ∈ s
  · have hp := pre_len 40 s
    have hsf : (suf 40 s).length ≤ s.length := by unfold suf; simp
    have hcut : ∀ m, strings_Cut_m m s [40] = some (pre 40 s, suf 40 s, true) := fun m => by rw [cut_lib (by omega), if_pos hc]
    obtain ⟨t, ht⟩ : ∃ t, t = if (suf 40 s).getLast? = some 41 then (suf 40 s).dropLast else suf 40 s := ⟨_, rfl⟩
    have htl : t.length ≤ s.length := by rw [ht]; split <;> (try simp) <;> omega
    have htr : ∀ m, strings_TrimSuffix_m m (suf 40 s) [41] = some t := fun m => by rw [trimS_lib (by omega), ← ht]
    have hsp : ∀ m, strings_Split_m m t [44] = some (splitC 44 t) := fun m => split_lib (by omega)
    have hln := splitC_len 44 t
    have hne := List.length_pos_iff.2 (splitC_ne 44 t)
    have hrn := read_nums (ws := splitC 44 t) (by omega) (fun w hw => by have := splitC_mem 44 t w hw; omega)
    by_cases hn : (splitC 44 t).all numB = true
    · rw [if_pos hn] at hrn
      have hlo := label_of (n := pre 40 s) (by omega) (vs := (splitC 44 t).map numV) (by simp; omega)
      refine ⟨_, Ev.bind (Ev.const' hcut) (Ev.join (Ev.ite_t rfl (Ev.bind (Ev.const' htr) (Ev.bind (Ev.const' hsp) (Ev.bind hrn (Ev.ite_f (by simp) (Ev.bind hlo (Ev.const' fun m => by rw [or_some, Option.bind_some, ite_some])))))))), ?_⟩
      have hd : dots ((splitC 44 t).map numV) = t := by unfold dots; rw [nums_join hn, join_splitC]
      have hlast : (pre 40 s ++ [40] ++ t ++ [41] = s) ↔ (suf 40 s).getLast? = some 41 := by
        conv => lhs; rhs; rw [pre_suf hc]
        rw [List.append_assoc, List.append_assoc, List.append_cancel_left_eq]
        simp only [List.singleton_append, List.cons.injEq, true_and]
        constructor
        · intro h; rw [← h]; simp
        · intro h
          rw [ht, if_pos h]
          rcases snoc_or (suf 40 s) with e | ⟨q, x, e⟩
          · rw [e] at h; cases h
          · rw [e] at h ⊢
            have : x = 41 := by simpa using h
            rw [this]; simp
      have hvo : (suf 40 s).getLast? = some 41 → splitC 44 (suf 40 s).dropLast = splitC 44 t := fun h => by rw [ht, if_pos h]
      have hall : ((splitC 44 t).map numV).all val63 = valsOk (splitC 44 t) := by
        unfold valsOk
        rw [List.all_map]
        rw [List.all_eq_true] at hn
        apply Bool.eq_iff_iff.2
        rw [List.all_eq_true, List.all_eq_true]
        constructor
        · intro h w hw; rw [hn w hw]; exact h w hw
        · intro h w hw; have := h w hw; rw [hn w hw] at this; exact this
      rw [third]
      unfold labelP labOf
      rw [if_pos hc]
      simp only [decide_eq_decide.2 (last_eq hc), List.length_map, hall]
      by_cases h1 : pre 40 s = [116, 97, 117]
      · rw [if_pos h1, h1, act_tau, decide_eq_false (by omega)]
        rfl
      · rw [if_neg h1]
        by_cases h6 : (suf 40 s).getLast? = some 41
        · rw [hvo h6, decide_eq_true h6]
          by_cases h2 : actP (pre 40 s) = true ∧ (splitC 44 t).length ≤ 2 ∧ valsOk (splitC 44 t) = true
          · rw [if_pos h2, if_neg (show ¬ (splitC 44 t).length = 0 by omega), h2.1, h2.2.2, decide_eq_true h2.2.1, hd]
            rw [hlast.2 h6]
            simp
          · rw [if_neg h2]
            cases ha : actP (pre 40 s)
            · rfl
            · cases hv : valsOk (splitC 44 t)
              · rfl
              · rw [decide_eq_false (fun h => h2 ⟨ha, h, hv⟩)]; rfl
        · rw [decide_eq_false h6, Bool.and_false]
          split
          · rw [if_neg (show ¬ (splitC 44 t).length = 0 by omega), hd]
            have : (pre 40 s ++ [40] ++ t ++ [41] != s) = true := by
              rw [bne_iff_ne]
              exact fun h => h6 (hlast.1 h)
            rw [this]
            rfl
          · rfl
    · rw [if_neg hn] at hrn
      refine ⟨_, Ev.bind (Ev.const' hcut) (Ev.join (Ev.ite_t rfl (Ev.bind (Ev.const' htr) (Ev.bind (Ev.const' hsp) (Ev.bind hrn (Ev.ite_t (by rfl) (Ev.pure _))))))), ?_⟩
      unfold labelP
      rw [if_pos hc]
      by_cases h6 : (suf 40 s).getLast? = some 41
      · have : valsOk (splitC 44 (suf 40 s).dropLast) = false := by
          rw [ht, if_pos h6] at hn
          apply Bool.eq_false_iff.2
          intro h
          apply hn
          unfold valsOk at h
          rw [List.all_eq_true] at h ⊢
          intro w hw
          have := h w hw
          rw [Bool.and_eq_true] at this
          exact this.1
        rw [this]; simp
      · rw [decide_eq_false (fun h => h6 ((last_eq hc).1 h))]; simp
  · have hcut : ∀ m, strings_Cut_m m s [40] = some (s, [], false) := fun m => by rw [cut_lib (by omega), if_neg hc]
    have hlo := label_of (n := s) (by omega) (vs := []) (by simp)
    refine ⟨_, Ev.bind (Ev.const' hcut) (Ev.join (Ev.ite_f (by simp) (Ev.bind hlo (Ev.const' fun m => by rw [or_some, Option.bind_some, ite_some])))), ?_⟩
    rw [third]
    unfold labelP labOf
    rw [if_neg hc]
    by_cases h1 : s = [116, 97, 117]
    · rw [if_pos h1, h1, name_tau]; rfl
    · rw [if_neg h1]
      have e : actP s = nameP s := by
        unfold actP
        rw [bne_iff_ne.2 h1, Bool.and_true]
      rw [e]
      by_cases h2 : nameP s = true
      · rw [if_pos ⟨h2, by simp, rfl⟩, h2]
        simp
      · rw [if_neg (fun h => h2 h.1)]
        have : nameP s = false := by simpa using h2
        rw [this]
        rfl
theorem label_impl {s : Str} (hl : s.length ≤ 1048576) : Ev (fun m => impl_IsLabel_m m s) (labelP s) := by
  obtain ⟨r, h1, h2⟩ := read_label hl
  unfold impl_IsLabel_m
  exact Ev.bind h1 (Ev.const (by rw [h2]))

/-! ### the reference -/
theorem pre_hit : ∀ (s : Str) (k : Nat), s[k]? = some 40 → (40 : UInt8) ∉ s.take k → (pre 40 s).length = k
  | [], k, h, _ => by simp at h
  | b :: r, 0, h, _ => by
    have : b = 40 := by simpa using h
    rw [pre_cons, if_pos this]; rfl
  | b :: r, k + 1, h, h2 => by
    rw [List.take_succ_cons, List.mem_cons, not_or] at h2
    rw [pre_cons, if_neg (fun e => h2.1 e.symm), List.length_cons, pre_hit r k (by simpa using h) h2.2]
theorem open_spec {s : Str} (hl : s.length ≤ 1048576) : Ev (fun m => spec_l01Open_m m s) ((pre 40 s).length : Int) := by
  unfold spec_l01Open_m
  refine Exists.elim (EvI.count (step := _) s.length (fun k (_ : Unit) => (k : Int)) (fun k _ => (40 : UInt8) ∉ s.take k)
    (fun r => r = .inr ((pre 40 s).length : Int) ∨ (r = .inl () ∧ (pre 40 s).length = s.length)) ?_ ?_ (k := 0) (t := ()) (Nat.zero_le _) (by simp))
    (fun res ⟨h1, h2⟩ => Ev.bind h1.ev (by
      rcases h2 with rfl | ⟨rfl, h⟩
      · exact Ev.pure _
      · exact (Ev.pure _).eq (by rw [h])))
  · intro k t hk hI
    obtain ⟨b, hb⟩ := get_lt hk
    have hk' : decide ((k : Int) < (s.length : Int)) = true := by simpa using hk
    by_cases h : b = 40
    · subst h
      exact .inr ⟨_, Ev.ite_t hk' (Ev.bindc (idx_at hb) (Ev.ite_t (by rfl) (Ev.pure _))), .inl (by rw [pre_hit s k hb hI])⟩
    · refine .inl ⟨(), Ev.ite_t hk' (Ev.bindc (idx_at hb) (Ev.ite_f ?_ (Ev.const (by rw [W_succ hk (by omega)])))), ?_⟩
      · intro g
        have := beq_iff_eq.1 g
        exact h (UInt8.toNat_inj.1 (show b.toNat = 40 by omega))
      · rw [List.take_add_one, hb]
        simp [hI, Ne.symm h]
  · intro t hI
    rw [List.take_length] at hI
    exact ⟨_, Ev.ite_f (by simp) (Ev.pure _), .inr ⟨rfl, (pre_full 40 s).2 hI⟩⟩

def lsp : (List Int) ⊕ ((List Int) × Bool) → (List Int) × Bool
  | .inl xs => (xs, decide ((xs.length : Int) ≤ 2))
  | .inr q => q
theorem lsp_ctl {res : (List Int) ⊕ ((List Int) × Bool)} : ctl (β := (List Int)) (ρ := ((List Int) × Bool)) (τ := ((List Int) × Bool)) res (fun (xs140) => some ((xs140, (decide ((xs140.length : Int) ≤ (2 : Int)))))) (fun q => some (q)) = some (lsp res) := by cases res <;> rfl
theorem vals_loop {ps : List Str} (hl : ps.length ≤ 1048577) (hw : ∀ w ∈ ps, w.length ≤ 1048576) :
    Ev (fun fuel => iter (fun (s : (List Int) × (Int)) => (match s with | (xs104, x106) => (if (decide (x106 < (ps.length : Int))) = true then (idx ps x106).bind fun x151 => (spec_l01Number_m fuel x151).bind fun x158 => (if (!x158.2) = true then some true else (spec_l00In_m fuel x158.1 (0 : Int) (63 : Int)).bind fun x166 => some (!x166)).bind fun t161 => (if t161 = true then some (.inr (.inr ([], false))) else (app xs104 [x158.1]).bind fun x174 => some (.inl (x174, (W (x106 + (1 : Int)))))) else some (.inr (.inl (xs104)))) : Option (((List Int) × (Int)) ⊕ (((List Int)) ⊕ (((List Int) × Bool)))))) fuel (([] : List Int), (0 : Int)))
      (if valsOk ps = true then .inl (ps.map numV) else .inr ([], false)) := by
  have hm := mx
  refine Exists.elim (EvI.count (β := (List Int) ⊕ ((List Int) × Bool)) (step := fun fuel (s : (List Int) × (Int)) => (match s with | (xs104, x106) => (if (decide (x106 < (ps.length : Int))) = true then (idx ps x106).bind fun x151 => (spec_l01Number_m fuel x151).bind fun x158 => (if (!x158.2) = true then some true else (spec_l00In_m fuel x158.1 (0 : Int) (63 : Int)).bind fun x166 => some (!x166)).bind fun t161 => (if t161 = true then some (.inr (.inr ([], false))) else (app xs104 [x158.1]).bind fun x174 => some (.inl (x174, (W (x106 + (1 : Int)))))) else some (.inr (.inl (xs104)))) : Option (((List Int) × (Int)) ⊕ (((List Int)) ⊕ (((List Int) × Bool))))))
    ps.length (fun k (_ : Unit) => ((ps.take k).map numV, (k : Int))) (fun k _ => valsOk (ps.take k) = true)
    (fun r => r = (if valsOk ps = true then .inl (ps.map numV) else .inr ([], false))) ?_ ?_ (k := 0) (t := ()) (Nat.zero_le _) rfl)
    (fun res ⟨h3, h4⟩ => by subst h4; exact h3.ev)
  · intro k t hk hI
    obtain ⟨w, hw'⟩ := get_lt hk
    have hk' : decide ((k : Int) < (ps.length : Int)) = true := by simpa using hk
    have htk : ps.take (k + 1) = ps.take k ++ [w] := by rw [List.take_add_one, hw']; rfl
    have hwl := hw w (List.mem_of_getElem? hw')
    have hnum := num_spec (w := w) (by omega)
    have hcc : ∀ m : Nat, (if (!numB w) = true then some true else (spec_l00In_m m (numV w) (0 : Int) (63 : Int)).bind fun x166 => some (!x166)) = some (!(numB w && val63 (numV w))) := fun m => by
      rw [l00In_eq, Option.bind_some, or_some]
      cases numB w <;> rfl
    by_cases hv : (numB w && val63 (numV w)) = true
    · left
      refine ⟨(), Ev.ite_t hk' (Ev.bindc (idx_at hw') (Ev.bind hnum (Ev.bind (Ev.const' hcc) (Ev.ite_f (by rw [hv]; simp) (Ev.bindc (app_ok (by simp; omega)) (Ev.const ?_)))))), ?_⟩
      · rw [W_succ hk (by omega), htk, List.map_append]; rfl
      · unfold valsOk at hI ⊢
        rw [htk, List.all_append, hI]
        simp only [List.all_cons, List.all_nil, Bool.and_true, Bool.true_and]
        exact hv
    · right
      have hv' : (numB w && val63 (numV w)) = false := by simpa using hv
      refine ⟨_, Ev.ite_t hk' (Ev.bindc (idx_at hw') (Ev.bind hnum (Ev.bind (Ev.const' hcc) (Ev.ite_t (by rw [hv']; rfl) (Ev.pure _))))), ?_⟩
      rw [if_neg]
      intro h
      unfold valsOk at h
      rw [List.all_eq_true] at h
      exact hv (h w (List.mem_of_getElem? hw'))
  · intro t hI
    refine ⟨_, Ev.ite_f (by simp) (Ev.pure _), ?_⟩
    rw [List.take_length] at *
    rw [if_pos hI]

theorem label_spec {s : Str} (hl : s.length ≤ 1048576) : Ev (fun m => spec_l01Label_m m s) (labelP s) := by
  have hm := mx
  unfold spec_l01Label_m
  suffices h : ∃ r, Ev (fun m => spec_l01Values_m m s) r ∧ r.2 = labelP s by
    obtain ⟨r, h1, h2⟩ := h
    exact Ev.bind h1 (Ev.const (by rw [h2]))
  unfold spec_l01Values_m labelP
  by_cases hc : (40 : UInt8) ∈ s
  · have hp := pre_len 40 s
    have hpn : (pre 40 s).length ≠ s.length := fun h => (pre_full 40 s).1 h hc
    have hs0 : sub s (0 : Int) ((pre 40 s).length : Int) = some (pre 40 s) := by
      have := sub_ok (xs := s) (lo := 0) (hi := (pre 40 s).length) (Nat.zero_le _) hp
      rw [pre_take] at this
      exact this
    have hpos : 0 < s.length := by omega
    obtain ⟨b, hb⟩ := get_lt (xs := s) (k := s.length - 1) (by omega)
    have hlast : s.getLast? = some b := by rw [List.getLast?_eq_getElem?]; exact hb
    have hw1 : W ((s.length : Int) - 1) = ((s.length - 1 : Nat) : Int) := by rw [W_of (by omega) (by omega)]; omega
    rw [if_pos hc]
    have hbase : ∀ {r} (_ : Ev (fun m => (if (!actP (pre 40 s)) = true then some true else (idx s (W ((s.length : Int) - (1 : Int)))).bind fun b55 => some ((b55.toNat : Int) != (41 : Int))) ) r), r = !(actP (pre 40 s) && decide (s.getLast? = some 41)) := by
      intro r h
      obtain ⟨n, hn⟩ := h.one
      rw [hw1, idx_at hb] at hn
      simp only [Option.bind_some, or_some, Option.some.injEq] at hn
      rw [← hn, hlast]
      cases actP (pre 40 s)
      · rfl
      · simp only [Bool.not_true, Bool.false_or, Bool.true_and]
        by_cases h41 : b = 41
        · rw [h41]; rfl
        · rw [decide_eq_false (by simpa using h41)]
          have : ((b.toNat : Int) != 41) = true := by
            rw [bne_iff_ne]
            intro g
            exact h41 (UInt8.toNat_inj.1 (show b.toNat = 41 by omega))
          rw [this]; rfl
    have hcond : ∀ m : Nat, (if (!actP (pre 40 s)) = true then some true else (idx s (W ((s.length : Int) - (1 : Int)))).bind fun b55 => some ((b55.toNat : Int) != (41 : Int))) = some (!(actP (pre 40 s) && decide (s.getLast? = some 41))) := by
      intro m
      have e : (if (!actP (pre 40 s)) = true then some true else (idx s (W ((s.length : Int) - (1 : Int)))).bind fun b55 => some ((b55.toNat : Int) != (41 : Int))) = some ((!actP (pre 40 s)) || ((b.toNat : Int) != (41 : Int))) := by rw [hw1, idx_at hb, Option.bind_some, or_some]
      rw [e]
      exact congrArg some (hbase (Ev.const e))
    by_cases h1 : (actP (pre 40 s) && decide (s.getLast? = some 41)) = true
    · have h41 : s.getLast? = some 41 := of_decide_eq_true (Bool.and_eq_true _ _ ▸ h1).2
      have hsl := (last_eq hc).1 h41
      have hsn : suf 40 s ≠ [] := fun e => by rw [e] at hsl; cases hsl
      have hsl2 : (suf 40 s).length = s.length - ((pre 40 s).length + 1) := by unfold suf; simp
      have hsp := List.length_pos_iff.2 hsn
      have hsub : sub s (W (((pre 40 s).length : Int) + 1)) (W ((s.length : Int) - 1)) = some (suf 40 s).dropLast := by
        rw [hw1, W_of (by omega) (by omega), show (((pre 40 s).length : Int) + 1) = (((pre 40 s).length + 1 : Nat) : Int) from rfl, sub_ok (by omega) (by omega), List.drop_take, List.dropLast_eq_take, hsl2]
        unfold suf
        congr 2
        omega
      have hpl : (splitC 44 (suf 40 s).dropLast).length ≤ s.length := by have := splitC_len 44 (suf 40 s).dropLast; simp at this; omega
      rw [h1, Bool.true_and]
      refine ⟨_, Ev.bind (open_spec hl) (Ev.ite_f (by intro g; have := beq_iff_eq.1 g; omega) (Ev.bindc hs0 (Ev.bind (act_spec (by omega)) (Ev.bind (Ev.const' hcond) (Ev.ite_f (by rw [h1]; simp) (Ev.bindc hsub (Ev.bind (split_spec (by simp; omega)) (Ev.bind (vals_loop (by omega) (fun w hw => ?_)) (Ev.const' fun m => lsp_ctl))))))))), ?_⟩
      · have := splitC_mem 44 _ w hw
        simp at this
        omega
      · by_cases hv : valsOk (splitC 44 (suf 40 s).dropLast) = true
        · rw [if_pos hv, hv, Bool.true_and]
          exact decide_eq_decide.2 (by simp; omega)
        · rw [if_neg hv]
          have : valsOk (splitC 44 (suf 40 s).dropLast) = false := by simpa using hv
          rw [this]
          rfl
    · refine ⟨_, Ev.bind (open_spec hl) (Ev.ite_f (by intro g; have := beq_iff_eq.1 g; omega) (Ev.bindc hs0 (Ev.bind (act_spec (by omega)) (Ev.bind (Ev.const' hcond) (Ev.ite_t (by rw [Bool.not_eq_true']; exact Bool.eq_false_iff.2 h1) (Ev.pure _)))))), ?_⟩
      have : (actP (pre 40 s) && decide (s.getLast? = some 41)) = false := by simpa using h1
      rw [this]
      rfl
  · rw [if_neg hc]
    exact ⟨_, Ev.bind (open_spec hl) (Ev.ite_t (by rw [(pre_full 40 s).2 hc]; simp) (Ev.bind (name_spec (by omega)) (Ev.pure _))), rfl⟩
/-! ### the order of texts -/
theorem bl_irr : ∀ a : Str, Op.bytesLess a a = false
  | [] => rfl
  | x :: a => by simp [Op.bytesLess, bl_irr a]
theorem bl_asym : ∀ a b : Str, Op.bytesLess a b = true → Op.bytesLess b a = false
  | _, [], h => by simp [Op.bytesLess] at h
  | [], _ :: _, _ => by simp [Op.bytesLess]
  | x :: a, y :: b, h => by
    simp only [Op.bytesLess, Bool.or_eq_true, Bool.and_eq_true, decide_eq_true_eq, beq_iff_eq] at h
    rcases h with h | ⟨rfl, h⟩
    · have h1 : ¬ y < x := fun h' => by rw [UInt8.lt_iff_toNat_lt] at h h'; omega
      have h2 : ¬ y = x := fun h' => by subst h'; rw [UInt8.lt_iff_toNat_lt] at h; omega
      simp [Op.bytesLess, h1, h2]
    · have := bl_asym a b h
      have h1 : ¬ x < x := fun h' => by rw [UInt8.lt_iff_toNat_lt] at h'; omega
      simp [Op.bytesLess, h1, this]
theorem bl_tri : ∀ a b : Str, Op.bytesLess a b = false → Op.bytesLess b a = false → a = b
  | [], [], _, _ => rfl
  | [], _ :: _, h, _ => by simp [Op.bytesLess] at h
  | _ :: _, [], _, h => by simp [Op.bytesLess] at h
  | x :: a, y :: b, h1, h2 => by
    simp only [Op.bytesLess, Bool.or_eq_false_iff, Bool.and_eq_false_iff, decide_eq_false_iff_not, beq_eq_false_iff_ne] at h1 h2
    have e : x = y := by
      apply UInt8.toNat_inj.1
      have l1 := h1.1
      have l2 := h2.1
      rw [UInt8.lt_iff_toNat_lt] at l1 l2
      omega
    subst e
    have g1 : Op.bytesLess a b = false := h1.2.resolve_left (fun h => h rfl)
    have g2 : Op.bytesLess b a = false := h2.2.resolve_left (fun h => h rfl)
    rw [bl_tri a b g1 g2]
theorem bl_le (s p : Str) : (Op.bytesLess s p || s == p) = !Op.bytesLess p s := by
  cases h : Op.bytesLess p s with
  | true =>
    have h1 := bl_asym p s h
    have h2 : (s == p) = false := by
      rw [beq_eq_false_iff_ne]
      rintro rfl
      rw [bl_irr] at h
      cases h
    rw [h1, h2]; rfl
  | false =>
    cases h1 : Op.bytesLess s p with
    | true => rfl
    | false => rw [bl_tri s p h1 h]; simp

/-! ### valid systems -/
def tau' : Str := [116, 97, 117]
def condX (ls : List Str) (k : Nat) (b : Str → Bool) : Bool := match ls[k]? with
  | none => false
  | some s => !labelP s || (b s || (decide ((1 : Int) < (k : Int)) && (match ls[k - 1]? with | none => false | some p => !Op.bytesLess p s)))
def okL (ls : List Str) (k : Nat) : Bool := !condX ls k fun s => (s == tau') != ((k : Int) == 0)
def labsP (ls : List Str) : Bool := decide (1 ≤ ls.length) && decide (ls.length ≤ 12) && decide (∀ k, k < ls.length → okL ls k = true)
def edgeLess (a b : Timpl_Edge) : Bool := if a.1 ≠ b.1 then decide (a.1 < b.1) else if a.2.1 ≠ b.2.1 then decide (a.2.1 < b.2.1) else decide (a.2.2 < b.2.2)
def inn (a b c : Int) : Bool := decide (b ≤ a) && decide (a ≤ c)
def condE (n m : Int) (es : List Timpl_Edge) (k : Nat) : Bool := match es[k]? with
  | none => false
  | some e => (!inn e.1 0 n || !inn e.2.2 0 n) || (!inn e.2.1 0 m || (decide ((0 : Int) < (k : Int)) && (match es[k - 1]? with | none => false | some p => !edgeLess p e)))
def edgesP (n m : Int) (es : List Timpl_Edge) : Bool := decide (es.length ≤ 300) && decide (∀ k, k < es.length → (!condE n m es k) = true)
def validP (t : Timpl_Lts) : Bool := inn t.1 1 40 && inn t.2.1 0 (W (t.1 - 1)) && labsP t.2.2.1 && edgesP (W (t.1 - 1)) (W ((t.2.2.1.length : Int) - 1)) t.2.2.2

theorem compare_m {m : Nat} {a b : Int} : cmp_Compare_int64_m m a b = some (if a < b then -1 else if b < a then 1 else 0) := by
  unfold cmp_Compare_int64_m cmp_isNaN_int64_m
  simp
  split
  · rfl
  · split <;> rfl
theorem or3 (x y z : Int) : Ev (fun m => cmp_Or_int_m m [x, y, z]) (if x ≠ 0 then x else if y ≠ 0 then y else z) := by
  unfold cmp_Or_int_m
  refine Exists.elim (EvI.find (step := _) 3 (fun k => ([x, y, z][k]?).getD 0 == 0) (fun k => ([x, y, z][k]?).getD 0) (fun k hk hok => ?_) (fun k hk hok => ?_) (Ev.const rfl) (Nat.zero_le _)) (fun res ⟨g1, g2⟩ => Ev.bind g1.ev ?_)
  · obtain ⟨v, hv⟩ := get_lt (xs := [x, y, z]) (k := k) hk
    have hk' : decide ((k : Int) < (([x, y, z] : List Int).length : Int)) = true := decide_eq_true (by simp; omega)
    have h0 : v = 0 := by rw [hv] at hok; simpa using hok
    refine Ev.ite_t hk' (Ev.bindc (idx_at hv) (Ev.ite_f (by rw [h0]; simp) (Ev.const ?_)))
    rw [W_succ hk (by omega)]
  · obtain ⟨v, hv⟩ := get_lt (xs := [x, y, z]) (k := k) hk
    have hk' : decide ((k : Int) < (([x, y, z] : List Int).length : Int)) = true := decide_eq_true (by simp; omega)
    have h0 : v ≠ 0 := by rw [hv] at hok; simpa using hok
    refine Ev.ite_t hk' (Ev.bindc (idx_at hv) (Ev.ite_t (by simpa using h0) (Ev.const ?_)))
    rw [hv]; rfl
  · rcases g2 with ⟨rfl, h⟩ | ⟨k, _, hk, hok, hj, rfl⟩
    · have h0 := h 0 (Nat.zero_le _) (by omega)
      have h1 := h 1 (Nat.zero_le _) (by omega)
      have h2 := h 2 (Nat.zero_le _) (by omega)
      simp at h0 h1 h2
      subst h0; subst h1; subst h2
      exact Ev.const rfl
    · match k, hk with
      | 0, _ => simp at hok; exact Ev.const (by rw [ctl_r]; simp [hok])
      | 1, _ =>
        have h0 := hj 0 (Nat.zero_le _) (by omega)
        simp at hok h0
        exact Ev.const (by rw [ctl_r]; simp [hok, h0])
      | 2, _ =>
        have h0 := hj 0 (Nat.zero_le _) (by omega)
        have h1 := hj 1 (Nat.zero_le _) (by omega)
        simp at hok h0 h1
        exact Ev.const (by rw [ctl_r]; simp [h0, h1])
theorem edges_cmp (a b : Timpl_Edge) : ∃ r : Int, Ev (fun m => impl_compareEdges_m m a b) r ∧ decide (0 ≤ r) = !edgeLess a b := by
  unfold impl_compareEdges_m edgeLess
  simp only [compare_m, Option.bind_some]
  obtain ⟨a1, a2, a3⟩ := a
  obtain ⟨b1, b2, b3⟩ := b
  refine ⟨_, Ev.bind (or3 _ _ _) (Ev.pure _), ?_⟩
  simp only []
  rcases Int.lt_trichotomy a1 b1 with h | h | h
  · have h1 : a1 ≠ b1 := by omega
    simp [h, h1]
  · subst h
    rcases Int.lt_trichotomy a2 b2 with h | h | h
    · have h1 : a2 ≠ b2 := by omega
      simp [h, h1]
    · subst h
      rcases Int.lt_trichotomy a3 b3 with h | h | h
      · simp [h]
      · subst h; simp
      · have h1 : ¬ a3 < b3 := by omega
        simp [h, h1]
    · have h1 : a2 ≠ b2 := by omega
      have h2 : ¬ a2 < b2 := by omega
      simp [h, h1, h2]
  · have h1 : a1 ≠ b1 := by omega
    have h2 : ¬ a1 < b1 := by omega
    simp [h, h1, h2]
theorem less_m {m : Nat} {a b : Timpl_Edge} : spec_l11Less_m m a b = some (edgeLess a b) := by
  unfold spec_l11Less_m edgeLess
  by_cases h1 : a.1 = b.1
  · by_cases h2 : a.2.1 = b.2.1
    · simp [h1, h2]
    · simp [h1, h2]
  · simp [h1]

theorem isState_m {m : Nat} {t : Timpl_Lts} {k : Int} : impl_Lts_isState_m m t k = some (inn k 0 (W (t.1 - 1))) := by
  unfold impl_Lts_isState_m
  rw [within_eq]; rfl

theorem names_spec {ls : List Str} (hl : ls.length ≤ 1048576) (hs : ∀ s ∈ ls, s.length ≤ 1048576) : Ev (fun m => spec_l11Names_m m ls) (labsP ls) := by
  have hm := mx
  unfold spec_l11Names_m
  by_cases h0 : ls.length = 0
  · have e : ((ls.length : Int) == 0) = true := by rw [h0]; rfl
    refine Ev.eq (r := false) (Ev.const' fun m => by simp only [e, if_true, Option.bind_some]) ?_
    unfold labsP
    rw [decide_eq_false (show ¬ 1 ≤ ls.length by omega)]; rfl
  · have e : ((ls.length : Int) == 0) = false := beq_false_of_ne (by omega)
    by_cases h1 : 12 < ls.length
    · have e1 : decide ((12 : Int) < (ls.length : Int)) = true := decide_eq_true (by omega)
      refine Ev.eq (r := false) (Ev.const' fun m => by simp only [e, e1, if_true, Bool.false_eq_true, if_false, Option.bind_some]) ?_
      unfold labsP
      rw [decide_eq_false (show ¬ ls.length ≤ 12 by omega)]; simp
    · have e1 : decide ((12 : Int) < (ls.length : Int)) = false := decide_eq_false (by omega)
      obtain ⟨s0, hs0⟩ := get_lt (xs := ls) (k := 0) (by omega)
      have hi : idx ls (0 : Int) = some s0 := idx_at (k := 0) hs0
      have hlab : labsP ls = decide (∀ k, k < ls.length → okL ls k = true) := by
        unfold labsP
        rw [decide_eq_true (show 1 ≤ ls.length by omega), decide_eq_true (show ls.length ≤ 12 by omega)]; rfl
      rw [hlab]
      by_cases h2 : s0 = tau'
      · have e2 : (s0 != ([116, 97, 117] : Str)) = false := by rw [h2]; rfl
        refine Ev.bindc (a := false) (by simp only [e, e1, Bool.false_eq_true, if_false]) (Ev.bindc (a := false) (by simp only [hi, e2, Bool.false_eq_true, if_false, Option.bind_some]) (Ev.ite_f (by simp) ?_))
        have cond : ∀ k s, k < ls.length → ls[k]? = some s → Ev (fun m => (spec_l01Label_m m s).bind fun x140 => (if (!x140) = true then some true else (idx ls (k : Int)).bind fun x146 => some (x146 == ([116, 97, 117] : Str))).bind fun t143 => (if t143 = true then some true else (if (decide ((1 : Int) < (k : Int))) = true then (idx ls (W ((k : Int) - (1 : Int)))).bind fun x157 => (idx ls (k : Int)).bind fun x162 => some (!Op.bytesLess x157 x162) else some false).bind fun t154 => some t154).bind fun t151 => (if t151 = true then some (.inr (.inr false)) else some (.inl ((W ((k : Int) + (1 : Int))))) : Option (Int ⊕ (Unit ⊕ Bool)))) (if condX ls k (fun s => s == tau') = true then .inr (.inr false) else .inl ((k + 1 : Nat) : Int)) := by
          intro k s hk hs'
          refine Ev.bind (label_spec (hs s (List.mem_of_getElem? hs'))) (Ev.const ?_)
          unfold condX
          rw [hs']
          cases k with
          | zero =>
            simp only [idx_at hs', Option.bind_some, or_some, show decide ((1 : Int) < ((0 : Nat) : Int)) = false from rfl, Bool.false_eq_true, if_false, W_succ hk (by omega), Bool.false_and, Bool.or_false]
            rw [ite_some]
            rfl
          | succ j =>
            obtain ⟨p, hp⟩ := get_lt (xs := ls) (k := j) (by omega)
            have w2 := W_pred (k := j) (n := ls.length) (by omega) (by omega)
            simp only [idx_at hs', hp, w2, idx_at hp, Option.bind_some, or_some, and_some, W_succ hk (by omega), Nat.add_sub_cancel]
            rw [ite_some, Bool.or_assoc]
            rfl
        refine Exists.elim (EvI.find (step := _) ls.length (fun k => !condX ls k fun s => s == tau') (fun _ => false) (fun k hk hok => ?_) (fun k hk hok => ?_) (Ev.ite_f (by simp) (Ev.pure _)) (s := 1) (by omega)) (fun res ⟨g1, g2⟩ => Ev.bind g1.ev ?_)
        · obtain ⟨s, hs'⟩ := get_lt hk
          have hk' : decide ((k : Int) < (ls.length : Int)) = true := by simpa using hk
          have hc : (condX ls k fun s => s == tau') = false := by rwa [Bool.not_eq_true'] at hok
          exact Ev.ite_t hk' (Ev.bindc (idx_at hs') ((cond k s hk hs').eq (by rw [hc]; rfl)))
        · obtain ⟨s, hs'⟩ := get_lt hk
          have hk' : decide ((k : Int) < (ls.length : Int)) = true := by simpa using hk
          have hc : (condX ls k fun s => s == tau') = true := by rwa [Bool.not_eq_false'] at hok
          exact Ev.ite_t hk' (Ev.bindc (idx_at hs') ((cond k s hk hs').eq (by rw [hc]; rfl)))
        · have hrel : ∀ k, 1 ≤ k → (!condX ls k fun s => s == tau') = okL ls k := by
            intro k hk1
            unfold okL condX
            have : ((k : Int) == 0) = false := beq_false_of_ne (by omega)
            rw [this]
            simp only [Bool.bne_false]
          have h0k : okL ls 0 = true := by
            unfold okL condX
            rw [hs0, h2]
            have : labelP tau' = true := by unfold labelP; rw [if_neg (by decide)]; exact name_tau
            simp only [this]
            rfl
          rcases g2 with ⟨rfl, h⟩ | ⟨k, hk1, hk, hok, _, rfl⟩
          · refine (Ev.pure _).eq (decide_eq_true fun k hk => ?_).symm
            cases k with
            | zero => exact h0k
            | succ j => rw [← hrel _ (by omega)]; exact h _ (by omega) hk
          · refine (Ev.pure _).eq (decide_eq_false fun h => ?_).symm
            rw [hrel k hk1, h k hk] at hok
            cases hok
      · have e2 : (s0 != ([116, 97, 117] : Str)) = true := bne_iff_ne.2 h2
        refine Ev.eq (r := false) (Ev.const' fun m => by simp only [e, e1, hi, e2, if_true, Bool.false_eq_true, if_false, Option.bind_some]) ?_
        rw [decide_eq_false]
        intro h
        have := h 0 (by omega)
        unfold okL condX at this
        rw [hs0] at this
        have e3 : (s0 == tau') = false := beq_false_of_ne h2
        simp [e3] at this

/-! ### edges -/
theorem valid_spec {t : Timpl_Lts} (hl : t.2.2.1.length ≤ 1048576) (hs : ∀ s ∈ t.2.2.1, s.length ≤ 1048576) (he : t.2.2.2.length ≤ 1048576) : Ev (fun m => spec_l11Is_m m t) (validP t) := by
  have hm := mx
  unfold spec_l11Is_m validP
  simp only [l00In_eq, Option.bind_some]
  cases h1 : inn t.1 1 40
  · unfold inn at h1
    exact Ev.eq (r := false) (Ev.const' fun m => by simp only [h1, Bool.not_false, if_true, Option.bind_some]) rfl
  · unfold inn at h1
    cases h2 : inn t.2.1 0 (W (t.1 - 1))
    · unfold inn at h2
      exact Ev.eq (r := false) (Ev.const' fun m => by simp only [h1, h2, Bool.not_false, Bool.not_true, Bool.false_eq_true, if_true, if_false, Option.bind_some]) rfl
    · unfold inn at h2
      simp only [h1, h2, Bool.not_true, Bool.false_eq_true, if_false, Option.bind_some]
      refine Ev.bind (Ev.bind (names_spec hl hs) (Ev.pure _)) ?_
      cases h3 : labsP t.2.2.1
      · exact Ev.eq (r := false) (Ev.const' fun m => by simp only [Bool.not_false, if_true, Option.bind_some]) rfl
      · simp only [Bool.not_true, Bool.false_eq_true, if_false, Option.bind_some, Bool.and_true, Bool.true_and]
        unfold edgesP
        by_cases h4 : 300 < t.2.2.2.length
        · rw [decide_eq_false (show ¬ t.2.2.2.length ≤ 300 by omega)]
          exact Ev.ite_t (decide_eq_true (by omega)) (Ev.pure _)
        · rw [decide_eq_true (show t.2.2.2.length ≤ 300 by omega), Bool.true_and]
          refine Ev.ite_f (by simp; omega) ?_
          have cond : ∀ k e, k < t.2.2.2.length → t.2.2.2[k]? = some e → (if (!(decide ((0 : Int) ≤ e.1) && decide (e.1 ≤ W (t.1 - 1)))) = true then some true else some (!(decide ((0 : Int) ≤ e.2.2) && decide (e.2.2 ≤ W (t.1 - 1))))) = some (!inn e.1 0 (W (t.1 - 1)) || !inn e.2.2 0 (W (t.1 - 1))) := fun k e _ _ => by rw [or_some]; rfl
          have c3 : ∀ k e, k < t.2.2.2.length → t.2.2.2[k]? = some e → (if (decide ((0 : Int) < (k : Int))) = true then (idx t.2.2.2 (W ((k : Int) - (1 : Int)))).bind fun x261 => some (!edgeLess x261 e) else some false) = some (decide ((0 : Int) < (k : Int)) && (match t.2.2.2[k - 1]? with | none => false | some p => !edgeLess p e)) := by
            intro k e hk he'
            cases k with
            | zero => rfl
            | succ j =>
              obtain ⟨p, hp⟩ := get_lt (xs := t.2.2.2) (k := j) (by omega)
              rw [W_pred (k := j) (n := t.2.2.2.length) (by omega) (by omega), idx_at hp, Nat.add_sub_cancel, hp, Option.bind_some, and_some]
          refine (Ev.all t.2.2.2.length (fun k => !condE (W (t.1 - 1)) (W ((t.2.2.1.length : Int) - 1)) t.2.2.2 k) false true (fun k hk hok => Ev.const' fun m => ?_) (fun k hk hok => Ev.const' fun m => ?_) (Ev.ite_f (by simp) (Ev.pure _))).eq (by split <;> simp_all)
          · obtain ⟨e, he'⟩ := get_lt hk
            have hk' : decide ((k : Int) < (t.2.2.2.length : Int)) = true := by simpa using hk
            have hc : condE (W (t.1 - 1)) (W ((t.2.2.1.length : Int) - 1)) t.2.2.2 k = false := by rwa [Bool.not_eq_true'] at hok
            unfold condE at hc
            rw [he'] at hc
            simp only [Bool.or_eq_false_iff] at hc
            obtain ⟨⟨g1, g2⟩, g3, g4⟩ := hc
            unfold inn at g1 g2 g3
            simp only [hk', if_true, idx_at he', Option.bind_some, g1, g2, g3, Bool.false_eq_true, if_false, less_m, c3 k e hk he', g4, W_succ hk (by omega)]
          · obtain ⟨e, he'⟩ := get_lt hk
            have hk' : decide ((k : Int) < (t.2.2.2.length : Int)) = true := by simpa using hk
            have hc : condE (W (t.1 - 1)) (W ((t.2.2.1.length : Int) - 1)) t.2.2.2 k = true := by rwa [Bool.not_eq_false'] at hok
            unfold condE at hc
            rw [he'] at hc
            simp only [hk', if_true, idx_at he', Option.bind_some, or_some, less_m]
            cases ha : (!(decide ((0 : Int) ≤ e.1) && decide (e.1 ≤ W (t.1 - 1))) || !(decide ((0 : Int) ≤ e.2.2) && decide (e.2.2 ≤ W (t.1 - 1))))
            · cases hb : (!(decide ((0 : Int) ≤ e.2.1) && decide (e.2.1 ≤ W ((t.2.2.1.length : Int) - 1))))
              · have hd : (decide ((0 : Int) < (k : Int)) && (match t.2.2.2[k - 1]? with | none => false | some p => !edgeLess p e)) = true := by
                  unfold inn at hc
                  simp only [ha, hb, Bool.false_or] at hc
                  exact hc
                simp only [Bool.false_or, Bool.false_eq_true, if_false, c3 k e hk he', hd, Option.bind_some, if_true]
              · simp only [Bool.false_or, if_true]
            · simp only [Bool.true_or, if_true]
structure VL (t : Timpl_Lts) (n : Nat) : Prop where
  st : t.1 = (n : Int)
  pos : 1 ≤ n
  top : n ≤ 40
  ini : 0 ≤ t.2.1 ∧ t.2.1 < (n : Int)
  labs : 1 ≤ t.2.2.1.length ∧ t.2.2.1.length ≤ 12
  lab : ∀ k, k < t.2.2.1.length → okL t.2.2.1 k = true
  few : t.2.2.2.length ≤ 300
  src : ∀ e ∈ t.2.2.2, 0 ≤ e.1 ∧ e.1 < (n : Int)
  dst : ∀ e ∈ t.2.2.2, 0 ≤ e.2.2 ∧ e.2.2 < (n : Int)
  lbl : ∀ e ∈ t.2.2.2, 0 ≤ e.2.1 ∧ e.2.1 < (t.2.2.1.length : Int)
  ord : ∀ (k : Nat) (p e : Timpl_Edge), t.2.2.2[k]? = some p → t.2.2.2[k + 1]? = some e → edgeLess p e = true

theorem valid_of {t : Timpl_Lts} (h : validP t = true) : ∃ n, VL t n := by
  unfold validP edgesP labsP at h
  simp only [Bool.and_eq_true] at h
  obtain ⟨⟨⟨h1, h2⟩, ⟨h3, h4⟩, h5⟩, h6, h7⟩ := h
  unfold inn at h1 h2
  simp only [Bool.and_eq_true, decide_eq_true_eq] at h1 h2 h3 h4 h5 h6 h7
  have hw : W (t.1 - 1) = t.1 - 1 := W_of (by omega) (by omega)
  have hw2 : W ((t.2.2.1.length : Int) - 1) = (t.2.2.1.length : Int) - 1 := W_of (by omega) (by omega)
  rw [hw] at h2 h7
  rw [hw2] at h7
  have key : ∀ (k : Nat) (e : Timpl_Edge), t.2.2.2[k]? = some e → ((0 ≤ e.1 ∧ e.1 ≤ t.1 - 1) ∧ (0 ≤ e.2.2 ∧ e.2.2 ≤ t.1 - 1)) ∧ (0 ≤ e.2.1 ∧ e.2.1 ≤ (t.2.2.1.length : Int) - 1) ∧ ∀ (j : Nat) (p : Timpl_Edge), k = j + 1 → t.2.2.2[j]? = some p → edgeLess p e = true := by
    intro k e he
    have hk := (List.getElem?_eq_some_iff.1 he).1
    have h := h7 k hk
    unfold condE inn at h
    rw [he] at h
    simp only [Bool.not_eq_true', Bool.or_eq_false_iff, Bool.not_eq_false', Bool.and_eq_true, decide_eq_true_eq] at h
    obtain ⟨⟨a, b⟩, c, d⟩ := h
    refine ⟨⟨a, b⟩, c, fun j p hj hp => ?_⟩
    subst hj
    have hpos : decide ((0 : Int) < ((j + 1 : Nat) : Int)) = true := decide_eq_true (by omega)
    rw [hpos, Bool.true_and, Nat.add_sub_cancel, hp] at d
    simpa using d
  have ofm : ∀ e ∈ t.2.2.2, ((0 ≤ e.1 ∧ e.1 ≤ t.1 - 1) ∧ (0 ≤ e.2.2 ∧ e.2.2 ≤ t.1 - 1)) ∧ (0 ≤ e.2.1 ∧ e.2.1 ≤ (t.2.2.1.length : Int) - 1) := by
    intro e he
    obtain ⟨k, hk, rfl⟩ := List.getElem_of_mem he
    obtain ⟨a, b, _⟩ := key k _ (List.getElem?_eq_getElem hk)
    exact ⟨a, b⟩
  refine ⟨t.1.toNat, ⟨by omega, by omega, by omega, by omega, ⟨h3, h4⟩, h5, h6, fun e he => ?_, fun e he => ?_, fun e he => ?_, fun k p e hp he => (key (k + 1) e he).2.2 k p rfl hp⟩⟩
  · have := (ofm e he).1.1; omega
  · have := (ofm e he).1.2; omega
  · have := (ofm e he).2; omega

/-! ### ways and distances -/
def pr (bk : Bool) (e : Timpl_Edge) : Int × Int := if bk = true then (e.2.2, e.1) else (e.1, e.2.2)
def Ws (n : Nat) (ps : List (Int × Int)) : Prop := ∀ e ∈ ps, (0 ≤ e.1 ∧ e.1 < (n : Int)) ∧ (0 ≤ e.2 ∧ e.2 < (n : Int))
def Rg (n : Nat) (fr : List Int) : Prop := ∀ v ∈ fr, 0 ≤ v ∧ v < (n : Int)
def Rch (ps : List (Int × Int)) (fr : List Int) : Nat → Int → Prop
  | 0, v => v ∈ fr
  | d + 1, v => ∃ e ∈ ps, Rch ps fr d e.1 ∧ e.2 = v
def Mn (ps : List (Int × Int)) (fr : List Int) (d : Nat) (v : Int) : Prop := Rch ps fr d v ∧ ∀ c, c < d → ¬ Rch ps fr c v
theorem VL.ws {t : Timpl_Lts} {n : Nat} (V : VL t n) (bk : Bool) : Ws n (t.2.2.2.map (pr bk)) := by
  intro e he
  obtain ⟨x, hx, rfl⟩ := List.mem_map.1 he
  have a := V.src x hx
  have b := V.dst x hx
  cases bk
  · exact ⟨a, b⟩
  · exact ⟨b, a⟩

section
variable {n : Nat} {ps : List (Int × Int)} {fr : List Int}
theorem mn_uniq {c d : Nat} {v : Int} (h : Mn ps fr c v) (h' : Mn ps fr d v) : c = d := by
  by_cases h1 : c < d
  · exact absurd h.1 (h'.2 c h1)
  · by_cases h2 : d < c
    · exact absurd h'.1 (h.2 d h2)
    · omega
theorem mn_pred {d : Nat} {v : Int} (h : Mn ps fr (d + 1) v) : ∃ e ∈ ps, Mn ps fr d e.1 ∧ e.2 = v := by
  obtain ⟨⟨e, he, h1, h2⟩, h3⟩ := h
  exact ⟨e, he, ⟨h1, fun c hc hr => h3 (c + 1) (by omega) ⟨e, he, hr, h2⟩⟩, h2⟩
theorem rch_rg (hw : Ws n ps) (hf : Rg n fr) : ∀ {d : Nat} {v : Int}, Rch ps fr d v → 0 ≤ v ∧ v < (n : Int)
  | 0, v, h => hf v h
  | d + 1, v, ⟨e, he, _, h2⟩ => by subst h2; exact (hw e he).2
structure Bfs (n : Nat) (ps : List (Int × Int)) (fr : List Int) (d : Nat) (f : Int → Int) (a b : List Int) : Prop where
  val : ∀ v, 0 ≤ v → v < (n : Int) → f v = -1 ∨ ∃ c : Nat, c ≤ d + 1 ∧ f v = (c : Int) ∧ Mn ps fr c v
  full : ∀ (v : Int) (c : Nat), c ≤ d → Mn ps fr c v → f v = (c : Int)
  one : ∀ u ∈ a, (0 ≤ u ∧ u < (n : Int)) ∧ f u = (d : Int)
  two : ∀ u ∈ b, (0 ≤ u ∧ u < (n : Int)) ∧ f u = (d : Int) + 1
  all : ∀ v, 0 ≤ v → v < (n : Int) → f v = (d : Int) + 1 → v ∈ b
  done : ∀ u, 0 ≤ u → u < (n : Int) → f u = (d : Int) → u ∉ a → ∀ e ∈ ps, e.1 = u → f e.2 ≠ -1

theorem Bfs.level (hw : Ws n ps) (hf : Rg n fr) {d : Nat} {f : Int → Int} {b : List Int} (h : Bfs n ps fr d f [] b) : Bfs n ps fr (d + 1) f b [] where
  val v h0 h1 := by
    rcases h.val v h0 h1 with q | ⟨c, q1, q⟩
    · exact .inl q
    · exact .inr ⟨c, by omega, q⟩
  full v c hc hm := by
    by_cases hd : c ≤ d
    · exact h.full v c hd hm
    obtain rfl : c = d + 1 := by omega
    obtain ⟨e, he, h1, h2⟩ := mn_pred hm
    have ra := rch_rg hw hf h1.1
    have rv := rch_rg hw hf hm.1
    have hx := h.done e.1 ra.1 ra.2 (h.full _ _ (Nat.le_refl _) h1) (by simp) e he rfl
    rw [h2] at hx
    rcases h.val v rv.1 rv.2 with q | ⟨c', _, q2, q3⟩
    · exact absurd q hx
    · rw [q2, mn_uniq q3 hm]
  one u hu := by have := h.two u hu; exact ⟨this.1, by rw [this.2]; rfl⟩
  two u hu := by cases hu
  all v h0 h1 hv := by
    rcases h.val v h0 h1 with q | ⟨c, q1, q, _⟩
    · rw [q] at hv; push_cast at hv; omega
    · rw [q] at hv; push_cast at hv; omega
  done u h0 h1 hu hn := absurd (h.all u h0 h1 (by rw [hu]; rfl)) hn

/-- In the middle of the edges. -/
structure BfsM (n : Nat) (ps : List (Int × Int)) (fr : List Int) (d : Nat) (u : Int) (r : List Int) (K i : Nat) (s : (Int → Int) × List Int) : Prop where
  at_ : s.1 u = (d : Int)
  tot : (tab n s.1).countP (fun x => decide (x < 0)) + s.2.length = K
  inv : ∃ b, s.2 = r ++ b ∧ (∀ v, 0 ≤ v → v < (n : Int) → s.1 v = -1 ∨ ∃ c : Nat, c ≤ d + 1 ∧ s.1 v = (c : Int) ∧ Mn ps fr c v) ∧ (∀ (v : Int) (c : Nat), c ≤ d → Mn ps fr c v → s.1 v = (c : Int)) ∧
    (∀ x ∈ r, (0 ≤ x ∧ x < (n : Int)) ∧ s.1 x = (d : Int)) ∧ (∀ x ∈ b, (0 ≤ x ∧ x < (n : Int)) ∧ s.1 x = (d : Int) + 1) ∧ (∀ v, 0 ≤ v → v < (n : Int) → s.1 v = (d : Int) + 1 → v ∈ b) ∧
    (∀ x, 0 ≤ x → x < (n : Int) → s.1 x = (d : Int) → x ∉ r → x ≠ u → ∀ e ∈ ps, e.1 = x → s.1 e.2 ≠ -1) ∧ ∀ (j : Nat) (e : Int × Int), j < i → ps[j]? = some e → e.1 = u → s.1 e.2 ≠ -1

def BfsI (n : Nat) (ps : List (Int × Int)) (fr : List Int) (s : (Int → Int) × List Int) : Prop :=
  (tab n s.1).countP (fun x => decide (x < 0)) + s.2.length ≤ n + fr.length ∧ ∃ d a b, s.2 = a ++ b ∧ Bfs n ps fr d s.1 a b

theorem BfsI.head (hw : Ws n ps) (hf : Rg n fr) {f : Int → Int} {u : Int} {r : List Int} (h : BfsI n ps fr (f, u :: r)) :
    ∃ d r', Mn ps fr d u ∧ (0 ≤ u ∧ u < (n : Int)) ∧ BfsM n ps fr d u r' ((tab n f).countP (fun x => decide (x < 0)) + r.length) 0 (f, r) ∧ ∀ s : (Int → Int) × List Int, BfsM n ps fr d u r' ((tab n f).countP (fun x => decide (x < 0)) + r.length) ps.length s → BfsI n ps fr s := by
  obtain ⟨hK, d, a, b, hab, hB⟩ := h
  simp only [List.length_cons] at hK
  have key : ∀ d b r', r = r' ++ b → Bfs n ps fr d f (u :: r') b → ∃ d r', Mn ps fr d u ∧ (0 ≤ u ∧ u < (n : Int)) ∧ BfsM n ps fr d u r' ((tab n f).countP (fun x => decide (x < 0)) + r.length) 0 (f, r) ∧ ∀ s : (Int → Int) × List Int, BfsM n ps fr d u r' ((tab n f).countP (fun x => decide (x < 0)) + r.length) ps.length s → BfsI n ps fr s := by
    intro d b r' hr hB
    have hu := hB.one u (by simp)
    have hmu : Mn ps fr d u := by
      rcases hB.val u hu.1.1 hu.1.2 with q | ⟨c, _, q1, q2⟩
      · have := hu.2; omega
      · have := hu.2
        obtain rfl : c = d := by omega
        exact q2
    refine ⟨d, r', hmu, hu.1, ⟨hu.2, rfl, b, hr, hB.val, hB.full, fun x hx => hB.one x (List.mem_cons_of_mem _ hx), hB.two, hB.all, fun x p q hx hxr hxu => hB.done x p q hx (by simp [hxr, hxu]), fun j e hj => by omega⟩, fun s hM => ?_⟩
    obtain ⟨b', hb', h1, h2, h3, h4, h5, h6, h7⟩ := hM.inv
    refine ⟨by have := hM.tot; omega, d, r', b', hb', ⟨h1, h2, h3, h4, h5, fun x p q hx hxr e he hex => ?_⟩⟩
    by_cases hxu : x = u
    · obtain ⟨j, hj, rfl⟩ := List.getElem_of_mem he
      exact h7 j _ hj (List.getElem?_eq_getElem hj) (hex.trans hxu)
    · exact h6 x p q hx hxr hxu e he hex
  cases a with
  | nil =>
    have e : b = u :: r := hab.symm
    subst e
    exact key (d + 1) [] r (by simp) (hB.level hw hf)
  | cons x r' =>
    simp only [List.cons_append, List.cons.injEq] at hab
    obtain ⟨rfl, hr⟩ := hab
    exact key d b r' hr hB

end
section
variable {n : Nat} {ok : Timpl_Edge → Bool} {es : List Timpl_Edge} {f0 : Int → Bool}
end

/-! ### marks -/
/-! ### the blocks -/
/-! ### places in a list -/
def pos (xs : List Int) (c : Int) : Int := match xs.findIdx? (· == c) with
  | some k => (k : Int)
  | none => -1

abbrev GStrs : List Str → Prop := gList gStr
abbrev GEd : Tlaws_Edge → Prop := gAnd (gInt .i64) (gAnd (gInt .i64) (gInt .i64))
abbrev GEds : List Tlaws_Edge → Prop := gList GEd
abbrev GLts : Tlaws_Lts → Prop := gAnd (gInt .i64) (gAnd (gInt .i64) (gAnd GStrs GEds))
def BLts (t : Timpl_Lts) : Prop := t.2.2.1.length ≤ 1048576 ∧ (∀ s ∈ t.2.2.1, s.length ≤ 1048576) ∧ t.2.2.2.length ≤ 1048576

theorem sz_strs {a : List Str} (g : GStrs a) {b : Int} (h0 : 0 ≤ b) (hb : b ≤ 1048576) : ∃ r, Ev (fun n => laws_szStringS_m n a b) r ∧ Sz b r (a.length ≤ 1048576 ∧ ∀ s ∈ a, s.length ≤ 1048576) := by
  have hm := mx
  have hl := g.1
  unfold laws_szStringS_m
  rw [W_of (n := b - (a.length : Int)) (by omega) (by omega)]
  by_cases h : b - (a.length : Int) < 0
  · exact ⟨-1, Ev.ite_t (by simpa using h) (Ev.pure _), .inl (by omega)⟩
  · refine Exists.elim (EvI.count (β := Int ⊕ Int) (step := _)
      a.length (fun k (t : Int) => (t, (k : Int))) (fun k t => 0 ≤ t ∧ t ≤ b ∧ ∀ i, i < k → ∀ x, a[i]? = some x → x.length ≤ 1048576) (fun r => r = .inr (-1) ∨ ∃ t, r = .inl t ∧ 0 ≤ t ∧ t ≤ b ∧ ∀ x ∈ a, x.length ≤ 1048576)
      ?_ ?_ (k := 0) (t := b - (a.length : Int)) (Nat.zero_le _) ⟨by omega, by omega, fun i hi => by omega⟩) (fun res ⟨h1, h2⟩ => Exists.intro (match res with | .inl t => t | .inr t => t) ⟨Ev.ite_f (by simpa using h) (Ev.bind h1.ev (Ev.const (by cases res <;> rfl))), by
        rcases h2 with rfl | ⟨t, rfl, h3, h4, h5⟩
        · exact .inl (by show (-1 : Int) < 0; omega)
        · exact .inr ⟨h3, h4, by omega, h5⟩⟩)
    · rintro k t hk ⟨ht0, htb, hp⟩
      obtain ⟨x, hx⟩ := get_lt hk
      have gx := g.2 x (List.mem_of_getElem? hx)
      have hw : W (t - (x.length : Int)) = t - (x.length : Int) := W_of (by omega) (by omega)
      by_cases hneg : t - (x.length : Int) < 0
      · exact .inr ⟨_, Ev.ite_t (by simpa using hk) (Ev.bindc (idx_at hx) (Ev.ite_t (by rw [hw]; exact decide_eq_true hneg) (Ev.pure _))), .inl rfl⟩
      · refine .inl ⟨t - (x.length : Int), (Ev.ite_t (by simpa using hk) (Ev.bindc (idx_at hx) (Ev.ite_f (by rw [hw]; simpa using hneg) (Ev.pure _)))).eq ?_, by omega, by omega, fun i hi y hy => ?_⟩
        · rw [hw, W_of (by omega) (by omega)]; rfl
        · by_cases hik : i = k
          · subst hik; rw [hx] at hy; cases hy; omega
          · exact hp i (by omega) y hy
    · rintro t ⟨ht0, htb, hp⟩
      refine ⟨_, Ev.ite_f (by simp) (Ev.pure _), .inr ⟨t, rfl, ht0, htb, fun x hx => ?_⟩⟩
      obtain ⟨i, hi, rfl⟩ := List.getElem_of_mem hx
      exact hp i hi _ (List.getElem?_eq_getElem hi)

theorem sz_lts {a : Tlaws_Lts} (g : GLts a) {b : Int} (h0 : 0 ≤ b) (hb : b ≤ 1048576) : ∃ r, Ev (fun n => laws_szLts_m n a b) r ∧ Sz b r (BLts a) := by
  obtain ⟨r1, h1, s1⟩ := sz_strs g.2.2.1 h0 hb
  by_cases n1 : r1 < 0
  · exact ⟨-1, Ev.bind h1 (Ev.ite_t (by simpa using n1) (Ev.pure _)), .inl (by omega)⟩
  · rcases s1 with s1 | ⟨p1, q1, b1⟩
    · exact absurd s1 n1
    · obtain ⟨r2, h2, s2⟩ := sz_leaf (n := a.2.2.2.length) (b := r1) p1 (by omega) g.2.2.2.1
      by_cases n2 : r2 < 0
      · exact ⟨-1, Ev.bind h1 (Ev.ite_f (by simpa using n1) (Ev.bind h2 (Ev.ite_t (by simpa using n2) (Ev.pure _)))), .inl (by omega)⟩
      · rcases s2 with s2 | ⟨p2, q2, b2⟩
        · exact absurd s2 n2
        · exact ⟨r2, Ev.bind h1 (Ev.ite_f (by simpa using n1) (Ev.bind h2 (Ev.ite_f (by simpa using n2) (Ev.pure _)))), .inr ⟨p2, by omega, b1.1, b1.2, b2⟩⟩

theorem toB_strs {a : List Str} (hl : a.length ≤ 1048576) : Ev (fun n => laws_toStringS_m n a) a := by
  have := to_loop («to» := fun _ (x : Str) => some x) (f := id) (a := a) (z := ([] : Str)) (fun x _ => Ev.pure x) hl
  rw [List.map_id] at this
  exact this
theorem toB_edges {a : List Tlaws_Edge} (hl : a.length ≤ 1048576) : Ev (fun n => laws_toEdgeS_m n a) a := by
  have := to_loop («to» := fun n x => laws_toEdge_m n x) (f := id) (a := a) (z := ((0 : Int), (0 : Int), (0 : Int))) (fun x _ => Ev.pure x) hl
  rw [List.map_id] at this
  exact this
theorem toB_lts {a : Tlaws_Lts} (h : BLts a) : Ev (fun n => laws_toLts_m n a) a := Ev.bind (toB_strs h.1) (Ev.bind (toB_edges h.2.2) (Ev.pure _))

theorem eqB_strs {a : List Str} (h : a.length ≤ 1048576) : Ev (fun n => laws_eqStringS_m n a a) true := eq_loop_ints (by have := mx; omega)
theorem eqB_edges {a : List Timpl_Edge} (h : a.length ≤ 1048576) : Ev (fun n => laws_eqEdgeS_m n a a) true :=
  eq_loop (eq := fun n x y => laws_eqEdge_m n x y) (fun x _ => Ev.ite_f (by simp) (Ev.ite_f (by simp) (Ev.ite_f (by simp) (Ev.pure _)))) (by have := mx; omega)
theorem eqB_lts {a : Timpl_Lts} (h : BLts a) : Ev (fun n => laws_eqLts_m n a a) true :=
  Ev.ite_f (by simp) (Ev.ite_f (by simp) (Ev.bind (eqB_strs h.1) (Ev.ite_f (by simp) (Ev.bind (eqB_edges h.2.2) (Ev.ite_f (by simp) (Ev.pure _))))))
theorem valid_impl {t : Timpl_Lts} (hl : t.2.2.1.length ≤ 1048576) (hs : ∀ s ∈ t.2.2.1, s.length ≤ 1048576) (he : t.2.2.2.length ≤ 1048576) : Ev (fun m => impl_ValidLts_m m t) (validP t) := by
  have hm := mx
  unfold impl_ValidLts_m validP
  simp only [within_eq, isState_m, index_eq, Option.bind_some]
  cases h1 : inn t.1 1 40
  · unfold inn at h1
    exact Ev.eq (r := false) (Ev.const' fun m => by simp only [h1, Bool.not_false, if_true, Option.bind_some]) rfl
  · unfold inn at h1
    cases h2 : inn t.2.1 0 (W (t.1 - 1))
    · exact Ev.eq (r := false) (Ev.const' fun m => by simp only [h1, Bool.not_false, Bool.not_true, Bool.false_eq_true, if_true, if_false, Option.bind_some]) rfl
    · simp only [h1, Bool.not_true, Bool.false_eq_true, if_false, Option.bind_some, Bool.true_and]
      by_cases h3 : 1 ≤ t.2.2.1.length ∧ t.2.2.1.length ≤ 12
      · have e3 : (decide ((1 : Int) ≤ (t.2.2.1.length : Int)) && decide ((t.2.2.1.length : Int) ≤ 12)) = true := by
          rw [decide_eq_true (by omega : (1 : Int) ≤ (t.2.2.1.length : Int)), decide_eq_true (by omega : (t.2.2.1.length : Int) ≤ 12)]; rfl
        simp only [e3, Bool.not_true, Bool.false_eq_true, if_false, Option.bind_some]
        unfold edgesP
        by_cases h4 : 300 < t.2.2.2.length
        · rw [decide_eq_false (show ¬ t.2.2.2.length ≤ 300 by omega), Bool.false_and, Bool.and_false]
          exact Ev.ite_t (decide_eq_true (by omega)) (Ev.pure _)
        · rw [decide_eq_true (show t.2.2.2.length ≤ 300 by omega), Bool.true_and]
          refine Ev.ite_f (by simp; omega) ?_
          have hlab : labsP t.2.2.1 = decide (∀ k, k < t.2.2.1.length → okL t.2.2.1 k = true) := by
            unfold labsP
            rw [decide_eq_true h3.1, decide_eq_true h3.2]; rfl
          rw [hlab]
          have cond : ∀ k s, k < t.2.2.1.length → t.2.2.1[k]? = some s → Ev (fun m => (impl_IsLabel_m m s).bind fun x357 => (if (!x357) = true then some true else some ((s == ([116, 97, 117] : Str)) != ((k : Int) == (0 : Int)))).bind fun t360 => (if t360 = true then some true else (if (decide ((1 : Int) < (k : Int))) = true then (idx t.2.2.1 (W ((k : Int) - (1 : Int)))).bind fun x369 => some (Op.bytesLess s x369 || s == x369) else some false).bind fun t366 => some t366).bind fun t363 => (if t363 = true then some (.inr (.inr false)) else some (.inl ((W ((k : Int) + (1 : Int))))) : Option (Int ⊕ (Unit ⊕ Bool)))) (if okL t.2.2.1 k = true then .inl ((k + 1 : Nat) : Int) else .inr (.inr false)) := by
            intro k s hk hs'
            refine Ev.bind (label_impl (hs s (List.mem_of_getElem? hs'))) (Ev.const ?_)
            have e : ∀ (c : Bool) (x y : Int ⊕ (Unit ⊕ Bool)), some (if c = true then x else y) = some (if (!c) = true then y else x) := by intro c x y; cases c <;> rfl
            unfold okL condX
            rw [hs']
            cases k with
            | zero =>
              simp only [Option.bind_some, or_some, show decide ((1 : Int) < ((0 : Nat) : Int)) = false from rfl, Bool.false_eq_true, if_false, W_succ hk (by omega), Bool.false_and, Bool.or_false]
              rw [ite_some, e]
              rfl
            | succ j =>
              obtain ⟨p, hp⟩ := get_lt (xs := t.2.2.1) (k := j) (by omega)
              have w2 := W_pred (k := j) (n := t.2.2.1.length) (by omega) (by omega)
              simp only [hp, w2, idx_at hp, Option.bind_some, or_some, and_some, W_succ hk (by omega), Nat.add_sub_cancel, bl_le]
              rw [ite_some, e, Bool.or_assoc]
              rfl
          refine Ev.bind (EvI.all t.2.2.1.length (okL t.2.2.1) false (fun k hk hok => ?_) (fun k hk hok => ?_) (Ev.ite_f (by simp) (Ev.pure _))).ev ?_
          · obtain ⟨s, hs'⟩ := get_lt hk
            have hk' : decide ((k : Int) < (t.2.2.1.length : Int)) = true := by simpa using hk
            exact Ev.ite_t hk' (Ev.bindc (idx_at hs') ((cond k s hk hs').eq (by rw [hok]; rfl)))
          · obtain ⟨s, hs'⟩ := get_lt hk
            have hk' : decide ((k : Int) < (t.2.2.1.length : Int)) = true := by simpa using hk
            exact Ev.ite_t hk' (Ev.bindc (idx_at hs') ((cond k s hk hs').eq (by rw [hok]; rfl)))
          · by_cases h5 : ∀ k, k < t.2.2.1.length → okL t.2.2.1 k = true
            · rw [if_pos h5, decide_eq_true h5, Bool.true_and]
              have c3 : ∀ k e, k < t.2.2.2.length → t.2.2.2[k]? = some e → Ev (fun m => (if (decide ((0 : Int) < (k : Int))) = true then (idx t.2.2.2 (W ((k : Int) - (1 : Int)))).bind fun x327 => (impl_compareEdges_m m (x327.1, x327.2.1, x327.2.2) (e.1, e.2.1, e.2.2)).bind fun x342 => some (decide ((0 : Int) ≤ x342)) else some false)) (decide ((0 : Int) < (k : Int)) && (match t.2.2.2[k - 1]? with | none => false | some p => !edgeLess p e)) := by
                intro k e hk he'
                cases k with
                | zero => exact Ev.const' fun m => rfl
                | succ j =>
                  obtain ⟨p, hp⟩ := get_lt (xs := t.2.2.2) (k := j) (by omega)
                  have hpos : decide ((0 : Int) < ((j + 1 : Nat) : Int)) = true := decide_eq_true (by omega)
                  obtain ⟨r, hr1, hr2⟩ := edges_cmp p e
                  rw [W_pred (k := j) (n := t.2.2.2.length) (by omega) (by omega), Nat.add_sub_cancel, hp, hpos, Bool.true_and]
                  exact Ev.ite_t rfl (Ev.bindc (idx_at hp) (Ev.bind hr1 (Ev.const (by rw [hr2]))))
              refine (Ev.all t.2.2.2.length (fun k => !condE (W (t.1 - 1)) (W ((t.2.2.1.length : Int) - 1)) t.2.2.2 k) false true (fun k hk hok => ?_) (fun k hk hok => ?_) (Ev.ite_f (by simp) (Ev.pure _))).eq (by split <;> simp_all)
              all_goals
                obtain ⟨e, he'⟩ := get_lt hk
                have hk' : decide ((k : Int) < (t.2.2.2.length : Int)) = true := by simpa using hk
              · have hc : condE (W (t.1 - 1)) (W ((t.2.2.1.length : Int) - 1)) t.2.2.2 k = false := by rwa [Bool.not_eq_true'] at hok
                unfold condE at hc
                rw [he'] at hc
                simp only [Bool.or_eq_false_iff] at hc
                obtain ⟨⟨g1, g2⟩, g3, g4⟩ := hc
                have c := (c3 k e hk he').eq g4
                unfold inn at g3
                refine Ev.ite_t hk' (Ev.bindc (idx_at he') (Ev.bindc (a := false) ?_ (Ev.bindc (a := false) ?_ (Ev.bind (a := false) (Ev.ite_f (by simp) (Ev.bind c (Ev.pure _))) (Ev.ite_f (by simp) (Ev.const ?_))))))
                · simp only [g1, g2, Bool.false_eq_true, if_false]
                · simp only [g3, Bool.false_eq_true, if_false]
                · rw [W_succ hk (by omega)]
              · have hc : condE (W (t.1 - 1)) (W ((t.2.2.1.length : Int) - 1)) t.2.2.2 k = true := by rwa [Bool.not_eq_false'] at hok
                unfold condE at hc
                rw [he'] at hc
                have c := c3 k e hk he'
                refine Ev.ite_t hk' (Ev.bindc (idx_at he') (Ev.bindc (a := (!inn e.1 0 (W (t.1 - 1)) || !inn e.2.2 0 (W (t.1 - 1)))) (by rw [or_some]) (Ev.bindc (a := ((!inn e.1 0 (W (t.1 - 1)) || !inn e.2.2 0 (W (t.1 - 1))) || !inn e.2.1 0 (W ((t.2.2.1.length : Int) - 1)))) (by rw [or_some]; rfl) ?_)))
                refine Ev.bind (a := true) ?_ (Ev.ite_t rfl (Ev.pure _))
                cases ha : ((!inn e.1 0 (W (t.1 - 1)) || !inn e.2.2 0 (W (t.1 - 1))) || !inn e.2.1 0 (W ((t.2.2.1.length : Int) - 1)))
                · refine Ev.ite_f (by simp) (Ev.bind c (Ev.const ?_))
                  have hc' : ((!inn e.1 0 (W (t.1 - 1)) || !inn e.2.2 0 (W (t.1 - 1))) || (!inn e.2.1 0 (W ((t.2.2.1.length : Int) - 1)) || (decide ((0 : Int) < (k : Int)) && (match t.2.2.2[k - 1]? with | none => false | some p => !edgeLess p e)))) = true := hc
                  rw [← Bool.or_assoc, ha, Bool.false_or] at hc'
                  rw [hc']
                · exact Ev.ite_t rfl (Ev.pure _)
            · rw [if_neg h5, decide_eq_false h5, Bool.false_and]
              exact Ev.const' fun m => rfl
      · have e3 : (decide ((1 : Int) ≤ (t.2.2.1.length : Int)) && decide ((t.2.2.1.length : Int) ≤ 12)) = false := by
          apply Bool.eq_false_iff.2
          intro h
          rw [Bool.and_eq_true] at h
          exact h3 ⟨by have := of_decide_eq_true h.1; omega, by have := of_decide_eq_true h.2; omega⟩
        have hlab : labsP t.2.2.1 = false := by
          unfold labsP
          apply Bool.eq_false_iff.2
          intro h
          rw [Bool.and_eq_true, Bool.and_eq_true] at h
          exact h3 ⟨of_decide_eq_true h.1.1, of_decide_eq_true h.1.2⟩
        rw [hlab, Bool.false_and]
        exact Ev.const' fun m => by simp only [e3, Bool.not_false, if_true, Option.bind_some]
theorem EvI.first {β : Type} {step : Nat → Int → Option (Int ⊕ β)} {b : β} (i : Nat) (hs : ∀ j, j < i → Ev (fun m => step m (j : Int)) (.inl ((j + 1 : Nat) : Int))) (hi : Ev (fun m => step m (i : Int)) (.inr b)) : EvI step (0 : Int) b :=
  EvI.upto i (fun k (_ : Unit) => (k : Int)) (fun _ _ => True) (k := 0) (t := ()) rfl (Nat.zero_le _) trivial (fun k _t hk _ => ⟨(), hs k hk, trivial⟩) (fun _ _ => hi)

/-! ### compact -/
theorem compact_inc {zs : List Int} (h : zs.Pairwise (· ≤ ·)) : (Lib.compact zs).Pairwise (· < ·) ∧ ∀ v, v ∈ Lib.compact zs ↔ v ∈ zs := by
  have hle : ∀ i j : Nat, i < j → j < zs.length → zs.toArray[i]! ≤ zs.toArray[j]! := by
    intro i j hij hj
    rw [getElem!_pos zs.toArray i (by simpa using (by omega : i < zs.length)), getElem!_pos zs.toArray j (by simpa using hj)]
    simpa using List.pairwise_iff_getElem.1 h i j (by omega) hj hij
  have key : ∀ m, m ≤ zs.length → (Lib.compactUpTo zs.toArray m).Pairwise (· < ·) ∧ ∀ v, v ∈ Lib.compactUpTo zs.toArray m ↔ ∃ j, j < m ∧ zs.toArray[j]! = v := by
    intro m
    induction m with
    | zero => intro _; refine ⟨by simp [Lib.compactUpTo], fun v => ?_⟩; simp [Lib.compactUpTo]
    | succ m ih =>
      intro hm
      obtain ⟨h1, h2⟩ := ih (by omega)
      rw [Lib.compactUpTo_succ]
      cases hk : Lib.keeps zs.toArray m
      · refine ⟨by simpa using h1, fun v => ?_⟩
        simp only [Bool.false_eq_true, if_false, List.append_nil]
        rw [h2 v]
        constructor
        · rintro ⟨j, a, b⟩; exact ⟨j, by omega, b⟩
        · rintro ⟨j, a, b⟩
          by_cases hj : j = m
          · subst hj
            have hz : 0 < j ∧ zs.toArray[j]! = zs.toArray[j - 1]! := by
              unfold Lib.keeps at hk
              have := of_decide_eq_false hk
              refine ⟨?_, ?_⟩
              · by_cases h0 : j = 0
                · exact absurd (.inl h0) this
                · omega
              · by_cases h0 : zs.toArray[j]! = zs.toArray[j - 1]!
                · exact h0
                · exact absurd (.inr h0) this
            exact ⟨j - 1, by omega, by rw [← hz.2]; exact b⟩
          · exact ⟨j, by omega, b⟩
      · simp only [if_true]
        refine ⟨List.pairwise_append.2 ⟨h1, by simp, fun a ha b hb => ?_⟩, fun v => ?_⟩
        · obtain ⟨j, hj, rfl⟩ := (h2 a).1 ha
          obtain rfl : b = zs.toArray[m]! := by simpa using hb
          have hz : m = 0 ∨ zs.toArray[m]! ≠ zs.toArray[m - 1]! := by
            unfold Lib.keeps at hk
            exact of_decide_eq_true hk
          rcases hz with hz | hz
          · omega
          · have l1 := hle (m - 1) m (by omega) (by omega)
            by_cases hjm : j = m - 1
            · subst hjm; omega
            · have l2 := hle j (m - 1) (by omega) (by omega)
              omega
        · rw [List.mem_append, h2 v]
          constructor
          · rintro (⟨j, a, b⟩ | hv)
            · exact ⟨j, by omega, b⟩
            · exact ⟨m, by omega, (List.mem_singleton.1 hv).symm⟩
          · rintro ⟨j, a, b⟩
            by_cases hj : j = m
            · subst hj; exact .inr (by simp [b])
            · exact .inl ⟨j, by omega, b⟩
  obtain ⟨h1, h2⟩ := key zs.length (Nat.le_refl _)
  refine ⟨h1, fun v => (h2 v).trans ?_⟩
  constructor
  · rintro ⟨j, hj, rfl⟩
    rw [getElem!_pos zs.toArray j (by simpa using hj)]
    simp
  · intro hv
    obtain ⟨j, hj, rfl⟩ := List.getElem_of_mem hv
    refine ⟨j, hj, ?_⟩
    rw [getElem!_pos zs.toArray j (by simpa using hj)]
    simp
/-! ### labels -/
theorem bl_trans : ∀ a b c : Str, Op.bytesLess a b = true → Op.bytesLess b c = true → Op.bytesLess a c = true
  | _, [], _, h, _ => by simp [Op.bytesLess] at h
  | _, _ :: _, [], _, h => by simp [Op.bytesLess] at h
  | [], _ :: _, _ :: _, _, _ => by simp [Op.bytesLess]
  | x :: a, y :: b, z :: c, h1, h2 => by
    simp only [Op.bytesLess, Bool.or_eq_true, Bool.and_eq_true, decide_eq_true_eq, beq_iff_eq] at h1 h2 ⊢
    rcases h1 with h1 | ⟨rfl, h1⟩
    · rcases h2 with h2 | ⟨rfl, h2⟩
      · left; rw [UInt8.lt_iff_toNat_lt] at h1 h2 ⊢; omega
      · exact .inl h1
    · rcases h2 with h2 | ⟨rfl, h2⟩
      · exact .inl h2
      · exact .inr ⟨rfl, bl_trans a b c h1 h2⟩

theorem VL.at_ {t : Timpl_Lts} {n : Nat} (V : VL t n) {k : Nat} {s : Str} (h : t.2.2.1[k]? = some s) : labelP s = true ∧ (s = tau' ↔ k = 0) ∧ ∀ (j : Nat) (p : Str), k = j + 1 → 0 < j → t.2.2.1[j]? = some p → Op.bytesLess p s = true := by
  have hk := (List.getElem?_eq_some_iff.1 h).1
  have h1 := V.lab k hk
  unfold okL condX at h1
  rw [h] at h1
  simp only [Bool.not_eq_true', Bool.or_eq_false_iff, Bool.not_eq_false'] at h1
  obtain ⟨a, b, c⟩ := h1
  refine ⟨a, ?_, fun j p hj h0 hp => ?_⟩
  · have b' : (s == tau') = ((k : Int) == 0) := by simpa using b
    constructor
    · intro e
      rw [e, beq_self_eq_true] at b'
      have := beq_iff_eq.1 b'.symm
      omega
    · intro e
      subst e
      exact beq_iff_eq.1 (b'.trans rfl)
  · subst hj
    rw [decide_eq_true (by omega), Bool.true_and, Nat.add_sub_cancel, hp] at c
    simpa using c
theorem VL.lt {t : Timpl_Lts} {n : Nat} (V : VL t n) : ∀ (d i : Nat) (s r : Str), 1 ≤ i → t.2.2.1[i]? = some s → t.2.2.1[i + d + 1]? = some r → Op.bytesLess s r = true
  | 0, i, s, r, h1, hs, hr => (V.at_ hr).2.2 i s rfl (by omega) hs
  | d + 1, i, s, r, h1, hs, hr => by
    have hl := (List.getElem?_eq_some_iff.1 hr).1
    obtain ⟨q, hq⟩ := get_lt (xs := t.2.2.1) (k := i + d + 1) (by omega)
    exact bl_trans _ _ _ (V.lt d i s q h1 hs hq) ((V.at_ hr).2.2 (i + d + 1) q rfl (by omega) hq)
theorem VL.one {t : Timpl_Lts} {n : Nat} (V : VL t n) {i j : Nat} {s : Str} (hi : t.2.2.1[i]? = some s) (hj : t.2.2.1[j]? = some s) : i = j := by
  have key : ∀ i j : Nat, i < j → t.2.2.1[i]? = some s → t.2.2.1[j]? = some s → False := by
    intro i j hij hi hj
    by_cases h0 : i = 0
    · have := ((V.at_ hj).2.1).1 (((V.at_ hi).2.1).2 h0)
      omega
    · obtain ⟨d, rfl⟩ : ∃ d, j = i + d + 1 := ⟨j - i - 1, by omega⟩
      have := V.lt d i s s (by omega) hi hj
      rw [bl_irr] at this
      cases this
  by_cases a : i < j
  · exact (key i j a hi hj).elim
  · by_cases b : j < i
    · exact (key j i b hj hi).elim
    · omega

def stP (t : Timpl_Lts) (k : Int) : Bool := inn k 0 (W (t.1 - 1))
theorem mget_app {α β : Type} [DecidableEq α] : ∀ (m m' : List (α × β)) (k : α), mget (m ++ m') k = (match mget m k with | some v => some v | none => mget m' k)
  | [], _, _ => rfl
  | p :: m, m', k => by
    simp only [List.cons_append, mget]
    by_cases h : p.1 = k
    · simp [h]
    · simp only [h, if_false]; exact mget_app m m' k
theorem mset_new {α β : Type} [DecidableEq α] : ∀ (m : List (α × β)) (k : α) (v : β), mget m k = none → mset m k v = m ++ [(k, v)]
  | [], _, _, _ => rfl
  | p :: m, k, v, h => by
    simp only [mget] at h
    by_cases hp : p.1 = k
    · simp [hp] at h
    · simp only [hp, if_false] at h
      simp [mset, hp, mset_new m k v h]

/-- The dictionary, one element on. -/
def dic (m : List (Int × Int)) (x : Int) : List (Int × Int) := if (mget m x).isSome = true then m else mset m x (m.length : Int)
/-- The blocks' numbers in the order in which they appear. -/
def nrm : List (Int × Int) → List Int → List Int
  | _, [] => []
  | m, x :: r => (mget m x).getD (m.length : Int) :: nrm (dic m x) r
theorem nrm_len : ∀ (m : List (Int × Int)) (l : List Int), (nrm m l).length = l.length
  | _, [] => rfl
  | m, x :: r => by simp [nrm, nrm_len _ r]
/-- The dictionary behind the first k elements. -/
def nrmD : List (Int × Int) → List Int → List (Int × Int)
  | m, [] => m
  | m, x :: r => nrmD (dic m x) r
theorem nrm_snoc : ∀ (m : List (Int × Int)) (l : List Int) (x : Int), nrm m (l ++ [x]) = nrm m l ++ [((mget (nrmD m l) x).getD ((nrmD m l).length : Int))] ∧ nrmD m (l ++ [x]) = dic (nrmD m l) x
  | m, [], x => by simp [nrm, nrmD]
  | m, y :: r, x => by
    obtain ⟨a, b⟩ := nrm_snoc (dic m y) r x
    simp only [List.cons_append, nrm, nrmD]
    exact ⟨by rw [a], b⟩
theorem nrmD_len : ∀ (l : List Int), (nrmD [] l).length ≤ l.length := by
  refine rev_ind (by simp [nrmD]) fun l x h => ?_
  rw [(nrm_snoc [] l x).2]
  unfold dic
  split
  · simp; omega
  · rename_i hn
    have : mget (nrmD [] l) x = none := by simpa using hn
    rw [mset_new _ _ _ this]
    simp; omega

theorem normal_ev {l : List Int} (hl : l.length ≤ 1048576) : Ev (fun m => impl_normal_m m l) (nrm [] l) := by
  have hlen := nrm_len [] l
  unfold impl_normal_m
  refine Ev.bindc (mks_ok (n := l.length) (by omega)) (Ev.bind (a := Sum.inl (nrm [] l)) (EvI.ev ?_) (Ev.pure _))
  refine EvI.upto l.length (fun k (_ : Unit) => (nrmD [] (l.take k), nrm [] (l.take k) ++ List.replicate (l.length - k) 0, (k : Int))) (fun _ _ => True) (k := 0) (t := ()) (by simp [nrm, nrmD]) (Nat.zero_le _) trivial (fun k _ hk _ => ⟨(), ?_, trivial⟩) (fun _ _ => (Ev.ite_f (by simp) (Ev.pure _)).eq (by simp))
  obtain ⟨x, hx⟩ := get_lt hk
  have htk : l.take (k + 1) = l.take k ++ [x] := by rw [List.take_add_one, hx]; rfl
  obtain ⟨s1, s2⟩ := nrm_snoc [] (l.take k) x
  have hlk : (nrm [] (l.take k)).length = k := by rw [nrm_len, List.length_take]; omega
  have hi : (nrm [] (l.take k) ++ List.replicate (l.length - k) (0 : Int))[k]? = some 0 := by
    rw [List.getElem?_append_right (by omega), hlk, List.getElem?_replicate, if_pos (by omega)]
  have hset : ∀ v, (nrm [] (l.take k) ++ List.replicate (l.length - k) (0 : Int)).set (k : Int).toNat v = nrm [] (l.take k) ++ [v] ++ List.replicate (l.length - (k + 1)) 0 := by
    intro v
    rw [Int.toNat_natCast, List.set_append_right _ _ (by omega), hlk, List.append_assoc]
    congr 1
    rw [show l.length - k = (l.length - (k + 1)) + 1 by omega, List.replicate_succ]
    simp
  dsimp only
  rw [htk, s1, s2]
  unfold dic
  refine Ev.ite_t (decide_eq_true (by omega)) (Ev.bindc (idx_at hx) (Ev.join ?_))
  cases hg : mget (nrmD [] (l.take k)) x with
  | none =>
    refine Ev.ite_t rfl (Ev.bindc (idx_at hi) (Ev.const ?_))
    rw [hset, W_succ hk (by omega)]; rfl
  | some b =>
    refine Ev.ite_f (by simp) (Ev.bindc (idx_at hi) (Ev.const ?_))
    rw [hset, W_succ hk (by omega)]; rfl

theorem equal_ints {a b : List Int} (hl : a.length ≤ maxLen) : Ev (fun m => slices_Equal__int64_int64_m m a b) (decide (a = b)) := by
  have hm := maxLen_le
  unfold slices_Equal__int64_int64_m
  by_cases hab : a.length = b.length
  · refine Ev.ite_f (by simp [hab]) ?_
    refine (Ev.all a.length (fun k => decide (a[k]? = b[k]?)) false true (fun k hk hok => ?_) (fun k hk hok => ?_) (Ev.ite_f (by simp) (Ev.pure _))).eq ?_
    · obtain ⟨x, hx⟩ := get_lt hk
      have h := of_decide_eq_true hok
      have hy : b[k]? = some x := by rw [← h]; exact hx
      exact Ev.ite_t (decide_eq_true (by omega)) (Ev.bindc (idx_at hx) (Ev.bindc (idx_at hy) (Ev.ite_f (by simp) (Ev.const (by rw [W_succ hk (by omega)])))))
    · obtain ⟨x, hx⟩ := get_lt hk
      obtain ⟨y, hy⟩ := get_lt (xs := b) (k := k) (by omega)
      have h := of_decide_eq_false hok
      have hne : x ≠ y := fun e => h (by rw [hx, hy, e])
      exact Ev.ite_t (decide_eq_true (by omega)) (Ev.bindc (idx_at hx) (Ev.bindc (idx_at hy) (Ev.ite_t (by simpa using hne) (Ev.pure _))))
    · by_cases e : a = b
      · subst e
        rw [if_pos (fun k _ => by simp)]; simp
      · rw [if_neg, decide_eq_false e]
        intro h
        refine e (List.ext_getElem? fun k => ?_)
        by_cases hk : k < a.length
        · exact of_decide_eq_true (h k hk)
        · rw [List.getElem?_eq_none (by omega), List.getElem?_eq_none (by omega)]
  · refine (Ev.ite_t ?_ (Ev.pure _)).eq (decide_eq_false fun e => hab (by rw [e])).symm
    rw [bne_iff_ne]; omega

theorem nrm_one {l : List Int} {y : Int} (h : mget (nrmD [] l) y = none) : nrm [] (l ++ [y]) = nrm [] l ++ [((nrmD [] l).length : Int)] ∧ nrmD [] (l ++ [y]) = nrmD [] l ++ [(y, ((nrmD [] l).length : Int))] := by
  obtain ⟨s1, s2⟩ := nrm_snoc [] l y
  rw [s1, s2]
  unfold dic
  rw [h]
  exact ⟨rfl, by rw [if_neg (by simp), mset_new _ _ _ h]⟩
theorem nrm_old {l : List Int} {y o : Int} (h : mget (nrmD [] l) y = some o) : nrm [] (l ++ [y]) = nrm [] l ++ [o] ∧ nrmD [] (l ++ [y]) = nrmD [] l := by
  obtain ⟨s1, s2⟩ := nrm_snoc [] l y
  rw [s1, s2]
  unfold dic
  rw [h]
  exact ⟨rfl, by rw [if_pos (by simp)]⟩

theorem nrm_at : ∀ (l : List Int) (j : Nat) (x : Int), l[j]? = some x → (nrm [] l)[j]? = mget (nrmD [] l) x := by
  refine rev_ind (fun j x h => by simp at h) fun l y ih j x h => ?_
  by_cases hj : j < l.length
  · rw [List.getElem?_append_left hj] at h
    have h1 := ih j x h
    have hlt : j < (nrm [] l).length := by rw [nrm_len]; exact hj
    have h2 : mget (nrmD [] l) x = some (nrm [] l)[j] := by rw [← h1]; exact List.getElem?_eq_getElem hlt
    cases hm : mget (nrmD [] l) y with
    | none =>
      obtain ⟨e1, e2⟩ := nrm_one hm
      rw [e1, e2, List.getElem?_append_left hlt, mget_app, h2]
      exact List.getElem?_eq_getElem hlt
    | some o =>
      obtain ⟨e1, e2⟩ := nrm_old hm
      rw [e1, e2, List.getElem?_append_left hlt, h1]
  · have hjl := (List.getElem?_eq_some_iff.1 h).1
    simp at hjl
    obtain rfl : j = l.length := by omega
    simp at h
    subst h
    cases hm : mget (nrmD [] l) y with
    | none =>
      obtain ⟨e1, e2⟩ := nrm_one hm
      rw [e1, e2, mget_app, hm, List.getElem?_append_right (by rw [nrm_len]; exact Nat.le_refl _), nrm_len]
      simp [mget]
    | some o =>
      obtain ⟨e1, e2⟩ := nrm_old hm
      rw [e1, e2, hm, List.getElem?_append_right (by rw [nrm_len]; exact Nat.le_refl _), nrm_len]
      simp
theorem nrm_none : ∀ (l : List Int) (x : Int), x ∉ l → mget (nrmD [] l) x = none := by
  refine rev_ind (fun x _ => rfl) fun l y ih x h => ?_
  simp only [List.mem_append, List.mem_singleton, not_or] at h
  cases hm : mget (nrmD [] l) y with
  | none =>
    rw [(nrm_one hm).2, mget_app, ih x h.1]
    simp [mget, Ne.symm h.2]
  | some o => rw [(nrm_old hm).2, ih x h.1]
theorem nrm_pos : ∀ (l : List Int) (x o : Int), mget (nrmD [] l) x = some o → 0 ≤ o := by
  refine rev_ind (fun x o h => by simp [nrmD, mget] at h) fun l y ih x o h => ?_
  cases hm : mget (nrmD [] l) y with
  | none =>
    rw [(nrm_one hm).2, mget_app] at h
    cases hx : mget (nrmD [] l) x with
    | none =>
      rw [hx] at h
      simp only [mget] at h
      split at h
      · cases h; omega
      · cases h
    | some v => rw [hx] at h; cases h; exact ih x o hx
  | some v => rw [(nrm_old hm).2] at h; exact ih x o h

/-- What counts is which are equal. -/
theorem nrm_congr : ∀ (l l' : List Int), l.length = l'.length → (∀ (j k : Nat) (a b a' b' : Int), l[j]? = some a → l[k]? = some b → l'[j]? = some a' → l'[k]? = some b' → (a = b ↔ a' = b')) → nrm [] l = nrm [] l' ∧ (nrmD [] l).length = (nrmD [] l').length := by
  refine rev_ind (fun l' h _ => ?_) fun l y ih l' h he => ?_
  · have : l' = [] := List.eq_nil_of_length_eq_zero h.symm
    subst this
    exact ⟨rfl, rfl⟩
  · obtain ⟨l1, z, rfl⟩ : ∃ l1 z, l' = l1 ++ [z] := by
      rcases List.eq_nil_or_concat l' with e | ⟨l1, z, e⟩
      · rw [e] at h; simp at h
      · exact ⟨l1, z, by rw [e, List.concat_eq_append]⟩
    have hl : l.length = l1.length := by simpa using h
    have hin : ∀ (j : Nat) (a : Int), l[j]? = some a → (l ++ [y])[j]? = some a := fun j a hj => by rw [List.getElem?_append_left (List.getElem?_eq_some_iff.1 hj).1]; exact hj
    have hin' : ∀ (j : Nat) (a : Int), l1[j]? = some a → (l1 ++ [z])[j]? = some a := fun j a hj => by rw [List.getElem?_append_left (List.getElem?_eq_some_iff.1 hj).1]; exact hj
    obtain ⟨h1, h2⟩ := ih l1 hl (fun j k a b a' b' q1 q2 q3 q4 => he j k a b a' b' (hin _ _ q1) (hin _ _ q2) (hin' _ _ q3) (hin' _ _ q4))
    have hlast : (l ++ [y])[l.length]? = some y := by simp
    have hlast' : (l1 ++ [z])[l.length]? = some z := by rw [hl]; simp
    by_cases hy : y ∈ l
    · obtain ⟨j, hj⟩ := List.mem_iff_getElem?.1 hy
      have hjl := (List.getElem?_eq_some_iff.1 hj).1
      obtain ⟨a', ha'⟩ := get_lt (xs := l1) (k := j) (by omega)
      have hz : a' = z := (he j l.length y y a' z (hin _ _ hj) hlast (hin' _ _ ha') hlast').1 rfl
      subst hz
      have m1 := nrm_at l j y hj
      have m2 := nrm_at l1 j a' ha'
      obtain ⟨o, ho⟩ := get_lt (xs := nrm [] l) (k := j) (by rw [nrm_len]; exact hjl)
      rw [ho] at m1
      rw [← h1, ho] at m2
      obtain ⟨e1, e2⟩ := nrm_old m1.symm
      obtain ⟨e3, e4⟩ := nrm_old m2.symm
      rw [e1, e2, e3, e4, h1]
      exact ⟨rfl, h2⟩
    · have hz : z ∉ l1 := fun hm => by
        obtain ⟨j, hj⟩ := List.mem_iff_getElem?.1 hm
        have hjl := (List.getElem?_eq_some_iff.1 hj).1
        obtain ⟨a, ha⟩ := get_lt (xs := l) (k := j) (by omega)
        have := (he j l.length a y z z (hin _ _ ha) hlast (hin' _ _ hj) hlast').2 rfl
        subst this
        exact hy (List.mem_of_getElem? ha)
      obtain ⟨e1, e2⟩ := nrm_one (nrm_none l y hy)
      obtain ⟨e3, e4⟩ := nrm_one (nrm_none l1 z hz)
      rw [e1, e2, e3, e4, h1, h2]
      exact ⟨rfl, by simp [h2]⟩
/-- Which have the same number. -/
theorem nrm_same {l : List Int} {j k : Nat} {a b u v : Int} (ha : l[j]? = some a) (hb : l[k]? = some b) (hu : (nrm [] l)[j]? = some u) (hv : (nrm [] l)[k]? = some v) : u = v ↔ a = b := by
  have inj : ∀ (l : List Int) (a b o : Int), mget (nrmD [] l) a = some o → mget (nrmD [] l) b = some o → a = b ∧ o < ((nrmD [] l).length : Int) := by
    refine rev_ind (fun a b o h _ => by simp [nrmD, mget] at h) fun l y ih a b o h h' => ?_
    cases hm : mget (nrmD [] l) y with
    | none =>
      rw [(nrm_one hm).2, mget_app] at h h'
      rw [(nrm_one hm).2, List.length_append]
      cases h1 : mget (nrmD [] l) a with
      | none =>
        rw [h1] at h
        simp only [mget] at h
        split at h
        · rename_i hya
          cases h
          cases h2 : mget (nrmD [] l) b with
          | none =>
            rw [h2] at h'
            simp only [mget] at h'
            split at h'
            · rename_i hyb; exact ⟨by rw [← hya, ← hyb], by simp; omega⟩
            · cases h'
          | some v =>
            rw [h2] at h'
            cases h'
            have := (ih b b _ h2 h2).2
            omega
        · cases h
      | some v =>
        rw [h1] at h
        cases h
        cases h2 : mget (nrmD [] l) b with
        | none =>
          rw [h2] at h'
          simp only [mget] at h'
          split at h'
          · cases h'
            have := (ih a a _ h1 h1).2
            omega
          · cases h'
        | some v' =>
          rw [h2] at h'
          cases h'
          have := ih a b _ h1 h2
          exact ⟨this.1, by simp; omega⟩
    | some v => rw [(nrm_old hm).2] at h h' ⊢; exact ih a b o h h'
  rw [nrm_at l j a ha] at hu
  rw [nrm_at l k b hb] at hv
  constructor
  · intro e; subst e; exact (inj l a b u hu hv).1
  · intro e; subst e; exact Option.some.inj (hu.symm.trans hv)
theorem same_ints {a b : List Int} (hl : a.length ≤ maxLen) : Ev (fun m => spec_l00Same_m m a b) (decide (a = b)) := by
  have hm := maxLen_le
  unfold spec_l00Same_m
  by_cases hab : a.length = b.length
  · refine Ev.ite_f (by simp [hab]) ?_
    refine (Ev.all a.length (fun k => decide (a[k]? = b[k]?)) false true (fun k hk hok => ?_) (fun k hk hok => ?_) (Ev.ite_f (by simp) (Ev.pure _))).eq ?_
    · obtain ⟨x, hx⟩ := get_lt hk
      have h := of_decide_eq_true hok
      have hy : b[k]? = some x := by rw [← h]; exact hx
      exact Ev.ite_t (decide_eq_true (by omega)) (Ev.bindc (idx_at hx) (Ev.bindc (idx_at hy) (Ev.ite_f (by simp) (Ev.const (by rw [W_succ hk (by omega)])))))
    · obtain ⟨x, hx⟩ := get_lt hk
      obtain ⟨y, hy⟩ := get_lt (xs := b) (k := k) (by omega)
      have h := of_decide_eq_false hok
      have hne : x ≠ y := fun e => h (by rw [hx, hy, e])
      exact Ev.ite_t (decide_eq_true (by omega)) (Ev.bindc (idx_at hx) (Ev.bindc (idx_at hy) (Ev.ite_t (by simpa using hne) (Ev.pure _))))
    · by_cases e : a = b
      · subst e
        rw [if_pos (fun k _ => by simp)]; simp
      · rw [if_neg, decide_eq_false e]
        intro h
        refine e (List.ext_getElem? fun k => ?_)
        by_cases hk : k < a.length
        · exact of_decide_eq_true (h k hk)
        · rw [List.getElem?_eq_none (by omega), List.getElem?_eq_none (by omega)]
  · refine (Ev.ite_t ?_ (Ev.pure _)).eq (decide_eq_false fun e => hab (by rw [e])).symm
    rw [bne_iff_ne]; omega

/-! ### lists of keys -/
/-- The first place of each key. -/
def fst1 (keys : List (List Int)) (k : Nat) : Nat := (keys.take k).findIdx fun x => decide (some x = keys[k]?)
def firsts (keys : List (List Int)) : List Int := (List.range keys.length).map fun k => (fst1 keys k : Int)
theorem firsts_len {keys : List (List Int)} : (firsts keys).length = keys.length := by simp [firsts]
theorem firsts_get {keys : List (List Int)} {k : Nat} (h : k < keys.length) : (firsts keys)[k]? = some (fst1 keys k : Int) := by simp [firsts, h]
theorem fst1_le {keys : List (List Int)} {k : Nat} (hk : k < keys.length) : fst1 keys k ≤ k := by
  have := List.findIdx_le_length (p := fun x => decide (some x = keys[k]?)) (xs := keys.take k)
  rw [List.length_take] at this
  unfold fst1; omega
theorem fst1_at {keys : List (List Int)} {k : Nat} (hk : k < keys.length) : keys[fst1 keys k]? = keys[k]? ∧ ∀ i, i < fst1 keys k → keys[i]? ≠ keys[k]? := by
  have hl : (keys.take k).length = k := by rw [List.length_take]; omega
  constructor
  · by_cases h : fst1 keys k < k
    · have h' : fst1 keys k < (keys.take k).length := by omega
      have := List.findIdx_getElem (p := fun x => decide (some x = keys[k]?)) (xs := keys.take k) (w := h')
      have h2 := of_decide_eq_true this
      have h3 : (keys.take k)[fst1 keys k]? = keys[k]? := by rw [← h2]; exact List.getElem?_eq_getElem h'
      rw [List.getElem?_take, if_pos h] at h3
      exact h3
    · have := fst1_le hk
      rw [show fst1 keys k = k by omega]
  · intro i hi e
    have hlt : i < (keys.take k).length := by have := fst1_le hk; omega
    have := List.not_of_lt_findIdx (p := fun x => decide (some x = keys[k]?)) (xs := keys.take k) hi
    have h4 : some ((keys.take k)[i]) = keys[i]? := by rw [List.getElem_take]; exact (List.getElem?_eq_getElem _).symm
    exact of_decide_eq_false this (h4.trans e)
theorem fst1_eq {keys : List (List Int)} {j k : Nat} (hj : j < keys.length) (hk : k < keys.length) : ((fst1 keys j : Nat) : Int) = (fst1 keys k : Int) ↔ keys[j]? = keys[k]? := by
  obtain ⟨a1, a2⟩ := fst1_at hj
  obtain ⟨b1, b2⟩ := fst1_at hk
  constructor
  · intro e
    have : fst1 keys j = fst1 keys k := by omega
    rw [← a1, ← b1, this]
  · intro e
    have h1 : ¬ fst1 keys j < fst1 keys k := fun h => b2 _ h (by rw [a1, e])
    have h2 : ¬ fst1 keys k < fst1 keys j := fun h => a2 _ h (by rw [b1, e])
    omega

theorem normalKeys_ev {keys : List (List Int)} (hl : keys.length ≤ 1048576) (hk : ∀ x ∈ keys, x.length ≤ 1048576) : Ev (fun m => impl_normalKeys_m m keys) (nrm [] (firsts keys)) := by
  have hmx := mx
  unfold impl_normalKeys_m
  refine Ev.bind (a := Sum.inl (firsts keys)) (EvI.ev ?_) ?_
  · refine EvI.upto keys.length (fun k (_ : Unit) => ((firsts keys).take k, (k : Int))) (fun _ _ => True) (k := 0) (t := ()) (by simp) (Nat.zero_le _) trivial (fun k _ hkl _ => ⟨(), ?_, trivial⟩) (fun _ _ => (Ev.ite_f (by simp) (Ev.pure _)).eq (by rw [← firsts_len (keys := keys), List.take_length]))
    obtain ⟨x, hx⟩ := get_lt hkl
    have htl : (keys.take k).length = k := by rw [List.length_take]; omega
    have hsub : sub keys (0 : Int) (k : Int) = some (keys.take k) := by
      unfold sub
      rw [if_pos (by omega)]
      simp
    obtain ⟨r, h1, h2⟩ := index_loop (a := keys.take k) (by omega) (f := fun m z => impl_normalKeys_1_m m z x) (ok := fun z => !(decide (z = x))) (fun z hz => by
      unfold impl_normalKeys_1_m
      refine Ev.bind (equal_ints (a := z) (b := x) (by have := hk z (List.mem_of_mem_take hz); omega)) (Ev.const ?_)
      rw [Bool.not_not])
    have hfr : r = if fst1 keys k = k then -1 else (fst1 keys k : Int) := by
      rcases h2 with ⟨rfl, h2⟩ | ⟨i, y, hi, rfl, hy, hyx, hbef⟩
      · rw [if_pos]
        apply Classical.byContradiction
        intro hne
        have hle := fst1_le hkl
        have hlt : fst1 keys k < k := by omega
        obtain ⟨a1, _⟩ := fst1_at hkl
        have := List.all_eq_true.1 h2 x (List.mem_of_getElem? (i := fst1 keys k) (by rw [List.getElem?_take, if_pos hlt, a1, hx]))
        simp at this
      · have hyx' : y = x := by simpa using hyx
        subst hyx'
        have hik : i < k := by omega
        rw [List.getElem?_take, if_pos hik] at hy
        obtain ⟨a1, a2⟩ := fst1_at hkl
        have h3 : ¬ i < fst1 keys k := fun h => a2 i h (by rw [hy, hx])
        have h4 : ¬ fst1 keys k < i := fun h => by
          have := hbef (fst1 keys k) y h (by rw [List.getElem?_take, if_pos (by omega), a1, hx])
          simp at this
        rw [if_neg (by omega)]; omega
    have hle := fst1_le hkl
    have htake : (firsts keys).take (k + 1) = (firsts keys).take k ++ [(fst1 keys k : Int)] := by rw [List.take_add_one, firsts_get hkl]; rfl
    rw [htake]
    have hix : Ev (fun m => slices_IndexFunc___int64__int64_m m (keys.take k) (fun z0 => impl_normalKeys_1_m m z0 x)) r := by
      unfold slices_IndexFunc___int64__int64_m
      exact h1
    refine Ev.ite_t (decide_eq_true (by omega)) (Ev.bindc (idx_at hx) (Ev.bindc hsub (Ev.bind hix (Ev.join ?_))))
    have hlen : ((firsts keys).take k).length = k := by rw [List.length_take, firsts_len]; omega
    by_cases hc : fst1 keys k = k
    · rw [hfr, if_pos hc]
      refine Ev.ite_t (by simp) (Ev.bindc (app_ok (by simp; omega)) (Ev.const ?_))
      rw [W_succ hkl (by omega), hc]
    · rw [hfr, if_neg hc]
      refine Ev.ite_f (by first | (simp; done) | (simp; omega)) (Ev.bindc (app_ok (by simp; omega)) (Ev.const ?_))
      rw [W_succ hkl (by omega)]
  · show Ev (fun m => (impl_normal_m m (firsts keys)).bind fun x => some x) _
    exact Ev.bind (normal_ev (by rw [firsts_len]; omega)) (Ev.pure _)

/-! ### what a state offers -/
section
variable {t : Timpl_Lts} {n : Nat} {f : Int → Int}
def numE (n : Nat) (f : Int → Int) (e : Timpl_Edge) : Int := e.2.1 * (n : Int) + f e.2.2
/-- The numbers of the edges from a state, among the first i. -/
def sgL (t : Timpl_Lts) (n : Nat) (f : Int → Int) (i : Nat) (k : Int) : List Int := ((t.2.2.2.take i).filter fun e => e.1 == k).map (numE n f)
def sgU (t : Timpl_Lts) (n : Nat) (f : Int → Int) (k : Int) : List Int := Lib.compact (srt (sgL t n f t.2.2.2.length k))
def keyP (t : Timpl_Lts) (n : Nat) (f : Int → Int) (k : Int) : List Int := [f k] ++ sgU t n f k
/-- The refined partition. -/
def rfnP (t : Timpl_Lts) (n : Nat) (f : Int → Int) : List Int := nrm [] (firsts (tab n (keyP t n f)))
theorem rfnP_len : (rfnP t n f).length = n := by rw [rfnP, nrm_len, firsts_len, tab_len]
def FB (n : Nat) (f : Int → Int) : Prop := ∀ v, 0 ≤ v → v < (n : Int) → 0 ≤ f v ∧ f v < (n : Int)
theorem sgL_len {i : Nat} {k : Int} : (sgL t n f i k).length ≤ i := by
  unfold sgL
  rw [List.length_map]
  have h1 := List.length_filter_le (fun e : Timpl_Edge => e.1 == k) (t.2.2.2.take i)
  rw [List.length_take] at h1
  omega
theorem sgL_succ {i : Nat} {e : Timpl_Edge} (he : t.2.2.2[i]? = some e) (k : Int) : sgL t n f (i + 1) k = if e.1 = k then sgL t n f i k ++ [numE n f e] else sgL t n f i k := by
  unfold sgL
  rw [List.take_add_one, he]
  by_cases h : e.1 = k
  · rw [if_pos h]; simp [h]
  · rw [if_neg h]; simp [h]
theorem sgU_len (V : VL t n) {k : Int} : (sgU t n f k).length ≤ 300 := by
  have h1 := compact_len (srt (sgL t n f t.2.2.2.length k))
  have h2 := sgL_len (t := t) (n := n) (f := f) (i := t.2.2.2.length) (k := k)
  rw [srt_len] at h1
  have := V.few
  unfold sgU; omega
theorem numE_W (V : VL t n) (hf : FB n f) {e : Timpl_Edge} (he : e ∈ t.2.2.2) : W (W (e.2.1 * (n : Int)) + f e.2.2) = numE n f e := by
  have h1 := V.lbl e he
  have h2 := V.dst e he
  have h3 := hf _ h2.1 h2.2
  have h4 := V.labs
  have h5 := V.top
  have h6 : e.2.1 * (n : Int) ≤ 12 * 40 := Int.mul_le_mul (by omega) (by omega) (by omega) (by omega)
  have h7 : 0 ≤ e.2.1 * (n : Int) := Int.mul_nonneg h1.1 (by omega)
  unfold numE
  rw [W_of (n := e.2.1 * (n : Int)) (by omega) (by omega), W_of (by omega) (by omega)]

theorem refine_impl (V : VL t n) (hf : FB n f) : Ev (fun m => impl_Lts_refine_m m t (tab n f)) (rfnP t n f) := by
  have htop := V.top
  have hfew := V.few
  unfold impl_Lts_refine_m
  simp only [V.st, tab_len]
  refine Ev.bindc (mks_ok (n := n) (by omega)) ?_
  rw [tab_const]
  refine Ev.bind (EvI.fill n (fun _ => Mx.own []) (fun k => Mx.own [f k]) (fun k g hk => ?_) (fun xs => Ev.ite_f (by simp) (Ev.pure _))).ev ?_
  · refine Ev.ite_t (decide_eq_true (by omega)) (Ev.bindc (tab_at (by omega) (by omega)) (Ev.bindc (tab_at (by omega) (by omega)) (Ev.const ?_)))
    rw [tab_set (by omega), W_succ hk (by omega)]
  refine Ev.bindc (mks_ok (n := n) (by omega)) ?_
  rw [tab_const]
  refine Ev.bind (a := Sum.inl (tab n fun k => Mx.own (sgL t n f t.2.2.2.length k))) (EvI.ev ?_) ?_
  · refine EvI.upto t.2.2.2.length (fun i (_ : Unit) => (tab n fun k => Mx.own (sgL t n f i k), (i : Int))) (fun _ _ => True) (k := 0) (t := ()) (by simp [sgL]) (Nat.zero_le _) trivial (fun i _ hi _ => ⟨(), ?_, trivial⟩) (fun _ _ => Ev.ite_f (by simp) (Ev.pure _))
    obtain ⟨e, he⟩ := get_lt hi
    have hem := List.mem_of_getElem? he
    have rs := V.src e hem
    have rd := V.dst e hem
    have hsl := sgL_len (t := t) (n := n) (f := f) (i := i) (k := e.1)
    dsimp only
    refine Ev.ite_t (decide_eq_true (by omega)) (Ev.join (Ev.bindc (idx_at he) (Ev.bindc (tab_at rs.1 rs.2) (Ev.bindc (a := sgL t n f i e.1) (by rfl) (Ev.bindc (tab_at rd.1 rd.2) (Ev.bindc (app_ok (by simp; omega)) ?_))))))
    rw [tab_set rs.1]
    refine Ev.bindc (tab_at rs.1 rs.2) (Ev.const ?_)
    rw [tab_set rs.1, numE_W V hf hem, W_succ hi (by omega)]
    refine congrArg (fun z => some (Sum.inl (z, ((i + 1 : Nat) : Int)))) (tab_congr fun v _ _ => ?_)
    rw [sgL_succ he]
    unfold upd
    by_cases h : v = e.1
    · rw [if_pos h, if_pos h.symm, h]
    · rw [if_neg h, if_neg h, if_neg (fun q => h q.symm)]
  refine Ev.bind (a := Sum.inl (tab n fun k => Mx.own (keyP t n f k))) (EvI.ev ?_) ?_
  · refine EvI.upto n (fun i (_ : Unit) => (tab n (fun k => if k < (i : Int) then Mx.own (keyP t n f k) else Mx.own [f k]), tab n (fun k => if k < (i : Int) then Mx.gone else Mx.own (sgL t n f t.2.2.2.length k)), (i : Int))) (fun _ _ => True) (k := 0) (t := ()) (by
      refine congr (congrArg Prod.mk (tab_congr fun v h0 _ => ?_)) (congr (congrArg Prod.mk (tab_congr fun v h0 _ => ?_)) rfl)
      · rw [if_neg (by omega)]
      · rw [if_neg (by omega)]) (Nat.zero_le _) trivial (fun i _ hi _ => ⟨(), ?_, trivial⟩) (fun _ _ => by
      dsimp only
      exact Ev.ite_f (by rw [tab_len]; simp) (Ev.const (congrArg (fun z => some (Sum.inr (Sum.inl z))) (tab_congr fun v h0 h1 => if_pos h1))))
    have hsl := sgL_len (t := t) (n := n) (f := f) (i := t.2.2.2.length) (k := (i : Int))
    have hul := sgU_len V (f := f) (k := (i : Int))
    have hn1 : ¬ (i : Int) < (i : Int) := by omega
    dsimp only
    refine Ev.ite_t (decide_eq_true (by rw [tab_len]; omega)) (Ev.join (Ev.bindc (tab_at (v := (i : Int)) (by omega) (by omega)) (Ev.bindc (a := sgL t n f t.2.2.2.length (i : Int)) (by rw [if_neg hn1]; rfl) (Ev.bind (a := srt (sgL t n f t.2.2.2.length (i : Int))) (Ev.const' fun m => if_pos (by omega)) (Ev.bindc (tab_at (v := (i : Int)) (by omega) (by omega)) (Ev.bindc (a := [f (i : Int)]) (by rw [if_neg hn1]; rfl) (Ev.bind (a := sgU t n f (i : Int)) (Ev.const' fun m => rfl) (Ev.bindc (app_ok (by simp; omega)) ?_))))))))
    rw [tab_set (by omega), tab_set (by omega)]
    refine Ev.bindc (tab_at (v := (i : Int)) (by omega) (by omega)) (Ev.const ?_)
    rw [tab_set (by omega), W_succ hi (by omega)]
    refine congrArg some (congrArg Sum.inl (congr (congrArg Prod.mk (tab_congr fun v h0 _ => ?_)) (congr (congrArg Prod.mk (tab_congr fun v h0 _ => ?_)) rfl)))
    · unfold upd
      dsimp only
      by_cases h : v = (i : Int)
      · rw [if_pos h, if_pos (by omega), h]; rfl
      · rw [if_neg h, if_neg h]
        by_cases h2 : v < (i : Int)
        · rw [if_pos h2, if_pos (by omega)]
        · rw [if_neg h2, if_neg (by omega)]
    · unfold upd
      dsimp only
      by_cases h : v = (i : Int)
      · rw [if_pos h, if_pos (by omega)]
      · rw [if_neg h]
        by_cases h2 : v < (i : Int)
        · rw [if_pos h2, if_pos (by omega)]
        · rw [if_neg h2, if_neg (by omega)]
  · have hall : allO Mx.val (tab n fun k => Mx.own (keyP t n f k)) = some (tab n (keyP t n f)) := allO_map (f := Mx.val) (g := fun k : Nat => Mx.own (keyP t n f (k : Int))) (k := fun k : Nat => keyP t n f (k : Int)) (fun _ => rfl) (List.range n)
    show Ev (fun m => (allO Mx.val (tab n fun k => Mx.own (keyP t n f k))).bind fun ys => (impl_normalKeys_m m ys).bind fun x => some x) _
    refine Ev.bindc hall (Ev.bind (normalKeys_ev (by rw [tab_len]; omega) fun x hx => ?_) (Ev.pure _))
    obtain ⟨k, _, rfl⟩ := List.mem_map.1 hx
    have := sgU_len V (f := f) (k := (k : Int))
    unfold keyP
    simp; omega

end
theorem nrm_top : ∀ (l : List Int) (x o : Int), mget (nrmD [] l) x = some o → o < ((nrmD [] l).length : Int) := by
  refine rev_ind (fun x o h => by simp [nrmD, mget] at h) fun l y ih x o h => ?_
  cases hm : mget (nrmD [] l) y with
  | none =>
    rw [(nrm_one hm).2, mget_app] at h
    rw [(nrm_one hm).2, List.length_append]
    cases hx : mget (nrmD [] l) x with
    | none =>
      rw [hx] at h
      simp only [mget] at h
      split at h
      · cases h; simp; omega
      · cases h
    | some v => rw [hx] at h; cases h; have := ih x o hx; simp; omega
  | some v => rw [(nrm_old hm).2] at h ⊢; exact ih x o h
theorem nrm_rg1 {l : List Int} {k : Nat} {v : Int} (h : (nrm [] l)[k]? = some v) : 0 ≤ v ∧ v < (l.length : Int) := by
  have hk := (List.getElem?_eq_some_iff.1 h).1
  rw [nrm_len] at hk
  obtain ⟨x, hx⟩ := get_lt hk
  have hm := nrm_at l k x hx
  rw [h] at hm
  have h1 := nrm_pos l x v hm.symm
  have h2 := nrm_top l x v hm.symm
  have h3 := nrmD_len l
  omega

section
variable {t : Timpl_Lts} {n : Nat}
/-- A list as a function of places. -/
def atP (l : List Int) (v : Int) : Int := (l[v.toNat]?).getD 0
theorem tab_atP {l : List Int} (h : l.length = n) : tab n (atP l) = l := by
  refine List.ext_getElem? fun k => ?_
  by_cases hk : k < n
  · rw [tab_get hk]
    unfold atP
    rw [Int.toNat_natCast, List.getElem?_eq_getElem (by omega)]
    rfl
  · rw [List.getElem?_eq_none (by rw [tab_len]; omega), List.getElem?_eq_none (by omega)]
/-- The round i. -/
def rnd (t : Timpl_Lts) (n : Nat) : Nat → List Int
  | 0 => List.replicate n 0
  | i + 1 => rfnP t n (atP (rnd t n i))
theorem rnd_len : ∀ (i : Nat), (rnd t n i).length = n
  | 0 => by simp [rnd]
  | i + 1 => rfnP_len
theorem rnd_fb (hn : 1 ≤ n) : ∀ (i : Nat), FB n (atP (rnd t n i))
  | 0 => fun v h0 h1 => by
    unfold atP rnd
    rw [List.getElem?_replicate, if_pos (by omega)]
    simp; omega
  | i + 1 => fun v h0 h1 => by
    have hl := rnd_len (t := t) (n := n) (i + 1)
    obtain ⟨x, hx⟩ := get_lt (xs := rnd t n (i + 1)) (k := v.toNat) (by omega)
    have := nrm_rg1 (l := firsts (tab n (keyP t n (atP (rnd t n i))))) hx
    rw [firsts_len, tab_len] at this
    unfold atP
    rw [hx]
    exact this
theorem rnd_tab (i : Nat) : tab n (atP (rnd t n i)) = rnd t n i := tab_atP (rnd_len i)
theorem rnd_impl (V : VL t n) (i : Nat) : Ev (fun m => impl_Lts_refine_m m t (rnd t n i)) (rnd t n (i + 1)) := by
  have := refine_impl V (rnd_fb (t := t) V.pos i)
  rwa [rnd_tab] at this

/-- Items in one block after a round were in one before. -/
theorem rfn_finer {f : Int → Int} {j k : Nat} (hj : j < n) (hk : k < n) (h : (rfnP t n f)[j]? = (rfnP t n f)[k]?) : f (j : Int) = f (k : Int) := by
  obtain ⟨u, hu⟩ := get_lt (xs := rfnP t n f) (k := j) (by rw [rfnP_len]; exact hj)
  obtain ⟨v, hv⟩ := get_lt (xs := rfnP t n f) (k := k) (by rw [rfnP_len]; exact hk)
  have hkl : (tab n (keyP t n f)).length = n := tab_len n _
  have huv : u = v := by rw [hu, hv] at h; exact Option.some.inj h
  have h1 := (nrm_same (firsts_get (keys := tab n (keyP t n f)) (k := j) (by omega)) (firsts_get (k := k) (by omega)) hu hv).1 huv
  have h2 := (fst1_eq (keys := tab n (keyP t n f)) (j := j) (k := k) (by omega) (by omega)).1 h1
  rw [tab_get hj, tab_get hk] at h2
  have h3 := Option.some.inj h2
  unfold keyP at h3
  simp at h3
  exact h3.1
/-- Equal items of a list. -/
def eqs (n : Nat) (l : List Int) : Nat := ((List.range n).flatMap fun j => (List.range n).map fun k => (j, k)).countP fun p => decide (l[p.1]? = l[p.2]?)
theorem countP_lt {α : Type} {p q : α → Bool} : ∀ (l : List α), (∀ x ∈ l, q x = true → p x = true) → l.countP q ≤ l.countP p ∧ (l.countP q = l.countP p → ∀ x ∈ l, p x = q x)
  | [], _ => ⟨Nat.le_refl _, fun _ x hx => by cases hx⟩
  | x :: l, h => by
    obtain ⟨h1, h2⟩ := countP_lt l (fun y hy => h y (List.mem_cons_of_mem _ hy))
    have hx := h x (List.mem_cons_self ..)
    rw [List.countP_cons, List.countP_cons]
    cases hp : p x <;> cases hq : q x
    · refine ⟨by simpa using h1, fun e y hy => ?_⟩
      rcases List.mem_cons.1 hy with rfl | hy
      · rw [hp, hq]
      · exact h2 (by simpa using e) y hy
    · rw [hq] at hx; rw [hp] at hx; simp at hx
    · refine ⟨by simp; omega, fun e y hy => ?_⟩
      simp at e
      omega
    · refine ⟨by simpa using h1, fun e y hy => ?_⟩
      rcases List.mem_cons.1 hy with rfl | hy
      · rw [hp, hq]
      · exact h2 (by simpa using e) y hy
theorem rnd_same (i : Nat) {j k : Nat} (hj : j < n) (hk : k < n) (h : (rnd t n (i + 1))[j]? = (rnd t n (i + 1))[k]?) : (rnd t n i)[j]? = (rnd t n i)[k]? := by
  have h1 := rfn_finer hj hk h
  have hl := rnd_len (t := t) (n := n) i
  unfold atP at h1
  rw [Int.toNat_natCast, Int.toNat_natCast] at h1
  rw [List.getElem?_eq_getElem (by omega), List.getElem?_eq_getElem (by omega)] at h1 ⊢
  simpa using h1
theorem nrm_idem (l : List Int) : nrm [] (nrm [] l) = nrm [] l := (nrm_congr (nrm [] l) l (nrm_len _ _) fun _j _k _a _b _a' _b' h1 h2 h3 h4 => nrm_same h3 h4 h1 h2).1
theorem rnd_norm : ∀ (i : Nat), nrm [] (rnd t n i) = rnd t n i
  | 0 => by
    have key : ∀ m, nrm [((0 : Int), (0 : Int))] (List.replicate m 0) = List.replicate m 0 := by
      intro m
      induction m with
      | zero => rfl
      | succ m ih => rw [List.replicate_succ]; simp [nrm, dic, mget, ih]
    cases n with
    | zero => rfl
    | succ m =>
      show nrm [] (List.replicate (m + 1) 0) = _
      rw [List.replicate_succ]
      simp [nrm, dic, mget, mset, key, rnd, List.replicate_succ]
  | i + 1 => by
    show nrm [] (nrm [] (firsts _)) = nrm [] (firsts _)
    exact nrm_idem _
theorem rnd_step (i : Nat) : rnd t n (i + 1) = rnd t n i ∨ eqs n (rnd t n (i + 1)) < eqs n (rnd t n i) := by
  obtain ⟨h1, h2⟩ := countP_lt (p := fun p : Nat × Nat => decide ((rnd t n i)[p.1]? = (rnd t n i)[p.2]?)) (q := fun p : Nat × Nat => decide ((rnd t n (i + 1))[p.1]? = (rnd t n (i + 1))[p.2]?)) ((List.range n).flatMap fun j => (List.range n).map fun k => (j, k)) (fun x hx hq => by
    obtain ⟨j, hj, hx⟩ := List.mem_flatMap.1 hx
    obtain ⟨k, hk, rfl⟩ := List.mem_map.1 hx
    exact decide_eq_true (rnd_same i (List.mem_range.1 hj) (List.mem_range.1 hk) (of_decide_eq_true hq)))
  by_cases he : eqs n (rnd t n (i + 1)) = eqs n (rnd t n i)
  · left
    have h3 := h2 he
    have hl := rnd_len (t := t) (n := n) i
    have hl' := rnd_len (t := t) (n := n) (i + 1)
    have h4 := (nrm_congr (rnd t n (i + 1)) (rnd t n i) (by rw [hl, hl']) fun j k a b a' b' q1 q2 q3 q4 => by
      have hj := (List.getElem?_eq_some_iff.1 q1).1
      have hk := (List.getElem?_eq_some_iff.1 q2).1
      have := h3 (j, k) (List.mem_flatMap.2 ⟨j, List.mem_range.2 (by omega), List.mem_map.2 ⟨k, List.mem_range.2 (by omega), rfl⟩⟩)
      simp only [q1, q2, q3, q4] at this
      have h5 := decide_eq_decide.1 this
      constructor
      · intro e
        exact Option.some.inj (h5.2 (by rw [e]))
      · intro e
        exact Option.some.inj (h5.1 (by rw [e]))).1
    rw [rnd_norm, rnd_norm] at h4
    exact h4
  · right
    have : eqs n (rnd t n (i + 1)) ≤ eqs n (rnd t n i) := h1
    omega
theorem eqs_le {l : List Int} : eqs n l ≤ n * n := by
  have h1 := List.countP_le_length (p := fun p : Nat × Nat => decide (l[p.1]? = l[p.2]?)) (l := (List.range n).flatMap fun j => (List.range n).map fun k => (j, k))
  have h2 : ∀ m, ((List.range m).flatMap fun j => (List.range n).map fun k => (j, k)).length = m * n := by
    intro m
    induction m with
    | zero => simp
    | succ m ih =>
      rw [List.range_succ, List.flatMap_append, List.length_append, ih, Nat.add_mul]
      simp
  rw [h2 n] at h1
  unfold eqs
  omega
/-- The first round that stays. -/
theorem rnd_last (t : Timpl_Lts) (n : Nat) : ∃ N, rnd t n (N + 1) = rnd t n N ∧ (∀ i, i < N → rnd t n (i + 1) ≠ rnd t n i) ∧ N ≤ n * n := by
  have key : ∀ d i, eqs n (rnd t n i) + i ≤ n * n → eqs n (rnd t n i) ≤ d → (∀ j, j < i → rnd t n (j + 1) ≠ rnd t n j) → ∃ N, rnd t n (N + 1) = rnd t n N ∧ (∀ i, i < N → rnd t n (i + 1) ≠ rnd t n i) ∧ N ≤ n * n := by
    intro d
    induction d with
    | zero =>
      intro i h1 h2 h3
      rcases rnd_step (t := t) (n := n) i with h | h
      · exact ⟨i, h, h3, by omega⟩
      · omega
    | succ d ih =>
      intro i h1 h2 h3
      by_cases hs : rnd t n (i + 1) = rnd t n i
      · exact ⟨i, hs, h3, by omega⟩
      · rcases rnd_step (t := t) (n := n) i with h | h
        · exact absurd h hs
        · refine ih (i + 1) (by omega) (by omega) fun j hj => ?_
          by_cases e : j = i
          · rw [e]; exact hs
          · exact h3 j (by omega)
  have := eqs_le (n := n) (l := rnd t n 0)
  exact key _ 0 (by omega) (Nat.le_refl _) (fun j hj => by omega)
end

section
variable {t : Timpl_Lts} {n N : Nat}
theorem rounds_impl (V : VL t n) (h1 : rnd t n (N + 1) = rnd t n N) (h2 : ∀ i, i < N → rnd t n (i + 1) ≠ rnd t n i) (hN : N ≤ n * n) :
    Ev (fun m => impl_rounds_m m t.1 (fun z0 => impl_Lts_refine_m m t z0)) ((List.range (N + 1)).map (rnd t n)) := by
  have htop := V.top
  have hmx := mx
  have hnn : n * n ≤ 40 * 40 := Nat.mul_le_mul htop htop
  unfold impl_rounds_m
  refine Ev.bind (a := rnd t n 0) ?_ (Ev.bind (a := Sum.inr ((List.range (N + 1)).map (rnd t n))) (EvI.ev ?_) (Ev.const rfl))
  · unfold impl_single_m
    rw [V.st]
    exact Ev.bindc (mks_ok (n := n) (by omega)) (Ev.pure _)
  · have key : ∀ d i, i + d = N → EvI (fun m (s : List (List Int)) => (match s with | (xs75) => (idx xs75 (W ((xs75.length : Int) - (1 : Int)))).bind fun x118 => (impl_Lts_refine_m m t x118).bind fun x129 => (slices_Equal__int64_int64_m m x118 x129).bind fun x136 => (if x136 = true then some (.inr (.inr xs75)) else (app xs75 [x129]).bind fun x143 => some (.inl (x143))) : Option ((List (List Int)) ⊕ (Empty ⊕ (List (List Int)))))) ((List.range (i + 1)).map (rnd t n)) (.inr ((List.range (N + 1)).map (rnd t n))) := by
      intro d
      induction d with
      | zero =>
        intro i hi
        obtain rfl : i = N := by omega
        refine EvI.stop (Ev.bindc (a := rnd t n i) ?_ (Ev.bind (rnd_impl V i) (Ev.bind (equal_ints (by rw [rnd_len]; omega)) (Ev.ite_t (decide_eq_true h1.symm) (Ev.pure _)))))
        rw [List.length_map, List.length_range, W_of (by omega) (by omega), show (((i + 1 : Nat) : Int) - 1) = ((i : Nat) : Int) by omega]
        exact idx_at (by simp)
      | succ d ih =>
        intro i hi
        refine EvI.go (Ev.bindc (a := rnd t n i) ?_ (Ev.bind (rnd_impl V i) (Ev.bind (equal_ints (by rw [rnd_len]; omega)) (Ev.ite_f ?_ (Ev.bindc (app_ok (by simp; omega)) (Ev.const ?_)))))) (ih (i + 1) (by omega))
        · rw [List.length_map, List.length_range, W_of (by omega) (by omega), show (((i + 1 : Nat) : Int) - 1) = ((i : Nat) : Int) by omega]
          exact idx_at (by simp)
        · simpa using fun e => h2 i (by omega) e.symm
        · rw [List.range_succ (n := i + 1), List.map_append]; rfl
    have := key N 0 (by omega)
    exact this
end
/-! ### the normal form of a partition, in the reference -/
theorem norm_spec {l : List Int} (hl : l.length ≤ 1048576) : Ev (fun m => spec_l02Norm_m m l) (nrm [] l) := by
  unfold spec_l02Norm_m
  refine Ev.bindc (mks_ok (n := l.length) (by omega)) (Ev.bind (a := Sum.inl (nrm [] l)) (EvI.upto l.length (fun k (_ : Unit) => (nrm [] (l.take k) ++ List.replicate (l.length - k) 0, ((nrmD [] (l.take k)).length : Int), (k : Int))) (fun _ _ => True) (k := 0) (t := ()) (by simp [nrm, nrmD]) (Nat.zero_le _) trivial (fun k _ hk _ => ⟨(), ?_, trivial⟩) (fun _ _ => Ev.ite_f (by simp) (Ev.eq (Ev.pure _) (by rw [List.take_length, Nat.sub_self]; simp)))).ev (Ev.const rfl))
  obtain ⟨x, hx⟩ := get_lt hk
  have hnl : (nrm [] (l.take k)).length = k := by rw [nrm_len, List.length_take]; omega
  have hdl := nrmD_len (l.take k)
  rw [List.length_take] at hdl
  have htk : l.take (k + 1) = l.take k ++ [x] := by rw [List.take_add_one, hx]; rfl
  have hset : ∀ y : Int, (nrm [] (l.take k) ++ List.replicate (l.length - k) (0 : Int)).set k y = nrm [] (l.take k) ++ [y] ++ List.replicate (l.length - (k + 1)) 0 := by
    intro y
    obtain ⟨d, hd⟩ : ∃ d, l.length - k = d + 1 := ⟨l.length - k - 1, by omega⟩
    rw [hd, show l.length - (k + 1) = d by omega, List.replicate_succ, List.set_append_right _ _ (by omega), hnl, Nat.sub_self]
    simp
  have hidx : idx (nrm [] (l.take k) ++ List.replicate (l.length - k) (0 : Int)) (k : Int) = some 0 := idx_at (by
    rw [List.getElem?_append_right (by omega), hnl, Nat.sub_self, List.getElem?_replicate, if_pos (by omega)])
  refine Ev.ite_t (decide_eq_true (by omega)) (Ev.join ?_)
  refine Exists.elim (EvI.count (β := Int ⊕ List Int) (step := _) k (fun j (_ : Unit) => (j : Int)) (fun j _ => ∀ i, i < j → l[i]? ≠ some x) (fun b => (b = .inl (-1) ∧ ∀ i, i < k → l[i]? ≠ some x) ∨ ∃ j, j < k ∧ b = .inl ((j : Nat) : Int) ∧ l[j]? = some x) (fun j _ hj hI => ?_) (fun _ hI => ⟨_, Ev.ite_f (by simp) (Ev.pure _), .inl ⟨rfl, hI⟩⟩) (k := 0) (t := ()) (Nat.zero_le _) (fun i hi => by omega)) (fun res ⟨h1, h2⟩ => Ev.bind h1.ev ?_)
  · obtain ⟨y, hy⟩ := get_lt (xs := l) (k := j) (by omega)
    by_cases e : y = x
    · exact .inr ⟨_, Ev.ite_t (decide_eq_true (by omega)) (Ev.bindc (idx_at hy) (Ev.bindc (idx_at hx) (Ev.ite_t (by simpa using e) (Ev.pure _)))), .inr ⟨j, hj, rfl, by rw [hy, e]⟩⟩
    · refine .inl ⟨(), Ev.ite_t (decide_eq_true (by omega)) (Ev.bindc (idx_at hy) (Ev.bindc (idx_at hx) (Ev.ite_f (by simpa using e) (Ev.const (by rw [W_succ hj (by omega)]))))), fun i hi => ?_⟩
      by_cases ei : i = j
      · rw [ei, hy]; intro h; exact e (Option.some.inj h)
      · exact hI i (by omega)
  · rcases h2 with ⟨rfl, hn⟩ | ⟨j, hj, rfl, hjx⟩
    · have hm : mget (nrmD [] (l.take k)) x = none := nrm_none _ _ (fun hm => by
        obtain ⟨i, hi⟩ := List.mem_iff_getElem?.1 hm
        rw [List.getElem?_take] at hi
        split at hi
        · rename_i hik
          exact hn i hik hi
        · cases hi)
      obtain ⟨e1, e2⟩ := nrm_one hm
      simp only [ctl]
      refine Ev.ite_f (by simp) (Ev.bindc hidx (Ev.const ?_))
      rw [Int.toNat_natCast, hset, htk, e1, e2, List.length_append, W_succ hk (by omega), W_of (by omega) (by omega)]
      rfl
    · have ho := nrm_at (l.take k) j x (by rw [List.getElem?_take, if_pos hj]; exact hjx)
      obtain ⟨o, hoj⟩ := get_lt (xs := nrm [] (l.take k)) (k := j) (by omega)
      rw [hoj] at ho
      obtain ⟨e1, e2⟩ := nrm_old ho.symm
      simp only [ctl]
      refine Ev.ite_t (by simp) (Ev.bindc (idx_at (by rw [List.getElem?_append_left (by omega)]; exact hoj)) (Ev.bindc hidx (Ev.const ?_)))
      rw [Int.toNat_natCast, hset, htk, e1, e2, W_succ hk (by omega)]

section
variable {t : Timpl_Lts} {n : Nat} {f : Int → Int}
/-- Each edge from u has one from v with the same label, to the same block. -/
def cvP (t : Timpl_Lts) (f : Int → Int) (u v : Int) : Bool := t.2.2.2.all fun e => (e.1 != u) || t.2.2.2.any fun d => (d.1 == v) && ((d.2.1 == e.2.1) && (f d.2.2 == f e.2.2))
theorem cvP_iff {u v : Int} : cvP t f u v = true ↔ ∀ e ∈ t.2.2.2, e.1 = u → ∃ d ∈ t.2.2.2, d.1 = v ∧ d.2.1 = e.2.1 ∧ f d.2.2 = f e.2.2 := by
  unfold cvP
  simp only [List.all_eq_true, Bool.or_eq_true, bne_iff_ne, List.any_eq_true, Bool.and_eq_true, beq_iff_eq]
  constructor
  · intro h e he hu
    rcases h e he with h | ⟨d, hd, h1, h2, h3⟩
    · exact absurd hu h
    · exact ⟨d, hd, h1, h2, h3⟩
  · intro h e he
    by_cases hu : e.1 = u
    · obtain ⟨d, hd, h1, h2, h3⟩ := h e he hu
      exact .inr ⟨d, hd, h1, h2, h3⟩
    · exact .inl hu
theorem num_inj (hf : FB n f) {e d : Timpl_Edge} (he : 0 ≤ e.2.2 ∧ e.2.2 < (n : Int)) (hd : 0 ≤ d.2.2 ∧ d.2.2 < (n : Int)) (h : numE n f e = numE n f d) : e.2.1 = d.2.1 ∧ f e.2.2 = f d.2.2 := by
  have h1 := hf _ he.1 he.2
  have h2 := hf _ hd.1 hd.2
  unfold numE at h
  have key : ∀ a b : Int, a < b → a * (n : Int) + (n : Int) ≤ b * (n : Int) := by
    intro a b hab
    have := Int.mul_le_mul_of_nonneg_right (show a + 1 ≤ b by omega) (show (0 : Int) ≤ (n : Int) by omega)
    rw [Int.add_mul, Int.one_mul] at this
    exact this
  by_cases e1 : e.2.1 = d.2.1
  · rw [e1] at h
    exact ⟨e1, by omega⟩
  · exfalso
    by_cases e2 : e.2.1 < d.2.1
    · have := key _ _ e2; omega
    · have := key d.2.1 e.2.1 (by omega); omega
theorem mem_sgU {x k : Int} : x ∈ sgU t n f k ↔ ∃ e ∈ t.2.2.2, e.1 = k ∧ numE n f e = x := by
  unfold sgU
  rw [(compact_inc (srt_le _)).2, mem_srt]
  unfold sgL
  rw [List.take_length, List.mem_map]
  constructor
  · rintro ⟨e, he, rfl⟩
    obtain ⟨h1, h2⟩ := List.mem_filter.1 he
    exact ⟨e, h1, by simpa using h2, rfl⟩
  · rintro ⟨e, he, h1, rfl⟩
    exact ⟨e, List.mem_filter.2 ⟨he, by simpa using h1⟩, rfl⟩
theorem sgU_iff (V : VL t n) (hf : FB n f) {u v : Int} : sgU t n f u = sgU t n f v ↔ cvP t f u v = true ∧ cvP t f v u = true := by
  have one : ∀ {u v : Int}, (∀ x, x ∈ sgU t n f u → x ∈ sgU t n f v) ↔ cvP t f u v = true := by
    intro u v
    rw [cvP_iff]
    constructor
    · intro h e he hu
      obtain ⟨d, hd, h1, h2⟩ := mem_sgU.1 (h _ (mem_sgU.2 ⟨e, he, hu, rfl⟩))
      obtain ⟨h3, h4⟩ := num_inj hf (V.dst d hd) (V.dst e he) h2
      exact ⟨d, hd, h1, h3, h4⟩
    · intro h x hx
      obtain ⟨e, he, h1, rfl⟩ := mem_sgU.1 hx
      obtain ⟨d, hd, h2, h3, h4⟩ := h e he h1
      exact mem_sgU.2 ⟨d, hd, h2, by unfold numE; rw [h3, h4]⟩
  constructor
  · intro h
    exact ⟨one.1 fun x hx => h ▸ hx, one.1 fun x hx => h ▸ hx⟩
  · rintro ⟨h1, h2⟩
    refine inc_ext (compact_inc (srt_le _)).1 (compact_inc (srt_le _)).1 fun x => ⟨one.2 h1 x, one.2 h2 x⟩

def cvE (t : Timpl_Lts) (f : Int → Int) (u v : Int) (e : Timpl_Edge) : Bool := (e.1 != u) || t.2.2.2.any fun d => (d.1 == v) && ((d.2.1 == e.2.1) && (f d.2.2 == f e.2.2))
def cvK (t : Timpl_Lts) (f : Int → Int) (u v : Int) (k : Nat) : Bool := match t.2.2.2[k]? with
  | none => true
  | some e => cvE t f u v e
theorem cov_any (V : VL t n) {v : Int} {i : Nat} {e : Timpl_Edge} (he : t.2.2.2[i]? = some e) {τ : Type} {k ret : Bool → Option τ} {r : τ} (hk : k (t.2.2.2.any fun d => (d.1 == v) && ((d.2.1 == e.2.1) && (f d.2.2 == f e.2.2))) = some r) :
    Ev (fun fuel => (iter (fun (s : (Bool) × (Int)) => (match s with | (x755, x756) => (if (decide (x756 < (t.2.2.2.length : Int))) = true then some (!x755) else some false).bind fun t856 => (if t856 = true then (idx t.2.2.2 x756).bind fun x862 => (if (x862.1 == v) = true then (idx t.2.2.2 x756).bind fun x878 => (idx t.2.2.2 (i : Int)).bind fun x891 => some (x878.2.1 == x891.2.1) else some false).bind fun t875 => (if t875 = true then (idx t.2.2.2 x756).bind fun x907 => (idx (tab n f) x907.2.2).bind fun x920 => (idx t.2.2.2 (i : Int)).bind fun x925 => (idx (tab n f) x925.2.2).bind fun x938 => some (x920 == x938) else some false).bind fun t904 => some (.inl (t904, (W (x756 + (1 : Int))))) else some (.inr (.inl (x755)))) : Option (((Bool) × (Int)) ⊕ ((Bool) ⊕ (Bool))))) fuel (false, (0 : Int))).bind fun res847 => ctl (β := Bool) (ρ := Bool) (τ := τ) res847 k ret) r := by
  have hmx := mx
  have hfew := V.few
  have hes := V.dst e (List.mem_of_getElem? he)
  refine Ev.bind (a := Sum.inl (t.2.2.2.any fun d => (d.1 == v) && ((d.2.1 == e.2.1) && (f d.2.2 == f e.2.2)))) ?_ (Ev.const (by simp only [ctl]; exact hk))
  refine Exists.elim (EvI.count (β := Bool ⊕ Bool) (step := _) t.2.2.2.length (fun k (b : Bool) => (b, (k : Int))) (fun k b => b = (t.2.2.2.take k).any fun d => (d.1 == v) && ((d.2.1 == e.2.1) && (f d.2.2 == f e.2.2))) (fun b => b = .inl (t.2.2.2.any fun d => (d.1 == v) && ((d.2.1 == e.2.1) && (f d.2.2 == f e.2.2)))) (fun q b hq hI => ?_) (fun b hI => ⟨_, Ev.bindc (a := false) (by rw [if_neg (by simp)]) (Ev.ite_f (by simp) (Ev.pure _)), by rw [hI, List.take_length]⟩) (k := 0) (t := false) (Nat.zero_le _) (by simp)) (fun res ⟨h1, h2⟩ => Ev.eq h1.ev h2)
  cases b
  · left
    obtain ⟨d, hd⟩ := get_lt hq
    have hds := V.dst d (List.mem_of_getElem? hd)
    refine ⟨(d.1 == v) && ((d.2.1 == e.2.1) && (f d.2.2 == f e.2.2)), Ev.bindc (a := true) (by rw [if_pos (decide_eq_true (by omega))]; rfl) (Ev.ite_t rfl (Ev.bindc (idx_at hd) (Ev.const ?_))), ?_⟩
    · rw [W_succ hq (by omega)]
      simp only [idx_at hd, idx_at he, Option.bind_some, tab_at hds.1 hds.2, tab_at hes.1 hes.2]
      cases (d.1 == v) <;> cases (d.2.1 == e.2.1) <;> simp
    · rw [List.take_add_one, hd, List.any_append, ← hI]
      simp
  · right
    refine ⟨_, Ev.bindc (a := false) (by rw [if_pos (decide_eq_true (by omega))]; rfl) (Ev.ite_f (by simp) (Ev.pure _)), ?_⟩
    congr 1
    have := hI.symm
    rw [List.any_eq_true] at this
    obtain ⟨d, hd, h1⟩ := this
    exact (List.any_eq_true.2 ⟨d, List.mem_of_mem_take hd, h1⟩).symm
theorem covers_spec (V : VL t n) {u v : Int} : Ev (fun m => spec_l14Covers_m m t (tab n f) u v) (cvP t f u v) := by
  have hmx := mx
  have hfew := V.few
  unfold spec_l14Covers_m
  refine Ev.eq (Ev.all t.2.2.2.length (cvK t f u v) false true (fun k hk ho => ?_) (fun k hk ho => ?_) (Ev.ite_f (by simp) (Ev.pure _))) ?_
  · obtain ⟨e, he⟩ := get_lt hk
    unfold cvK at ho
    simp only [he] at ho
    unfold cvE at ho
    refine Ev.ite_t (decide_eq_true (by omega)) (Ev.join (Ev.bindc (idx_at he) ?_))
    by_cases hu : e.1 = u
    · rw [show (e.1 != u) = false from by simpa using hu, Bool.false_or] at ho
      refine Ev.ite_f (by simpa using hu) (cov_any V he ?_)
      rw [ho, if_neg (by simp), W_succ hk (by omega)]
    · exact Ev.ite_t (by simpa using hu) (Ev.const (by rw [W_succ hk (by omega)]))
  · obtain ⟨e, he⟩ := get_lt hk
    unfold cvK at ho
    simp only [he] at ho
    unfold cvE at ho
    refine Ev.ite_t (decide_eq_true (by omega)) (Ev.join (Ev.bindc (idx_at he) ?_))
    by_cases hu : e.1 = u
    · rw [show (e.1 != u) = false from by simpa using hu, Bool.false_or] at ho
      refine Ev.ite_f (by simpa using hu) (cov_any V he ?_)
      rw [ho, if_pos (by simp)]
    · rw [show (e.1 != u) = true from by simpa using hu] at ho
      simp at ho
  · rw [all_list (ok := cvE t f u v) (fun k => by unfold cvK; cases t.2.2.2[k]? <;> rfl)]
    show (if t.2.2.2.all (cvE t f u v) = true then true else false) = t.2.2.2.all (cvE t f u v)
    cases t.2.2.2.all (cvE t f u v) <;> rfl

theorem fst1_first {keys : List (List Int)} {k : Nat} (hk : k < keys.length) (h : ∀ i, i < k → keys[i]? ≠ keys[k]?) : fst1 keys k = k := by
  have h1 := fst1_le hk
  have h2 := (fst1_at hk).1
  by_cases e : fst1 keys k = k
  · exact e
  · exact absurd h2 (h _ (by omega))

theorem next_spec (V : VL t n) (hf : FB n f) : Ev (fun m => spec_l14Next_m m t (tab n f)) (nrm [] (firsts (tab n (sgU t n f)))) := by
  have htop := V.top
  have hmx := mx
  have hkl : (tab n (sgU t n f)).length = n := tab_len n _
  have hfl : (firsts (tab n (sgU t n f))).length = n := by rw [firsts_len, hkl]
  have hkey : ∀ i, i < n → (tab n (sgU t n f))[i]? = some (sgU t n f (i : Int)) := fun i hi => tab_get hi
  unfold spec_l14Next_m
  rw [V.st]
  refine Ev.bindc (mks_ok (n := n) (by omega)) (Ev.bind (a := Sum.inl (firsts (tab n (sgU t n f)))) (EvI.upto n (fun k (_ : Unit) => ((firsts (tab n (sgU t n f))).take k ++ List.replicate (n - k) 0, (k : Int))) (fun _ _ => True) (k := 0) (t := ()) (by simp) (Nat.zero_le _) trivial (fun k _ hk _ => ⟨(), ?_, trivial⟩) (fun _ _ => Ev.ite_f (by simp) (Ev.eq (Ev.pure _) (by rw [List.take_of_length_le (by omega), Nat.sub_self]; simp)))).ev (Ev.bind (norm_spec (by rw [hfl]; omega)) (Ev.pure _)))
  have hnl : ((firsts (tab n (sgU t n f))).take k).length = k := by rw [List.length_take]; omega
  have hx := firsts_get (keys := tab n (sgU t n f)) (k := k) (by omega)
  have hset : ∀ y : Int, ((firsts (tab n (sgU t n f))).take k ++ List.replicate (n - k) (0 : Int)).set k y = (firsts (tab n (sgU t n f))).take k ++ [y] ++ List.replicate (n - (k + 1)) 0 := by
    intro y
    obtain ⟨d, hd⟩ : ∃ d, n - k = d + 1 := ⟨n - k - 1, by omega⟩
    rw [hd, show n - (k + 1) = d by omega, List.replicate_succ, List.set_append_right _ _ (by omega), hnl, Nat.sub_self]
    simp
  have hidx : ∀ y : Int, idx (((firsts (tab n (sgU t n f))).take k ++ List.replicate (n - k) (0 : Int)).set k y) (k : Int) = some y := fun y => idx_set (by rw [List.length_append, hnl, List.length_replicate]; omega)
  have hidx0 : idx ((firsts (tab n (sgU t n f))).take k ++ List.replicate (n - k) (0 : Int)) (k : Int) = some 0 := idx_at (by
    rw [List.getElem?_append_right (by omega), hnl, Nat.sub_self, List.getElem?_replicate, if_pos (by omega)])
  have hnext : (firsts (tab n (sgU t n f))).take (k + 1) = (firsts (tab n (sgU t n f))).take k ++ [((fst1 (tab n (sgU t n f)) k : Nat) : Int)] := by rw [List.take_add_one, hx]; rfl
  refine Ev.ite_t (decide_eq_true (by omega)) (Ev.bindc hidx0 ?_)
  refine Ev.bind (a := Sum.inl ((firsts (tab n (sgU t n f))).take (k + 1) ++ List.replicate (n - (k + 1)) 0)) ?_ (Ev.const (by rw [W_succ hk (by omega)]; rfl))
  refine Exists.elim (EvI.count (β := List Int ⊕ List Int) (step := _) k (fun j (_ : Unit) => (j : Int)) (fun j _ => ∀ i, i < j → sgU t n f (i : Int) ≠ sgU t n f (k : Int)) (fun b => b = .inl ((firsts (tab n (sgU t n f))).take (k + 1) ++ List.replicate (n - (k + 1)) 0)) (fun j _ hj hI => ?_) (fun _ hI => ⟨_, Ev.ite_f (by simp) (Ev.pure _), ?_⟩) (k := 0) (t := ()) (Nat.zero_le _) (fun i hi => by omega)) (fun res ⟨h1, h2⟩ => Ev.eq h1.ev h2)
  · have hc1 := covers_spec V (f := f) (u := (k : Int)) (v := (j : Int))
    have hc2 := covers_spec V (f := f) (u := (j : Int)) (v := (k : Int))
    have hiff := sgU_iff V hf (u := (k : Int)) (v := (j : Int))
    by_cases e : sgU t n f (k : Int) = sgU t n f (j : Int)
    · right
      obtain ⟨c1, c2⟩ := hiff.1 e
      rw [c1] at hc1
      rw [c2] at hc2
      have hjf : fst1 (tab n (sgU t n f)) j = j := fst1_first (by omega) fun i hi h => by
        rw [hkey i (by omega), hkey j (by omega)] at h
        exact hI i hi ((Option.some.inj h).trans e.symm)
      have hkf : ((fst1 (tab n (sgU t n f)) k : Nat) : Int) = (fst1 (tab n (sgU t n f)) j : Int) := (fst1_eq (by omega) (by omega)).2 (by rw [hkey k hk, hkey j (by omega), e])
      refine ⟨_, Ev.ite_t (decide_eq_true (by omega)) (Ev.bind hc1 (Ev.bind (a := true) (Ev.ite_t rfl (Ev.bind hc2 (Ev.pure _))) (Ev.ite_t rfl (Ev.bindc (a := ((fst1 (tab n (sgU t n f)) j : Nat) : Int)) ?_ (Ev.bindc (hidx _) (Ev.const rfl)))))), ?_⟩
      · refine idx_at ?_
        rw [Int.toNat_natCast, List.getElem?_set_ne (by omega), List.getElem?_append_left (by omega), List.getElem?_take, if_pos hj]
        exact firsts_get (by omega)
      · rw [Int.toNat_natCast, List.set_set, hset, hnext, hkf]
    · left
      have hb : (cvP t f (k : Int) (j : Int) && cvP t f (j : Int) (k : Int)) = false := by
        cases c1 : cvP t f (k : Int) (j : Int)
        · rfl
        · cases c2 : cvP t f (j : Int) (k : Int)
          · rfl
          · exact absurd (hiff.2 ⟨c1, c2⟩) e
      refine ⟨(), Ev.ite_t (decide_eq_true (by omega)) (Ev.bind hc1 (Ev.bind (a := false) ?_ (Ev.ite_f (by simp) (Ev.const (by rw [W_succ hj (by omega)]))))), fun i hi => ?_⟩
      · cases c1 : cvP t f (k : Int) (j : Int)
        · exact Ev.ite_f (by simp) (Ev.pure _)
        · rw [c1, Bool.true_and] at hb
          rw [hb] at hc2
          exact Ev.ite_t rfl (Ev.bind hc2 (Ev.pure _))
      · by_cases ei : i = j
        · rw [ei]; exact fun h => e h.symm
        · exact hI i (by omega)
  · have hkf : fst1 (tab n (sgU t n f)) k = k := fst1_first (by omega) fun i hi h => by
      rw [hkey i (by omega), hkey k hk] at h
      exact hI i hi (Option.some.inj h)
    rw [Int.toNat_natCast, hset, hnext, hkf]

theorem rnd_iff (_V : VL t n) (i : Nat) {j k : Nat} (hj : j < n) (hk : k < n) : (rnd t n (i + 1))[j]? = (rnd t n (i + 1))[k]? ↔ keyP t n (atP (rnd t n i)) (j : Int) = keyP t n (atP (rnd t n i)) (k : Int) := by
  have hkl : (tab n (keyP t n (atP (rnd t n i)))).length = n := tab_len n _
  obtain ⟨u, hu⟩ := get_lt (xs := rnd t n (i + 1)) (k := j) (by rw [rnd_len]; exact hj)
  obtain ⟨v, hv⟩ := get_lt (xs := rnd t n (i + 1)) (k := k) (by rw [rnd_len]; exact hk)
  have h1 := nrm_same (firsts_get (keys := tab n (keyP t n (atP (rnd t n i)))) (k := j) (by omega)) (firsts_get (k := k) (by omega)) hu hv
  have h2 := fst1_eq (keys := tab n (keyP t n (atP (rnd t n i)))) (j := j) (k := k) (by omega) (by omega)
  rw [tab_get hj, tab_get hk] at h2
  rw [hu, hv]
  constructor
  · intro e
    exact Option.some.inj (h2.1 (h1.1 (Option.some.inj e)))
  · intro e
    rw [h1.2 (h2.2 (by rw [e]))]
theorem at_eq (i : Nat) {j k : Nat} (hj : j < n) (hk : k < n) : atP (rnd t n i) (j : Int) = atP (rnd t n i) (k : Int) ↔ (rnd t n i)[j]? = (rnd t n i)[k]? := by
  have hl := rnd_len (t := t) (n := n) i
  unfold atP
  rw [Int.toNat_natCast, Int.toNat_natCast, List.getElem?_eq_getElem (by omega), List.getElem?_eq_getElem (by omega)]
  simp
/-- Equal signatures: equal already before. -/
theorem sig_same (V : VL t n) : ∀ (i : Nat) {j k : Nat}, j < n → k < n → sgU t n (atP (rnd t n i)) (j : Int) = sgU t n (atP (rnd t n i)) (k : Int) → atP (rnd t n i) (j : Int) = atP (rnd t n i) (k : Int)
  | 0, j, k, hj, hk, _ => by
    rw [at_eq 0 hj hk]
    unfold rnd
    rw [List.getElem?_replicate, List.getElem?_replicate, if_pos hj, if_pos hk]
  | i + 1, j, k, hj, hk, h => by
    have hf := rnd_fb (t := t) V.pos i
    have hf' := rnd_fb (t := t) V.pos (i + 1)
    rw [at_eq (i + 1) hj hk, rnd_iff V i hj hk]
    obtain ⟨h1, h2⟩ := (sgU_iff V hf').1 h
    have down : ∀ {u v : Int}, cvP t (atP (rnd t n (i + 1))) u v = true → cvP t (atP (rnd t n i)) u v = true := by
      intro u v hc
      rw [cvP_iff] at hc ⊢
      intro e he hu
      obtain ⟨d, hd, e1, e2, e3⟩ := hc e he hu
      refine ⟨d, hd, e1, e2, ?_⟩
      have r1 := V.dst e he
      have r2 := V.dst d hd
      obtain ⟨x, hx⟩ : ∃ x : Nat, d.2.2 = (x : Int) := ⟨d.2.2.toNat, by omega⟩
      obtain ⟨y, hy⟩ : ∃ y : Nat, e.2.2 = (y : Int) := ⟨e.2.2.toNat, by omega⟩
      rw [hx, hy] at e3 ⊢
      rw [hx] at r2
      rw [hy] at r1
      rw [at_eq i (by omega) (by omega)]
      exact rnd_same i (by omega) (by omega) ((at_eq (i + 1) (by omega) (by omega)).1 e3)
    have hs := (sgU_iff V hf).2 ⟨down h1, down h2⟩
    have ih := sig_same V i hj hk hs
    unfold keyP
    rw [ih, hs]
theorem level_next (V : VL t n) (i : Nat) : Ev (fun m => spec_l14Next_m m t (rnd t n i)) (rnd t n (i + 1)) := by
  have h := next_spec V (rnd_fb (t := t) V.pos i)
  rw [rnd_tab] at h
  refine h.eq ?_
  have l1 : (firsts (tab n (sgU t n (atP (rnd t n i))))).length = n := by rw [firsts_len, tab_len]
  have l2 : (firsts (tab n (keyP t n (atP (rnd t n i))))).length = n := by rw [firsts_len, tab_len]
  refine (nrm_congr _ _ (by rw [l1, l2]) fun j k a b a' b' q1 q2 q3 q4 => ?_).1
  have hj : j < n := by have := (List.getElem?_eq_some_iff.1 q1).1; omega
  have hk : k < n := by have := (List.getElem?_eq_some_iff.1 q2).1; omega
  have s1 : (tab n (sgU t n (atP (rnd t n i)))).length = n := tab_len n _
  have s2 : (tab n (keyP t n (atP (rnd t n i)))).length = n := tab_len n _
  rw [firsts_get (by omega)] at q1 q2 q3 q4
  have g1 := fst1_eq (keys := tab n (sgU t n (atP (rnd t n i)))) (j := j) (k := k) (by omega) (by omega)
  have g2 := fst1_eq (keys := tab n (keyP t n (atP (rnd t n i)))) (j := j) (k := k) (by omega) (by omega)
  rw [tab_get hj, tab_get hk] at g1 g2
  rw [← Option.some.inj q1, ← Option.some.inj q2, ← Option.some.inj q3, ← Option.some.inj q4, g1, g2]
  constructor
  · intro e
    have hs := Option.some.inj e
    have := sig_same V i hj hk hs
    unfold keyP
    rw [this, hs]
  · intro e
    have := Option.some.inj e
    unfold keyP at this
    simp at this
    rw [this.2]

/-! ### there are no more rounds than states -/
def rpP (l : List Int) (k : Nat) : Bool := decide (∀ j, j < k → l[j]? ≠ l[k]?)
theorem reps_same (i : Nat) (h : ∀ k, k < n → rpP (rnd t n i) k = rpP (rnd t n (i + 1)) k) : ∀ k, k < n → ∀ j, j < k → (rnd t n i)[j]? = (rnd t n i)[k]? → (rnd t n (i + 1))[j]? = (rnd t n (i + 1))[k]? := by
  intro k
  induction k using Nat.strongRecOn with
  | _ k ih =>
    intro hk j hj e
    have h1 := h k hk
    have h2 : rpP (rnd t n i) k = false := by
      unfold rpP
      exact decide_eq_false fun hh => hh j hj e
    rw [h2] at h1
    unfold rpP at h1
    have h3 := of_decide_eq_false h1.symm
    have h4 : ∃ q, q < k ∧ (rnd t n (i + 1))[q]? = (rnd t n (i + 1))[k]? := by
      apply Classical.byContradiction
      intro hn
      exact h3 fun q hq hh => hn ⟨q, hq, hh⟩
    obtain ⟨q, hq, hqk⟩ := h4
    have hc := rnd_same i (by omega) hk hqk
    have hjq : (rnd t n i)[j]? = (rnd t n i)[q]? := e.trans hc.symm
    by_cases e1 : j = q
    · rw [e1]; exact hqk
    · by_cases e2 : j < q
      · exact (ih q hq (by omega) j e2 hjq).trans hqk
      · exact (ih j hj (by omega) q (by omega) hjq.symm).symm.trans hqk
theorem rnd_more (i : Nat) (hne : rnd t n (i + 1) ≠ rnd t n i) : (List.range n).countP (rpP (rnd t n i)) < (List.range n).countP (rpP (rnd t n (i + 1))) := by
  obtain ⟨h1, h2⟩ := countP_lt (p := rpP (rnd t n (i + 1))) (q := rpP (rnd t n i)) (List.range n) (fun k hk hq => by
    unfold rpP at hq ⊢
    refine decide_eq_true fun j hj hh => ?_
    have hkn := List.mem_range.1 hk
    exact of_decide_eq_true hq j hj (rnd_same i (by omega) hkn hh))
  by_cases he : (List.range n).countP (rpP (rnd t n i)) = (List.range n).countP (rpP (rnd t n (i + 1)))
  · exfalso
    have h3 := reps_same (t := t) (n := n) i fun k hk => (h2 he k (List.mem_range.2 hk)).symm
    have h4 : ∀ j k, j < n → k < n → (rnd t n i)[j]? = (rnd t n i)[k]? → (rnd t n (i + 1))[j]? = (rnd t n (i + 1))[k]? := by
      intro j k hj hk e
      by_cases e1 : j = k
      · rw [e1]
      · by_cases e2 : j < k
        · exact h3 k hk j e2 e
        · exact (h3 j hj k (by omega) e.symm).symm
    rcases rnd_step (t := t) (n := n) i with h | h
    · exact hne h
    · have : eqs n (rnd t n (i + 1)) = eqs n (rnd t n i) := by
        unfold eqs
        refine List.countP_congr fun p hp => ?_
        obtain ⟨j, hj, hp⟩ := List.mem_flatMap.1 hp
        obtain ⟨k, hk, rfl⟩ := List.mem_map.1 hp
        have hj := List.mem_range.1 hj
        have hk := List.mem_range.1 hk
        simp only [decide_eq_true_eq]
        exact ⟨rnd_same i hj hk, h4 j k hj hk⟩
      omega
  · omega
theorem rnd_few {N : Nat} (hn : 1 ≤ n) (h2 : ∀ i, i < N → rnd t n (i + 1) ≠ rnd t n i) : N + 1 ≤ n := by
  have key : ∀ i, i ≤ N → i + 1 ≤ (List.range n).countP (rpP (rnd t n i)) := by
    intro i
    induction i with
    | zero =>
      intro _
      have : 0 < (List.range n).countP (rpP (rnd t n 0)) := List.countP_pos_iff.2 ⟨0, List.mem_range.2 (by omega), decide_eq_true fun j hj => by omega⟩
      omega
    | succ i ih =>
      intro hi
      have h1 := ih (by omega)
      have := rnd_more i (h2 i (by omega))
      omega
  have h1 := key N (Nat.le_refl _)
  have h3 := List.countP_le_length (p := rpP (rnd t n N)) (l := List.range n)
  rw [List.length_range] at h3
  omega
theorem levels_spec {N : Nat} (V : VL t n) (h1 : rnd t n (N + 1) = rnd t n N) (h2 : ∀ i, i < N → rnd t n (i + 1) ≠ rnd t n i) : Ev (fun m => spec_l14Levels_m m t) ((List.range (N + 1)).map (rnd t n)) := by
  have htop := V.top
  have hmx := mx
  have hfew := rnd_few V.pos h2
  unfold spec_l14Levels_m
  rw [V.st]
  refine Ev.bindc (a := rnd t n 0) (mks_ok (n := n) (by omega)) (Ev.bind (a := Sum.inl ((List.range (N + 1)).map (rnd t n))) (EvI.ev ?_) (Ev.const rfl))
  have key : ∀ d i, i + d = N → EvI (fun fuel (s : (List Int) × (List (List Int)) × (Int)) => (match s with | (xs101, xs104, x106) => (if (decide (x106 < (n : Int))) = true then (spec_l14Next_m fuel t xs101).bind fun x156 => (spec_l00Same_m fuel x156 xs101).bind fun x163 => (if x163 = true then some (.inr (.inl (xs104))) else (app xs104 [x156]).bind fun x176 => some (.inl (x156, x176, (W (x106 + (1 : Int)))))) else some (.inr (.inl (xs104)))) : Option (((List Int) × (List (List Int)) × (Int)) ⊕ (((List (List Int))) ⊕ ((List (List Int))))))) (rnd t n i, (List.range (i + 1)).map (rnd t n), (i : Int)) (Sum.inl ((List.range (N + 1)).map (rnd t n))) := by
    intro d
    induction d with
    | zero =>
      intro i hi
      obtain rfl : i = N := by omega
      exact EvI.stop (Ev.ite_t (decide_eq_true (by omega)) (Ev.bind (level_next V i) (Ev.bind (same_ints (by rw [rnd_len]; omega)) (Ev.ite_t (decide_eq_true h1) (Ev.pure _)))))
    | succ d ih =>
      intro i hi
      refine EvI.go (Ev.ite_t (decide_eq_true (by omega)) (Ev.bind (level_next V i) (Ev.bind (same_ints (by rw [rnd_len]; omega)) (Ev.ite_f (by simpa using h2 i (by omega)) (Ev.bindc (app_ok (by simp; omega)) (Ev.const ?_)))))) (ih (i + 1) (by omega))
      rw [W_of (by omega) (by omega), List.range_succ (n := i + 1), List.map_append]
      rfl
  exact key N 0 (by omega)
end
theorem sep_core {a : Tlaws_Lts} {k j : Int} (h : BLts a) : ∃ r, Ev (fun n => spec_SeparationDepth_m n a k j) r ∧ Ev (fun n => impl_SeparationDepth_m n a k j) r := by
  have h1 := valid_spec (t := a) h.1 h.2.1 h.2.2
  have h2 := valid_impl (t := a) h.1 h.2.1 h.2.2
  have hmx := mx
  unfold spec_SeparationDepth_m impl_SeparationDepth_m impl_SplitRound_m
  have hcode : ∀ {b : Bool}, Ev (fun m => impl_ValidLts_m m a) b → b = validP a → Ev (fun m => impl_statesCode_m m a [k, j]) (if validP a = true then (if (stP a k && stP a j) = true then 0 else 2) else 1) := by
    intro b hb e
    subst e
    unfold impl_statesCode_m
    refine Ev.bind hb ?_
    cases hv : validP a
    · exact Ev.const rfl
    · refine Ev.ite_f (by simp) (Ev.bind (a := !([k, j].all fun z => stP a z)) ?_ ?_)
      · have := contains_loop (a := [k, j]) (by simp; omega) (f := fun m z => impl_statesCode_1_m m z (a.1, a.2.1, a.2.2.1, a.2.2.2)) (ok := fun z => stP a z) (fun x _ => Ev.const' fun m => by
          unfold impl_statesCode_1_m impl_Lts_isState_m
          simp only [within_eq, Option.bind_some]
          rfl)
        unfold slices_ContainsFunc__int64_int64_m slices_IndexFunc__int64_int64_m
        exact this
      · simp only [List.all_cons, List.all_nil, Bool.and_true]
        cases (stP a k && stP a j) <;> exact Ev.const rfl
  have hcode := hcode h2 rfl
  have htwo : Ev (fun m => spec_l14Two_m m a k j) (stP a k && stP a j) := by
    unfold spec_l14Two_m
    simp only [l00In_eq, Option.bind_some]
    refine Ev.const ?_
    unfold stP inn
    cases (decide (0 ≤ k) && decide (k ≤ W (a.1 - 1))) <;> simp
  cases hv : validP a
  · rw [hv] at h1 h2 hcode
    exact ⟨(0, 1), Ev.bind h1 (Ev.const rfl), Ev.bind (Ev.bind hcode (Ev.const rfl)) (Ev.const rfl)⟩
  · rw [hv] at h1 h2 hcode
    obtain ⟨n, V⟩ := valid_of hv
    have htop := V.top
    have hw : W (a.1 - 1) = (n : Int) - 1 := by rw [V.st, W_of (by omega) (by omega)]
    cases hin : (stP a k && stP a j)
    · rw [hin] at hcode
      refine ⟨(0, 2), Ev.bind h1 (Ev.ite_f (by simp) (Ev.bind (a := false) ?_ (Ev.const rfl))), Ev.bind (Ev.bind hcode (Ev.const rfl)) (Ev.const rfl)⟩
      rw [← hin]
      exact htwo
    · rw [hin] at hcode
      have hin' := hin
      simp only [Bool.and_eq_true] at hin'
      obtain ⟨i1, i2⟩ := hin'
      have hk : 0 ≤ k ∧ k < (n : Int) := by
        unfold stP inn at i1
        simp only [Bool.and_eq_true, decide_eq_true_eq] at i1
        omega
      have hj : 0 ≤ j ∧ j < (n : Int) := by
        unfold stP inn at i2
        simp only [Bool.and_eq_true, decide_eq_true_eq] at i2
        omega
      obtain ⟨N, q1, q2, q3⟩ := rnd_last a n
      have hnn : n * n ≤ 40 * 40 := Nat.mul_le_mul htop htop
      have hat : ∀ i (v : Int), 0 ≤ v → v < (n : Int) → idx (rnd a n i) v = some (atP (rnd a n i) v) := fun i v h0 h1 => by
        have := tab_at (f := atP (rnd a n i)) (n := n) h0 h1
        rwa [rnd_tab] at this
      have h0 : atP (rnd a n 0) k = atP (rnd a n 0) j := by
        unfold atP rnd
        rw [List.getElem?_replicate, if_pos (by omega), List.getElem?_replicate, if_pos (by omega)]
      -- the first round that parts them
      let ok : Nat → Bool := fun i => decide (atP (rnd a n i) k = atP (rnd a n i) j)
      obtain ⟨rs, g1, g2⟩ : ∃ rs : Int, Ev (fun m => (impl_Lts_splitRound_m m a k j)) rs ∧ ((rs = -1 ∧ ∀ i, i ≤ N → ok i = true) ∨ ∃ i, i ≤ N ∧ rs = (i : Int) ∧ ok i = false ∧ ∀ q, q < i → ok q = true) := by
        obtain ⟨r, e1, e2⟩ := index_loop (a := (List.range (N + 1)).map (rnd a n)) (by simp; omega) (f := fun m z => impl_Lts_splitRound_1_m m z k j) (ok := fun z => decide (atP z k = atP z j)) (fun z hz => by
          obtain ⟨i, hi, rfl⟩ := List.mem_map.1 hz
          unfold impl_Lts_splitRound_1_m
          refine Ev.bindc (hat i k hk.1 hk.2) (Ev.bindc (hat i j hj.1 hj.2) (Ev.const ?_))
          by_cases e : atP (rnd a n i) k = atP (rnd a n i) j <;> simp [e])
        refine ⟨r, ?_, ?_⟩
        · unfold impl_Lts_splitRound_m
          refine Ev.bind (rounds_impl V q1 q2 q3) (Ev.bind ?_ (Ev.pure _))
          unfold slices_IndexFunc___int64__int64_m
          exact e1
        · rcases e2 with ⟨rfl, e2⟩ | ⟨i, x, hi, rfl, hx, hok, hb⟩
          · exact .inl ⟨rfl, fun i hi => List.all_eq_true.1 e2 (rnd a n i) (List.mem_map.2 ⟨i, List.mem_range.2 (by omega), rfl⟩)⟩
          · rw [List.length_map, List.length_range] at hi
            have hget : ∀ q, q < N + 1 → ((List.range (N + 1)).map (rnd a n))[q]? = some (rnd a n q) := fun q hq => by simp [hq]
            rw [hget i hi] at hx
            cases hx
            exact .inr ⟨i, by omega, rfl, hok, fun q hq => hb q _ hq (hget q (by omega))⟩
      have hap : Ev (fun m => spec_l14Apart_m m ((List.range (N + 1)).map (rnd a n)) k j) (if rs < 0 then 0 else rs) := by
        unfold spec_l14Apart_m
        refine Exists.elim (EvI.count (β := Unit ⊕ Int) (step := _) (N + 1) (fun i (_ : Unit) => (i : Int)) (fun i _ => ∀ q, q < i → ok q = true) (fun b => (b = .inl () ∧ rs < 0) ∨ (b = .inr rs ∧ ¬ rs < 0)) (fun i _ hi hI => ?_) (fun _ hI => ⟨_, Ev.ite_f (by simp) (Ev.pure _), .inl ⟨rfl, ?_⟩⟩) (k := 0) (t := ()) (Nat.zero_le _) (fun q hq => by omega)) (fun res ⟨h1, h2⟩ => Ev.bind h1.ev ?_)
        · have hget : idx ((List.range (N + 1)).map (rnd a n)) (i : Int) = some (rnd a n i) := idx_at (by simp [hi])
          by_cases hok : ok i = true
          · refine .inl ⟨(), Ev.ite_t (decide_eq_true (by simp; omega)) (Ev.bindc hget (Ev.bindc (hat i k hk.1 hk.2) (Ev.bindc hget (Ev.bindc (hat i j hj.1 hj.2) (Ev.ite_f (by simpa using of_decide_eq_true hok) (Ev.const (by rw [W_succ hi (by omega)]))))))), fun q hq => ?_⟩
            by_cases e : q = i
            · rw [e]; exact hok
            · exact hI q (by omega)
          · have hne : ¬ atP (rnd a n i) k = atP (rnd a n i) j := fun e => hok (decide_eq_true e)
            refine .inr ⟨_, Ev.ite_t (decide_eq_true (by simp; omega)) (Ev.bindc hget (Ev.bindc (hat i k hk.1 hk.2) (Ev.bindc hget (Ev.bindc (hat i j hj.1 hj.2) (Ev.ite_t (by simpa using hne) (Ev.pure _)))))), .inr ?_⟩
            rcases g2 with ⟨rfl, g3⟩ | ⟨c, c1, rfl, c2, c3⟩
            · exact absurd (g3 i (by omega)) hok
            · have hci : c = i := by
                by_cases e : c < i
                · have := hI c e; rw [c2] at this; cases this
                · by_cases e2 : i < c
                  · exact absurd (c3 i e2) hok
                  · omega
              rw [hci]
              exact ⟨rfl, by omega⟩
        · rcases g2 with ⟨rfl, _⟩ | ⟨c, c1, rfl, c2, _⟩
          · omega
          · have := hI c (by omega); rw [c2] at this; cases this
        · rcases h2 with ⟨rfl, h2⟩ | ⟨rfl, h2⟩
          · rw [if_pos h2]; exact Ev.const rfl
          · rw [if_neg h2]; exact Ev.const rfl
      have hnz : ¬ rs < 0 → rs ≠ 0 := by
        intro hrs hz
        rcases g2 with ⟨rfl, _⟩ | ⟨c, c1, rfl, c2, _⟩
        · omega
        · have hc0 : c = 0 := by omega
          rw [hc0] at c2
          have : ok 0 = true := decide_eq_true h0
          rw [c2] at this
          cases this
      rw [hin] at htwo
      refine ⟨if rs < 0 then (0, 3) else (rs, 0), Ev.bind h1 (Ev.ite_f (by simp) (Ev.bind htwo (Ev.ite_f (by simp) (Ev.bind (levels_spec V q1 q2) (Ev.bind hap ?_))))), Ev.bind (a := if rs < 0 then ((0 : Int), (3 : Int)) else (rs, 0)) (Ev.bind hcode (Ev.ite_f (by simp) (Ev.bind g1 ?_))) (Ev.const rfl)⟩
      · by_cases hrs : rs < 0
        · rw [if_pos hrs, if_pos hrs]; exact Ev.const rfl
        · rw [if_neg hrs, if_neg hrs]; exact Ev.ite_f (by simpa using hnz hrs) (Ev.pure _)
      · by_cases hrs : rs < 0
        · rw [if_pos hrs]; exact Ev.ite_t (decide_eq_true hrs) (Ev.pure _)
        · rw [if_neg hrs]; exact Ev.ite_f (by simpa using hrs) (Ev.pure _)
set_option maxHeartbeats 4000000 in
theorem law_SeparationDepth {a : Tlaws_Lts} {k : Int} {j : Int} (g_a : (GLts) a) (_g_k : (gInt .i64) k) (_g_j : (gInt .i64) j) : ∃ n, laws_FnExactSeparationDepth_m n a k j = some true := by
  have hm : maxLen = 9223372036854775807 := by unfold maxLen; rfl
  refine Ev.one (f := fun n => laws_FnExactSeparationDepth_m n a k j) ?_
  unfold laws_FnExactSeparationDepth_m
  obtain ⟨r1, h1, s1⟩ := sz_lts g_a (b := (1048576 : Int)) (by omega) (by omega)
  refine Ev.bind h1 ?_
  by_cases n1 : r1 < 0
  · exact Ev.ite_t (decide_eq_true n1) (Ev.pure _)
  rcases s1 with s1 | ⟨p1, q1, B_a⟩
  · exact absurd s1 n1
  refine Ev.ite_f (by simpa using n1) ?_
  obtain ⟨r, hs, hi⟩ := sep_core B_a (k := k) (j := j)
  have to_a_ := toB_lts B_a
  have eq_a_ := eqB_lts B_a
  repeat (first
    | exact Ev.pure _
    | refine Ev.bind (by with_reducible assumption) ?_
    | refine Ev.ite_f (by first | (simp; done) | (simp; omega)) ?_
    | refine Ev.bind (Ev.ite_f (by first | (simp; done) | (simp; omega)) (Ev.bind (by with_reducible assumption) (Ev.pure _))) ?_
    | refine Ev.bind (a := false) (Ev.ite_f (by first | (simp; done) | (simp; omega)) (Ev.const (by simp))) ?_
    | refine Ev.bind (a := false) (Ev.ite_f (by first | (simp; done) | (simp; omega)) (Ev.bind (by with_reducible assumption) (Ev.const (by simp)))) ?_
    | refine Ev.bindc (by with_reducible rfl) ?_)
end Go.Proofs.YtldmecdkdoipdaaGreatDoor

