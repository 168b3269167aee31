/-
  The plain laws of a statement, joined into one text.
-/
import Derived.Test.YtepcckhcocjgaaaGreatDoorF0
import Derived.Test.YtepcckhcocjgaaaGreatDoorF1
import Derived.Test.YtepcckhcocjgaaaGreatDoorF2
import Derived.Test.YtepcckhcocjgaaaGreatDoorF3
import Derived.Test.YtepcckhcocjgaaaGreatDoorF4
import Derived.Test.YtepcckhcocjgaaaGreatDoorFS
import Derived.Test.YtepcckhcocjgaaaGreatDoorGxI
import Derived.Test.YtepcckhcocjgaaaGreatDoorGxP
import Derived.Test.YtepcckhcocjgaaaGreatDoorGxU
import Derived.Test.YtepcckhcocjgaaaGreatDoorGxZ
import Derived.Test.YtepcckhcocjgaaaGreatDoorLLtsText
namespace Go.Proofs.YtepcckhcocjgaaaGreatDoor
open Go.Gx
theorem l00In_eq {n : Nat} {a b c : Int} : spec_l00In_m n a b c = some (decide (b ≤ a) && decide (a ≤ c)) := by
  unfold spec_l00In_m
  by_cases h : b ≤ a <;> simp [h]
theorem within_eq {n : Nat} {a b c : Int} : impl_within_m n a b c = some (decide (b ≤ a) && decide (a ≤ c)) := by
  unfold impl_within_m
  by_cases h : b ≤ a <;> simp [h]
theorem index_eq {n : Nat} {a b : Int} : impl_index_m n a b = some (decide (0 ≤ a) && decide (a ≤ W (b - 1))) := by
  unfold impl_index_m
  simp [within_eq]

/-! ### letters and names -/
def small (b : UInt8) : Bool := decide ((97 : Int) ≤ (b.toNat : Int)) && decide ((b.toNat : Int) ≤ 122)
def dg (b : UInt8) : Bool := decide ((48 : Int) ≤ (b.toNat : Int)) && decide ((b.toNat : Int) ≤ 57)
theorem dg_eq (b : UInt8) : dg b = isDig b := by
  unfold dg isDig
  rw [show decide ((48 : Int) ≤ (b.toNat : Int)) = decide (48 ≤ b.toNat) from decide_eq_decide.2 (by omega), show decide ((b.toNat : Int) ≤ 57) = decide (b.toNat ≤ 57) from decide_eq_decide.2 (by omega)]
theorem small_m {m : Nat} {b : UInt8} : spec_l01Small_m m (b.toNat : Int) = some (small b) := by unfold spec_l01Small_m; rw [and_some]; rfl
theorem dg_m {m : Nat} {b : UInt8} : spec_l01Digit_m m (b.toNat : Int) = some (dg b) := by unfold spec_l01Digit_m; rw [and_some]; rfl
theorem idg_m {m : Nat} {b : UInt8} : impl_isDigit_m m (b.toNat : Int) = some (dg b) := by unfold impl_isDigit_m; rw [and_some]; rfl

def okN (s : Str) (k : Nat) : Bool := match s[k]? with
  | none => true
  | some b => !(!(small b) && (((k : Int) == 0) || !(dg b)))
def okS (s : Str) (k : Nat) : Bool := match s[k]? with
  | none => true
  | some b => !(!(small b) && !(dg b))
def nameP (s : Str) : Bool := decide (1 ≤ s.length) && decide (s.length ≤ 10) && decide (∀ k, k < s.length → okN s k = true)
def actP (s : Str) : Bool := nameP s && (s != [116, 97, 117])

theorem name_impl {s : Str} (hl : s.length ≤ maxLen) : Ev (fun m => impl_IsName_m m s) (nameP s) := by
  have hm := maxLen_le
  unfold impl_IsName_m
  refine Ev.bind (EvI.all s.length (okN s) false (fun k hk hok => Ev.const' fun m => ?_) (fun k hk hok => Ev.const' fun m => ?_) (Ev.ite_f (by simp) (Ev.pure _))).ev (Ev.const ?_)
  · obtain ⟨b, hb⟩ := get_lt hk
    have hk' : decide ((k : Int) < (s.length : Int)) = true := by simpa using hk
    simp only [okN, hb] at hok
    have e : (!(small b) && (((k : Int) == 0) || !(dg b))) = false := by rwa [Bool.not_eq_true'] at hok
    unfold small at e
    simp only [hk', if_true, idx_at hb, Option.bind_some, and_some, idg_m, or_some, e, W_succ hk (by omega)]
    rfl
  · obtain ⟨b, hb⟩ := get_lt hk
    have hk' : decide ((k : Int) < (s.length : Int)) = true := by simpa using hk
    simp only [okN, hb] at hok
    have e : (!(small b) && (((k : Int) == 0) || !(dg b))) = true := by rwa [Bool.not_eq_false'] at hok
    unfold small at e
    simp only [hk', if_true, idx_at hb, Option.bind_some, and_some, idg_m, or_some, e]
  · unfold nameP
    rw [show decide (1 ≤ s.length) = decide ((1 : Int) ≤ (s.length : Int)) from decide_eq_decide.2 (by omega), show decide (s.length ≤ 10) = decide ((s.length : Int) ≤ 10) from decide_eq_decide.2 (by omega)]
    by_cases h : ∀ k, k < s.length → okN s k = true
    · rw [if_pos h, ctl_l, decide_eq_true h, Bool.and_true, and_some]; rfl
    · rw [if_neg h, ctl_r, decide_eq_false h, Bool.and_false]

theorem name_all {s : Str} {b : UInt8} {r : Str} (e : s = b :: r) : (∀ k, k < s.length → okN s k = true) ↔ small b = true ∧ ∀ k, k < s.length → okS s k = true := by
  subst e
  constructor
  · intro h
    have h0 := h 0 (by simp)
    simp [okN] at h0
    refine ⟨h0, fun k hk => ?_⟩
    have h1 := h k hk
    obtain ⟨c, hc⟩ := get_lt hk
    simp only [okN, okS, hc] at h1 ⊢
    cases hs : small c <;> cases hd : dg c <;> simp [hs, hd] at h1 ⊢
  · rintro ⟨h0, h⟩ k hk
    have h1 := h k hk
    obtain ⟨c, hc⟩ := get_lt hk
    simp only [okN, okS, hc] at h1 ⊢
    cases k with
    | zero => have : b = c := by simpa using hc
              subst this; simp [h0]
    | succ j =>
      have : (((j + 1 : Nat) : Int) == 0) = false := beq_false_of_ne (by omega)
      rw [this]
      simpa using h1

theorem name_spec {s : Str} (_hl : s.length ≤ maxLen) : Ev (fun m => spec_l01Name_m m s) (nameP s) := by
  have hm := maxLen_le
  unfold spec_l01Name_m
  cases hs : s with
  | nil => exact (Ev.const' fun m => rfl : Ev (fun m => _) false)
  | cons b r =>
    rw [← hs]
    have h1 : (s == ([] : Str)) = false := by rw [hs]; rfl
    have hb : s[0]? = some b := by rw [hs]; rfl
    simp only [h1, or_some, Option.bind_some, Bool.false_or]
    by_cases h2 : 10 < s.length
    · have h2' : decide ((10 : Int) < (s.length : Int)) = true := decide_eq_true (by omega)
      simp only [h2', if_true, Option.bind_some]
      refine (Ev.pure _).eq ?_
      unfold nameP
      rw [decide_eq_false (show ¬ s.length ≤ 10 by omega)]
      simp
    · have h2' : decide ((10 : Int) < (s.length : Int)) = false := decide_eq_false (by omega)
      have hi : idx s (0 : Int) = some b := idx_at (k := 0) hb
      simp only [h2', Bool.false_eq_true, if_false, hi, Option.bind_some, small_m]
      have hN := name_all hs
      have hlen : 1 ≤ s.length := by rw [hs]; simp
      cases h3 : small b with
      | false =>
        refine (Ev.ite_t (by rfl) (Ev.pure _)).eq ?_
        unfold nameP
        have : ¬ ∀ k, k < s.length → okN s k = true := fun h => by have := (hN.1 h).1; rw [h3] at this; cases this
        rw [decide_eq_false this, Bool.and_false]
      | true =>
        refine Ev.ite_f (by simp) ?_
        refine (Ev.all s.length (okS s) false true (fun k hk hok => Ev.const' fun m => ?_) (fun k hk hok => Ev.const' fun m => ?_) (Ev.ite_f (by simp) (Ev.pure _))).eq ?_
        · obtain ⟨c, hc⟩ := get_lt hk
          have hk' : decide ((k : Int) < (s.length : Int)) = true := by simpa using hk
          simp only [okS, hc] at hok
          have e : (!(small c) && !(dg c)) = false := by rwa [Bool.not_eq_true'] at hok
          simp only [hk', if_true, idx_at hc, Option.bind_some, dg_m, and_some, e, W_succ hk (by omega)]
          rfl
        · obtain ⟨c, hc⟩ := get_lt hk
          have hk' : decide ((k : Int) < (s.length : Int)) = true := by simpa using hk
          simp only [okS, hc] at hok
          have e : (!(small c) && !(dg c)) = true := by rwa [Bool.not_eq_false'] at hok
          simp only [hk', if_true, idx_at hc, Option.bind_some, dg_m, and_some, e]
        · unfold nameP
          rw [decide_eq_true hlen, decide_eq_true (show s.length ≤ 10 by omega)]
          by_cases h : ∀ k, k < s.length → okS s k = true
          · rw [if_pos h, decide_eq_true (hN.2 ⟨h3, h⟩)]; rfl
          · rw [if_neg h, decide_eq_false (fun h' => h (hN.1 h').2)]; rfl

theorem act_impl {s : Str} (hl : s.length ≤ maxLen) : Ev (fun m => impl_IsAction_m m s) (actP s) := by
  unfold impl_IsAction_m
  exact Ev.bind (name_impl hl) (Ev.const (by rw [and_some]; rfl))
theorem act_spec {s : Str} (hl : s.length ≤ maxLen) : Ev (fun m => spec_l01Action_m m s) (actP s) := by
  unfold spec_l01Action_m
  exact Ev.bind (name_spec hl) (Ev.const (by rw [and_some]; rfl))

/-! ### numbers -/
def numV (w : Str) : Int := (num w).getD 0
def numB (w : Str) : Bool := (num w).isSome
theorem dec_m {m : Nat} {n : Int} (h1 : -9223372036854775808 ≤ n) (h2 : n ≤ 9223372036854775807) : impl_Decimal_m m n = some (Lib.itoa n) := by
  unfold impl_Decimal_m strconv_FormatInt_m
  rw [if_pos ⟨rfl, h1, h2⟩]
  rfl
theorem read_dec {m : Nat} {w : Str} (hl : w.length ≤ 281474976710656) : impl_ReadDecimal_m m w = some (numV w, numB w) := by
  unfold impl_ReadDecimal_m strings_TrimPrefix_m
  rw [if_pos trivial]
  simp only [Option.bind_some]
  unfold numV numB
  rw [← rdDec_eq]
  unfold rdDec
  by_cases h : 18 < (Lib.trimPrefix w [45]).length
  · rw [if_pos h, if_pos (decide_eq_true (by omega))]; rfl
  · rw [if_neg h, if_neg (by rw [decide_eq_false (by omega)]; simp)]
    unfold strconv_ParseInt_m
    rw [if_pos ⟨rfl, rfl, hl⟩]
    cases hp : Lib.parseIntB 64 w with
    | ok v =>
      obtain ⟨h1, h2⟩ := parse_range hp
      simp only [Option.bind_some, dec_m h1 h2, Bool.false_eq_true, if_false]
      by_cases hi : Lib.itoa v = w
      · simp [hi]
      · have : (Lib.itoa v != w) = true := by simpa using hi
        simp [hi, this]
    | range => rfl
    | _ => rfl

theorem drop_take_succ {s : Str} {k i : Nat} {b : UInt8} (h : s[k]? = some b) (hi : i ≤ k) : (s.take (k + 1)).drop i = (s.take k).drop i ++ [b] := by
  rw [List.take_add_one, h, List.drop_append_of_le_length (by
    have : k < s.length := by
      rcases Nat.lt_or_ge k s.length with h' | h'
      · exact h'
      · rw [List.getElem?_eq_none h'] at h; cases h
    simp; omega)]
  rfl

theorem digits_loop {w : Str} (hl : w.length ≤ maxLen) {i : Nat} (hi : i ≤ w.length) (h18 : w.length - i ≤ 18) :
    Ev (fun m => iter (fun (s : (Int) × (Int)) => (match s with | (x59, x60) => (if (decide (x60 < (w.length : Int))) = true then (idx w x60).bind fun b88 => (spec_l01Digit_m m (b88.toNat : Int)).bind fun x92 => (if (!x92) = true then some (.inr (.inr ((0 : Int), false))) else (idx w x60).bind fun b96 => some (.inl ((W ((W ((10 : Int) * x59)) + (W (IntKind.u8.wrap ((b96.toNat : Int) - (48 : Int)))))), (W (x60 + (1 : Int)))))) else some (.inr (.inl (x59)))) : Option (((Int) × (Int)) ⊕ ((Int) ⊕ ((Int × Bool)))))) m ((0 : Int), (i : Int)))
      (if (w.drop i).all isDig = true then .inl (valN (w.drop i) : Int) else .inr ((0 : Int), false)) := by
  have hm := maxLen_le
  refine Exists.elim (EvI.count (step := fun m (s : (Int) × (Int)) => (match s with | (x59, x60) => (if (decide (x60 < (w.length : Int))) = true then (idx w x60).bind fun b88 => (spec_l01Digit_m m (b88.toNat : Int)).bind fun x92 => (if (!x92) = true then some (.inr (.inr ((0 : Int), false))) else (idx w x60).bind fun b96 => some (.inl ((W ((W ((10 : Int) * x59)) + (W (IntKind.u8.wrap ((b96.toNat : Int) - (48 : Int)))))), (W (x60 + (1 : Int)))))) else some (.inr (.inl (x59)))) : Option (((Int) × (Int)) ⊕ ((Int) ⊕ ((Int × Bool))))))
    w.length (fun k (_ : Unit) => ((valN ((w.take k).drop i) : Int), (k : Int))) (fun k _ => i ≤ k ∧ ((w.take k).drop i).all isDig = true)
    (fun r => r = (if (w.drop i).all isDig = true then .inl (valN (w.drop i) : Int) else .inr ((0 : Int), false))) ?hs ?hn hi (t := ()) ⟨Nat.le_refl _, by rw [List.drop_take_self]; rfl⟩) (fun res ⟨h1, h2⟩ => by
    subst h2
    rw [List.drop_take_self] at h1
    exact h1.ev)
  · rintro k t hk ⟨hik, hI⟩
    obtain ⟨b, hb⟩ := get_lt hk
    have hk' : decide ((k : Int) < (w.length : Int)) = true := by simpa using hk
    cases hd : isDig b with
    | true =>
      refine .inl ⟨(), Ev.const' fun m => ?_, by omega, ?_⟩
      · simp only [hk', if_true, idx_at hb, Option.bind_some, dg_m, dg_eq, hd, Bool.not_true, Bool.false_eq_true, if_false, W_succ hk (by omega)]
        have hb2 := dig_le hd
        have hv : valN ((w.take k).drop i) < 10 ^ 18 := val_small (by simp; omega) hI
        have hv2 : valN ((w.take (k + 1)).drop i) < 10 ^ 18 := val_small (by simp; omega) (by rw [drop_take_succ hb hik, List.all_append, hI]; simp [hd])
        rw [drop_take_succ hb hik, valN_snoc] at hv2 ⊢
        have e1 : IntKind.u8.wrap ((b.toNat : Int) - 48) = ((b.toNat - 48 : Nat) : Int) := by
          unfold IntKind.wrap
          simp [IntKind.signed, IntKind.bits]
          omega
        rw [e1, W_of (n := ((b.toNat - 48 : Nat) : Int)) (by omega) (by omega), W_of (n := 10 * (valN ((w.take k).drop i) : Int)) (by omega) (by omega), W_of (by omega) (by omega)]
        congr 3
      · rw [drop_take_succ hb hik, List.all_append, hI]; simp [hd]
    | false =>
      refine .inr ⟨.inr ((0 : Int), false), Ev.const' fun m => ?_, ?_⟩
      · simp only [hk', if_true, idx_at hb, Option.bind_some, dg_m, dg_eq, hd, Bool.not_false]
      · rw [if_neg]
        intro h
        rw [List.all_eq_true] at h
        have : b ∈ w.drop i := by
          have : (w.drop i)[k - i]? = some b := by rw [List.getElem?_drop, show i + (k - i) = k by omega]; exact hb
          exact List.mem_of_getElem? this
        rw [h b this] at hd
        cases hd
  · rintro t ⟨hik, hI⟩
    refine ⟨.inl (valN (w.drop i) : Int), Ev.const' fun m => ?_, ?_⟩
    · rw [List.take_length] at *
      simp
    · rw [List.take_length] at hI
      rw [if_pos hI]


def numRes (w : Str) (i : Nat) : Int × Bool :=
  if w.length = i ∨ 18 < w.length - i ∨ ((w.drop i).head? = some 48 ∧ 1 < w.length) then (0, false)
  else if (w.drop i).all isDig = true then (if i = 1 then -(valN (w.drop i) : Int) else (valN (w.drop i) : Int), true) else (0, false)

theorem num_body {w : Str} (hl : w.length ≤ maxLen) {i : Nat} {x : Int} (hx : x = (i : Int)) (hi : i ≤ w.length) :
    Ev (fun fuel => (if ((w.length : Int) == x) = true then some true else some (decide ((18 : Int) < (W ((w.length : Int) - x))))).bind fun t34 => (if t34 = true then some true else (idx w x).bind fun b40 => (if ((b40.toNat : Int) == (48 : Int)) = true then some (decide ((1 : Int) < (w.length : Int))) else some false).bind fun t42 => some t42).bind fun t37 => (if t37 = true then some (((0 : Int), false)) else (iter (fun (s : (Int) × (Int)) => (match s with | (x59, x60) => (if (decide (x60 < (w.length : Int))) = true then (idx w x60).bind fun b88 => (spec_l01Digit_m fuel (b88.toNat : Int)).bind fun x92 => (if (!x92) = true then some (.inr (.inr ((0 : Int), false))) else (idx w x60).bind fun b96 => some (.inl ((W ((W ((10 : Int) * x59)) + (W (IntKind.u8.wrap ((b96.toNat : Int) - (48 : Int)))))), (W (x60 + (1 : Int)))))) else some (.inr (.inl (x59)))) : Option (((Int) × (Int)) ⊕ ((Int) ⊕ ((Int × Bool)))))) fuel ((0 : Int), x)).bind fun res75 => ctl (β := Int) (ρ := (Int × Bool)) (τ := (Int × Bool)) res75 (fun (x74) => join (κ := Int → Option (Int × Bool)) (fun (x80 : Int) => some ((x80, true))) (fun K81 => (if (x == (1 : Int)) = true then (K81 (W (0 - x74))) else (K81 x74)))) (fun q => some (q)))) (numRes w i) := by
  have hm := maxLen_le
  subst hx
  unfold numRes
  by_cases h1 : w.length = i
  · have e1 : ((w.length : Int) == (i : Int)) = true := by rw [h1]; simp
    exact Ev.eq (r := ((0 : Int), false)) (Ev.const' fun m => by simp only [e1, if_true, Option.bind_some]) (if_pos (.inl h1)).symm
  · have e1 : ((w.length : Int) == (i : Int)) = false := beq_false_of_ne (by omega)
    have w1 : W ((w.length : Int) - (i : Int)) = (w.length : Int) - (i : Int) := W_of (by omega) (by omega)
    simp only [e1, Bool.false_eq_true, if_false, Option.bind_some, w1]
    by_cases h2 : 18 < w.length - i
    · have e2 : decide ((18 : Int) < (w.length : Int) - (i : Int)) = true := decide_eq_true (by omega)
      exact Ev.eq (r := ((0 : Int), false)) (Ev.const' fun m => by simp only [e2, if_true, Option.bind_some]) (if_pos (.inr (.inl h2))).symm
    · have e2 : decide ((18 : Int) < (w.length : Int) - (i : Int)) = false := decide_eq_false (by omega)
      obtain ⟨b, hb⟩ := get_lt (xs := w) (k := i) (by omega)
      have hh : (w.drop i).head? = some b := by rw [List.head?_drop]; exact hb
      simp only [e2, Bool.false_eq_true, if_false, idx_at hb, Option.bind_some, and_some]
      by_cases h3 : b = 48 ∧ 1 < w.length
      · have e3 : ((((b.toNat : Int) == 48) && decide ((1 : Int) < (w.length : Int)))) = true := by
          rw [h3.1, decide_eq_true (by omega : (1 : Int) < (w.length : Int))]; rfl
        exact Ev.eq (r := ((0 : Int), false)) (Ev.ite_t e3 (Ev.pure _)) (if_pos (.inr (.inr ⟨by rw [hh, h3.1], h3.2⟩))).symm
      · have e3 : ¬ ((((b.toNat : Int) == 48) && decide ((1 : Int) < (w.length : Int)))) = true := by
          intro h
          rw [Bool.and_eq_true] at h
          refine h3 ⟨?_, by have := of_decide_eq_true h.2; omega⟩
          have := beq_iff_eq.1 h.1
          exact UInt8.toNat_inj.1 (show b.toNat = 48 by omega)
        refine Ev.eq ?_ (if_neg (by
          rintro (h | h | ⟨h, h'⟩)
          · exact h1 h
          · exact h2 h
          · rw [hh] at h; exact h3 ⟨by simpa using h, h'⟩)).symm
        refine Ev.ite_f e3 (Ev.bind (digits_loop hl hi (by omega)) (Ev.const ?_))
        by_cases hd : (w.drop i).all isDig = true
        · have hv := val_small (ds := w.drop i) (by simp; omega) hd
          rw [if_pos hd, if_pos hd, ctl_l]
          show (if ((i : Int) == (1 : Int)) = true then some (W (0 - (valN (w.drop i) : Int)), true) else some ((valN (w.drop i) : Int), true)) = _
          by_cases hi1 : i = 1
          · subst hi1
            rw [if_pos (by rfl), if_pos rfl, W_of (by omega) (by omega)]
            congr 2
            omega
          · rw [if_neg (by intro h; have := beq_iff_eq.1 h; omega), if_neg hi1]
        · rw [if_neg hd, if_neg hd, ctl_r]

theorem num_minus (r : Str) : num (45 :: r) = if okD r = true ∧ r.head? ≠ some 48 then some (-(valN r : Int)) else none := by
  unfold num
  rw [if_pos (show (45 :: r : Str).head? = some 45 from rfl)]
  rfl
theorem numRes_neg (r : Str) : numRes (45 :: r) 1 = (numV (45 :: r), numB (45 :: r)) := by
  unfold numRes numV numB
  rw [num_minus]
  simp only [List.drop_succ_cons, List.drop_zero, List.length_cons, Nat.add_sub_cancel, if_true]
  by_cases h : okD r = true ∧ r.head? ≠ some 48
  · obtain ⟨h1, h2, h3⟩ := okD_iff.1 h.1
    have hp := List.length_pos_iff.2 h1
    rw [if_pos h, if_neg (by rintro (g | g | ⟨g, _⟩) <;> first | omega | exact h.2 g), if_pos h3]
    rfl
  · rw [if_neg h]
    split
    · rfl
    · rename_i hc
      split
      · rename_i hd
        exfalso
        apply h
        refine ⟨okD_iff.2 ⟨fun e => hc (.inl (by rw [e]; rfl)), by omega, hd⟩, fun e => hc (.inr (.inr ⟨e, ?_⟩))⟩
        cases r with
        | nil => cases e
        | cons _ _ => simp
      · rfl
theorem numRes_pos {w : Str} (hw : w.head? ≠ some 45) : numRes w 0 = (numV w, numB w) := by
  unfold numRes numV numB num
  rw [if_neg hw]
  simp only [List.drop_zero, Nat.sub_zero, Nat.zero_ne_one, if_false]
  by_cases h : okD w = true ∧ (w.head? ≠ some 48 ∨ w.length = 1)
  · obtain ⟨h1, h2, h3⟩ := okD_iff.1 h.1
    have hp := List.length_pos_iff.2 h1
    rw [if_pos h, if_neg (by rintro (g | g | ⟨g, g'⟩) <;> first | omega | exact h.2.elim (fun x => x g) (fun x => by omega)), if_pos h3]
    rfl
  · rw [if_neg h]
    split
    · rfl
    · rename_i hc
      split
      · rename_i hd
        exfalso
        apply h
        have hp : 0 < w.length := by
          rcases Nat.eq_zero_or_pos w.length with g | g
          · exact absurd (.inl g) hc
          · exact g
        refine ⟨okD_iff.2 ⟨fun e => hc (.inl (by rw [e]; rfl)), by omega, hd⟩, ?_⟩
        by_cases g : w.head? = some 48
        · right
          rcases Nat.lt_or_ge 1 w.length with g' | g'
          · exact absurd (.inr (.inr ⟨g, g'⟩)) hc
          · omega
        · exact .inl g
      · rfl

theorem num_spec {w : Str} (hl : w.length ≤ maxLen) : Ev (fun m => spec_l01Number_m m w) (numV w, numB w) := by
  have hm := maxLen_le
  unfold spec_l01Number_m
  refine Ev.join ?_
  cases hw : w with
  | nil => 
    rw [← hw]
    have e : decide ((0 : Int) < (w.length : Int)) = false := by rw [hw]; rfl
    simp only [e, Bool.false_eq_true, if_false, Option.bind_some]
    exact (num_body hl (i := 0) (x := 0) rfl (Nat.zero_le _)).eq (numRes_pos (by rw [hw]; simp))
  | cons b r =>
    rw [← hw]
    have e : decide ((0 : Int) < (w.length : Int)) = true := by rw [hw]; simp
    have hb : idx w (0 : Int) = some b := idx_at (k := 0) (by rw [hw]; rfl)
    refine Ev.bindc (a := ((b.toNat : Int) == (45 : Int))) (by simp only [e, if_true, hb, Option.bind_some]) ?_
    by_cases h : b = 45
    · subst h
      refine Ev.ite_t (by rfl) ?_
      exact (num_body hl (i := 1) (x := 1) rfl (by rw [hw]; simp)).eq (by rw [hw]; exact numRes_neg r)
    · refine Ev.ite_f (fun g => h ?_) ?_
      · have := beq_iff_eq.1 g
        exact UInt8.toNat_inj.1 (show b.toNat = 45 by omega)
      · exact (num_body hl (i := 0) (x := 0) rfl (Nat.zero_le _)).eq (numRes_pos (by rw [hw]; simpa using h))
theorem mx : 4294967296 ≤ maxLen ∧ maxLen ≤ 9223372036854775807 := by unfold maxLen; omega

/-! ### the library's functions -/
theorem split_lib {m : Nat} {s : Str} (hl : s.length < 4294967281) : strings_Split_m m s [44] = some (splitC 44 s) := by
  unfold strings_Split_m
  have hc : Lib.countB ⟨s.toArray⟩ ⟨([44] : Str).toArray⟩ = Lib.count s [44] := rfl
  have h3 := Lib.splitB_all ⟨([44] : Str).toArray⟩ (by decide) 0 _ ⟨s.toArray⟩ rfl
  have h4 := Lib.countB_le ⟨([44] : Str).toArray⟩ (by decide) _ ⟨s.toArray⟩ (Nat.le_refl _)
  have h5 : (⟨s.toArray⟩ : ByteArray).size = s.length := size_sv s
  have h6 := mx
  rw [if_pos ⟨hl, by decide, h3, by omega⟩, Lib.splitB_data]
  exact congrArg some (splitK_eq 44 s)
theorem cut_lib {m : Nat} {s : Str} (hl : s.length < 4294967281) : strings_Cut_m m s [40] = some (if (40 : UInt8) ∈ s then (pre 40 s, suf 40 s, true) else (s, [], false)) := by
  unfold strings_Cut_m
  rw [if_pos hl, cut_one]
theorem trimS_lib {m : Nat} {s : Str} (hl : s.length < 4294967281) : strings_TrimSuffix_m m s [41] = some (if s.getLast? = some 41 then s.dropLast else s) := by
  unfold strings_TrimSuffix_m
  rw [if_pos (by omega), suf_one]

/-! ### splitting -/
theorem splitC_snoc_eq (c : UInt8) : ∀ s : Str, splitC c (s ++ [c]) = splitC c s ++ [[]]
  | [] => by simp [splitC]
  | a :: r => by
    have ih := splitC_snoc_eq c r
    rw [List.cons_append]
    unfold splitC
    rw [ih]
    split
    · rfl
    · cases hr : splitC c r with
      | nil => exact absurd hr (splitC_ne c r)
      | cons x t => rfl
theorem splitC_snoc_ne {c b : UInt8} (hb : b ≠ c) : ∀ (s : Str) (o : List Str) (l : Str), splitC c s = o ++ [l] → splitC c (s ++ [b]) = o ++ [l ++ [b]]
  | [], o, l, h => by
    have h' : [([] : Str)] = o ++ [l] := h
    have : o = [] := by
      cases o with
      | nil => rfl
      | cons _ t => simp at h'
    subst this
    have : l = [] := by simpa using h'.symm
    subst this
    simp [splitC, hb]
  | a :: r, o, l, h => by
    rw [List.cons_append]
    unfold splitC at h ⊢
    by_cases ha : a = c
    · rw [if_pos ha] at h ⊢
      cases o with
      | nil =>
        exfalso
        have : splitC c r = [] := by simpa using (List.cons.inj h).2
        exact splitC_ne c r this
      | cons x o' =>
        rw [List.cons_append] at h ⊢
        obtain ⟨h1, h2⟩ := List.cons.inj h
        rw [← h1, splitC_snoc_ne hb r o' l h2]
    · rw [if_neg ha] at h ⊢
      rcases snoc_or (splitC c r) with hr | ⟨o', l', hr⟩
      · exact absurd hr (splitC_ne c r)
      · have ih := splitC_snoc_ne hb r o' l' hr
        rw [ih]
        rw [hr] at h
        cases o' with
        | nil =>
          simp only [List.nil_append, List.headD_cons, List.tail_cons] at h ⊢
          have : o = [] := by
            cases o with
            | nil => rfl
            | cons _ t => simp at h
          subst this
          have : l = a :: l' := by simpa using h.symm
          subst this
          rfl
        | cons x o'' =>
          simp only [List.cons_append, List.headD_cons, List.tail_cons] at h ⊢
          cases o with
          | nil => simp at h
          | cons y o3 =>
            rw [List.cons_append] at h ⊢
            obtain ⟨h1, h2⟩ := List.cons.inj h
            obtain ⟨h3, h4⟩ := List.append_inj' h2 rfl
            have : l' = l := by simpa using h4
            rw [h1, h3, this]

theorem split_spec {s : Str} (hl : s.length < 4294967281) : Ev (fun m => spec_l01Split_m m s 44) (splitC 44 s) := by
  have hm := mx
  unfold spec_l01Split_m
  refine Exists.elim (EvI.count (step := _) s.length (fun k (t : List Str × Nat) => (t.1, (t.2 : Int), (k : Int))) (fun k t => t.2 ≤ k ∧ splitC 44 (s.take k) = t.1 ++ [(s.take k).drop t.2])
    (fun r => ∃ (o : List Str) (f : Nat), r = .inl (o, (f : Int)) ∧ f ≤ s.length ∧ splitC 44 s = o ++ [s.drop f]) ?_ ?_ (k := 0) (t := ([], 0)) (Nat.zero_le _) ⟨Nat.le_refl _, rfl⟩)
    (fun res ⟨h1, o, f, h2, h3, h4⟩ => Ev.bind h1.ev (by
      subst h2
      have hlen : o.length ≤ s.length + 1 := by
        have := splitC_len 44 s
        rw [h4] at this
        simp at this
        omega
      rw [h4]
      have hs : sub s (f : Int) (s.length : Int) = some (s.drop f) := by rw [sub_ok h3 (Nat.le_refl _), List.take_length]
      exact Ev.bindc hs (Ev.bindc (app_ok (by simp; omega)) (Ev.pure _))))
  · rintro k ⟨o, f⟩ hk ⟨hf, hI⟩
    have hf : f ≤ k := hf
    have hI : splitC 44 (s.take k) = o ++ [(s.take k).drop f] := hI
    obtain ⟨b, hb⟩ := get_lt hk
    have hk' : decide ((k : Int) < (s.length : Int)) = true := by simpa using hk
    have htk : s.take (k + 1) = s.take k ++ [b] := by rw [List.take_add_one, hb]; rfl
    left
    by_cases h : b = 44
    · subst h
      have hlen : o.length ≤ s.length := by
        have := splitC_len 44 (s.take k)
        rw [hI] at this
        simp at this
        omega
      refine ⟨(o ++ [(s.take k).drop f], k + 1), Ev.ite_t hk' (Ev.join (Ev.bindc (idx_at hb) (Ev.ite_t (by rfl) (Ev.bindc (sub_ok hf (by omega)) (Ev.bindc (app_ok (by simp; omega)) (Ev.const ?_)))))), Nat.le_refl _, ?_⟩
      · rw [W_succ hk (by omega)]
      · show splitC 44 (s.take (k + 1)) = _
        rw [htk, splitC_snoc_eq, hI]
        congr 2
        rw [List.drop_eq_nil_of_le (by simp; omega)]
    · refine ⟨(o, f), Ev.ite_t hk' (Ev.join (Ev.bindc (idx_at hb) (Ev.ite_f ?_ (Ev.const ?_)))), by show f ≤ k + 1; omega, ?_⟩
      · intro g
        have := beq_iff_eq.1 g
        exact h (UInt8.toNat_inj.1 (show b.toNat = 44 by omega))
      · rw [W_succ hk (by omega)]
      · show splitC 44 (s.take (k + 1)) = o ++ [(s.take (k + 1)).drop f]
        rw [htk, splitC_snoc_ne h _ _ _ hI, List.drop_append_of_le_length (by simp; omega)]
  · rintro ⟨o, f⟩ ⟨hf, hI⟩
    refine ⟨_, Ev.ite_f (by simp) (Ev.pure _), o, f, rfl, hf, ?_⟩
    rw [List.take_length] at hI
    exact hI

/-! ### lists of numbers -/
theorem fill_iter {α β ρ : Type} {to' : Nat → α → Option β} {f : α → β} {a : List α} {z : β} (hto : ∀ x ∈ a, Ev (fun n => to' n x) (f x)) (hl : a.length ≤ 1048576) :
    EvI (fun n (s : (List β) × (Int)) => (match s with | (xs35, x36) => (if (decide (x36 < (a.length : Int))) = true then (idx a x36).bind fun x75 => (to' n x75).bind fun x92 => (idx xs35 x36).bind fun _ => some (.inl ((xs35.set x36.toNat x92), (W (x36 + (1 : Int))))) else some (.inr (.inl (xs35)))) : Option (((List β) × (Int)) ⊕ (((List β)) ⊕ (ρ))))) (List.replicate a.length z, (0 : Int)) (.inl (a.map f)) := by
  refine EvI.upto a.length (fun k (t : List β) => (t, (k : Int))) (fun k t => t = (a.take k).map f ++ List.replicate (a.length - k) z) (k := 0) (t := List.replicate a.length z) rfl (Nat.zero_le _) (by simp) (fun k t hk ht => ?_) (fun t ht => ?_)
  · obtain ⟨x, hx⟩ : ∃ x, a[k]? = some x := ⟨a[k], List.getElem?_eq_getElem hk⟩
    have hlen : ((a.take k).map f).length = k := by simp; omega
    have hi : t[k]? = some z := by
      rw [ht, List.getElem?_append_right (by omega), hlen, List.getElem?_replicate, if_pos (by omega)]
    refine ⟨_, (Ev.ite_t (by simpa using hk) (Ev.bindc (idx_at hx) (Ev.bind (hto x (List.mem_of_getElem? hx)) (Ev.bindc (idx_at hi) (Ev.pure (Sum.inl (t.set (k : Int).toNat (f x), W ((k : Int) + 1)))))))).eq ?_, rfl⟩
    rw [W_of (by omega) (by omega)]
    refine congrArg Sum.inl (Prod.ext ?_ rfl)
    show t.set (k : Int).toNat (f x) = _
    rw [ht, Int.toNat_natCast, List.set_append_right _ _ (by omega), hlen]
    rw [List.take_add_one, hx, List.map_append, List.append_assoc]
    congr 1
    rw [show a.length - k = (a.length - (k + 1)) + 1 by omega, List.replicate_succ]
    simp
  · refine (Ev.ite_f (by simp) (Ev.pure _)).eq ?_
    rw [ht]; simp

def val63 (n : Int) : Bool := decide (0 ≤ n) && decide (n ≤ 63)
def dots (vs : List Int) : Str := Lib.join (vs.map Lib.itoa) [44]

theorem read_nums {ws : List Str} (hl : ws.length < 4294967282) (hw : ∀ w ∈ ws, w.length ≤ 281474976710656) :
    Ev (fun m => impl_readNumbers_m m ws) (if ws.all numB = true then (ws.map numV, true) else ([], false)) := by
  have hm := mx
  unfold impl_readNumbers_m
  refine Exists.elim (EvI.count (step := _) ws.length (fun k (_ : Unit) => ((ws.take k).map numV, (k : Int))) (fun k _ => (ws.take k).all numB = true)
    (fun r => r = (if ws.all numB = true then .inl (ws.map numV) else .inr ([], false))) ?_ ?_ (k := 0) (t := ()) (Nat.zero_le _) rfl)
    (fun res ⟨h1, h2⟩ => Ev.bind h1.ev (by
      subst h2
      by_cases h : ws.all numB = true
      · rw [if_pos h, if_pos h]; exact Ev.pure _
      · rw [if_neg h, if_neg h]; exact Ev.pure _))
  · intro k t hk hI
    obtain ⟨w, hw'⟩ := get_lt hk
    have hk' : decide ((k : Int) < (ws.length : Int)) = true := by simpa using hk
    have htk : ws.take (k + 1) = ws.take k ++ [w] := by rw [List.take_add_one, hw']; rfl
    have hrd : ∀ m, impl_ReadDecimal_m m w = some (numV w, numB w) := fun m => read_dec (hw w (List.mem_of_getElem? hw'))
    cases hb : numB w with
    | true =>
      left
      refine ⟨(), Ev.ite_t hk' (Ev.bindc (idx_at hw') (Ev.bind (Ev.const' hrd) (Ev.ite_f (by simp [hb]) (Ev.bindc (app_ok (by simp; omega)) (Ev.const ?_))))), ?_⟩
      · rw [W_succ hk (by omega), htk, List.map_append]; rfl
      · rw [htk, List.all_append, hI]; simp [hb]
    | false =>
      right
      refine ⟨_, Ev.ite_t hk' (Ev.bindc (idx_at hw') (Ev.bind (Ev.const' hrd) (Ev.ite_t (by simp [hb]) (Ev.pure _)))), ?_⟩
      rw [if_neg]
      intro h
      rw [List.all_eq_true] at h
      rw [h w (List.mem_of_getElem? hw')] at hb
      cases hb
  · intro t hI
    refine ⟨_, Ev.ite_f (by simp) (Ev.pure _), ?_⟩
    rw [List.take_length] at *
    rw [if_pos hI]

theorem itoa_small : ∀ k : Fin 64, (Lib.itoa (k.val : Int)).length ≤ 2 := by
  intro k
  have e : Lib.itoa (k.val : Int) = Lib.decDigits k.val := by unfold Lib.itoa; rw [if_neg (by omega)]; simp
  rw [e]
  have := k.isLt
  by_cases h : k.val < 10
  · rw [Lib.decDigits_one h]; simp
  · rw [Lib.decDigits_two h (by omega)]; simp
theorem itoa_63 {n : Int} (h : val63 n = true) : (Lib.itoa n).length ≤ 2 := by
  unfold val63 at h
  simp at h
  have := itoa_small ⟨n.toNat, by omega⟩
  simp only [] at this
  rwa [show ((n.toNat : Nat) : Int) = n by omega] at this
theorem dots_len {vs : List Int} (h2 : vs.length ≤ 2) (h : vs.all val63 = true) : (dots vs).length ≤ 5 := by
  rw [List.all_eq_true] at h
  unfold dots
  match vs, h2, h with
  | [], _, _ => simp [Lib.join_nil]
  | [a], _, h =>
    have := itoa_63 (h a (by simp))
    rw [List.map_cons, List.map_nil, Lib.join_one]; omega
  | [a, b], _, h =>
    have := itoa_63 (h a (by simp))
    have := itoa_63 (h b (by simp))
    rw [List.map_cons, List.map_cons, List.map_nil, Lib.join_length]
    simp [Lib.lens]
    omega
theorem joined_ev {vs : List Int} (h2 : vs.length ≤ 2) (h : vs.all val63 = true) : Ev (fun m => impl_joined_m m vs [44]) (dots vs) := by
  unfold impl_joined_m
  have hd := dots_len h2 h
  refine Ev.bindc (mks_ok (by omega)) (Ev.bind (fill_iter (f := Lib.itoa) (to' := impl_Decimal_m) (a := vs) (z := ([] : Str)) (fun x hx => Ev.const' fun m => dec_m ?_ ?_) (by omega)).ev (Ev.const' fun m => ?_))
  · rw [List.all_eq_true] at h
    have := h x hx
    unfold val63 at this
    simp at this
    omega
  · rw [List.all_eq_true] at h
    have := h x hx
    unfold val63 at this
    simp at this
    omega
  · rw [ctl_l]
    unfold strings_Join_m
    rw [if_pos ⟨by simp; omega, by unfold dots at hd; omega⟩]
    rfl
theorem values_ev {vs : List Int} (hl : vs.length ≤ maxLen) : Ev (fun m => impl_areValues_m m vs) (vs.all val63) := by
  unfold impl_areValues_m slices_ContainsFunc__int64_int64_m slices_IndexFunc__int64_int64_m
  refine Ev.bind (contains_loop hl (f := fun m z => impl_areValues_1_m m z) (ok := val63) (fun x _ => Ev.const' fun m => ?_)) (Ev.const (by simp))
  unfold impl_areValues_1_m impl_isValue_m
  simp only [within_eq, Option.bind_some]
  rfl
abbrev GStrs : List Str → Prop := gList gStr
abbrev GEd : Tlaws_Edge → Prop := gAnd (gInt .i64) (gAnd (gInt .i64) (gInt .i64))
abbrev GEds : List Tlaws_Edge → Prop := gList GEd
abbrev GLts : Tlaws_Lts → Prop := gAnd (gInt .i64) (gAnd (gInt .i64) (gAnd GStrs GEds))
def BLts (t : Tlaws_Lts) : Prop := t.2.2.1.length ≤ 1048576 ∧ (∀ s ∈ t.2.2.1, s.length ≤ 1048576) ∧ t.2.2.2.length ≤ 1048576

theorem sz_strs {a : List Str} (g : GStrs a) {b : Int} (h0 : 0 ≤ b) (hb : b ≤ 1048576) : ∃ r, Ev (fun n => laws_szStringS_m n a b) r ∧ Sz b r (a.length ≤ 1048576 ∧ ∀ s ∈ a, s.length ≤ 1048576) := by
  have hm := mx
  have hl := g.1
  unfold laws_szStringS_m
  rw [W_of (n := b - (a.length : Int)) (by omega) (by omega)]
  by_cases h : b - (a.length : Int) < 0
  · exact ⟨-1, Ev.ite_t (by simpa using h) (Ev.pure _), .inl (by omega)⟩
  · refine Exists.elim (EvI.count (β := Int ⊕ Int) (step := _)
      a.length (fun k (t : Int) => (t, (k : Int))) (fun k t => 0 ≤ t ∧ t ≤ b ∧ ∀ i, i < k → ∀ x, a[i]? = some x → x.length ≤ 1048576) (fun r => r = .inr (-1) ∨ ∃ t, r = .inl t ∧ 0 ≤ t ∧ t ≤ b ∧ ∀ x ∈ a, x.length ≤ 1048576)
      ?_ ?_ (k := 0) (t := b - (a.length : Int)) (Nat.zero_le _) ⟨by omega, by omega, fun i hi => by omega⟩) (fun res ⟨h1, h2⟩ => Exists.intro (match res with | .inl t => t | .inr t => t) ⟨Ev.ite_f (by simpa using h) (Ev.bind h1.ev (Ev.const (by cases res <;> rfl))), by
        rcases h2 with rfl | ⟨t, rfl, h3, h4, h5⟩
        · exact .inl (by show (-1 : Int) < 0; omega)
        · exact .inr ⟨h3, h4, by omega, h5⟩⟩)
    · rintro k t hk ⟨ht0, htb, hp⟩
      obtain ⟨x, hx⟩ := get_lt hk
      have gx := g.2 x (List.mem_of_getElem? hx)
      have hw : W (t - (x.length : Int)) = t - (x.length : Int) := W_of (by omega) (by omega)
      by_cases hneg : t - (x.length : Int) < 0
      · exact .inr ⟨_, Ev.ite_t (by simpa using hk) (Ev.bindc (idx_at hx) (Ev.ite_t (by rw [hw]; exact decide_eq_true hneg) (Ev.pure _))), .inl rfl⟩
      · refine .inl ⟨t - (x.length : Int), (Ev.ite_t (by simpa using hk) (Ev.bindc (idx_at hx) (Ev.ite_f (by rw [hw]; simpa using hneg) (Ev.pure _)))).eq ?_, by omega, by omega, fun i hi y hy => ?_⟩
        · rw [hw, W_of (by omega) (by omega)]; rfl
        · by_cases hik : i = k
          · subst hik; rw [hx] at hy; cases hy; omega
          · exact hp i (by omega) y hy
    · rintro t ⟨ht0, htb, hp⟩
      refine ⟨_, Ev.ite_f (by simp) (Ev.pure _), .inr ⟨t, rfl, ht0, htb, fun x hx => ?_⟩⟩
      obtain ⟨i, hi, rfl⟩ := List.getElem_of_mem hx
      exact hp i hi _ (List.getElem?_eq_getElem hi)

theorem sz_lts {a : Tlaws_Lts} (g : GLts a) {b : Int} (h0 : 0 ≤ b) (hb : b ≤ 1048576) : ∃ r, Ev (fun n => laws_szLts_m n a b) r ∧ Sz b r (BLts a) := by
  obtain ⟨r1, h1, s1⟩ := sz_strs g.2.2.1 h0 hb
  by_cases n1 : r1 < 0
  · exact ⟨-1, Ev.bind h1 (Ev.ite_t (by simpa using n1) (Ev.pure _)), .inl (by omega)⟩
  · rcases s1 with s1 | ⟨p1, q1, b1⟩
    · exact absurd s1 n1
    · obtain ⟨r2, h2, s2⟩ := sz_leaf (n := a.2.2.2.length) (b := r1) p1 (by omega) g.2.2.2.1
      by_cases n2 : r2 < 0
      · exact ⟨-1, Ev.bind h1 (Ev.ite_f (by simpa using n1) (Ev.bind h2 (Ev.ite_t (by simpa using n2) (Ev.pure _)))), .inl (by omega)⟩
      · rcases s2 with s2 | ⟨p2, q2, b2⟩
        · exact absurd s2 n2
        · exact ⟨r2, Ev.bind h1 (Ev.ite_f (by simpa using n1) (Ev.bind h2 (Ev.ite_f (by simpa using n2) (Ev.pure _)))), .inr ⟨p2, by omega, b1.1, b1.2, b2⟩⟩

theorem toB_strs {a : List Str} (hl : a.length ≤ 1048576) : Ev (fun n => laws_toStringS_m n a) a := by
  have := to_loop («to» := fun _ (x : Str) => some x) (f := id) (a := a) (z := ([] : Str)) (fun x _ => Ev.pure x) hl
  rw [List.map_id] at this
  exact this
theorem toB_edges {a : List Tlaws_Edge} (hl : a.length ≤ 1048576) : Ev (fun n => laws_toEdgeS_m n a) a := by
  have := to_loop («to» := fun n x => laws_toEdge_m n x) (f := id) (a := a) (z := ((0 : Int), (0 : Int), (0 : Int))) (fun x _ => Ev.pure x) hl
  rw [List.map_id] at this
  exact this
theorem toB_lts {a : Tlaws_Lts} (h : BLts a) : Ev (fun n => laws_toLts_m n a) a := Ev.bind (toB_strs h.1) (Ev.bind (toB_edges h.2.2) (Ev.pure _))

theorem eqB_strs {a : List Str} (h : a.length ≤ 1048576) : Ev (fun n => laws_eqStringS_m n a a) true := eq_loop_ints (by have := mx; omega)
theorem eqB_edges {a : List Timpl_Edge} (h : a.length ≤ 1048576) : Ev (fun n => laws_eqEdgeS_m n a a) true :=
  eq_loop (eq := fun n x y => laws_eqEdge_m n x y) (fun x _ => Ev.ite_f (by simp) (Ev.ite_f (by simp) (Ev.ite_f (by simp) (Ev.pure _)))) (by have := mx; omega)
theorem eqB_lts {a : Timpl_Lts} (h : BLts a) : Ev (fun n => laws_eqLts_m n a a) true :=
  Ev.ite_f (by simp) (Ev.ite_f (by simp) (Ev.bind (eqB_strs h.1) (Ev.ite_f (by simp) (Ev.bind (eqB_edges h.2.2) (Ev.ite_f (by simp) (Ev.pure _))))))
def valsOk (ps : List Str) : Bool := ps.all fun w => numB w && val63 (numV w)
def labelP (s : Str) : Bool :=
  if (40 : UInt8) ∈ s then actP (pre 40 s) && decide (s.getLast? = some 41) && valsOk (splitC 44 (suf 40 s).dropLast) && decide ((splitC 44 (suf 40 s).dropLast).length ≤ 2)
  else nameP s

def labOf (n : Str) (vs : List Int) : Str × Bool :=
  if n = [116, 97, 117] then ([116, 97, 117], decide (vs.length = 0))
  else if actP n = true ∧ vs.length ≤ 2 ∧ vs.all val63 = true then (if vs.length = 0 then (n, true) else (n ++ [40] ++ dots vs ++ [41], true))
  else ([], false)

theorem label_of {n : Str} (hn : n.length ≤ 4294967296) {vs : List Int} (hv : vs.length ≤ maxLen) : Ev (fun m => impl_labelOf_m m n vs) (labOf n vs) := by
  have hm := mx
  unfold impl_labelOf_m labOf
  by_cases h1 : n = [116, 97, 117]
  · have e : (n == ([116, 97, 117] : Str)) = true := by rw [h1]; rfl
    rw [if_pos h1]
    refine Ev.ite_t e (Ev.const ?_)
    by_cases h : vs.length = 0
    · rw [h]; rfl
    · rw [decide_eq_false h, beq_false_of_ne (show ((vs.length : Int)) ≠ 0 by omega)]
  · have e : ¬ (n == ([116, 97, 117] : Str)) = true := by simpa using h1
    rw [if_neg h1]
    refine Ev.ite_f e (Ev.bind (act_impl (by omega)) ?_)
    by_cases h2 : actP n = true
    · simp only [h2, Bool.not_true, Bool.false_eq_true, if_false, Option.bind_some, true_and]
      by_cases h3 : vs.length ≤ 2
      · have e3 : decide ((2 : Int) < (vs.length : Int)) = false := decide_eq_false (by omega)
        simp only [e3, Bool.false_eq_true, if_false, h3, true_and]
        refine Ev.bind (Ev.bind (values_ev hv) (Ev.pure _)) ?_
        by_cases h4 : vs.all val63 = true
        · rw [if_pos h4]
          refine Ev.ite_f (by simp [h4]) ?_
          by_cases h5 : vs.length = 0
          · rw [if_pos h5]
            exact Ev.ite_t (by rw [h5]; rfl) (Ev.pure _)
          · rw [if_neg h5]
            have hd := dots_len h3 h4
            refine Ev.ite_f (by intro g; have := beq_iff_eq.1 g; omega) (Ev.bindc (show cat n [40] = some (n ++ [40]) from ?_) (Ev.bind (joined_ev h3 h4) (Ev.bindc (show cat (n ++ [40]) (dots vs) = some (n ++ [40] ++ dots vs) from ?_) (Ev.bindc (show cat (n ++ [40] ++ dots vs) [41] = some (n ++ [40] ++ dots vs ++ [41]) from ?_) (Ev.pure _)))))
            · unfold cat; rw [if_pos (by simp; omega)]
            · unfold cat; rw [if_pos (by simp; omega)]
            · unfold cat; rw [if_pos (by simp; omega)]
        · rw [if_neg h4]
          exact Ev.ite_t (by simpa using h4) (Ev.pure _)
      · have e3 : decide ((2 : Int) < (vs.length : Int)) = true := decide_eq_true (by omega)
        exact Ev.eq (r := (([] : Str), false)) (Ev.const' fun m => by simp only [e3, if_true, Option.bind_some]) (if_neg (fun h => h3 h.1)).symm
    · have e2 : (!actP n) = true := by simpa using h2
      exact Ev.eq (r := (([] : Str), false)) (Ev.const' fun m => by simp only [e2, if_true, Option.bind_some]) (if_neg (fun h => h2 h.1)).symm

theorem nums_join {ws : List Str} (h : ws.all numB = true) : (ws.map numV).map Lib.itoa = ws := by
  rw [List.map_map]
  rw [List.all_eq_true] at h
  conv => rhs; rw [← List.map_id ws]
  refine List.map_congr_left fun w hw => ?_
  have := h w hw
  unfold numB at this
  obtain ⟨v, hv⟩ := Option.isSome_iff_exists.1 this
  show Lib.itoa (numV w) = w
  unfold numV
  rw [hv]
  exact (num_some hv).1

theorem last_eq {s : Str} (h : (40 : UInt8) ∈ s) : s.getLast? = some 41 ↔ (suf 40 s).getLast? = some 41 := by
  conv => lhs; rw [pre_suf h]
  rw [List.getLast?_append]
  cases hs : suf 40 s with
  | nil => simp
  | cons b r =>
    rw [List.getLast?_cons_cons]
    cases hl : (b :: r).getLast? with
    | none => simp at hl
    | some c => simp

theorem name_tau : nameP [116, 97, 117] = true := by decide +kernel
theorem act_tau : actP [116, 97, 117] = false := by unfold actP; simp

theorem third {c : Bool} {a : Str} {b : List Int} : (if c = true then (([] : Str), ([] : List Int), false) else (a, b, true)).2.2 = !c := by cases c <;> rfl

theorem read_label {s : Str} (hl : s.length ≤ 1048576) : ∃ r, Ev (fun m => impl_readLabel_m m s) r ∧ r.2.2 = labelP s := by
  have hm := mx
  unfold impl_readLabel_m
  by_cases hc : (40 : UInt8) ∈ s
  · have hp := pre_len 40 s
    have hsf : (suf 40 s).length ≤ s.length := by unfold suf; simp
    have hcut : ∀ m, strings_Cut_m m s [40] = some (pre 40 s, suf 40 s, true) := fun m => by rw [cut_lib (by omega), if_pos hc]
    obtain ⟨t, ht⟩ : ∃ t, t = if (suf 40 s).getLast? = some 41 then (suf 40 s).dropLast else suf 40 s := ⟨_, rfl⟩
    have htl : t.length ≤ s.length := by rw [ht]; split <;> (try simp) <;> omega
    have htr : ∀ m, strings_TrimSuffix_m m (suf 40 s) [41] = some t := fun m => by rw [trimS_lib (by omega), ← ht]
    have hsp : ∀ m, strings_Split_m m t [44] = some (splitC 44 t) := fun m => split_lib (by omega)
    have hln := splitC_len 44 t
    have hne := List.length_pos_iff.2 (splitC_ne 44 t)
    have hrn := read_nums (ws := splitC 44 t) (by omega) (fun w hw => by have := splitC_mem 44 t w hw; omega)
    by_cases hn : (splitC 44 t).all numB = true
    · rw [if_pos hn] at hrn
      have hlo := label_of (n := pre 40 s) (by omega) (vs := (splitC 44 t).map numV) (by simp; omega)
      refine ⟨_, Ev.bind (Ev.const' hcut) (Ev.join (Ev.ite_t rfl (Ev.bind (Ev.const' htr) (Ev.bind (Ev.const' hsp) (Ev.bind hrn (Ev.ite_f (by simp) (Ev.bind hlo (Ev.const' fun m => by rw [or_some, Option.bind_some, ite_some])))))))), ?_⟩
      have hd : dots ((splitC 44 t).map numV) = t := by unfold dots; rw [nums_join hn, join_splitC]
      have hlast : (pre 40 s ++ [40] ++ t ++ [41] = s) ↔ (suf 40 s).getLast? = some 41 := by
        conv => lhs; rhs; rw [pre_suf hc]
        rw [List.append_assoc, List.append_assoc, List.append_cancel_left_eq]
        simp only [List.singleton_append, List.cons.injEq, true_and]
        constructor
        · intro h; rw [← h]; simp
        · intro h
          rw [ht, if_pos h]
          rcases snoc_or (suf 40 s) with e | ⟨q, x, e⟩
          · rw [e] at h; cases h
          · rw [e] at h ⊢
            have : x = 41 := by simpa using h
            rw [this]; simp
      have hvo : (suf 40 s).getLast? = some 41 → splitC 44 (suf 40 s).dropLast = splitC 44 t := fun h => by rw [ht, if_pos h]
      have hall : ((splitC 44 t).map numV).all val63 = valsOk (splitC 44 t) := by
        unfold valsOk
        rw [List.all_map]
        rw [List.all_eq_true] at hn
        apply Bool.eq_iff_iff.2
        rw [List.all_eq_true, List.all_eq_true]
        constructor
        · intro h w hw; rw [hn w hw]; exact h w hw
        · intro h w hw; have := h w hw; rw [hn w hw] at this; exact this
      rw [third]
      unfold labelP labOf
      rw [if_pos hc]
      simp only [decide_eq_decide.2 (last_eq hc), List.length_map, hall]
      by_cases h1 : pre 40 s = [116, 97, 117]
      · rw [if_pos h1, h1, act_tau, decide_eq_false (by omega)]
        rfl
      · rw [if_neg h1]
        by_cases h6 : (suf 40 s).getLast? = some 41
        · rw [hvo h6, decide_eq_true h6]
          by_cases h2 : actP (pre 40 s) = true ∧ (splitC 44 t).length ≤ 2 ∧ valsOk (splitC 44 t) = true
          · rw [if_pos h2, if_neg (show ¬ (splitC 44 t).length = 0 by omega), h2.1, h2.2.2, decide_eq_true h2.2.1, hd]
            rw [hlast.2 h6]
            simp
          · rw [if_neg h2]
            cases ha : actP (pre 40 s)
            · rfl
            · cases hv : valsOk (splitC 44 t)
              · rfl
              · rw [decide_eq_false (fun h => h2 ⟨ha, h, hv⟩)]; rfl
        · rw [decide_eq_false h6, Bool.and_false]
          split
          · rw [if_neg (show ¬ (splitC 44 t).length = 0 by omega), hd]
            have : (pre 40 s ++ [40] ++ t ++ [41] != s) = true := by
              rw [bne_iff_ne]
              exact fun h => h6 (hlast.1 h)
            rw [this]
            rfl
          · rfl
    · rw [if_neg hn] at hrn
      refine ⟨_, Ev.bind (Ev.const' hcut) (Ev.join (Ev.ite_t rfl (Ev.bind (Ev.const' htr) (Ev.bind (Ev.const' hsp) (Ev.bind hrn (Ev.ite_t (by rfl) (Ev.pure _))))))), ?_⟩
      unfold labelP
      rw [if_pos hc]
      by_cases h6 : (suf 40 s).getLast? = some 41
      · have : valsOk (splitC 44 (suf 40 s).dropLast) = false := by
          rw [ht, if_pos h6] at hn
          apply Bool.eq_false_iff.2
          intro h
          apply hn
          unfold valsOk at h
          rw [List.all_eq_true] at h ⊢
          intro w hw
          have := h w hw
          rw [Bool.and_eq_true] at this
          exact this.1
        rw [this]; simp
      · rw [decide_eq_false (fun h => h6 ((last_eq hc).1 h))]; simp
  · have hcut : ∀ m, strings_Cut_m m s [40] = some (s, [], false) := fun m => by rw [cut_lib (by omega), if_neg hc]
    have hlo := label_of (n := s) (by omega) (vs := []) (by simp)
    refine ⟨_, Ev.bind (Ev.const' hcut) (Ev.join (Ev.ite_f (by simp) (Ev.bind hlo (Ev.const' fun m => by rw [or_some, Option.bind_some, ite_some])))), ?_⟩
    rw [third]
    unfold labelP labOf
    rw [if_neg hc]
    by_cases h1 : s = [116, 97, 117]
    · rw [if_pos h1, h1, name_tau]; rfl
    · rw [if_neg h1]
      have e : actP s = nameP s := by
        unfold actP
        rw [bne_iff_ne.2 h1, Bool.and_true]
      rw [e]
      by_cases h2 : nameP s = true
      · rw [if_pos ⟨h2, by simp, rfl⟩, h2]
        simp
      · rw [if_neg (fun h => h2 h.1)]
        have : nameP s = false := by simpa using h2
        rw [this]
        rfl
theorem label_impl {s : Str} (hl : s.length ≤ 1048576) : Ev (fun m => impl_IsLabel_m m s) (labelP s) := by
  obtain ⟨r, h1, h2⟩ := read_label hl
  unfold impl_IsLabel_m
  exact Ev.bind h1 (Ev.const (by rw [h2]))

/-! ### the reference -/
theorem pre_hit : ∀ (s : Str) (k : Nat), s[k]? = some 40 → (40 : UInt8) ∉ s.take k → (pre 40 s).length = k
  | [], k, h, _ => by simp at h
  | b :: r, 0, h, _ => by
    have : b = 40 := by simpa using h
    rw [pre_cons, if_pos this]; rfl
  | b :: r, k + 1, h, h2 => by
    rw [List.take_succ_cons, List.mem_cons, not_or] at h2
    rw [pre_cons, if_neg (fun e => h2.1 e.symm), List.length_cons, pre_hit r k (by simpa using h) h2.2]
theorem open_spec {s : Str} (hl : s.length ≤ 1048576) : Ev (fun m => spec_l01Open_m m s) ((pre 40 s).length : Int) := by
  unfold spec_l01Open_m
  refine Exists.elim (EvI.count (step := _) s.length (fun k (_ : Unit) => (k : Int)) (fun k _ => (40 : UInt8) ∉ s.take k)
    (fun r => r = .inr ((pre 40 s).length : Int) ∨ (r = .inl () ∧ (pre 40 s).length = s.length)) ?_ ?_ (k := 0) (t := ()) (Nat.zero_le _) (by simp))
    (fun res ⟨h1, h2⟩ => Ev.bind h1.ev (by
      rcases h2 with rfl | ⟨rfl, h⟩
      · exact Ev.pure _
      · exact (Ev.pure _).eq (by rw [h])))
  · intro k t hk hI
    obtain ⟨b, hb⟩ := get_lt hk
    have hk' : decide ((k : Int) < (s.length : Int)) = true := by simpa using hk
    by_cases h : b = 40
    · subst h
      exact .inr ⟨_, Ev.ite_t hk' (Ev.bindc (idx_at hb) (Ev.ite_t (by rfl) (Ev.pure _))), .inl (by rw [pre_hit s k hb hI])⟩
    · refine .inl ⟨(), Ev.ite_t hk' (Ev.bindc (idx_at hb) (Ev.ite_f ?_ (Ev.const (by rw [W_succ hk (by omega)])))), ?_⟩
      · intro g
        have := beq_iff_eq.1 g
        exact h (UInt8.toNat_inj.1 (show b.toNat = 40 by omega))
      · rw [List.take_add_one, hb]
        simp [hI, Ne.symm h]
  · intro t hI
    rw [List.take_length] at hI
    exact ⟨_, Ev.ite_f (by simp) (Ev.pure _), .inr ⟨rfl, (pre_full 40 s).2 hI⟩⟩

def lsp : (List Int) ⊕ ((List Int) × Bool) → (List Int) × Bool
  | .inl xs => (xs, decide ((xs.length : Int) ≤ 2))
  | .inr q => q
theorem lsp_ctl {res : (List Int) ⊕ ((List Int) × Bool)} : ctl (β := (List Int)) (ρ := ((List Int) × Bool)) (τ := ((List Int) × Bool)) res (fun (xs140) => some ((xs140, (decide ((xs140.length : Int) ≤ (2 : Int)))))) (fun q => some (q)) = some (lsp res) := by cases res <;> rfl
theorem vals_loop {ps : List Str} (hl : ps.length ≤ 1048577) (hw : ∀ w ∈ ps, w.length ≤ 1048576) :
    Ev (fun fuel => iter (fun (s : (List Int) × (Int)) => (match s with | (xs104, x106) => (if (decide (x106 < (ps.length : Int))) = true then (idx ps x106).bind fun x151 => (spec_l01Number_m fuel x151).bind fun x158 => (if (!x158.2) = true then some true else (spec_l00In_m fuel x158.1 (0 : Int) (63 : Int)).bind fun x166 => some (!x166)).bind fun t161 => (if t161 = true then some (.inr (.inr ([], false))) else (app xs104 [x158.1]).bind fun x174 => some (.inl (x174, (W (x106 + (1 : Int)))))) else some (.inr (.inl (xs104)))) : Option (((List Int) × (Int)) ⊕ (((List Int)) ⊕ (((List Int) × Bool)))))) fuel (([] : List Int), (0 : Int)))
      (if valsOk ps = true then .inl (ps.map numV) else .inr ([], false)) := by
  have hm := mx
  refine Exists.elim (EvI.count (β := (List Int) ⊕ ((List Int) × Bool)) (step := fun fuel (s : (List Int) × (Int)) => (match s with | (xs104, x106) => (if (decide (x106 < (ps.length : Int))) = true then (idx ps x106).bind fun x151 => (spec_l01Number_m fuel x151).bind fun x158 => (if (!x158.2) = true then some true else (spec_l00In_m fuel x158.1 (0 : Int) (63 : Int)).bind fun x166 => some (!x166)).bind fun t161 => (if t161 = true then some (.inr (.inr ([], false))) else (app xs104 [x158.1]).bind fun x174 => some (.inl (x174, (W (x106 + (1 : Int)))))) else some (.inr (.inl (xs104)))) : Option (((List Int) × (Int)) ⊕ (((List Int)) ⊕ (((List Int) × Bool))))))
    ps.length (fun k (_ : Unit) => ((ps.take k).map numV, (k : Int))) (fun k _ => valsOk (ps.take k) = true)
    (fun r => r = (if valsOk ps = true then .inl (ps.map numV) else .inr ([], false))) ?_ ?_ (k := 0) (t := ()) (Nat.zero_le _) rfl)
    (fun res ⟨h3, h4⟩ => by subst h4; exact h3.ev)
  · intro k t hk hI
    obtain ⟨w, hw'⟩ := get_lt hk
    have hk' : decide ((k : Int) < (ps.length : Int)) = true := by simpa using hk
    have htk : ps.take (k + 1) = ps.take k ++ [w] := by rw [List.take_add_one, hw']; rfl
    have hwl := hw w (List.mem_of_getElem? hw')
    have hnum := num_spec (w := w) (by omega)
    have hcc : ∀ m : Nat, (if (!numB w) = true then some true else (spec_l00In_m m (numV w) (0 : Int) (63 : Int)).bind fun x166 => some (!x166)) = some (!(numB w && val63 (numV w))) := fun m => by
      rw [l00In_eq, Option.bind_some, or_some]
      cases numB w <;> rfl
    by_cases hv : (numB w && val63 (numV w)) = true
    · left
      refine ⟨(), Ev.ite_t hk' (Ev.bindc (idx_at hw') (Ev.bind hnum (Ev.bind (Ev.const' hcc) (Ev.ite_f (by rw [hv]; simp) (Ev.bindc (app_ok (by simp; omega)) (Ev.const ?_)))))), ?_⟩
      · rw [W_succ hk (by omega), htk, List.map_append]; rfl
      · unfold valsOk at hI ⊢
        rw [htk, List.all_append, hI]
        simp only [List.all_cons, List.all_nil, Bool.and_true, Bool.true_and]
        exact hv
    · right
      have hv' : (numB w && val63 (numV w)) = false := by simpa using hv
      refine ⟨_, Ev.ite_t hk' (Ev.bindc (idx_at hw') (Ev.bind hnum (Ev.bind (Ev.const' hcc) (Ev.ite_t (by rw [hv']; rfl) (Ev.pure _))))), ?_⟩
      rw [if_neg]
      intro h
      unfold valsOk at h
      rw [List.all_eq_true] at h
      exact hv (h w (List.mem_of_getElem? hw'))
  · intro t hI
    refine ⟨_, Ev.ite_f (by simp) (Ev.pure _), ?_⟩
    rw [List.take_length] at *
    rw [if_pos hI]

theorem label_spec {s : Str} (hl : s.length ≤ 1048576) : Ev (fun m => spec_l01Label_m m s) (labelP s) := by
  have hm := mx
  unfold spec_l01Label_m
  suffices h : ∃ r, Ev (fun m => spec_l01Values_m m s) r ∧ r.2 = labelP s by
    obtain ⟨r, h1, h2⟩ := h
    exact Ev.bind h1 (Ev.const (by rw [h2]))
  unfold spec_l01Values_m labelP
  by_cases hc : (40 : UInt8) ∈ s
  · have hp := pre_len 40 s
    have hpn : (pre 40 s).length ≠ s.length := fun h => (pre_full 40 s).1 h hc
    have hs0 : sub s (0 : Int) ((pre 40 s).length : Int) = some (pre 40 s) := by
      have := sub_ok (xs := s) (lo := 0) (hi := (pre 40 s).length) (Nat.zero_le _) hp
      rw [pre_take] at this
      exact this
    have hpos : 0 < s.length := by omega
    obtain ⟨b, hb⟩ := get_lt (xs := s) (k := s.length - 1) (by omega)
    have hlast : s.getLast? = some b := by rw [List.getLast?_eq_getElem?]; exact hb
    have hw1 : W ((s.length : Int) - 1) = ((s.length - 1 : Nat) : Int) := by rw [W_of (by omega) (by omega)]; omega
    rw [if_pos hc]
    have hbase : ∀ {r} (_ : Ev (fun m => (if (!actP (pre 40 s)) = true then some true else (idx s (W ((s.length : Int) - (1 : Int)))).bind fun b55 => some ((b55.toNat : Int) != (41 : Int))) ) r), r = !(actP (pre 40 s) && decide (s.getLast? = some 41)) := by
      intro r h
      obtain ⟨n, hn⟩ := h.one
      rw [hw1, idx_at hb] at hn
      simp only [Option.bind_some, or_some, Option.some.injEq] at hn
      rw [← hn, hlast]
      cases actP (pre 40 s)
      · rfl
      · simp only [Bool.not_true, Bool.false_or, Bool.true_and]
        by_cases h41 : b = 41
        · rw [h41]; rfl
        · rw [decide_eq_false (by simpa using h41)]
          have : ((b.toNat : Int) != 41) = true := by
            rw [bne_iff_ne]
            intro g
            exact h41 (UInt8.toNat_inj.1 (show b.toNat = 41 by omega))
          rw [this]; rfl
    have hcond : ∀ m : Nat, (if (!actP (pre 40 s)) = true then some true else (idx s (W ((s.length : Int) - (1 : Int)))).bind fun b55 => some ((b55.toNat : Int) != (41 : Int))) = some (!(actP (pre 40 s) && decide (s.getLast? = some 41))) := by
      intro m
      have e : (if (!actP (pre 40 s)) = true then some true else (idx s (W ((s.length : Int) - (1 : Int)))).bind fun b55 => some ((b55.toNat : Int) != (41 : Int))) = some ((!actP (pre 40 s)) || ((b.toNat : Int) != (41 : Int))) := by rw [hw1, idx_at hb, Option.bind_some, or_some]
      rw [e]
      exact congrArg some (hbase (Ev.const e))
    by_cases h1 : (actP (pre 40 s) && decide (s.getLast? = some 41)) = true
    · have h41 : s.getLast? = some 41 := of_decide_eq_true (Bool.and_eq_true _ _ ▸ h1).2
      have hsl := (last_eq hc).1 h41
      have hsn : suf 40 s ≠ [] := fun e => by rw [e] at hsl; cases hsl
      have hsl2 : (suf 40 s).length = s.length - ((pre 40 s).length + 1) := by unfold suf; simp
      have hsp := List.length_pos_iff.2 hsn
      have hsub : sub s (W (((pre 40 s).length : Int) + 1)) (W ((s.length : Int) - 1)) = some (suf 40 s).dropLast := by
        rw [hw1, W_of (by omega) (by omega), show (((pre 40 s).length : Int) + 1) = (((pre 40 s).length + 1 : Nat) : Int) from rfl, sub_ok (by omega) (by omega), List.drop_take, List.dropLast_eq_take, hsl2]
        unfold suf
        congr 2
        omega
      have hpl : (splitC 44 (suf 40 s).dropLast).length ≤ s.length := by have := splitC_len 44 (suf 40 s).dropLast; simp at this; omega
      rw [h1, Bool.true_and]
      refine ⟨_, Ev.bind (open_spec hl) (Ev.ite_f (by intro g; have := beq_iff_eq.1 g; omega) (Ev.bindc hs0 (Ev.bind (act_spec (by omega)) (Ev.bind (Ev.const' hcond) (Ev.ite_f (by rw [h1]; simp) (Ev.bindc hsub (Ev.bind (split_spec (by simp; omega)) (Ev.bind (vals_loop (by omega) (fun w hw => ?_)) (Ev.const' fun m => lsp_ctl))))))))), ?_⟩
      · have := splitC_mem 44 _ w hw
        simp at this
        omega
      · by_cases hv : valsOk (splitC 44 (suf 40 s).dropLast) = true
        · rw [if_pos hv, hv, Bool.true_and]
          exact decide_eq_decide.2 (by simp; omega)
        · rw [if_neg hv]
          have : valsOk (splitC 44 (suf 40 s).dropLast) = false := by simpa using hv
          rw [this]
          rfl
    · refine ⟨_, Ev.bind (open_spec hl) (Ev.ite_f (by intro g; have := beq_iff_eq.1 g; omega) (Ev.bindc hs0 (Ev.bind (act_spec (by omega)) (Ev.bind (Ev.const' hcond) (Ev.ite_t (by rw [Bool.not_eq_true']; exact Bool.eq_false_iff.2 h1) (Ev.pure _)))))), ?_⟩
      have : (actP (pre 40 s) && decide (s.getLast? = some 41)) = false := by simpa using h1
      rw [this]
      rfl
  · rw [if_neg hc]
    exact ⟨_, Ev.bind (open_spec hl) (Ev.ite_t (by rw [(pre_full 40 s).2 hc]; simp) (Ev.bind (name_spec (by omega)) (Ev.pure _))), rfl⟩
/-! ### the order of texts -/
theorem bl_irr : ∀ a : Str, Op.bytesLess a a = false
  | [] => rfl
  | x :: a => by simp [Op.bytesLess, bl_irr a]
theorem bl_asym : ∀ a b : Str, Op.bytesLess a b = true → Op.bytesLess b a = false
  | _, [], h => by simp [Op.bytesLess] at h
  | [], _ :: _, _ => by simp [Op.bytesLess]
  | x :: a, y :: b, h => by
    simp only [Op.bytesLess, Bool.or_eq_true, Bool.and_eq_true, decide_eq_true_eq, beq_iff_eq] at h
    rcases h with h | ⟨rfl, h⟩
    · have h1 : ¬ y < x := fun h' => by rw [UInt8.lt_iff_toNat_lt] at h h'; omega
      have h2 : ¬ y = x := fun h' => by subst h'; rw [UInt8.lt_iff_toNat_lt] at h; omega
      simp [Op.bytesLess, h1, h2]
    · have := bl_asym a b h
      have h1 : ¬ x < x := fun h' => by rw [UInt8.lt_iff_toNat_lt] at h'; omega
      simp [Op.bytesLess, h1, this]
theorem bl_tri : ∀ a b : Str, Op.bytesLess a b = false → Op.bytesLess b a = false → a = b
  | [], [], _, _ => rfl
  | [], _ :: _, h, _ => by simp [Op.bytesLess] at h
  | _ :: _, [], _, h => by simp [Op.bytesLess] at h
  | x :: a, y :: b, h1, h2 => by
    simp only [Op.bytesLess, Bool.or_eq_false_iff, Bool.and_eq_false_iff, decide_eq_false_iff_not, beq_eq_false_iff_ne] at h1 h2
    have e : x = y := by
      apply UInt8.toNat_inj.1
      have l1 := h1.1
      have l2 := h2.1
      rw [UInt8.lt_iff_toNat_lt] at l1 l2
      omega
    subst e
    have g1 : Op.bytesLess a b = false := h1.2.resolve_left (fun h => h rfl)
    have g2 : Op.bytesLess b a = false := h2.2.resolve_left (fun h => h rfl)
    rw [bl_tri a b g1 g2]
theorem bl_le (s p : Str) : (Op.bytesLess s p || s == p) = !Op.bytesLess p s := by
  cases h : Op.bytesLess p s with
  | true =>
    have h1 := bl_asym p s h
    have h2 : (s == p) = false := by
      rw [beq_eq_false_iff_ne]
      rintro rfl
      rw [bl_irr] at h
      cases h
    rw [h1, h2]; rfl
  | false =>
    cases h1 : Op.bytesLess s p with
    | true => rfl
    | false => rw [bl_tri s p h1 h]; simp

/-! ### valid systems -/
def tau' : Str := [116, 97, 117]
def condX (ls : List Str) (k : Nat) (b : Str → Bool) : Bool := match ls[k]? with
  | none => false
  | some s => !labelP s || (b s || (decide ((1 : Int) < (k : Int)) && (match ls[k - 1]? with | none => false | some p => !Op.bytesLess p s)))
def okL (ls : List Str) (k : Nat) : Bool := !condX ls k fun s => (s == tau') != ((k : Int) == 0)
def labsP (ls : List Str) : Bool := decide (1 ≤ ls.length) && decide (ls.length ≤ 12) && decide (∀ k, k < ls.length → okL ls k = true)
def edgeLess (a b : Timpl_Edge) : Bool := if a.1 ≠ b.1 then decide (a.1 < b.1) else if a.2.1 ≠ b.2.1 then decide (a.2.1 < b.2.1) else decide (a.2.2 < b.2.2)
def inn (a b c : Int) : Bool := decide (b ≤ a) && decide (a ≤ c)
def condE (n m : Int) (es : List Timpl_Edge) (k : Nat) : Bool := match es[k]? with
  | none => false
  | some e => (!inn e.1 0 n || !inn e.2.2 0 n) || (!inn e.2.1 0 m || (decide ((0 : Int) < (k : Int)) && (match es[k - 1]? with | none => false | some p => !edgeLess p e)))
def edgesP (n m : Int) (es : List Timpl_Edge) : Bool := decide (es.length ≤ 300) && decide (∀ k, k < es.length → (!condE n m es k) = true)
def validP (t : Timpl_Lts) : Bool := inn t.1 1 40 && inn t.2.1 0 (W (t.1 - 1)) && labsP t.2.2.1 && edgesP (W (t.1 - 1)) (W ((t.2.2.1.length : Int) - 1)) t.2.2.2

theorem compare_m {m : Nat} {a b : Int} : cmp_Compare_int64_m m a b = some (if a < b then -1 else if b < a then 1 else 0) := by
  unfold cmp_Compare_int64_m cmp_isNaN_int64_m
  simp
  split
  · rfl
  · split <;> rfl
theorem or3 (x y z : Int) : Ev (fun m => cmp_Or_int_m m [x, y, z]) (if x ≠ 0 then x else if y ≠ 0 then y else z) := by
  unfold cmp_Or_int_m
  refine Exists.elim (EvI.find (step := _) 3 (fun k => ([x, y, z][k]?).getD 0 == 0) (fun k => ([x, y, z][k]?).getD 0) (fun k hk hok => ?_) (fun k hk hok => ?_) (Ev.const rfl) (Nat.zero_le _)) (fun res ⟨g1, g2⟩ => Ev.bind g1.ev ?_)
  · obtain ⟨v, hv⟩ := get_lt (xs := [x, y, z]) (k := k) hk
    have hk' : decide ((k : Int) < (([x, y, z] : List Int).length : Int)) = true := decide_eq_true (by simp; omega)
    have h0 : v = 0 := by rw [hv] at hok; simpa using hok
    refine Ev.ite_t hk' (Ev.bindc (idx_at hv) (Ev.ite_f (by rw [h0]; simp) (Ev.const ?_)))
    rw [W_succ hk (by omega)]
  · obtain ⟨v, hv⟩ := get_lt (xs := [x, y, z]) (k := k) hk
    have hk' : decide ((k : Int) < (([x, y, z] : List Int).length : Int)) = true := decide_eq_true (by simp; omega)
    have h0 : v ≠ 0 := by rw [hv] at hok; simpa using hok
    refine Ev.ite_t hk' (Ev.bindc (idx_at hv) (Ev.ite_t (by simpa using h0) (Ev.const ?_)))
    rw [hv]; rfl
  · rcases g2 with ⟨rfl, h⟩ | ⟨k, _, hk, hok, hj, rfl⟩
    · have h0 := h 0 (Nat.zero_le _) (by omega)
      have h1 := h 1 (Nat.zero_le _) (by omega)
      have h2 := h 2 (Nat.zero_le _) (by omega)
      simp at h0 h1 h2
      subst h0; subst h1; subst h2
      exact Ev.const rfl
    · match k, hk with
      | 0, _ => simp at hok; exact Ev.const (by rw [ctl_r]; simp [hok])
      | 1, _ =>
        have h0 := hj 0 (Nat.zero_le _) (by omega)
        simp at hok h0
        exact Ev.const (by rw [ctl_r]; simp [hok, h0])
      | 2, _ =>
        have h0 := hj 0 (Nat.zero_le _) (by omega)
        have h1 := hj 1 (Nat.zero_le _) (by omega)
        simp at hok h0 h1
        exact Ev.const (by rw [ctl_r]; simp [h0, h1])
theorem edges_cmp (a b : Timpl_Edge) : ∃ r : Int, Ev (fun m => impl_compareEdges_m m a b) r ∧ decide (0 ≤ r) = !edgeLess a b := by
  unfold impl_compareEdges_m edgeLess
  simp only [compare_m, Option.bind_some]
  obtain ⟨a1, a2, a3⟩ := a
  obtain ⟨b1, b2, b3⟩ := b
  refine ⟨_, Ev.bind (or3 _ _ _) (Ev.pure _), ?_⟩
  simp only []
  rcases Int.lt_trichotomy a1 b1 with h | h | h
  · have h1 : a1 ≠ b1 := by omega
    simp [h, h1]
  · subst h
    rcases Int.lt_trichotomy a2 b2 with h | h | h
    · have h1 : a2 ≠ b2 := by omega
      simp [h, h1]
    · subst h
      rcases Int.lt_trichotomy a3 b3 with h | h | h
      · simp [h]
      · subst h; simp
      · have h1 : ¬ a3 < b3 := by omega
        simp [h, h1]
    · have h1 : a2 ≠ b2 := by omega
      have h2 : ¬ a2 < b2 := by omega
      simp [h, h1, h2]
  · have h1 : a1 ≠ b1 := by omega
    have h2 : ¬ a1 < b1 := by omega
    simp [h, h1, h2]
theorem less_m {m : Nat} {a b : Timpl_Edge} : spec_l11Less_m m a b = some (edgeLess a b) := by
  unfold spec_l11Less_m edgeLess
  by_cases h1 : a.1 = b.1
  · by_cases h2 : a.2.1 = b.2.1
    · simp [h1, h2]
    · simp [h1, h2]
  · simp [h1]

theorem isState_m {m : Nat} {t : Timpl_Lts} {k : Int} : impl_Lts_isState_m m t k = some (inn k 0 (W (t.1 - 1))) := by
  unfold impl_Lts_isState_m
  rw [within_eq]; rfl

theorem names_spec {ls : List Str} (hl : ls.length ≤ 1048576) (hs : ∀ s ∈ ls, s.length ≤ 1048576) : Ev (fun m => spec_l11Names_m m ls) (labsP ls) := by
  have hm := mx
  unfold spec_l11Names_m
  by_cases h0 : ls.length = 0
  · have e : ((ls.length : Int) == 0) = true := by rw [h0]; rfl
    refine Ev.eq (r := false) (Ev.const' fun m => by simp only [e, if_true, Option.bind_some]) ?_
    unfold labsP
    rw [decide_eq_false (show ¬ 1 ≤ ls.length by omega)]; rfl
  · have e : ((ls.length : Int) == 0) = false := beq_false_of_ne (by omega)
    by_cases h1 : 12 < ls.length
    · have e1 : decide ((12 : Int) < (ls.length : Int)) = true := decide_eq_true (by omega)
      refine Ev.eq (r := false) (Ev.const' fun m => by simp only [e, e1, if_true, Bool.false_eq_true, if_false, Option.bind_some]) ?_
      unfold labsP
      rw [decide_eq_false (show ¬ ls.length ≤ 12 by omega)]; simp
    · have e1 : decide ((12 : Int) < (ls.length : Int)) = false := decide_eq_false (by omega)
      obtain ⟨s0, hs0⟩ := get_lt (xs := ls) (k := 0) (by omega)
      have hi : idx ls (0 : Int) = some s0 := idx_at (k := 0) hs0
      have hlab : labsP ls = decide (∀ k, k < ls.length → okL ls k = true) := by
        unfold labsP
        rw [decide_eq_true (show 1 ≤ ls.length by omega), decide_eq_true (show ls.length ≤ 12 by omega)]; rfl
      rw [hlab]
      by_cases h2 : s0 = tau'
      · have e2 : (s0 != ([116, 97, 117] : Str)) = false := by rw [h2]; rfl
        refine Ev.bindc (a := false) (by simp only [e, e1, Bool.false_eq_true, if_false]) (Ev.bindc (a := false) (by simp only [hi, e2, Bool.false_eq_true, if_false, Option.bind_some]) (Ev.ite_f (by simp) ?_))
        have cond : ∀ k s, k < ls.length → ls[k]? = some s → Ev (fun m => (spec_l01Label_m m s).bind fun x140 => (if (!x140) = true then some true else (idx ls (k : Int)).bind fun x146 => some (x146 == ([116, 97, 117] : Str))).bind fun t143 => (if t143 = true then some true else (if (decide ((1 : Int) < (k : Int))) = true then (idx ls (W ((k : Int) - (1 : Int)))).bind fun x157 => (idx ls (k : Int)).bind fun x162 => some (!Op.bytesLess x157 x162) else some false).bind fun t154 => some t154).bind fun t151 => (if t151 = true then some (.inr (.inr false)) else some (.inl ((W ((k : Int) + (1 : Int))))) : Option (Int ⊕ (Unit ⊕ Bool)))) (if condX ls k (fun s => s == tau') = true then .inr (.inr false) else .inl ((k + 1 : Nat) : Int)) := by
          intro k s hk hs'
          refine Ev.bind (label_spec (hs s (List.mem_of_getElem? hs'))) (Ev.const ?_)
          unfold condX
          rw [hs']
          cases k with
          | zero =>
            simp only [idx_at hs', Option.bind_some, or_some, show decide ((1 : Int) < ((0 : Nat) : Int)) = false from rfl, Bool.false_eq_true, if_false, W_succ hk (by omega), Bool.false_and, Bool.or_false]
            rw [ite_some]
            rfl
          | succ j =>
            obtain ⟨p, hp⟩ := get_lt (xs := ls) (k := j) (by omega)
            have w2 := W_pred (k := j) (n := ls.length) (by omega) (by omega)
            simp only [idx_at hs', hp, w2, idx_at hp, Option.bind_some, or_some, and_some, W_succ hk (by omega), Nat.add_sub_cancel]
            rw [ite_some, Bool.or_assoc]
            rfl
        refine Exists.elim (EvI.find (step := _) ls.length (fun k => !condX ls k fun s => s == tau') (fun _ => false) (fun k hk hok => ?_) (fun k hk hok => ?_) (Ev.ite_f (by simp) (Ev.pure _)) (s := 1) (by omega)) (fun res ⟨g1, g2⟩ => Ev.bind g1.ev ?_)
        · obtain ⟨s, hs'⟩ := get_lt hk
          have hk' : decide ((k : Int) < (ls.length : Int)) = true := by simpa using hk
          have hc : (condX ls k fun s => s == tau') = false := by rwa [Bool.not_eq_true'] at hok
          exact Ev.ite_t hk' (Ev.bindc (idx_at hs') ((cond k s hk hs').eq (by rw [hc]; rfl)))
        · obtain ⟨s, hs'⟩ := get_lt hk
          have hk' : decide ((k : Int) < (ls.length : Int)) = true := by simpa using hk
          have hc : (condX ls k fun s => s == tau') = true := by rwa [Bool.not_eq_false'] at hok
          exact Ev.ite_t hk' (Ev.bindc (idx_at hs') ((cond k s hk hs').eq (by rw [hc]; rfl)))
        · have hrel : ∀ k, 1 ≤ k → (!condX ls k fun s => s == tau') = okL ls k := by
            intro k hk1
            unfold okL condX
            have : ((k : Int) == 0) = false := beq_false_of_ne (by omega)
            rw [this]
            simp only [Bool.bne_false]
          have h0k : okL ls 0 = true := by
            unfold okL condX
            rw [hs0, h2]
            have : labelP tau' = true := by unfold labelP; rw [if_neg (by decide)]; exact name_tau
            simp only [this]
            rfl
          rcases g2 with ⟨rfl, h⟩ | ⟨k, hk1, hk, hok, _, rfl⟩
          · refine (Ev.pure _).eq (decide_eq_true fun k hk => ?_).symm
            cases k with
            | zero => exact h0k
            | succ j => rw [← hrel _ (by omega)]; exact h _ (by omega) hk
          · refine (Ev.pure _).eq (decide_eq_false fun h => ?_).symm
            rw [hrel k hk1, h k hk] at hok
            cases hok
      · have e2 : (s0 != ([116, 97, 117] : Str)) = true := bne_iff_ne.2 h2
        refine Ev.eq (r := false) (Ev.const' fun m => by simp only [e, e1, hi, e2, if_true, Bool.false_eq_true, if_false, Option.bind_some]) ?_
        rw [decide_eq_false]
        intro h
        have := h 0 (by omega)
        unfold okL condX at this
        rw [hs0] at this
        have e3 : (s0 == tau') = false := beq_false_of_ne h2
        simp [e3] at this

/-! ### edges -/
theorem valid_spec {t : Timpl_Lts} (hl : t.2.2.1.length ≤ 1048576) (hs : ∀ s ∈ t.2.2.1, s.length ≤ 1048576) (he : t.2.2.2.length ≤ 1048576) : Ev (fun m => spec_l11Is_m m t) (validP t) := by
  have hm := mx
  unfold spec_l11Is_m validP
  simp only [l00In_eq, Option.bind_some]
  cases h1 : inn t.1 1 40
  · unfold inn at h1
    exact Ev.eq (r := false) (Ev.const' fun m => by simp only [h1, Bool.not_false, if_true, Option.bind_some]) rfl
  · unfold inn at h1
    cases h2 : inn t.2.1 0 (W (t.1 - 1))
    · unfold inn at h2
      exact Ev.eq (r := false) (Ev.const' fun m => by simp only [h1, h2, Bool.not_false, Bool.not_true, Bool.false_eq_true, if_true, if_false, Option.bind_some]) rfl
    · unfold inn at h2
      simp only [h1, h2, Bool.not_true, Bool.false_eq_true, if_false, Option.bind_some]
      refine Ev.bind (Ev.bind (names_spec hl hs) (Ev.pure _)) ?_
      cases h3 : labsP t.2.2.1
      · exact Ev.eq (r := false) (Ev.const' fun m => by simp only [Bool.not_false, if_true, Option.bind_some]) rfl
      · simp only [Bool.not_true, Bool.false_eq_true, if_false, Option.bind_some, Bool.and_true, Bool.true_and]
        unfold edgesP
        by_cases h4 : 300 < t.2.2.2.length
        · rw [decide_eq_false (show ¬ t.2.2.2.length ≤ 300 by omega)]
          exact Ev.ite_t (decide_eq_true (by omega)) (Ev.pure _)
        · rw [decide_eq_true (show t.2.2.2.length ≤ 300 by omega), Bool.true_and]
          refine Ev.ite_f (by simp; omega) ?_
          have cond : ∀ k e, k < t.2.2.2.length → t.2.2.2[k]? = some e → (if (!(decide ((0 : Int) ≤ e.1) && decide (e.1 ≤ W (t.1 - 1)))) = true then some true else some (!(decide ((0 : Int) ≤ e.2.2) && decide (e.2.2 ≤ W (t.1 - 1))))) = some (!inn e.1 0 (W (t.1 - 1)) || !inn e.2.2 0 (W (t.1 - 1))) := fun k e _ _ => by rw [or_some]; rfl
          have c3 : ∀ k e, k < t.2.2.2.length → t.2.2.2[k]? = some e → (if (decide ((0 : Int) < (k : Int))) = true then (idx t.2.2.2 (W ((k : Int) - (1 : Int)))).bind fun x261 => some (!edgeLess x261 e) else some false) = some (decide ((0 : Int) < (k : Int)) && (match t.2.2.2[k - 1]? with | none => false | some p => !edgeLess p e)) := by
            intro k e hk he'
            cases k with
            | zero => rfl
            | succ j =>
              obtain ⟨p, hp⟩ := get_lt (xs := t.2.2.2) (k := j) (by omega)
              rw [W_pred (k := j) (n := t.2.2.2.length) (by omega) (by omega), idx_at hp, Nat.add_sub_cancel, hp, Option.bind_some, and_some]
          refine (Ev.all t.2.2.2.length (fun k => !condE (W (t.1 - 1)) (W ((t.2.2.1.length : Int) - 1)) t.2.2.2 k) false true (fun k hk hok => Ev.const' fun m => ?_) (fun k hk hok => Ev.const' fun m => ?_) (Ev.ite_f (by simp) (Ev.pure _))).eq (by split <;> simp_all)
          · obtain ⟨e, he'⟩ := get_lt hk
            have hk' : decide ((k : Int) < (t.2.2.2.length : Int)) = true := by simpa using hk
            have hc : condE (W (t.1 - 1)) (W ((t.2.2.1.length : Int) - 1)) t.2.2.2 k = false := by rwa [Bool.not_eq_true'] at hok
            unfold condE at hc
            rw [he'] at hc
            simp only [Bool.or_eq_false_iff] at hc
            obtain ⟨⟨g1, g2⟩, g3, g4⟩ := hc
            unfold inn at g1 g2 g3
            simp only [hk', if_true, idx_at he', Option.bind_some, g1, g2, g3, Bool.false_eq_true, if_false, less_m, c3 k e hk he', g4, W_succ hk (by omega)]
          · obtain ⟨e, he'⟩ := get_lt hk
            have hk' : decide ((k : Int) < (t.2.2.2.length : Int)) = true := by simpa using hk
            have hc : condE (W (t.1 - 1)) (W ((t.2.2.1.length : Int) - 1)) t.2.2.2 k = true := by rwa [Bool.not_eq_false'] at hok
            unfold condE at hc
            rw [he'] at hc
            simp only [hk', if_true, idx_at he', Option.bind_some, or_some, less_m]
            cases ha : (!(decide ((0 : Int) ≤ e.1) && decide (e.1 ≤ W (t.1 - 1))) || !(decide ((0 : Int) ≤ e.2.2) && decide (e.2.2 ≤ W (t.1 - 1))))
            · cases hb : (!(decide ((0 : Int) ≤ e.2.1) && decide (e.2.1 ≤ W ((t.2.2.1.length : Int) - 1))))
              · have hd : (decide ((0 : Int) < (k : Int)) && (match t.2.2.2[k - 1]? with | none => false | some p => !edgeLess p e)) = true := by
                  unfold inn at hc
                  simp only [ha, hb, Bool.false_or] at hc
                  exact hc
                simp only [Bool.false_or, Bool.false_eq_true, if_false, c3 k e hk he', hd, Option.bind_some, if_true]
              · simp only [Bool.false_or, if_true]
            · simp only [Bool.true_or, if_true]
structure VL (t : Timpl_Lts) (n : Nat) : Prop where
  st : t.1 = (n : Int)
  pos : 1 ≤ n
  top : n ≤ 40
  ini : 0 ≤ t.2.1 ∧ t.2.1 < (n : Int)
  labs : 1 ≤ t.2.2.1.length ∧ t.2.2.1.length ≤ 12
  lab : ∀ k, k < t.2.2.1.length → okL t.2.2.1 k = true
  few : t.2.2.2.length ≤ 300
  src : ∀ e ∈ t.2.2.2, 0 ≤ e.1 ∧ e.1 < (n : Int)
  dst : ∀ e ∈ t.2.2.2, 0 ≤ e.2.2 ∧ e.2.2 < (n : Int)
  lbl : ∀ e ∈ t.2.2.2, 0 ≤ e.2.1 ∧ e.2.1 < (t.2.2.1.length : Int)
  ord : ∀ (k : Nat) (p e : Timpl_Edge), t.2.2.2[k]? = some p → t.2.2.2[k + 1]? = some e → edgeLess p e = true

theorem valid_of {t : Timpl_Lts} (h : validP t = true) : ∃ n, VL t n := by
  unfold validP edgesP labsP at h
  simp only [Bool.and_eq_true] at h
  obtain ⟨⟨⟨h1, h2⟩, ⟨h3, h4⟩, h5⟩, h6, h7⟩ := h
  unfold inn at h1 h2
  simp only [Bool.and_eq_true, decide_eq_true_eq] at h1 h2 h3 h4 h5 h6 h7
  have hw : W (t.1 - 1) = t.1 - 1 := W_of (by omega) (by omega)
  have hw2 : W ((t.2.2.1.length : Int) - 1) = (t.2.2.1.length : Int) - 1 := W_of (by omega) (by omega)
  rw [hw] at h2 h7
  rw [hw2] at h7
  have key : ∀ (k : Nat) (e : Timpl_Edge), t.2.2.2[k]? = some e → ((0 ≤ e.1 ∧ e.1 ≤ t.1 - 1) ∧ (0 ≤ e.2.2 ∧ e.2.2 ≤ t.1 - 1)) ∧ (0 ≤ e.2.1 ∧ e.2.1 ≤ (t.2.2.1.length : Int) - 1) ∧ ∀ (j : Nat) (p : Timpl_Edge), k = j + 1 → t.2.2.2[j]? = some p → edgeLess p e = true := by
    intro k e he
    have hk := (List.getElem?_eq_some_iff.1 he).1
    have h := h7 k hk
    unfold condE inn at h
    rw [he] at h
    simp only [Bool.not_eq_true', Bool.or_eq_false_iff, Bool.not_eq_false', Bool.and_eq_true, decide_eq_true_eq] at h
    obtain ⟨⟨a, b⟩, c, d⟩ := h
    refine ⟨⟨a, b⟩, c, fun j p hj hp => ?_⟩
    subst hj
    have hpos : decide ((0 : Int) < ((j + 1 : Nat) : Int)) = true := decide_eq_true (by omega)
    rw [hpos, Bool.true_and, Nat.add_sub_cancel, hp] at d
    simpa using d
  have ofm : ∀ e ∈ t.2.2.2, ((0 ≤ e.1 ∧ e.1 ≤ t.1 - 1) ∧ (0 ≤ e.2.2 ∧ e.2.2 ≤ t.1 - 1)) ∧ (0 ≤ e.2.1 ∧ e.2.1 ≤ (t.2.2.1.length : Int) - 1) := by
    intro e he
    obtain ⟨k, hk, rfl⟩ := List.getElem_of_mem he
    obtain ⟨a, b, _⟩ := key k _ (List.getElem?_eq_getElem hk)
    exact ⟨a, b⟩
  refine ⟨t.1.toNat, ⟨by omega, by omega, by omega, by omega, ⟨h3, h4⟩, h5, h6, fun e he => ?_, fun e he => ?_, fun e he => ?_, fun k p e hp he => (key (k + 1) e he).2.2 k p rfl hp⟩⟩
  · have := (ofm e he).1.1; omega
  · have := (ofm e he).1.2; omega
  · have := (ofm e he).2; omega

/-! ### ways and distances -/
def pr (bk : Bool) (e : Timpl_Edge) : Int × Int := if bk = true then (e.2.2, e.1) else (e.1, e.2.2)
def Ws (n : Nat) (ps : List (Int × Int)) : Prop := ∀ e ∈ ps, (0 ≤ e.1 ∧ e.1 < (n : Int)) ∧ (0 ≤ e.2 ∧ e.2 < (n : Int))
def Rg (n : Nat) (fr : List Int) : Prop := ∀ v ∈ fr, 0 ≤ v ∧ v < (n : Int)
def Rch (ps : List (Int × Int)) (fr : List Int) : Nat → Int → Prop
  | 0, v => v ∈ fr
  | d + 1, v => ∃ e ∈ ps, Rch ps fr d e.1 ∧ e.2 = v
def Mn (ps : List (Int × Int)) (fr : List Int) (d : Nat) (v : Int) : Prop := Rch ps fr d v ∧ ∀ c, c < d → ¬ Rch ps fr c v
theorem VL.ws {t : Timpl_Lts} {n : Nat} (V : VL t n) (bk : Bool) : Ws n (t.2.2.2.map (pr bk)) := by
  intro e he
  obtain ⟨x, hx, rfl⟩ := List.mem_map.1 he
  have a := V.src x hx
  have b := V.dst x hx
  cases bk
  · exact ⟨a, b⟩
  · exact ⟨b, a⟩

section
variable {n : Nat} {ps : List (Int × Int)} {fr : List Int}
theorem mn_uniq {c d : Nat} {v : Int} (h : Mn ps fr c v) (h' : Mn ps fr d v) : c = d := by
  by_cases h1 : c < d
  · exact absurd h.1 (h'.2 c h1)
  · by_cases h2 : d < c
    · exact absurd h'.1 (h.2 d h2)
    · omega
theorem mn_pred {d : Nat} {v : Int} (h : Mn ps fr (d + 1) v) : ∃ e ∈ ps, Mn ps fr d e.1 ∧ e.2 = v := by
  obtain ⟨⟨e, he, h1, h2⟩, h3⟩ := h
  exact ⟨e, he, ⟨h1, fun c hc hr => h3 (c + 1) (by omega) ⟨e, he, hr, h2⟩⟩, h2⟩
theorem rch_rg (hw : Ws n ps) (hf : Rg n fr) : ∀ {d : Nat} {v : Int}, Rch ps fr d v → 0 ≤ v ∧ v < (n : Int)
  | 0, v, h => hf v h
  | d + 1, v, ⟨e, he, _, h2⟩ => by subst h2; exact (hw e he).2
structure Bfs (n : Nat) (ps : List (Int × Int)) (fr : List Int) (d : Nat) (f : Int → Int) (a b : List Int) : Prop where
  val : ∀ v, 0 ≤ v → v < (n : Int) → f v = -1 ∨ ∃ c : Nat, c ≤ d + 1 ∧ f v = (c : Int) ∧ Mn ps fr c v
  full : ∀ (v : Int) (c : Nat), c ≤ d → Mn ps fr c v → f v = (c : Int)
  one : ∀ u ∈ a, (0 ≤ u ∧ u < (n : Int)) ∧ f u = (d : Int)
  two : ∀ u ∈ b, (0 ≤ u ∧ u < (n : Int)) ∧ f u = (d : Int) + 1
  all : ∀ v, 0 ≤ v → v < (n : Int) → f v = (d : Int) + 1 → v ∈ b
  done : ∀ u, 0 ≤ u → u < (n : Int) → f u = (d : Int) → u ∉ a → ∀ e ∈ ps, e.1 = u → f e.2 ≠ -1

theorem Bfs.level (hw : Ws n ps) (hf : Rg n fr) {d : Nat} {f : Int → Int} {b : List Int} (h : Bfs n ps fr d f [] b) : Bfs n ps fr (d + 1) f b [] where
  val v h0 h1 := by
    rcases h.val v h0 h1 with q | ⟨c, q1, q⟩
    · exact .inl q
    · exact .inr ⟨c, by omega, q⟩
  full v c hc hm := by
    by_cases hd : c ≤ d
    · exact h.full v c hd hm
    obtain rfl : c = d + 1 := by omega
    obtain ⟨e, he, h1, h2⟩ := mn_pred hm
    have ra := rch_rg hw hf h1.1
    have rv := rch_rg hw hf hm.1
    have hx := h.done e.1 ra.1 ra.2 (h.full _ _ (Nat.le_refl _) h1) (by simp) e he rfl
    rw [h2] at hx
    rcases h.val v rv.1 rv.2 with q | ⟨c', _, q2, q3⟩
    · exact absurd q hx
    · rw [q2, mn_uniq q3 hm]
  one u hu := by have := h.two u hu; exact ⟨this.1, by rw [this.2]; rfl⟩
  two u hu := by cases hu
  all v h0 h1 hv := by
    rcases h.val v h0 h1 with q | ⟨c, q1, q, _⟩
    · rw [q] at hv; push_cast at hv; omega
    · rw [q] at hv; push_cast at hv; omega
  done u h0 h1 hu hn := absurd (h.all u h0 h1 (by rw [hu]; rfl)) hn

/-- In the middle of the edges. -/
structure BfsM (n : Nat) (ps : List (Int × Int)) (fr : List Int) (d : Nat) (u : Int) (r : List Int) (K i : Nat) (s : (Int → Int) × List Int) : Prop where
  at_ : s.1 u = (d : Int)
  tot : (tab n s.1).countP (fun x => decide (x < 0)) + s.2.length = K
  inv : ∃ b, s.2 = r ++ b ∧ (∀ v, 0 ≤ v → v < (n : Int) → s.1 v = -1 ∨ ∃ c : Nat, c ≤ d + 1 ∧ s.1 v = (c : Int) ∧ Mn ps fr c v) ∧ (∀ (v : Int) (c : Nat), c ≤ d → Mn ps fr c v → s.1 v = (c : Int)) ∧
    (∀ x ∈ r, (0 ≤ x ∧ x < (n : Int)) ∧ s.1 x = (d : Int)) ∧ (∀ x ∈ b, (0 ≤ x ∧ x < (n : Int)) ∧ s.1 x = (d : Int) + 1) ∧ (∀ v, 0 ≤ v → v < (n : Int) → s.1 v = (d : Int) + 1 → v ∈ b) ∧
    (∀ x, 0 ≤ x → x < (n : Int) → s.1 x = (d : Int) → x ∉ r → x ≠ u → ∀ e ∈ ps, e.1 = x → s.1 e.2 ≠ -1) ∧ ∀ (j : Nat) (e : Int × Int), j < i → ps[j]? = some e → e.1 = u → s.1 e.2 ≠ -1

def BfsI (n : Nat) (ps : List (Int × Int)) (fr : List Int) (s : (Int → Int) × List Int) : Prop :=
  (tab n s.1).countP (fun x => decide (x < 0)) + s.2.length ≤ n + fr.length ∧ ∃ d a b, s.2 = a ++ b ∧ Bfs n ps fr d s.1 a b

theorem BfsI.head (hw : Ws n ps) (hf : Rg n fr) {f : Int → Int} {u : Int} {r : List Int} (h : BfsI n ps fr (f, u :: r)) :
    ∃ d r', Mn ps fr d u ∧ (0 ≤ u ∧ u < (n : Int)) ∧ BfsM n ps fr d u r' ((tab n f).countP (fun x => decide (x < 0)) + r.length) 0 (f, r) ∧ ∀ s : (Int → Int) × List Int, BfsM n ps fr d u r' ((tab n f).countP (fun x => decide (x < 0)) + r.length) ps.length s → BfsI n ps fr s := by
  obtain ⟨hK, d, a, b, hab, hB⟩ := h
  simp only [List.length_cons] at hK
  have key : ∀ d b r', r = r' ++ b → Bfs n ps fr d f (u :: r') b → ∃ d r', Mn ps fr d u ∧ (0 ≤ u ∧ u < (n : Int)) ∧ BfsM n ps fr d u r' ((tab n f).countP (fun x => decide (x < 0)) + r.length) 0 (f, r) ∧ ∀ s : (Int → Int) × List Int, BfsM n ps fr d u r' ((tab n f).countP (fun x => decide (x < 0)) + r.length) ps.length s → BfsI n ps fr s := by
    intro d b r' hr hB
    have hu := hB.one u (by simp)
    have hmu : Mn ps fr d u := by
      rcases hB.val u hu.1.1 hu.1.2 with q | ⟨c, _, q1, q2⟩
      · have := hu.2; omega
      · have := hu.2
        obtain rfl : c = d := by omega
        exact q2
    refine ⟨d, r', hmu, hu.1, ⟨hu.2, rfl, b, hr, hB.val, hB.full, fun x hx => hB.one x (List.mem_cons_of_mem _ hx), hB.two, hB.all, fun x p q hx hxr hxu => hB.done x p q hx (by simp [hxr, hxu]), fun j e hj => by omega⟩, fun s hM => ?_⟩
    obtain ⟨b', hb', h1, h2, h3, h4, h5, h6, h7⟩ := hM.inv
    refine ⟨by have := hM.tot; omega, d, r', b', hb', ⟨h1, h2, h3, h4, h5, fun x p q hx hxr e he hex => ?_⟩⟩
    by_cases hxu : x = u
    · obtain ⟨j, hj, rfl⟩ := List.getElem_of_mem he
      exact h7 j _ hj (List.getElem?_eq_getElem hj) (hex.trans hxu)
    · exact h6 x p q hx hxr hxu e he hex
  cases a with
  | nil =>
    have e : b = u :: r := hab.symm
    subst e
    exact key (d + 1) [] r (by simp) (hB.level hw hf)
  | cons x r' =>
    simp only [List.cons_append, List.cons.injEq] at hab
    obtain ⟨rfl, hr⟩ := hab
    exact key d b r' hr hB

end
theorem cat_ev {a b : Str} (h : a.length + b.length ≤ 140737488355328) : cat a b = some (a ++ b) := by
  unfold cat
  rw [if_pos (by first | exact h | omega)]

/-! ### the reference's decimals -/
def rvD (u : Nat) : List Int := (Lib.decDigits u).reverse.map fun b => (b.toNat : Int)
theorem rvD_small {u : Nat} (h : u < 10) : rvD u = [((48 + u : Nat) : Int)] := by
  unfold rvD
  rw [Lib.decDigits_one h]
  simp
  omega
theorem rvD_big {u : Nat} (h : 10 ≤ u) : rvD u = ((48 + u % 10 : Nat) : Int) :: rvD (u / 10) := by
  unfold rvD
  rw [dec_big (by omega), List.reverse_append]
  simp
  omega
def rvE (u : Nat) : List Int := if u = 0 then [] else rvD u
theorem rvE_step {u : Nat} (h : 0 < u) : rvE u = ((48 + u % 10 : Nat) : Int) :: rvE (u / 10) := by
  unfold rvE
  rw [if_neg (by omega)]
  by_cases h1 : u < 10
  · rw [rvD_small h1, if_pos (by omega), Nat.mod_eq_of_lt h1]
  · rw [rvD_big (by omega), if_neg (by omega)]
theorem dec_loop (_n0 : Int) : ∀ (u : Nat) (x : Int) (xs : List Int), x.natAbs = u → u ≤ 4611686018427387904 → xs.length + u ≤ 4611686018427387904 + 100 → xs.length ≤ 1000 - 10 * 0 →
    (∀ d, u < 10 ^ d → xs.length + d ≤ 1000 → EvI (fun (_ : Nat) (s : (List Int) × (Int)) => (match s with | (xs53, x55) => (if (x55 != (0 : Int)) = true then join (κ := Int → Option (((List Int) × (Int)) ⊕ (((List Int)) ⊕ (Str)))) (fun (x167 : Int) => (app xs53 [(IntKind.u8.wrap (W ((48 : Int) + x167)))]).bind fun x173 => some (.inl (x173, (W (x55.tdiv (10 : Int)))))) (fun K168 => (if (decide ((x55.tmod (10 : Int)) < (0 : Int))) = true then (K168 (W (0 - (x55.tmod (10 : Int))))) else (K168 (x55.tmod (10 : Int))))) else some (.inr (.inl (xs53)))) : Option (((List Int) × (Int)) ⊕ (((List Int)) ⊕ (Str))))) (xs, x) (.inl (xs ++ rvE u))) := by
  intro u
  induction u using Nat.strongRecOn with
  | ind u ih =>
    intro x xs hx hu hl hl2 d hd hd2
    by_cases h0 : u = 0
    · subst h0
      have hx0 : x = 0 := by omega
      subst hx0
      refine EvI.stop (Ev.ite_f (by simp) (Ev.const ?_))
      simp [rvE]
    · rw [rvE_step (by omega)]
      have hd0 : d ≠ 0 := by intro e; subst e; simp at hd; omega
      obtain ⟨d', rfl⟩ : ∃ d', d = d' + 1 := ⟨d - 1, by omega⟩
      have hmod : x.tmod 10 = (if x < 0 then -((u % 10 : Nat) : Int) else ((u % 10 : Nat) : Int)) := by
        by_cases hn : x < 0
        · rw [if_pos hn]
          have : x = -(u : Int) := by omega
          rw [this, Int.neg_tmod]
          rfl
        · rw [if_neg hn]
          have : x = (u : Int) := by omega
          rw [this]; rfl
      have hdiv : x.tdiv 10 = (if x < 0 then -((u / 10 : Nat) : Int) else ((u / 10 : Nat) : Int)) := by
        by_cases hn : x < 0
        · rw [if_pos hn]
          have : x = -(u : Int) := by omega
          rw [this, Int.neg_tdiv]
          rfl
        · rw [if_neg hn]
          have : x = (u : Int) := by omega
          rw [this]; rfl
      have hwd : W (x.tdiv 10) = x.tdiv 10 := by
        rw [hdiv]
        split <;> exact W_of (by omega) (by omega)
      have hch : IntKind.u8.wrap (W ((48 : Int) + ((u % 10 : Nat) : Int))) = ((48 + u % 10 : Nat) : Int) := by
        rw [W_of (by omega) (by omega)]
        unfold IntKind.wrap
        simp [IntKind.signed, IntKind.bits]
        omega
      have hstep : Ev (fun (_ : Nat) => (if (x != (0 : Int)) = true then join (κ := Int → Option (((List Int) × (Int)) ⊕ (((List Int)) ⊕ (Str)))) (fun (x167 : Int) => (app xs [(IntKind.u8.wrap (W ((48 : Int) + x167)))]).bind fun x173 => some (.inl (x173, (W (x.tdiv (10 : Int)))))) (fun K168 => (if (decide ((x.tmod (10 : Int)) < (0 : Int))) = true then (K168 (W (0 - (x.tmod (10 : Int))))) else (K168 (x.tmod (10 : Int))))) else some (.inr (.inl (xs))) : Option (((List Int) × (Int)) ⊕ (((List Int)) ⊕ (Str))))) (.inl (xs ++ [((48 + u % 10 : Nat) : Int)], x.tdiv 10)) := by
        refine Ev.ite_t (by simp; omega) (Ev.join ?_)
        rw [hwd]
        have hfin : ∀ z : Int, z = ((u % 10 : Nat) : Int) → (app xs [(IntKind.u8.wrap (W ((48 : Int) + z)))]).bind (fun x173 => (some (.inl (x173, x.tdiv 10)) : Option (((List Int) × (Int)) ⊕ (((List Int)) ⊕ (Str))))) = some (.inl (xs ++ [((48 + u % 10 : Nat) : Int)], x.tdiv 10)) := by
          intro z hz
          rw [hz, hch, app_ok (by simp; omega)]; rfl
        by_cases hneg : x.tmod 10 < 0
        · refine Ev.ite_t (decide_eq_true hneg) (Ev.const (hfin _ ?_))
          rw [hmod] at hneg ⊢
          split
          · rw [W_of (by omega) (by omega)]; omega
          · rename_i h; rw [if_neg h] at hneg; omega
        · refine Ev.ite_f (by simpa using hneg) (Ev.const (hfin _ ?_))
          rw [hmod] at hneg ⊢
          split
          · rename_i h; rw [if_pos h] at hneg; omega
          · rfl
      refine EvI.go hstep ?_
      have := ih (u / 10) (by omega) (x.tdiv 10) (xs ++ [((48 + u % 10 : Nat) : Int)]) (by rw [hdiv]; split <;> omega) (by omega) (by simp; omega) (by simp at hd2 ⊢; omega) d' (by
        rw [Nat.pow_succ] at hd; omega) (by simp; omega)
      rw [List.append_assoc] at this
      exact this
theorem decD_len : ∀ (d u : Nat), u < 10 ^ (d + 1) → (Lib.decDigits u).length ≤ d + 1
  | 0, u, h => by rw [Lib.decDigits_one (by omega)]; simp
  | d + 1, u, h => by
    by_cases hu : u < 10
    · rw [Lib.decDigits_one hu]; simp
    · rw [dec_big hu, List.length_append]
      have := decD_len d (u / 10) (by rw [Nat.pow_succ] at h; omega)
      simp; omega
theorem itoa_len {n : Int} (h1 : -1000000000000000 ≤ n) (h2 : n ≤ 1000000000000000) : (Lib.itoa n).length ≤ 21 := by
  unfold Lib.itoa
  split
  · have := decD_len 17 n.natAbs (by omega)
    simp; omega
  · have := decD_len 17 n.toNat (by omega)
    omega
theorem dec_ref {n : Int} (h1 : -1000000000000000 ≤ n) (h2 : n ≤ 1000000000000000) : Ev (fun m => spec_l01Dec_m m n) (Lib.itoa n) := by
  unfold spec_l01Dec_m
  by_cases h0 : n = 0
  · subst h0
    exact (Ev.ite_t (by simp) (Ev.pure _)).eq (by
      unfold Lib.itoa
      rw [if_neg (by omega)]
      exact (Lib.decDigits_one (i := 0) (by omega)).symm)
  refine Ev.ite_f (by simpa using h0) ?_
  have hl := dec_loop n n.natAbs n [] rfl (by omega) (by simp; omega) (by simp) 18 (by omega) (by simp)
  rw [List.nil_append] at hl
  have hrv : rvE n.natAbs = rvD n.natAbs := by unfold rvE; rw [if_neg (by omega)]
  have hdl : (Lib.decDigits n.natAbs).length ≤ 40 := by
    have := decD_len 17 n.natAbs (by omega)
    omega
  have hrl : (rvD n.natAbs).length ≤ 40 := by unfold rvD; simpa using hdl
  rw [hrv] at hl
  let ds : List Int := if n < 0 then rvD n.natAbs ++ [45] else rvD n.natAbs
  have hdsl : ds.length ≤ 41 := by
    show (if n < 0 then _ else _ : List Int).length ≤ 41
    split
    · simp; omega
    · omega
  have hres : bstr ds.reverse = Lib.itoa n := by
    have hb : ∀ l : Str, bstr (l.map fun b => (b.toNat : Int)) = l := by
      intro l
      unfold bstr
      rw [List.map_map]
      refine (List.map_congr_left fun b _ => ?_).trans (List.map_id _)
      simp
    show bstr (if n < 0 then rvD n.natAbs ++ [45] else rvD n.natAbs).reverse = _
    unfold rvD Lib.itoa
    by_cases hn : n < 0
    · rw [if_pos hn, if_pos hn, List.reverse_append, ← List.map_reverse, List.reverse_reverse]
      have := hb (45 :: Lib.decDigits n.natAbs)
      simpa using this
    · rw [if_neg hn, if_neg hn, ← List.map_reverse, List.reverse_reverse, show n.toNat = n.natAbs by omega]
      exact hb _
  have hrev : ∀ ds : List Int, ds.length ≤ 41 → Ev (fun m => (iter (fun (s : (List Int) × (Int)) => (match s with | (xs108, x110) => (if (decide ((0 : Int) ≤ x110)) = true then (idx ds x110).bind fun x141 => (app xs108 [x141]).bind fun x149 => some (.inl (x149, (W (x110 - (1 : Int))))) else some (.inr (.inl (xs108)))) : Option (((List Int) × (Int)) ⊕ (((List Int)) ⊕ (Str))))) m (([] : List Int), (W ((ds.length : Int) - (1 : Int))))).bind fun res132 => ctl (β := (List Int)) (ρ := Str) (τ := Str) res132 (fun (xs130) => some ((bstr xs130))) (fun q => some (q))) (bstr ds.reverse) := by
    intro ds hdsl
    refine Ev.bind (a := Sum.inl ds.reverse) (EvI.ev ?_) (Ev.pure _)
    refine EvI.upto ds.length (fun k (_ : Unit) => (ds.reverse.take k, (ds.length : Int) - 1 - (k : Int))) (fun _ _ => True) (k := 0) (t := ()) (by rw [W_of (by omega) (by omega)]; simp) (Nat.zero_le _) trivial (fun k _ hk _ => ⟨(), ?_, trivial⟩) (fun _ _ => by
      dsimp only
      refine Ev.ite_f (by simp; omega) (Ev.const ?_)
      rw [List.take_of_length_le (by simp)])
    obtain ⟨x, hx⟩ := get_lt (xs := ds.reverse) (k := k) (by simpa using hk)
    have hx' : ds[ds.length - 1 - k]? = some x := by rw [← List.getElem?_reverse hk]; exact hx
    dsimp only
    refine Ev.ite_t (decide_eq_true (by omega)) (Ev.bindc (a := x) ?_ (Ev.bindc (app_ok (by simp; omega)) (Ev.const ?_)))
    · have := idx_at hx'
      rwa [show ((ds.length - 1 - k : Nat) : Int) = (ds.length : Int) - 1 - (k : Int) by omega] at this
    · rw [List.take_add_one, hx, W_of (by omega) (by omega), show (ds.length : Int) - 1 - (k : Int) - 1 = (ds.length : Int) - 1 - ((k + 1 : Nat) : Int) by omega]
      rfl
  refine Ev.bind (a := Sum.inl (rvD n.natAbs)) (EvI.ev hl) (Ev.join ?_)
  rw [← hres]
  by_cases hn : n < 0
  · refine Ev.ite_t (decide_eq_true hn) (Ev.bindc (app_ok (by simp; omega)) ?_)
    have e : ds = rvD n.natAbs ++ [45] := if_pos hn
    rw [e]
    exact hrev _ (by simp; omega)
  · refine Ev.ite_f (by simpa using hn) ?_
    have e : ds = rvD n.natAbs := if_neg hn
    rw [e]
    exact hrev _ (by omega)

theorem join_snoc (c : Str) (xs : List Str) (y : Str) : Lib.join (xs ++ [y]) c = if xs = [] then y else Lib.join xs c ++ c ++ y := by
  cases xs with
  | nil => simp [Lib.join_one]
  | cons x r =>
    rw [if_neg (by simp), List.cons_append, Lib.join_cons, Lib.join_cons]
    simp [Lib.joinTail]
theorem join_le {c : Str} {L : Nat} : ∀ (xs : List Str), (∀ x ∈ xs, x.length ≤ L) → (Lib.join xs c).length ≤ xs.length * (L + c.length) := by
  refine rev_ind (fun _ => by simp [Lib.join_nil]) fun xs y ih h => ?_
  have h1 := ih fun x hx => h x (by simp [hx])
  have h2 := h y (by simp)
  rw [join_snoc, List.length_append, Nat.add_mul]
  split
  · simp; omega
  · simp; omega
theorem joined_law {vs : List Int} {c : UInt8} (hl : vs.length ≤ 100000) (h : ∀ v ∈ vs, -1000000000000000 ≤ v ∧ v ≤ 1000000000000000) : Ev (fun m => impl_joined_m m vs [c]) (Lib.join (vs.map Lib.itoa) [c]) := by
  unfold impl_joined_m
  have hjl := join_le (c := [c]) (L := 21) (vs.map Lib.itoa) (fun x hx => by
    obtain ⟨v, hv, rfl⟩ := List.mem_map.1 hx
    have := h v hv
    exact itoa_len this.1 this.2)
  rw [List.length_map] at hjl
  simp at hjl
  refine Ev.bindc (mks_ok (by omega)) (Ev.bind (fill_iter (f := Lib.itoa) (to' := impl_Decimal_m) (a := vs) (z := ([] : Str)) (fun x hx => Ev.const' fun m => by
    have := h x hx
    exact dec_m (by omega) (by omega)) (by omega)).ev (Ev.const' fun m => ?_))
  rw [ctl_l]
  unfold strings_Join_m
  rw [if_pos ⟨by simp; omega, by omega⟩]
  rfl
theorem readers {α β ρ : Type} {step : Nat → List β × Int → Option ((List β × Int) ⊕ (List β ⊕ ρ))} {s0 : List β × Int} (l : List α) (j : Nat → Int) (ok : α → Bool) (g : α → β) (bad : ρ) (h0 : s0 = ([], j 0))
    (hgo : ∀ (k : Nat) (x : α) (xs : List β), k < l.length → l[k]? = some x → xs.length = k → ok x = true → Ev (fun m => step m (xs, j k)) (.inl (xs ++ [g x], j (k + 1))))
    (hbad : ∀ (k : Nat) (x : α) (xs : List β), k < l.length → l[k]? = some x → xs.length = k → ok x = false → Ev (fun m => step m (xs, j k)) (.inr (.inr bad)))
    (hend : ∀ xs, Ev (fun m => step m (xs, j l.length)) (.inr (.inl xs))) : EvI step s0 (if l.all ok = true then .inl (l.map g) else .inr bad) := by
  subst h0
  refine Exists.elim (EvI.count (step := step) l.length (fun k (_ : Unit) => ((l.take k).map g, j k)) (fun k _ => (l.take k).all ok = true)
    (fun r => r = (if l.all ok = true then .inl (l.map g) else .inr bad)) ?_ ?_ (k := 0) (t := ()) (Nat.zero_le _) (by simp)) (fun res ⟨e1, e2⟩ => by subst e2; exact e1)
  · intro k _ hk hI
    obtain ⟨x, hx⟩ := get_lt hk
    have htk : l.take (k + 1) = l.take k ++ [x] := by rw [List.take_add_one, hx]; rfl
    have hl : ((l.take k).map g).length = k := by rw [List.length_map, List.length_take]; omega
    cases hr : ok x
    · right
      refine ⟨_, hbad k x _ hk hx hl hr, ?_⟩
      rw [if_neg]
      intro q
      rw [List.all_eq_true] at q
      rw [q x (List.mem_of_getElem? hx)] at hr
      cases hr
    · left
      refine ⟨(), (hgo k x _ hk hx hl hr).eq ?_, by rw [htk, List.all_append, hI]; simp [hr]⟩
      rw [htk, List.map_append]
      rfl
  · intro _ hI
    rw [List.take_length] at hI
    exact ⟨_, hend _, by rw [if_pos hI, List.take_length]⟩
theorem valid_impl {t : Timpl_Lts} (hl : t.2.2.1.length ≤ 1048576) (hs : ∀ s ∈ t.2.2.1, s.length ≤ 1048576) (he : t.2.2.2.length ≤ 1048576) : Ev (fun m => impl_ValidLts_m m t) (validP t) := by
  have hm := mx
  unfold impl_ValidLts_m validP
  simp only [within_eq, isState_m, index_eq, Option.bind_some]
  cases h1 : inn t.1 1 40
  · unfold inn at h1
    exact Ev.eq (r := false) (Ev.const' fun m => by simp only [h1, Bool.not_false, if_true, Option.bind_some]) rfl
  · unfold inn at h1
    cases h2 : inn t.2.1 0 (W (t.1 - 1))
    · exact Ev.eq (r := false) (Ev.const' fun m => by simp only [h1, Bool.not_false, Bool.not_true, Bool.false_eq_true, if_true, if_false, Option.bind_some]) rfl
    · simp only [h1, Bool.not_true, Bool.false_eq_true, if_false, Option.bind_some, Bool.true_and]
      by_cases h3 : 1 ≤ t.2.2.1.length ∧ t.2.2.1.length ≤ 12
      · have e3 : (decide ((1 : Int) ≤ (t.2.2.1.length : Int)) && decide ((t.2.2.1.length : Int) ≤ 12)) = true := by
          rw [decide_eq_true (by omega : (1 : Int) ≤ (t.2.2.1.length : Int)), decide_eq_true (by omega : (t.2.2.1.length : Int) ≤ 12)]; rfl
        simp only [e3, Bool.not_true, Bool.false_eq_true, if_false, Option.bind_some]
        unfold edgesP
        by_cases h4 : 300 < t.2.2.2.length
        · rw [decide_eq_false (show ¬ t.2.2.2.length ≤ 300 by omega), Bool.false_and, Bool.and_false]
          exact Ev.ite_t (decide_eq_true (by omega)) (Ev.pure _)
        · rw [decide_eq_true (show t.2.2.2.length ≤ 300 by omega), Bool.true_and]
          refine Ev.ite_f (by simp; omega) ?_
          have hlab : labsP t.2.2.1 = decide (∀ k, k < t.2.2.1.length → okL t.2.2.1 k = true) := by
            unfold labsP
            rw [decide_eq_true h3.1, decide_eq_true h3.2]; rfl
          rw [hlab]
          have cond : ∀ k s, k < t.2.2.1.length → t.2.2.1[k]? = some s → Ev (fun m => (impl_IsLabel_m m s).bind fun x357 => (if (!x357) = true then some true else some ((s == ([116, 97, 117] : Str)) != ((k : Int) == (0 : Int)))).bind fun t360 => (if t360 = true then some true else (if (decide ((1 : Int) < (k : Int))) = true then (idx t.2.2.1 (W ((k : Int) - (1 : Int)))).bind fun x369 => some (Op.bytesLess s x369 || s == x369) else some false).bind fun t366 => some t366).bind fun t363 => (if t363 = true then some (.inr (.inr false)) else some (.inl ((W ((k : Int) + (1 : Int))))) : Option (Int ⊕ (Unit ⊕ Bool)))) (if okL t.2.2.1 k = true then .inl ((k + 1 : Nat) : Int) else .inr (.inr false)) := by
            intro k s hk hs'
            refine Ev.bind (label_impl (hs s (List.mem_of_getElem? hs'))) (Ev.const ?_)
            have e : ∀ (c : Bool) (x y : Int ⊕ (Unit ⊕ Bool)), some (if c = true then x else y) = some (if (!c) = true then y else x) := by intro c x y; cases c <;> rfl
            unfold okL condX
            rw [hs']
            cases k with
            | zero =>
              simp only [Option.bind_some, or_some, show decide ((1 : Int) < ((0 : Nat) : Int)) = false from rfl, Bool.false_eq_true, if_false, W_succ hk (by omega), Bool.false_and, Bool.or_false]
              rw [ite_some, e]
              rfl
            | succ j =>
              obtain ⟨p, hp⟩ := get_lt (xs := t.2.2.1) (k := j) (by omega)
              have w2 := W_pred (k := j) (n := t.2.2.1.length) (by omega) (by omega)
              simp only [hp, w2, idx_at hp, Option.bind_some, or_some, and_some, W_succ hk (by omega), Nat.add_sub_cancel, bl_le]
              rw [ite_some, e, Bool.or_assoc]
              rfl
          refine Ev.bind (EvI.all t.2.2.1.length (okL t.2.2.1) false (fun k hk hok => ?_) (fun k hk hok => ?_) (Ev.ite_f (by simp) (Ev.pure _))).ev ?_
          · obtain ⟨s, hs'⟩ := get_lt hk
            have hk' : decide ((k : Int) < (t.2.2.1.length : Int)) = true := by simpa using hk
            exact Ev.ite_t hk' (Ev.bindc (idx_at hs') ((cond k s hk hs').eq (by rw [hok]; rfl)))
          · obtain ⟨s, hs'⟩ := get_lt hk
            have hk' : decide ((k : Int) < (t.2.2.1.length : Int)) = true := by simpa using hk
            exact Ev.ite_t hk' (Ev.bindc (idx_at hs') ((cond k s hk hs').eq (by rw [hok]; rfl)))
          · by_cases h5 : ∀ k, k < t.2.2.1.length → okL t.2.2.1 k = true
            · rw [if_pos h5, decide_eq_true h5, Bool.true_and]
              have c3 : ∀ k e, k < t.2.2.2.length → t.2.2.2[k]? = some e → Ev (fun m => (if (decide ((0 : Int) < (k : Int))) = true then (idx t.2.2.2 (W ((k : Int) - (1 : Int)))).bind fun x327 => (impl_compareEdges_m m (x327.1, x327.2.1, x327.2.2) (e.1, e.2.1, e.2.2)).bind fun x342 => some (decide ((0 : Int) ≤ x342)) else some false)) (decide ((0 : Int) < (k : Int)) && (match t.2.2.2[k - 1]? with | none => false | some p => !edgeLess p e)) := by
                intro k e hk he'
                cases k with
                | zero => exact Ev.const' fun m => rfl
                | succ j =>
                  obtain ⟨p, hp⟩ := get_lt (xs := t.2.2.2) (k := j) (by omega)
                  have hpos : decide ((0 : Int) < ((j + 1 : Nat) : Int)) = true := decide_eq_true (by omega)
                  obtain ⟨r, hr1, hr2⟩ := edges_cmp p e
                  rw [W_pred (k := j) (n := t.2.2.2.length) (by omega) (by omega), Nat.add_sub_cancel, hp, hpos, Bool.true_and]
                  exact Ev.ite_t rfl (Ev.bindc (idx_at hp) (Ev.bind hr1 (Ev.const (by rw [hr2]))))
              refine (Ev.all t.2.2.2.length (fun k => !condE (W (t.1 - 1)) (W ((t.2.2.1.length : Int) - 1)) t.2.2.2 k) false true (fun k hk hok => ?_) (fun k hk hok => ?_) (Ev.ite_f (by simp) (Ev.pure _))).eq (by split <;> simp_all)
              all_goals
                obtain ⟨e, he'⟩ := get_lt hk
                have hk' : decide ((k : Int) < (t.2.2.2.length : Int)) = true := by simpa using hk
              · have hc : condE (W (t.1 - 1)) (W ((t.2.2.1.length : Int) - 1)) t.2.2.2 k = false := by rwa [Bool.not_eq_true'] at hok
                unfold condE at hc
                rw [he'] at hc
                simp only [Bool.or_eq_false_iff] at hc
                obtain ⟨⟨g1, g2⟩, g3, g4⟩ := hc
                have c := (c3 k e hk he').eq g4
                unfold inn at g3
                refine Ev.ite_t hk' (Ev.bindc (idx_at he') (Ev.bindc (a := false) ?_ (Ev.bindc (a := false) ?_ (Ev.bind (a := false) (Ev.ite_f (by simp) (Ev.bind c (Ev.pure _))) (Ev.ite_f (by simp) (Ev.const ?_))))))
                · simp only [g1, g2, Bool.false_eq_true, if_false]
                · simp only [g3, Bool.false_eq_true, if_false]
                · rw [W_succ hk (by omega)]
              · have hc : condE (W (t.1 - 1)) (W ((t.2.2.1.length : Int) - 1)) t.2.2.2 k = true := by rwa [Bool.not_eq_false'] at hok
                unfold condE at hc
                rw [he'] at hc
                have c := c3 k e hk he'
                refine Ev.ite_t hk' (Ev.bindc (idx_at he') (Ev.bindc (a := (!inn e.1 0 (W (t.1 - 1)) || !inn e.2.2 0 (W (t.1 - 1)))) (by rw [or_some]) (Ev.bindc (a := ((!inn e.1 0 (W (t.1 - 1)) || !inn e.2.2 0 (W (t.1 - 1))) || !inn e.2.1 0 (W ((t.2.2.1.length : Int) - 1)))) (by rw [or_some]; rfl) ?_)))
                refine Ev.bind (a := true) ?_ (Ev.ite_t rfl (Ev.pure _))
                cases ha : ((!inn e.1 0 (W (t.1 - 1)) || !inn e.2.2 0 (W (t.1 - 1))) || !inn e.2.1 0 (W ((t.2.2.1.length : Int) - 1)))
                · refine Ev.ite_f (by simp) (Ev.bind c (Ev.const ?_))
                  have hc' : ((!inn e.1 0 (W (t.1 - 1)) || !inn e.2.2 0 (W (t.1 - 1))) || (!inn e.2.1 0 (W ((t.2.2.1.length : Int) - 1)) || (decide ((0 : Int) < (k : Int)) && (match t.2.2.2[k - 1]? with | none => false | some p => !edgeLess p e)))) = true := hc
                  rw [← Bool.or_assoc, ha, Bool.false_or] at hc'
                  rw [hc']
                · exact Ev.ite_t rfl (Ev.pure _)
            · rw [if_neg h5, decide_eq_false h5, Bool.false_and]
              exact Ev.const' fun m => rfl
      · have e3 : (decide ((1 : Int) ≤ (t.2.2.1.length : Int)) && decide ((t.2.2.1.length : Int) ≤ 12)) = false := by
          apply Bool.eq_false_iff.2
          intro h
          rw [Bool.and_eq_true] at h
          exact h3 ⟨by have := of_decide_eq_true h.1; omega, by have := of_decide_eq_true h.2; omega⟩
        have hlab : labsP t.2.2.1 = false := by
          unfold labsP
          apply Bool.eq_false_iff.2
          intro h
          rw [Bool.and_eq_true, Bool.and_eq_true] at h
          exact h3 ⟨of_decide_eq_true h.1.1, of_decide_eq_true h.1.2⟩
        rw [hlab, Bool.false_and]
        exact Ev.const' fun m => by simp only [e3, Bool.not_false, if_true, Option.bind_some]
theorem join_loop {ρ : Type} {step : Nat → Str × Int → Option ((Str × Int) ⊕ (Str ⊕ ρ))} {s0 : Str × Int} (ws : List Str) (d B : Nat) (pre c : Str) (h0 : s0 = (pre, (d : Int)))
    (hB : ∀ k, (pre ++ Lib.join (ws.take k) c).length ≤ B)
    (hgo : ∀ (k : Nat) (x s : Str), k < ws.length → ws[k]? = some x → s.length ≤ B → Ev (fun m => step m (s, ((k + d : Nat) : Int))) (.inl ((if k = 0 then s else s ++ c) ++ x, ((k + 1 + d : Nat) : Int))))
    (hend : ∀ s, Ev (fun m => step m (s, ((ws.length + d : Nat) : Int))) (.inr (.inl s))) : EvI step s0 (.inl (pre ++ Lib.join ws c)) := by
  subst h0
  refine EvI.upto ws.length (fun k (_ : Unit) => (pre ++ Lib.join (ws.take k) c, ((k + d : Nat) : Int))) (fun _ _ => True) (k := 0) (t := ()) (by simp [Lib.join_nil]) (Nat.zero_le _) trivial (fun k _ hk _ => ⟨(), ?_, trivial⟩) (fun _ _ => by
    have := hend (pre ++ Lib.join (ws.take ws.length) c)
    rw [List.take_length] at this ⊢
    exact this)
  obtain ⟨x, hx⟩ := get_lt hk
  refine (hgo k x _ hk hx (hB k)).eq ?_
  rw [List.take_add_one, hx]
  rw [show (some x).toList = [x] from rfl, join_snoc]
  by_cases hk0 : k = 0
  · subst hk0
    simp [Lib.join_nil]
  · rw [if_neg hk0, if_neg (by intro e; have h3 := congrArg List.length e; rw [List.length_take, List.length_nil] at h3; omega)]
    simp
def wordsT (ws : List Str) : Str := if ws = [] then [45] else Lib.join ws [32]
def edgeT (e : Timpl_Edge) : Str := Lib.join [Lib.itoa e.1, Lib.itoa e.2.1, Lib.itoa e.2.2] [58]
def ltsT (t : Timpl_Lts) : Str := Lib.itoa t.1 ++ [32] ++ Lib.itoa t.2.1 ++ [124] ++ wordsT t.2.2.1.tail ++ [124] ++ wordsT (t.2.2.2.map edgeT)
theorem edgeT_eq (e : Timpl_Edge) : edgeT e = Lib.itoa e.1 ++ [58] ++ Lib.itoa e.2.1 ++ [58] ++ Lib.itoa e.2.2 := by
  unfold edgeT
  simp [Lib.join_cons, Lib.joinTail]
theorem edgeT_len {t : Timpl_Lts} {n : Nat} (V : VL t n) {e : Timpl_Edge} (h : e ∈ t.2.2.2) : (edgeT e).length ≤ 100 := by
  have h1 := V.src e h
  have h2 := V.dst e h
  have h3 := V.lbl e h
  have h4 := V.labs
  have h5 := V.top
  have i1 := itoa_len (n := e.1) (by omega) (by omega)
  have i2 := itoa_len (n := e.2.1) (by omega) (by omega)
  have i3 := itoa_len (n := e.2.2) (by omega) (by omega)
  rw [edgeT_eq]
  simp
  omega
theorem words_impl {ws : List Str} (hl : ws.length ≤ 1000) (h : ∀ w ∈ ws, w.length ≤ 1048576) : Ev (fun m => impl_words_m m ws) (wordsT ws) := by
  have hmx := mx
  unfold impl_words_m wordsT
  by_cases h0 : ws = []
  · subst h0
    exact Ev.ite_t (by simp) (Ev.pure _)
  rw [if_neg h0]
  have hne : ¬ ((ws.length : Int) == 0) = true := by
    intro e
    exact h0 (List.eq_nil_of_length_eq_zero (by have := beq_iff_eq.1 e; omega))
  have hj := join_le (c := [32]) ws h
  have hj : (Lib.join ws [32]).length ≤ 1000 * 1048577 := Nat.le_trans hj (Nat.mul_le_mul hl (by simp))
  refine Ev.ite_f hne (Ev.bindc ?_ (Ev.pure _))
  exact if_pos ⟨by omega, by omega⟩
theorem ltext_impl {t : Timpl_Lts} {n : Nat} (V : VL t n) (h : BLts t) : Ev (fun m => (iter (fun (s : (List Str) × (Int)) => (match s with | (xs98, x100) => (if (decide (x100 < (t.2.2.2.length : Int))) = true then (idx t.2.2.2 x100).bind fun x188 => (impl_joined_m m [x188.1, x188.2.1, x188.2.2] ([58] : Str)).bind fun x210 => (app xs98 [x210]).bind fun x216 => some (.inl (x216, (W (x100 + (1 : Int))))) else some (.inr (.inl (xs98)))) : Option (((List Str) × (Int)) ⊕ (((List Str)) ⊕ (Str))))) m ([], (0 : Int))).bind fun res142 => ctl (β := (List Str)) (ρ := Str) (τ := Str) res142 (fun (xs140) => (impl_Decimal_m m t.1).bind fun x151 => (cat x151 ([32] : Str)).bind fun x154 => (impl_Decimal_m m t.2.1).bind fun x158 => (cat x154 x158).bind fun x161 => (cat x161 ([124] : Str)).bind fun x163 => (sub t.2.2.1 (1 : Int) (t.2.2.1.length : Int)).bind fun xs165 => (impl_words_m m xs165).bind fun x169 => (cat x163 x169).bind fun x172 => (cat x172 ([124] : Str)).bind fun x174 => (impl_words_m m xs140).bind fun x178 => (cat x174 x178).bind fun x181 => some (x181)) (fun q => some (q))) (ltsT t) := by
  have hmx := mx
  have hfew := V.few
  have htop := V.top
  have hst := V.st
  have hini := V.ini
  have hlabs := V.labs
  refine Ev.bind (readers (ρ := Str) t.2.2.2 (fun k => (k : Int)) (fun _ => true) edgeT [] rfl (fun k e xs hk hw hx hr => ?_) (fun k e xs hk hw hx hr => by cases hr) (fun xs => Ev.ite_f (by simp) (Ev.pure _))).ev ?_
  · have hm := List.mem_of_getElem? hw
    have h1 := V.src e hm
    have h2 := V.dst e hm
    have h3 := V.lbl e hm
    refine Ev.ite_t (decide_eq_true (by omega)) (Ev.bindc (idx_at hw) (Ev.bind (joined_law (by simp) (fun v hv => ?_)) (Ev.bindc (app_ok (by simp; omega)) (Ev.const ?_))))
    · simp only [List.mem_cons, List.not_mem_nil, or_false] at hv
      rcases hv with rfl | rfl | rfl <;> omega
    · rw [W_succ hk (by omega)]
      rfl
  rw [if_pos (by simp)]
  have i1 := itoa_len (n := t.1) (by omega) (by omega)
  have i2 := itoa_len (n := t.2.1) (by omega) (by omega)
  have hs : sub t.2.2.1 (1 : Int) (t.2.2.1.length : Int) = some t.2.2.1.tail := by
    have := sub_ok (xs := t.2.2.1) (lo := 1) (hi := t.2.2.1.length) (by omega) (Nat.le_refl _)
    rw [List.take_length, List.drop_one] at this
    exact this
  have w1 : (wordsT t.2.2.1.tail).length ≤ 1000 * 1048577 := by
    unfold wordsT
    split
    · simp
    · exact Nat.le_trans (join_le (c := [32]) _ fun x hx => h.2.1 x (List.mem_of_mem_tail hx)) (Nat.mul_le_mul (by rw [List.length_tail]; omega) (by simp))
  have w2 : (wordsT (t.2.2.2.map edgeT)).length ≤ 1000 * 1048577 := by
    unfold wordsT
    split
    · simp
    · exact Nat.le_trans (join_le (c := [32]) (L := 100) _ fun x hx => by obtain ⟨e, he, rfl⟩ := List.mem_map.1 hx; exact edgeT_len V he) (Nat.mul_le_mul (by rw [List.length_map]; omega) (by simp))
  refine Ev.bind (Ev.const' fun m => dec_m (by omega) (by omega)) (Ev.bindc (cat_ev (by simp; omega)) (Ev.bind (Ev.const' fun m => dec_m (by omega) (by omega)) (Ev.bindc (cat_ev (by simp; omega)) (Ev.bindc (cat_ev (by simp; omega)) (Ev.bindc hs (Ev.bind (words_impl (by rw [List.length_tail]; omega) fun x hx => h.2.1 x (List.mem_of_mem_tail hx)) (Ev.bindc (cat_ev (by simp; omega)) (Ev.bindc (cat_ev (by simp; omega)) (Ev.bind (words_impl (by rw [List.length_map]; omega) fun x hx => by obtain ⟨e, he, rfl⟩ := List.mem_map.1 hx; have := edgeT_len V he; omega) (Ev.bindc (cat_ev (by simp; omega)) (Ev.pure _)))))))))))
theorem ltext_spec {t : Timpl_Lts} {n : Nat} (V : VL t n) (h : BLts t) : Ev (fun m => spec_l11Text_m m t) (ltsT t) := by
  have hmx := mx
  have hfew := V.few
  have htop := V.top
  have hst := V.st
  have hini := V.ini
  have hlabs := V.labs
  have i1 := itoa_len (n := t.1) (by omega) (by omega)
  have i2 := itoa_len (n := t.2.1) (by omega) (by omega)
  unfold spec_l11Text_m
  refine Ev.bind (dec_ref (by omega) (by omega)) (Ev.bindc (cat_ev (by simp; omega)) (Ev.bind (dec_ref (by omega) (by omega)) (Ev.bindc (cat_ev (by simp; omega)) (Ev.bindc (cat_ev (by simp; omega)) ?_))))
  unfold ltsT
  generalize hp0 : Lib.itoa t.1 ++ [32] ++ Lib.itoa t.2.1 ++ [124] = p0
  have hp0l : p0.length ≤ 100 := by rw [← hp0]; simp; omega
  have j1 : ∀ k, (p0 ++ Lib.join (t.2.2.1.tail.take k) [32]).length ≤ 100 + 1000 * 1048577 := fun k => by
    have := Nat.le_trans (join_le (c := [32]) (L := 1048576) (t.2.2.1.tail.take k) fun x hx => h.2.1 x (List.mem_of_mem_tail (List.mem_of_mem_take hx))) (Nat.mul_le_mul (show _ ≤ 1000 by rw [List.length_take, List.length_tail]; omega) (Nat.le_refl _))
    rw [List.length_append]
    simp at this
    omega
  refine Ev.bind (join_loop (ρ := Str) t.2.2.1.tail 1 (100 + 1000 * 1048577) p0 [32] rfl j1 (fun k x s hk hx hs => ?_) (fun s => ?_)).ev ?_
  · have hx' : t.2.2.1[k + 1]? = some x := by rw [← hx, List.getElem?_tail]
    have hk' : k + 1 < t.2.2.1.length := by rw [List.length_tail] at hk; omega
    have hxl := h.2.1 x (List.mem_of_getElem? hx')
    refine Ev.ite_t (decide_eq_true (by omega)) (Ev.join ?_)
    by_cases hk0 : k = 0
    · subst hk0
      rw [if_pos rfl]
      refine Ev.ite_f (by simp) (Ev.bindc (idx_at hx') (Ev.bindc (cat_ev (by omega)) (Ev.const ?_)))
      rw [W_of (by omega) (by omega)]
      rfl
    · rw [if_neg hk0]
      refine Ev.ite_t (decide_eq_true (by omega)) (Ev.bindc (cat_ev (by simp; omega)) (Ev.bindc (idx_at hx') (Ev.bindc (cat_ev (by simp; omega)) (Ev.const ?_))))
      rw [W_of (by omega) (by omega)]
      congr 2
  · refine Ev.ite_f ?_ (Ev.pure _)
    rw [List.length_tail]
    simp
    omega
  refine Ev.join ?_
  have hj1 := j1 t.2.2.1.tail.length
  rw [List.take_length] at hj1
  have key : ∀ (p1 : Str), p1.length ≤ 200 + 1000 * 1048577 → Ev (fun m => (cat p1 ([124] : Str)).bind fun x111 => (iter (fun (s : (Str) × (Int)) => (match s with | (x188, x189) => (if (decide (x189 < (t.2.2.2.length : Int))) = true then join (κ := Str → Option (((Str) × (Int)) ⊕ ((Str) ⊕ (Str)))) (fun (x281 : Str) => (idx t.2.2.2 x189).bind fun x286 => (spec_l01Dec_m m x286.1).bind fun x301 => (cat x301 ([58] : Str)).bind fun x304 => (idx t.2.2.2 x189).bind fun x306 => (spec_l01Dec_m m x306.2.1).bind fun x321 => (cat x304 x321).bind fun x324 => (cat x324 ([58] : Str)).bind fun x326 => (idx t.2.2.2 x189).bind fun x328 => (spec_l01Dec_m m x328.2.2).bind fun x343 => (cat x326 x343).bind fun x346 => (cat x281 x346).bind fun x348 => some (.inl (x348, (W (x189 + (1 : Int)))))) (fun K282 => (if (decide ((0 : Int) < x189)) = true then (cat x188 ([32] : Str)).bind fun x351 => (K282 x351) else (K282 x188))) else some (.inr (.inl (x188)))) : Option (((Str) × (Int)) ⊕ ((Str) ⊕ (Str))))) m (x111, (0 : Int))).bind fun res266 => ctl (β := Str) (ρ := Str) (τ := Str) res266 (fun (x265) => join (κ := Str → Option Str) (fun (x271 : Str) => some (x271)) (fun K272 => (if ((t.2.2.2.length : Int) == (0 : Int)) = true then (cat x265 ([45] : Str)).bind fun x275 => (K272 x275) else (K272 x265)))) (fun q => some (q))) (p1 ++ [124] ++ wordsT (t.2.2.2.map edgeT)) := by
    intro p1 hp1
    have hl2 : (p1 ++ [124]).length ≤ 300 + 1000 * 1048577 := by simp; omega
    refine Ev.bindc (cat_ev (by simp; omega)) ?_
    generalize p1 ++ [124] = p2 at hl2 ⊢
    have j2 : ∀ k, (p2 ++ Lib.join ((t.2.2.2.map edgeT).take k) [32]).length ≤ 300 + 1000 * 1048577 + 1000 * 101 := fun k => by
      have := Nat.le_trans (join_le (c := [32]) (L := 100) ((t.2.2.2.map edgeT).take k) fun x hx => by obtain ⟨e, he, rfl⟩ := List.mem_map.1 (List.mem_of_mem_take hx); exact edgeT_len V he) (Nat.mul_le_mul (show _ ≤ 1000 by rw [List.length_take, List.length_map]; omega) (Nat.le_refl _))
      rw [List.length_append]
      simp at this ⊢
      omega
    refine Ev.bind (join_loop (ρ := Str) (t.2.2.2.map edgeT) 0 (300 + 1000 * 1048577 + 1000 * 101) p2 [32] rfl j2 (fun k x s hk hx hs => ?_) (fun s => ?_)).ev ?_
    · rw [List.length_map] at hk
      obtain ⟨e, he⟩ := get_lt hk
      have hm := List.mem_of_getElem? he
      have h1 := V.src e hm
      have h2 := V.dst e hm
      have h3 := V.lbl e hm
      have q1 := itoa_len (n := e.1) (by omega) (by omega)
      have q2 := itoa_len (n := e.2.1) (by omega) (by omega)
      have q3 := itoa_len (n := e.2.2) (by omega) (by omega)
      have hxe : x = edgeT e := by
        rw [List.getElem?_map, he] at hx
        exact (Option.some.inj hx).symm
      subst hxe
      rw [edgeT_eq]
      have rest : ∀ (s : Str), s.length ≤ 400 + 1000 * 1048577 + 1000 * 101 → Ev (fun m => (idx t.2.2.2 ((k + 0 : Nat) : Int)).bind fun x286 => (spec_l01Dec_m m x286.1).bind fun x301 => (cat x301 ([58] : Str)).bind fun x304 => (idx t.2.2.2 ((k + 0 : Nat) : Int)).bind fun x306 => (spec_l01Dec_m m x306.2.1).bind fun x321 => (cat x304 x321).bind fun x324 => (cat x324 ([58] : Str)).bind fun x326 => (idx t.2.2.2 ((k + 0 : Nat) : Int)).bind fun x328 => (spec_l01Dec_m m x328.2.2).bind fun x343 => (cat x326 x343).bind fun x346 => (cat s x346).bind fun x348 => (some (.inl (x348, (W (((k + 0 : Nat) : Int) + (1 : Int))))) : Option ((Str × Int) ⊕ (Str ⊕ Str)))) (.inl (s ++ (Lib.itoa e.1 ++ [58] ++ Lib.itoa e.2.1 ++ [58] ++ Lib.itoa e.2.2), ((k + 1 + 0 : Nat) : Int))) := fun s hs => by
        refine Ev.bindc (idx_at he) (Ev.bind (dec_ref (by omega) (by omega)) (Ev.bindc (cat_ev (by simp; omega)) (Ev.bindc (idx_at he) (Ev.bind (dec_ref (by omega) (by omega)) (Ev.bindc (cat_ev (by simp; omega)) (Ev.bindc (cat_ev (by simp; omega)) (Ev.bindc (idx_at he) (Ev.bind (dec_ref (by omega) (by omega)) (Ev.bindc (cat_ev (by simp; omega)) (Ev.bindc (cat_ev (by simp; omega)) (Ev.const ?_)))))))))))
        rw [W_of (by omega) (by omega)]
        rfl
      refine Ev.ite_t (decide_eq_true (by omega)) (Ev.join ?_)
      by_cases hk0 : k = 0
      · rw [if_pos hk0]
        exact Ev.ite_f (by simp; omega) (rest s (by omega))
      · rw [if_neg hk0]
        refine Ev.ite_t (decide_eq_true (by omega)) (Ev.bindc (cat_ev (b := [32]) (by rw [List.length_singleton]; omega)) (rest (s ++ [32]) (by rw [List.length_append, List.length_singleton]; omega)))
    · refine Ev.ite_f ?_ (Ev.pure _)
      rw [List.length_map]
      simp
    refine Ev.join ?_
    have hj2 := j2 (t.2.2.2.map edgeT).length
    rw [List.take_length] at hj2
    unfold wordsT
    by_cases h0 : t.2.2.2 = []
    · rw [h0] at hj2 ⊢
      rw [List.map_nil, Lib.join_nil, List.append_nil] at hj2 ⊢
      rw [if_pos (rfl : ([] : List Str) = [])]
      have hc : cat p2 ([45] : Str) = some (p2 ++ [45]) := cat_ev (by rw [List.length_singleton]; omega)
      exact Ev.const (by
        show (cat p2 ([45] : Str)).bind (fun x => some x) = some (p2 ++ [45])
        rw [hc]
        rfl)
    · rw [if_neg (by simpa using h0)]
      refine Ev.ite_f ?_ (Ev.pure _)
      intro e
      exact h0 (List.eq_nil_of_length_eq_zero (by have := beq_iff_eq.1 e; omega))
  by_cases h0 : t.2.2.1.tail = []
  · have hl0 : t.2.2.1.length = 1 := by have := congrArg List.length h0; rw [List.length_tail, List.length_nil] at this; omega
    have e1 : wordsT t.2.2.1.tail = [45] := by unfold wordsT; rw [if_pos h0]
    rw [h0] at hj1
    rw [e1, h0]
    rw [Lib.join_nil, List.append_nil] at hj1 ⊢
    exact Ev.ite_t (by rw [hl0]; rfl) (Ev.bindc (cat_ev (by simp; omega)) (key (p0 ++ [45]) (by simp; omega)))
  · have e1 : wordsT t.2.2.1.tail = Lib.join t.2.2.1.tail [32] := by unfold wordsT; rw [if_neg h0]
    rw [e1]
    refine Ev.ite_f ?_ (key _ (by omega))
    intro e
    exact h0 (List.eq_nil_of_length_eq_zero (by have := beq_iff_eq.1 e; rw [List.length_tail]; omega))
theorem ltext_core {a : Tlaws_Lts} (h : BLts a) : ∃ r, Ev (fun m => spec_LtsText_m m a) r ∧ Ev (fun m => impl_LtsText_m m a) r := by
  have h1 := valid_spec (t := a) h.1 h.2.1 h.2.2
  have h2 := valid_impl (t := a) h.1 h.2.1 h.2.2
  unfold spec_LtsText_m impl_LtsText_m
  cases hv : validP a
  · rw [hv] at h1 h2
    exact ⟨[], Ev.bind h1 (Ev.const rfl), Ev.bind h2 (Ev.const rfl)⟩
  · rw [hv] at h1 h2
    obtain ⟨n, V⟩ := valid_of hv
    exact ⟨ltsT a, Ev.bind h1 (Ev.ite_f (by simp) (Ev.bind (ltext_spec V h) (Ev.pure _))), Ev.bind h2 (Ev.ite_f (by simp) (ltext_impl V h))⟩
set_option maxHeartbeats 4000000 in
theorem law_LtsText {a : Tlaws_Lts} (g_a : (GLts) a) : ∃ n, laws_FnExactLtsText_m n a = some true := by
  have hm : maxLen = 9223372036854775807 := by unfold maxLen; rfl
  refine Ev.one (f := fun n => laws_FnExactLtsText_m n a) ?_
  unfold laws_FnExactLtsText_m
  obtain ⟨r1, h1, s1⟩ := sz_lts g_a (b := (1048576 : Int)) (by omega) (by omega)
  refine Ev.bind h1 ?_
  by_cases n1 : r1 < 0
  · exact Ev.ite_t (decide_eq_true n1) (Ev.pure _)
  rcases s1 with s1 | ⟨p1, q1, B_a⟩
  · exact absurd s1 n1
  refine Ev.ite_f (by simpa using n1) ?_
  obtain ⟨r, hs, hi⟩ := ltext_core B_a
  have to_a_ := toB_lts B_a
  have eq_a_ := eqB_lts B_a
  repeat (first
    | exact Ev.pure _
    | refine Ev.bind (by with_reducible assumption) ?_
    | refine Ev.ite_f (by first | (simp; done) | (simp; omega)) ?_
    | refine Ev.bind (Ev.ite_f (by first | (simp; done) | (simp; omega)) (Ev.bind (by with_reducible assumption) (Ev.pure _))) ?_
    | refine Ev.bind (a := false) (Ev.ite_f (by first | (simp; done) | (simp; omega)) (Ev.const (by simp))) ?_
    | refine Ev.bind (a := false) (Ev.ite_f (by first | (simp; done) | (simp; omega)) (Ev.bind (by with_reducible assumption) (Ev.const (by simp)))) ?_
    | refine Ev.bindc (by with_reducible rfl) ?_)
end Go.Proofs.YtepcckhcocjgaaaGreatDoor

