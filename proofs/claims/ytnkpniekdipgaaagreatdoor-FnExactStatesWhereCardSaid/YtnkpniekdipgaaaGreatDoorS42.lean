/-
  The plain laws of a statement, joined into one text.
-/
import Derived.Test.YtnkpniekdipgaaaGreatDoorF0
import Derived.Test.YtnkpniekdipgaaaGreatDoorF1
import Derived.Test.YtnkpniekdipgaaaGreatDoorF2
import Derived.Test.YtnkpniekdipgaaaGreatDoorF3
import Derived.Test.YtnkpniekdipgaaaGreatDoorF4
import Derived.Test.YtnkpniekdipgaaaGreatDoorF5
import Derived.Test.YtnkpniekdipgaaaGreatDoorF6
import Derived.Test.YtnkpniekdipgaaaGreatDoorF7
import Derived.Test.YtnkpniekdipgaaaGreatDoorFS
import Derived.Test.YtnkpniekdipgaaaGreatDoorGxI
import Derived.Test.YtnkpniekdipgaaaGreatDoorGxKm
import Derived.Test.YtnkpniekdipgaaaGreatDoorGxP
import Derived.Test.YtnkpniekdipgaaaGreatDoorGxT
import Derived.Test.YtnkpniekdipgaaaGreatDoorGxU
import Derived.Test.YtnkpniekdipgaaaGreatDoorGxZ
import Derived.Test.YtnkpniekdipgaaaGreatDoorLStatesWhere
namespace Go.Proofs.YtnkpniekdipgaaaGreatDoor
open Go.Gx
theorem eq_ints {a : List Int} (hl : a.length ≤ maxLen) : Ev (fun n => laws_eqInt64S_m n a a) true := eq_loop_ints hl
theorem l00In_eq {n : Nat} {a b c : Int} : spec_l00In_m n a b c = some (decide (b ≤ a) && decide (a ≤ c)) := by
  unfold spec_l00In_m
  by_cases h : b ≤ a <;> simp [h]
theorem within_eq {n : Nat} {a b c : Int} : impl_within_m n a b c = some (decide (b ≤ a) && decide (a ≤ c)) := by
  unfold impl_within_m
  by_cases h : b ≤ a <;> simp [h]
theorem index_eq {n : Nat} {a b : Int} : impl_index_m n a b = some (decide (0 ≤ a) && decide (a ≤ W (b - 1))) := by
  unfold impl_index_m
  simp [within_eq]

/-! ### marks -/
theorem marks_ints {a : List Int} {k : Int} (hl : a.length ≤ 1048576) (h0 : 1 ≤ k) (hk : k ≤ 4611686018427387904 - 1048576) :
    ∃ k' ys, Ev (fun n => laws_markInt64S_m n a k) (k', ys) ∧ Ev (fun n => laws_heldInt64S_m n ys k) k' ∧ k ≤ k' ∧ k' ≤ k + (a.length * 1 : Nat) ∧ ys.length = a.length := by
  unfold laws_markInt64S_m laws_heldInt64S_m
  refine mark_held (p := fun _ => True) (fun _ _ => trivial) h0 (by omega)
    (fun xs k i x hxl hx _ h1 h2 => ⟨k, k + 1, Ev.const' fun m => ?_, by omega, by omega, fun ys hyl hy => Ev.const' fun m => ?_⟩) (fun xs k hxl => ?_) (fun ys k hyl => ?_)
  · have hi : i < xs.length := (List.getElem?_eq_some_iff.1 hx).1
    simp [idx_at hx, W_succ (k := i) (n := xs.length) hi (by omega), W_of (n := k + 1) (by omega) (by omega), hi]
  · have hi : i < ys.length := (List.getElem?_eq_some_iff.1 hy).1
    simp [idx_at hy, W_succ (k := i) (n := ys.length) hi (by omega), W_of (n := k + 1) (by omega) (by omega), hi]
  · exact Ev.const' fun m => by simp [hxl]
  · exact Ev.const' fun m => by simp [hyl]



/-! ### the blocks -/
theorem eqB_ints {a : List Int} (h : a.length ≤ 1048576) : Ev (fun n => laws_eqInt64S_m n a a) true := eq_ints (by have : maxLen = 9223372036854775807 := (by unfold maxLen; rfl); omega)
theorem marksB_ints {a : List Int} {k : Int} (h : a.length ≤ 1048576) (h0 : 1 ≤ k) (hk : k ≤ 4503599627370496) :
    ∃ k' ys, Ev (fun n => laws_markInt64S_m n a k) (k', ys) ∧ Ev (fun n => laws_heldInt64S_m n ys k) k' ∧ k ≤ k' ∧ k' ≤ k + 4398046511104 := by
  obtain ⟨k', ys, h1, h2, h3, h4, _⟩ := marks_ints h h0 (by omega)
  exact ⟨k', ys, h1, h2, h3, by omega⟩
/-! ### letters and names -/
def small (b : UInt8) : Bool := decide ((97 : Int) ≤ (b.toNat : Int)) && decide ((b.toNat : Int) ≤ 122)
def dg (b : UInt8) : Bool := decide ((48 : Int) ≤ (b.toNat : Int)) && decide ((b.toNat : Int) ≤ 57)
theorem dg_eq (b : UInt8) : dg b = isDig b := by
  unfold dg isDig
  rw [show decide ((48 : Int) ≤ (b.toNat : Int)) = decide (48 ≤ b.toNat) from decide_eq_decide.2 (by omega), show decide ((b.toNat : Int) ≤ 57) = decide (b.toNat ≤ 57) from decide_eq_decide.2 (by omega)]
theorem small_m {m : Nat} {b : UInt8} : spec_l01Small_m m (b.toNat : Int) = some (small b) := by unfold spec_l01Small_m; rw [and_some]; rfl
theorem dg_m {m : Nat} {b : UInt8} : spec_l01Digit_m m (b.toNat : Int) = some (dg b) := by unfold spec_l01Digit_m; rw [and_some]; rfl
theorem idg_m {m : Nat} {b : UInt8} : impl_isDigit_m m (b.toNat : Int) = some (dg b) := by unfold impl_isDigit_m; rw [and_some]; rfl

def okN (s : Str) (k : Nat) : Bool := match s[k]? with
  | none => true
  | some b => !(!(small b) && (((k : Int) == 0) || !(dg b)))
def okS (s : Str) (k : Nat) : Bool := match s[k]? with
  | none => true
  | some b => !(!(small b) && !(dg b))
def nameP (s : Str) : Bool := decide (1 ≤ s.length) && decide (s.length ≤ 10) && decide (∀ k, k < s.length → okN s k = true)
def actP (s : Str) : Bool := nameP s && (s != [116, 97, 117])

theorem name_impl {s : Str} (hl : s.length ≤ maxLen) : Ev (fun m => impl_IsName_m m s) (nameP s) := by
  have hm := maxLen_le
  unfold impl_IsName_m
  refine Ev.bind (EvI.all s.length (okN s) false (fun k hk hok => Ev.const' fun m => ?_) (fun k hk hok => Ev.const' fun m => ?_) (Ev.ite_f (by simp) (Ev.pure _))).ev (Ev.const ?_)
  · obtain ⟨b, hb⟩ := get_lt hk
    have hk' : decide ((k : Int) < (s.length : Int)) = true := by simpa using hk
    simp only [okN, hb] at hok
    have e : (!(small b) && (((k : Int) == 0) || !(dg b))) = false := by rwa [Bool.not_eq_true'] at hok
    unfold small at e
    simp only [hk', if_true, idx_at hb, Option.bind_some, and_some, idg_m, or_some, e, W_succ hk (by omega)]
    rfl
  · obtain ⟨b, hb⟩ := get_lt hk
    have hk' : decide ((k : Int) < (s.length : Int)) = true := by simpa using hk
    simp only [okN, hb] at hok
    have e : (!(small b) && (((k : Int) == 0) || !(dg b))) = true := by rwa [Bool.not_eq_false'] at hok
    unfold small at e
    simp only [hk', if_true, idx_at hb, Option.bind_some, and_some, idg_m, or_some, e]
  · unfold nameP
    rw [show decide (1 ≤ s.length) = decide ((1 : Int) ≤ (s.length : Int)) from decide_eq_decide.2 (by omega), show decide (s.length ≤ 10) = decide ((s.length : Int) ≤ 10) from decide_eq_decide.2 (by omega)]
    by_cases h : ∀ k, k < s.length → okN s k = true
    · rw [if_pos h, ctl_l, decide_eq_true h, Bool.and_true, and_some]; rfl
    · rw [if_neg h, ctl_r, decide_eq_false h, Bool.and_false]

theorem name_all {s : Str} {b : UInt8} {r : Str} (e : s = b :: r) : (∀ k, k < s.length → okN s k = true) ↔ small b = true ∧ ∀ k, k < s.length → okS s k = true := by
  subst e
  constructor
  · intro h
    have h0 := h 0 (by simp)
    simp [okN] at h0
    refine ⟨h0, fun k hk => ?_⟩
    have h1 := h k hk
    obtain ⟨c, hc⟩ := get_lt hk
    simp only [okN, okS, hc] at h1 ⊢
    cases hs : small c <;> cases hd : dg c <;> simp [hs, hd] at h1 ⊢
  · rintro ⟨h0, h⟩ k hk
    have h1 := h k hk
    obtain ⟨c, hc⟩ := get_lt hk
    simp only [okN, okS, hc] at h1 ⊢
    cases k with
    | zero => have : b = c := by simpa using hc
              subst this; simp [h0]
    | succ j =>
      have : (((j + 1 : Nat) : Int) == 0) = false := beq_false_of_ne (by omega)
      rw [this]
      simpa using h1

theorem name_spec {s : Str} (_hl : s.length ≤ maxLen) : Ev (fun m => spec_l01Name_m m s) (nameP s) := by
  have hm := maxLen_le
  unfold spec_l01Name_m
  cases hs : s with
  | nil => exact (Ev.const' fun m => rfl : Ev (fun m => _) false)
  | cons b r =>
    rw [← hs]
    have h1 : (s == ([] : Str)) = false := by rw [hs]; rfl
    have hb : s[0]? = some b := by rw [hs]; rfl
    simp only [h1, or_some, Option.bind_some, Bool.false_or]
    by_cases h2 : 10 < s.length
    · have h2' : decide ((10 : Int) < (s.length : Int)) = true := decide_eq_true (by omega)
      simp only [h2', if_true, Option.bind_some]
      refine (Ev.pure _).eq ?_
      unfold nameP
      rw [decide_eq_false (show ¬ s.length ≤ 10 by omega)]
      simp
    · have h2' : decide ((10 : Int) < (s.length : Int)) = false := decide_eq_false (by omega)
      have hi : idx s (0 : Int) = some b := idx_at (k := 0) hb
      simp only [h2', Bool.false_eq_true, if_false, hi, Option.bind_some, small_m]
      have hN := name_all hs
      have hlen : 1 ≤ s.length := by rw [hs]; simp
      cases h3 : small b with
      | false =>
        refine (Ev.ite_t (by rfl) (Ev.pure _)).eq ?_
        unfold nameP
        have : ¬ ∀ k, k < s.length → okN s k = true := fun h => by have := (hN.1 h).1; rw [h3] at this; cases this
        rw [decide_eq_false this, Bool.and_false]
      | true =>
        refine Ev.ite_f (by simp) ?_
        refine (Ev.all s.length (okS s) false true (fun k hk hok => Ev.const' fun m => ?_) (fun k hk hok => Ev.const' fun m => ?_) (Ev.ite_f (by simp) (Ev.pure _))).eq ?_
        · obtain ⟨c, hc⟩ := get_lt hk
          have hk' : decide ((k : Int) < (s.length : Int)) = true := by simpa using hk
          simp only [okS, hc] at hok
          have e : (!(small c) && !(dg c)) = false := by rwa [Bool.not_eq_true'] at hok
          simp only [hk', if_true, idx_at hc, Option.bind_some, dg_m, and_some, e, W_succ hk (by omega)]
          rfl
        · obtain ⟨c, hc⟩ := get_lt hk
          have hk' : decide ((k : Int) < (s.length : Int)) = true := by simpa using hk
          simp only [okS, hc] at hok
          have e : (!(small c) && !(dg c)) = true := by rwa [Bool.not_eq_false'] at hok
          simp only [hk', if_true, idx_at hc, Option.bind_some, dg_m, and_some, e]
        · unfold nameP
          rw [decide_eq_true hlen, decide_eq_true (show s.length ≤ 10 by omega)]
          by_cases h : ∀ k, k < s.length → okS s k = true
          · rw [if_pos h, decide_eq_true (hN.2 ⟨h3, h⟩)]; rfl
          · rw [if_neg h, decide_eq_false (fun h' => h (hN.1 h').2)]; rfl

theorem act_impl {s : Str} (hl : s.length ≤ maxLen) : Ev (fun m => impl_IsAction_m m s) (actP s) := by
  unfold impl_IsAction_m
  exact Ev.bind (name_impl hl) (Ev.const (by rw [and_some]; rfl))
theorem act_spec {s : Str} (hl : s.length ≤ maxLen) : Ev (fun m => spec_l01Action_m m s) (actP s) := by
  unfold spec_l01Action_m
  exact Ev.bind (name_spec hl) (Ev.const (by rw [and_some]; rfl))

/-! ### numbers -/
def numV (w : Str) : Int := (num w).getD 0
def numB (w : Str) : Bool := (num w).isSome
theorem dec_m {m : Nat} {n : Int} (h1 : -9223372036854775808 ≤ n) (h2 : n ≤ 9223372036854775807) : impl_Decimal_m m n = some (Lib.itoa n) := by
  unfold impl_Decimal_m strconv_FormatInt_m
  rw [if_pos ⟨rfl, h1, h2⟩]
  rfl
theorem read_dec {m : Nat} {w : Str} (hl : w.length ≤ 281474976710656) : impl_ReadDecimal_m m w = some (numV w, numB w) := by
  unfold impl_ReadDecimal_m strings_TrimPrefix_m
  rw [if_pos trivial]
  simp only [Option.bind_some]
  unfold numV numB
  rw [← rdDec_eq]
  unfold rdDec
  by_cases h : 18 < (Lib.trimPrefix w [45]).length
  · rw [if_pos h, if_pos (decide_eq_true (by omega))]; rfl
  · rw [if_neg h, if_neg (by rw [decide_eq_false (by omega)]; simp)]
    unfold strconv_ParseInt_m
    rw [if_pos ⟨rfl, rfl, hl⟩]
    cases hp : Lib.parseIntB 64 w with
    | ok v =>
      obtain ⟨h1, h2⟩ := parse_range hp
      simp only [Option.bind_some, dec_m h1 h2, Bool.false_eq_true, if_false]
      by_cases hi : Lib.itoa v = w
      · simp [hi]
      · have : (Lib.itoa v != w) = true := by simpa using hi
        simp [hi, this]
    | range => rfl
    | _ => rfl

theorem drop_take_succ {s : Str} {k i : Nat} {b : UInt8} (h : s[k]? = some b) (hi : i ≤ k) : (s.take (k + 1)).drop i = (s.take k).drop i ++ [b] := by
  rw [List.take_add_one, h, List.drop_append_of_le_length (by
    have : k < s.length := by
      rcases Nat.lt_or_ge k s.length with h' | h'
      · exact h'
      · rw [List.getElem?_eq_none h'] at h; cases h
    simp; omega)]
  rfl

theorem digits_loop {w : Str} (hl : w.length ≤ maxLen) {i : Nat} (hi : i ≤ w.length) (h18 : w.length - i ≤ 18) :
    Ev (fun m => iter (fun (s : (Int) × (Int)) => (match s with | (x59, x60) => (if (decide (x60 < (w.length : Int))) = true then (idx w x60).bind fun b88 => (spec_l01Digit_m m (b88.toNat : Int)).bind fun x92 => (if (!x92) = true then some (.inr (.inr ((0 : Int), false))) else (idx w x60).bind fun b96 => some (.inl ((W ((W ((10 : Int) * x59)) + (W (IntKind.u8.wrap ((b96.toNat : Int) - (48 : Int)))))), (W (x60 + (1 : Int)))))) else some (.inr (.inl (x59)))) : Option (((Int) × (Int)) ⊕ ((Int) ⊕ ((Int × Bool)))))) m ((0 : Int), (i : Int)))
      (if (w.drop i).all isDig = true then .inl (valN (w.drop i) : Int) else .inr ((0 : Int), false)) := by
  have hm := maxLen_le
  refine Exists.elim (EvI.count (step := fun m (s : (Int) × (Int)) => (match s with | (x59, x60) => (if (decide (x60 < (w.length : Int))) = true then (idx w x60).bind fun b88 => (spec_l01Digit_m m (b88.toNat : Int)).bind fun x92 => (if (!x92) = true then some (.inr (.inr ((0 : Int), false))) else (idx w x60).bind fun b96 => some (.inl ((W ((W ((10 : Int) * x59)) + (W (IntKind.u8.wrap ((b96.toNat : Int) - (48 : Int)))))), (W (x60 + (1 : Int)))))) else some (.inr (.inl (x59)))) : Option (((Int) × (Int)) ⊕ ((Int) ⊕ ((Int × Bool))))))
    w.length (fun k (_ : Unit) => ((valN ((w.take k).drop i) : Int), (k : Int))) (fun k _ => i ≤ k ∧ ((w.take k).drop i).all isDig = true)
    (fun r => r = (if (w.drop i).all isDig = true then .inl (valN (w.drop i) : Int) else .inr ((0 : Int), false))) ?hs ?hn hi (t := ()) ⟨Nat.le_refl _, by rw [List.drop_take_self]; rfl⟩) (fun res ⟨h1, h2⟩ => by
    subst h2
    rw [List.drop_take_self] at h1
    exact h1.ev)
  · rintro k t hk ⟨hik, hI⟩
    obtain ⟨b, hb⟩ := get_lt hk
    have hk' : decide ((k : Int) < (w.length : Int)) = true := by simpa using hk
    cases hd : isDig b with
    | true =>
      refine .inl ⟨(), Ev.const' fun m => ?_, by omega, ?_⟩
      · simp only [hk', if_true, idx_at hb, Option.bind_some, dg_m, dg_eq, hd, Bool.not_true, Bool.false_eq_true, if_false, W_succ hk (by omega)]
        have hb2 := dig_le hd
        have hv : valN ((w.take k).drop i) < 10 ^ 18 := val_small (by simp; omega) hI
        have hv2 : valN ((w.take (k + 1)).drop i) < 10 ^ 18 := val_small (by simp; omega) (by rw [drop_take_succ hb hik, List.all_append, hI]; simp [hd])
        rw [drop_take_succ hb hik, valN_snoc] at hv2 ⊢
        have e1 : IntKind.u8.wrap ((b.toNat : Int) - 48) = ((b.toNat - 48 : Nat) : Int) := by
          unfold IntKind.wrap
          simp [IntKind.signed, IntKind.bits]
          omega
        rw [e1, W_of (n := ((b.toNat - 48 : Nat) : Int)) (by omega) (by omega), W_of (n := 10 * (valN ((w.take k).drop i) : Int)) (by omega) (by omega), W_of (by omega) (by omega)]
        congr 3
      · rw [drop_take_succ hb hik, List.all_append, hI]; simp [hd]
    | false =>
      refine .inr ⟨.inr ((0 : Int), false), Ev.const' fun m => ?_, ?_⟩
      · simp only [hk', if_true, idx_at hb, Option.bind_some, dg_m, dg_eq, hd, Bool.not_false]
      · rw [if_neg]
        intro h
        rw [List.all_eq_true] at h
        have : b ∈ w.drop i := by
          have : (w.drop i)[k - i]? = some b := by rw [List.getElem?_drop, show i + (k - i) = k by omega]; exact hb
          exact List.mem_of_getElem? this
        rw [h b this] at hd
        cases hd
  · rintro t ⟨hik, hI⟩
    refine ⟨.inl (valN (w.drop i) : Int), Ev.const' fun m => ?_, ?_⟩
    · rw [List.take_length] at *
      simp
    · rw [List.take_length] at hI
      rw [if_pos hI]


def numRes (w : Str) (i : Nat) : Int × Bool :=
  if w.length = i ∨ 18 < w.length - i ∨ ((w.drop i).head? = some 48 ∧ 1 < w.length) then (0, false)
  else if (w.drop i).all isDig = true then (if i = 1 then -(valN (w.drop i) : Int) else (valN (w.drop i) : Int), true) else (0, false)

theorem num_body {w : Str} (hl : w.length ≤ maxLen) {i : Nat} {x : Int} (hx : x = (i : Int)) (hi : i ≤ w.length) :
    Ev (fun fuel => (if ((w.length : Int) == x) = true then some true else some (decide ((18 : Int) < (W ((w.length : Int) - x))))).bind fun t34 => (if t34 = true then some true else (idx w x).bind fun b40 => (if ((b40.toNat : Int) == (48 : Int)) = true then some (decide ((1 : Int) < (w.length : Int))) else some false).bind fun t42 => some t42).bind fun t37 => (if t37 = true then some (((0 : Int), false)) else (iter (fun (s : (Int) × (Int)) => (match s with | (x59, x60) => (if (decide (x60 < (w.length : Int))) = true then (idx w x60).bind fun b88 => (spec_l01Digit_m fuel (b88.toNat : Int)).bind fun x92 => (if (!x92) = true then some (.inr (.inr ((0 : Int), false))) else (idx w x60).bind fun b96 => some (.inl ((W ((W ((10 : Int) * x59)) + (W (IntKind.u8.wrap ((b96.toNat : Int) - (48 : Int)))))), (W (x60 + (1 : Int)))))) else some (.inr (.inl (x59)))) : Option (((Int) × (Int)) ⊕ ((Int) ⊕ ((Int × Bool)))))) fuel ((0 : Int), x)).bind fun res75 => ctl (β := Int) (ρ := (Int × Bool)) (τ := (Int × Bool)) res75 (fun (x74) => join (κ := Int → Option (Int × Bool)) (fun (x80 : Int) => some ((x80, true))) (fun K81 => (if (x == (1 : Int)) = true then (K81 (W (0 - x74))) else (K81 x74)))) (fun q => some (q)))) (numRes w i) := by
  have hm := maxLen_le
  subst hx
  unfold numRes
  by_cases h1 : w.length = i
  · have e1 : ((w.length : Int) == (i : Int)) = true := by rw [h1]; simp
    exact Ev.eq (r := ((0 : Int), false)) (Ev.const' fun m => by simp only [e1, if_true, Option.bind_some]) (if_pos (.inl h1)).symm
  · have e1 : ((w.length : Int) == (i : Int)) = false := beq_false_of_ne (by omega)
    have w1 : W ((w.length : Int) - (i : Int)) = (w.length : Int) - (i : Int) := W_of (by omega) (by omega)
    simp only [e1, Bool.false_eq_true, if_false, Option.bind_some, w1]
    by_cases h2 : 18 < w.length - i
    · have e2 : decide ((18 : Int) < (w.length : Int) - (i : Int)) = true := decide_eq_true (by omega)
      exact Ev.eq (r := ((0 : Int), false)) (Ev.const' fun m => by simp only [e2, if_true, Option.bind_some]) (if_pos (.inr (.inl h2))).symm
    · have e2 : decide ((18 : Int) < (w.length : Int) - (i : Int)) = false := decide_eq_false (by omega)
      obtain ⟨b, hb⟩ := get_lt (xs := w) (k := i) (by omega)
      have hh : (w.drop i).head? = some b := by rw [List.head?_drop]; exact hb
      simp only [e2, Bool.false_eq_true, if_false, idx_at hb, Option.bind_some, and_some]
      by_cases h3 : b = 48 ∧ 1 < w.length
      · have e3 : ((((b.toNat : Int) == 48) && decide ((1 : Int) < (w.length : Int)))) = true := by
          rw [h3.1, decide_eq_true (by omega : (1 : Int) < (w.length : Int))]; rfl
        exact Ev.eq (r := ((0 : Int), false)) (Ev.ite_t e3 (Ev.pure _)) (if_pos (.inr (.inr ⟨by rw [hh, h3.1], h3.2⟩))).symm
      · have e3 : ¬ ((((b.toNat : Int) == 48) && decide ((1 : Int) < (w.length : Int)))) = true := by
          intro h
          rw [Bool.and_eq_true] at h
          refine h3 ⟨?_, by have := of_decide_eq_true h.2; omega⟩
          have := beq_iff_eq.1 h.1
          exact UInt8.toNat_inj.1 (show b.toNat = 48 by omega)
        refine Ev.eq ?_ (if_neg (by
          rintro (h | h | ⟨h, h'⟩)
          · exact h1 h
          · exact h2 h
          · rw [hh] at h; exact h3 ⟨by simpa using h, h'⟩)).symm
        refine Ev.ite_f e3 (Ev.bind (digits_loop hl hi (by omega)) (Ev.const ?_))
        by_cases hd : (w.drop i).all isDig = true
        · have hv := val_small (ds := w.drop i) (by simp; omega) hd
          rw [if_pos hd, if_pos hd, ctl_l]
          show (if ((i : Int) == (1 : Int)) = true then some (W (0 - (valN (w.drop i) : Int)), true) else some ((valN (w.drop i) : Int), true)) = _
          by_cases hi1 : i = 1
          · subst hi1
            rw [if_pos (by rfl), if_pos rfl, W_of (by omega) (by omega)]
            congr 2
            omega
          · rw [if_neg (by intro h; have := beq_iff_eq.1 h; omega), if_neg hi1]
        · rw [if_neg hd, if_neg hd, ctl_r]

theorem num_minus (r : Str) : num (45 :: r) = if okD r = true ∧ r.head? ≠ some 48 then some (-(valN r : Int)) else none := by
  unfold num
  rw [if_pos (show (45 :: r : Str).head? = some 45 from rfl)]
  rfl
theorem numRes_neg (r : Str) : numRes (45 :: r) 1 = (numV (45 :: r), numB (45 :: r)) := by
  unfold numRes numV numB
  rw [num_minus]
  simp only [List.drop_succ_cons, List.drop_zero, List.length_cons, Nat.add_sub_cancel, if_true]
  by_cases h : okD r = true ∧ r.head? ≠ some 48
  · obtain ⟨h1, h2, h3⟩ := okD_iff.1 h.1
    have hp := List.length_pos_iff.2 h1
    rw [if_pos h, if_neg (by rintro (g | g | ⟨g, _⟩) <;> first | omega | exact h.2 g), if_pos h3]
    rfl
  · rw [if_neg h]
    split
    · rfl
    · rename_i hc
      split
      · rename_i hd
        exfalso
        apply h
        refine ⟨okD_iff.2 ⟨fun e => hc (.inl (by rw [e]; rfl)), by omega, hd⟩, fun e => hc (.inr (.inr ⟨e, ?_⟩))⟩
        cases r with
        | nil => cases e
        | cons _ _ => simp
      · rfl
theorem numRes_pos {w : Str} (hw : w.head? ≠ some 45) : numRes w 0 = (numV w, numB w) := by
  unfold numRes numV numB num
  rw [if_neg hw]
  simp only [List.drop_zero, Nat.sub_zero, Nat.zero_ne_one, if_false]
  by_cases h : okD w = true ∧ (w.head? ≠ some 48 ∨ w.length = 1)
  · obtain ⟨h1, h2, h3⟩ := okD_iff.1 h.1
    have hp := List.length_pos_iff.2 h1
    rw [if_pos h, if_neg (by rintro (g | g | ⟨g, g'⟩) <;> first | omega | exact h.2.elim (fun x => x g) (fun x => by omega)), if_pos h3]
    rfl
  · rw [if_neg h]
    split
    · rfl
    · rename_i hc
      split
      · rename_i hd
        exfalso
        apply h
        have hp : 0 < w.length := by
          rcases Nat.eq_zero_or_pos w.length with g | g
          · exact absurd (.inl g) hc
          · exact g
        refine ⟨okD_iff.2 ⟨fun e => hc (.inl (by rw [e]; rfl)), by omega, hd⟩, ?_⟩
        by_cases g : w.head? = some 48
        · right
          rcases Nat.lt_or_ge 1 w.length with g' | g'
          · exact absurd (.inr (.inr ⟨g, g'⟩)) hc
          · omega
        · exact .inl g
      · rfl

theorem num_spec {w : Str} (hl : w.length ≤ maxLen) : Ev (fun m => spec_l01Number_m m w) (numV w, numB w) := by
  have hm := maxLen_le
  unfold spec_l01Number_m
  refine Ev.join ?_
  cases hw : w with
  | nil => 
    rw [← hw]
    have e : decide ((0 : Int) < (w.length : Int)) = false := by rw [hw]; rfl
    simp only [e, Bool.false_eq_true, if_false, Option.bind_some]
    exact (num_body hl (i := 0) (x := 0) rfl (Nat.zero_le _)).eq (numRes_pos (by rw [hw]; simp))
  | cons b r =>
    rw [← hw]
    have e : decide ((0 : Int) < (w.length : Int)) = true := by rw [hw]; simp
    have hb : idx w (0 : Int) = some b := idx_at (k := 0) (by rw [hw]; rfl)
    refine Ev.bindc (a := ((b.toNat : Int) == (45 : Int))) (by simp only [e, if_true, hb, Option.bind_some]) ?_
    by_cases h : b = 45
    · subst h
      refine Ev.ite_t (by rfl) ?_
      exact (num_body hl (i := 1) (x := 1) rfl (by rw [hw]; simp)).eq (by rw [hw]; exact numRes_neg r)
    · refine Ev.ite_f (fun g => h ?_) ?_
      · have := beq_iff_eq.1 g
        exact UInt8.toNat_inj.1 (show b.toNat = 45 by omega)
      · exact (num_body hl (i := 0) (x := 0) rfl (Nat.zero_le _)).eq (numRes_pos (by rw [hw]; simpa using h))
theorem mx : 4294967296 ≤ maxLen ∧ maxLen ≤ 9223372036854775807 := by unfold maxLen; omega

/-! ### the library's functions -/
theorem split_lib {m : Nat} {s : Str} (hl : s.length < 4294967281) : strings_Split_m m s [44] = some (splitC 44 s) := by
  unfold strings_Split_m
  have hc : Lib.countB ⟨s.toArray⟩ ⟨([44] : Str).toArray⟩ = Lib.count s [44] := rfl
  have h3 := Lib.splitB_all ⟨([44] : Str).toArray⟩ (by decide) 0 _ ⟨s.toArray⟩ rfl
  have h4 := Lib.countB_le ⟨([44] : Str).toArray⟩ (by decide) _ ⟨s.toArray⟩ (Nat.le_refl _)
  have h5 : (⟨s.toArray⟩ : ByteArray).size = s.length := size_sv s
  have h6 := mx
  rw [if_pos ⟨hl, by decide, h3, by omega⟩, Lib.splitB_data]
  exact congrArg some (splitK_eq 44 s)
theorem cut_lib {m : Nat} {s : Str} (hl : s.length < 4294967281) : strings_Cut_m m s [40] = some (if (40 : UInt8) ∈ s then (pre 40 s, suf 40 s, true) else (s, [], false)) := by
  unfold strings_Cut_m
  rw [if_pos hl, cut_one]
theorem trimS_lib {m : Nat} {s : Str} (hl : s.length < 4294967281) : strings_TrimSuffix_m m s [41] = some (if s.getLast? = some 41 then s.dropLast else s) := by
  unfold strings_TrimSuffix_m
  rw [if_pos (by omega), suf_one]

/-! ### splitting -/
theorem splitC_snoc_eq (c : UInt8) : ∀ s : Str, splitC c (s ++ [c]) = splitC c s ++ [[]]
  | [] => by simp [splitC]
  | a :: r => by
    have ih := splitC_snoc_eq c r
    rw [List.cons_append]
    unfold splitC
    rw [ih]
    split
    · rfl
    · cases hr : splitC c r with
      | nil => exact absurd hr (splitC_ne c r)
      | cons x t => rfl
theorem splitC_snoc_ne {c b : UInt8} (hb : b ≠ c) : ∀ (s : Str) (o : List Str) (l : Str), splitC c s = o ++ [l] → splitC c (s ++ [b]) = o ++ [l ++ [b]]
  | [], o, l, h => by
    have h' : [([] : Str)] = o ++ [l] := h
    have : o = [] := by
      cases o with
      | nil => rfl
      | cons _ t => simp at h'
    subst this
    have : l = [] := by simpa using h'.symm
    subst this
    simp [splitC, hb]
  | a :: r, o, l, h => by
    rw [List.cons_append]
    unfold splitC at h ⊢
    by_cases ha : a = c
    · rw [if_pos ha] at h ⊢
      cases o with
      | nil =>
        exfalso
        have : splitC c r = [] := by simpa using (List.cons.inj h).2
        exact splitC_ne c r this
      | cons x o' =>
        rw [List.cons_append] at h ⊢
        obtain ⟨h1, h2⟩ := List.cons.inj h
        rw [← h1, splitC_snoc_ne hb r o' l h2]
    · rw [if_neg ha] at h ⊢
      rcases snoc_or (splitC c r) with hr | ⟨o', l', hr⟩
      · exact absurd hr (splitC_ne c r)
      · have ih := splitC_snoc_ne hb r o' l' hr
        rw [ih]
        rw [hr] at h
        cases o' with
        | nil =>
          simp only [List.nil_append, List.headD_cons, List.tail_cons] at h ⊢
          have : o = [] := by
            cases o with
            | nil => rfl
            | cons _ t => simp at h
          subst this
          have : l = a :: l' := by simpa using h.symm
          subst this
          rfl
        | cons x o'' =>
          simp only [List.cons_append, List.headD_cons, List.tail_cons] at h ⊢
          cases o with
          | nil => simp at h
          | cons y o3 =>
            rw [List.cons_append] at h ⊢
            obtain ⟨h1, h2⟩ := List.cons.inj h
            obtain ⟨h3, h4⟩ := List.append_inj' h2 rfl
            have : l' = l := by simpa using h4
            rw [h1, h3, this]

theorem split_spec {s : Str} (hl : s.length < 4294967281) : Ev (fun m => spec_l01Split_m m s 44) (splitC 44 s) := by
  have hm := mx
  unfold spec_l01Split_m
  refine Exists.elim (EvI.count (step := _) s.length (fun k (t : List Str × Nat) => (t.1, (t.2 : Int), (k : Int))) (fun k t => t.2 ≤ k ∧ splitC 44 (s.take k) = t.1 ++ [(s.take k).drop t.2])
    (fun r => ∃ (o : List Str) (f : Nat), r = .inl (o, (f : Int)) ∧ f ≤ s.length ∧ splitC 44 s = o ++ [s.drop f]) ?_ ?_ (k := 0) (t := ([], 0)) (Nat.zero_le _) ⟨Nat.le_refl _, rfl⟩)
    (fun res ⟨h1, o, f, h2, h3, h4⟩ => Ev.bind h1.ev (by
      subst h2
      have hlen : o.length ≤ s.length + 1 := by
        have := splitC_len 44 s
        rw [h4] at this
        simp at this
        omega
      rw [h4]
      have hs : sub s (f : Int) (s.length : Int) = some (s.drop f) := by rw [sub_ok h3 (Nat.le_refl _), List.take_length]
      exact Ev.bindc hs (Ev.bindc (app_ok (by simp; omega)) (Ev.pure _))))
  · rintro k ⟨o, f⟩ hk ⟨hf, hI⟩
    have hf : f ≤ k := hf
    have hI : splitC 44 (s.take k) = o ++ [(s.take k).drop f] := hI
    obtain ⟨b, hb⟩ := get_lt hk
    have hk' : decide ((k : Int) < (s.length : Int)) = true := by simpa using hk
    have htk : s.take (k + 1) = s.take k ++ [b] := by rw [List.take_add_one, hb]; rfl
    left
    by_cases h : b = 44
    · subst h
      have hlen : o.length ≤ s.length := by
        have := splitC_len 44 (s.take k)
        rw [hI] at this
        simp at this
        omega
      refine ⟨(o ++ [(s.take k).drop f], k + 1), Ev.ite_t hk' (Ev.join (Ev.bindc (idx_at hb) (Ev.ite_t (by rfl) (Ev.bindc (sub_ok hf (by omega)) (Ev.bindc (app_ok (by simp; omega)) (Ev.const ?_)))))), Nat.le_refl _, ?_⟩
      · rw [W_succ hk (by omega)]
      · show splitC 44 (s.take (k + 1)) = _
        rw [htk, splitC_snoc_eq, hI]
        congr 2
        rw [List.drop_eq_nil_of_le (by simp; omega)]
    · refine ⟨(o, f), Ev.ite_t hk' (Ev.join (Ev.bindc (idx_at hb) (Ev.ite_f ?_ (Ev.const ?_)))), by show f ≤ k + 1; omega, ?_⟩
      · intro g
        have := beq_iff_eq.1 g
        exact h (UInt8.toNat_inj.1 (show b.toNat = 44 by omega))
      · rw [W_succ hk (by omega)]
      · show splitC 44 (s.take (k + 1)) = o ++ [(s.take (k + 1)).drop f]
        rw [htk, splitC_snoc_ne h _ _ _ hI, List.drop_append_of_le_length (by simp; omega)]
  · rintro ⟨o, f⟩ ⟨hf, hI⟩
    refine ⟨_, Ev.ite_f (by simp) (Ev.pure _), o, f, rfl, hf, ?_⟩
    rw [List.take_length] at hI
    exact hI

/-! ### lists of numbers -/
theorem fill_iter {α β ρ : Type} {to' : Nat → α → Option β} {f : α → β} {a : List α} {z : β} (hto : ∀ x ∈ a, Ev (fun n => to' n x) (f x)) (hl : a.length ≤ 1048576) :
    EvI (fun n (s : (List β) × (Int)) => (match s with | (xs35, x36) => (if (decide (x36 < (a.length : Int))) = true then (idx a x36).bind fun x75 => (to' n x75).bind fun x92 => (idx xs35 x36).bind fun _ => some (.inl ((xs35.set x36.toNat x92), (W (x36 + (1 : Int))))) else some (.inr (.inl (xs35)))) : Option (((List β) × (Int)) ⊕ (((List β)) ⊕ (ρ))))) (List.replicate a.length z, (0 : Int)) (.inl (a.map f)) := by
  refine EvI.upto a.length (fun k (t : List β) => (t, (k : Int))) (fun k t => t = (a.take k).map f ++ List.replicate (a.length - k) z) (k := 0) (t := List.replicate a.length z) rfl (Nat.zero_le _) (by simp) (fun k t hk ht => ?_) (fun t ht => ?_)
  · obtain ⟨x, hx⟩ : ∃ x, a[k]? = some x := ⟨a[k], List.getElem?_eq_getElem hk⟩
    have hlen : ((a.take k).map f).length = k := by simp; omega
    have hi : t[k]? = some z := by
      rw [ht, List.getElem?_append_right (by omega), hlen, List.getElem?_replicate, if_pos (by omega)]
    refine ⟨_, (Ev.ite_t (by simpa using hk) (Ev.bindc (idx_at hx) (Ev.bind (hto x (List.mem_of_getElem? hx)) (Ev.bindc (idx_at hi) (Ev.pure (Sum.inl (t.set (k : Int).toNat (f x), W ((k : Int) + 1)))))))).eq ?_, rfl⟩
    rw [W_of (by omega) (by omega)]
    refine congrArg Sum.inl (Prod.ext ?_ rfl)
    show t.set (k : Int).toNat (f x) = _
    rw [ht, Int.toNat_natCast, List.set_append_right _ _ (by omega), hlen]
    rw [List.take_add_one, hx, List.map_append, List.append_assoc]
    congr 1
    rw [show a.length - k = (a.length - (k + 1)) + 1 by omega, List.replicate_succ]
    simp
  · refine (Ev.ite_f (by simp) (Ev.pure _)).eq ?_
    rw [ht]; simp

def val63 (n : Int) : Bool := decide (0 ≤ n) && decide (n ≤ 63)
def dots (vs : List Int) : Str := Lib.join (vs.map Lib.itoa) [44]

theorem read_nums {ws : List Str} (hl : ws.length < 4294967282) (hw : ∀ w ∈ ws, w.length ≤ 281474976710656) :
    Ev (fun m => impl_readNumbers_m m ws) (if ws.all numB = true then (ws.map numV, true) else ([], false)) := by
  have hm := mx
  unfold impl_readNumbers_m
  refine Exists.elim (EvI.count (step := _) ws.length (fun k (_ : Unit) => ((ws.take k).map numV, (k : Int))) (fun k _ => (ws.take k).all numB = true)
    (fun r => r = (if ws.all numB = true then .inl (ws.map numV) else .inr ([], false))) ?_ ?_ (k := 0) (t := ()) (Nat.zero_le _) rfl)
    (fun res ⟨h1, h2⟩ => Ev.bind h1.ev (by
      subst h2
      by_cases h : ws.all numB = true
      · rw [if_pos h, if_pos h]; exact Ev.pure _
      · rw [if_neg h, if_neg h]; exact Ev.pure _))
  · intro k t hk hI
    obtain ⟨w, hw'⟩ := get_lt hk
    have hk' : decide ((k : Int) < (ws.length : Int)) = true := by simpa using hk
    have htk : ws.take (k + 1) = ws.take k ++ [w] := by rw [List.take_add_one, hw']; rfl
    have hrd : ∀ m, impl_ReadDecimal_m m w = some (numV w, numB w) := fun m => read_dec (hw w (List.mem_of_getElem? hw'))
    cases hb : numB w with
    | true =>
      left
      refine ⟨(), Ev.ite_t hk' (Ev.bindc (idx_at hw') (Ev.bind (Ev.const' hrd) (Ev.ite_f (by simp [hb]) (Ev.bindc (app_ok (by simp; omega)) (Ev.const ?_))))), ?_⟩
      · rw [W_succ hk (by omega), htk, List.map_append]; rfl
      · rw [htk, List.all_append, hI]; simp [hb]
    | false =>
      right
      refine ⟨_, Ev.ite_t hk' (Ev.bindc (idx_at hw') (Ev.bind (Ev.const' hrd) (Ev.ite_t (by simp [hb]) (Ev.pure _)))), ?_⟩
      rw [if_neg]
      intro h
      rw [List.all_eq_true] at h
      rw [h w (List.mem_of_getElem? hw')] at hb
      cases hb
  · intro t hI
    refine ⟨_, Ev.ite_f (by simp) (Ev.pure _), ?_⟩
    rw [List.take_length] at *
    rw [if_pos hI]

theorem itoa_small : ∀ k : Fin 64, (Lib.itoa (k.val : Int)).length ≤ 2 := by
  intro k
  have e : Lib.itoa (k.val : Int) = Lib.decDigits k.val := by unfold Lib.itoa; rw [if_neg (by omega)]; simp
  rw [e]
  have := k.isLt
  by_cases h : k.val < 10
  · rw [Lib.decDigits_one h]; simp
  · rw [Lib.decDigits_two h (by omega)]; simp
theorem itoa_63 {n : Int} (h : val63 n = true) : (Lib.itoa n).length ≤ 2 := by
  unfold val63 at h
  simp at h
  have := itoa_small ⟨n.toNat, by omega⟩
  simp only [] at this
  rwa [show ((n.toNat : Nat) : Int) = n by omega] at this
theorem dots_len {vs : List Int} (h2 : vs.length ≤ 2) (h : vs.all val63 = true) : (dots vs).length ≤ 5 := by
  rw [List.all_eq_true] at h
  unfold dots
  match vs, h2, h with
  | [], _, _ => simp [Lib.join_nil]
  | [a], _, h =>
    have := itoa_63 (h a (by simp))
    rw [List.map_cons, List.map_nil, Lib.join_one]; omega
  | [a, b], _, h =>
    have := itoa_63 (h a (by simp))
    have := itoa_63 (h b (by simp))
    rw [List.map_cons, List.map_cons, List.map_nil, Lib.join_length]
    simp [Lib.lens]
    omega
theorem joined_ev {vs : List Int} (h2 : vs.length ≤ 2) (h : vs.all val63 = true) : Ev (fun m => impl_joined_m m vs [44]) (dots vs) := by
  unfold impl_joined_m
  have hd := dots_len h2 h
  refine Ev.bindc (mks_ok (by omega)) (Ev.bind (fill_iter (f := Lib.itoa) (to' := impl_Decimal_m) (a := vs) (z := ([] : Str)) (fun x hx => Ev.const' fun m => dec_m ?_ ?_) (by omega)).ev (Ev.const' fun m => ?_))
  · rw [List.all_eq_true] at h
    have := h x hx
    unfold val63 at this
    simp at this
    omega
  · rw [List.all_eq_true] at h
    have := h x hx
    unfold val63 at this
    simp at this
    omega
  · rw [ctl_l]
    unfold strings_Join_m
    rw [if_pos ⟨by simp; omega, by unfold dots at hd; omega⟩]
    rfl
theorem values_ev {vs : List Int} (hl : vs.length ≤ maxLen) : Ev (fun m => impl_areValues_m m vs) (vs.all val63) := by
  unfold impl_areValues_m slices_ContainsFunc__int64_int64_m slices_IndexFunc__int64_int64_m
  refine Ev.bind (contains_loop hl (f := fun m z => impl_areValues_1_m m z) (ok := val63) (fun x _ => Ev.const' fun m => ?_)) (Ev.const (by simp))
  unfold impl_areValues_1_m impl_isValue_m
  simp only [within_eq, Option.bind_some]
  rfl
abbrev GStrs : List Str → Prop := gList gStr
abbrev GEd : Tlaws_Edge → Prop := gAnd (gInt .i64) (gAnd (gInt .i64) (gInt .i64))
abbrev GEds : List Tlaws_Edge → Prop := gList GEd
abbrev GLts : Tlaws_Lts → Prop := gAnd (gInt .i64) (gAnd (gInt .i64) (gAnd GStrs GEds))
def BLts (t : Timpl_Lts) : Prop := t.2.2.1.length ≤ 1048576 ∧ (∀ s ∈ t.2.2.1, s.length ≤ 1048576) ∧ t.2.2.2.length ≤ 1048576

theorem sz_strs {a : List Str} (g : GStrs a) {b : Int} (h0 : 0 ≤ b) (hb : b ≤ 1048576) : ∃ r, Ev (fun n => laws_szStringS_m n a b) r ∧ Sz b r (a.length ≤ 1048576 ∧ ∀ s ∈ a, s.length ≤ 1048576) := by
  have hm := mx
  have hl := g.1
  unfold laws_szStringS_m
  rw [W_of (n := b - (a.length : Int)) (by omega) (by omega)]
  by_cases h : b - (a.length : Int) < 0
  · exact ⟨-1, Ev.ite_t (by simpa using h) (Ev.pure _), .inl (by omega)⟩
  · refine Exists.elim (EvI.count (β := Int ⊕ Int) (step := _)
      a.length (fun k (t : Int) => (t, (k : Int))) (fun k t => 0 ≤ t ∧ t ≤ b ∧ ∀ i, i < k → ∀ x, a[i]? = some x → x.length ≤ 1048576) (fun r => r = .inr (-1) ∨ ∃ t, r = .inl t ∧ 0 ≤ t ∧ t ≤ b ∧ ∀ x ∈ a, x.length ≤ 1048576)
      ?_ ?_ (k := 0) (t := b - (a.length : Int)) (Nat.zero_le _) ⟨by omega, by omega, fun i hi => by omega⟩) (fun res ⟨h1, h2⟩ => Exists.intro (match res with | .inl t => t | .inr t => t) ⟨Ev.ite_f (by simpa using h) (Ev.bind h1.ev (Ev.const (by cases res <;> rfl))), by
        rcases h2 with rfl | ⟨t, rfl, h3, h4, h5⟩
        · exact .inl (by show (-1 : Int) < 0; omega)
        · exact .inr ⟨h3, h4, by omega, h5⟩⟩)
    · rintro k t hk ⟨ht0, htb, hp⟩
      obtain ⟨x, hx⟩ := get_lt hk
      have gx := g.2 x (List.mem_of_getElem? hx)
      have hw : W (t - (x.length : Int)) = t - (x.length : Int) := W_of (by omega) (by omega)
      by_cases hneg : t - (x.length : Int) < 0
      · exact .inr ⟨_, Ev.ite_t (by simpa using hk) (Ev.bindc (idx_at hx) (Ev.ite_t (by rw [hw]; exact decide_eq_true hneg) (Ev.pure _))), .inl rfl⟩
      · refine .inl ⟨t - (x.length : Int), (Ev.ite_t (by simpa using hk) (Ev.bindc (idx_at hx) (Ev.ite_f (by rw [hw]; simpa using hneg) (Ev.pure _)))).eq ?_, by omega, by omega, fun i hi y hy => ?_⟩
        · rw [hw, W_of (by omega) (by omega)]; rfl
        · by_cases hik : i = k
          · subst hik; rw [hx] at hy; cases hy; omega
          · exact hp i (by omega) y hy
    · rintro t ⟨ht0, htb, hp⟩
      refine ⟨_, Ev.ite_f (by simp) (Ev.pure _), .inr ⟨t, rfl, ht0, htb, fun x hx => ?_⟩⟩
      obtain ⟨i, hi, rfl⟩ := List.getElem_of_mem hx
      exact hp i hi _ (List.getElem?_eq_getElem hi)

theorem sz_lts {a : Tlaws_Lts} (g : GLts a) {b : Int} (h0 : 0 ≤ b) (hb : b ≤ 1048576) : ∃ r, Ev (fun n => laws_szLts_m n a b) r ∧ Sz b r (BLts a) := by
  obtain ⟨r1, h1, s1⟩ := sz_strs g.2.2.1 h0 hb
  by_cases n1 : r1 < 0
  · exact ⟨-1, Ev.bind h1 (Ev.ite_t (by simpa using n1) (Ev.pure _)), .inl (by omega)⟩
  · rcases s1 with s1 | ⟨p1, q1, b1⟩
    · exact absurd s1 n1
    · obtain ⟨r2, h2, s2⟩ := sz_leaf (n := a.2.2.2.length) (b := r1) p1 (by omega) g.2.2.2.1
      by_cases n2 : r2 < 0
      · exact ⟨-1, Ev.bind h1 (Ev.ite_f (by simpa using n1) (Ev.bind h2 (Ev.ite_t (by simpa using n2) (Ev.pure _)))), .inl (by omega)⟩
      · rcases s2 with s2 | ⟨p2, q2, b2⟩
        · exact absurd s2 n2
        · exact ⟨r2, Ev.bind h1 (Ev.ite_f (by simpa using n1) (Ev.bind h2 (Ev.ite_f (by simpa using n2) (Ev.pure _)))), .inr ⟨p2, by omega, b1.1, b1.2, b2⟩⟩

theorem toB_strs {a : List Str} (hl : a.length ≤ 1048576) : Ev (fun n => laws_toStringS_m n a) a := by
  have := to_loop («to» := fun _ (x : Str) => some x) (f := id) (a := a) (z := ([] : Str)) (fun x _ => Ev.pure x) hl
  rw [List.map_id] at this
  exact this
theorem toB_edges {a : List Tlaws_Edge} (hl : a.length ≤ 1048576) : Ev (fun n => laws_toEdgeS_m n a) a := by
  have := to_loop («to» := fun n x => laws_toEdge_m n x) (f := id) (a := a) (z := ((0 : Int), (0 : Int), (0 : Int))) (fun x _ => Ev.pure x) hl
  rw [List.map_id] at this
  exact this
theorem toB_lts {a : Tlaws_Lts} (h : BLts a) : Ev (fun n => laws_toLts_m n a) a := Ev.bind (toB_strs h.1) (Ev.bind (toB_edges h.2.2) (Ev.pure _))

theorem eqB_strs {a : List Str} (h : a.length ≤ 1048576) : Ev (fun n => laws_eqStringS_m n a a) true := eq_loop_ints (by have := mx; omega)
theorem eqB_edges {a : List Timpl_Edge} (h : a.length ≤ 1048576) : Ev (fun n => laws_eqEdgeS_m n a a) true :=
  eq_loop (eq := fun n x y => laws_eqEdge_m n x y) (fun x _ => Ev.ite_f (by simp) (Ev.ite_f (by simp) (Ev.ite_f (by simp) (Ev.pure _)))) (by have := mx; omega)
theorem eqB_lts {a : Timpl_Lts} (h : BLts a) : Ev (fun n => laws_eqLts_m n a a) true :=
  Ev.ite_f (by simp) (Ev.ite_f (by simp) (Ev.bind (eqB_strs h.1) (Ev.ite_f (by simp) (Ev.bind (eqB_edges h.2.2) (Ev.ite_f (by simp) (Ev.pure _))))))
theorem markText_ev {k : Int} (h0 : 1 ≤ k) (hk : k ≤ 4611686018427387904) : ∃ s, Ev (fun n => laws_markText_m n k) s := by
  unfold laws_markText_m
  refine Exists.elim (EvI.inv (β := Str ⊕ Str) (step := fun (_ : Nat) (s : (Int) × (Str)) => (match s with | (x40, x41) => (if (decide ((0 : Int) < x40)) = true then (cat (bstr [(IntKind.u8.wrap (W ((48 : Int) + (x40.tmod (10 : Int)))))]) x41).bind fun x65 => some (.inl ((W (x40.tdiv (10 : Int))), x65)) else some (.inr (.inl (x41)))) : Option (((Int) × (Str)) ⊕ ((Str) ⊕ (Str)))))
    (fun s => 0 ≤ s.1 ∧ s.1 ≤ 4611686018427387904 ∧ s.1 < 10 ^ (20 - s.2.length) ∧ s.2.length ≤ 20) (fun s => s.1.toNat) (fun r => ∃ x : Str, r = .inl x ∧ x.length ≤ 20) ?_ (s := (k, [])) ⟨by show 0 ≤ k; omega, hk, by show k < 10 ^ 20; omega, by simp⟩)
    (fun res ⟨h1, x, h2, h3⟩ => ⟨[109] ++ x, Ev.ite_f (by simp; omega) (Ev.bind h1.ev ?_)⟩)
  · rintro ⟨x, s⟩ ⟨a, b, c, d⟩
    replace a : 0 ≤ x := a
    replace b : x ≤ 4611686018427387904 := b
    replace c : x < 10 ^ (20 - s.length) := c
    replace d : s.length ≤ 20 := d
    by_cases hx : 0 < x
    · left
      have hlt : s.length < 20 := by
        by_cases he : s.length = 20
        · rw [he] at c; simp at c; omega
        · omega
      have hp : (10 : Int) ^ (20 - s.length) = 10 ^ (20 - (s.length + 1)) * 10 := by rw [show 20 - s.length = (20 - (s.length + 1)) + 1 by omega, Int.pow_succ]
      have hd : x.tdiv 10 = x / 10 := Int.tdiv_eq_ediv_of_nonneg a
      have hw : W (x.tdiv 10) = x / 10 := by rw [hd]; exact W_of (by omega) (by omega)
      refine ⟨(x / 10, bstr [IntKind.u8.wrap (W (48 + x.tmod 10))] ++ s), Ev.ite_t (decide_eq_true hx) (Ev.const ?_), ⟨by show 0 ≤ x / 10; omega, by show x / 10 ≤ _; omega, ?_, ?_⟩, by show (x / 10).toNat < x.toNat; omega⟩
      · have : cat (bstr [IntKind.u8.wrap (W (48 + x.tmod 10))]) s = some (bstr [IntKind.u8.wrap (W (48 + x.tmod 10))] ++ s) := by unfold cat; rw [if_pos (by first | (simp [bstr]; done) | (simp [bstr]; omega))]
        rw [this, Option.bind_some, hw]
      · show x / 10 < 10 ^ (20 - (bstr [IntKind.u8.wrap (W (48 + x.tmod 10))] ++ s).length)
        have : (bstr [IntKind.u8.wrap (W (48 + x.tmod 10))] ++ s).length = s.length + 1 := by first | (simp [bstr]; done) | (simp [bstr]; omega)
        rw [this]
        generalize (10 : Int) ^ (20 - (s.length + 1)) = p at hp ⊢
        omega
      · show (bstr [IntKind.u8.wrap (W (48 + x.tmod 10))] ++ s).length ≤ 20
        first | (simp [bstr]; done) | (simp [bstr]; omega)
    · right
      exact ⟨_, Ev.ite_f (by simpa using hx) (Ev.pure _), s, rfl, d⟩
  · subst h2
    refine Ev.const ?_
    rw [ctl_l]
    have : cat ([109] : Str) x = some ([109] ++ x) := by unfold cat; rw [if_pos (by simp; omega)]
    rw [this]; rfl

theorem markA_strs {a : List Str} {k : Int} (h : a.length ≤ 1048576) (h0 : 1 ≤ k) (hk : k ≤ 4611686018427387904 - 1048576) :
    ∃ k' ys, Ev (fun n => laws_markStringS_m n a k) (k', ys) ∧ k ≤ k' ∧ k' ≤ k + (a.length * 1 : Nat) ∧ ys.length = a.length := by
  unfold laws_markStringS_m
  refine mark_alone (p := fun _ => True) (fun _ _ => trivial) h0 (by omega) (fun xs k i x hxl hx _ h1 h2 => ?_) (fun xs k hxl => Ev.const' fun m => by simp [hxl])
  have hi : i < xs.length := (List.getElem?_eq_some_iff.1 hx).1
  have w : W (k + 1) = k + 1 := W_of (by omega) (by omega)
  obtain ⟨s, hs⟩ := markText_ev h1 (by omega)
  refine ⟨s, k + 1, Ev.eq (Ev.ite_t (by simp [hi]) (Ev.bind hs (Ev.bindc (idx_at hx) (Ev.pure _)))) ?_, by omega, by omega⟩
  simp only [Int.toNat_natCast, w, W_succ (k := i) (n := xs.length) hi (by omega)]
theorem markA_edges {a : List Timpl_Edge} {k : Int} (h : a.length ≤ 1048576) (h0 : 1 ≤ k) (hk : k ≤ 4611686018427387904 - 4194304) :
    ∃ k' ys, Ev (fun n => laws_markEdgeS_m n a k) (k', ys) ∧ k ≤ k' ∧ k' ≤ k + (a.length * 3 : Nat) ∧ ys.length = a.length := by
  unfold laws_markEdgeS_m
  refine mark_alone (p := fun _ => True) (fun _ _ => trivial) h0 (by omega) (fun xs k i x hxl hx _ h1 h2 => ?_) (fun xs k hxl => Ev.const' fun m => by simp [hxl])
  have hi : i < xs.length := (List.getElem?_eq_some_iff.1 hx).1
  have w1 : W (k + 1) = k + 1 := W_of (by omega) (by omega)
  have w2 : W (k + 1 + 1) = k + 1 + 1 := W_of (by omega) (by omega)
  have w3 : W (k + 1 + 1 + 1) = k + 1 + 1 + 1 := W_of (by omega) (by omega)
  refine ⟨(k, k + 1, k + 1 + 1), k + 1 + 1 + 1, Ev.eq (Ev.ite_t (by simp [hi]) (Ev.bindc (idx_at hx) (Ev.bindc (idx_set hi) (Ev.bindc (idx_set (by simpa using hi)) (Ev.pure _))))) ?_, by omega, by omega⟩
  simp only [Int.toNat_natCast, List.set_set, w1, w2, w3, W_succ (k := i) (n := xs.length) hi (by omega)]
theorem marksA_lts {a : Timpl_Lts} {k : Int} (h : BLts a) (h0 : 1 ≤ k) (hk : k ≤ 4503599627370496) :
    ∃ k' ys, Ev (fun n => laws_markLts_m n a k) (k', ys) ∧ k ≤ k' ∧ k' ≤ k + 4398046511104 := by
  obtain ⟨k1, ys, h1, h2, h3, _⟩ := markA_strs (a := a.2.2.1) h.1 h0 (by omega)
  have b1 := h.1
  have b2 := h.2.2
  obtain ⟨k2, zs, h4, h5, h6, _⟩ := markA_edges (a := a.2.2.2) (k := k1) h.2.2 (by omega) (by omega)
  exact ⟨k2, (ys, zs), Ev.bind h1 (Ev.bind h4 (Ev.pure _)), by omega, by omega⟩
abbrev GNd : Tlaws_Node → Prop := gAnd (gInt .i64) (gAnd (gInt .i64) (gAnd gStr gAny))
abbrev GNds : List Tlaws_Node → Prop := gList GNd
theorem sz_node {x : Tlaws_Node} (g : GNd x) {b : Int} (h0 : 0 ≤ b) (hb : b ≤ 1048576) : ∃ r, Ev (fun n => laws_szNode_m n x b) r ∧ Sz b r (x.2.2.1.length ≤ 1048576) := sz_leaf h0 hb g.2.2.1
theorem sz_nodes {a : List Tlaws_Node} (g : GNds a) {b : Int} (h0 : 0 ≤ b) (hb : b ≤ 1048576) : ∃ r, Ev (fun n => laws_szNodeS_m n a b) r ∧ Sz b r (a.length ≤ 1048576 ∧ ∀ x ∈ a, x.2.2.1.length ≤ 1048576) :=
  sz_loop (fun x hx _ h0 hb => sz_node (g.2 x hx) h0 hb) g.1 h0 hb
theorem toB_nodes {a : List Tlaws_Node} (h : a.length ≤ 1048576 ∧ ∀ x ∈ a, x.2.2.1.length ≤ 1048576) : Ev (fun n => laws_toNodeS_m n a) a := by
  have := to_loop («to» := fun n x => laws_toNode_m n x) (f := id) (a := a) (z := (0, 0, [], false)) (fun x hx => Ev.const rfl) h.1
  rw [List.map_id] at this
  exact this
theorem eqB_nodes {a : List Timpl_Node} (h : a.length ≤ 1048576 ∧ ∀ x ∈ a, x.2.2.1.length ≤ 1048576) : Ev (fun n => laws_eqNodeS_m n a a) true :=
  have hm : maxLen = 9223372036854775807 := by unfold maxLen; rfl
  eq_loop (eq := fun n x y => laws_eqNode_m n x y) (fun x hx => Ev.ite_f (by simp) (Ev.ite_f (by simp) (Ev.ite_f (by simp) (Ev.ite_f (by simp) (Ev.pure _))))) (by have := h.1; omega)
theorem marksA_nodes {a : List Timpl_Node} {k : Int} (h : a.length ≤ 1048576 ∧ ∀ x ∈ a, x.2.2.1.length ≤ 1048576) (h0 : 1 ≤ k) (hk : k ≤ 4503599627370496) :
    ∃ k' ys, Ev (fun n => laws_markNodeS_m n a k) (k', ys) ∧ k ≤ k' ∧ k' ≤ k + 4398046511104 := by
  have hl := h.1
  have key : ∃ k' ys, Ev (fun n => laws_markNodeS_m n a k) (k', ys) ∧ k ≤ k' ∧ k' ≤ k + (a.length * 4 : Nat) ∧ ys.length = a.length := by
    unfold laws_markNodeS_m
    refine mark_alone (p := fun _ => True) (fun _ _ => trivial) h0 (by omega) (fun xs k i x hxl hx _ h1 h2 => ?_) (fun xs k hxl => Ev.const' fun m => by simp [hxl])
    have hi : i < xs.length := (List.getElem?_eq_some_iff.1 hx).1
    have w1 : W (k + 1) = k + 1 := W_of (by omega) (by omega)
    have w2 : W (k + 1 + 1) = k + 1 + 1 := W_of (by omega) (by omega)
    have w3 : W (k + 1 + 1 + 1) = k + 1 + 1 + 1 := W_of (by omega) (by omega)
    have w4 : W (k + 1 + 1 + 1 + 1) = k + 1 + 1 + 1 + 1 := W_of (by omega) (by omega)
    obtain ⟨s, hs⟩ := markText_ev (k := k + 1 + 1) (by omega) (by omega)
    refine ⟨(k, k + 1, s, ((k + 1 + 1 + 1).tmod 3 == 0)), k + 1 + 1 + 1 + 1, Ev.eq (Ev.ite_t (by simp [hi]) (Ev.bindc (idx_at hx) (Ev.bindc (idx_set hi) (Ev.bind (by rw [w1, w2]; exact hs) (Ev.bindc (idx_set (by simpa using hi)) (Ev.bindc (idx_set (by simpa using hi)) (Ev.pure _))))))) ?_, by omega, by omega⟩
    simp only [Int.toNat_natCast, List.set_set, w1, w2, w3, w4, W_succ (k := i) (n := xs.length) hi (by omega)]
  obtain ⟨k', ys, h1, h3, h4, _⟩ := key
  exact ⟨k', ys, h1, h3, by omega⟩
def valsOk (ps : List Str) : Bool := ps.all fun w => numB w && val63 (numV w)
def labelP (s : Str) : Bool :=
  if (40 : UInt8) ∈ s then actP (pre 40 s) && decide (s.getLast? = some 41) && valsOk (splitC 44 (suf 40 s).dropLast) && decide ((splitC 44 (suf 40 s).dropLast).length ≤ 2)
  else nameP s

def labOf (n : Str) (vs : List Int) : Str × Bool :=
  if n = [116, 97, 117] then ([116, 97, 117], decide (vs.length = 0))
  else if actP n = true ∧ vs.length ≤ 2 ∧ vs.all val63 = true then (if vs.length = 0 then (n, true) else (n ++ [40] ++ dots vs ++ [41], true))
  else ([], false)

theorem label_of {n : Str} (hn : n.length ≤ 4294967296) {vs : List Int} (hv : vs.length ≤ maxLen) : Ev (fun m => impl_labelOf_m m n vs) (labOf n vs) := by
  have hm := mx
  unfold impl_labelOf_m labOf
  by_cases h1 : n = [116, 97, 117]
  · have e : (n == ([116, 97, 117] : Str)) = true := by rw [h1]; rfl
    rw [if_pos h1]
    refine Ev.ite_t e (Ev.const ?_)
    by_cases h : vs.length = 0
    · rw [h]; rfl
    · rw [decide_eq_false h, beq_false_of_ne (show ((vs.length : Int)) ≠ 0 by omega)]
  · have e : ¬ (n == ([116, 97, 117] : Str)) = true := by simpa using h1
    rw [if_neg h1]
    refine Ev.ite_f e (Ev.bind (act_impl (by omega)) ?_)
    by_cases h2 : actP n = true
    · simp only [h2, Bool.not_true, Bool.false_eq_true, if_false, Option.bind_some, true_and]
      by_cases h3 : vs.length ≤ 2
      · have e3 : decide ((2 : Int) < (vs.length : Int)) = false := decide_eq_false (by omega)
        simp only [e3, Bool.false_eq_true, if_false, h3, true_and]
        refine Ev.bind (Ev.bind (values_ev hv) (Ev.pure _)) ?_
        by_cases h4 : vs.all val63 = true
        · rw [if_pos h4]
          refine Ev.ite_f (by simp [h4]) ?_
          by_cases h5 : vs.length = 0
          · rw [if_pos h5]
            exact Ev.ite_t (by rw [h5]; rfl) (Ev.pure _)
          · rw [if_neg h5]
            have hd := dots_len h3 h4
            refine Ev.ite_f (by intro g; have := beq_iff_eq.1 g; omega) (Ev.bindc (show cat n [40] = some (n ++ [40]) from ?_) (Ev.bind (joined_ev h3 h4) (Ev.bindc (show cat (n ++ [40]) (dots vs) = some (n ++ [40] ++ dots vs) from ?_) (Ev.bindc (show cat (n ++ [40] ++ dots vs) [41] = some (n ++ [40] ++ dots vs ++ [41]) from ?_) (Ev.pure _)))))
            · unfold cat; rw [if_pos (by simp; omega)]
            · unfold cat; rw [if_pos (by simp; omega)]
            · unfold cat; rw [if_pos (by simp; omega)]
        · rw [if_neg h4]
          exact Ev.ite_t (by simpa using h4) (Ev.pure _)
      · have e3 : decide ((2 : Int) < (vs.length : Int)) = true := decide_eq_true (by omega)
        exact Ev.eq (r := (([] : Str), false)) (Ev.const' fun m => by simp only [e3, if_true, Option.bind_some]) (if_neg (fun h => h3 h.1)).symm
    · have e2 : (!actP n) = true := by simpa using h2
      exact Ev.eq (r := (([] : Str), false)) (Ev.const' fun m => by simp only [e2, if_true, Option.bind_some]) (if_neg (fun h => h2 h.1)).symm

theorem nums_join {ws : List Str} (h : ws.all numB = true) : (ws.map numV).map Lib.itoa = ws := by
  rw [List.map_map]
  rw [List.all_eq_true] at h
  conv => rhs; rw [← List.map_id ws]
  refine List.map_congr_left fun w hw => ?_
  have := h w hw
  unfold numB at this
  obtain ⟨v, hv⟩ := Option.isSome_iff_exists.1 this
  show Lib.itoa (numV w) = w
  unfold numV
  rw [hv]
  exact (num_some hv).1

theorem last_eq {s : Str} (h : (40 : UInt8) ∈ s) : s.getLast? = some 41 ↔ (suf 40 s).getLast? = some 41 := by
  conv => lhs; rw [pre_suf h]
  rw [List.getLast?_append]
  cases hs : suf 40 s with
  | nil => simp
  | cons b r =>
    rw [List.getLast?_cons_cons]
    cases hl : (b :: r).getLast? with
    | none => simp at hl
    | some c => simp

theorem name_tau : nameP [116, 97, 117] = true := by decide +kernel
theorem act_tau : actP [116, 97, 117] = false := by unfold actP; simp

theorem third {c : Bool} {a : Str} {b : List Int} : (if c = true then (([] : Str), ([] : List Int), false) else (a, b, true)).2.2 = !c := by cases c <;> rfl

theorem read_label {s : Str} (hl : s.length ≤ 1048576) : ∃ r, Ev (fun m => impl_readLabel_m m s) r ∧ r.2.2 = labelP s := by
  have hm := mx
  unfold impl_readLabel_m
  by_cases hc : (40 : UInt8) ∈ s
  · have hp := pre_len 40 s
    have hsf : (suf 40 s).length ≤ s.length := by unfold suf; simp
    have hcut : ∀ m, strings_Cut_m m s [40] = some (pre 40 s, suf 40 s, true) := fun m => by rw [cut_lib (by omega), if_pos hc]
    obtain ⟨t, ht⟩ : ∃ t, t = if (suf 40 s).getLast? = some 41 then (suf 40 s).dropLast else suf 40 s := ⟨_, rfl⟩
    have htl : t.length ≤ s.length := by rw [ht]; split <;> (try simp) <;> omega
    have htr : ∀ m, strings_TrimSuffix_m m (suf 40 s) [41] = some t := fun m => by rw [trimS_lib (by omega), ← ht]
    have hsp : ∀ m, strings_Split_m m t [44] = some (splitC 44 t) := fun m => split_lib (by omega)
    have hln := splitC_len 44 t
    have hne := List.length_pos_iff.2 (splitC_ne 44 t)
    have hrn := read_nums (ws := splitC 44 t) (by omega) (fun w hw => by have := splitC_mem 44 t w hw; omega)
    by_cases hn : (splitC 44 t).all numB = true
    · rw [if_pos hn] at hrn
      have hlo := label_of (n := pre 40 s) (by omega) (vs := (splitC 44 t).map numV) (by simp; omega)
      refine ⟨_, Ev.bind (Ev.const' hcut) (Ev.join (Ev.ite_t rfl (Ev.bind (Ev.const' htr) (Ev.bind (Ev.const' hsp) (Ev.bind hrn (Ev.ite_f (by simp) (Ev.bind hlo (Ev.const' fun m => by rw [or_some, Option.bind_some, ite_some])))))))), ?_⟩
      have hd : dots ((splitC 44 t).map numV) = t := by unfold dots; rw [nums_join hn, join_splitC]
      have hlast : (pre 40 s ++ [40] ++ t ++ [41] = s) ↔ (suf 40 s).getLast? = some 41 := by
        conv => lhs; rhs; rw [pre_suf hc]
        rw [List.append_assoc, List.append_assoc, List.append_cancel_left_eq]
        simp only [List.singleton_append, List.cons.injEq, true_and]
        constructor
        · intro h; rw [← h]; simp
        · intro h
          rw [ht, if_pos h]
          rcases snoc_or (suf 40 s) with e | ⟨q, x, e⟩
          · rw [e] at h; cases h
          · rw [e] at h ⊢
            have : x = 41 := by simpa using h
            rw [this]; simp
      have hvo : (suf 40 s).getLast? = some 41 → splitC 44 (suf 40 s).dropLast = splitC 44 t := fun h => by rw [ht, if_pos h]
      have hall : ((splitC 44 t).map numV).all val63 = valsOk (splitC 44 t) := by
        unfold valsOk
        rw [List.all_map]
        rw [List.all_eq_true] at hn
        apply Bool.eq_iff_iff.2
        rw [List.all_eq_true, List.all_eq_true]
        constructor
        · intro h w hw; rw [hn w hw]; exact h w hw
        · intro h w hw; have := h w hw; rw [hn w hw] at this; exact this
      rw [third]
      unfold labelP labOf
      rw [if_pos hc]
      simp only [decide_eq_decide.2 (last_eq hc), List.length_map, hall]
      by_cases h1 : pre 40 s = [116, 97, 117]
      · rw [if_pos h1, h1, act_tau, decide_eq_false (by omega)]
        rfl
      · rw [if_neg h1]
        by_cases h6 : (suf 40 s).getLast? = some 41
        · rw [hvo h6, decide_eq_true h6]
          by_cases h2 : actP (pre 40 s) = true ∧ (splitC 44 t).length ≤ 2 ∧ valsOk (splitC 44 t) = true
          · rw [if_pos h2, if_neg (show ¬ (splitC 44 t).length = 0 by omega), h2.1, h2.2.2, decide_eq_true h2.2.1, hd]
            rw [hlast.2 h6]
            simp
          · rw [if_neg h2]
            cases ha : actP (pre 40 s)
            · rfl
            · cases hv : valsOk (splitC 44 t)
              · rfl
              · rw [decide_eq_false (fun h => h2 ⟨ha, h, hv⟩)]; rfl
        · rw [decide_eq_false h6, Bool.and_false]
          split
          · rw [if_neg (show ¬ (splitC 44 t).length = 0 by omega), hd]
            have : (pre 40 s ++ [40] ++ t ++ [41] != s) = true := by
              rw [bne_iff_ne]
              exact fun h => h6 (hlast.1 h)
            rw [this]
            rfl
          · rfl
    · rw [if_neg hn] at hrn
      refine ⟨_, Ev.bind (Ev.const' hcut) (Ev.join (Ev.ite_t rfl (Ev.bind (Ev.const' htr) (Ev.bind (Ev.const' hsp) (Ev.bind hrn (Ev.ite_t (by rfl) (Ev.pure _))))))), ?_⟩
      unfold labelP
      rw [if_pos hc]
      by_cases h6 : (suf 40 s).getLast? = some 41
      · have : valsOk (splitC 44 (suf 40 s).dropLast) = false := by
          rw [ht, if_pos h6] at hn
          apply Bool.eq_false_iff.2
          intro h
          apply hn
          unfold valsOk at h
          rw [List.all_eq_true] at h ⊢
          intro w hw
          have := h w hw
          rw [Bool.and_eq_true] at this
          exact this.1
        rw [this]; simp
      · rw [decide_eq_false (fun h => h6 ((last_eq hc).1 h))]; simp
  · have hcut : ∀ m, strings_Cut_m m s [40] = some (s, [], false) := fun m => by rw [cut_lib (by omega), if_neg hc]
    have hlo := label_of (n := s) (by omega) (vs := []) (by simp)
    refine ⟨_, Ev.bind (Ev.const' hcut) (Ev.join (Ev.ite_f (by simp) (Ev.bind hlo (Ev.const' fun m => by rw [or_some, Option.bind_some, ite_some])))), ?_⟩
    rw [third]
    unfold labelP labOf
    rw [if_neg hc]
    by_cases h1 : s = [116, 97, 117]
    · rw [if_pos h1, h1, name_tau]; rfl
    · rw [if_neg h1]
      have e : actP s = nameP s := by
        unfold actP
        rw [bne_iff_ne.2 h1, Bool.and_true]
      rw [e]
      by_cases h2 : nameP s = true
      · rw [if_pos ⟨h2, by simp, rfl⟩, h2]
        simp
      · rw [if_neg (fun h => h2 h.1)]
        have : nameP s = false := by simpa using h2
        rw [this]
        rfl
theorem label_impl {s : Str} (hl : s.length ≤ 1048576) : Ev (fun m => impl_IsLabel_m m s) (labelP s) := by
  obtain ⟨r, h1, h2⟩ := read_label hl
  unfold impl_IsLabel_m
  exact Ev.bind h1 (Ev.const (by rw [h2]))

/-! ### the reference -/
theorem pre_hit : ∀ (s : Str) (k : Nat), s[k]? = some 40 → (40 : UInt8) ∉ s.take k → (pre 40 s).length = k
  | [], k, h, _ => by simp at h
  | b :: r, 0, h, _ => by
    have : b = 40 := by simpa using h
    rw [pre_cons, if_pos this]; rfl
  | b :: r, k + 1, h, h2 => by
    rw [List.take_succ_cons, List.mem_cons, not_or] at h2
    rw [pre_cons, if_neg (fun e => h2.1 e.symm), List.length_cons, pre_hit r k (by simpa using h) h2.2]
theorem open_spec {s : Str} (hl : s.length ≤ 1048576) : Ev (fun m => spec_l01Open_m m s) ((pre 40 s).length : Int) := by
  unfold spec_l01Open_m
  refine Exists.elim (EvI.count (step := _) s.length (fun k (_ : Unit) => (k : Int)) (fun k _ => (40 : UInt8) ∉ s.take k)
    (fun r => r = .inr ((pre 40 s).length : Int) ∨ (r = .inl () ∧ (pre 40 s).length = s.length)) ?_ ?_ (k := 0) (t := ()) (Nat.zero_le _) (by simp))
    (fun res ⟨h1, h2⟩ => Ev.bind h1.ev (by
      rcases h2 with rfl | ⟨rfl, h⟩
      · exact Ev.pure _
      · exact (Ev.pure _).eq (by rw [h])))
  · intro k t hk hI
    obtain ⟨b, hb⟩ := get_lt hk
    have hk' : decide ((k : Int) < (s.length : Int)) = true := by simpa using hk
    by_cases h : b = 40
    · subst h
      exact .inr ⟨_, Ev.ite_t hk' (Ev.bindc (idx_at hb) (Ev.ite_t (by rfl) (Ev.pure _))), .inl (by rw [pre_hit s k hb hI])⟩
    · refine .inl ⟨(), Ev.ite_t hk' (Ev.bindc (idx_at hb) (Ev.ite_f ?_ (Ev.const (by rw [W_succ hk (by omega)])))), ?_⟩
      · intro g
        have := beq_iff_eq.1 g
        exact h (UInt8.toNat_inj.1 (show b.toNat = 40 by omega))
      · rw [List.take_add_one, hb]
        simp [hI, Ne.symm h]
  · intro t hI
    rw [List.take_length] at hI
    exact ⟨_, Ev.ite_f (by simp) (Ev.pure _), .inr ⟨rfl, (pre_full 40 s).2 hI⟩⟩

def lsp : (List Int) ⊕ ((List Int) × Bool) → (List Int) × Bool
  | .inl xs => (xs, decide ((xs.length : Int) ≤ 2))
  | .inr q => q
theorem lsp_ctl {res : (List Int) ⊕ ((List Int) × Bool)} : ctl (β := (List Int)) (ρ := ((List Int) × Bool)) (τ := ((List Int) × Bool)) res (fun (xs140) => some ((xs140, (decide ((xs140.length : Int) ≤ (2 : Int)))))) (fun q => some (q)) = some (lsp res) := by cases res <;> rfl
theorem vals_loop {ps : List Str} (hl : ps.length ≤ 1048577) (hw : ∀ w ∈ ps, w.length ≤ 1048576) :
    Ev (fun fuel => iter (fun (s : (List Int) × (Int)) => (match s with | (xs104, x106) => (if (decide (x106 < (ps.length : Int))) = true then (idx ps x106).bind fun x151 => (spec_l01Number_m fuel x151).bind fun x158 => (if (!x158.2) = true then some true else (spec_l00In_m fuel x158.1 (0 : Int) (63 : Int)).bind fun x166 => some (!x166)).bind fun t161 => (if t161 = true then some (.inr (.inr ([], false))) else (app xs104 [x158.1]).bind fun x174 => some (.inl (x174, (W (x106 + (1 : Int)))))) else some (.inr (.inl (xs104)))) : Option (((List Int) × (Int)) ⊕ (((List Int)) ⊕ (((List Int) × Bool)))))) fuel (([] : List Int), (0 : Int)))
      (if valsOk ps = true then .inl (ps.map numV) else .inr ([], false)) := by
  have hm := mx
  refine Exists.elim (EvI.count (β := (List Int) ⊕ ((List Int) × Bool)) (step := fun fuel (s : (List Int) × (Int)) => (match s with | (xs104, x106) => (if (decide (x106 < (ps.length : Int))) = true then (idx ps x106).bind fun x151 => (spec_l01Number_m fuel x151).bind fun x158 => (if (!x158.2) = true then some true else (spec_l00In_m fuel x158.1 (0 : Int) (63 : Int)).bind fun x166 => some (!x166)).bind fun t161 => (if t161 = true then some (.inr (.inr ([], false))) else (app xs104 [x158.1]).bind fun x174 => some (.inl (x174, (W (x106 + (1 : Int)))))) else some (.inr (.inl (xs104)))) : Option (((List Int) × (Int)) ⊕ (((List Int)) ⊕ (((List Int) × Bool))))))
    ps.length (fun k (_ : Unit) => ((ps.take k).map numV, (k : Int))) (fun k _ => valsOk (ps.take k) = true)
    (fun r => r = (if valsOk ps = true then .inl (ps.map numV) else .inr ([], false))) ?_ ?_ (k := 0) (t := ()) (Nat.zero_le _) rfl)
    (fun res ⟨h3, h4⟩ => by subst h4; exact h3.ev)
  · intro k t hk hI
    obtain ⟨w, hw'⟩ := get_lt hk
    have hk' : decide ((k : Int) < (ps.length : Int)) = true := by simpa using hk
    have htk : ps.take (k + 1) = ps.take k ++ [w] := by rw [List.take_add_one, hw']; rfl
    have hwl := hw w (List.mem_of_getElem? hw')
    have hnum := num_spec (w := w) (by omega)
    have hcc : ∀ m : Nat, (if (!numB w) = true then some true else (spec_l00In_m m (numV w) (0 : Int) (63 : Int)).bind fun x166 => some (!x166)) = some (!(numB w && val63 (numV w))) := fun m => by
      rw [l00In_eq, Option.bind_some, or_some]
      cases numB w <;> rfl
    by_cases hv : (numB w && val63 (numV w)) = true
    · left
      refine ⟨(), Ev.ite_t hk' (Ev.bindc (idx_at hw') (Ev.bind hnum (Ev.bind (Ev.const' hcc) (Ev.ite_f (by rw [hv]; simp) (Ev.bindc (app_ok (by simp; omega)) (Ev.const ?_)))))), ?_⟩
      · rw [W_succ hk (by omega), htk, List.map_append]; rfl
      · unfold valsOk at hI ⊢
        rw [htk, List.all_append, hI]
        simp only [List.all_cons, List.all_nil, Bool.and_true, Bool.true_and]
        exact hv
    · right
      have hv' : (numB w && val63 (numV w)) = false := by simpa using hv
      refine ⟨_, Ev.ite_t hk' (Ev.bindc (idx_at hw') (Ev.bind hnum (Ev.bind (Ev.const' hcc) (Ev.ite_t (by rw [hv']; rfl) (Ev.pure _))))), ?_⟩
      rw [if_neg]
      intro h
      unfold valsOk at h
      rw [List.all_eq_true] at h
      exact hv (h w (List.mem_of_getElem? hw'))
  · intro t hI
    refine ⟨_, Ev.ite_f (by simp) (Ev.pure _), ?_⟩
    rw [List.take_length] at *
    rw [if_pos hI]

theorem label_spec {s : Str} (hl : s.length ≤ 1048576) : Ev (fun m => spec_l01Label_m m s) (labelP s) := by
  have hm := mx
  unfold spec_l01Label_m
  suffices h : ∃ r, Ev (fun m => spec_l01Values_m m s) r ∧ r.2 = labelP s by
    obtain ⟨r, h1, h2⟩ := h
    exact Ev.bind h1 (Ev.const (by rw [h2]))
  unfold spec_l01Values_m labelP
  by_cases hc : (40 : UInt8) ∈ s
  · have hp := pre_len 40 s
    have hpn : (pre 40 s).length ≠ s.length := fun h => (pre_full 40 s).1 h hc
    have hs0 : sub s (0 : Int) ((pre 40 s).length : Int) = some (pre 40 s) := by
      have := sub_ok (xs := s) (lo := 0) (hi := (pre 40 s).length) (Nat.zero_le _) hp
      rw [pre_take] at this
      exact this
    have hpos : 0 < s.length := by omega
    obtain ⟨b, hb⟩ := get_lt (xs := s) (k := s.length - 1) (by omega)
    have hlast : s.getLast? = some b := by rw [List.getLast?_eq_getElem?]; exact hb
    have hw1 : W ((s.length : Int) - 1) = ((s.length - 1 : Nat) : Int) := by rw [W_of (by omega) (by omega)]; omega
    rw [if_pos hc]
    have hbase : ∀ {r} (_ : Ev (fun m => (if (!actP (pre 40 s)) = true then some true else (idx s (W ((s.length : Int) - (1 : Int)))).bind fun b55 => some ((b55.toNat : Int) != (41 : Int))) ) r), r = !(actP (pre 40 s) && decide (s.getLast? = some 41)) := by
      intro r h
      obtain ⟨n, hn⟩ := h.one
      rw [hw1, idx_at hb] at hn
      simp only [Option.bind_some, or_some, Option.some.injEq] at hn
      rw [← hn, hlast]
      cases actP (pre 40 s)
      · rfl
      · simp only [Bool.not_true, Bool.false_or, Bool.true_and]
        by_cases h41 : b = 41
        · rw [h41]; rfl
        · rw [decide_eq_false (by simpa using h41)]
          have : ((b.toNat : Int) != 41) = true := by
            rw [bne_iff_ne]
            intro g
            exact h41 (UInt8.toNat_inj.1 (show b.toNat = 41 by omega))
          rw [this]; rfl
    have hcond : ∀ m : Nat, (if (!actP (pre 40 s)) = true then some true else (idx s (W ((s.length : Int) - (1 : Int)))).bind fun b55 => some ((b55.toNat : Int) != (41 : Int))) = some (!(actP (pre 40 s) && decide (s.getLast? = some 41))) := by
      intro m
      have e : (if (!actP (pre 40 s)) = true then some true else (idx s (W ((s.length : Int) - (1 : Int)))).bind fun b55 => some ((b55.toNat : Int) != (41 : Int))) = some ((!actP (pre 40 s)) || ((b.toNat : Int) != (41 : Int))) := by rw [hw1, idx_at hb, Option.bind_some, or_some]
      rw [e]
      exact congrArg some (hbase (Ev.const e))
    by_cases h1 : (actP (pre 40 s) && decide (s.getLast? = some 41)) = true
    · have h41 : s.getLast? = some 41 := of_decide_eq_true (Bool.and_eq_true _ _ ▸ h1).2
      have hsl := (last_eq hc).1 h41
      have hsn : suf 40 s ≠ [] := fun e => by rw [e] at hsl; cases hsl
      have hsl2 : (suf 40 s).length = s.length - ((pre 40 s).length + 1) := by unfold suf; simp
      have hsp := List.length_pos_iff.2 hsn
      have hsub : sub s (W (((pre 40 s).length : Int) + 1)) (W ((s.length : Int) - 1)) = some (suf 40 s).dropLast := by
        rw [hw1, W_of (by omega) (by omega), show (((pre 40 s).length : Int) + 1) = (((pre 40 s).length + 1 : Nat) : Int) from rfl, sub_ok (by omega) (by omega), List.drop_take, List.dropLast_eq_take, hsl2]
        unfold suf
        congr 2
        omega
      have hpl : (splitC 44 (suf 40 s).dropLast).length ≤ s.length := by have := splitC_len 44 (suf 40 s).dropLast; simp at this; omega
      rw [h1, Bool.true_and]
      refine ⟨_, Ev.bind (open_spec hl) (Ev.ite_f (by intro g; have := beq_iff_eq.1 g; omega) (Ev.bindc hs0 (Ev.bind (act_spec (by omega)) (Ev.bind (Ev.const' hcond) (Ev.ite_f (by rw [h1]; simp) (Ev.bindc hsub (Ev.bind (split_spec (by simp; omega)) (Ev.bind (vals_loop (by omega) (fun w hw => ?_)) (Ev.const' fun m => lsp_ctl))))))))), ?_⟩
      · have := splitC_mem 44 _ w hw
        simp at this
        omega
      · by_cases hv : valsOk (splitC 44 (suf 40 s).dropLast) = true
        · rw [if_pos hv, hv, Bool.true_and]
          exact decide_eq_decide.2 (by simp; omega)
        · rw [if_neg hv]
          have : valsOk (splitC 44 (suf 40 s).dropLast) = false := by simpa using hv
          rw [this]
          rfl
    · refine ⟨_, Ev.bind (open_spec hl) (Ev.ite_f (by intro g; have := beq_iff_eq.1 g; omega) (Ev.bindc hs0 (Ev.bind (act_spec (by omega)) (Ev.bind (Ev.const' hcond) (Ev.ite_t (by rw [Bool.not_eq_true']; exact Bool.eq_false_iff.2 h1) (Ev.pure _)))))), ?_⟩
      have : (actP (pre 40 s) && decide (s.getLast? = some 41)) = false := by simpa using h1
      rw [this]
      rfl
  · rw [if_neg hc]
    exact ⟨_, Ev.bind (open_spec hl) (Ev.ite_t (by rw [(pre_full 40 s).2 hc]; simp) (Ev.bind (name_spec (by omega)) (Ev.pure _))), rfl⟩
def opN (x : Timpl_Node) : Nat := if x.1 = 2 ∨ x.1 = 3 then 2 else if x.1 = 4 ∨ x.1 = 5 ∨ x.1 = 7 ∨ x.1 = 8 then 1 else 0
def kindP (x : Timpl_Node) : Bool := decide (0 ≤ x.1) && decide (x.1 ≤ 8)
def modP (x : Timpl_Node) : Bool := x.1 == 4 || x.1 == 5
theorem opN_le (x : Timpl_Node) : opN x ≤ 2 := by
  unfold opN
  split
  · omega
  · split <;> omega
theorem op_impl {m : Nat} {x : Timpl_Node} : impl_Node_operands_m m x = some (opN x : Int) := by
  unfold impl_Node_operands_m opN join
  by_cases h2 : x.1 = 2
  · simp [h2]
  by_cases h3 : x.1 = 3
  · simp [h3]
  by_cases h4 : x.1 = 4
  · simp [h4]
  by_cases h5 : x.1 = 5
  · simp [h5]
  by_cases h7 : x.1 = 7
  · simp [h7]
  by_cases h8 : x.1 = 8
  · simp [h8]
  simp [h2, h3, h4, h5, h7, h8]
theorem op_spec {m : Nat} {x : Timpl_Node} (h : kindP x = true) : spec_l14Arity_m m x.1 = some (opN x : Int) := by
  unfold kindP at h
  simp only [Bool.and_eq_true, decide_eq_true_eq] at h
  have : x.1 = 0 ∨ x.1 = 1 ∨ x.1 = 2 ∨ x.1 = 3 ∨ x.1 = 4 ∨ x.1 = 5 ∨ x.1 = 6 ∨ x.1 = 7 ∨ x.1 = 8 := by omega
  unfold spec_l14Arity_m opN join
  rcases this with h | h | h | h | h | h | h | h | h <;> simp [h]
theorem mod_impl {m : Nat} {x : Timpl_Node} : impl_Node_isModality_m m x = some (modP x) := by
  unfold impl_Node_isModality_m modP
  by_cases h : x.1 = 4 <;> simp [h]
def shq (ok : Timpl_Node → Bool) : List Timpl_Node → Nat → Bool
  | [], n => n == 0
  | _ :: _, 0 => false
  | x :: r, n + 1 => ok x && shq ok r (n + opN x)
abbrev shp := shq fun _ => true
theorem shq_eq (ok : Timpl_Node → Bool) : ∀ (l : List Timpl_Node) (n : Nat), shq ok l n = (shp l n && l.all ok)
  | [], n => by simp [shq]
  | x :: r, 0 => by simp [shq]
  | x :: r, n + 1 => by
    simp only [shq, shq_eq ok r, List.all_cons, Bool.true_and]
    cases ok x <;> simp
theorem drop_cons6 {α : Type} {a : List α} {i : Nat} {x : α} {r : List α} (h : a.drop i = x :: r) : a[i]? = some x ∧ a.drop (i + 1) = r ∧ i < a.length := by
  refine ⟨?_, ?_, ?_⟩
  · have := congrArg (fun l => l[0]?) h
    simpa using this
  · rw [← List.drop_drop, h]; rfl
  · by_cases hi : i < a.length
    · exact hi
    · rw [List.drop_eq_nil_of_le (by omega)] at h; cases h
theorem shape_loop {step : Nat → Int × Int → Option ((Int × Int) ⊕ (Int ⊕ Bool))} (ok : Timpl_Node → Bool) (a : List Timpl_Node)
    (hgo : ∀ (i n : Nat) (x : Timpl_Node), a[i]? = some x → n ≤ 1000 → ok x = true → Ev (fun m => step m (((n + 1 : Nat) : Int), (i : Int))) (.inl (((n + opN x : Nat) : Int), ((i + 1 : Nat) : Int))))
    (hbad : ∀ (i n : Nat) (x : Timpl_Node), a[i]? = some x → n = 0 ∨ ok x = false → Ev (fun m => step m ((n : Int), (i : Int))) (.inr (.inr false)))
    (hend : ∀ (n : Nat), Ev (fun m => step m ((n : Int), (a.length : Int))) (.inr (.inl (n : Int)))) :
    ∀ (l : List Timpl_Node) (i n : Nat), a.drop i = l → i ≤ a.length → n + 2 * l.length ≤ 1000 → ∃ r, EvI step ((n : Int), (i : Int)) r ∧ (match r with | .inl z => (z == 0) = shq ok l n | .inr b => b = shq ok l n) := by
  intro l
  induction l with
  | nil =>
    intro i n hd hi hn
    have : i = a.length := by
      have := congrArg List.length hd
      rw [List.length_drop, List.length_nil] at this
      omega
    subst this
    refine ⟨_, EvI.stop (hend n), ?_⟩
    show ((n : Int) == 0) = (n == 0)
    cases n <;> simp
    omega
  | cons x r ih =>
    intro i n hd hi hn
    obtain ⟨h1, h2, h3⟩ := drop_cons6 hd
    have ho := opN_le x
    rw [List.length_cons] at hn
    cases n with
    | zero => exact ⟨_, EvI.stop (hbad i 0 x h1 (.inl rfl)), rfl⟩
    | succ n =>
      cases hk : ok x with
      | false =>
        refine ⟨_, EvI.stop (hbad i (n + 1) x h1 (.inr hk)), ?_⟩
        show false = (ok x && shq ok r (n + opN x))
        rw [hk]; rfl
      | true =>
        obtain ⟨res, e1, e2⟩ := ih (i + 1) (n + opN x) h2 (by omega) (by omega)
        refine ⟨res, EvI.go (hgo i n x h1 (by omega) hk) e1, ?_⟩
        have : shq ok (x :: r) (n + 1) = shq ok r (n + opN x) := by
          show (ok x && shq ok r (n + opN x)) = _
          rw [hk]; rfl
        rw [this]
        exact e2
/-- Patterns of labels. -/
def patP (s : Str) : Bool := (s == [] || labelP s) || ((s.getLast? == some 42) && actP s.dropLast)
theorem snocStr (s : Str) (h : s ≠ []) : ∃ t b, s = t ++ [b] := by
  rcases snoc_or s with rfl | ⟨t, b, rfl⟩
  · exact absurd rfl h
  · exact ⟨t, b, rfl⟩
theorem pat_impl {s : Str} (hl : s.length ≤ 1048576) : Ev (fun m => impl_IsPattern_m m s) (patP s) := by
  have hmx := mx
  unfold impl_IsPattern_m strings_CutSuffix_m internal_stringslite_CutSuffix_m internal_stringslite_HasSuffix_m
  by_cases h : s = []
  · subst h
    exact Ev.const rfl
  obtain ⟨t, b, rfl⟩ := snocStr s h
  have hlen : (t ++ [b]).length = t.length + 1 := by simp
  have hp : patP (t ++ [b]) = (labelP (t ++ [b]) || ((b == 42) && actP t)) := by
    unfold patP
    have : ((t ++ [b]) == ([] : Str)) = false := by simp
    rw [this]
    simp
  have hw : W (((t ++ [b]).length : Int) - (([42] : Str).length : Int)) = (t.length : Int) := by
    show W (((t ++ [b]).length : Int) - ((1 : Nat) : Int)) = _
    rw [hlen, W_of (by omega) (by omega)]
    omega
  have hs1 : sub (t ++ [b]) (t.length : Int) ((t ++ [b]).length : Int) = some [b] := by
    rw [sub_ok (by simp) (Nat.le_refl _), List.take_length, List.drop_left]
  have hs2 : sub (t ++ [b]) ((0 : Nat) : Int) (t.length : Int) = some t := by
    rw [sub_ok (by omega) (by simp), List.drop_zero, List.take_left]
  rw [hp]
  have hlab := label_impl (s := t ++ [b]) hl
  have hact := act_impl (s := t) (by omega)
  refine Ev.bind (a := (if b = 42 then (t, true) else (t ++ [b], false))) ?_ ?_
  · refine Ev.bind (a := (if b = 42 then (t, true) else (t ++ [b], false))) (Ev.bind (a := (b == 42)) (Ev.bind (a := (b == 42)) (Ev.ite_t (decide_eq_true (by simp; omega)) (Ev.bindc (by rw [hw]; exact hs1) (Ev.const (by simp)))) (Ev.pure _)) ?_) (Ev.const (by split <;> rfl))
    by_cases hb : b = 42
    · rw [if_pos hb]
      exact Ev.ite_f (by simp [hb]) (Ev.bindc (by rw [hw]; exact hs2) (Ev.pure _))
    · rw [if_neg hb]
      exact Ev.ite_t (by simp [hb]) (Ev.pure _)
  · refine Ev.bind (a := labelP (t ++ [b])) (Ev.ite_f (by simp) (Ev.bind hlab (Ev.pure _))) ?_
    refine Ev.bind (a := labelP (t ++ [b]) || ((b == 42) && actP t)) ?_ (Ev.pure _)
    cases hL : labelP (t ++ [b])
    · refine Ev.ite_f (by simp) (Ev.bind (a := ((b == 42) && actP t)) ?_ (Ev.const (by simp)))
      by_cases hb : b = 42
      · rw [if_pos hb]
        exact Ev.ite_t rfl (Ev.bind hact (Ev.const (by simp [hb])))
      · rw [if_neg hb]
        exact Ev.ite_f (by simp) (Ev.const (by simp [hb]))
    · exact Ev.ite_t rfl (Ev.const (by simp))
theorem pat_spec {s : Str} (hl : s.length ≤ 1048576) : Ev (fun m => spec_l14Pattern_m m s) (patP s) := by
  have hmx := mx
  unfold spec_l14Pattern_m
  by_cases h : s = []
  · subst h
    exact Ev.const rfl
  obtain ⟨t, b, rfl⟩ := snocStr s h
  have hlen : (t ++ [b]).length = t.length + 1 := by simp
  have hp : patP (t ++ [b]) = (labelP (t ++ [b]) || ((b == 42) && actP t)) := by
    unfold patP
    have : ((t ++ [b]) == ([] : Str)) = false := by simp
    rw [this]
    simp
  have hw : W (((t ++ [b]).length : Int) - 1) = (t.length : Int) := by
    rw [hlen, W_of (by omega) (by omega)]
    omega
  have hs1 : (t ++ [b])[t.length]? = some b := by simp
  have hs2 : sub (t ++ [b]) ((0 : Nat) : Int) (t.length : Int) = some t := by
    rw [sub_ok (by omega) (by simp), List.drop_zero, List.take_left]
  rw [hp]
  have hlab := label_spec (s := t ++ [b]) hl
  have hact := act_spec (s := t) (by omega)
  refine Ev.bind (a := labelP (t ++ [b])) (Ev.ite_f (by simp) (Ev.bind hlab (Ev.pure _))) ?_
  cases hL : labelP (t ++ [b])
  · refine Ev.ite_f (by simp) ?_
    rw [hw]
    refine Ev.bindc (idx_at hs1) (Ev.bind (a := ((b == 42) && actP t)) ?_ (Ev.const (by simp)))
    by_cases hb : b = 42
    · subst hb
      exact Ev.ite_t rfl (Ev.bindc hs2 (Ev.bind hact (Ev.const (by simp))))
    · refine Ev.ite_f ?_ (Ev.const (by simp [hb]))
      intro g
      have := beq_iff_eq.1 g
      exact hb (UInt8.toNat_inj.1 (show b.toNat = (42 : UInt8).toNat by have h42 : (42 : UInt8).toNat = 42 := rfl; omega))
  · exact Ev.ite_t rfl (Ev.const (by simp))
def fieldP (x : Timpl_Node) : Bool := if modP x = true then patP x.2.2.1 else (x.2.2.1 == []) && !x.2.2.2
theorem field_impl {x : Timpl_Node} (hl : x.2.2.1.length ≤ 1048576) : Ev (fun m => impl_Node_fieldsOk_m m x) (fieldP x) := by
  unfold impl_Node_fieldsOk_m fieldP
  refine Ev.bind (Ev.const' fun m => mod_impl) ?_
  cases hm : modP x
  · refine Ev.ite_f (by simp) (Ev.bind (a := ((x.2.2.1 == []) && !x.2.2.2)) ?_ (Ev.const rfl))
    cases hs : (x.2.2.1 == ([] : Str))
    · exact Ev.ite_f (by simp) (Ev.pure _)
    · exact Ev.ite_t rfl (Ev.const (by simp))
  · exact Ev.ite_t rfl (Ev.bind (pat_impl hl) (Ev.const rfl))
/-! ### the order of texts -/
theorem bl_irr : ∀ a : Str, Op.bytesLess a a = false
  | [] => rfl
  | x :: a => by simp [Op.bytesLess, bl_irr a]
theorem bl_asym : ∀ a b : Str, Op.bytesLess a b = true → Op.bytesLess b a = false
  | _, [], h => by simp [Op.bytesLess] at h
  | [], _ :: _, _ => by simp [Op.bytesLess]
  | x :: a, y :: b, h => by
    simp only [Op.bytesLess, Bool.or_eq_true, Bool.and_eq_true, decide_eq_true_eq, beq_iff_eq] at h
    rcases h with h | ⟨rfl, h⟩
    · have h1 : ¬ y < x := fun h' => by rw [UInt8.lt_iff_toNat_lt] at h h'; omega
      have h2 : ¬ y = x := fun h' => by subst h'; rw [UInt8.lt_iff_toNat_lt] at h; omega
      simp [Op.bytesLess, h1, h2]
    · have := bl_asym a b h
      have h1 : ¬ x < x := fun h' => by rw [UInt8.lt_iff_toNat_lt] at h'; omega
      simp [Op.bytesLess, h1, this]
theorem bl_tri : ∀ a b : Str, Op.bytesLess a b = false → Op.bytesLess b a = false → a = b
  | [], [], _, _ => rfl
  | [], _ :: _, h, _ => by simp [Op.bytesLess] at h
  | _ :: _, [], _, h => by simp [Op.bytesLess] at h
  | x :: a, y :: b, h1, h2 => by
    simp only [Op.bytesLess, Bool.or_eq_false_iff, Bool.and_eq_false_iff, decide_eq_false_iff_not, beq_eq_false_iff_ne] at h1 h2
    have e : x = y := by
      apply UInt8.toNat_inj.1
      have l1 := h1.1
      have l2 := h2.1
      rw [UInt8.lt_iff_toNat_lt] at l1 l2
      omega
    subst e
    have g1 : Op.bytesLess a b = false := h1.2.resolve_left (fun h => h rfl)
    have g2 : Op.bytesLess b a = false := h2.2.resolve_left (fun h => h rfl)
    rw [bl_tri a b g1 g2]
theorem bl_le (s p : Str) : (Op.bytesLess s p || s == p) = !Op.bytesLess p s := by
  cases h : Op.bytesLess p s with
  | true =>
    have h1 := bl_asym p s h
    have h2 : (s == p) = false := by
      rw [beq_eq_false_iff_ne]
      rintro rfl
      rw [bl_irr] at h
      cases h
    rw [h1, h2]; rfl
  | false =>
    cases h1 : Op.bytesLess s p with
    | true => rfl
    | false => rw [bl_tri s p h1 h]; simp

/-! ### valid systems -/
def tau' : Str := [116, 97, 117]
def condX (ls : List Str) (k : Nat) (b : Str → Bool) : Bool := match ls[k]? with
  | none => false
  | some s => !labelP s || (b s || (decide ((1 : Int) < (k : Int)) && (match ls[k - 1]? with | none => false | some p => !Op.bytesLess p s)))
def okL (ls : List Str) (k : Nat) : Bool := !condX ls k fun s => (s == tau') != ((k : Int) == 0)
def labsP (ls : List Str) : Bool := decide (1 ≤ ls.length) && decide (ls.length ≤ 12) && decide (∀ k, k < ls.length → okL ls k = true)
def edgeLess (a b : Timpl_Edge) : Bool := if a.1 ≠ b.1 then decide (a.1 < b.1) else if a.2.1 ≠ b.2.1 then decide (a.2.1 < b.2.1) else decide (a.2.2 < b.2.2)
def inn (a b c : Int) : Bool := decide (b ≤ a) && decide (a ≤ c)
def condE (n m : Int) (es : List Timpl_Edge) (k : Nat) : Bool := match es[k]? with
  | none => false
  | some e => (!inn e.1 0 n || !inn e.2.2 0 n) || (!inn e.2.1 0 m || (decide ((0 : Int) < (k : Int)) && (match es[k - 1]? with | none => false | some p => !edgeLess p e)))
def edgesP (n m : Int) (es : List Timpl_Edge) : Bool := decide (es.length ≤ 300) && decide (∀ k, k < es.length → (!condE n m es k) = true)
def validP (t : Timpl_Lts) : Bool := inn t.1 1 40 && inn t.2.1 0 (W (t.1 - 1)) && labsP t.2.2.1 && edgesP (W (t.1 - 1)) (W ((t.2.2.1.length : Int) - 1)) t.2.2.2

theorem compare_m {m : Nat} {a b : Int} : cmp_Compare_int64_m m a b = some (if a < b then -1 else if b < a then 1 else 0) := by
  unfold cmp_Compare_int64_m cmp_isNaN_int64_m
  simp
  split
  · rfl
  · split <;> rfl
theorem or3 (x y z : Int) : Ev (fun m => cmp_Or_int_m m [x, y, z]) (if x ≠ 0 then x else if y ≠ 0 then y else z) := by
  unfold cmp_Or_int_m
  refine Exists.elim (EvI.find (step := _) 3 (fun k => ([x, y, z][k]?).getD 0 == 0) (fun k => ([x, y, z][k]?).getD 0) (fun k hk hok => ?_) (fun k hk hok => ?_) (Ev.const rfl) (Nat.zero_le _)) (fun res ⟨g1, g2⟩ => Ev.bind g1.ev ?_)
  · obtain ⟨v, hv⟩ := get_lt (xs := [x, y, z]) (k := k) hk
    have hk' : decide ((k : Int) < (([x, y, z] : List Int).length : Int)) = true := decide_eq_true (by simp; omega)
    have h0 : v = 0 := by rw [hv] at hok; simpa using hok
    refine Ev.ite_t hk' (Ev.bindc (idx_at hv) (Ev.ite_f (by rw [h0]; simp) (Ev.const ?_)))
    rw [W_succ hk (by omega)]
  · obtain ⟨v, hv⟩ := get_lt (xs := [x, y, z]) (k := k) hk
    have hk' : decide ((k : Int) < (([x, y, z] : List Int).length : Int)) = true := decide_eq_true (by simp; omega)
    have h0 : v ≠ 0 := by rw [hv] at hok; simpa using hok
    refine Ev.ite_t hk' (Ev.bindc (idx_at hv) (Ev.ite_t (by simpa using h0) (Ev.const ?_)))
    rw [hv]; rfl
  · rcases g2 with ⟨rfl, h⟩ | ⟨k, _, hk, hok, hj, rfl⟩
    · have h0 := h 0 (Nat.zero_le _) (by omega)
      have h1 := h 1 (Nat.zero_le _) (by omega)
      have h2 := h 2 (Nat.zero_le _) (by omega)
      simp at h0 h1 h2
      subst h0; subst h1; subst h2
      exact Ev.const rfl
    · match k, hk with
      | 0, _ => simp at hok; exact Ev.const (by rw [ctl_r]; simp [hok])
      | 1, _ =>
        have h0 := hj 0 (Nat.zero_le _) (by omega)
        simp at hok h0
        exact Ev.const (by rw [ctl_r]; simp [hok, h0])
      | 2, _ =>
        have h0 := hj 0 (Nat.zero_le _) (by omega)
        have h1 := hj 1 (Nat.zero_le _) (by omega)
        simp at hok h0 h1
        exact Ev.const (by rw [ctl_r]; simp [h0, h1])
theorem edges_cmp (a b : Timpl_Edge) : ∃ r : Int, Ev (fun m => impl_compareEdges_m m a b) r ∧ decide (0 ≤ r) = !edgeLess a b := by
  unfold impl_compareEdges_m edgeLess
  simp only [compare_m, Option.bind_some]
  obtain ⟨a1, a2, a3⟩ := a
  obtain ⟨b1, b2, b3⟩ := b
  refine ⟨_, Ev.bind (or3 _ _ _) (Ev.pure _), ?_⟩
  simp only []
  rcases Int.lt_trichotomy a1 b1 with h | h | h
  · have h1 : a1 ≠ b1 := by omega
    simp [h, h1]
  · subst h
    rcases Int.lt_trichotomy a2 b2 with h | h | h
    · have h1 : a2 ≠ b2 := by omega
      simp [h, h1]
    · subst h
      rcases Int.lt_trichotomy a3 b3 with h | h | h
      · simp [h]
      · subst h; simp
      · have h1 : ¬ a3 < b3 := by omega
        simp [h, h1]
    · have h1 : a2 ≠ b2 := by omega
      have h2 : ¬ a2 < b2 := by omega
      simp [h, h1, h2]
  · have h1 : a1 ≠ b1 := by omega
    have h2 : ¬ a1 < b1 := by omega
    simp [h, h1, h2]
theorem less_m {m : Nat} {a b : Timpl_Edge} : spec_l11Less_m m a b = some (edgeLess a b) := by
  unfold spec_l11Less_m edgeLess
  by_cases h1 : a.1 = b.1
  · by_cases h2 : a.2.1 = b.2.1
    · simp [h1, h2]
    · simp [h1, h2]
  · simp [h1]

theorem isState_m {m : Nat} {t : Timpl_Lts} {k : Int} : impl_Lts_isState_m m t k = some (inn k 0 (W (t.1 - 1))) := by
  unfold impl_Lts_isState_m
  rw [within_eq]; rfl

theorem names_spec {ls : List Str} (hl : ls.length ≤ 1048576) (hs : ∀ s ∈ ls, s.length ≤ 1048576) : Ev (fun m => spec_l11Names_m m ls) (labsP ls) := by
  have hm := mx
  unfold spec_l11Names_m
  by_cases h0 : ls.length = 0
  · have e : ((ls.length : Int) == 0) = true := by rw [h0]; rfl
    refine Ev.eq (r := false) (Ev.const' fun m => by simp only [e, if_true, Option.bind_some]) ?_
    unfold labsP
    rw [decide_eq_false (show ¬ 1 ≤ ls.length by omega)]; rfl
  · have e : ((ls.length : Int) == 0) = false := beq_false_of_ne (by omega)
    by_cases h1 : 12 < ls.length
    · have e1 : decide ((12 : Int) < (ls.length : Int)) = true := decide_eq_true (by omega)
      refine Ev.eq (r := false) (Ev.const' fun m => by simp only [e, e1, if_true, Bool.false_eq_true, if_false, Option.bind_some]) ?_
      unfold labsP
      rw [decide_eq_false (show ¬ ls.length ≤ 12 by omega)]; simp
    · have e1 : decide ((12 : Int) < (ls.length : Int)) = false := decide_eq_false (by omega)
      obtain ⟨s0, hs0⟩ := get_lt (xs := ls) (k := 0) (by omega)
      have hi : idx ls (0 : Int) = some s0 := idx_at (k := 0) hs0
      have hlab : labsP ls = decide (∀ k, k < ls.length → okL ls k = true) := by
        unfold labsP
        rw [decide_eq_true (show 1 ≤ ls.length by omega), decide_eq_true (show ls.length ≤ 12 by omega)]; rfl
      rw [hlab]
      by_cases h2 : s0 = tau'
      · have e2 : (s0 != ([116, 97, 117] : Str)) = false := by rw [h2]; rfl
        refine Ev.bindc (a := false) (by simp only [e, e1, Bool.false_eq_true, if_false]) (Ev.bindc (a := false) (by simp only [hi, e2, Bool.false_eq_true, if_false, Option.bind_some]) (Ev.ite_f (by simp) ?_))
        have cond : ∀ k s, k < ls.length → ls[k]? = some s → Ev (fun m => (spec_l01Label_m m s).bind fun x140 => (if (!x140) = true then some true else (idx ls (k : Int)).bind fun x146 => some (x146 == ([116, 97, 117] : Str))).bind fun t143 => (if t143 = true then some true else (if (decide ((1 : Int) < (k : Int))) = true then (idx ls (W ((k : Int) - (1 : Int)))).bind fun x157 => (idx ls (k : Int)).bind fun x162 => some (!Op.bytesLess x157 x162) else some false).bind fun t154 => some t154).bind fun t151 => (if t151 = true then some (.inr (.inr false)) else some (.inl ((W ((k : Int) + (1 : Int))))) : Option (Int ⊕ (Unit ⊕ Bool)))) (if condX ls k (fun s => s == tau') = true then .inr (.inr false) else .inl ((k + 1 : Nat) : Int)) := by
          intro k s hk hs'
          refine Ev.bind (label_spec (hs s (List.mem_of_getElem? hs'))) (Ev.const ?_)
          unfold condX
          rw [hs']
          cases k with
          | zero =>
            simp only [idx_at hs', Option.bind_some, or_some, show decide ((1 : Int) < ((0 : Nat) : Int)) = false from rfl, Bool.false_eq_true, if_false, W_succ hk (by omega), Bool.false_and, Bool.or_false]
            rw [ite_some]
            rfl
          | succ j =>
            obtain ⟨p, hp⟩ := get_lt (xs := ls) (k := j) (by omega)
            have w2 := W_pred (k := j) (n := ls.length) (by omega) (by omega)
            simp only [idx_at hs', hp, w2, idx_at hp, Option.bind_some, or_some, and_some, W_succ hk (by omega), Nat.add_sub_cancel]
            rw [ite_some, Bool.or_assoc]
            rfl
        refine Exists.elim (EvI.find (step := _) ls.length (fun k => !condX ls k fun s => s == tau') (fun _ => false) (fun k hk hok => ?_) (fun k hk hok => ?_) (Ev.ite_f (by simp) (Ev.pure _)) (s := 1) (by omega)) (fun res ⟨g1, g2⟩ => Ev.bind g1.ev ?_)
        · obtain ⟨s, hs'⟩ := get_lt hk
          have hk' : decide ((k : Int) < (ls.length : Int)) = true := by simpa using hk
          have hc : (condX ls k fun s => s == tau') = false := by rwa [Bool.not_eq_true'] at hok
          exact Ev.ite_t hk' (Ev.bindc (idx_at hs') ((cond k s hk hs').eq (by rw [hc]; rfl)))
        · obtain ⟨s, hs'⟩ := get_lt hk
          have hk' : decide ((k : Int) < (ls.length : Int)) = true := by simpa using hk
          have hc : (condX ls k fun s => s == tau') = true := by rwa [Bool.not_eq_false'] at hok
          exact Ev.ite_t hk' (Ev.bindc (idx_at hs') ((cond k s hk hs').eq (by rw [hc]; rfl)))
        · have hrel : ∀ k, 1 ≤ k → (!condX ls k fun s => s == tau') = okL ls k := by
            intro k hk1
            unfold okL condX
            have : ((k : Int) == 0) = false := beq_false_of_ne (by omega)
            rw [this]
            simp only [Bool.bne_false]
          have h0k : okL ls 0 = true := by
            unfold okL condX
            rw [hs0, h2]
            have : labelP tau' = true := by unfold labelP; rw [if_neg (by decide)]; exact name_tau
            simp only [this]
            rfl
          rcases g2 with ⟨rfl, h⟩ | ⟨k, hk1, hk, hok, _, rfl⟩
          · refine (Ev.pure _).eq (decide_eq_true fun k hk => ?_).symm
            cases k with
            | zero => exact h0k
            | succ j => rw [← hrel _ (by omega)]; exact h _ (by omega) hk
          · refine (Ev.pure _).eq (decide_eq_false fun h => ?_).symm
            rw [hrel k hk1, h k hk] at hok
            cases hok
      · have e2 : (s0 != ([116, 97, 117] : Str)) = true := bne_iff_ne.2 h2
        refine Ev.eq (r := false) (Ev.const' fun m => by simp only [e, e1, hi, e2, if_true, Bool.false_eq_true, if_false, Option.bind_some]) ?_
        rw [decide_eq_false]
        intro h
        have := h 0 (by omega)
        unfold okL condX at this
        rw [hs0] at this
        have e3 : (s0 == tau') = false := beq_false_of_ne h2
        simp [e3] at this

/-! ### edges -/
theorem valid_spec {t : Timpl_Lts} (hl : t.2.2.1.length ≤ 1048576) (hs : ∀ s ∈ t.2.2.1, s.length ≤ 1048576) (he : t.2.2.2.length ≤ 1048576) : Ev (fun m => spec_l11Is_m m t) (validP t) := by
  have hm := mx
  unfold spec_l11Is_m validP
  simp only [l00In_eq, Option.bind_some]
  cases h1 : inn t.1 1 40
  · unfold inn at h1
    exact Ev.eq (r := false) (Ev.const' fun m => by simp only [h1, Bool.not_false, if_true, Option.bind_some]) rfl
  · unfold inn at h1
    cases h2 : inn t.2.1 0 (W (t.1 - 1))
    · unfold inn at h2
      exact Ev.eq (r := false) (Ev.const' fun m => by simp only [h1, h2, Bool.not_false, Bool.not_true, Bool.false_eq_true, if_true, if_false, Option.bind_some]) rfl
    · unfold inn at h2
      simp only [h1, h2, Bool.not_true, Bool.false_eq_true, if_false, Option.bind_some]
      refine Ev.bind (Ev.bind (names_spec hl hs) (Ev.pure _)) ?_
      cases h3 : labsP t.2.2.1
      · exact Ev.eq (r := false) (Ev.const' fun m => by simp only [Bool.not_false, if_true, Option.bind_some]) rfl
      · simp only [Bool.not_true, Bool.false_eq_true, if_false, Option.bind_some, Bool.and_true, Bool.true_and]
        unfold edgesP
        by_cases h4 : 300 < t.2.2.2.length
        · rw [decide_eq_false (show ¬ t.2.2.2.length ≤ 300 by omega)]
          exact Ev.ite_t (decide_eq_true (by omega)) (Ev.pure _)
        · rw [decide_eq_true (show t.2.2.2.length ≤ 300 by omega), Bool.true_and]
          refine Ev.ite_f (by simp; omega) ?_
          have cond : ∀ k e, k < t.2.2.2.length → t.2.2.2[k]? = some e → (if (!(decide ((0 : Int) ≤ e.1) && decide (e.1 ≤ W (t.1 - 1)))) = true then some true else some (!(decide ((0 : Int) ≤ e.2.2) && decide (e.2.2 ≤ W (t.1 - 1))))) = some (!inn e.1 0 (W (t.1 - 1)) || !inn e.2.2 0 (W (t.1 - 1))) := fun k e _ _ => by rw [or_some]; rfl
          have c3 : ∀ k e, k < t.2.2.2.length → t.2.2.2[k]? = some e → (if (decide ((0 : Int) < (k : Int))) = true then (idx t.2.2.2 (W ((k : Int) - (1 : Int)))).bind fun x261 => some (!edgeLess x261 e) else some false) = some (decide ((0 : Int) < (k : Int)) && (match t.2.2.2[k - 1]? with | none => false | some p => !edgeLess p e)) := by
            intro k e hk he'
            cases k with
            | zero => rfl
            | succ j =>
              obtain ⟨p, hp⟩ := get_lt (xs := t.2.2.2) (k := j) (by omega)
              rw [W_pred (k := j) (n := t.2.2.2.length) (by omega) (by omega), idx_at hp, Nat.add_sub_cancel, hp, Option.bind_some, and_some]
          refine (Ev.all t.2.2.2.length (fun k => !condE (W (t.1 - 1)) (W ((t.2.2.1.length : Int) - 1)) t.2.2.2 k) false true (fun k hk hok => Ev.const' fun m => ?_) (fun k hk hok => Ev.const' fun m => ?_) (Ev.ite_f (by simp) (Ev.pure _))).eq (by split <;> simp_all)
          · obtain ⟨e, he'⟩ := get_lt hk
            have hk' : decide ((k : Int) < (t.2.2.2.length : Int)) = true := by simpa using hk
            have hc : condE (W (t.1 - 1)) (W ((t.2.2.1.length : Int) - 1)) t.2.2.2 k = false := by rwa [Bool.not_eq_true'] at hok
            unfold condE at hc
            rw [he'] at hc
            simp only [Bool.or_eq_false_iff] at hc
            obtain ⟨⟨g1, g2⟩, g3, g4⟩ := hc
            unfold inn at g1 g2 g3
            simp only [hk', if_true, idx_at he', Option.bind_some, g1, g2, g3, Bool.false_eq_true, if_false, less_m, c3 k e hk he', g4, W_succ hk (by omega)]
          · obtain ⟨e, he'⟩ := get_lt hk
            have hk' : decide ((k : Int) < (t.2.2.2.length : Int)) = true := by simpa using hk
            have hc : condE (W (t.1 - 1)) (W ((t.2.2.1.length : Int) - 1)) t.2.2.2 k = true := by rwa [Bool.not_eq_false'] at hok
            unfold condE at hc
            rw [he'] at hc
            simp only [hk', if_true, idx_at he', Option.bind_some, or_some, less_m]
            cases ha : (!(decide ((0 : Int) ≤ e.1) && decide (e.1 ≤ W (t.1 - 1))) || !(decide ((0 : Int) ≤ e.2.2) && decide (e.2.2 ≤ W (t.1 - 1))))
            · cases hb : (!(decide ((0 : Int) ≤ e.2.1) && decide (e.2.1 ≤ W ((t.2.2.1.length : Int) - 1))))
              · have hd : (decide ((0 : Int) < (k : Int)) && (match t.2.2.2[k - 1]? with | none => false | some p => !edgeLess p e)) = true := by
                  unfold inn at hc
                  simp only [ha, hb, Bool.false_or] at hc
                  exact hc
                simp only [Bool.false_or, Bool.false_eq_true, if_false, c3 k e hk he', hd, Option.bind_some, if_true]
              · simp only [Bool.false_or, if_true]
            · simp only [Bool.true_or, if_true]
structure VL (t : Timpl_Lts) (n : Nat) : Prop where
  st : t.1 = (n : Int)
  pos : 1 ≤ n
  top : n ≤ 40
  ini : 0 ≤ t.2.1 ∧ t.2.1 < (n : Int)
  labs : 1 ≤ t.2.2.1.length ∧ t.2.2.1.length ≤ 12
  lab : ∀ k, k < t.2.2.1.length → okL t.2.2.1 k = true
  few : t.2.2.2.length ≤ 300
  src : ∀ e ∈ t.2.2.2, 0 ≤ e.1 ∧ e.1 < (n : Int)
  dst : ∀ e ∈ t.2.2.2, 0 ≤ e.2.2 ∧ e.2.2 < (n : Int)
  lbl : ∀ e ∈ t.2.2.2, 0 ≤ e.2.1 ∧ e.2.1 < (t.2.2.1.length : Int)
  ord : ∀ (k : Nat) (p e : Timpl_Edge), t.2.2.2[k]? = some p → t.2.2.2[k + 1]? = some e → edgeLess p e = true

theorem valid_of {t : Timpl_Lts} (h : validP t = true) : ∃ n, VL t n := by
  unfold validP edgesP labsP at h
  simp only [Bool.and_eq_true] at h
  obtain ⟨⟨⟨h1, h2⟩, ⟨h3, h4⟩, h5⟩, h6, h7⟩ := h
  unfold inn at h1 h2
  simp only [Bool.and_eq_true, decide_eq_true_eq] at h1 h2 h3 h4 h5 h6 h7
  have hw : W (t.1 - 1) = t.1 - 1 := W_of (by omega) (by omega)
  have hw2 : W ((t.2.2.1.length : Int) - 1) = (t.2.2.1.length : Int) - 1 := W_of (by omega) (by omega)
  rw [hw] at h2 h7
  rw [hw2] at h7
  have key : ∀ (k : Nat) (e : Timpl_Edge), t.2.2.2[k]? = some e → ((0 ≤ e.1 ∧ e.1 ≤ t.1 - 1) ∧ (0 ≤ e.2.2 ∧ e.2.2 ≤ t.1 - 1)) ∧ (0 ≤ e.2.1 ∧ e.2.1 ≤ (t.2.2.1.length : Int) - 1) ∧ ∀ (j : Nat) (p : Timpl_Edge), k = j + 1 → t.2.2.2[j]? = some p → edgeLess p e = true := by
    intro k e he
    have hk := (List.getElem?_eq_some_iff.1 he).1
    have h := h7 k hk
    unfold condE inn at h
    rw [he] at h
    simp only [Bool.not_eq_true', Bool.or_eq_false_iff, Bool.not_eq_false', Bool.and_eq_true, decide_eq_true_eq] at h
    obtain ⟨⟨a, b⟩, c, d⟩ := h
    refine ⟨⟨a, b⟩, c, fun j p hj hp => ?_⟩
    subst hj
    have hpos : decide ((0 : Int) < ((j + 1 : Nat) : Int)) = true := decide_eq_true (by omega)
    rw [hpos, Bool.true_and, Nat.add_sub_cancel, hp] at d
    simpa using d
  have ofm : ∀ e ∈ t.2.2.2, ((0 ≤ e.1 ∧ e.1 ≤ t.1 - 1) ∧ (0 ≤ e.2.2 ∧ e.2.2 ≤ t.1 - 1)) ∧ (0 ≤ e.2.1 ∧ e.2.1 ≤ (t.2.2.1.length : Int) - 1) := by
    intro e he
    obtain ⟨k, hk, rfl⟩ := List.getElem_of_mem he
    obtain ⟨a, b, _⟩ := key k _ (List.getElem?_eq_getElem hk)
    exact ⟨a, b⟩
  refine ⟨t.1.toNat, ⟨by omega, by omega, by omega, by omega, ⟨h3, h4⟩, h5, h6, fun e he => ?_, fun e he => ?_, fun e he => ?_, fun k p e hp he => (key (k + 1) e he).2.2 k p rfl hp⟩⟩
  · have := (ofm e he).1.1; omega
  · have := (ofm e he).1.2; omega
  · have := (ofm e he).2; omega

/-! ### ways and distances -/
def pr (bk : Bool) (e : Timpl_Edge) : Int × Int := if bk = true then (e.2.2, e.1) else (e.1, e.2.2)
def Ws (n : Nat) (ps : List (Int × Int)) : Prop := ∀ e ∈ ps, (0 ≤ e.1 ∧ e.1 < (n : Int)) ∧ (0 ≤ e.2 ∧ e.2 < (n : Int))
def Rg (n : Nat) (fr : List Int) : Prop := ∀ v ∈ fr, 0 ≤ v ∧ v < (n : Int)
def Rch (ps : List (Int × Int)) (fr : List Int) : Nat → Int → Prop
  | 0, v => v ∈ fr
  | d + 1, v => ∃ e ∈ ps, Rch ps fr d e.1 ∧ e.2 = v
def Mn (ps : List (Int × Int)) (fr : List Int) (d : Nat) (v : Int) : Prop := Rch ps fr d v ∧ ∀ c, c < d → ¬ Rch ps fr c v
theorem VL.ws {t : Timpl_Lts} {n : Nat} (V : VL t n) (bk : Bool) : Ws n (t.2.2.2.map (pr bk)) := by
  intro e he
  obtain ⟨x, hx, rfl⟩ := List.mem_map.1 he
  have a := V.src x hx
  have b := V.dst x hx
  cases bk
  · exact ⟨a, b⟩
  · exact ⟨b, a⟩

section
variable {n : Nat} {ps : List (Int × Int)} {fr : List Int}
theorem mn_uniq {c d : Nat} {v : Int} (h : Mn ps fr c v) (h' : Mn ps fr d v) : c = d := by
  by_cases h1 : c < d
  · exact absurd h.1 (h'.2 c h1)
  · by_cases h2 : d < c
    · exact absurd h'.1 (h.2 d h2)
    · omega
theorem mn_pred {d : Nat} {v : Int} (h : Mn ps fr (d + 1) v) : ∃ e ∈ ps, Mn ps fr d e.1 ∧ e.2 = v := by
  obtain ⟨⟨e, he, h1, h2⟩, h3⟩ := h
  exact ⟨e, he, ⟨h1, fun c hc hr => h3 (c + 1) (by omega) ⟨e, he, hr, h2⟩⟩, h2⟩
theorem rch_rg (hw : Ws n ps) (hf : Rg n fr) : ∀ {d : Nat} {v : Int}, Rch ps fr d v → 0 ≤ v ∧ v < (n : Int)
  | 0, v, h => hf v h
  | d + 1, v, ⟨e, he, _, h2⟩ => by subst h2; exact (hw e he).2
structure Bfs (n : Nat) (ps : List (Int × Int)) (fr : List Int) (d : Nat) (f : Int → Int) (a b : List Int) : Prop where
  val : ∀ v, 0 ≤ v → v < (n : Int) → f v = -1 ∨ ∃ c : Nat, c ≤ d + 1 ∧ f v = (c : Int) ∧ Mn ps fr c v
  full : ∀ (v : Int) (c : Nat), c ≤ d → Mn ps fr c v → f v = (c : Int)
  one : ∀ u ∈ a, (0 ≤ u ∧ u < (n : Int)) ∧ f u = (d : Int)
  two : ∀ u ∈ b, (0 ≤ u ∧ u < (n : Int)) ∧ f u = (d : Int) + 1
  all : ∀ v, 0 ≤ v → v < (n : Int) → f v = (d : Int) + 1 → v ∈ b
  done : ∀ u, 0 ≤ u → u < (n : Int) → f u = (d : Int) → u ∉ a → ∀ e ∈ ps, e.1 = u → f e.2 ≠ -1

theorem Bfs.level (hw : Ws n ps) (hf : Rg n fr) {d : Nat} {f : Int → Int} {b : List Int} (h : Bfs n ps fr d f [] b) : Bfs n ps fr (d + 1) f b [] where
  val v h0 h1 := by
    rcases h.val v h0 h1 with q | ⟨c, q1, q⟩
    · exact .inl q
    · exact .inr ⟨c, by omega, q⟩
  full v c hc hm := by
    by_cases hd : c ≤ d
    · exact h.full v c hd hm
    obtain rfl : c = d + 1 := by omega
    obtain ⟨e, he, h1, h2⟩ := mn_pred hm
    have ra := rch_rg hw hf h1.1
    have rv := rch_rg hw hf hm.1
    have hx := h.done e.1 ra.1 ra.2 (h.full _ _ (Nat.le_refl _) h1) (by simp) e he rfl
    rw [h2] at hx
    rcases h.val v rv.1 rv.2 with q | ⟨c', _, q2, q3⟩
    · exact absurd q hx
    · rw [q2, mn_uniq q3 hm]
  one u hu := by have := h.two u hu; exact ⟨this.1, by rw [this.2]; rfl⟩
  two u hu := by cases hu
  all v h0 h1 hv := by
    rcases h.val v h0 h1 with q | ⟨c, q1, q, _⟩
    · rw [q] at hv; push_cast at hv; omega
    · rw [q] at hv; push_cast at hv; omega
  done u h0 h1 hu hn := absurd (h.all u h0 h1 (by rw [hu]; rfl)) hn

/-- In the middle of the edges. -/
structure BfsM (n : Nat) (ps : List (Int × Int)) (fr : List Int) (d : Nat) (u : Int) (r : List Int) (K i : Nat) (s : (Int → Int) × List Int) : Prop where
  at_ : s.1 u = (d : Int)
  tot : (tab n s.1).countP (fun x => decide (x < 0)) + s.2.length = K
  inv : ∃ b, s.2 = r ++ b ∧ (∀ v, 0 ≤ v → v < (n : Int) → s.1 v = -1 ∨ ∃ c : Nat, c ≤ d + 1 ∧ s.1 v = (c : Int) ∧ Mn ps fr c v) ∧ (∀ (v : Int) (c : Nat), c ≤ d → Mn ps fr c v → s.1 v = (c : Int)) ∧
    (∀ x ∈ r, (0 ≤ x ∧ x < (n : Int)) ∧ s.1 x = (d : Int)) ∧ (∀ x ∈ b, (0 ≤ x ∧ x < (n : Int)) ∧ s.1 x = (d : Int) + 1) ∧ (∀ v, 0 ≤ v → v < (n : Int) → s.1 v = (d : Int) + 1 → v ∈ b) ∧
    (∀ x, 0 ≤ x → x < (n : Int) → s.1 x = (d : Int) → x ∉ r → x ≠ u → ∀ e ∈ ps, e.1 = x → s.1 e.2 ≠ -1) ∧ ∀ (j : Nat) (e : Int × Int), j < i → ps[j]? = some e → e.1 = u → s.1 e.2 ≠ -1

def BfsI (n : Nat) (ps : List (Int × Int)) (fr : List Int) (s : (Int → Int) × List Int) : Prop :=
  (tab n s.1).countP (fun x => decide (x < 0)) + s.2.length ≤ n + fr.length ∧ ∃ d a b, s.2 = a ++ b ∧ Bfs n ps fr d s.1 a b

theorem BfsI.head (hw : Ws n ps) (hf : Rg n fr) {f : Int → Int} {u : Int} {r : List Int} (h : BfsI n ps fr (f, u :: r)) :
    ∃ d r', Mn ps fr d u ∧ (0 ≤ u ∧ u < (n : Int)) ∧ BfsM n ps fr d u r' ((tab n f).countP (fun x => decide (x < 0)) + r.length) 0 (f, r) ∧ ∀ s : (Int → Int) × List Int, BfsM n ps fr d u r' ((tab n f).countP (fun x => decide (x < 0)) + r.length) ps.length s → BfsI n ps fr s := by
  obtain ⟨hK, d, a, b, hab, hB⟩ := h
  simp only [List.length_cons] at hK
  have key : ∀ d b r', r = r' ++ b → Bfs n ps fr d f (u :: r') b → ∃ d r', Mn ps fr d u ∧ (0 ≤ u ∧ u < (n : Int)) ∧ BfsM n ps fr d u r' ((tab n f).countP (fun x => decide (x < 0)) + r.length) 0 (f, r) ∧ ∀ s : (Int → Int) × List Int, BfsM n ps fr d u r' ((tab n f).countP (fun x => decide (x < 0)) + r.length) ps.length s → BfsI n ps fr s := by
    intro d b r' hr hB
    have hu := hB.one u (by simp)
    have hmu : Mn ps fr d u := by
      rcases hB.val u hu.1.1 hu.1.2 with q | ⟨c, _, q1, q2⟩
      · have := hu.2; omega
      · have := hu.2
        obtain rfl : c = d := by omega
        exact q2
    refine ⟨d, r', hmu, hu.1, ⟨hu.2, rfl, b, hr, hB.val, hB.full, fun x hx => hB.one x (List.mem_cons_of_mem _ hx), hB.two, hB.all, fun x p q hx hxr hxu => hB.done x p q hx (by simp [hxr, hxu]), fun j e hj => by omega⟩, fun s hM => ?_⟩
    obtain ⟨b', hb', h1, h2, h3, h4, h5, h6, h7⟩ := hM.inv
    refine ⟨by have := hM.tot; omega, d, r', b', hb', ⟨h1, h2, h3, h4, h5, fun x p q hx hxr e he hex => ?_⟩⟩
    by_cases hxu : x = u
    · obtain ⟨j, hj, rfl⟩ := List.getElem_of_mem he
      exact h7 j _ hj (List.getElem?_eq_getElem hj) (hex.trans hxu)
    · exact h6 x p q hx hxr hxu e he hex
  cases a with
  | nil =>
    have e : b = u :: r := hab.symm
    subst e
    exact key (d + 1) [] r (by simp) (hB.level hw hf)
  | cons x r' =>
    simp only [List.cons_append, List.cons.injEq] at hab
    obtain ⟨rfl, hr⟩ := hab
    exact key d b r' hr hB

end
section
variable {n : Nat} {ok : Timpl_Edge → Bool} {es : List Timpl_Edge} {f0 : Int → Bool}
end
/-! ### places in a list -/
def pos (xs : List Int) (c : Int) : Int := match xs.findIdx? (· == c) with
  | some k => (k : Int)
  | none => -1

/-! ### the library's small loops -/
theorem mul_small {n : Nat} {x y : Int} (h0 : 0 ≤ x) (h1 : 0 ≤ y) (h2 : x < 18446744073709551616) (h3 : y < 18446744073709551616) (h : x * y < 18446744073709551616) : math_bits_Mul_m n x y = some (0, x * y) := by
  unfold math_bits_Mul_m
  rw [if_pos ⟨h0, h1, h2, h3, h⟩]

theorem u64_of {n : Int} (h0 : 0 ≤ n) (h1 : n < 18446744073709551616) : IntKind.u64.wrap n = n := by
  unfold IntKind.wrap
  simp [IntKind.signed, IntKind.bits]
  omega

theorem valid_impl {t : Timpl_Lts} (hl : t.2.2.1.length ≤ 1048576) (hs : ∀ s ∈ t.2.2.1, s.length ≤ 1048576) (he : t.2.2.2.length ≤ 1048576) : Ev (fun m => impl_ValidLts_m m t) (validP t) := by
  have hm := mx
  unfold impl_ValidLts_m validP
  simp only [within_eq, isState_m, index_eq, Option.bind_some]
  cases h1 : inn t.1 1 40
  · unfold inn at h1
    exact Ev.eq (r := false) (Ev.const' fun m => by simp only [h1, Bool.not_false, if_true, Option.bind_some]) rfl
  · unfold inn at h1
    cases h2 : inn t.2.1 0 (W (t.1 - 1))
    · exact Ev.eq (r := false) (Ev.const' fun m => by simp only [h1, Bool.not_false, Bool.not_true, Bool.false_eq_true, if_true, if_false, Option.bind_some]) rfl
    · simp only [h1, Bool.not_true, Bool.false_eq_true, if_false, Option.bind_some, Bool.true_and]
      by_cases h3 : 1 ≤ t.2.2.1.length ∧ t.2.2.1.length ≤ 12
      · have e3 : (decide ((1 : Int) ≤ (t.2.2.1.length : Int)) && decide ((t.2.2.1.length : Int) ≤ 12)) = true := by
          rw [decide_eq_true (by omega : (1 : Int) ≤ (t.2.2.1.length : Int)), decide_eq_true (by omega : (t.2.2.1.length : Int) ≤ 12)]; rfl
        simp only [e3, Bool.not_true, Bool.false_eq_true, if_false, Option.bind_some]
        unfold edgesP
        by_cases h4 : 300 < t.2.2.2.length
        · rw [decide_eq_false (show ¬ t.2.2.2.length ≤ 300 by omega), Bool.false_and, Bool.and_false]
          exact Ev.ite_t (decide_eq_true (by omega)) (Ev.pure _)
        · rw [decide_eq_true (show t.2.2.2.length ≤ 300 by omega), Bool.true_and]
          refine Ev.ite_f (by simp; omega) ?_
          have hlab : labsP t.2.2.1 = decide (∀ k, k < t.2.2.1.length → okL t.2.2.1 k = true) := by
            unfold labsP
            rw [decide_eq_true h3.1, decide_eq_true h3.2]; rfl
          rw [hlab]
          have cond : ∀ k s, k < t.2.2.1.length → t.2.2.1[k]? = some s → Ev (fun m => (impl_IsLabel_m m s).bind fun x357 => (if (!x357) = true then some true else some ((s == ([116, 97, 117] : Str)) != ((k : Int) == (0 : Int)))).bind fun t360 => (if t360 = true then some true else (if (decide ((1 : Int) < (k : Int))) = true then (idx t.2.2.1 (W ((k : Int) - (1 : Int)))).bind fun x369 => some (Op.bytesLess s x369 || s == x369) else some false).bind fun t366 => some t366).bind fun t363 => (if t363 = true then some (.inr (.inr false)) else some (.inl ((W ((k : Int) + (1 : Int))))) : Option (Int ⊕ (Unit ⊕ Bool)))) (if okL t.2.2.1 k = true then .inl ((k + 1 : Nat) : Int) else .inr (.inr false)) := by
            intro k s hk hs'
            refine Ev.bind (label_impl (hs s (List.mem_of_getElem? hs'))) (Ev.const ?_)
            have e : ∀ (c : Bool) (x y : Int ⊕ (Unit ⊕ Bool)), some (if c = true then x else y) = some (if (!c) = true then y else x) := by intro c x y; cases c <;> rfl
            unfold okL condX
            rw [hs']
            cases k with
            | zero =>
              simp only [Option.bind_some, or_some, show decide ((1 : Int) < ((0 : Nat) : Int)) = false from rfl, Bool.false_eq_true, if_false, W_succ hk (by omega), Bool.false_and, Bool.or_false]
              rw [ite_some, e]
              rfl
            | succ j =>
              obtain ⟨p, hp⟩ := get_lt (xs := t.2.2.1) (k := j) (by omega)
              have w2 := W_pred (k := j) (n := t.2.2.1.length) (by omega) (by omega)
              simp only [hp, w2, idx_at hp, Option.bind_some, or_some, and_some, W_succ hk (by omega), Nat.add_sub_cancel, bl_le]
              rw [ite_some, e, Bool.or_assoc]
              rfl
          refine Ev.bind (EvI.all t.2.2.1.length (okL t.2.2.1) false (fun k hk hok => ?_) (fun k hk hok => ?_) (Ev.ite_f (by simp) (Ev.pure _))).ev ?_
          · obtain ⟨s, hs'⟩ := get_lt hk
            have hk' : decide ((k : Int) < (t.2.2.1.length : Int)) = true := by simpa using hk
            exact Ev.ite_t hk' (Ev.bindc (idx_at hs') ((cond k s hk hs').eq (by rw [hok]; rfl)))
          · obtain ⟨s, hs'⟩ := get_lt hk
            have hk' : decide ((k : Int) < (t.2.2.1.length : Int)) = true := by simpa using hk
            exact Ev.ite_t hk' (Ev.bindc (idx_at hs') ((cond k s hk hs').eq (by rw [hok]; rfl)))
          · by_cases h5 : ∀ k, k < t.2.2.1.length → okL t.2.2.1 k = true
            · rw [if_pos h5, decide_eq_true h5, Bool.true_and]
              have c3 : ∀ k e, k < t.2.2.2.length → t.2.2.2[k]? = some e → Ev (fun m => (if (decide ((0 : Int) < (k : Int))) = true then (idx t.2.2.2 (W ((k : Int) - (1 : Int)))).bind fun x327 => (impl_compareEdges_m m (x327.1, x327.2.1, x327.2.2) (e.1, e.2.1, e.2.2)).bind fun x342 => some (decide ((0 : Int) ≤ x342)) else some false)) (decide ((0 : Int) < (k : Int)) && (match t.2.2.2[k - 1]? with | none => false | some p => !edgeLess p e)) := by
                intro k e hk he'
                cases k with
                | zero => exact Ev.const' fun m => rfl
                | succ j =>
                  obtain ⟨p, hp⟩ := get_lt (xs := t.2.2.2) (k := j) (by omega)
                  have hpos : decide ((0 : Int) < ((j + 1 : Nat) : Int)) = true := decide_eq_true (by omega)
                  obtain ⟨r, hr1, hr2⟩ := edges_cmp p e
                  rw [W_pred (k := j) (n := t.2.2.2.length) (by omega) (by omega), Nat.add_sub_cancel, hp, hpos, Bool.true_and]
                  exact Ev.ite_t rfl (Ev.bindc (idx_at hp) (Ev.bind hr1 (Ev.const (by rw [hr2]))))
              refine (Ev.all t.2.2.2.length (fun k => !condE (W (t.1 - 1)) (W ((t.2.2.1.length : Int) - 1)) t.2.2.2 k) false true (fun k hk hok => ?_) (fun k hk hok => ?_) (Ev.ite_f (by simp) (Ev.pure _))).eq (by split <;> simp_all)
              all_goals
                obtain ⟨e, he'⟩ := get_lt hk
                have hk' : decide ((k : Int) < (t.2.2.2.length : Int)) = true := by simpa using hk
              · have hc : condE (W (t.1 - 1)) (W ((t.2.2.1.length : Int) - 1)) t.2.2.2 k = false := by rwa [Bool.not_eq_true'] at hok
                unfold condE at hc
                rw [he'] at hc
                simp only [Bool.or_eq_false_iff] at hc
                obtain ⟨⟨g1, g2⟩, g3, g4⟩ := hc
                have c := (c3 k e hk he').eq g4
                unfold inn at g3
                refine Ev.ite_t hk' (Ev.bindc (idx_at he') (Ev.bindc (a := false) ?_ (Ev.bindc (a := false) ?_ (Ev.bind (a := false) (Ev.ite_f (by simp) (Ev.bind c (Ev.pure _))) (Ev.ite_f (by simp) (Ev.const ?_))))))
                · simp only [g1, g2, Bool.false_eq_true, if_false]
                · simp only [g3, Bool.false_eq_true, if_false]
                · rw [W_succ hk (by omega)]
              · have hc : condE (W (t.1 - 1)) (W ((t.2.2.1.length : Int) - 1)) t.2.2.2 k = true := by rwa [Bool.not_eq_false'] at hok
                unfold condE at hc
                rw [he'] at hc
                have c := c3 k e hk he'
                refine Ev.ite_t hk' (Ev.bindc (idx_at he') (Ev.bindc (a := (!inn e.1 0 (W (t.1 - 1)) || !inn e.2.2 0 (W (t.1 - 1)))) (by rw [or_some]) (Ev.bindc (a := ((!inn e.1 0 (W (t.1 - 1)) || !inn e.2.2 0 (W (t.1 - 1))) || !inn e.2.1 0 (W ((t.2.2.1.length : Int) - 1)))) (by rw [or_some]; rfl) ?_)))
                refine Ev.bind (a := true) ?_ (Ev.ite_t rfl (Ev.pure _))
                cases ha : ((!inn e.1 0 (W (t.1 - 1)) || !inn e.2.2 0 (W (t.1 - 1))) || !inn e.2.1 0 (W ((t.2.2.1.length : Int) - 1)))
                · refine Ev.ite_f (by simp) (Ev.bind c (Ev.const ?_))
                  have hc' : ((!inn e.1 0 (W (t.1 - 1)) || !inn e.2.2 0 (W (t.1 - 1))) || (!inn e.2.1 0 (W ((t.2.2.1.length : Int) - 1)) || (decide ((0 : Int) < (k : Int)) && (match t.2.2.2[k - 1]? with | none => false | some p => !edgeLess p e)))) = true := hc
                  rw [← Bool.or_assoc, ha, Bool.false_or] at hc'
                  rw [hc']
                · exact Ev.ite_t rfl (Ev.pure _)
            · rw [if_neg h5, decide_eq_false h5, Bool.false_and]
              exact Ev.const' fun m => rfl
      · have e3 : (decide ((1 : Int) ≤ (t.2.2.1.length : Int)) && decide ((t.2.2.1.length : Int) ≤ 12)) = false := by
          apply Bool.eq_false_iff.2
          intro h
          rw [Bool.and_eq_true] at h
          exact h3 ⟨by have := of_decide_eq_true h.1; omega, by have := of_decide_eq_true h.2; omega⟩
        have hlab : labsP t.2.2.1 = false := by
          unfold labsP
          apply Bool.eq_false_iff.2
          intro h
          rw [Bool.and_eq_true, Bool.and_eq_true] at h
          exact h3 ⟨of_decide_eq_true h.1.1, of_decide_eq_true h.1.2⟩
        rw [hlab, Bool.false_and]
        exact Ev.const' fun m => by simp only [e3, Bool.not_false, if_true, Option.bind_some]
theorem rep_loopB {c : Bool} {k : Nat} (hk : k ≤ 1048576) : ∀ d n, n + d = k → (n = 0 → k = 0) → EvI (β := List Bool ⊕ List Bool) (fun _ (s : (List Bool) × (Int)) => (match s with | (xs57, x58) => (if (decide (x58 < (xs57.length : Int))) = true then (sub xs57 x58 (xs57.length : Int)).bind fun xs81 => (sub xs57 (0 : Int) x58).bind fun xs83 => some (.inl ((cpy xs57 (x58).toNat xs81.length xs83), (W (x58 + (((min xs83.length xs81.length : Nat) : Nat) : Int))))) else some (.inr (.inl (xs57)))) : Option (((List Bool) × (Int)) ⊕ (((List Bool)) ⊕ ((List Bool)))))) (List.replicate n c ++ List.replicate (k - n) false, (n : Int)) (.inl (List.replicate k c)) := by
  intro d
  induction d using Nat.strongRecOn with
  | _ d ih =>
    intro n hn h0
    have hl : (List.replicate n c ++ List.replicate (k - n) false).length = k := by simp; omega
    by_cases hd : n = k
    · subst hd
      exact EvI.stop (Ev.const (by simp))
    · have hs1 : sub (List.replicate n c ++ List.replicate (k - n) false) (n : Int) (k : Int) = some (List.replicate (k - n) false) := by
        rw [sub_ok (by omega) (by omega)]
        rw [List.take_of_length_le (by omega), List.drop_left' (by simp)]
      have hs2 : sub (List.replicate n c ++ List.replicate (k - n) false) (0 : Int) (n : Int) = some (List.replicate n c) := by
        have := sub_ok (xs := List.replicate n c ++ List.replicate (k - n) false) (lo := 0) (hi := n) (by omega) (by omega)
        simp only [Int.natCast_zero] at this
        rw [this, List.take_left' (by simp)]; rfl
      have hcp : cpy (List.replicate n c ++ List.replicate (k - n) false) n (k - n) (List.replicate n c) = List.replicate (n + min n (k - n)) c ++ List.replicate (k - (n + min n (k - n))) false := by
        unfold cpy
        rw [List.take_left' (by simp), List.length_replicate, List.take_replicate, ← List.drop_drop, List.drop_left' (by simp), List.drop_replicate, ← List.append_assoc, List.replicate_append_replicate]
        congr 2 <;> omega
      refine EvI.go (s' := (List.replicate (n + min n (k - n)) c ++ List.replicate (k - (n + min n (k - n))) false, ((n + min n (k - n) : Nat) : Int))) (Ev.const ?_) (ih (k - (n + min n (k - n))) (by omega) (n + min n (k - n)) (by omega) (by omega))
      simp only [hl, decide_eq_true (show (n : Int) < (k : Int) by omega), if_true, hs1, hs2, Option.bind_some, List.length_replicate, Int.toNat_natCast, hcp]
      rw [W_of (by omega) (by omega)]; simp

theorem repeat_bools {c : Bool} {k : Nat} (hk : k ≤ 1048576) : Ev (fun m => slices_Repeat__bool_bool_m m [c] (k : Int)) (List.replicate k c) := by
  unfold slices_Repeat__bool_bool_m
  have hw : IntKind.u64.wrap ((([c] : List Bool).length : Nat) : Int) = 1 := by
    have h1 : ((([c] : List Bool).length : Nat) : Int) = 1 := rfl
    rw [h1]
    exact u64_of (by omega) (by omega)
  have hw2 : IntKind.u64.wrap (k : Int) = (k : Int) := u64_of (by omega) (by omega)
  refine Ev.join ?_
  refine Ev.ite_f (by simp) ?_
  refine Ev.bind (a := (0, (k : Int))) (Ev.const' fun m => ?_) ?_
  · rw [hw, hw2, mul_small (by omega) (by omega) (by omega) (by omega) (by omega), Int.one_mul]
  refine Ev.join ?_
  refine Ev.bind (a := false) (Ev.ite_f (by simp) (Ev.const (by simp; omega))) ?_
  refine Ev.ite_f (by simp) ?_
  have hwk : W (k : Int) = (k : Int) := W_of (by omega) (by omega)
  show Ev (fun m => (mks (W (k : Int)) false).bind _) _
  rw [hwk]
  refine Ev.bindc (mks_ok (by omega)) ?_
  have hc0 : cpy (List.replicate k false) ((0 : Int)).toNat k [c] = List.replicate (min 1 k) c ++ List.replicate (k - min 1 k) false := by
    unfold cpy
    cases k with
    | zero => rfl
    | succ k => simp [List.replicate_succ]
  simp only [List.length_replicate, hc0, List.length_singleton]
  refine Ev.bind (a := Sum.inl (List.replicate k c)) ?_ (Ev.pure _)
  refine EvI.ev ?_
  exact rep_loopB hk (k - min 1 k) (min 1 k) (by omega) (by omega)

theorem true_impl {l : List Bool} (hl : l.length ≤ 1048576) : Ev (fun m => impl_trueAt_m m l) (trues l) := by
  unfold impl_trueAt_m
  refine Ev.bind (EvI.places l.length (fun k => l[k]? == some true) (fun k xs hk hl => ?_) (fun xs => Ev.ite_f (by simp) (Ev.pure _))).ev (Ev.pure _)
  obtain ⟨x, hx⟩ := get_lt hk
  refine Ev.ite_t (decide_eq_true (by omega)) (Ev.join (Ev.bindc (idx_at hx) ?_))
  rw [hx]
  cases x
  · exact Ev.ite_f (by simp) (Ev.const (by rw [W_succ hk (by omega)]; simp))
  · exact Ev.ite_t rfl (Ev.bindc (app_ok (by simp; omega)) (Ev.const (by rw [W_succ hk (by omega)]; simp)))
theorem EvI.first {β : Type} {step : Nat → Int → Option (Int ⊕ β)} {b : β} (i : Nat) (hs : ∀ j, j < i → Ev (fun m => step m (j : Int)) (.inl ((j + 1 : Nat) : Int))) (hi : Ev (fun m => step m (i : Int)) (.inr b)) : EvI step (0 : Int) b :=
  EvI.upto i (fun k (_ : Unit) => (k : Int)) (fun _ _ => True) (k := 0) (t := ()) rfl (Nat.zero_le _) trivial (fun k _t hk _ => ⟨(), hs k hk, trivial⟩) (fun _ _ => hi)

/-! ### labels -/
theorem bl_trans : ∀ a b c : Str, Op.bytesLess a b = true → Op.bytesLess b c = true → Op.bytesLess a c = true
  | _, [], _, h, _ => by simp [Op.bytesLess] at h
  | _, _ :: _, [], _, h => by simp [Op.bytesLess] at h
  | [], _ :: _, _ :: _, _, _ => by simp [Op.bytesLess]
  | x :: a, y :: b, z :: c, h1, h2 => by
    simp only [Op.bytesLess, Bool.or_eq_true, Bool.and_eq_true, decide_eq_true_eq, beq_iff_eq] at h1 h2 ⊢
    rcases h1 with h1 | ⟨rfl, h1⟩
    · rcases h2 with h2 | ⟨rfl, h2⟩
      · left; rw [UInt8.lt_iff_toNat_lt] at h1 h2 ⊢; omega
      · exact .inl h1
    · rcases h2 with h2 | ⟨rfl, h2⟩
      · exact .inl h2
      · exact .inr ⟨rfl, bl_trans a b c h1 h2⟩

theorem VL.at_ {t : Timpl_Lts} {n : Nat} (V : VL t n) {k : Nat} {s : Str} (h : t.2.2.1[k]? = some s) : labelP s = true ∧ (s = tau' ↔ k = 0) ∧ ∀ (j : Nat) (p : Str), k = j + 1 → 0 < j → t.2.2.1[j]? = some p → Op.bytesLess p s = true := by
  have hk := (List.getElem?_eq_some_iff.1 h).1
  have h1 := V.lab k hk
  unfold okL condX at h1
  rw [h] at h1
  simp only [Bool.not_eq_true', Bool.or_eq_false_iff, Bool.not_eq_false'] at h1
  obtain ⟨a, b, c⟩ := h1
  refine ⟨a, ?_, fun j p hj h0 hp => ?_⟩
  · have b' : (s == tau') = ((k : Int) == 0) := by simpa using b
    constructor
    · intro e
      rw [e, beq_self_eq_true] at b'
      have := beq_iff_eq.1 b'.symm
      omega
    · intro e
      subst e
      exact beq_iff_eq.1 (b'.trans rfl)
  · subst hj
    rw [decide_eq_true (by omega), Bool.true_and, Nat.add_sub_cancel, hp] at c
    simpa using c
theorem VL.lt {t : Timpl_Lts} {n : Nat} (V : VL t n) : ∀ (d i : Nat) (s r : Str), 1 ≤ i → t.2.2.1[i]? = some s → t.2.2.1[i + d + 1]? = some r → Op.bytesLess s r = true
  | 0, i, s, r, h1, hs, hr => (V.at_ hr).2.2 i s rfl (by omega) hs
  | d + 1, i, s, r, h1, hs, hr => by
    have hl := (List.getElem?_eq_some_iff.1 hr).1
    obtain ⟨q, hq⟩ := get_lt (xs := t.2.2.1) (k := i + d + 1) (by omega)
    exact bl_trans _ _ _ (V.lt d i s q h1 hs hq) ((V.at_ hr).2.2 (i + d + 1) q rfl (by omega) hq)
theorem VL.one {t : Timpl_Lts} {n : Nat} (V : VL t n) {i j : Nat} {s : Str} (hi : t.2.2.1[i]? = some s) (hj : t.2.2.1[j]? = some s) : i = j := by
  have key : ∀ i j : Nat, i < j → t.2.2.1[i]? = some s → t.2.2.1[j]? = some s → False := by
    intro i j hij hi hj
    by_cases h0 : i = 0
    · have := ((V.at_ hj).2.1).1 (((V.at_ hi).2.1).2 h0)
      omega
    · obtain ⟨d, rfl⟩ : ∃ d, j = i + d + 1 := ⟨j - i - 1, by omega⟩
      have := V.lt d i s s (by omega) hi hj
      rw [bl_irr] at this
      cases this
  by_cases a : i < j
  · exact (key i j a hi hj).elim
  · by_cases b : j < i
    · exact (key j i b hj hi).elim
    · omega

/-- An edge's label. -/
def labT (t : Timpl_Lts) (e : Timpl_Edge) : Str := (idx t.2.2.1 e.2.1).getD []
theorem labT_at {t : Timpl_Lts} {n : Nat} (V : VL t n) {e : Timpl_Edge} (he : e ∈ t.2.2.2) : idx t.2.2.1 e.2.1 = some (labT t e) := by
  have hl := V.lbl e he
  obtain ⟨s, hs⟩ := get_lt (xs := t.2.2.1) (k := e.2.1.toNat) (by omega)
  have hs' := idx_at hs
  rw [show ((e.2.1.toNat : Nat) : Int) = e.2.1 by omega] at hs'
  unfold labT
  rw [hs']; rfl
structure STO {α : Type} (lt : α → α → Bool) : Prop where
  irr : ∀ a, lt a a = false
  tr : ∀ a b c, lt a b = true → lt b c = true → lt a c = true
  tri : ∀ a b, lt a b = false → lt b a = false → a = b
section
variable {α : Type} {lt : α → α → Bool}
theorem STO.asym (h : STO lt) {a b : α} (hab : lt a b = true) : lt b a = false := by
  cases h2 : lt b a
  · rfl
  · have := h.tr _ _ _ hab h2
    rw [h.irr] at this
    cases this
theorem STO.ntr (h : STO lt) {a b c : α} (h1 : lt a b = false) (h2 : lt b c = false) : lt a c = false := by
  cases h3 : lt a c
  · rfl
  · cases h4 : lt b a
    · have := h.tri a b h1 h4
      subst this
      rw [h2] at h3; cases h3
    · have := h.tr _ _ _ h4 h3
      rw [h2] at this; cases this
theorem STO.ext (h : STO lt) : ∀ {l l' : List α}, (l.Pairwise fun a b => lt a b = true) → (l'.Pairwise fun a b => lt a b = true) → (∀ v, v ∈ l ↔ v ∈ l') → l = l'
  | [], [], _, _, _ => rfl
  | [], y :: l', _, _, e => by have := (e y).2 (by simp); cases this
  | x :: l, [], _, _, e => by have := (e x).1 (by simp); cases this
  | x :: l, y :: l', h1, h2, e => by
    have p1 := List.pairwise_cons.1 h1
    have p2 := List.pairwise_cons.1 h2
    have hxy : x = y := by
      rcases List.mem_cons.1 ((e x).1 (by simp)) with q | hx
      · exact q
      rcases List.mem_cons.1 ((e y).2 (by simp)) with q | hy
      · exact q.symm
      have a1 := p2.1 x hx
      have a2 := h.asym (p1.1 y hy)
      rw [a1] at a2
      cases a2
    subst hxy
    rw [h.ext p1.2 p2.2 fun v => ?_]
    constructor
    · intro hv
      rcases List.mem_cons.1 ((e v).1 (by simp [hv])) with q | hv'
      · have := p1.1 v hv
        rw [q, h.irr] at this; cases this
      · exact hv'
    · intro hv
      rcases List.mem_cons.1 ((e v).2 (by simp [hv])) with q | hv'
      · have := p2.1 v hv
        rw [q, h.irr] at this; cases this
      · exact hv'

/-- What a sort asks of a comparison that agrees with the order. -/
theorem STO.ok [DecidableEq α] (h : STO lt) {f : α → α → Option Int} {c : α → α → Int} (hf : ∀ x y, f x y = some (c x y)) (hc : ∀ x y, decide (c x y < 0) = lt x y) {xs : List α} (hl : xs.length < 4611686018427387904) : SortOk f xs := by
  have hlt : ∀ x y, ltF f x y = lt x y := fun x y => by
    unfold ltF
    rw [← hc]
    congr 2
    rw [hf]
    rfl
  refine ⟨hl, fun x _ y _ => ⟨_, hf x y⟩, fun x _ => by rw [hlt]; exact h.irr x, fun x _ y _ z _ h1 h2 => ?_, fun x _ y _ z _ h1 h2 => ?_, fun x _ y _ h1 h2 => ?_⟩
  · rw [hlt] at *; exact h.tr _ _ _ h1 h2
  · rw [hlt] at *; exact h.ntr h1 h2
  · rw [hlt] at *; exact h.tri _ _ h1 h2
end
/-- The values of a label. -/
def valP (s : Str) : List Int := if (40 : UInt8) ∈ s then (splitC 44 (suf 40 s).dropLast).map numV else []
theorem lab_parts {s : Str} (h : labelP s = true) (hc : (40 : UInt8) ∈ s) : actP (pre 40 s) = true ∧ (suf 40 s).getLast? = some 41 ∧ (splitC 44 (suf 40 s).dropLast).all numB = true ∧ (valP s).all val63 = true ∧ (valP s).length ≤ 2 ∧ 1 ≤ (valP s).length ∧ dots (valP s) = (suf 40 s).dropLast ∧ s = pre 40 s ++ [40] ++ (suf 40 s).dropLast ++ [41] := by
  unfold labelP at h
  rw [if_pos hc] at h
  simp only [Bool.and_eq_true, decide_eq_true_eq] at h
  obtain ⟨⟨⟨h1, h2⟩, h3⟩, h4⟩ := h
  have h6 := (last_eq hc).1 h2
  have hv : valP s = (splitC 44 (suf 40 s).dropLast).map numV := by unfold valP; rw [if_pos hc]
  unfold valsOk at h3
  rw [List.all_eq_true] at h3
  have hn : (splitC 44 (suf 40 s).dropLast).all numB = true := List.all_eq_true.2 fun w hw => by
    have := h3 w hw
    rw [Bool.and_eq_true] at this
    exact this.1
  refine ⟨h1, h6, hn, ?_, by rw [hv, List.length_map]; exact h4, ?_, ?_, ?_⟩
  · rw [hv, List.all_map, List.all_eq_true]
    intro w hw
    have := h3 w hw
    rw [Bool.and_eq_true] at this
    exact this.2
  · rw [hv, List.length_map]
    exact List.length_pos_iff.2 (splitC_ne 44 _)
  · rw [hv]
    unfold dots
    rw [nums_join hn, join_splitC]
  · conv => lhs; rw [pre_suf hc]
    rcases snoc_or (suf 40 s) with e | ⟨q, x, e⟩
    · rw [e] at h6; cases h6
    · rw [e] at h6 ⊢
      have : x = 41 := by simpa using h6
      rw [this]
      simp
theorem read_ok {s : Str} (hl : s.length ≤ 1048576) (h : labelP s = true) : Ev (fun m => impl_readLabel_m m s) (pre 40 s, valP s, true) := by
  have hm := mx
  unfold impl_readLabel_m
  by_cases hc : (40 : UInt8) ∈ s
  · obtain ⟨h1, h6, hn, hv, hv2, hv1, hd, hs⟩ := lab_parts h hc
    have hp := pre_len 40 s
    have hsf : (suf 40 s).length ≤ s.length := by unfold suf; simp
    have hcut : ∀ m, strings_Cut_m m s [40] = some (pre 40 s, suf 40 s, true) := fun m => by rw [cut_lib (by omega), if_pos hc]
    have htl : (suf 40 s).dropLast.length ≤ s.length := by simp; omega
    have htr : ∀ m, strings_TrimSuffix_m m (suf 40 s) [41] = some (suf 40 s).dropLast := fun m => by rw [trimS_lib (by omega), if_pos h6]
    have hsp : ∀ m, strings_Split_m m (suf 40 s).dropLast [44] = some (splitC 44 (suf 40 s).dropLast) := fun m => split_lib (by omega)
    have hln := splitC_len 44 (suf 40 s).dropLast
    have hrn := read_nums (ws := splitC 44 (suf 40 s).dropLast) (by omega) (fun w hw => by have := splitC_mem 44 _ w hw; omega)
    rw [if_pos hn] at hrn
    have hvp : valP s = (splitC 44 (suf 40 s).dropLast).map numV := by unfold valP; rw [if_pos hc]
    rw [← hvp] at hrn
    have hlo := label_of (n := pre 40 s) (by omega) (vs := valP s) (by omega)
    have hlab : labOf (pre 40 s) (valP s) = (s, true) := by
      unfold labOf
      have hnt : pre 40 s ≠ [116, 97, 117] := by
        intro e
        rw [e, act_tau] at h1
        cases h1
      rw [if_neg hnt, if_pos ⟨h1, hv2, hv⟩, if_neg (by omega), hd, ← hs]
    rw [hlab] at hlo
    refine Ev.bind (Ev.const' hcut) (Ev.join (Ev.ite_t rfl (Ev.bind (Ev.const' htr) (Ev.bind (Ev.const' hsp) (Ev.bind hrn (Ev.ite_f (by simp) (Ev.bind hlo (Ev.const' fun m => ?_))))))))
    simp
  · have hcut : ∀ m, strings_Cut_m m s [40] = some (s, [], false) := fun m => by rw [cut_lib (by omega), if_neg hc]
    have hlo := label_of (n := s) (by omega) (vs := []) (by simp)
    have hlab : labOf s [] = (s, true) := by
      unfold labOf
      by_cases h1 : s = [116, 97, 117]
      · rw [if_pos h1, h1]; rfl
      · rw [if_neg h1]
        unfold labelP at h
        rw [if_neg hc] at h
        have e : actP s = true := by
          unfold actP
          rw [h, bne_iff_ne.2 h1]
          rfl
        rw [if_pos ⟨e, by simp, rfl⟩, if_pos (show ([] : List Int).length = 0 from rfl)]
    rw [hlab] at hlo
    have hv : valP s = [] := by unfold valP; rw [if_neg hc]
    rw [hv, pre_all hc]
    refine Ev.bind (Ev.const' hcut) (Ev.join (Ev.ite_f (by simp) (Ev.bind hlo (Ev.const' fun m => ?_))))
    simp
/-! ### what a modality selects -/
theorem lab_last {s : Str} (h : labelP s = true) : s.getLast? ≠ some 42 := by
  unfold labelP at h
  split at h
  · simp only [Bool.and_eq_true, decide_eq_true_eq] at h
    rw [h.1.1.2]
    intro e
    cases e
  · intro e
    unfold nameP at h
    simp only [Bool.and_eq_true, decide_eq_true_eq] at h
    obtain ⟨⟨h1, h2⟩, h3⟩ := h
    have h4 := h3 (s.length - 1) (by omega)
    rw [List.getLast?_eq_getElem?] at e
    unfold okN at h4
    rw [e] at h4
    revert h4
    unfold small dg
    simp
def selP (x : Timpl_Node) (s : Str) : Bool :=
  if x.2.2.1 = [] then !x.2.2.2 else if x.2.2.1.getLast? = some 42 then ((pre 40 s == x.2.2.1.dropLast) != x.2.2.2) else ((x.2.2.1 == s) != x.2.2.2)
theorem sel_spec {x : Timpl_Node} {s : Str} (hs : s.length ≤ 1048576) (hx : x.2.2.1.length ≤ 1048576) : Ev (fun m => spec_l14Selects_m m x.2.2.1 x.2.2.2 s) (selP x s) := by
  unfold spec_l14Selects_m selP
  by_cases h : x.2.2.1 = []
  · rw [if_pos h]
    exact Ev.ite_t (by rw [h]; rfl) (Ev.pure _)
  rw [if_neg h]
  obtain ⟨t, b, e⟩ := snocStr x.2.2.1 h
  rw [e] at hx ⊢
  have hlen : (t ++ [b]).length = t.length + 1 := by simp
  have hw : W (((t ++ [b]).length : Int) - 1) = (t.length : Int) := by
    rw [hlen, W_of (by omega) (by omega)]
    omega
  have hs1 : (t ++ [b])[t.length]? = some b := by simp
  have hs2 : sub (t ++ [b]) ((0 : Nat) : Int) (t.length : Int) = some t := by
    rw [sub_ok (by omega) (by simp), List.drop_zero, List.take_left]
  rw [hw]
  refine Ev.ite_f (by simp; omega) (Ev.bindc (idx_at hs1) ?_)
  have hgl : (t ++ [b]).getLast? = some b := by simp
  have hdl : (t ++ [b]).dropLast = t := by simp
  rw [hgl, hdl]
  by_cases hb : b = 42
  · subst hb
    rw [if_pos rfl]
    refine Ev.ite_t rfl (Ev.bind (a := pre 40 s) ?_ (Ev.bindc hs2 (Ev.pure _)))
    unfold spec_l01LabelName_m
    have hp := pre_len 40 s
    refine Ev.bind (open_spec hs) (Ev.bindc (a := pre 40 s) ?_ (Ev.pure _))
    have := sub_ok (xs := s) (lo := 0) (hi := (pre 40 s).length) (by omega) hp
    rw [List.drop_zero, pre_take] at this
    exact this
  · rw [if_neg (by simpa using hb)]
    refine Ev.ite_f ?_ (Ev.pure _)
    intro g
    have := beq_iff_eq.1 g
    exact hb (UInt8.toNat_inj.1 (show b.toNat = (42 : UInt8).toNat by have h42 : (42 : UInt8).toNat = 42 := rfl; omega))
theorem cut_star {t : Str} {b : UInt8} (hl : (t ++ [b]).length ≤ 1048576) : Ev (fun m => strings_CutSuffix_m m (t ++ [b]) [42]) (if b = 42 then (t, true) else (t ++ [b], false)) := by
  unfold strings_CutSuffix_m internal_stringslite_CutSuffix_m internal_stringslite_HasSuffix_m
  have hlen : (t ++ [b]).length = t.length + 1 := by simp
  have hw : W (((t ++ [b]).length : Int) - (([42] : Str).length : Int)) = (t.length : Int) := by
    show W (((t ++ [b]).length : Int) - ((1 : Nat) : Int)) = _
    rw [hlen, W_of (by omega) (by omega)]
    omega
  have hs1 : sub (t ++ [b]) (t.length : Int) ((t ++ [b]).length : Int) = some [b] := by
    rw [sub_ok (by simp) (Nat.le_refl _), List.take_length, List.drop_left]
  have hs2 : sub (t ++ [b]) ((0 : Nat) : Int) (t.length : Int) = some t := by
    rw [sub_ok (by omega) (by simp), List.drop_zero, List.take_left]
  refine Ev.bind (a := (if b = 42 then (t, true) else (t ++ [b], false))) (Ev.bind (a := (b == 42)) (Ev.bind (a := (b == 42)) (Ev.ite_t (decide_eq_true (by simp; omega)) (Ev.bindc (by rw [hw]; exact hs1) (Ev.const (by simp)))) (Ev.pure _)) ?_) (Ev.const (by split <;> rfl))
  by_cases hb : b = 42
  · rw [if_pos hb]
    exact Ev.ite_f (by simp [hb]) (Ev.bindc (by rw [hw]; exact hs2) (Ev.pure _))
  · rw [if_neg hb]
    exact Ev.ite_t (by simp [hb]) (Ev.pure _)
theorem sel_impl {x : Timpl_Node} {s : Str} (hs : s.length ≤ 1048576) (hl : labelP s = true) (hx : x.2.2.1.length ≤ 1048576) : Ev (fun m => impl_Node_selects_m m x s) (selP x s) := by
  unfold impl_Node_selects_m selP
  by_cases h : x.2.2.1 = []
  · rw [if_pos h, h]
    refine Ev.bind (a := (([] : Str), false)) (Ev.const' fun m => rfl) (Ev.bind (a := true) (Ev.const rfl) (Ev.bind (a := true) (Ev.const rfl) (Ev.const ?_)))
    cases x.2.2.2 <;> rfl
  rw [if_neg h]
  obtain ⟨t, b, e⟩ := snocStr x.2.2.1 h
  rw [e] at hx ⊢
  have hgl : (t ++ [b]).getLast? = some b := by simp
  have hdl : (t ++ [b]).dropLast = t := by simp
  rw [hgl, hdl]
  refine Ev.bind (cut_star hx) (Ev.bind (a := ((t ++ [b]) == s)) (Ev.ite_f (by simp) (Ev.pure _)) ?_)
  by_cases hb : b = 42
  · have hne : ((t ++ [b]) == s) = false := by
      refine beq_false_of_ne fun q => ?_
      subst hb
      exact lab_last hl (by rw [← q]; simp)
    rw [if_pos hb, if_pos (by rw [hb]), hne]
    refine Ev.bind (a := (pre 40 s == t)) (Ev.ite_f (by simp) (Ev.bind (a := (pre 40 s == t)) (Ev.ite_t rfl (Ev.bind (a := pre 40 s) ?_ (Ev.pure _))) (Ev.pure _))) (Ev.pure _)
    unfold impl_LabelName_m
    exact Ev.bind (read_ok hs hl) (Ev.pure _)
  · rw [if_neg hb, if_neg (by simpa using hb)]
    refine Ev.bind (a := ((t ++ [b]) == s)) ?_ (Ev.pure _)
    cases ((t ++ [b]) == s)
    · exact Ev.ite_f (by simp) (Ev.bind (a := false) (Ev.const rfl) (Ev.pure _))
    · exact Ev.ite_t rfl (Ev.pure _)

/-! ### where a modality holds -/
def kindM (x : Timpl_Node) : Bool := decide (0 ≤ x.1) && decide (x.1 ≤ 5)
theorem kind_of {x : Timpl_Node} (h : kindM x = true) : x.1 = 0 ∨ x.1 = 1 ∨ x.1 = 2 ∨ x.1 = 3 ∨ x.1 = 4 ∨ x.1 = 5 := by
  unfold kindM at h
  simp only [Bool.and_eq_true, decide_eq_true_eq] at h
  omega
def msF (x : Timpl_Node) (t : Timpl_Lts) (g : Int → Bool) (f : Int → Bool) (e : Timpl_Edge) : Int → Bool := if (selP x (labT t e) && (g e.2.2 == (x.1 == 4))) = true then upd f e.1 (x.1 == 4) else f
def mst (x : Timpl_Node) (t : Timpl_Lts) (g : Int → Bool) (es : List Timpl_Edge) : Int → Bool := es.foldl (msF x t g) (fun _ => x.1 == 5)
theorem mst_take {x : Timpl_Node} {t : Timpl_Lts} {g : Int → Bool} {es : List Timpl_Edge} {k : Nat} {e : Timpl_Edge} (h : es[k]? = some e) : mst x t g (es.take (k + 1)) = msF x t g (mst x t g (es.take k)) e := by
  unfold mst
  rw [List.take_add_one, h, List.foldl_append]
  rfl
section
variable {t : Timpl_Lts} {n : Nat} (V : VL t n) (hl : ∀ s ∈ t.2.2.1, s.length ≤ 1048576)
include V hl
theorem lab_at {e : Timpl_Edge} (he : e ∈ t.2.2.2) : labelP (labT t e) = true ∧ (labT t e).length ≤ 1048576 := by
  have hm : labT t e ∈ t.2.2.1 := List.mem_of_getElem? (idx_some (labT_at V he)).2
  obtain ⟨k, hk⟩ := List.mem_iff_getElem?.1 hm
  exact ⟨(V.at_ hk).1, hl _ hm⟩
theorem step_spec {x : Timpl_Node} (hx : x.1 = 4 ∨ x.1 = 5) (hp : x.2.2.1.length ≤ 1048576) (g : Int → Bool) : Ev (fun m => spec_l14Step_m m x t (tab n g)) (tab n (mst x t g t.2.2.2)) := by
  have htop := V.top
  have hfew := V.few
  unfold spec_l14Step_m
  simp only [V.st]
  refine Ev.bindc (mks_ok (n := n) (by omega)) (Ev.bind (a := Sum.inl (tab n fun _ => x.1 == 5)) ?_ ?_)
  · rw [tab_const]
    refine (EvI.fill n _ _ (fun k f hk => ?_) (fun xs => Ev.ite_f (by simp) (Ev.pure _))).ev
    refine Ev.ite_t (decide_eq_true (by omega)) (Ev.bindc (tab_at (by omega) (by omega)) (Ev.const ?_))
    rw [tab_set (by omega), W_succ hk (by omega)]
  · simp only [ctl_l]
    refine Ev.bind (a := Sum.inl (tab n (mst x t g t.2.2.2))) (EvI.upto t.2.2.2.length (fun k (_ : Unit) => (tab n (mst x t g (t.2.2.2.take k)), (k : Int))) (fun _ _ => True) (k := 0) (t := ()) rfl (Nat.zero_le _) trivial (fun k _ hk _ => ⟨(), ?_, trivial⟩) (fun _ _ => Ev.ite_f (by simp) (Ev.eq (Ev.pure _) (by rw [List.take_length])))).ev (Ev.pure _)
    obtain ⟨e, he⟩ := get_lt hk
    have hem := List.mem_of_getElem? he
    obtain ⟨hlab, hlen⟩ := lab_at V hl hem
    have hsrc := V.src e hem
    have hdst := V.dst e hem
    rw [mst_take he]
    unfold msF
    refine Ev.ite_t (decide_eq_true (by omega)) (Ev.join (Ev.bindc (idx_at he) (Ev.bindc (labT_at V hem) (Ev.bind (sel_spec hlen hp) ?_))))
    cases hsel : selP x (labT t e)
    · refine Ev.ite_t rfl (Ev.const ?_)
      rw [W_succ hk (by omega)]
      rfl
    · refine Ev.ite_f (by simp) (Ev.join ?_)
      rcases hx with hx | hx
      · rw [hx]
        refine Ev.bind (a := g e.2.2) (Ev.ite_t rfl (Ev.bindc (tab_at hdst.1 hdst.2) (Ev.pure _))) ?_
        cases hg : g e.2.2
        · refine Ev.ite_f (by simp) (Ev.bind (a := false) (Ev.const rfl) (Ev.ite_f (by simp) (Ev.const ?_)))
          rw [W_succ hk (by omega)]
          rfl
        · refine Ev.ite_t rfl (Ev.bindc (tab_at hsrc.1 hsrc.2) (Ev.bind (a := false) (Ev.const rfl) (Ev.ite_f (by simp) (Ev.const ?_))))
          rw [W_succ hk (by omega), tab_set hsrc.1]
          rfl
      · rw [hx]
        refine Ev.bind (a := false) (Ev.const rfl) (Ev.ite_f (by simp) (Ev.bind (a := !(g e.2.2)) (Ev.ite_t rfl (Ev.bindc (tab_at hdst.1 hdst.2) (Ev.pure _))) ?_))
        cases hg : g e.2.2
        · refine Ev.ite_t rfl (Ev.bindc (tab_at hsrc.1 hsrc.2) (Ev.const ?_))
          rw [W_succ hk (by omega), tab_set hsrc.1]
          rfl
        · refine Ev.ite_f (by simp) (Ev.const ?_)
          rw [W_succ hk (by omega)]
          rfl
theorem step_impl {x : Timpl_Node} (hp : x.2.2.1.length ≤ 1048576) (g : Int → Bool) : Ev (fun m => impl_Lts_modality_m m t x (tab n g)) (tab n (mst x t g t.2.2.2)) := by
  have htop := V.top
  have hfew := V.few
  unfold impl_Lts_modality_m
  simp only [V.st]
  refine Ev.bind (repeat_bools (by omega)) ?_
  rw [tab_const]
  refine Ev.bind (a := Sum.inl (tab n (mst x t g t.2.2.2))) (EvI.upto t.2.2.2.length (fun k (_ : Unit) => (tab n (mst x t g (t.2.2.2.take k)), (k : Int))) (fun _ _ => True) (k := 0) (t := ()) rfl (Nat.zero_le _) trivial (fun k _ hk _ => ⟨(), ?_, trivial⟩) (fun _ _ => Ev.ite_f (by simp) (Ev.eq (Ev.pure _) (by rw [List.take_length])))).ev (Ev.pure _)
  obtain ⟨e, he⟩ := get_lt hk
  have hem := List.mem_of_getElem? he
  obtain ⟨hlab, hlen⟩ := lab_at V hl hem
  have hsrc := V.src e hem
  have hdst := V.dst e hem
  rw [mst_take he]
  unfold msF
  refine Ev.ite_t (decide_eq_true (by omega)) (Ev.join (Ev.bindc (idx_at he) (Ev.bindc (labT_at V hem) (Ev.bind (sel_impl hlen hlab hp) ?_))))
  cases hsel : selP x (labT t e)
  · refine Ev.bind (a := false) (Ev.const rfl) (Ev.ite_f (by simp) (Ev.const ?_))
    rw [W_succ hk (by omega)]
    rfl
  · refine Ev.bind (a := (g e.2.2 == (x.1 == 4))) (Ev.ite_t rfl (Ev.bindc (tab_at hdst.1 hdst.2) (Ev.pure _))) ?_
    cases hg : (g e.2.2 == (x.1 == 4))
    · refine Ev.ite_f (by simp) (Ev.const ?_)
      rw [W_succ hk (by omega)]
      rfl
    · refine Ev.ite_t rfl (Ev.bindc (tab_at hsrc.1 hsrc.2) (Ev.const ?_))
      rw [W_succ hk (by omega), tab_set hsrc.1]
      rfl
end
theorem kind_le {x : Timpl_Node} (h : kindM x = true) : kindP x = true := by
  unfold kindM at h
  unfold kindP
  simp only [Bool.and_eq_true, decide_eq_true_eq] at h ⊢
  omega
def lenM (a : List Timpl_Node) : Bool := decide (1 ≤ a.length ∧ a.length ≤ 200)
theorem shapeM_impl {a : List Timpl_Node} (ha : a.length ≤ 200) : Ev (fun m => impl_shapeOk_m m a) (shp a 1) := by
  unfold impl_shapeOk_m
  refine Exists.elim (shape_loop (step := _) (fun _ => true) a (fun i n x hx hn _ => ?_) (fun i n x hx h => ?_) (fun n => ?_) a 0 1 rfl (by omega) (by omega)) (fun r hr => Ev.bind hr.1.ev (Ev.const (by
    have e2 := hr.2
    cases r with
    | inl z => exact congrArg some e2
    | inr b => exact congrArg some e2)))
  · have hj : i < a.length := (List.getElem?_eq_some_iff.1 hx).1
    have ho := opN_le x
    refine Ev.ite_t (decide_eq_true (by omega)) (Ev.bindc (idx_at hx) (Ev.ite_f (by simp; omega) (Ev.bind (Ev.const' fun m => op_impl) (Ev.const ?_))))
    rw [W_of (n := (i : Int) + 1) (by omega) (by omega), W_of (n := (opN x : Int) - 1) (by omega) (by omega), W_of (by omega) (by omega)]
    congr 4
    omega
  · have hj : i < a.length := (List.getElem?_eq_some_iff.1 hx).1
    rcases h with h | h
    · subst h
      exact Ev.ite_t (decide_eq_true (by omega)) (Ev.bindc (idx_at hx) (Ev.ite_t (by simp) (Ev.pure _)))
    · cases h
  · exact Ev.ite_f (by simp) (Ev.pure _)
theorem shapeM_spec {a : List Timpl_Node} (hp : ∀ x ∈ a, x.2.2.1.length ≤ 1048576) : Ev (fun m => spec_l14Shape_m m a 200 5) (lenM a && shq (fun x => kindM x && fieldP x) a 1) := by
  unfold spec_l14Shape_m
  by_cases h1 : 1 ≤ a.length
  case neg =>
    have hz : lenM a = false := decide_eq_false (by omega)
    rw [hz, Bool.false_and]
    exact Ev.bind (a := true) (Ev.ite_t (decide_eq_true (by omega)) (Ev.pure _)) (Ev.ite_t rfl (Ev.const rfl))
  by_cases h2 : a.length ≤ 200
  case neg =>
    have hz : lenM a = false := decide_eq_false (by omega)
    rw [hz, Bool.false_and]
    exact Ev.bind (a := true) (Ev.ite_f (by simp only [decide_eq_true_eq]; omega) (Ev.const (congrArg some (decide_eq_true (by omega))))) (Ev.ite_t rfl (Ev.const rfl))
  have hz : lenM a = true := decide_eq_true ⟨h1, h2⟩
  rw [hz, Bool.true_and]
  refine Ev.bind (a := false) (Ev.ite_f (by simp only [decide_eq_true_eq]; omega) (Ev.const (congrArg some (decide_eq_false (by omega))))) (Ev.ite_f (by simp) ?_)
  refine Exists.elim (shape_loop (step := _) (fun x => kindM x && fieldP x) a (fun i n x hx hn hok => ?_) (fun i n x hx h => ?_) (fun n => ?_) a 0 1 rfl (by omega) (by omega)) (fun r hr => Ev.bind hr.1.ev (Ev.const (by
    have e2 := hr.2
    cases r with
    | inl z => exact congrArg some e2
    | inr b => exact congrArg some e2)))
  · have hj : i < a.length := (List.getElem?_eq_some_iff.1 hx).1
    have ho := opN_le x
    simp only [Bool.and_eq_true] at hok
    obtain ⟨hk, hf⟩ := hok
    have hk' := hk
    unfold kindM at hk'
    refine Ev.ite_t (decide_eq_true (by omega)) (Ev.bind (a := false) (Ev.ite_f (by simp; omega) (Ev.bindc (idx_at hx) (Ev.bind (Ev.const' fun m => l00In_eq) (Ev.const (by rw [hk']; rfl))))) (Ev.ite_f (by simp) (Ev.bindc (idx_at hx) (Ev.bind (Ev.const' fun m => op_spec (kind_le hk)) (Ev.bindc (idx_at hx) (Ev.bind (a := modP x) ?_ ?_))))))
    · unfold modP
      by_cases h4 : x.1 = 4
      · exact Ev.ite_t (by simp [h4]) (Ev.const (by simp [h4]))
      · exact Ev.ite_f (by simp [h4]) (Ev.bindc (idx_at hx) (Ev.const (by simp [h4])))
    · have hpat := pat_spec (hp x (List.mem_of_getElem? hx))
      unfold fieldP at hf
      refine Ev.bind (a := false) ?_ (Ev.bind (a := false) ?_ (Ev.ite_f (by simp) (Ev.const ?_)))
      · cases hm : modP x
        · exact Ev.ite_f (by simp) (Ev.pure _)
        · rw [hm, if_pos rfl] at hf
          rw [hf] at hpat
          exact Ev.ite_t rfl (Ev.bindc (idx_at hx) (Ev.bind hpat (Ev.const rfl)))
      · cases hm : modP x
        · rw [hm, if_neg (by simp)] at hf
          simp only [Bool.and_eq_true, beq_iff_eq] at hf
          exact Ev.ite_f (by simp) (Ev.bind (a := false) (Ev.ite_t rfl (Ev.bindc (idx_at hx) (Ev.bind (a := false) (Ev.ite_f (by simp [hf.1]) (Ev.bindc (idx_at hx) (Ev.const (by simpa using hf.2)))) (Ev.const rfl)))) (Ev.const rfl))
        · exact Ev.ite_f (by simp) (Ev.bind (a := false) (Ev.ite_f (by simp) (Ev.const rfl)) (Ev.const rfl))
      · rw [W_of (n := (i : Int) + 1) (by omega) (by omega), W_of (n := (opN x : Int) - 1) (by omega) (by omega), W_of (by omega) (by omega)]
        congr 4
        omega
  · have hj : i < a.length := (List.getElem?_eq_some_iff.1 hx).1
    refine Ev.ite_t (decide_eq_true (by omega)) ?_
    by_cases hn : n = 0
    · subst hn
      exact Ev.bind (a := true) (Ev.ite_t (by simp) (Ev.pure _)) (Ev.ite_t rfl (Ev.const rfl))
    have hz : ¬ (((n : Int) == (0 : Int)) = true) := by simp; omega
    cases hk : kindM x
    · have hk' := hk
      unfold kindM at hk'
      exact Ev.bind (a := true) (Ev.ite_f hz (Ev.bindc (idx_at hx) (Ev.bind (Ev.const' fun m => l00In_eq) (Ev.const (by rw [hk']; rfl))))) (Ev.ite_t rfl (Ev.const rfl))
    have hk' := hk
    unfold kindM at hk'
    have hf : fieldP x = false := by
      rcases h with h | h
      · exact absurd h hn
      · rw [hk] at h; simpa using h
    refine Ev.bind (a := false) (Ev.ite_f hz (Ev.bindc (idx_at hx) (Ev.bind (Ev.const' fun m => l00In_eq) (Ev.const (by rw [hk']; rfl))))) (Ev.ite_f (by simp) (Ev.bindc (idx_at hx) (Ev.bind (Ev.const' fun m => op_spec (kind_le hk)) (Ev.bindc (idx_at hx) (Ev.bind (a := modP x) ?_ ?_)))))
    · unfold modP
      by_cases h4 : x.1 = 4
      · exact Ev.ite_t (by simp [h4]) (Ev.const (by simp [h4]))
      · exact Ev.ite_f (by simp [h4]) (Ev.bindc (idx_at hx) (Ev.const (by simp [h4])))
    · have hpat := pat_spec (hp x (List.mem_of_getElem? hx))
      unfold fieldP at hf
      cases hm : modP x
      · rw [hm, if_neg (by simp)] at hf
        refine Ev.bind (a := false) (Ev.ite_f (by simp) (Ev.pure _)) (Ev.bind (a := true) (Ev.ite_f (by simp) (Ev.bind (a := true) (Ev.ite_t rfl (Ev.bindc (idx_at hx) (Ev.bind (a := true) ?_ (Ev.const rfl)))) (Ev.const rfl))) (Ev.ite_t rfl (Ev.const rfl)))
        cases he : (x.2.2.1 == ([] : Str))
        · exact Ev.ite_t (by simpa [bne] using he) (Ev.pure _)
        · rw [he] at hf
          exact Ev.ite_f (by simpa [bne] using he) (Ev.bindc (idx_at hx) (Ev.const (by simpa using hf)))
      · rw [hm, if_pos rfl] at hf
        rw [hf] at hpat
        exact Ev.bind (a := true) (Ev.ite_t rfl (Ev.bindc (idx_at hx) (Ev.bind hpat (Ev.const rfl)))) (Ev.bind (a := true) (Ev.ite_t rfl (Ev.const rfl)) (Ev.ite_t rfl (Ev.const rfl)))
  · exact Ev.ite_f (by simp) (Ev.pure _)
def varP (x : Timpl_Node) : Bool := x.2.1 == 0
def vmP (a : List Timpl_Node) : Bool := (lenM a && shq (fun x => kindM x && fieldP x) a 1) && a.all varP
theorem modal_spec {a : List Timpl_Node} (hp : ∀ x ∈ a, x.2.2.1.length ≤ 1048576) : Ev (fun m => spec_l14Is_m m a) (vmP a) := by
  unfold spec_l14Is_m vmP
  have h1 := shapeM_spec hp
  cases hv : (lenM a && shq (fun x => kindM x && fieldP x) a 1)
  · rw [hv] at h1
    exact Ev.bind h1 (Ev.const rfl)
  rw [hv] at h1
  have hlen : a.length ≤ 200 := by
    rw [Bool.and_eq_true] at hv
    have := hv.1
    unfold lenM at this
    exact (of_decide_eq_true this).2
  refine Ev.bind h1 (Ev.ite_f (by simp) ?_)
  rw [Bool.true_and]
  refine (Ev.all a.length (fun k => match a[k]? with | none => true | some x => varP x) false true (fun k hk hok => ?_) (fun k hk hok => ?_) (Ev.ite_f (by simp) (Ev.pure _))).eq ?_
  · obtain ⟨x, hx⟩ := get_lt hk
    simp only [hx] at hok
    unfold varP at hok
    refine Ev.ite_t (decide_eq_true (by omega)) (Ev.bindc (idx_at hx) (Ev.ite_f (by simpa using hok) (Ev.const ?_)))
    rw [W_succ hk (by omega)]
  · obtain ⟨x, hx⟩ := get_lt hk
    simp only [hx] at hok
    unfold varP at hok
    exact Ev.ite_t (decide_eq_true (by omega)) (Ev.bindc (idx_at hx) (Ev.ite_t (by simpa using hok) (Ev.pure _)))
  · refine Eq.trans (all_list (a := a) (ok := varP) (x := true) (y := false) (fun k => by cases a[k]? <;> rfl)) ?_
    cases a.all varP <;> rfl
theorem all_both {α : Type} {p q : α → Bool} : ∀ l : List α, (l.all fun x => p x && q x) = (l.all p && l.all q)
  | [] => rfl
  | x :: r => by
    rw [List.all_cons, List.all_cons, List.all_cons, all_both r]
    cases p x <;> cases q x <;> simp
theorem valid1_impl {x : Timpl_Node} (hp : x.2.2.1.length ≤ 1048576) : Ev (fun m => impl_ValidModal_1_m m x) (!((kindM x && fieldP x) && varP x)) := by
  have hf := field_impl hp
  unfold impl_ValidModal_1_m
  refine Ev.bind (Ev.const' fun m => within_eq) ?_
  show Ev (fun m => (if (!(kindM x)) = true then some true else some (x.2.1 != (0 : Int))).bind _) _
  cases hk : kindM x
  · exact Ev.bind (a := true) (Ev.const rfl) (Ev.bind (a := true) (Ev.const rfl) (Ev.const rfl))
  refine Ev.bind (a := !(varP x)) (Ev.const rfl) ?_
  cases hq : varP x
  · exact Ev.bind (a := true) (Ev.const rfl) (Ev.const (by simp))
  · refine Ev.bind (a := !(fieldP x)) (Ev.ite_f (by simp) (Ev.bind hf (Ev.pure _))) (Ev.const (by simp))
theorem modal_impl {a : List Timpl_Node} (hp : ∀ x ∈ a, x.2.2.1.length ≤ 1048576) : Ev (fun m => impl_ValidModal_m m a) (vmP a) := by
  have hmx := mx
  unfold impl_ValidModal_m vmP
  refine Ev.bind (Ev.const' fun m => within_eq) ?_
  by_cases h1 : 1 ≤ a.length ∧ a.length ≤ 200
  case neg =>
    have hz : lenM a = false := decide_eq_false h1
    rw [hz, Bool.false_and, Bool.false_and]
    refine Ev.bind (a := true) (Ev.ite_t ?_ (Ev.pure _)) (Ev.ite_t rfl (Ev.const rfl))
    simp
    omega
  have hz : lenM a = true := decide_eq_true h1
  rw [hz, Bool.true_and, shq_eq, Bool.and_assoc, ← all_both]
  have hw : (decide ((1 : Int) ≤ (a.length : Int)) && decide ((a.length : Int) ≤ 200)) = true := by simp; omega
  rw [hw]
  refine Ev.bind (a := !(shp a 1)) (Ev.ite_f (by simp) (Ev.bind (shapeM_impl h1.2) (Ev.pure _))) ?_
  cases hs : shp a 1
  · exact Ev.ite_t rfl (Ev.const rfl)
  refine Ev.ite_f (by simp) (Ev.bind (a := !(a.all fun x => (kindM x && fieldP x) && varP x)) ?_ (Ev.const (by simp)))
  have := contains_loop (a := a) (by omega) (f := fun m z => impl_ValidModal_1_m m z) (ok := fun x => (kindM x && fieldP x) && varP x) (fun x hx => valid1_impl (hp x hx))
  unfold slices_ContainsFunc__impl_Node_impl_Node_m slices_IndexFunc__impl_Node_impl_Node_m
  exact this
theorem vm_facts {a : List Timpl_Node} (h : vmP a = true) : (1 ≤ a.length ∧ a.length ≤ 200) ∧ shp a 1 = true ∧ ∀ x ∈ a, kindM x = true := by
  unfold vmP at h
  rw [shq_eq] at h
  simp only [Bool.and_eq_true, List.all_eq_true] at h
  obtain ⟨⟨h1, h2, h3⟩, _⟩ := h
  unfold lenM at h1
  exact ⟨of_decide_eq_true h1, h2, fun x hx => (h3 x hx).1⟩
def pairF (x : Timpl_Node) (a b : Int → Bool) (v : Int) : Bool := if x.1 = 2 then a v && b v else a v || b v
/-- The rows of the formulas of a list, the first one's on top. -/
def comb (x : Timpl_Node) (t : Timpl_Lts) (s : List (Int → Bool)) : List (Int → Bool) :=
  if opN x = 2 then (match s with | a :: b :: s => pairF x a b :: s | _ => [])
  else if opN x = 1 then (match s with | a :: s => mst x t a t.2.2.2 :: s | _ => [])
  else (fun _ => x.1 == 0) :: s
def stk (t : Timpl_Lts) : List Timpl_Node → List (Int → Bool)
  | [] => []
  | x :: r => comb x t (stk t r)
theorem comb2 {x : Timpl_Node} {t : Timpl_Lts} {a b : Int → Bool} {s : List (Int → Bool)} (h : opN x = 2) : comb x t (a :: b :: s) = pairF x a b :: s := by unfold comb; rw [if_pos h]
theorem comb1 {x : Timpl_Node} {t : Timpl_Lts} {a : Int → Bool} {s : List (Int → Bool)} (h : opN x = 1) : comb x t (a :: s) = mst x t a t.2.2.2 :: s := by unfold comb; rw [if_neg (by omega), if_pos h]
theorem comb0 {x : Timpl_Node} {t : Timpl_Lts} {s : List (Int → Bool)} (h : opN x = 0) : comb x t s = (fun _ => x.1 == 0) :: s := by unfold comb; rw [if_neg (by omega), if_neg (by omega)]
theorem stk_len {t : Timpl_Lts} : ∀ {l : List Timpl_Node} {d : Nat}, shp l d = true → (stk t l).length = d
  | [], d, h => by
    have : d = 0 := by simpa [shq] using h
    rw [this]; rfl
  | x :: r, 0, h => by simp [shq] at h
  | x :: r, d + 1, h => by
    have h : shp r (d + opN x) = true := by simpa [shq] using h
    have ih := stk_len (t := t) h
    have ho := opN_le x
    have : opN x = 0 ∨ opN x = 1 ∨ opN x = 2 := by omega
    unfold stk
    rcases this with e | e | e
    · rw [comb0 e, List.length_cons, ih, e]
    · rw [e] at ih
      rcases q : stk t r with _ | ⟨a, s⟩
      · rw [q] at ih; cases ih
      · rw [q] at ih
        rw [comb1 e]
        exact ih
    · rw [e] at ih
      rcases q : stk t r with _ | ⟨a, _ | ⟨b, s⟩⟩
      · rw [q] at ih; cases ih
      · rw [q] at ih; simp at ih
      · rw [q] at ih
        rw [comb2 e]
        simp only [List.length_cons] at ih ⊢
        omega
theorem shp_at : ∀ {l : List Timpl_Node} {d : Nat} {i : Nat}, shp l d = true → i ≤ l.length → ∃ d', shp (l.drop i) d' = true
  | l, d, 0, h, _ => ⟨d, h⟩
  | [], d, i + 1, h, hi => absurd hi (by simp)
  | x :: r, 0, i + 1, h, _ => by simp [shq] at h
  | x :: r, d + 1, i + 1, h, hi => shp_at (l := r) (d := d + opN x) (i := i) (by simpa [shq] using h) (by simpa using hi)
theorem op_kind {x : Timpl_Node} (h : kindM x = true) : (opN x = 2 ↔ (x.1 = 2 ∨ x.1 = 3)) ∧ (opN x = 1 ↔ (x.1 = 4 ∨ x.1 = 5)) ∧ (opN x = 0 ↔ (x.1 = 0 ∨ x.1 = 1)) := by
  rcases kind_of h with e | e | e | e | e | e <;> simp [opN, e]

section
variable {t : Timpl_Lts} {n : Nat} (V : VL t n) (hl : ∀ s ∈ t.2.2.1, s.length ≤ 1048576)
include V hl
/-- The reference's stack. -/
theorem holds_spec {f : List Timpl_Node} (hf : f.length ≤ 200) (hs : shp f 1 = true) (hk : ∀ x ∈ f, kindM x = true) (hp : ∀ x ∈ f, x.2.2.1.length ≤ 1048576) : ∃ g, stk t f = [g] ∧ Ev (fun m => spec_l14Holds_m m f t) (tab n g) := by
  have htop := V.top
  have hone := stk_len (t := t) hs
  rcases hst : stk t f with _ | ⟨g, _ | ⟨b, s⟩⟩
  · rw [hst] at hone; cases hone
  case cons.cons => rw [hst] at hone; simp at hone
  refine ⟨g, rfl, ?_⟩
  unfold spec_l14Holds_m
  simp only [V.st]
  have key : ∀ {step : Nat → List (List Bool) × Int → Option ((List (List Bool) × Int) ⊕ (List (List Bool) ⊕ List Bool))}
      (_ : ∀ (k : Nat) (x : Timpl_Node), f[k]? = some x → Ev (fun m => step m (((stk t (f.drop (k + 1))).map (tab n)).reverse, (k : Int))) (.inl (((stk t (f.drop k)).map (tab n)).reverse, (k : Int) - 1)))
      (_ : ∀ xs, Ev (fun m => step m (xs, (0 : Int) - 1)) (.inr (.inl xs))), ∀ k, k ≤ f.length → EvI step (((stk t (f.drop k)).map (tab n)).reverse, (k : Int) - 1) (.inl [tab n g]) := by
    intro step h1 h2 k
    induction k with
    | zero =>
      intro _
      rw [List.drop_zero, hst]
      exact EvI.stop (h2 _)
    | succ k ih =>
      intro hk'
      obtain ⟨x, hx⟩ := get_lt (xs := f) (k := k) (by omega)
      have := h1 k x hx
      rw [show ((k + 1 : Nat) : Int) - 1 = (k : Int) by omega]
      exact EvI.go this (ih (by omega))
  have h0 : (([] : List (List Bool)), W ((f.length : Int) - 1)) = (((stk t (f.drop f.length)).map (tab n)).reverse, (f.length : Int) - 1) := by
    rw [List.drop_length, W_of (by omega) (by omega)]
    rfl
  rw [h0]
  refine Ev.bind (a := Sum.inl [tab n g]) (key (fun k x hx => ?_) (fun xs => Ev.ite_f (by simp) (Ev.pure _)) f.length (Nat.le_refl _)).ev (Ev.const rfl)
  have hkl : k < f.length := (List.getElem?_eq_some_iff.1 hx).1
  have hxm := List.mem_of_getElem? hx
  have hkx := hk x hxm
  obtain ⟨o2, o1, o0⟩ := op_kind hkx
  have hd : f.drop k = x :: f.drop (k + 1) := by
    rw [List.drop_eq_getElem_cons hkl]
    congr 1
    have := List.getElem?_eq_getElem hkl
    rw [hx] at this
    exact (Option.some.inj this).symm
  obtain ⟨d, hdd⟩ := shp_at (i := k) hs (by omega)
  rw [hd] at hdd ⊢
  have hlenr : (stk t (f.drop (k + 1))).length + 1 = d + opN x := by
    cases d with
    | zero => simp [shq] at hdd
    | succ d => rw [stk_len (t := t) (d := d + opN x) (by simpa [shq] using hdd)]; omega
  have hd1 : 1 ≤ d := by
    cases d with
    | zero => simp [shq] at hdd
    | succ d => omega
  have hdl : d ≤ 200 := by
    have h1 := stk_len (t := t) hdd
    have : ∀ l : List Timpl_Node, (stk t l).length ≤ l.length := by
      intro l
      induction l with
      | nil => exact Nat.le_refl _
      | cons y r ih =>
        show (comb y t (stk t r)).length ≤ r.length + 1
        unfold comb
        split
        · split
          · rename_i q
            rw [q] at ih
            simp only [List.length_cons] at ih ⊢
            omega
          · simp
        · split
          · split
            · rename_i q
              rw [q] at ih
              simp only [List.length_cons] at ih ⊢
              omega
            · simp
          · simp only [List.length_cons]; omega
    have h2 := this (x :: f.drop (k + 1))
    rw [h1, List.length_cons, List.length_drop] at h2
    omega
  have hst' : stk t (x :: f.drop (k + 1)) = comb x t (stk t (f.drop (k + 1))) := rfl
  rw [hst']
  have hWk : W ((k : Int) - 1) = (k : Int) - 1 := W_of (by omega) (by omega)
  refine Ev.ite_t (decide_eq_true (by omega)) (Ev.join (Ev.bindc (idx_at hx) (Ev.bindc (mks_ok (n := n) (by omega)) ?_)))
  have hc : opN x = 2 ∨ opN x = 1 ∨ opN x = 0 := by have := opN_le x; omega
  rcases hc with e | e | e
  · have ex := o2.1 e
    rcases q : stk t (f.drop (k + 1)) with _ | ⟨a, _ | ⟨b, s⟩⟩
    · rw [q] at hlenr; simp at hlenr; omega
    · rw [q] at hlenr; simp at hlenr; omega
    · rw [q] at hlenr
      simp only [List.length_cons] at hlenr
      rw [comb2 e]
      have hrev : ((a :: b :: s).map (tab n)).reverse = (s.map (tab n)).reverse ++ [tab n b, tab n a] := by simp
      rw [hrev]
      obtain ⟨R, hR⟩ : ∃ R, R = (s.map (tab n)).reverse := ⟨_, rfl⟩
      rw [← hR]
      have hRl : R.length = s.length := by rw [hR]; simp
      have hw1 : W (((R ++ [tab n b, tab n a]).length : Int) - 1) = ((R.length + 1 : Nat) : Int) := by
        rw [List.length_append, W_of (by simp; omega) (by simp; omega)]
        simp
        omega
      have hw2 : W (((R.length + 1 : Nat) : Int) - 1) = (R.length : Int) := by rw [W_of (by omega) (by omega)]; omega
      rw [hw1, hw2]
      have hi1 : (R ++ [tab n b, tab n a])[R.length + 1]? = some (tab n a) := by rw [List.getElem?_append_right (by omega)]; simp
      have hi2 : (R ++ [tab n b, tab n a])[R.length]? = some (tab n b) := by rw [List.getElem?_append_right (by omega)]; simp
      have hsub : sub (R ++ [tab n b, tab n a]) ((0 : Nat) : Int) (R.length : Int) = some R := by
        rw [sub_ok (by omega) (by simp), List.drop_zero, List.take_left]
      have hcond : (if (x.1 == (2 : Int)) = true then some true else some (x.1 == (3 : Int))) = some true := by
        rcases ex with ex | ex <;> rw [ex] <;> rfl
      refine Ev.bindc hcond (Ev.ite_t rfl (Ev.bindc (idx_at hi1) (Ev.bindc (idx_at hi2) (Ev.bind (a := Sum.inl (tab n (pairF x a b))) ?_ ?_))))
      · rw [tab_const]
        refine (EvI.fill n _ _ (fun j h hj => ?_) (fun xs => Ev.ite_f (by simp) (Ev.pure _))).ev
        have ha := tab_at (f := a) (n := n) (v := (j : Int)) (by omega) (by omega)
        have hb := tab_at (f := b) (n := n) (v := (j : Int)) (by omega) (by omega)
        refine Ev.ite_t (decide_eq_true (by omega)) (Ev.bind (a := (x.1 == 2) && a (j : Int)) ?_ (Ev.bind (a := ((x.1 == 2) && a (j : Int)) && b (j : Int)) ?_ (Ev.bind (a := pairF x a b (j : Int)) ?_ (Ev.bindc (tab_at (by omega) (by omega)) (Ev.const ?_)))))
        · rcases ex with ex | ex
          · rw [ex]; exact Ev.ite_t rfl (Ev.bindc ha (Ev.pure _))
          · rw [ex]; exact Ev.ite_f (by simp) (Ev.pure _)
        · cases ((x.1 == 2) && a (j : Int))
          · exact Ev.ite_f (by simp) (Ev.pure _)
          · exact Ev.ite_t rfl (Ev.bindc hb (Ev.const rfl))
        · unfold pairF
          rcases ex with ex | ex
          · rw [ex]
            cases h3 : (((2 : Int) == 2) && a (j : Int)) && b (j : Int)
            · refine Ev.ite_f (by simp) (Ev.bind (a := false) (Ev.const rfl) (Ev.const ?_))
              rw [if_pos rfl]
              exact congrArg some (by simpa using h3.symm)
            · refine Ev.ite_t rfl (Ev.const ?_)
              rw [if_pos rfl]
              exact congrArg some (by simpa using h3.symm)
          · rw [ex, if_neg (show ¬ ((3 : Int) = 2) by decide)]
            refine Ev.ite_f (by simp) (Ev.bind (a := a (j : Int) || b (j : Int)) (Ev.ite_t rfl (Ev.bindc ha (Ev.bind (a := a (j : Int) || b (j : Int)) ?_ (Ev.pure _)))) (Ev.pure _))
            cases a (j : Int)
            · exact Ev.ite_f (by simp) (Ev.bindc hb (Ev.const (by simp)))
            · exact Ev.ite_t rfl (Ev.const (by simp))
        · rw [tab_set (by omega), W_succ hj (by omega)]
      · simp only [ctl_l]
        refine Ev.bindc hsub (Ev.bindc (app_ok (by simp; omega)) (Ev.const ?_))
        rw [hWk, hR]
        simp
  · have ex := o1.1 e
    rcases q : stk t (f.drop (k + 1)) with _ | ⟨a, s⟩
    · rw [q, List.length_nil] at hlenr; omega
    · rw [q] at hlenr
      simp only [List.length_cons] at hlenr
      rw [comb1 e]
      have hrev : ((a :: s).map (tab n)).reverse = (s.map (tab n)).reverse ++ [tab n a] := by simp
      rw [hrev]
      obtain ⟨R, hR⟩ : ∃ R, R = (s.map (tab n)).reverse := ⟨_, rfl⟩
      rw [← hR]
      have hRl : R.length = s.length := by rw [hR]; simp
      have hw1 : W (((R ++ [tab n a]).length : Int) - 1) = (R.length : Int) := by
        rw [List.length_append, W_of (by simp only [List.length_cons, List.length_nil]; omega) (by simp only [List.length_cons, List.length_nil]; omega)]
        simp
      rw [hw1]
      have hi1 : (R ++ [tab n a])[R.length]? = some (tab n a) := by rw [List.getElem?_append_right (by omega)]; simp
      have hsub : sub (R ++ [tab n a]) ((0 : Nat) : Int) (R.length : Int) = some R := by
        rw [sub_ok (by omega) (by simp), List.drop_zero, List.take_left]
      have hcond : (if (x.1 == (2 : Int)) = true then some true else some (x.1 == (3 : Int))) = some false := by
        rcases ex with ex | ex <;> rw [ex] <;> rfl
      have hcond2 : (if (x.1 == (4 : Int)) = true then some true else some (x.1 == (5 : Int))) = some true := by
        rcases ex with ex | ex <;> rw [ex] <;> rfl
      refine Ev.bindc hcond (Ev.ite_f (by simp) (Ev.bindc hcond2 (Ev.ite_t rfl (Ev.bindc (idx_at hi1) (Ev.bind (step_spec V hl ex (hp x hxm) a) (Ev.bindc hsub (Ev.bindc (app_ok (by simp; omega)) (Ev.const ?_))))))))
      rw [hWk, hR]
      simp
  · have ex := o0.1 e
    rw [comb0 e]
    have hcond : (if (x.1 == (2 : Int)) = true then some true else some (x.1 == (3 : Int))) = some false := by
      rcases ex with ex | ex <;> rw [ex] <;> rfl
    have hcond2 : (if (x.1 == (4 : Int)) = true then some true else some (x.1 == (5 : Int))) = some false := by
      rcases ex with ex | ex <;> rw [ex] <;> rfl
    refine Ev.bindc hcond (Ev.ite_f (by simp) (Ev.bindc hcond2 (Ev.ite_f (by simp) (Ev.bind (a := Sum.inl (tab n (fun _ => x.1 == 0))) ?_ ?_))))
    · rw [tab_const]
      refine (EvI.fill n _ _ (fun j h hj => ?_) (fun xs => Ev.ite_f (by simp) (Ev.pure _))).ev
      refine Ev.ite_t (decide_eq_true (by omega)) (Ev.bindc (tab_at (by omega) (by omega)) (Ev.const ?_))
      rw [tab_set (by omega), W_succ hj (by omega)]
    · simp only [ctl_l]
      refine Ev.bindc (app_ok (by simp; omega)) (Ev.const ?_)
      rw [hWk]
      simp
end
theorem list_spec {l : List Bool} (hl : l.length ≤ 1048576) : Ev (fun m => spec_l14List_m m l) (trues l) := by
  unfold spec_l14List_m
  refine Ev.bind (EvI.places l.length (fun k => l[k]? == some true) (fun k xs hk hl => ?_) (fun xs => Ev.ite_f (by simp) (Ev.pure _))).ev (Ev.pure _)
  obtain ⟨x, hx⟩ := get_lt hk
  refine Ev.ite_t (decide_eq_true (by omega)) (Ev.join (Ev.bindc (idx_at hx) ?_))
  rw [hx]
  cases x
  · exact Ev.ite_f (by simp) (Ev.const (by rw [W_succ hk (by omega)]; simp))
  · exact Ev.ite_t rfl (Ev.bindc (app_ok (by simp; omega)) (Ev.const (by rw [W_succ hk (by omega)]; simp)))
theorem iter_one {σ β : Type} {f : σ → Option (σ ⊕ β)} {s : σ} {b : β} {m : Nat} (h : f s = some (.inr b)) (hm : 1 ≤ m) : iter f m s = some b := by
  obtain ⟨k, rfl⟩ : ∃ k, m = k + 1 := ⟨m - 1, by omega⟩
  unfold iter
  rw [h]
theorem iter_go {σ β : Type} {f : σ → Option (σ ⊕ β)} {s s' : σ} {o : Option β} {m k : Nat} (hm : m = k + 1) (h : f s = some (.inl s')) (h' : iter f k s' = o) : iter f m s = o := by
  subst hm
  rw [iter]
  rw [h]
  exact h'
theorem w1 : W (1 : Int) = 1 := W_of (by omega) (by omega)
theorem w2 : W (2 : Int) = 2 := W_of (by omega) (by omega)
section
variable {m : Nat} {rec : List Timpl_Node → Option (Ft m × List Timpl_Node)} {x : Timpl_Node} {r : List Timpl_Node}
theorem from0 (hx : opN x = 0) (hm : 3 ≤ m) : impl_formulaFrom_b m rec (x :: r) = some ((x, []), r) := by
  unfold impl_formulaFrom_b
  have e0 : idx (x :: r) (0 : Int) = some x := rfl
  have e1 := sub_tail (x := x) (xs := r)
  have e2 : impl_Node_operands_m m (x.1, x.2.1, x.2.2.1, x.2.2.2) = some (opN x : Int) := op_impl
  simp only [e0, e1, e2, Option.bind_some]
  rw [iter_one (b := Sum.inl (r, [])) (by simp [hx]) (by omega)]
  rfl
theorem from1 (hx : opN x = 1) (hm : 3 ≤ m) {y1 : Ft m} {r1 : List Timpl_Node} (h1 : rec r = some (y1, r1)) : impl_formulaFrom_b m rec (x :: r) = some ((x, [y1]), r1) := by
  unfold impl_formulaFrom_b
  have e0 : idx (x :: r) (0 : Int) = some x := rfl
  have e1 := sub_tail (x := x) (xs := r)
  have e2 : impl_Node_operands_m m (x.1, x.2.1, x.2.2.1, x.2.2.2) = some (opN x : Int) := op_impl
  simp only [e0, e1, e2, Option.bind_some]
  rw [iter_go (k := m - 1) (s' := (r1, [y1], 1)) (by omega) (by simp [hx, h1, app, w1]) (iter_one (b := Sum.inl (r1, [y1])) (by simp [hx]) (by omega))]
  rfl
theorem from2 (hx : opN x = 2) (hm : 3 ≤ m) {y1 y2 : Ft m} {r1 r2 : List Timpl_Node} (h1 : rec r = some (y1, r1)) (h2 : rec r1 = some (y2, r2)) : impl_formulaFrom_b m rec (x :: r) = some ((x, [y1, y2]), r2) := by
  unfold impl_formulaFrom_b
  have e0 : idx (x :: r) (0 : Int) = some x := rfl
  have e1 := sub_tail (x := x) (xs := r)
  have e2 : impl_Node_operands_m m (x.1, x.2.1, x.2.2.1, x.2.2.2) = some (opN x : Int) := op_impl
  simp only [e0, e1, e2, Option.bind_some]
  rw [iter_go (k := m - 1) (s' := (r1, [y1], 1)) (by omega) (by simp [hx, h1, app, w1]) (iter_go (k := m - 2) (s' := (r2, [y1, y2], 2)) (by omega) (by simp [hx, h2, app, w2]) (iter_one (b := Sum.inl (r2, [y1, y2])) (by simp [hx]) (by omega)))]
  rfl
end
/-- What follows the rows of the parts. -/
def whR (fuel : Nat) (x : Timpl_Node) (a1 : Timpl_Lts) (xs141 : List (List Bool)) : Option (List Bool) :=
  (impl_Node_isModality_m fuel (x.1, x.2.1, x.2.2.1, x.2.2.2)).bind fun x152 => (if x152 = true then (idx xs141 (0 : Int)).bind fun x158 => (impl_Lts_modality_m fuel (a1.1, a1.2.1, a1.2.2.1, a1.2.2.2) (x.1, x.2.1, x.2.2.1, x.2.2.2) x158).bind fun x164 => some (x164) else (slices_Repeat__bool_bool_m fuel [(x.1 == (0 : Int))] a1.1).bind fun x176 => (iter (fun (s : (List Bool) × (Int)) => (match s with | (xs237, x238) => (if (decide (x238 < (x176.length : Int))) = true then join (κ := List Bool → Option (((List Bool) × (Int)) ⊕ (((List Bool)) ⊕ ((List Bool))))) (fun (xs305 : List Bool) => some (.inl (xs305, (W (x238 + (1 : Int)))))) (fun K306 => (if (x.1 == (2 : Int)) = true then (idx xs141 (0 : Int)).bind fun x309 => (idx x309 x238).bind fun x313 => (if x313 = true then (idx xs141 (1 : Int)).bind fun x321 => (idx x321 x238).bind fun x325 => some x325 else some false).bind fun t318 => (idx xs237 x238).bind fun _ => (K306 (xs237.set x238.toNat t318)) else (if (x.1 == (3 : Int)) = true then (idx xs141 (0 : Int)).bind fun x334 => (idx x334 x238).bind fun x338 => (if x338 = true then some true else (idx xs141 (1 : Int)).bind fun x346 => (idx x346 x238).bind fun x350 => some x350).bind fun t343 => (idx xs237 x238).bind fun _ => (K306 (xs237.set x238.toNat t343)) else (K306 xs237)))) else some (.inr (.inl (xs237)))) : Option (((List Bool) × (Int)) ⊕ (((List Bool)) ⊕ ((List Bool)))))) fuel (x176, (0 : Int))).bind fun res296 => ctl (β := (List Bool)) (ρ := (List Bool)) (τ := (List Bool)) res296 (fun (xs295) => some (xs295)) (fun q => some (q)))
section
variable {m : Nat} {rec : Ft m → Timpl_Lts → Option (List Bool)} {x : Timpl_Node} {t : Timpl_Lts} {y1 y2 : Ft m} {r1 r2 : List Bool}
theorem wh0 (hm : 3 ≤ m) : Pimpl_formula_where_b m rec (x, []) t = whR m x t [] := by
  unfold Pimpl_formula_where_b
  rw [iter_one (b := Sum.inl []) (by simp) (by omega)]
  rfl
theorem wh1 (hm : 3 ≤ m) (h1 : rec y1 t = some r1) : Pimpl_formula_where_b m rec (x, [y1]) t = whR m x t [r1] := by
  unfold Pimpl_formula_where_b
  rw [iter_go (k := m - 1) (s' := ([r1], 1)) (by omega) (by simp [idx, h1, app, w1]) (iter_one (b := Sum.inl [r1]) (by simp) (by omega))]
  rfl
theorem wh2 (hm : 3 ≤ m) (h1 : rec y1 t = some r1) (h2 : rec y2 t = some r2) : Pimpl_formula_where_b m rec (x, [y1, y2]) t = whR m x t [r1, r2] := by
  unfold Pimpl_formula_where_b
  rw [iter_go (k := m - 1) (s' := ([r1], 1)) (by omega) (by simp [idx, h1, app, w1]) (iter_go (k := m - 2) (s' := ([r1, r2], 2)) (by omega) (by simp [idx, h2, app, w2]) (iter_one (b := Sum.inl [r1, r2]) (by simp) (by omega)))]
  rfl
end
section
variable {t : Timpl_Lts} {n : Nat} (V : VL t n)
include V
theorem whR0 {x : Timpl_Node} (hx : modP x = false) (h2 : x.1 ≠ 2) (h3 : x.1 ≠ 3) : Ev (fun m => whR m x t []) (tab n fun _ => x.1 == 0) := by
  have htop := V.top
  unfold whR
  refine Ev.bind (Ev.const' fun m => mod_impl) ?_
  rw [hx]
  simp only [V.st]
  refine Ev.ite_f (by simp) (Ev.bind (repeat_bools (by omega)) ?_)
  simp only [List.length_replicate]
  rw [tab_const]
  refine Ev.bind (a := Sum.inl (tab n fun _ => x.1 == 0)) (EvI.upto n (fun k (_ : Unit) => (tab n (fun _ => x.1 == 0), (k : Int))) (fun _ _ => True) (k := 0) (t := ()) rfl (Nat.zero_le _) trivial (fun k _ hk _ => ⟨(), ?_, trivial⟩) (fun _ _ => Ev.ite_f (by simp) (Ev.pure _))).ev (Ev.pure _)
  refine Ev.ite_t (decide_eq_true (by omega)) (Ev.join (Ev.ite_f (by simpa using h2) (Ev.ite_f (by simpa using h3) (Ev.const ?_))))
  rw [W_succ hk (by omega)]
theorem whR2 {x : Timpl_Node} (hx : x.1 = 2 ∨ x.1 = 3) (a b : Int → Bool) : Ev (fun m => whR m x t [tab n a, tab n b]) (tab n (pairF x a b)) := by
  have htop := V.top
  have hm : modP x = false := by unfold modP; rcases hx with e | e <;> rw [e] <;> rfl
  unfold whR
  refine Ev.bind (Ev.const' fun m => mod_impl) ?_
  rw [hm]
  simp only [V.st]
  refine Ev.ite_f (by simp) (Ev.bind (repeat_bools (by omega)) ?_)
  simp only [List.length_replicate]
  rw [tab_const]
  refine Ev.bind (a := Sum.inl (tab n (pairF x a b))) (EvI.fill n _ _ (fun j h hj => ?_) (fun xs => Ev.ite_f (by simp) (Ev.pure _))).ev (Ev.pure _)
  have ha := tab_at (f := a) (n := n) (v := (j : Int)) (by omega) (by omega)
  have hb := tab_at (f := b) (n := n) (v := (j : Int)) (by omega) (by omega)
  refine Ev.ite_t (decide_eq_true (by omega)) (Ev.join ?_)
  unfold pairF
  rcases hx with e | e
  · rw [e]
    refine Ev.ite_t rfl (Ev.bindc (a := tab n a) rfl (Ev.bindc ha (Ev.bind (a := a (j : Int) && b (j : Int)) ?_ (Ev.bindc (tab_at (by omega) (by omega)) (Ev.const ?_)))))
    · cases a (j : Int)
      · exact Ev.const rfl
      · exact Ev.ite_t rfl (Ev.bindc (a := tab n b) rfl (Ev.bindc hb (Ev.const (by simp))))
    · rw [tab_set (by omega), W_succ hj (by omega), if_pos rfl]
  · rw [e]
    refine Ev.ite_f (by simp) (Ev.ite_t rfl (Ev.bindc (a := tab n a) rfl (Ev.bindc ha (Ev.bind (a := a (j : Int) || b (j : Int)) ?_ (Ev.bindc (tab_at (by omega) (by omega)) (Ev.const ?_))))))
    · cases a (j : Int)
      · exact Ev.ite_f (by simp) (Ev.bindc (a := tab n b) rfl (Ev.bindc hb (Ev.const (by simp))))
      · exact Ev.const rfl
    · rw [tab_set (by omega), W_succ hj (by omega), if_neg (show ¬ ((3 : Int) = 2) by decide)]
end
section
variable {t : Timpl_Lts} {n : Nat} (V : VL t n) (hl : ∀ s ∈ t.2.2.1, s.length ≤ 1048576)
include V hl
theorem whR1 {x : Timpl_Node} (hx : modP x = true) (hp : x.2.2.1.length ≤ 1048576) (a : Int → Bool) : Ev (fun m => whR m x t [tab n a]) (tab n (mst x t a t.2.2.2)) := by
  unfold whR
  refine Ev.bind (Ev.const' fun m => mod_impl) ?_
  rw [hx]
  exact Ev.ite_t rfl (Ev.bindc (a := tab n a) rfl (Ev.bind (step_impl V hl hp a) (Ev.pure _)))
/-- The tree of the first formula, its row, and what is left. -/
theorem tree_from : ∀ (k : Nat) (l : List Timpl_Node) (d : Nat), l.length ≤ k → shp l (d + 1) = true → (∀ x ∈ l, kindM x = true ∧ x.2.2.1.length ≤ 1048576) →
    ∃ g rest, stk t l = g :: stk t rest ∧ shp rest d = true ∧ rest.length < l.length ∧ (∀ x ∈ rest, x ∈ l) ∧
      ∃ M, ∀ m, M ≤ m → ∃ y : Ft m, impl_formulaFrom_m m l = some (y, rest) ∧ Pimpl_formula_where_m m y t = some (tab n g) := by
  intro k
  induction k with
  | zero =>
    intro l d hk hs _
    have : l = [] := List.length_eq_zero_iff.1 (by omega)
    subst this
    simp [shq] at hs
  | succ k ih =>
    intro l d hk hs hg
    cases l with
    | nil => simp [shq] at hs
    | cons x r =>
      have hs : shp r (d + opN x) = true := by simpa [shq] using hs
      rw [List.length_cons] at hk
      obtain ⟨hkx, hpx⟩ := hg x (by simp)
      have hgr : ∀ z ∈ r, kindM z = true ∧ z.2.2.1.length ≤ 1048576 := fun z hz => hg z (by simp [hz])
      obtain ⟨o2, o1, o0⟩ := op_kind hkx
      have hc : opN x = 0 ∨ opN x = 1 ∨ opN x = 2 := by have := opN_le x; omega
      rcases hc with e | e | e
      · have ex := o0.1 e
        obtain ⟨M, hM⟩ := whR0 V (x := x) (by unfold modP; rcases ex with q | q <;> rw [q] <;> rfl) (by omega) (by omega)
        refine ⟨_, r, comb0 e, by simpa [e] using hs, by simp, fun z hz => by simp [hz], M + 4, fun m hm => ?_⟩
        obtain ⟨q, rfl⟩ : ∃ q, m = q + 1 := ⟨m - 1, by omega⟩
        exact ⟨(x, []), from0 e (by omega), (wh0 (by omega)).trans (hM q (by omega))⟩
      · have ex := o1.1 e
        rw [e] at hs
        obtain ⟨g1, rest1, a1, a2, a3, a4, M1, a5⟩ := ih r d (by omega) hs hgr
        obtain ⟨M, hM⟩ := whR1 V hl (x := x) (by unfold modP; rcases ex with q | q <;> rw [q] <;> rfl) hpx g1
        refine ⟨mst x t g1 t.2.2.2, rest1, ?_, a2, by rw [List.length_cons]; omega, fun z hz => by simp [a4 z hz], M + M1 + 4, fun m hm => ?_⟩
        · show comb x t (stk t r) = _
          rw [a1, comb1 e]
        obtain ⟨q, rfl⟩ : ∃ q, m = q + 1 := ⟨m - 1, by omega⟩
        obtain ⟨y1, b1, b2⟩ := a5 q (by omega)
        exact ⟨(x, [y1]), from1 e (by omega) b1, (wh1 (by omega) b2).trans (hM q (by omega))⟩
      · have ex := o2.1 e
        rw [e] at hs
        obtain ⟨g1, rest1, a1, a2, a3, a4, M1, a5⟩ := ih r (d + 1) (by omega) hs hgr
        obtain ⟨g2, rest2, c1, c2, c3, c4, M2, c5⟩ := ih rest1 d (by omega) a2 fun z hz => hgr z (a4 z hz)
        obtain ⟨M, hM⟩ := whR2 V (x := x) ex g1 g2
        refine ⟨pairF x g1 g2, rest2, ?_, c2, by rw [List.length_cons]; omega, fun z hz => by simp [a4 z (c4 z hz)], M + M1 + M2 + 4, fun m hm => ?_⟩
        · show comb x t (stk t r) = _
          rw [a1, c1, comb2 e]
        obtain ⟨q, rfl⟩ : ∃ q, m = q + 1 := ⟨m - 1, by omega⟩
        obtain ⟨y1, b1, b2⟩ := a5 q (by omega)
        obtain ⟨y2, b3, b4⟩ := c5 q (by omega)
        exact ⟨(x, [y1, y2]), from2 e (by omega) b1 b3, (wh2 (by omega) b2 b4).trans (hM q (by omega))⟩
theorem tree_bind {f : List Timpl_Node} {g : Int → Bool} (hst : stk t f = [g]) (hs : shp f 1 = true) (hg : ∀ x ∈ f, kindM x = true ∧ x.2.2.1.length ≤ 1048576) {β : Type} {G : Nat → List Bool → Option β} {r : β} (hG : Ev (fun m => G m (tab n g)) r) :
    Ev (fun m => (impl_formulaOf_m m f).bind fun y => (Pimpl_formula_where_m m y t).bind (G m)) r := by
  obtain ⟨g', rest, a1, a2, _, _, M, hM⟩ := tree_from V hl f.length f 0 (Nat.le_refl _) hs hg
  have hr : rest = [] := by
    cases rest with
    | nil => rfl
    | cons y q => simp [shq] at a2
  rw [hr, hst] at a1
  have he : g' = g := by injection a1 with a1 _; exact a1.symm
  subst he
  obtain ⟨M2, hM2⟩ := hG
  refine ⟨M + M2, fun m hm => ?_⟩
  obtain ⟨y, b1, b2⟩ := hM m (by omega)
  show ((impl_formulaFrom_m m f).bind fun x => some x.1).bind _ = _
  rw [b1]
  show (Pimpl_formula_where_m m y t).bind _ = _
  rw [b2]
  exact hM2 m (by omega)
end
def GdNds (a : List Timpl_Node) : Prop := a.length ≤ 1048576 ∧ ∀ x ∈ a, x.2.2.1.length ≤ 1048576
/-- The reference's first question. -/
theorem both_spec {f : List Timpl_Node} {a : Timpl_Lts} (hf : GdNds f) (h1 : Ev (fun m => spec_l11Is_m m a) (validP a)) {β : Type} {C : Nat → Bool → Option β} {r : β} (hC : Ev (fun m => C m (!(vmP f && validP a))) r) :
    Ev (fun m => (spec_l14Is_m m f).bind fun x54 => (if (!x54) = true then some true else (spec_l11Is_m m a).bind fun x62 => some (!x62)).bind (C m)) r := by
  have h := modal_spec hf.2
  refine Ev.bind h ?_
  cases hv : vmP f
  · rw [hv] at hC
    exact Ev.bind (a := true) (Ev.const rfl) hC
  · rw [hv] at hC
    exact Ev.bind (a := !(validP a)) (Ev.ite_f (by simp) (Ev.bind h1 (Ev.pure _))) hC
theorem nd_of {f : List Timpl_Node} (hf : GdNds f) (hv : vmP f = true) : ∀ x ∈ f, kindM x = true ∧ x.2.2.1.length ≤ 1048576 := fun x hx => ⟨(vm_facts hv).2.2 x hx, hf.2 x hx⟩
theorem states_core {f : List Tlaws_Node} {a : Tlaws_Lts} (hf : GdNds f) (h : BLts a) : ∃ r, Ev (fun n => spec_StatesWhere_m n f a) r ∧ Ev (fun n => impl_StatesWhere_m n f a) r ∧ r.1.length ≤ 1048576 := by
  have h1 := valid_spec (t := a) h.1 h.2.1 h.2.2
  have h2 := valid_impl (t := a) h.1 h.2.1 h.2.2
  have hm := modal_impl hf.2
  unfold spec_StatesWhere_m impl_StatesWhere_m
  have both : ∀ {β : Type} {C : Nat → Bool → Option β} {r : β}, Ev (fun m => C m (!(vmP f && validP a))) r →
      Ev (fun m => (impl_ValidModal_m m f).bind fun x54 => (if (!x54) = true then some true else (impl_ValidLts_m m a).bind fun x62 => some (!x62)).bind (C m)) r := by
    intro β C r hC
    refine Ev.bind hm ?_
    cases hv : vmP f
    · rw [hv] at hC
      exact Ev.bind (a := true) (Ev.const rfl) hC
    · rw [hv] at hC
      exact Ev.bind (a := !(validP a)) (Ev.ite_f (by simp) (Ev.bind h2 (Ev.pure _))) hC
  cases hv : (vmP f && validP a)
  · exact ⟨([], 1), both_spec hf h1 (by rw [hv]; exact Ev.const rfl), both (by rw [hv]; exact Ev.const rfl), by simp⟩
  have hv' := hv
  rw [Bool.and_eq_true] at hv'
  obtain ⟨hv1, hv2⟩ := hv'
  obtain ⟨n, V⟩ := valid_of hv2
  have htop := V.top
  obtain ⟨⟨q1, q2⟩, q3, q4⟩ := vm_facts hv1
  obtain ⟨g, hst, hev⟩ := holds_spec V h.2.1 q2 q3 q4 hf.2
  have hlen : (tab n g).length ≤ 1048576 := by rw [tab_len]; omega
  refine ⟨(trues (tab n g), 0), both_spec hf h1 ?_, both ?_, by have := trues_len (tab n g); exact Nat.le_trans this hlen⟩
  · rw [hv]
    exact Ev.ite_f (by simp) (Ev.bind hev (Ev.bind (list_spec hlen) (Ev.pure _)))
  · rw [hv]
    refine Ev.ite_f (by simp) ?_
    exact tree_bind V h.2.1 (r := (trues (tab n g), 0)) hst q3 (nd_of hf hv1) (G := fun m x78 => (impl_trueAt_m m x78).bind fun x85 => some ((x85, (0 : Int)))) (Ev.bind (true_impl hlen) (Ev.pure _))
set_option maxHeartbeats 4000000 in
theorem law_StatesWhere {f : List Tlaws_Node} {a : Tlaws_Lts} (g_f : (GNds) f) (g_a : (GLts) a) : ∃ n, laws_FnExactStatesWhere_m n f a = some true := by
  have hm : maxLen = 9223372036854775807 := by unfold maxLen; rfl
  refine Ev.one (f := fun n => laws_FnExactStatesWhere_m n f a) ?_
  unfold laws_FnExactStatesWhere_m
  obtain ⟨r1, h1, s1⟩ := sz_nodes g_f (b := (1048576 : Int)) (by omega) (by omega)
  refine Ev.bind h1 ?_
  by_cases n1 : r1 < 0
  · exact Ev.ite_t (decide_eq_true n1) (Ev.pure _)
  rcases s1 with s1 | ⟨p1, q1, B_f⟩
  · exact absurd s1 n1
  refine Ev.ite_f (by simpa using n1) ?_
  obtain ⟨r2, h2, s2⟩ := sz_lts g_a (b := r1) (by omega) (by omega)
  refine Ev.bind h2 ?_
  by_cases n2 : r2 < 0
  · exact Ev.ite_t (decide_eq_true n2) (Ev.pure _)
  rcases s2 with s2 | ⟨p2, q2, B_a⟩
  · exact absurd s2 n2
  refine Ev.ite_f (by simpa using n2) ?_
  obtain ⟨r, hs, hi, B_r0⟩ := states_core B_f B_a
  have to_f_ := toB_nodes B_f
  have eq_f_ := eqB_nodes B_f
  have to_a_ := toB_lts B_a
  have eq_a_ := eqB_lts B_a
  have eq_r0 := eqB_ints (a := r.1) B_r0
  obtain ⟨k_f, ys_f, m_f, m1_f, m2_f⟩ := marksA_nodes (k := (1 : Int)) B_f (by omega) (by omega)
  obtain ⟨k_a, ys_a, m_a, m1_a, m2_a⟩ := marksA_lts (k := k_f) B_a (by omega) (by omega)
  obtain ⟨k_r0, ys_r0, m_r0, m0_r0, m1_r0, m2_r0⟩ := marksB_ints (k := (1 : Int)) (a := r.1) B_r0 (by omega) (by omega)
  repeat (first
    | exact Ev.pure _
    | refine Ev.bind (by with_reducible assumption) ?_
    | refine Ev.ite_f (by first | (simp; done) | (simp; omega)) ?_
    | refine Ev.bind (Ev.ite_f (by first | (simp; done) | (simp; omega)) (Ev.bind (by with_reducible assumption) (Ev.pure _))) ?_
    | refine Ev.bind (a := false) (Ev.ite_f (by first | (simp; done) | (simp; omega)) (Ev.const (by simp))) ?_
    | refine Ev.bind (a := false) (Ev.ite_f (by first | (simp; done) | (simp; omega)) (Ev.bind (by with_reducible assumption) (Ev.const (by simp)))) ?_
    | refine Ev.bindc (by with_reducible rfl) ?_)
end Go.Proofs.YtnkpniekdipgaaaGreatDoor

