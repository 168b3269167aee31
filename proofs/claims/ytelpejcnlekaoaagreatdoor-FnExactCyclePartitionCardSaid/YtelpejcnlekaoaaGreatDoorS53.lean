/-
  The plain laws of a statement, joined into one text.
-/
import Derived.Test.YtelpejcnlekaoaaGreatDoorF0
import Derived.Test.YtelpejcnlekaoaaGreatDoorF1
import Derived.Test.YtelpejcnlekaoaaGreatDoorF2
import Derived.Test.YtelpejcnlekaoaaGreatDoorF3
import Derived.Test.YtelpejcnlekaoaaGreatDoorF4
import Derived.Test.YtelpejcnlekaoaaGreatDoorFS
import Derived.Test.YtelpejcnlekaoaaGreatDoorGxI
import Derived.Test.YtelpejcnlekaoaaGreatDoorGxJ
import Derived.Test.YtelpejcnlekaoaaGreatDoorGxP
import Derived.Test.YtelpejcnlekaoaaGreatDoorGxU
import Derived.Test.YtelpejcnlekaoaaGreatDoorGxZ
import Derived.Test.YtelpejcnlekaoaaGreatDoorLCyclePartition
namespace Go.Proofs.YtelpejcnlekaoaaGreatDoor
open Go.Gx
theorem eq_ints {a : List Int} (hl : a.length ≤ maxLen) : Ev (fun n => laws_eqInt64S_m n a a) true := eq_loop_ints hl
theorem l00In_eq {n : Nat} {a b c : Int} : spec_l00In_m n a b c = some (decide (b ≤ a) && decide (a ≤ c)) := by
  unfold spec_l00In_m
  by_cases h : b ≤ a <;> simp [h]
theorem within_eq {n : Nat} {a b c : Int} : impl_within_m n a b c = some (decide (b ≤ a) && decide (a ≤ c)) := by
  unfold impl_within_m
  by_cases h : b ≤ a <;> simp [h]
theorem index_eq {n : Nat} {a b : Int} : impl_index_m n a b = some (decide (0 ≤ a) && decide (a ≤ W (b - 1))) := by
  unfold impl_index_m
  simp [within_eq]

/-! ### changes of the sign -/
/-! ### marks -/
theorem marks_ints {a : List Int} {k : Int} (hl : a.length ≤ 1048576) (h0 : 1 ≤ k) (hk : k ≤ 4611686018427387904 - 1048576) :
    ∃ k' ys, Ev (fun n => laws_markInt64S_m n a k) (k', ys) ∧ Ev (fun n => laws_heldInt64S_m n ys k) k' ∧ k ≤ k' ∧ k' ≤ k + (a.length * 1 : Nat) ∧ ys.length = a.length := by
  unfold laws_markInt64S_m laws_heldInt64S_m
  refine mark_held (p := fun _ => True) (fun _ _ => trivial) h0 (by omega)
    (fun xs k i x hxl hx _ h1 h2 => ⟨k, k + 1, Ev.const' fun m => ?_, by omega, by omega, fun ys hyl hy => Ev.const' fun m => ?_⟩) (fun xs k hxl => ?_) (fun ys k hyl => ?_)
  · have hi : i < xs.length := (List.getElem?_eq_some_iff.1 hx).1
    simp [idx_at hx, W_succ (k := i) (n := xs.length) hi (by omega), W_of (n := k + 1) (by omega) (by omega), hi]
  · have hi : i < ys.length := (List.getElem?_eq_some_iff.1 hy).1
    simp [idx_at hy, W_succ (k := i) (n := ys.length) hi (by omega), W_of (n := k + 1) (by omega) (by omega), hi]
  · exact Ev.const' fun m => by simp [hxl]
  · exact Ev.const' fun m => by simp [hyl]

/-! ### places in a list -/
def pos (xs : List Int) (c : Int) : Int := match xs.findIdx? (· == c) with
  | some k => (k : Int)
  | none => -1

theorem pos_of {xs : List Int} {c r : Int} (h : (r = -1 ∧ xs.all (fun x => !(x == c)) = true) ∨ ∃ k x, k < xs.length ∧ r = (k : Int) ∧ xs[k]? = some x ∧ (!(x == c)) = false ∧ ∀ j y, j < k → xs[j]? = some y → (!(y == c)) = true) : r = pos xs c := by
  unfold pos
  rcases h with ⟨rfl, h⟩ | ⟨k, x, hk, rfl, hx, hc, hj⟩
  · have : xs.findIdx? (· == c) = none := by
      rw [List.findIdx?_eq_none_iff]
      intro x hx
      rw [List.all_eq_true] at h
      simpa using h x hx
    rw [this]
  · have : xs.findIdx? (· == c) = some k := by
      rw [List.findIdx?_eq_some_iff_getElem]
      refine ⟨hk, ?_, fun j hjk => ?_⟩
      · have : xs[k] = x := by rw [List.getElem?_eq_getElem hk] at hx; exact Option.some.inj hx
        rw [this]; simpa using hc
      · have := hj j xs[j] hjk (List.getElem?_eq_getElem (by omega))
        simpa using this
    rw [this]

theorem pos_ge {xs : List Int} {c : Int} : 0 ≤ pos xs c ↔ c ∈ xs := by
  unfold pos
  cases h : xs.findIdx? (· == c) with
  | none =>
    rw [List.findIdx?_eq_none_iff] at h
    constructor
    · intro h'; exact absurd h' (by decide)
    · intro hc; have := h c hc; simp at this
  | some k =>
    obtain ⟨hk, h1, _⟩ := List.findIdx?_eq_some_iff_getElem.1 h
    constructor
    · intro _
      have : xs[k] = c := by simpa using h1
      exact this ▸ List.getElem_mem hk
    · intro _; simp
theorem index_ints {xs : List Int} {c : Int} (hl : xs.length ≤ maxLen) : Ev (fun m => slices_Index__int64_int64_m m xs c) (pos xs c) := by
  obtain ⟨r, h1, h2⟩ := index_loop hl (f := fun _ x => some (c == x)) (ok := fun x => !(x == c)) (fun x _ => Ev.const (by rw [Bool.not_not, Bool.beq_comm]))
  rw [pos_of h2] at h1
  exact h1
theorem contains_ints {xs : List Int} {c : Int} (hl : xs.length ≤ maxLen) : Ev (fun m => slices_Contains__int64_int64_m m xs c) (decide (c ∈ xs)) :=
  Ev.eq (Ev.bind (index_ints hl) (Ev.pure _)) (by rw [decide_eq_decide]; exact pos_ge)

/-! ### letters and names -/
def small (b : UInt8) : Bool := decide ((97 : Int) ≤ (b.toNat : Int)) && decide ((b.toNat : Int) ≤ 122)
def dg (b : UInt8) : Bool := decide ((48 : Int) ≤ (b.toNat : Int)) && decide ((b.toNat : Int) ≤ 57)
theorem dg_eq (b : UInt8) : dg b = isDig b := by
  unfold dg isDig
  rw [show decide ((48 : Int) ≤ (b.toNat : Int)) = decide (48 ≤ b.toNat) from decide_eq_decide.2 (by omega), show decide ((b.toNat : Int) ≤ 57) = decide (b.toNat ≤ 57) from decide_eq_decide.2 (by omega)]
theorem small_m {m : Nat} {b : UInt8} : spec_l01Small_m m (b.toNat : Int) = some (small b) := by unfold spec_l01Small_m; rw [and_some]; rfl
theorem dg_m {m : Nat} {b : UInt8} : spec_l01Digit_m m (b.toNat : Int) = some (dg b) := by unfold spec_l01Digit_m; rw [and_some]; rfl
theorem idg_m {m : Nat} {b : UInt8} : impl_isDigit_m m (b.toNat : Int) = some (dg b) := by unfold impl_isDigit_m; rw [and_some]; rfl

def okN (s : Str) (k : Nat) : Bool := match s[k]? with
  | none => true
  | some b => !(!(small b) && (((k : Int) == 0) || !(dg b)))
def okS (s : Str) (k : Nat) : Bool := match s[k]? with
  | none => true
  | some b => !(!(small b) && !(dg b))
def nameP (s : Str) : Bool := decide (1 ≤ s.length) && decide (s.length ≤ 10) && decide (∀ k, k < s.length → okN s k = true)
def actP (s : Str) : Bool := nameP s && (s != [116, 97, 117])

theorem name_impl {s : Str} (hl : s.length ≤ maxLen) : Ev (fun m => impl_IsName_m m s) (nameP s) := by
  have hm := maxLen_le
  unfold impl_IsName_m
  refine Ev.bind (EvI.all s.length (okN s) false (fun k hk hok => Ev.const' fun m => ?_) (fun k hk hok => Ev.const' fun m => ?_) (Ev.ite_f (by simp) (Ev.pure _))).ev (Ev.const ?_)
  · obtain ⟨b, hb⟩ := get_lt hk
    have hk' : decide ((k : Int) < (s.length : Int)) = true := by simpa using hk
    simp only [okN, hb] at hok
    have e : (!(small b) && (((k : Int) == 0) || !(dg b))) = false := by rwa [Bool.not_eq_true'] at hok
    unfold small at e
    simp only [hk', if_true, idx_at hb, Option.bind_some, and_some, idg_m, or_some, e, W_succ hk (by omega)]
    rfl
  · obtain ⟨b, hb⟩ := get_lt hk
    have hk' : decide ((k : Int) < (s.length : Int)) = true := by simpa using hk
    simp only [okN, hb] at hok
    have e : (!(small b) && (((k : Int) == 0) || !(dg b))) = true := by rwa [Bool.not_eq_false'] at hok
    unfold small at e
    simp only [hk', if_true, idx_at hb, Option.bind_some, and_some, idg_m, or_some, e]
  · unfold nameP
    rw [show decide (1 ≤ s.length) = decide ((1 : Int) ≤ (s.length : Int)) from decide_eq_decide.2 (by omega), show decide (s.length ≤ 10) = decide ((s.length : Int) ≤ 10) from decide_eq_decide.2 (by omega)]
    by_cases h : ∀ k, k < s.length → okN s k = true
    · rw [if_pos h, ctl_l, decide_eq_true h, Bool.and_true, and_some]; rfl
    · rw [if_neg h, ctl_r, decide_eq_false h, Bool.and_false]

theorem name_all {s : Str} {b : UInt8} {r : Str} (e : s = b :: r) : (∀ k, k < s.length → okN s k = true) ↔ small b = true ∧ ∀ k, k < s.length → okS s k = true := by
  subst e
  constructor
  · intro h
    have h0 := h 0 (by simp)
    simp [okN] at h0
    refine ⟨h0, fun k hk => ?_⟩
    have h1 := h k hk
    obtain ⟨c, hc⟩ := get_lt hk
    simp only [okN, okS, hc] at h1 ⊢
    cases hs : small c <;> cases hd : dg c <;> simp [hs, hd] at h1 ⊢
  · rintro ⟨h0, h⟩ k hk
    have h1 := h k hk
    obtain ⟨c, hc⟩ := get_lt hk
    simp only [okN, okS, hc] at h1 ⊢
    cases k with
    | zero => have : b = c := by simpa using hc
              subst this; simp [h0]
    | succ j =>
      have : (((j + 1 : Nat) : Int) == 0) = false := beq_false_of_ne (by omega)
      rw [this]
      simpa using h1

theorem name_spec {s : Str} (_hl : s.length ≤ maxLen) : Ev (fun m => spec_l01Name_m m s) (nameP s) := by
  have hm := maxLen_le
  unfold spec_l01Name_m
  cases hs : s with
  | nil => exact (Ev.const' fun m => rfl : Ev (fun m => _) false)
  | cons b r =>
    rw [← hs]
    have h1 : (s == ([] : Str)) = false := by rw [hs]; rfl
    have hb : s[0]? = some b := by rw [hs]; rfl
    simp only [h1, or_some, Option.bind_some, Bool.false_or]
    by_cases h2 : 10 < s.length
    · have h2' : decide ((10 : Int) < (s.length : Int)) = true := decide_eq_true (by omega)
      simp only [h2', if_true, Option.bind_some]
      refine (Ev.pure _).eq ?_
      unfold nameP
      rw [decide_eq_false (show ¬ s.length ≤ 10 by omega)]
      simp
    · have h2' : decide ((10 : Int) < (s.length : Int)) = false := decide_eq_false (by omega)
      have hi : idx s (0 : Int) = some b := idx_at (k := 0) hb
      simp only [h2', Bool.false_eq_true, if_false, hi, Option.bind_some, small_m]
      have hN := name_all hs
      have hlen : 1 ≤ s.length := by rw [hs]; simp
      cases h3 : small b with
      | false =>
        refine (Ev.ite_t (by rfl) (Ev.pure _)).eq ?_
        unfold nameP
        have : ¬ ∀ k, k < s.length → okN s k = true := fun h => by have := (hN.1 h).1; rw [h3] at this; cases this
        rw [decide_eq_false this, Bool.and_false]
      | true =>
        refine Ev.ite_f (by simp) ?_
        refine (Ev.all s.length (okS s) false true (fun k hk hok => Ev.const' fun m => ?_) (fun k hk hok => Ev.const' fun m => ?_) (Ev.ite_f (by simp) (Ev.pure _))).eq ?_
        · obtain ⟨c, hc⟩ := get_lt hk
          have hk' : decide ((k : Int) < (s.length : Int)) = true := by simpa using hk
          simp only [okS, hc] at hok
          have e : (!(small c) && !(dg c)) = false := by rwa [Bool.not_eq_true'] at hok
          simp only [hk', if_true, idx_at hc, Option.bind_some, dg_m, and_some, e, W_succ hk (by omega)]
          rfl
        · obtain ⟨c, hc⟩ := get_lt hk
          have hk' : decide ((k : Int) < (s.length : Int)) = true := by simpa using hk
          simp only [okS, hc] at hok
          have e : (!(small c) && !(dg c)) = true := by rwa [Bool.not_eq_false'] at hok
          simp only [hk', if_true, idx_at hc, Option.bind_some, dg_m, and_some, e]
        · unfold nameP
          rw [decide_eq_true hlen, decide_eq_true (show s.length ≤ 10 by omega)]
          by_cases h : ∀ k, k < s.length → okS s k = true
          · rw [if_pos h, decide_eq_true (hN.2 ⟨h3, h⟩)]; rfl
          · rw [if_neg h, decide_eq_false (fun h' => h (hN.1 h').2)]; rfl

theorem act_impl {s : Str} (hl : s.length ≤ maxLen) : Ev (fun m => impl_IsAction_m m s) (actP s) := by
  unfold impl_IsAction_m
  exact Ev.bind (name_impl hl) (Ev.const (by rw [and_some]; rfl))
theorem act_spec {s : Str} (hl : s.length ≤ maxLen) : Ev (fun m => spec_l01Action_m m s) (actP s) := by
  unfold spec_l01Action_m
  exact Ev.bind (name_spec hl) (Ev.const (by rw [and_some]; rfl))

/-! ### numbers -/
def numV (w : Str) : Int := (num w).getD 0
def numB (w : Str) : Bool := (num w).isSome
theorem dec_m {m : Nat} {n : Int} (h1 : -9223372036854775808 ≤ n) (h2 : n ≤ 9223372036854775807) : impl_Decimal_m m n = some (Lib.itoa n) := by
  unfold impl_Decimal_m strconv_FormatInt_m
  rw [if_pos ⟨rfl, h1, h2⟩]
  rfl
theorem read_dec {m : Nat} {w : Str} (hl : w.length ≤ 281474976710656) : impl_ReadDecimal_m m w = some (numV w, numB w) := by
  unfold impl_ReadDecimal_m strings_TrimPrefix_m
  rw [if_pos trivial]
  simp only [Option.bind_some]
  unfold numV numB
  rw [← rdDec_eq]
  unfold rdDec
  by_cases h : 18 < (Lib.trimPrefix w [45]).length
  · rw [if_pos h, if_pos (decide_eq_true (by omega))]; rfl
  · rw [if_neg h, if_neg (by rw [decide_eq_false (by omega)]; simp)]
    unfold strconv_ParseInt_m
    rw [if_pos ⟨rfl, rfl, hl⟩]
    cases hp : Lib.parseIntB 64 w with
    | ok v =>
      obtain ⟨h1, h2⟩ := parse_range hp
      simp only [Option.bind_some, dec_m h1 h2, Bool.false_eq_true, if_false]
      by_cases hi : Lib.itoa v = w
      · simp [hi]
      · have : (Lib.itoa v != w) = true := by simpa using hi
        simp [hi, this]
    | range => rfl
    | _ => rfl

theorem drop_take_succ {s : Str} {k i : Nat} {b : UInt8} (h : s[k]? = some b) (hi : i ≤ k) : (s.take (k + 1)).drop i = (s.take k).drop i ++ [b] := by
  rw [List.take_add_one, h, List.drop_append_of_le_length (by
    have : k < s.length := by
      rcases Nat.lt_or_ge k s.length with h' | h'
      · exact h'
      · rw [List.getElem?_eq_none h'] at h; cases h
    simp; omega)]
  rfl

theorem digits_loop {w : Str} (hl : w.length ≤ maxLen) {i : Nat} (hi : i ≤ w.length) (h18 : w.length - i ≤ 18) :
    Ev (fun m => iter (fun (s : (Int) × (Int)) => (match s with | (x59, x60) => (if (decide (x60 < (w.length : Int))) = true then (idx w x60).bind fun b88 => (spec_l01Digit_m m (b88.toNat : Int)).bind fun x92 => (if (!x92) = true then some (.inr (.inr ((0 : Int), false))) else (idx w x60).bind fun b96 => some (.inl ((W ((W ((10 : Int) * x59)) + (W (IntKind.u8.wrap ((b96.toNat : Int) - (48 : Int)))))), (W (x60 + (1 : Int)))))) else some (.inr (.inl (x59)))) : Option (((Int) × (Int)) ⊕ ((Int) ⊕ ((Int × Bool)))))) m ((0 : Int), (i : Int)))
      (if (w.drop i).all isDig = true then .inl (valN (w.drop i) : Int) else .inr ((0 : Int), false)) := by
  have hm := maxLen_le
  refine Exists.elim (EvI.count (step := fun m (s : (Int) × (Int)) => (match s with | (x59, x60) => (if (decide (x60 < (w.length : Int))) = true then (idx w x60).bind fun b88 => (spec_l01Digit_m m (b88.toNat : Int)).bind fun x92 => (if (!x92) = true then some (.inr (.inr ((0 : Int), false))) else (idx w x60).bind fun b96 => some (.inl ((W ((W ((10 : Int) * x59)) + (W (IntKind.u8.wrap ((b96.toNat : Int) - (48 : Int)))))), (W (x60 + (1 : Int)))))) else some (.inr (.inl (x59)))) : Option (((Int) × (Int)) ⊕ ((Int) ⊕ ((Int × Bool))))))
    w.length (fun k (_ : Unit) => ((valN ((w.take k).drop i) : Int), (k : Int))) (fun k _ => i ≤ k ∧ ((w.take k).drop i).all isDig = true)
    (fun r => r = (if (w.drop i).all isDig = true then .inl (valN (w.drop i) : Int) else .inr ((0 : Int), false))) ?hs ?hn hi (t := ()) ⟨Nat.le_refl _, by rw [List.drop_take_self]; rfl⟩) (fun res ⟨h1, h2⟩ => by
    subst h2
    rw [List.drop_take_self] at h1
    exact h1.ev)
  · rintro k t hk ⟨hik, hI⟩
    obtain ⟨b, hb⟩ := get_lt hk
    have hk' : decide ((k : Int) < (w.length : Int)) = true := by simpa using hk
    cases hd : isDig b with
    | true =>
      refine .inl ⟨(), Ev.const' fun m => ?_, by omega, ?_⟩
      · simp only [hk', if_true, idx_at hb, Option.bind_some, dg_m, dg_eq, hd, Bool.not_true, Bool.false_eq_true, if_false, W_succ hk (by omega)]
        have hb2 := dig_le hd
        have hv : valN ((w.take k).drop i) < 10 ^ 18 := val_small (by simp; omega) hI
        have hv2 : valN ((w.take (k + 1)).drop i) < 10 ^ 18 := val_small (by simp; omega) (by rw [drop_take_succ hb hik, List.all_append, hI]; simp [hd])
        rw [drop_take_succ hb hik, valN_snoc] at hv2 ⊢
        have e1 : IntKind.u8.wrap ((b.toNat : Int) - 48) = ((b.toNat - 48 : Nat) : Int) := by
          unfold IntKind.wrap
          simp [IntKind.signed, IntKind.bits]
          omega
        rw [e1, W_of (n := ((b.toNat - 48 : Nat) : Int)) (by omega) (by omega), W_of (n := 10 * (valN ((w.take k).drop i) : Int)) (by omega) (by omega), W_of (by omega) (by omega)]
        congr 3
      · rw [drop_take_succ hb hik, List.all_append, hI]; simp [hd]
    | false =>
      refine .inr ⟨.inr ((0 : Int), false), Ev.const' fun m => ?_, ?_⟩
      · simp only [hk', if_true, idx_at hb, Option.bind_some, dg_m, dg_eq, hd, Bool.not_false]
      · rw [if_neg]
        intro h
        rw [List.all_eq_true] at h
        have : b ∈ w.drop i := by
          have : (w.drop i)[k - i]? = some b := by rw [List.getElem?_drop, show i + (k - i) = k by omega]; exact hb
          exact List.mem_of_getElem? this
        rw [h b this] at hd
        cases hd
  · rintro t ⟨hik, hI⟩
    refine ⟨.inl (valN (w.drop i) : Int), Ev.const' fun m => ?_, ?_⟩
    · rw [List.take_length] at *
      simp
    · rw [List.take_length] at hI
      rw [if_pos hI]


def numRes (w : Str) (i : Nat) : Int × Bool :=
  if w.length = i ∨ 18 < w.length - i ∨ ((w.drop i).head? = some 48 ∧ 1 < w.length) then (0, false)
  else if (w.drop i).all isDig = true then (if i = 1 then -(valN (w.drop i) : Int) else (valN (w.drop i) : Int), true) else (0, false)

theorem num_body {w : Str} (hl : w.length ≤ maxLen) {i : Nat} {x : Int} (hx : x = (i : Int)) (hi : i ≤ w.length) :
    Ev (fun fuel => (if ((w.length : Int) == x) = true then some true else some (decide ((18 : Int) < (W ((w.length : Int) - x))))).bind fun t34 => (if t34 = true then some true else (idx w x).bind fun b40 => (if ((b40.toNat : Int) == (48 : Int)) = true then some (decide ((1 : Int) < (w.length : Int))) else some false).bind fun t42 => some t42).bind fun t37 => (if t37 = true then some (((0 : Int), false)) else (iter (fun (s : (Int) × (Int)) => (match s with | (x59, x60) => (if (decide (x60 < (w.length : Int))) = true then (idx w x60).bind fun b88 => (spec_l01Digit_m fuel (b88.toNat : Int)).bind fun x92 => (if (!x92) = true then some (.inr (.inr ((0 : Int), false))) else (idx w x60).bind fun b96 => some (.inl ((W ((W ((10 : Int) * x59)) + (W (IntKind.u8.wrap ((b96.toNat : Int) - (48 : Int)))))), (W (x60 + (1 : Int)))))) else some (.inr (.inl (x59)))) : Option (((Int) × (Int)) ⊕ ((Int) ⊕ ((Int × Bool)))))) fuel ((0 : Int), x)).bind fun res75 => ctl (β := Int) (ρ := (Int × Bool)) (τ := (Int × Bool)) res75 (fun (x74) => join (κ := Int → Option (Int × Bool)) (fun (x80 : Int) => some ((x80, true))) (fun K81 => (if (x == (1 : Int)) = true then (K81 (W (0 - x74))) else (K81 x74)))) (fun q => some (q)))) (numRes w i) := by
  have hm := maxLen_le
  subst hx
  unfold numRes
  by_cases h1 : w.length = i
  · have e1 : ((w.length : Int) == (i : Int)) = true := by rw [h1]; simp
    exact Ev.eq (r := ((0 : Int), false)) (Ev.const' fun m => by simp only [e1, if_true, Option.bind_some]) (if_pos (.inl h1)).symm
  · have e1 : ((w.length : Int) == (i : Int)) = false := beq_false_of_ne (by omega)
    have w1 : W ((w.length : Int) - (i : Int)) = (w.length : Int) - (i : Int) := W_of (by omega) (by omega)
    simp only [e1, Bool.false_eq_true, if_false, Option.bind_some, w1]
    by_cases h2 : 18 < w.length - i
    · have e2 : decide ((18 : Int) < (w.length : Int) - (i : Int)) = true := decide_eq_true (by omega)
      exact Ev.eq (r := ((0 : Int), false)) (Ev.const' fun m => by simp only [e2, if_true, Option.bind_some]) (if_pos (.inr (.inl h2))).symm
    · have e2 : decide ((18 : Int) < (w.length : Int) - (i : Int)) = false := decide_eq_false (by omega)
      obtain ⟨b, hb⟩ := get_lt (xs := w) (k := i) (by omega)
      have hh : (w.drop i).head? = some b := by rw [List.head?_drop]; exact hb
      simp only [e2, Bool.false_eq_true, if_false, idx_at hb, Option.bind_some, and_some]
      by_cases h3 : b = 48 ∧ 1 < w.length
      · have e3 : ((((b.toNat : Int) == 48) && decide ((1 : Int) < (w.length : Int)))) = true := by
          rw [h3.1, decide_eq_true (by omega : (1 : Int) < (w.length : Int))]; rfl
        exact Ev.eq (r := ((0 : Int), false)) (Ev.ite_t e3 (Ev.pure _)) (if_pos (.inr (.inr ⟨by rw [hh, h3.1], h3.2⟩))).symm
      · have e3 : ¬ ((((b.toNat : Int) == 48) && decide ((1 : Int) < (w.length : Int)))) = true := by
          intro h
          rw [Bool.and_eq_true] at h
          refine h3 ⟨?_, by have := of_decide_eq_true h.2; omega⟩
          have := beq_iff_eq.1 h.1
          exact UInt8.toNat_inj.1 (show b.toNat = 48 by omega)
        refine Ev.eq ?_ (if_neg (by
          rintro (h | h | ⟨h, h'⟩)
          · exact h1 h
          · exact h2 h
          · rw [hh] at h; exact h3 ⟨by simpa using h, h'⟩)).symm
        refine Ev.ite_f e3 (Ev.bind (digits_loop hl hi (by omega)) (Ev.const ?_))
        by_cases hd : (w.drop i).all isDig = true
        · have hv := val_small (ds := w.drop i) (by simp; omega) hd
          rw [if_pos hd, if_pos hd, ctl_l]
          show (if ((i : Int) == (1 : Int)) = true then some (W (0 - (valN (w.drop i) : Int)), true) else some ((valN (w.drop i) : Int), true)) = _
          by_cases hi1 : i = 1
          · subst hi1
            rw [if_pos (by rfl), if_pos rfl, W_of (by omega) (by omega)]
            congr 2
            omega
          · rw [if_neg (by intro h; have := beq_iff_eq.1 h; omega), if_neg hi1]
        · rw [if_neg hd, if_neg hd, ctl_r]

theorem num_minus (r : Str) : num (45 :: r) = if okD r = true ∧ r.head? ≠ some 48 then some (-(valN r : Int)) else none := by
  unfold num
  rw [if_pos (show (45 :: r : Str).head? = some 45 from rfl)]
  rfl
theorem numRes_neg (r : Str) : numRes (45 :: r) 1 = (numV (45 :: r), numB (45 :: r)) := by
  unfold numRes numV numB
  rw [num_minus]
  simp only [List.drop_succ_cons, List.drop_zero, List.length_cons, Nat.add_sub_cancel, if_true]
  by_cases h : okD r = true ∧ r.head? ≠ some 48
  · obtain ⟨h1, h2, h3⟩ := okD_iff.1 h.1
    have hp := List.length_pos_iff.2 h1
    rw [if_pos h, if_neg (by rintro (g | g | ⟨g, _⟩) <;> first | omega | exact h.2 g), if_pos h3]
    rfl
  · rw [if_neg h]
    split
    · rfl
    · rename_i hc
      split
      · rename_i hd
        exfalso
        apply h
        refine ⟨okD_iff.2 ⟨fun e => hc (.inl (by rw [e]; rfl)), by omega, hd⟩, fun e => hc (.inr (.inr ⟨e, ?_⟩))⟩
        cases r with
        | nil => cases e
        | cons _ _ => simp
      · rfl
theorem numRes_pos {w : Str} (hw : w.head? ≠ some 45) : numRes w 0 = (numV w, numB w) := by
  unfold numRes numV numB num
  rw [if_neg hw]
  simp only [List.drop_zero, Nat.sub_zero, Nat.zero_ne_one, if_false]
  by_cases h : okD w = true ∧ (w.head? ≠ some 48 ∨ w.length = 1)
  · obtain ⟨h1, h2, h3⟩ := okD_iff.1 h.1
    have hp := List.length_pos_iff.2 h1
    rw [if_pos h, if_neg (by rintro (g | g | ⟨g, g'⟩) <;> first | omega | exact h.2.elim (fun x => x g) (fun x => by omega)), if_pos h3]
    rfl
  · rw [if_neg h]
    split
    · rfl
    · rename_i hc
      split
      · rename_i hd
        exfalso
        apply h
        have hp : 0 < w.length := by
          rcases Nat.eq_zero_or_pos w.length with g | g
          · exact absurd (.inl g) hc
          · exact g
        refine ⟨okD_iff.2 ⟨fun e => hc (.inl (by rw [e]; rfl)), by omega, hd⟩, ?_⟩
        by_cases g : w.head? = some 48
        · right
          rcases Nat.lt_or_ge 1 w.length with g' | g'
          · exact absurd (.inr (.inr ⟨g, g'⟩)) hc
          · omega
        · exact .inl g
      · rfl

theorem num_spec {w : Str} (hl : w.length ≤ maxLen) : Ev (fun m => spec_l01Number_m m w) (numV w, numB w) := by
  have hm := maxLen_le
  unfold spec_l01Number_m
  refine Ev.join ?_
  cases hw : w with
  | nil => 
    rw [← hw]
    have e : decide ((0 : Int) < (w.length : Int)) = false := by rw [hw]; rfl
    simp only [e, Bool.false_eq_true, if_false, Option.bind_some]
    exact (num_body hl (i := 0) (x := 0) rfl (Nat.zero_le _)).eq (numRes_pos (by rw [hw]; simp))
  | cons b r =>
    rw [← hw]
    have e : decide ((0 : Int) < (w.length : Int)) = true := by rw [hw]; simp
    have hb : idx w (0 : Int) = some b := idx_at (k := 0) (by rw [hw]; rfl)
    refine Ev.bindc (a := ((b.toNat : Int) == (45 : Int))) (by simp only [e, if_true, hb, Option.bind_some]) ?_
    by_cases h : b = 45
    · subst h
      refine Ev.ite_t (by rfl) ?_
      exact (num_body hl (i := 1) (x := 1) rfl (by rw [hw]; simp)).eq (by rw [hw]; exact numRes_neg r)
    · refine Ev.ite_f (fun g => h ?_) ?_
      · have := beq_iff_eq.1 g
        exact UInt8.toNat_inj.1 (show b.toNat = 45 by omega)
      · exact (num_body hl (i := 0) (x := 0) rfl (Nat.zero_le _)).eq (numRes_pos (by rw [hw]; simpa using h))
theorem mx : 4294967296 ≤ maxLen ∧ maxLen ≤ 9223372036854775807 := by unfold maxLen; omega

/-! ### the library's functions -/
theorem split_lib {m : Nat} {s : Str} (hl : s.length < 4294967281) : strings_Split_m m s [44] = some (splitC 44 s) := by
  unfold strings_Split_m
  have hc : Lib.countB ⟨s.toArray⟩ ⟨([44] : Str).toArray⟩ = Lib.count s [44] := rfl
  have h3 := Lib.splitB_all ⟨([44] : Str).toArray⟩ (by decide) 0 _ ⟨s.toArray⟩ rfl
  have h4 := Lib.countB_le ⟨([44] : Str).toArray⟩ (by decide) _ ⟨s.toArray⟩ (Nat.le_refl _)
  have h5 : (⟨s.toArray⟩ : ByteArray).size = s.length := size_sv s
  have h6 := mx
  rw [if_pos ⟨hl, by decide, h3, by omega⟩, Lib.splitB_data]
  exact congrArg some (splitK_eq 44 s)
theorem cut_lib {m : Nat} {s : Str} (hl : s.length < 4294967281) : strings_Cut_m m s [40] = some (if (40 : UInt8) ∈ s then (pre 40 s, suf 40 s, true) else (s, [], false)) := by
  unfold strings_Cut_m
  rw [if_pos hl, cut_one]
theorem trimS_lib {m : Nat} {s : Str} (hl : s.length < 4294967281) : strings_TrimSuffix_m m s [41] = some (if s.getLast? = some 41 then s.dropLast else s) := by
  unfold strings_TrimSuffix_m
  rw [if_pos (by omega), suf_one]

/-! ### splitting -/
theorem splitC_snoc_eq (c : UInt8) : ∀ s : Str, splitC c (s ++ [c]) = splitC c s ++ [[]]
  | [] => by simp [splitC]
  | a :: r => by
    have ih := splitC_snoc_eq c r
    rw [List.cons_append]
    unfold splitC
    rw [ih]
    split
    · rfl
    · cases hr : splitC c r with
      | nil => exact absurd hr (splitC_ne c r)
      | cons x t => rfl
theorem splitC_snoc_ne {c b : UInt8} (hb : b ≠ c) : ∀ (s : Str) (o : List Str) (l : Str), splitC c s = o ++ [l] → splitC c (s ++ [b]) = o ++ [l ++ [b]]
  | [], o, l, h => by
    have h' : [([] : Str)] = o ++ [l] := h
    have : o = [] := by
      cases o with
      | nil => rfl
      | cons _ t => simp at h'
    subst this
    have : l = [] := by simpa using h'.symm
    subst this
    simp [splitC, hb]
  | a :: r, o, l, h => by
    rw [List.cons_append]
    unfold splitC at h ⊢
    by_cases ha : a = c
    · rw [if_pos ha] at h ⊢
      cases o with
      | nil =>
        exfalso
        have : splitC c r = [] := by simpa using (List.cons.inj h).2
        exact splitC_ne c r this
      | cons x o' =>
        rw [List.cons_append] at h ⊢
        obtain ⟨h1, h2⟩ := List.cons.inj h
        rw [← h1, splitC_snoc_ne hb r o' l h2]
    · rw [if_neg ha] at h ⊢
      rcases snoc_or (splitC c r) with hr | ⟨o', l', hr⟩
      · exact absurd hr (splitC_ne c r)
      · have ih := splitC_snoc_ne hb r o' l' hr
        rw [ih]
        rw [hr] at h
        cases o' with
        | nil =>
          simp only [List.nil_append, List.headD_cons, List.tail_cons] at h ⊢
          have : o = [] := by
            cases o with
            | nil => rfl
            | cons _ t => simp at h
          subst this
          have : l = a :: l' := by simpa using h.symm
          subst this
          rfl
        | cons x o'' =>
          simp only [List.cons_append, List.headD_cons, List.tail_cons] at h ⊢
          cases o with
          | nil => simp at h
          | cons y o3 =>
            rw [List.cons_append] at h ⊢
            obtain ⟨h1, h2⟩ := List.cons.inj h
            obtain ⟨h3, h4⟩ := List.append_inj' h2 rfl
            have : l' = l := by simpa using h4
            rw [h1, h3, this]

theorem split_spec {s : Str} (hl : s.length < 4294967281) : Ev (fun m => spec_l01Split_m m s 44) (splitC 44 s) := by
  have hm := mx
  unfold spec_l01Split_m
  refine Exists.elim (EvI.count (step := _) s.length (fun k (t : List Str × Nat) => (t.1, (t.2 : Int), (k : Int))) (fun k t => t.2 ≤ k ∧ splitC 44 (s.take k) = t.1 ++ [(s.take k).drop t.2])
    (fun r => ∃ (o : List Str) (f : Nat), r = .inl (o, (f : Int)) ∧ f ≤ s.length ∧ splitC 44 s = o ++ [s.drop f]) ?_ ?_ (k := 0) (t := ([], 0)) (Nat.zero_le _) ⟨Nat.le_refl _, rfl⟩)
    (fun res ⟨h1, o, f, h2, h3, h4⟩ => Ev.bind h1.ev (by
      subst h2
      have hlen : o.length ≤ s.length + 1 := by
        have := splitC_len 44 s
        rw [h4] at this
        simp at this
        omega
      rw [h4]
      have hs : sub s (f : Int) (s.length : Int) = some (s.drop f) := by rw [sub_ok h3 (Nat.le_refl _), List.take_length]
      exact Ev.bindc hs (Ev.bindc (app_ok (by simp; omega)) (Ev.pure _))))
  · rintro k ⟨o, f⟩ hk ⟨hf, hI⟩
    have hf : f ≤ k := hf
    have hI : splitC 44 (s.take k) = o ++ [(s.take k).drop f] := hI
    obtain ⟨b, hb⟩ := get_lt hk
    have hk' : decide ((k : Int) < (s.length : Int)) = true := by simpa using hk
    have htk : s.take (k + 1) = s.take k ++ [b] := by rw [List.take_add_one, hb]; rfl
    left
    by_cases h : b = 44
    · subst h
      have hlen : o.length ≤ s.length := by
        have := splitC_len 44 (s.take k)
        rw [hI] at this
        simp at this
        omega
      refine ⟨(o ++ [(s.take k).drop f], k + 1), Ev.ite_t hk' (Ev.join (Ev.bindc (idx_at hb) (Ev.ite_t (by rfl) (Ev.bindc (sub_ok hf (by omega)) (Ev.bindc (app_ok (by simp; omega)) (Ev.const ?_)))))), Nat.le_refl _, ?_⟩
      · rw [W_succ hk (by omega)]
      · show splitC 44 (s.take (k + 1)) = _
        rw [htk, splitC_snoc_eq, hI]
        congr 2
        rw [List.drop_eq_nil_of_le (by simp; omega)]
    · refine ⟨(o, f), Ev.ite_t hk' (Ev.join (Ev.bindc (idx_at hb) (Ev.ite_f ?_ (Ev.const ?_)))), by show f ≤ k + 1; omega, ?_⟩
      · intro g
        have := beq_iff_eq.1 g
        exact h (UInt8.toNat_inj.1 (show b.toNat = 44 by omega))
      · rw [W_succ hk (by omega)]
      · show splitC 44 (s.take (k + 1)) = o ++ [(s.take (k + 1)).drop f]
        rw [htk, splitC_snoc_ne h _ _ _ hI, List.drop_append_of_le_length (by simp; omega)]
  · rintro ⟨o, f⟩ ⟨hf, hI⟩
    refine ⟨_, Ev.ite_f (by simp) (Ev.pure _), o, f, rfl, hf, ?_⟩
    rw [List.take_length] at hI
    exact hI

/-! ### lists of numbers -/
theorem fill_iter {α β ρ : Type} {to' : Nat → α → Option β} {f : α → β} {a : List α} {z : β} (hto : ∀ x ∈ a, Ev (fun n => to' n x) (f x)) (hl : a.length ≤ 1048576) :
    EvI (fun n (s : (List β) × (Int)) => (match s with | (xs35, x36) => (if (decide (x36 < (a.length : Int))) = true then (idx a x36).bind fun x75 => (to' n x75).bind fun x92 => (idx xs35 x36).bind fun _ => some (.inl ((xs35.set x36.toNat x92), (W (x36 + (1 : Int))))) else some (.inr (.inl (xs35)))) : Option (((List β) × (Int)) ⊕ (((List β)) ⊕ (ρ))))) (List.replicate a.length z, (0 : Int)) (.inl (a.map f)) := by
  refine EvI.upto a.length (fun k (t : List β) => (t, (k : Int))) (fun k t => t = (a.take k).map f ++ List.replicate (a.length - k) z) (k := 0) (t := List.replicate a.length z) rfl (Nat.zero_le _) (by simp) (fun k t hk ht => ?_) (fun t ht => ?_)
  · obtain ⟨x, hx⟩ : ∃ x, a[k]? = some x := ⟨a[k], List.getElem?_eq_getElem hk⟩
    have hlen : ((a.take k).map f).length = k := by simp; omega
    have hi : t[k]? = some z := by
      rw [ht, List.getElem?_append_right (by omega), hlen, List.getElem?_replicate, if_pos (by omega)]
    refine ⟨_, (Ev.ite_t (by simpa using hk) (Ev.bindc (idx_at hx) (Ev.bind (hto x (List.mem_of_getElem? hx)) (Ev.bindc (idx_at hi) (Ev.pure (Sum.inl (t.set (k : Int).toNat (f x), W ((k : Int) + 1)))))))).eq ?_, rfl⟩
    rw [W_of (by omega) (by omega)]
    refine congrArg Sum.inl (Prod.ext ?_ rfl)
    show t.set (k : Int).toNat (f x) = _
    rw [ht, Int.toNat_natCast, List.set_append_right _ _ (by omega), hlen]
    rw [List.take_add_one, hx, List.map_append, List.append_assoc]
    congr 1
    rw [show a.length - k = (a.length - (k + 1)) + 1 by omega, List.replicate_succ]
    simp
  · refine (Ev.ite_f (by simp) (Ev.pure _)).eq ?_
    rw [ht]; simp

def val63 (n : Int) : Bool := decide (0 ≤ n) && decide (n ≤ 63)
def dots (vs : List Int) : Str := Lib.join (vs.map Lib.itoa) [44]

theorem read_nums {ws : List Str} (hl : ws.length < 4294967282) (hw : ∀ w ∈ ws, w.length ≤ 281474976710656) :
    Ev (fun m => impl_readNumbers_m m ws) (if ws.all numB = true then (ws.map numV, true) else ([], false)) := by
  have hm := mx
  unfold impl_readNumbers_m
  refine Exists.elim (EvI.count (step := _) ws.length (fun k (_ : Unit) => ((ws.take k).map numV, (k : Int))) (fun k _ => (ws.take k).all numB = true)
    (fun r => r = (if ws.all numB = true then .inl (ws.map numV) else .inr ([], false))) ?_ ?_ (k := 0) (t := ()) (Nat.zero_le _) rfl)
    (fun res ⟨h1, h2⟩ => Ev.bind h1.ev (by
      subst h2
      by_cases h : ws.all numB = true
      · rw [if_pos h, if_pos h]; exact Ev.pure _
      · rw [if_neg h, if_neg h]; exact Ev.pure _))
  · intro k t hk hI
    obtain ⟨w, hw'⟩ := get_lt hk
    have hk' : decide ((k : Int) < (ws.length : Int)) = true := by simpa using hk
    have htk : ws.take (k + 1) = ws.take k ++ [w] := by rw [List.take_add_one, hw']; rfl
    have hrd : ∀ m, impl_ReadDecimal_m m w = some (numV w, numB w) := fun m => read_dec (hw w (List.mem_of_getElem? hw'))
    cases hb : numB w with
    | true =>
      left
      refine ⟨(), Ev.ite_t hk' (Ev.bindc (idx_at hw') (Ev.bind (Ev.const' hrd) (Ev.ite_f (by simp [hb]) (Ev.bindc (app_ok (by simp; omega)) (Ev.const ?_))))), ?_⟩
      · rw [W_succ hk (by omega), htk, List.map_append]; rfl
      · rw [htk, List.all_append, hI]; simp [hb]
    | false =>
      right
      refine ⟨_, Ev.ite_t hk' (Ev.bindc (idx_at hw') (Ev.bind (Ev.const' hrd) (Ev.ite_t (by simp [hb]) (Ev.pure _)))), ?_⟩
      rw [if_neg]
      intro h
      rw [List.all_eq_true] at h
      rw [h w (List.mem_of_getElem? hw')] at hb
      cases hb
  · intro t hI
    refine ⟨_, Ev.ite_f (by simp) (Ev.pure _), ?_⟩
    rw [List.take_length] at *
    rw [if_pos hI]

theorem itoa_small : ∀ k : Fin 64, (Lib.itoa (k.val : Int)).length ≤ 2 := by
  intro k
  have e : Lib.itoa (k.val : Int) = Lib.decDigits k.val := by unfold Lib.itoa; rw [if_neg (by omega)]; simp
  rw [e]
  have := k.isLt
  by_cases h : k.val < 10
  · rw [Lib.decDigits_one h]; simp
  · rw [Lib.decDigits_two h (by omega)]; simp
theorem itoa_63 {n : Int} (h : val63 n = true) : (Lib.itoa n).length ≤ 2 := by
  unfold val63 at h
  simp at h
  have := itoa_small ⟨n.toNat, by omega⟩
  simp only [] at this
  rwa [show ((n.toNat : Nat) : Int) = n by omega] at this
theorem dots_len {vs : List Int} (h2 : vs.length ≤ 2) (h : vs.all val63 = true) : (dots vs).length ≤ 5 := by
  rw [List.all_eq_true] at h
  unfold dots
  match vs, h2, h with
  | [], _, _ => simp [Lib.join_nil]
  | [a], _, h =>
    have := itoa_63 (h a (by simp))
    rw [List.map_cons, List.map_nil, Lib.join_one]; omega
  | [a, b], _, h =>
    have := itoa_63 (h a (by simp))
    have := itoa_63 (h b (by simp))
    rw [List.map_cons, List.map_cons, List.map_nil, Lib.join_length]
    simp [Lib.lens]
    omega
theorem joined_ev {vs : List Int} (h2 : vs.length ≤ 2) (h : vs.all val63 = true) : Ev (fun m => impl_joined_m m vs [44]) (dots vs) := by
  unfold impl_joined_m
  have hd := dots_len h2 h
  refine Ev.bindc (mks_ok (by omega)) (Ev.bind (fill_iter (f := Lib.itoa) (to' := impl_Decimal_m) (a := vs) (z := ([] : Str)) (fun x hx => Ev.const' fun m => dec_m ?_ ?_) (by omega)).ev (Ev.const' fun m => ?_))
  · rw [List.all_eq_true] at h
    have := h x hx
    unfold val63 at this
    simp at this
    omega
  · rw [List.all_eq_true] at h
    have := h x hx
    unfold val63 at this
    simp at this
    omega
  · rw [ctl_l]
    unfold strings_Join_m
    rw [if_pos ⟨by simp; omega, by unfold dots at hd; omega⟩]
    rfl
theorem values_ev {vs : List Int} (hl : vs.length ≤ maxLen) : Ev (fun m => impl_areValues_m m vs) (vs.all val63) := by
  unfold impl_areValues_m slices_ContainsFunc__int64_int64_m slices_IndexFunc__int64_int64_m
  refine Ev.bind (contains_loop hl (f := fun m z => impl_areValues_1_m m z) (ok := val63) (fun x _ => Ev.const' fun m => ?_)) (Ev.const (by simp))
  unfold impl_areValues_1_m impl_isValue_m
  simp only [within_eq, Option.bind_some]
  rfl
def valsOk (ps : List Str) : Bool := ps.all fun w => numB w && val63 (numV w)
def labelP (s : Str) : Bool :=
  if (40 : UInt8) ∈ s then actP (pre 40 s) && decide (s.getLast? = some 41) && valsOk (splitC 44 (suf 40 s).dropLast) && decide ((splitC 44 (suf 40 s).dropLast).length ≤ 2)
  else nameP s

def labOf (n : Str) (vs : List Int) : Str × Bool :=
  if n = [116, 97, 117] then ([116, 97, 117], decide (vs.length = 0))
  else if actP n = true ∧ vs.length ≤ 2 ∧ vs.all val63 = true then (if vs.length = 0 then (n, true) else (n ++ [40] ++ dots vs ++ [41], true))
  else ([], false)

theorem label_of {n : Str} (hn : n.length ≤ 4294967296) {vs : List Int} (hv : vs.length ≤ maxLen) : Ev (fun m => impl_labelOf_m m n vs) (labOf n vs) := by
  have hm := mx
  unfold impl_labelOf_m labOf
  by_cases h1 : n = [116, 97, 117]
  · have e : (n == ([116, 97, 117] : Str)) = true := by rw [h1]; rfl
    rw [if_pos h1]
    refine Ev.ite_t e (Ev.const ?_)
    by_cases h : vs.length = 0
    · rw [h]; rfl
    · rw [decide_eq_false h, beq_false_of_ne (show ((vs.length : Int)) ≠ 0 by omega)]
  · have e : ¬ (n == ([116, 97, 117] : Str)) = true := by simpa using h1
    rw [if_neg h1]
    refine Ev.ite_f e (Ev.bind (act_impl (by omega)) ?_)
    by_cases h2 : actP n = true
    · simp only [h2, Bool.not_true, Bool.false_eq_true, if_false, Option.bind_some, true_and]
      by_cases h3 : vs.length ≤ 2
      · have e3 : decide ((2 : Int) < (vs.length : Int)) = false := decide_eq_false (by omega)
        simp only [e3, Bool.false_eq_true, if_false, h3, true_and]
        refine Ev.bind (Ev.bind (values_ev hv) (Ev.pure _)) ?_
        by_cases h4 : vs.all val63 = true
        · rw [if_pos h4]
          refine Ev.ite_f (by simp [h4]) ?_
          by_cases h5 : vs.length = 0
          · rw [if_pos h5]
            exact Ev.ite_t (by rw [h5]; rfl) (Ev.pure _)
          · rw [if_neg h5]
            have hd := dots_len h3 h4
            refine Ev.ite_f (by intro g; have := beq_iff_eq.1 g; omega) (Ev.bindc (show cat n [40] = some (n ++ [40]) from ?_) (Ev.bind (joined_ev h3 h4) (Ev.bindc (show cat (n ++ [40]) (dots vs) = some (n ++ [40] ++ dots vs) from ?_) (Ev.bindc (show cat (n ++ [40] ++ dots vs) [41] = some (n ++ [40] ++ dots vs ++ [41]) from ?_) (Ev.pure _)))))
            · unfold cat; rw [if_pos (by simp; omega)]
            · unfold cat; rw [if_pos (by simp; omega)]
            · unfold cat; rw [if_pos (by simp; omega)]
        · rw [if_neg h4]
          exact Ev.ite_t (by simpa using h4) (Ev.pure _)
      · have e3 : decide ((2 : Int) < (vs.length : Int)) = true := decide_eq_true (by omega)
        exact Ev.eq (r := (([] : Str), false)) (Ev.const' fun m => by simp only [e3, if_true, Option.bind_some]) (if_neg (fun h => h3 h.1)).symm
    · have e2 : (!actP n) = true := by simpa using h2
      exact Ev.eq (r := (([] : Str), false)) (Ev.const' fun m => by simp only [e2, if_true, Option.bind_some]) (if_neg (fun h => h2 h.1)).symm

theorem nums_join {ws : List Str} (h : ws.all numB = true) : (ws.map numV).map Lib.itoa = ws := by
  rw [List.map_map]
  rw [List.all_eq_true] at h
  conv => rhs; rw [← List.map_id ws]
  refine List.map_congr_left fun w hw => ?_
  have := h w hw
  unfold numB at this
  obtain ⟨v, hv⟩ := Option.isSome_iff_exists.1 this
  show Lib.itoa (numV w) = w
  unfold numV
  rw [hv]
  exact (num_some hv).1

theorem last_eq {s : Str} (h : (40 : UInt8) ∈ s) : s.getLast? = some 41 ↔ (suf 40 s).getLast? = some 41 := by
  conv => lhs; rw [pre_suf h]
  rw [List.getLast?_append]
  cases hs : suf 40 s with
  | nil => simp
  | cons b r =>
    rw [List.getLast?_cons_cons]
    cases hl : (b :: r).getLast? with
    | none => simp at hl
    | some c => simp

theorem name_tau : nameP [116, 97, 117] = true := by decide +kernel
theorem act_tau : actP [116, 97, 117] = false := by unfold actP; simp

theorem third {c : Bool} {a : Str} {b : List Int} : (if c = true then (([] : Str), ([] : List Int), false) else (a, b, true)).2.2 = !c := by cases c <;> rfl

theorem read_label {s : Str} (hl : s.length ≤ 1048576) : ∃ r, Ev (fun m => impl_readLabel_m m s) r ∧ r.2.2 = labelP s := by
  have hm := mx
  unfold impl_readLabel_m
  by_cases hc : (40 : UInt8) ∈ s
  · have hp := pre_len 40 s
    have hsf : (suf 40 s).length ≤ s.length := by unfold suf; simp
    have hcut : ∀ m, strings_Cut_m m s [40] = some (pre 40 s, suf 40 s, true) := fun m => by rw [cut_lib (by omega), if_pos hc]
    obtain ⟨t, ht⟩ : ∃ t, t = if (suf 40 s).getLast? = some 41 then (suf 40 s).dropLast else suf 40 s := ⟨_, rfl⟩
    have htl : t.length ≤ s.length := by rw [ht]; split <;> (try simp) <;> omega
    have htr : ∀ m, strings_TrimSuffix_m m (suf 40 s) [41] = some t := fun m => by rw [trimS_lib (by omega), ← ht]
    have hsp : ∀ m, strings_Split_m m t [44] = some (splitC 44 t) := fun m => split_lib (by omega)
    have hln := splitC_len 44 t
    have hne := List.length_pos_iff.2 (splitC_ne 44 t)
    have hrn := read_nums (ws := splitC 44 t) (by omega) (fun w hw => by have := splitC_mem 44 t w hw; omega)
    by_cases hn : (splitC 44 t).all numB = true
    · rw [if_pos hn] at hrn
      have hlo := label_of (n := pre 40 s) (by omega) (vs := (splitC 44 t).map numV) (by simp; omega)
      refine ⟨_, Ev.bind (Ev.const' hcut) (Ev.join (Ev.ite_t rfl (Ev.bind (Ev.const' htr) (Ev.bind (Ev.const' hsp) (Ev.bind hrn (Ev.ite_f (by simp) (Ev.bind hlo (Ev.const' fun m => by rw [or_some, Option.bind_some, ite_some])))))))), ?_⟩
      have hd : dots ((splitC 44 t).map numV) = t := by unfold dots; rw [nums_join hn, join_splitC]
      have hlast : (pre 40 s ++ [40] ++ t ++ [41] = s) ↔ (suf 40 s).getLast? = some 41 := by
        conv => lhs; rhs; rw [pre_suf hc]
        rw [List.append_assoc, List.append_assoc, List.append_cancel_left_eq]
        simp only [List.singleton_append, List.cons.injEq, true_and]
        constructor
        · intro h; rw [← h]; simp
        · intro h
          rw [ht, if_pos h]
          rcases snoc_or (suf 40 s) with e | ⟨q, x, e⟩
          · rw [e] at h; cases h
          · rw [e] at h ⊢
            have : x = 41 := by simpa using h
            rw [this]; simp
      have hvo : (suf 40 s).getLast? = some 41 → splitC 44 (suf 40 s).dropLast = splitC 44 t := fun h => by rw [ht, if_pos h]
      have hall : ((splitC 44 t).map numV).all val63 = valsOk (splitC 44 t) := by
        unfold valsOk
        rw [List.all_map]
        rw [List.all_eq_true] at hn
        apply Bool.eq_iff_iff.2
        rw [List.all_eq_true, List.all_eq_true]
        constructor
        · intro h w hw; rw [hn w hw]; exact h w hw
        · intro h w hw; have := h w hw; rw [hn w hw] at this; exact this
      rw [third]
      unfold labelP labOf
      rw [if_pos hc]
      simp only [decide_eq_decide.2 (last_eq hc), List.length_map, hall]
      by_cases h1 : pre 40 s = [116, 97, 117]
      · rw [if_pos h1, h1, act_tau, decide_eq_false (by omega)]
        rfl
      · rw [if_neg h1]
        by_cases h6 : (suf 40 s).getLast? = some 41
        · rw [hvo h6, decide_eq_true h6]
          by_cases h2 : actP (pre 40 s) = true ∧ (splitC 44 t).length ≤ 2 ∧ valsOk (splitC 44 t) = true
          · rw [if_pos h2, if_neg (show ¬ (splitC 44 t).length = 0 by omega), h2.1, h2.2.2, decide_eq_true h2.2.1, hd]
            rw [hlast.2 h6]
            simp
          · rw [if_neg h2]
            cases ha : actP (pre 40 s)
            · rfl
            · cases hv : valsOk (splitC 44 t)
              · rfl
              · rw [decide_eq_false (fun h => h2 ⟨ha, h, hv⟩)]; rfl
        · rw [decide_eq_false h6, Bool.and_false]
          split
          · rw [if_neg (show ¬ (splitC 44 t).length = 0 by omega), hd]
            have : (pre 40 s ++ [40] ++ t ++ [41] != s) = true := by
              rw [bne_iff_ne]
              exact fun h => h6 (hlast.1 h)
            rw [this]
            rfl
          · rfl
    · rw [if_neg hn] at hrn
      refine ⟨_, Ev.bind (Ev.const' hcut) (Ev.join (Ev.ite_t rfl (Ev.bind (Ev.const' htr) (Ev.bind (Ev.const' hsp) (Ev.bind hrn (Ev.ite_t (by rfl) (Ev.pure _))))))), ?_⟩
      unfold labelP
      rw [if_pos hc]
      by_cases h6 : (suf 40 s).getLast? = some 41
      · have : valsOk (splitC 44 (suf 40 s).dropLast) = false := by
          rw [ht, if_pos h6] at hn
          apply Bool.eq_false_iff.2
          intro h
          apply hn
          unfold valsOk at h
          rw [List.all_eq_true] at h ⊢
          intro w hw
          have := h w hw
          rw [Bool.and_eq_true] at this
          exact this.1
        rw [this]; simp
      · rw [decide_eq_false (fun h => h6 ((last_eq hc).1 h))]; simp
  · have hcut : ∀ m, strings_Cut_m m s [40] = some (s, [], false) := fun m => by rw [cut_lib (by omega), if_neg hc]
    have hlo := label_of (n := s) (by omega) (vs := []) (by simp)
    refine ⟨_, Ev.bind (Ev.const' hcut) (Ev.join (Ev.ite_f (by simp) (Ev.bind hlo (Ev.const' fun m => by rw [or_some, Option.bind_some, ite_some])))), ?_⟩
    rw [third]
    unfold labelP labOf
    rw [if_neg hc]
    by_cases h1 : s = [116, 97, 117]
    · rw [if_pos h1, h1, name_tau]; rfl
    · rw [if_neg h1]
      have e : actP s = nameP s := by
        unfold actP
        rw [bne_iff_ne.2 h1, Bool.and_true]
      rw [e]
      by_cases h2 : nameP s = true
      · rw [if_pos ⟨h2, by simp, rfl⟩, h2]
        simp
      · rw [if_neg (fun h => h2 h.1)]
        have : nameP s = false := by simpa using h2
        rw [this]
        rfl
theorem label_impl {s : Str} (hl : s.length ≤ 1048576) : Ev (fun m => impl_IsLabel_m m s) (labelP s) := by
  obtain ⟨r, h1, h2⟩ := read_label hl
  unfold impl_IsLabel_m
  exact Ev.bind h1 (Ev.const (by rw [h2]))

/-! ### the reference -/
theorem pre_hit : ∀ (s : Str) (k : Nat), s[k]? = some 40 → (40 : UInt8) ∉ s.take k → (pre 40 s).length = k
  | [], k, h, _ => by simp at h
  | b :: r, 0, h, _ => by
    have : b = 40 := by simpa using h
    rw [pre_cons, if_pos this]; rfl
  | b :: r, k + 1, h, h2 => by
    rw [List.take_succ_cons, List.mem_cons, not_or] at h2
    rw [pre_cons, if_neg (fun e => h2.1 e.symm), List.length_cons, pre_hit r k (by simpa using h) h2.2]
theorem open_spec {s : Str} (hl : s.length ≤ 1048576) : Ev (fun m => spec_l01Open_m m s) ((pre 40 s).length : Int) := by
  unfold spec_l01Open_m
  refine Exists.elim (EvI.count (step := _) s.length (fun k (_ : Unit) => (k : Int)) (fun k _ => (40 : UInt8) ∉ s.take k)
    (fun r => r = .inr ((pre 40 s).length : Int) ∨ (r = .inl () ∧ (pre 40 s).length = s.length)) ?_ ?_ (k := 0) (t := ()) (Nat.zero_le _) (by simp))
    (fun res ⟨h1, h2⟩ => Ev.bind h1.ev (by
      rcases h2 with rfl | ⟨rfl, h⟩
      · exact Ev.pure _
      · exact (Ev.pure _).eq (by rw [h])))
  · intro k t hk hI
    obtain ⟨b, hb⟩ := get_lt hk
    have hk' : decide ((k : Int) < (s.length : Int)) = true := by simpa using hk
    by_cases h : b = 40
    · subst h
      exact .inr ⟨_, Ev.ite_t hk' (Ev.bindc (idx_at hb) (Ev.ite_t (by rfl) (Ev.pure _))), .inl (by rw [pre_hit s k hb hI])⟩
    · refine .inl ⟨(), Ev.ite_t hk' (Ev.bindc (idx_at hb) (Ev.ite_f ?_ (Ev.const (by rw [W_succ hk (by omega)])))), ?_⟩
      · intro g
        have := beq_iff_eq.1 g
        exact h (UInt8.toNat_inj.1 (show b.toNat = 40 by omega))
      · rw [List.take_add_one, hb]
        simp [hI, Ne.symm h]
  · intro t hI
    rw [List.take_length] at hI
    exact ⟨_, Ev.ite_f (by simp) (Ev.pure _), .inr ⟨rfl, (pre_full 40 s).2 hI⟩⟩

def lsp : (List Int) ⊕ ((List Int) × Bool) → (List Int) × Bool
  | .inl xs => (xs, decide ((xs.length : Int) ≤ 2))
  | .inr q => q
theorem lsp_ctl {res : (List Int) ⊕ ((List Int) × Bool)} : ctl (β := (List Int)) (ρ := ((List Int) × Bool)) (τ := ((List Int) × Bool)) res (fun (xs140) => some ((xs140, (decide ((xs140.length : Int) ≤ (2 : Int)))))) (fun q => some (q)) = some (lsp res) := by cases res <;> rfl
theorem vals_loop {ps : List Str} (hl : ps.length ≤ 1048577) (hw : ∀ w ∈ ps, w.length ≤ 1048576) :
    Ev (fun fuel => iter (fun (s : (List Int) × (Int)) => (match s with | (xs104, x106) => (if (decide (x106 < (ps.length : Int))) = true then (idx ps x106).bind fun x151 => (spec_l01Number_m fuel x151).bind fun x158 => (if (!x158.2) = true then some true else (spec_l00In_m fuel x158.1 (0 : Int) (63 : Int)).bind fun x166 => some (!x166)).bind fun t161 => (if t161 = true then some (.inr (.inr ([], false))) else (app xs104 [x158.1]).bind fun x174 => some (.inl (x174, (W (x106 + (1 : Int)))))) else some (.inr (.inl (xs104)))) : Option (((List Int) × (Int)) ⊕ (((List Int)) ⊕ (((List Int) × Bool)))))) fuel (([] : List Int), (0 : Int)))
      (if valsOk ps = true then .inl (ps.map numV) else .inr ([], false)) := by
  have hm := mx
  refine Exists.elim (EvI.count (β := (List Int) ⊕ ((List Int) × Bool)) (step := fun fuel (s : (List Int) × (Int)) => (match s with | (xs104, x106) => (if (decide (x106 < (ps.length : Int))) = true then (idx ps x106).bind fun x151 => (spec_l01Number_m fuel x151).bind fun x158 => (if (!x158.2) = true then some true else (spec_l00In_m fuel x158.1 (0 : Int) (63 : Int)).bind fun x166 => some (!x166)).bind fun t161 => (if t161 = true then some (.inr (.inr ([], false))) else (app xs104 [x158.1]).bind fun x174 => some (.inl (x174, (W (x106 + (1 : Int)))))) else some (.inr (.inl (xs104)))) : Option (((List Int) × (Int)) ⊕ (((List Int)) ⊕ (((List Int) × Bool))))))
    ps.length (fun k (_ : Unit) => ((ps.take k).map numV, (k : Int))) (fun k _ => valsOk (ps.take k) = true)
    (fun r => r = (if valsOk ps = true then .inl (ps.map numV) else .inr ([], false))) ?_ ?_ (k := 0) (t := ()) (Nat.zero_le _) rfl)
    (fun res ⟨h3, h4⟩ => by subst h4; exact h3.ev)
  · intro k t hk hI
    obtain ⟨w, hw'⟩ := get_lt hk
    have hk' : decide ((k : Int) < (ps.length : Int)) = true := by simpa using hk
    have htk : ps.take (k + 1) = ps.take k ++ [w] := by rw [List.take_add_one, hw']; rfl
    have hwl := hw w (List.mem_of_getElem? hw')
    have hnum := num_spec (w := w) (by omega)
    have hcc : ∀ m : Nat, (if (!numB w) = true then some true else (spec_l00In_m m (numV w) (0 : Int) (63 : Int)).bind fun x166 => some (!x166)) = some (!(numB w && val63 (numV w))) := fun m => by
      rw [l00In_eq, Option.bind_some, or_some]
      cases numB w <;> rfl
    by_cases hv : (numB w && val63 (numV w)) = true
    · left
      refine ⟨(), Ev.ite_t hk' (Ev.bindc (idx_at hw') (Ev.bind hnum (Ev.bind (Ev.const' hcc) (Ev.ite_f (by rw [hv]; simp) (Ev.bindc (app_ok (by simp; omega)) (Ev.const ?_)))))), ?_⟩
      · rw [W_succ hk (by omega), htk, List.map_append]; rfl
      · unfold valsOk at hI ⊢
        rw [htk, List.all_append, hI]
        simp only [List.all_cons, List.all_nil, Bool.and_true, Bool.true_and]
        exact hv
    · right
      have hv' : (numB w && val63 (numV w)) = false := by simpa using hv
      refine ⟨_, Ev.ite_t hk' (Ev.bindc (idx_at hw') (Ev.bind hnum (Ev.bind (Ev.const' hcc) (Ev.ite_t (by rw [hv']; rfl) (Ev.pure _))))), ?_⟩
      rw [if_neg]
      intro h
      unfold valsOk at h
      rw [List.all_eq_true] at h
      exact hv (h w (List.mem_of_getElem? hw'))
  · intro t hI
    refine ⟨_, Ev.ite_f (by simp) (Ev.pure _), ?_⟩
    rw [List.take_length] at *
    rw [if_pos hI]

theorem label_spec {s : Str} (hl : s.length ≤ 1048576) : Ev (fun m => spec_l01Label_m m s) (labelP s) := by
  have hm := mx
  unfold spec_l01Label_m
  suffices h : ∃ r, Ev (fun m => spec_l01Values_m m s) r ∧ r.2 = labelP s by
    obtain ⟨r, h1, h2⟩ := h
    exact Ev.bind h1 (Ev.const (by rw [h2]))
  unfold spec_l01Values_m labelP
  by_cases hc : (40 : UInt8) ∈ s
  · have hp := pre_len 40 s
    have hpn : (pre 40 s).length ≠ s.length := fun h => (pre_full 40 s).1 h hc
    have hs0 : sub s (0 : Int) ((pre 40 s).length : Int) = some (pre 40 s) := by
      have := sub_ok (xs := s) (lo := 0) (hi := (pre 40 s).length) (Nat.zero_le _) hp
      rw [pre_take] at this
      exact this
    have hpos : 0 < s.length := by omega
    obtain ⟨b, hb⟩ := get_lt (xs := s) (k := s.length - 1) (by omega)
    have hlast : s.getLast? = some b := by rw [List.getLast?_eq_getElem?]; exact hb
    have hw1 : W ((s.length : Int) - 1) = ((s.length - 1 : Nat) : Int) := by rw [W_of (by omega) (by omega)]; omega
    rw [if_pos hc]
    have hbase : ∀ {r} (_ : Ev (fun m => (if (!actP (pre 40 s)) = true then some true else (idx s (W ((s.length : Int) - (1 : Int)))).bind fun b55 => some ((b55.toNat : Int) != (41 : Int))) ) r), r = !(actP (pre 40 s) && decide (s.getLast? = some 41)) := by
      intro r h
      obtain ⟨n, hn⟩ := h.one
      rw [hw1, idx_at hb] at hn
      simp only [Option.bind_some, or_some, Option.some.injEq] at hn
      rw [← hn, hlast]
      cases actP (pre 40 s)
      · rfl
      · simp only [Bool.not_true, Bool.false_or, Bool.true_and]
        by_cases h41 : b = 41
        · rw [h41]; rfl
        · rw [decide_eq_false (by simpa using h41)]
          have : ((b.toNat : Int) != 41) = true := by
            rw [bne_iff_ne]
            intro g
            exact h41 (UInt8.toNat_inj.1 (show b.toNat = 41 by omega))
          rw [this]; rfl
    have hcond : ∀ m : Nat, (if (!actP (pre 40 s)) = true then some true else (idx s (W ((s.length : Int) - (1 : Int)))).bind fun b55 => some ((b55.toNat : Int) != (41 : Int))) = some (!(actP (pre 40 s) && decide (s.getLast? = some 41))) := by
      intro m
      have e : (if (!actP (pre 40 s)) = true then some true else (idx s (W ((s.length : Int) - (1 : Int)))).bind fun b55 => some ((b55.toNat : Int) != (41 : Int))) = some ((!actP (pre 40 s)) || ((b.toNat : Int) != (41 : Int))) := by rw [hw1, idx_at hb, Option.bind_some, or_some]
      rw [e]
      exact congrArg some (hbase (Ev.const e))
    by_cases h1 : (actP (pre 40 s) && decide (s.getLast? = some 41)) = true
    · have h41 : s.getLast? = some 41 := of_decide_eq_true (Bool.and_eq_true _ _ ▸ h1).2
      have hsl := (last_eq hc).1 h41
      have hsn : suf 40 s ≠ [] := fun e => by rw [e] at hsl; cases hsl
      have hsl2 : (suf 40 s).length = s.length - ((pre 40 s).length + 1) := by unfold suf; simp
      have hsp := List.length_pos_iff.2 hsn
      have hsub : sub s (W (((pre 40 s).length : Int) + 1)) (W ((s.length : Int) - 1)) = some (suf 40 s).dropLast := by
        rw [hw1, W_of (by omega) (by omega), show (((pre 40 s).length : Int) + 1) = (((pre 40 s).length + 1 : Nat) : Int) from rfl, sub_ok (by omega) (by omega), List.drop_take, List.dropLast_eq_take, hsl2]
        unfold suf
        congr 2
        omega
      have hpl : (splitC 44 (suf 40 s).dropLast).length ≤ s.length := by have := splitC_len 44 (suf 40 s).dropLast; simp at this; omega
      rw [h1, Bool.true_and]
      refine ⟨_, Ev.bind (open_spec hl) (Ev.ite_f (by intro g; have := beq_iff_eq.1 g; omega) (Ev.bindc hs0 (Ev.bind (act_spec (by omega)) (Ev.bind (Ev.const' hcond) (Ev.ite_f (by rw [h1]; simp) (Ev.bindc hsub (Ev.bind (split_spec (by simp; omega)) (Ev.bind (vals_loop (by omega) (fun w hw => ?_)) (Ev.const' fun m => lsp_ctl))))))))), ?_⟩
      · have := splitC_mem 44 _ w hw
        simp at this
        omega
      · by_cases hv : valsOk (splitC 44 (suf 40 s).dropLast) = true
        · rw [if_pos hv, hv, Bool.true_and]
          exact decide_eq_decide.2 (by simp; omega)
        · rw [if_neg hv]
          have : valsOk (splitC 44 (suf 40 s).dropLast) = false := by simpa using hv
          rw [this]
          rfl
    · refine ⟨_, Ev.bind (open_spec hl) (Ev.ite_f (by intro g; have := beq_iff_eq.1 g; omega) (Ev.bindc hs0 (Ev.bind (act_spec (by omega)) (Ev.bind (Ev.const' hcond) (Ev.ite_t (by rw [Bool.not_eq_true']; exact Bool.eq_false_iff.2 h1) (Ev.pure _)))))), ?_⟩
      have : (actP (pre 40 s) && decide (s.getLast? = some 41)) = false := by simpa using h1
      rw [this]
      rfl
  · rw [if_neg hc]
    exact ⟨_, Ev.bind (open_spec hl) (Ev.ite_t (by rw [(pre_full 40 s).2 hc]; simp) (Ev.bind (name_spec (by omega)) (Ev.pure _))), rfl⟩
/-! ### the order of texts -/
theorem bl_irr : ∀ a : Str, Op.bytesLess a a = false
  | [] => rfl
  | x :: a => by simp [Op.bytesLess, bl_irr a]
theorem bl_asym : ∀ a b : Str, Op.bytesLess a b = true → Op.bytesLess b a = false
  | _, [], h => by simp [Op.bytesLess] at h
  | [], _ :: _, _ => by simp [Op.bytesLess]
  | x :: a, y :: b, h => by
    simp only [Op.bytesLess, Bool.or_eq_true, Bool.and_eq_true, decide_eq_true_eq, beq_iff_eq] at h
    rcases h with h | ⟨rfl, h⟩
    · have h1 : ¬ y < x := fun h' => by rw [UInt8.lt_iff_toNat_lt] at h h'; omega
      have h2 : ¬ y = x := fun h' => by subst h'; rw [UInt8.lt_iff_toNat_lt] at h; omega
      simp [Op.bytesLess, h1, h2]
    · have := bl_asym a b h
      have h1 : ¬ x < x := fun h' => by rw [UInt8.lt_iff_toNat_lt] at h'; omega
      simp [Op.bytesLess, h1, this]
theorem bl_tri : ∀ a b : Str, Op.bytesLess a b = false → Op.bytesLess b a = false → a = b
  | [], [], _, _ => rfl
  | [], _ :: _, h, _ => by simp [Op.bytesLess] at h
  | _ :: _, [], _, h => by simp [Op.bytesLess] at h
  | x :: a, y :: b, h1, h2 => by
    simp only [Op.bytesLess, Bool.or_eq_false_iff, Bool.and_eq_false_iff, decide_eq_false_iff_not, beq_eq_false_iff_ne] at h1 h2
    have e : x = y := by
      apply UInt8.toNat_inj.1
      have l1 := h1.1
      have l2 := h2.1
      rw [UInt8.lt_iff_toNat_lt] at l1 l2
      omega
    subst e
    have g1 : Op.bytesLess a b = false := h1.2.resolve_left (fun h => h rfl)
    have g2 : Op.bytesLess b a = false := h2.2.resolve_left (fun h => h rfl)
    rw [bl_tri a b g1 g2]
theorem bl_le (s p : Str) : (Op.bytesLess s p || s == p) = !Op.bytesLess p s := by
  cases h : Op.bytesLess p s with
  | true =>
    have h1 := bl_asym p s h
    have h2 : (s == p) = false := by
      rw [beq_eq_false_iff_ne]
      rintro rfl
      rw [bl_irr] at h
      cases h
    rw [h1, h2]; rfl
  | false =>
    cases h1 : Op.bytesLess s p with
    | true => rfl
    | false => rw [bl_tri s p h1 h]; simp

/-! ### valid systems -/
def tau' : Str := [116, 97, 117]
def condX (ls : List Str) (k : Nat) (b : Str → Bool) : Bool := match ls[k]? with
  | none => false
  | some s => !labelP s || (b s || (decide ((1 : Int) < (k : Int)) && (match ls[k - 1]? with | none => false | some p => !Op.bytesLess p s)))
def okL (ls : List Str) (k : Nat) : Bool := !condX ls k fun s => (s == tau') != ((k : Int) == 0)
def labsP (ls : List Str) : Bool := decide (1 ≤ ls.length) && decide (ls.length ≤ 12) && decide (∀ k, k < ls.length → okL ls k = true)
def edgeLess (a b : Timpl_Edge) : Bool := if a.1 ≠ b.1 then decide (a.1 < b.1) else if a.2.1 ≠ b.2.1 then decide (a.2.1 < b.2.1) else decide (a.2.2 < b.2.2)
def inn (a b c : Int) : Bool := decide (b ≤ a) && decide (a ≤ c)
def condE (n m : Int) (es : List Timpl_Edge) (k : Nat) : Bool := match es[k]? with
  | none => false
  | some e => (!inn e.1 0 n || !inn e.2.2 0 n) || (!inn e.2.1 0 m || (decide ((0 : Int) < (k : Int)) && (match es[k - 1]? with | none => false | some p => !edgeLess p e)))
def edgesP (n m : Int) (es : List Timpl_Edge) : Bool := decide (es.length ≤ 300) && decide (∀ k, k < es.length → (!condE n m es k) = true)
def validP (t : Timpl_Lts) : Bool := inn t.1 1 40 && inn t.2.1 0 (W (t.1 - 1)) && labsP t.2.2.1 && edgesP (W (t.1 - 1)) (W ((t.2.2.1.length : Int) - 1)) t.2.2.2

theorem compare_m {m : Nat} {a b : Int} : cmp_Compare_int64_m m a b = some (if a < b then -1 else if b < a then 1 else 0) := by
  unfold cmp_Compare_int64_m cmp_isNaN_int64_m
  simp
  split
  · rfl
  · split <;> rfl
theorem or3 (x y z : Int) : Ev (fun m => cmp_Or_int_m m [x, y, z]) (if x ≠ 0 then x else if y ≠ 0 then y else z) := by
  unfold cmp_Or_int_m
  refine Exists.elim (EvI.find (step := _) 3 (fun k => ([x, y, z][k]?).getD 0 == 0) (fun k => ([x, y, z][k]?).getD 0) (fun k hk hok => ?_) (fun k hk hok => ?_) (Ev.const rfl) (Nat.zero_le _)) (fun res ⟨g1, g2⟩ => Ev.bind g1.ev ?_)
  · obtain ⟨v, hv⟩ := get_lt (xs := [x, y, z]) (k := k) hk
    have hk' : decide ((k : Int) < (([x, y, z] : List Int).length : Int)) = true := decide_eq_true (by simp; omega)
    have h0 : v = 0 := by rw [hv] at hok; simpa using hok
    refine Ev.ite_t hk' (Ev.bindc (idx_at hv) (Ev.ite_f (by rw [h0]; simp) (Ev.const ?_)))
    rw [W_succ hk (by omega)]
  · obtain ⟨v, hv⟩ := get_lt (xs := [x, y, z]) (k := k) hk
    have hk' : decide ((k : Int) < (([x, y, z] : List Int).length : Int)) = true := decide_eq_true (by simp; omega)
    have h0 : v ≠ 0 := by rw [hv] at hok; simpa using hok
    refine Ev.ite_t hk' (Ev.bindc (idx_at hv) (Ev.ite_t (by simpa using h0) (Ev.const ?_)))
    rw [hv]; rfl
  · rcases g2 with ⟨rfl, h⟩ | ⟨k, _, hk, hok, hj, rfl⟩
    · have h0 := h 0 (Nat.zero_le _) (by omega)
      have h1 := h 1 (Nat.zero_le _) (by omega)
      have h2 := h 2 (Nat.zero_le _) (by omega)
      simp at h0 h1 h2
      subst h0; subst h1; subst h2
      exact Ev.const rfl
    · match k, hk with
      | 0, _ => simp at hok; exact Ev.const (by rw [ctl_r]; simp [hok])
      | 1, _ =>
        have h0 := hj 0 (Nat.zero_le _) (by omega)
        simp at hok h0
        exact Ev.const (by rw [ctl_r]; simp [hok, h0])
      | 2, _ =>
        have h0 := hj 0 (Nat.zero_le _) (by omega)
        have h1 := hj 1 (Nat.zero_le _) (by omega)
        simp at hok h0 h1
        exact Ev.const (by rw [ctl_r]; simp [h0, h1])
theorem edges_cmp (a b : Timpl_Edge) : ∃ r : Int, Ev (fun m => impl_compareEdges_m m a b) r ∧ decide (0 ≤ r) = !edgeLess a b := by
  unfold impl_compareEdges_m edgeLess
  simp only [compare_m, Option.bind_some]
  obtain ⟨a1, a2, a3⟩ := a
  obtain ⟨b1, b2, b3⟩ := b
  refine ⟨_, Ev.bind (or3 _ _ _) (Ev.pure _), ?_⟩
  simp only []
  rcases Int.lt_trichotomy a1 b1 with h | h | h
  · have h1 : a1 ≠ b1 := by omega
    simp [h, h1]
  · subst h
    rcases Int.lt_trichotomy a2 b2 with h | h | h
    · have h1 : a2 ≠ b2 := by omega
      simp [h, h1]
    · subst h
      rcases Int.lt_trichotomy a3 b3 with h | h | h
      · simp [h]
      · subst h; simp
      · have h1 : ¬ a3 < b3 := by omega
        simp [h, h1]
    · have h1 : a2 ≠ b2 := by omega
      have h2 : ¬ a2 < b2 := by omega
      simp [h, h1, h2]
  · have h1 : a1 ≠ b1 := by omega
    have h2 : ¬ a1 < b1 := by omega
    simp [h, h1, h2]
theorem less_m {m : Nat} {a b : Timpl_Edge} : spec_l11Less_m m a b = some (edgeLess a b) := by
  unfold spec_l11Less_m edgeLess
  by_cases h1 : a.1 = b.1
  · by_cases h2 : a.2.1 = b.2.1
    · simp [h1, h2]
    · simp [h1, h2]
  · simp [h1]

theorem isState_m {m : Nat} {t : Timpl_Lts} {k : Int} : impl_Lts_isState_m m t k = some (inn k 0 (W (t.1 - 1))) := by
  unfold impl_Lts_isState_m
  rw [within_eq]; rfl

theorem names_spec {ls : List Str} (hl : ls.length ≤ 1048576) (hs : ∀ s ∈ ls, s.length ≤ 1048576) : Ev (fun m => spec_l11Names_m m ls) (labsP ls) := by
  have hm := mx
  unfold spec_l11Names_m
  by_cases h0 : ls.length = 0
  · have e : ((ls.length : Int) == 0) = true := by rw [h0]; rfl
    refine Ev.eq (r := false) (Ev.const' fun m => by simp only [e, if_true, Option.bind_some]) ?_
    unfold labsP
    rw [decide_eq_false (show ¬ 1 ≤ ls.length by omega)]; rfl
  · have e : ((ls.length : Int) == 0) = false := beq_false_of_ne (by omega)
    by_cases h1 : 12 < ls.length
    · have e1 : decide ((12 : Int) < (ls.length : Int)) = true := decide_eq_true (by omega)
      refine Ev.eq (r := false) (Ev.const' fun m => by simp only [e, e1, if_true, Bool.false_eq_true, if_false, Option.bind_some]) ?_
      unfold labsP
      rw [decide_eq_false (show ¬ ls.length ≤ 12 by omega)]; simp
    · have e1 : decide ((12 : Int) < (ls.length : Int)) = false := decide_eq_false (by omega)
      obtain ⟨s0, hs0⟩ := get_lt (xs := ls) (k := 0) (by omega)
      have hi : idx ls (0 : Int) = some s0 := idx_at (k := 0) hs0
      have hlab : labsP ls = decide (∀ k, k < ls.length → okL ls k = true) := by
        unfold labsP
        rw [decide_eq_true (show 1 ≤ ls.length by omega), decide_eq_true (show ls.length ≤ 12 by omega)]; rfl
      rw [hlab]
      by_cases h2 : s0 = tau'
      · have e2 : (s0 != ([116, 97, 117] : Str)) = false := by rw [h2]; rfl
        refine Ev.bindc (a := false) (by simp only [e, e1, Bool.false_eq_true, if_false]) (Ev.bindc (a := false) (by simp only [hi, e2, Bool.false_eq_true, if_false, Option.bind_some]) (Ev.ite_f (by simp) ?_))
        have cond : ∀ k s, k < ls.length → ls[k]? = some s → Ev (fun m => (spec_l01Label_m m s).bind fun x140 => (if (!x140) = true then some true else (idx ls (k : Int)).bind fun x146 => some (x146 == ([116, 97, 117] : Str))).bind fun t143 => (if t143 = true then some true else (if (decide ((1 : Int) < (k : Int))) = true then (idx ls (W ((k : Int) - (1 : Int)))).bind fun x157 => (idx ls (k : Int)).bind fun x162 => some (!Op.bytesLess x157 x162) else some false).bind fun t154 => some t154).bind fun t151 => (if t151 = true then some (.inr (.inr false)) else some (.inl ((W ((k : Int) + (1 : Int))))) : Option (Int ⊕ (Unit ⊕ Bool)))) (if condX ls k (fun s => s == tau') = true then .inr (.inr false) else .inl ((k + 1 : Nat) : Int)) := by
          intro k s hk hs'
          refine Ev.bind (label_spec (hs s (List.mem_of_getElem? hs'))) (Ev.const ?_)
          unfold condX
          rw [hs']
          cases k with
          | zero =>
            simp only [idx_at hs', Option.bind_some, or_some, show decide ((1 : Int) < ((0 : Nat) : Int)) = false from rfl, Bool.false_eq_true, if_false, W_succ hk (by omega), Bool.false_and, Bool.or_false]
            rw [ite_some]
            rfl
          | succ j =>
            obtain ⟨p, hp⟩ := get_lt (xs := ls) (k := j) (by omega)
            have w2 := W_pred (k := j) (n := ls.length) (by omega) (by omega)
            simp only [idx_at hs', hp, w2, idx_at hp, Option.bind_some, or_some, and_some, W_succ hk (by omega), Nat.add_sub_cancel]
            rw [ite_some, Bool.or_assoc]
            rfl
        refine Exists.elim (EvI.find (step := _) ls.length (fun k => !condX ls k fun s => s == tau') (fun _ => false) (fun k hk hok => ?_) (fun k hk hok => ?_) (Ev.ite_f (by simp) (Ev.pure _)) (s := 1) (by omega)) (fun res ⟨g1, g2⟩ => Ev.bind g1.ev ?_)
        · obtain ⟨s, hs'⟩ := get_lt hk
          have hk' : decide ((k : Int) < (ls.length : Int)) = true := by simpa using hk
          have hc : (condX ls k fun s => s == tau') = false := by rwa [Bool.not_eq_true'] at hok
          exact Ev.ite_t hk' (Ev.bindc (idx_at hs') ((cond k s hk hs').eq (by rw [hc]; rfl)))
        · obtain ⟨s, hs'⟩ := get_lt hk
          have hk' : decide ((k : Int) < (ls.length : Int)) = true := by simpa using hk
          have hc : (condX ls k fun s => s == tau') = true := by rwa [Bool.not_eq_false'] at hok
          exact Ev.ite_t hk' (Ev.bindc (idx_at hs') ((cond k s hk hs').eq (by rw [hc]; rfl)))
        · have hrel : ∀ k, 1 ≤ k → (!condX ls k fun s => s == tau') = okL ls k := by
            intro k hk1
            unfold okL condX
            have : ((k : Int) == 0) = false := beq_false_of_ne (by omega)
            rw [this]
            simp only [Bool.bne_false]
          have h0k : okL ls 0 = true := by
            unfold okL condX
            rw [hs0, h2]
            have : labelP tau' = true := by unfold labelP; rw [if_neg (by decide)]; exact name_tau
            simp only [this]
            rfl
          rcases g2 with ⟨rfl, h⟩ | ⟨k, hk1, hk, hok, _, rfl⟩
          · refine (Ev.pure _).eq (decide_eq_true fun k hk => ?_).symm
            cases k with
            | zero => exact h0k
            | succ j => rw [← hrel _ (by omega)]; exact h _ (by omega) hk
          · refine (Ev.pure _).eq (decide_eq_false fun h => ?_).symm
            rw [hrel k hk1, h k hk] at hok
            cases hok
      · have e2 : (s0 != ([116, 97, 117] : Str)) = true := bne_iff_ne.2 h2
        refine Ev.eq (r := false) (Ev.const' fun m => by simp only [e, e1, hi, e2, if_true, Bool.false_eq_true, if_false, Option.bind_some]) ?_
        rw [decide_eq_false]
        intro h
        have := h 0 (by omega)
        unfold okL condX at this
        rw [hs0] at this
        have e3 : (s0 == tau') = false := beq_false_of_ne h2
        simp [e3] at this

/-! ### edges -/
theorem valid_spec {t : Timpl_Lts} (hl : t.2.2.1.length ≤ 1048576) (hs : ∀ s ∈ t.2.2.1, s.length ≤ 1048576) (he : t.2.2.2.length ≤ 1048576) : Ev (fun m => spec_l11Is_m m t) (validP t) := by
  have hm := mx
  unfold spec_l11Is_m validP
  simp only [l00In_eq, Option.bind_some]
  cases h1 : inn t.1 1 40
  · unfold inn at h1
    exact Ev.eq (r := false) (Ev.const' fun m => by simp only [h1, Bool.not_false, if_true, Option.bind_some]) rfl
  · unfold inn at h1
    cases h2 : inn t.2.1 0 (W (t.1 - 1))
    · unfold inn at h2
      exact Ev.eq (r := false) (Ev.const' fun m => by simp only [h1, h2, Bool.not_false, Bool.not_true, Bool.false_eq_true, if_true, if_false, Option.bind_some]) rfl
    · unfold inn at h2
      simp only [h1, h2, Bool.not_true, Bool.false_eq_true, if_false, Option.bind_some]
      refine Ev.bind (Ev.bind (names_spec hl hs) (Ev.pure _)) ?_
      cases h3 : labsP t.2.2.1
      · exact Ev.eq (r := false) (Ev.const' fun m => by simp only [Bool.not_false, if_true, Option.bind_some]) rfl
      · simp only [Bool.not_true, Bool.false_eq_true, if_false, Option.bind_some, Bool.and_true, Bool.true_and]
        unfold edgesP
        by_cases h4 : 300 < t.2.2.2.length
        · rw [decide_eq_false (show ¬ t.2.2.2.length ≤ 300 by omega)]
          exact Ev.ite_t (decide_eq_true (by omega)) (Ev.pure _)
        · rw [decide_eq_true (show t.2.2.2.length ≤ 300 by omega), Bool.true_and]
          refine Ev.ite_f (by simp; omega) ?_
          have cond : ∀ k e, k < t.2.2.2.length → t.2.2.2[k]? = some e → (if (!(decide ((0 : Int) ≤ e.1) && decide (e.1 ≤ W (t.1 - 1)))) = true then some true else some (!(decide ((0 : Int) ≤ e.2.2) && decide (e.2.2 ≤ W (t.1 - 1))))) = some (!inn e.1 0 (W (t.1 - 1)) || !inn e.2.2 0 (W (t.1 - 1))) := fun k e _ _ => by rw [or_some]; rfl
          have c3 : ∀ k e, k < t.2.2.2.length → t.2.2.2[k]? = some e → (if (decide ((0 : Int) < (k : Int))) = true then (idx t.2.2.2 (W ((k : Int) - (1 : Int)))).bind fun x261 => some (!edgeLess x261 e) else some false) = some (decide ((0 : Int) < (k : Int)) && (match t.2.2.2[k - 1]? with | none => false | some p => !edgeLess p e)) := by
            intro k e hk he'
            cases k with
            | zero => rfl
            | succ j =>
              obtain ⟨p, hp⟩ := get_lt (xs := t.2.2.2) (k := j) (by omega)
              rw [W_pred (k := j) (n := t.2.2.2.length) (by omega) (by omega), idx_at hp, Nat.add_sub_cancel, hp, Option.bind_some, and_some]
          refine (Ev.all t.2.2.2.length (fun k => !condE (W (t.1 - 1)) (W ((t.2.2.1.length : Int) - 1)) t.2.2.2 k) false true (fun k hk hok => Ev.const' fun m => ?_) (fun k hk hok => Ev.const' fun m => ?_) (Ev.ite_f (by simp) (Ev.pure _))).eq (by split <;> simp_all)
          · obtain ⟨e, he'⟩ := get_lt hk
            have hk' : decide ((k : Int) < (t.2.2.2.length : Int)) = true := by simpa using hk
            have hc : condE (W (t.1 - 1)) (W ((t.2.2.1.length : Int) - 1)) t.2.2.2 k = false := by rwa [Bool.not_eq_true'] at hok
            unfold condE at hc
            rw [he'] at hc
            simp only [Bool.or_eq_false_iff] at hc
            obtain ⟨⟨g1, g2⟩, g3, g4⟩ := hc
            unfold inn at g1 g2 g3
            simp only [hk', if_true, idx_at he', Option.bind_some, g1, g2, g3, Bool.false_eq_true, if_false, less_m, c3 k e hk he', g4, W_succ hk (by omega)]
          · obtain ⟨e, he'⟩ := get_lt hk
            have hk' : decide ((k : Int) < (t.2.2.2.length : Int)) = true := by simpa using hk
            have hc : condE (W (t.1 - 1)) (W ((t.2.2.1.length : Int) - 1)) t.2.2.2 k = true := by rwa [Bool.not_eq_false'] at hok
            unfold condE at hc
            rw [he'] at hc
            simp only [hk', if_true, idx_at he', Option.bind_some, or_some, less_m]
            cases ha : (!(decide ((0 : Int) ≤ e.1) && decide (e.1 ≤ W (t.1 - 1))) || !(decide ((0 : Int) ≤ e.2.2) && decide (e.2.2 ≤ W (t.1 - 1))))
            · cases hb : (!(decide ((0 : Int) ≤ e.2.1) && decide (e.2.1 ≤ W ((t.2.2.1.length : Int) - 1))))
              · have hd : (decide ((0 : Int) < (k : Int)) && (match t.2.2.2[k - 1]? with | none => false | some p => !edgeLess p e)) = true := by
                  unfold inn at hc
                  simp only [ha, hb, Bool.false_or] at hc
                  exact hc
                simp only [Bool.false_or, Bool.false_eq_true, if_false, c3 k e hk he', hd, Option.bind_some, if_true]
              · simp only [Bool.false_or, if_true]
            · simp only [Bool.true_or, if_true]
structure VL (t : Timpl_Lts) (n : Nat) : Prop where
  st : t.1 = (n : Int)
  pos : 1 ≤ n
  top : n ≤ 40
  ini : 0 ≤ t.2.1 ∧ t.2.1 < (n : Int)
  labs : 1 ≤ t.2.2.1.length ∧ t.2.2.1.length ≤ 12
  lab : ∀ k, k < t.2.2.1.length → okL t.2.2.1 k = true
  few : t.2.2.2.length ≤ 300
  src : ∀ e ∈ t.2.2.2, 0 ≤ e.1 ∧ e.1 < (n : Int)
  dst : ∀ e ∈ t.2.2.2, 0 ≤ e.2.2 ∧ e.2.2 < (n : Int)
  lbl : ∀ e ∈ t.2.2.2, 0 ≤ e.2.1 ∧ e.2.1 < (t.2.2.1.length : Int)
  ord : ∀ (k : Nat) (p e : Timpl_Edge), t.2.2.2[k]? = some p → t.2.2.2[k + 1]? = some e → edgeLess p e = true

theorem valid_of {t : Timpl_Lts} (h : validP t = true) : ∃ n, VL t n := by
  unfold validP edgesP labsP at h
  simp only [Bool.and_eq_true] at h
  obtain ⟨⟨⟨h1, h2⟩, ⟨h3, h4⟩, h5⟩, h6, h7⟩ := h
  unfold inn at h1 h2
  simp only [Bool.and_eq_true, decide_eq_true_eq] at h1 h2 h3 h4 h5 h6 h7
  have hw : W (t.1 - 1) = t.1 - 1 := W_of (by omega) (by omega)
  have hw2 : W ((t.2.2.1.length : Int) - 1) = (t.2.2.1.length : Int) - 1 := W_of (by omega) (by omega)
  rw [hw] at h2 h7
  rw [hw2] at h7
  have key : ∀ (k : Nat) (e : Timpl_Edge), t.2.2.2[k]? = some e → ((0 ≤ e.1 ∧ e.1 ≤ t.1 - 1) ∧ (0 ≤ e.2.2 ∧ e.2.2 ≤ t.1 - 1)) ∧ (0 ≤ e.2.1 ∧ e.2.1 ≤ (t.2.2.1.length : Int) - 1) ∧ ∀ (j : Nat) (p : Timpl_Edge), k = j + 1 → t.2.2.2[j]? = some p → edgeLess p e = true := by
    intro k e he
    have hk := (List.getElem?_eq_some_iff.1 he).1
    have h := h7 k hk
    unfold condE inn at h
    rw [he] at h
    simp only [Bool.not_eq_true', Bool.or_eq_false_iff, Bool.not_eq_false', Bool.and_eq_true, decide_eq_true_eq] at h
    obtain ⟨⟨a, b⟩, c, d⟩ := h
    refine ⟨⟨a, b⟩, c, fun j p hj hp => ?_⟩
    subst hj
    have hpos : decide ((0 : Int) < ((j + 1 : Nat) : Int)) = true := decide_eq_true (by omega)
    rw [hpos, Bool.true_and, Nat.add_sub_cancel, hp] at d
    simpa using d
  have ofm : ∀ e ∈ t.2.2.2, ((0 ≤ e.1 ∧ e.1 ≤ t.1 - 1) ∧ (0 ≤ e.2.2 ∧ e.2.2 ≤ t.1 - 1)) ∧ (0 ≤ e.2.1 ∧ e.2.1 ≤ (t.2.2.1.length : Int) - 1) := by
    intro e he
    obtain ⟨k, hk, rfl⟩ := List.getElem_of_mem he
    obtain ⟨a, b, _⟩ := key k _ (List.getElem?_eq_getElem hk)
    exact ⟨a, b⟩
  refine ⟨t.1.toNat, ⟨by omega, by omega, by omega, by omega, ⟨h3, h4⟩, h5, h6, fun e he => ?_, fun e he => ?_, fun e he => ?_, fun k p e hp he => (key (k + 1) e he).2.2 k p rfl hp⟩⟩
  · have := (ofm e he).1.1; omega
  · have := (ofm e he).1.2; omega
  · have := (ofm e he).2; omega

/-! ### ways and distances -/
def pr (bk : Bool) (e : Timpl_Edge) : Int × Int := if bk = true then (e.2.2, e.1) else (e.1, e.2.2)
def Ws (n : Nat) (ps : List (Int × Int)) : Prop := ∀ e ∈ ps, (0 ≤ e.1 ∧ e.1 < (n : Int)) ∧ (0 ≤ e.2 ∧ e.2 < (n : Int))
def Rg (n : Nat) (fr : List Int) : Prop := ∀ v ∈ fr, 0 ≤ v ∧ v < (n : Int)
def Rch (ps : List (Int × Int)) (fr : List Int) : Nat → Int → Prop
  | 0, v => v ∈ fr
  | d + 1, v => ∃ e ∈ ps, Rch ps fr d e.1 ∧ e.2 = v
def Mn (ps : List (Int × Int)) (fr : List Int) (d : Nat) (v : Int) : Prop := Rch ps fr d v ∧ ∀ c, c < d → ¬ Rch ps fr c v
def FarOk (n : Nat) (ps : List (Int × Int)) (fr : List Int) (f : Int → Int) : Prop :=
  ∀ v, 0 ≤ v → v < (n : Int) → (f v = -1 ∧ ∀ c, ¬ Rch ps fr c v) ∨ ∃ c : Nat, f v = (c : Int) ∧ Mn ps fr c v

theorem VL.ws {t : Timpl_Lts} {n : Nat} (V : VL t n) (bk : Bool) : Ws n (t.2.2.2.map (pr bk)) := by
  intro e he
  obtain ⟨x, hx, rfl⟩ := List.mem_map.1 he
  have a := V.src x hx
  have b := V.dst x hx
  cases bk
  · exact ⟨a, b⟩
  · exact ⟨b, a⟩

section
variable {n : Nat} {ps : List (Int × Int)} {fr : List Int}
theorem mn_of {d : Nat} {v : Int} (h : Rch ps fr d v) : ∃ c, c ≤ d ∧ Mn ps fr c v := by
  induction d using Nat.strongRecOn with
  | _ d ih =>
    by_cases hc : ∃ c, c < d ∧ Rch ps fr c v
    · obtain ⟨c, h1, h2⟩ := hc
      obtain ⟨b, h3, h4⟩ := ih c h1 h2
      exact ⟨b, by omega, h4⟩
    · exact ⟨d, Nat.le_refl _, h, fun c h1 h2 => hc ⟨c, h1, h2⟩⟩
theorem mn_uniq {c d : Nat} {v : Int} (h : Mn ps fr c v) (h' : Mn ps fr d v) : c = d := by
  by_cases h1 : c < d
  · exact absurd h.1 (h'.2 c h1)
  · by_cases h2 : d < c
    · exact absurd h'.1 (h.2 d h2)
    · omega
theorem mn_pred {d : Nat} {v : Int} (h : Mn ps fr (d + 1) v) : ∃ e ∈ ps, Mn ps fr d e.1 ∧ e.2 = v := by
  obtain ⟨⟨e, he, h1, h2⟩, h3⟩ := h
  exact ⟨e, he, ⟨h1, fun c hc hr => h3 (c + 1) (by omega) ⟨e, he, hr, h2⟩⟩, h2⟩
theorem rch_rg (hw : Ws n ps) (hf : Rg n fr) : ∀ {d : Nat} {v : Int}, Rch ps fr d v → 0 ≤ v ∧ v < (n : Int)
  | 0, v, h => hf v h
  | d + 1, v, ⟨e, he, _, h2⟩ => by subst h2; exact (hw e he).2
theorem mn_lt (hw : Ws n ps) (hf : Rg n fr) {d : Nat} {v : Int} (h : Mn ps fr d v) : d < n := by
  have key : ∀ (d : Nat) (v : Int), Mn ps fr d v → ∃ L : List Int, L.length = d + 1 ∧ L.Nodup ∧ ∀ u ∈ L, (0 ≤ u ∧ u < (n : Int)) ∧ ∃ c, c ≤ d ∧ Mn ps fr c u := by
    intro d
    induction d with
    | zero =>
      intro v h
      refine ⟨[v], rfl, by simp, fun u hu => ?_⟩
      obtain rfl : u = v := by simpa using hu
      exact ⟨rch_rg hw hf h.1, 0, Nat.le_refl _, h⟩
    | succ d ih =>
      intro v h
      obtain ⟨e, he, h1, h2⟩ := mn_pred h
      obtain ⟨L, l1, l2, l3⟩ := ih _ h1
      refine ⟨v :: L, by simp [l1], List.nodup_cons.2 ⟨fun hv => ?_, l2⟩, fun u hu => ?_⟩
      · obtain ⟨_, c, hc, hm⟩ := l3 v hv
        have := mn_uniq h hm
        omega
      · rcases List.mem_cons.1 hu with rfl | hu
        · exact ⟨rch_rg hw hf h.1, d + 1, Nat.le_refl _, h⟩
        · obtain ⟨a, c, hc, hm⟩ := l3 u hu
          exact ⟨a, c, by omega, hm⟩
  obtain ⟨L, l1, l2, l3⟩ := key d v h
  have := nodup_below n L l2 fun u hu => (l3 u hu).1
  omega
/-! ### rounds -/
def farE (ps : List (Int × Int)) (d : Nat) (i : Nat) (f : Int → Int) : Int → Int := match ps[i]? with
  | none => f
  | some e => if f e.1 = (d : Int) ∧ f e.2 < 0 then upd f e.2 ((d : Int) + 1) else f
def farR (ps : List (Int × Int)) (d : Nat) (f : Int → Int) : Int → Int := upfold (farE ps d) ps.length f
def farA (n : Nat) (ps : List (Int × Int)) (f : Int → Int) : Int → Int := upfold (farR ps) n f
def far0 (fr : List Int) : Int → Int := fun v => if v ∈ fr then 0 else -1

def FS (n : Nat) (ps : List (Int × Int)) (fr : List Int) (d : Nat) (f : Int → Int) : Prop :=
  ∀ v, 0 ≤ v → v < (n : Int) → (f v = -1 ∧ ∀ c, c ≤ d → ¬ Rch ps fr c v) ∨ ∃ c : Nat, c ≤ d ∧ f v = (c : Int) ∧ Mn ps fr c v
def FT (n : Nat) (ps : List (Int × Int)) (fr : List Int) (d i : Nat) (f : Int → Int) : Prop :=
  ∀ v, 0 ≤ v → v < (n : Int) → (∃ c : Nat, c ≤ d ∧ f v = (c : Int) ∧ Mn ps fr c v) ∨ (f v = (d : Int) + 1 ∧ Mn ps fr (d + 1) v) ∨
    (f v = -1 ∧ (∀ c, c ≤ d → ¬ Rch ps fr c v) ∧ ∀ (j : Nat) (e : Int × Int), j < i → ps[j]? = some e → Rch ps fr d e.1 → e.2 ≠ v)

theorem farR_ok (hw : Ws n ps) {d : Nat} {f : Int → Int} (h : FS n ps fr d f) : FS n ps fr (d + 1) (farR ps d f) := by
  have h0 : FT n ps fr d 0 f := fun v a b => by
    rcases h v a b with ⟨q1, q2⟩ | q
    · exact .inr (.inr ⟨q1, q2, fun j e hj => by omega⟩)
    · exact .inl q
  have h1 : FT n ps fr d ps.length (farR ps d f) := by
    refine upfold_ind (FT n ps fr d) ps.length h0 fun i f hi hT => ?_
    obtain ⟨e, he⟩ := get_lt hi
    have hem := List.mem_of_getElem? he
    have ra := (hw e hem).1
    have rb := (hw e hem).2
    unfold farE
    rw [he]
    simp only []
    -- the state at the edge's start, if a way of d edges leads there
    have hstart : Rch ps fr d e.1 → (f e.1 = (d : Int) ∧ Mn ps fr d e.1) ∨ ∃ c, c < d ∧ Rch ps fr c e.1 := by
      intro hr
      rcases hT e.1 ra.1 ra.2 with ⟨c, q1, q2, q3⟩ | ⟨_, q⟩ | ⟨_, q, _⟩
      · by_cases hc : c = d
        · subst hc; exact .inl ⟨q2, q3⟩
        · exact .inr ⟨c, by omega, q3.1⟩
      · exact absurd hr (q.2 d (by omega))
      · exact absurd hr (q d (Nat.le_refl _))
    have hval : f e.1 = (d : Int) → Mn ps fr d e.1 := by
      intro hd
      rcases hT e.1 ra.1 ra.2 with ⟨c, q1, q2, q3⟩ | ⟨q, _⟩ | ⟨q, _⟩
      · obtain rfl : c = d := by omega
        exact q3
      · omega
      · omega
    by_cases hc : f e.1 = (d : Int) ∧ f e.2 < 0
    · rw [if_pos hc]
      have hm := hval hc.1
      have hmb : Mn ps fr (d + 1) e.2 := by
        rcases hT e.2 rb.1 rb.2 with ⟨c, q1, q2, q3⟩ | ⟨q, _⟩ | ⟨_, q, _⟩
        · have := hc.2; omega
        · have := hc.2; omega
        · exact ⟨⟨e, hem, hm.1, rfl⟩, fun c hcd => q c (by omega)⟩
      intro v a b
      by_cases hv : v = e.2
      · subst hv
        exact .inr (.inl ⟨upd_eq _ _ _, hmb⟩)
      · rw [upd_ne hv]
        rcases hT v a b with q | q | ⟨q1, q2, q3⟩
        · exact .inl q
        · exact .inr (.inl q)
        · refine .inr (.inr ⟨q1, q2, fun j e' hj hj' hr => ?_⟩)
          by_cases hji : j = i
          · subst hji
            rw [he] at hj'
            cases hj'
            exact fun x => hv x.symm
          · exact q3 j e' (by omega) hj' hr
    · rw [if_neg hc]
      intro v a b
      rcases hT v a b with q | q | ⟨q1, q2, q3⟩
      · exact .inl q
      · exact .inr (.inl q)
      · refine .inr (.inr ⟨q1, q2, fun j e' hj hj' hr hev => ?_⟩)
        by_cases hji : j = i
        · subst hji
          rw [he] at hj'
          cases hj'
          subst hev
          rcases hstart hr with ⟨p1, _⟩ | ⟨c, p1, p2⟩
          · exact hc ⟨p1, by omega⟩
          · exact q2 (c + 1) (by omega) ⟨e, hem, p2, rfl⟩
        · exact q3 j e' (by omega) hj' hr hev
  intro v a b
  rcases h1 v a b with ⟨c, q1, q2, q3⟩ | ⟨q1, q2⟩ | ⟨q1, q2, q3⟩
  · exact .inr ⟨c, by omega, q2, q3⟩
  · exact .inr ⟨d + 1, Nat.le_refl _, by rw [q1]; rfl, q2⟩
  · refine .inl ⟨q1, fun c hc hr => ?_⟩
    by_cases hcd : c = d + 1
    · subst hcd
      obtain ⟨e, he, h2, h3⟩ := hr
      obtain ⟨j, hj, rfl⟩ := List.getElem_of_mem he
      exact q3 j _ hj (List.getElem?_eq_getElem hj) h2 h3
    · exact q2 c (by omega) hr

theorem farA_ok (hw : Ws n ps) (hf : Rg n fr) : FarOk n ps fr (farA n ps (far0 fr)) := by
  have h : FS n ps fr n (farA n ps (far0 fr)) := by
    refine upfold_ind (FS n ps fr) n (fun v a b => ?_) fun i f _ h => farR_ok hw h
    unfold far0
    by_cases hv : v ∈ fr
    · exact .inr ⟨0, Nat.le_refl _, if_pos hv, hv, fun c hc => by omega⟩
    · refine .inl ⟨if_neg hv, fun c hc hr => ?_⟩
      obtain rfl : c = 0 := by omega
      exact hv hr
  intro v a b
  rcases h v a b with ⟨q1, q2⟩ | ⟨c, _, q⟩
  · refine .inl ⟨q1, fun c hr => ?_⟩
    obtain ⟨c', h1, h2⟩ := mn_of hr
    exact q2 c' (by have := mn_lt hw hf h2; omega) h2.1
  · exact .inr ⟨c, q⟩

structure Bfs (n : Nat) (ps : List (Int × Int)) (fr : List Int) (d : Nat) (f : Int → Int) (a b : List Int) : Prop where
  val : ∀ v, 0 ≤ v → v < (n : Int) → f v = -1 ∨ ∃ c : Nat, c ≤ d + 1 ∧ f v = (c : Int) ∧ Mn ps fr c v
  full : ∀ (v : Int) (c : Nat), c ≤ d → Mn ps fr c v → f v = (c : Int)
  one : ∀ u ∈ a, (0 ≤ u ∧ u < (n : Int)) ∧ f u = (d : Int)
  two : ∀ u ∈ b, (0 ≤ u ∧ u < (n : Int)) ∧ f u = (d : Int) + 1
  all : ∀ v, 0 ≤ v → v < (n : Int) → f v = (d : Int) + 1 → v ∈ b
  done : ∀ u, 0 ≤ u → u < (n : Int) → f u = (d : Int) → u ∉ a → ∀ e ∈ ps, e.1 = u → f e.2 ≠ -1

theorem Bfs.level (hw : Ws n ps) (hf : Rg n fr) {d : Nat} {f : Int → Int} {b : List Int} (h : Bfs n ps fr d f [] b) : Bfs n ps fr (d + 1) f b [] where
  val v h0 h1 := by
    rcases h.val v h0 h1 with q | ⟨c, q1, q⟩
    · exact .inl q
    · exact .inr ⟨c, by omega, q⟩
  full v c hc hm := by
    by_cases hd : c ≤ d
    · exact h.full v c hd hm
    obtain rfl : c = d + 1 := by omega
    obtain ⟨e, he, h1, h2⟩ := mn_pred hm
    have ra := rch_rg hw hf h1.1
    have rv := rch_rg hw hf hm.1
    have hx := h.done e.1 ra.1 ra.2 (h.full _ _ (Nat.le_refl _) h1) (by simp) e he rfl
    rw [h2] at hx
    rcases h.val v rv.1 rv.2 with q | ⟨c', _, q2, q3⟩
    · exact absurd q hx
    · rw [q2, mn_uniq q3 hm]
  one u hu := by have := h.two u hu; exact ⟨this.1, by rw [this.2]; rfl⟩
  two u hu := by cases hu
  all v h0 h1 hv := by
    rcases h.val v h0 h1 with q | ⟨c, q1, q, _⟩
    · rw [q] at hv; push_cast at hv; omega
    · rw [q] at hv; push_cast at hv; omega
  done u h0 h1 hu hn := absurd (h.all u h0 h1 (by rw [hu]; rfl)) hn

/-- In the middle of the edges. -/
structure BfsM (n : Nat) (ps : List (Int × Int)) (fr : List Int) (d : Nat) (u : Int) (r : List Int) (K i : Nat) (s : (Int → Int) × List Int) : Prop where
  at_ : s.1 u = (d : Int)
  tot : (tab n s.1).countP (fun x => decide (x < 0)) + s.2.length = K
  inv : ∃ b, s.2 = r ++ b ∧ (∀ v, 0 ≤ v → v < (n : Int) → s.1 v = -1 ∨ ∃ c : Nat, c ≤ d + 1 ∧ s.1 v = (c : Int) ∧ Mn ps fr c v) ∧ (∀ (v : Int) (c : Nat), c ≤ d → Mn ps fr c v → s.1 v = (c : Int)) ∧
    (∀ x ∈ r, (0 ≤ x ∧ x < (n : Int)) ∧ s.1 x = (d : Int)) ∧ (∀ x ∈ b, (0 ≤ x ∧ x < (n : Int)) ∧ s.1 x = (d : Int) + 1) ∧ (∀ v, 0 ≤ v → v < (n : Int) → s.1 v = (d : Int) + 1 → v ∈ b) ∧
    (∀ x, 0 ≤ x → x < (n : Int) → s.1 x = (d : Int) → x ∉ r → x ≠ u → ∀ e ∈ ps, e.1 = x → s.1 e.2 ≠ -1) ∧ ∀ (j : Nat) (e : Int × Int), j < i → ps[j]? = some e → e.1 = u → s.1 e.2 ≠ -1

def BfsI (n : Nat) (ps : List (Int × Int)) (fr : List Int) (s : (Int → Int) × List Int) : Prop :=
  (tab n s.1).countP (fun x => decide (x < 0)) + s.2.length ≤ n + fr.length ∧ ∃ d a b, s.2 = a ++ b ∧ Bfs n ps fr d s.1 a b

theorem BfsI.head (hw : Ws n ps) (hf : Rg n fr) {f : Int → Int} {u : Int} {r : List Int} (h : BfsI n ps fr (f, u :: r)) :
    ∃ d r', Mn ps fr d u ∧ (0 ≤ u ∧ u < (n : Int)) ∧ BfsM n ps fr d u r' ((tab n f).countP (fun x => decide (x < 0)) + r.length) 0 (f, r) ∧ ∀ s : (Int → Int) × List Int, BfsM n ps fr d u r' ((tab n f).countP (fun x => decide (x < 0)) + r.length) ps.length s → BfsI n ps fr s := by
  obtain ⟨hK, d, a, b, hab, hB⟩ := h
  simp only [List.length_cons] at hK
  have key : ∀ d b r', r = r' ++ b → Bfs n ps fr d f (u :: r') b → ∃ d r', Mn ps fr d u ∧ (0 ≤ u ∧ u < (n : Int)) ∧ BfsM n ps fr d u r' ((tab n f).countP (fun x => decide (x < 0)) + r.length) 0 (f, r) ∧ ∀ s : (Int → Int) × List Int, BfsM n ps fr d u r' ((tab n f).countP (fun x => decide (x < 0)) + r.length) ps.length s → BfsI n ps fr s := by
    intro d b r' hr hB
    have hu := hB.one u (by simp)
    have hmu : Mn ps fr d u := by
      rcases hB.val u hu.1.1 hu.1.2 with q | ⟨c, _, q1, q2⟩
      · have := hu.2; omega
      · have := hu.2
        obtain rfl : c = d := by omega
        exact q2
    refine ⟨d, r', hmu, hu.1, ⟨hu.2, rfl, b, hr, hB.val, hB.full, fun x hx => hB.one x (List.mem_cons_of_mem _ hx), hB.two, hB.all, fun x p q hx hxr hxu => hB.done x p q hx (by simp [hxr, hxu]), fun j e hj => by omega⟩, fun s hM => ?_⟩
    obtain ⟨b', hb', h1, h2, h3, h4, h5, h6, h7⟩ := hM.inv
    refine ⟨by have := hM.tot; omega, d, r', b', hb', ⟨h1, h2, h3, h4, h5, fun x p q hx hxr e he hex => ?_⟩⟩
    by_cases hxu : x = u
    · obtain ⟨j, hj, rfl⟩ := List.getElem_of_mem he
      exact h7 j _ hj (List.getElem?_eq_getElem hj) (hex.trans hxu)
    · exact h6 x p q hx hxr hxu e he hex
  cases a with
  | nil =>
    have e : b = u :: r := hab.symm
    subst e
    exact key (d + 1) [] r (by simp) (hB.level hw hf)
  | cons x r' =>
    simp only [List.cons_append, List.cons.injEq] at hab
    obtain ⟨rfl, hr⟩ := hab
    exact key d b r' hr hB

end
def clE (ok : Timpl_Edge → Bool) (es : List Timpl_Edge) (i : Nat) (s : (Int → Bool) × Bool) : (Int → Bool) × Bool := match es[i]? with
  | none => s
  | some e => if ok e = true ∧ s.1 e.1 = true ∧ s.1 e.2.2 = false then (upd s.1 e.2.2 true, true) else s
def clN (ok : Timpl_Edge → Bool) (es : List Timpl_Edge) (s : (Int → Bool) × Bool) : Option ((Int → Bool) × Bool) := if s.2 = true then some (upfold (clE ok es) es.length (s.1, false)) else none
/-- The least closed set that holds f0. -/
def Cl (ok : Timpl_Edge → Bool) (es : List Timpl_Edge) (f0 : Int → Bool) (v : Int) : Prop := ∀ S : Int → Prop, (∀ u, f0 u = true → S u) → (∀ e ∈ es, ok e = true → S e.1 → S e.2.2) → S v

section
variable {n : Nat} {ok : Timpl_Edge → Bool} {es : List Timpl_Edge} {f0 : Int → Bool}
def ClI (ok : Timpl_Edge → Bool) (es : List Timpl_Edge) (f0 : Int → Bool) (s : (Int → Bool) × Bool) : Prop :=
  (∀ v, f0 v = true → s.1 v = true) ∧ (∀ v, s.1 v = true → Cl ok es f0 v) ∧ (s.2 = false → ∀ e ∈ es, ok e = true → s.1 e.1 = true → s.1 e.2.2 = true)
def ClM (n : Nat) (ok : Timpl_Edge → Bool) (es : List Timpl_Edge) (f0 g : Int → Bool) (i : Nat) (s : (Int → Bool) × Bool) : Prop :=
  (∀ v, f0 v = true → s.1 v = true) ∧ (∀ v, s.1 v = true → Cl ok es f0 v) ∧ (s.2 = false → s.1 = g ∧ ∀ (j : Nat) (e : Timpl_Edge), j < i → es[j]? = some e → ok e = true → g e.1 = true → g e.2.2 = true) ∧
    (tab n s.1).countP (fun b => !b) ≤ (tab n g).countP (fun b => !b) ∧ (s.2 = true → (tab n s.1).countP (fun b => !b) < (tab n g).countP (fun b => !b))

theorem cl_edge (hd : ∀ e ∈ es, 0 ≤ e.2.2 ∧ e.2.2 < (n : Int)) {g : Int → Bool} {i : Nat} {s : (Int → Bool) × Bool} (hi : i < es.length) (h : ClM n ok es f0 g i s) : ClM n ok es f0 g (i + 1) (clE ok es i s) := by
  obtain ⟨e, he⟩ := get_lt hi
  have hem := List.mem_of_getElem? he
  obtain ⟨h1, h2, h3, h4, h5⟩ := h
  unfold clE
  rw [he]
  simp only []
  by_cases hc : ok e = true ∧ s.1 e.1 = true ∧ s.1 e.2.2 = false
  · rw [if_pos hc]
    have hcnt := tab_count (n := n) (f := s.1) (p := fun b => !b) (v := e.2.2) (x := true) (hd e hem).1 (hd e hem).2 (by rw [hc.2.2]; rfl) rfl
    refine ⟨fun v hv => ?_, fun v hv => ?_, fun q => (by cases q), by show (tab n (upd s.1 e.2.2 true)).countP _ ≤ _; omega, fun _ => by show (tab n (upd s.1 e.2.2 true)).countP _ < _; omega⟩
    · show upd s.1 e.2.2 true v = true
      by_cases hve : v = e.2.2
      · rw [hve, upd_eq]
      · rw [upd_ne hve]; exact h1 v hv
    · replace hv : upd s.1 e.2.2 true v = true := hv
      by_cases hve : v = e.2.2
      · subst hve
        exact fun S q1 q2 => q2 e hem hc.1 (h2 _ hc.2.1 S q1 q2)
      · rw [upd_ne hve] at hv; exact h2 v hv
  · rw [if_neg hc]
    refine ⟨h1, h2, fun q => ⟨(h3 q).1, fun j e' hj hje ho hg => ?_⟩, h4, h5⟩
    by_cases hji : j = i
    · subst hji
      rw [he] at hje
      cases hje
      have hsg := (h3 q).1
      cases hb : g e.2.2
      · exact absurd ⟨ho, by rw [hsg]; exact hg, by rw [hsg]; exact hb⟩ hc
      · rfl
    · exact (h3 q).2 j e' (by omega) hje ho hg

theorem cl_next (hd : ∀ e ∈ es, 0 ≤ e.2.2 ∧ e.2.2 < (n : Int)) (s s' : (Int → Bool) × Bool) (hI : ClI ok es f0 s) (hn : clN ok es s = some s') :
    ClI ok es f0 s' ∧ (2 * (tab n s'.1).countP (fun b => !b) + if s'.2 = true then 1 else 0) < (2 * (tab n s.1).countP (fun b => !b) + if s.2 = true then 1 else 0) := by
  obtain ⟨g, b⟩ := s
  cases b with
  | false => cases hn
  | true =>
    obtain rfl : upfold (clE ok es) es.length (g, false) = s' := Option.some.inj hn
    obtain ⟨m1, m2, m3, m4, m5⟩ := upfold_ind (g := clE ok es) (ClM n ok es f0 g) es.length (s := (g, false)) ⟨hI.1, hI.2.1, fun _ => ⟨rfl, fun j e hj => by omega⟩, Nat.le_refl _, fun q => by cases q⟩ fun i s hi hM => cl_edge hd hi hM
    refine ⟨⟨m1, m2, fun q e he ho hg => ?_⟩, ?_⟩
    · obtain ⟨j, hj, rfl⟩ := List.getElem_of_mem he
      have := m3 q
      rw [this.1] at hg ⊢
      exact this.2 j _ hj (List.getElem?_eq_getElem hj) ho hg
    · simp only [if_true]
      cases hb : (upfold (clE ok es) es.length (g, false)).2
      · simp only [Bool.false_eq_true, if_false]; omega
      · have := m5 hb
        simp only [if_true]; omega

theorem cl_all (hd : ∀ e ∈ es, 0 ≤ e.2.2 ∧ e.2.2 < (n : Int)) : ∃ f : Int → Bool, (∀ v, f v = true ↔ Cl ok es f0 v) ∧ ∀ {σ β : Type} {step : Nat → σ → Option (σ ⊕ β)} (enc : (Int → Bool) × Bool → σ) (out : (Int → Bool) × Bool → β),
      (∀ s s', ClI ok es f0 s → clN ok es s = some s' → Ev (fun m => step m (enc s)) (.inl (enc s'))) → (∀ s, ClI ok es f0 s → clN ok es s = none → Ev (fun m => step m (enc s)) (.inr (out s))) → EvI step (enc (f0, true)) (out (f, false)) := by
  obtain ⟨⟨f, b⟩, h1, h2, h3⟩ := EvI.det (clN ok es) (ClI ok es f0) (fun s => 2 * (tab n s.1).countP (fun b => !b) + if s.2 = true then 1 else 0) (cl_next hd) (s0 := (f0, true)) ⟨fun v hv => hv, fun v hv S q1 _ => q1 v hv, fun q => by cases q⟩
  cases b with
  | true => cases h2
  | false => exact ⟨f, fun v => ⟨h1.2.1 v, fun hv => hv (fun v => f v = true) h1.1 (h1.2.2 rfl)⟩, h3⟩

theorem cl_rch {fr : List Int} (h0 : ∀ v, f0 v = true ↔ v ∈ fr) {v : Int} : Cl ok es f0 v ↔ ∃ c, Rch ((es.filter ok).map (pr false)) fr c v := by
  constructor
  · intro h
    refine h (fun v => ∃ c, Rch ((es.filter ok).map (pr false)) fr c v) (fun u hu => ⟨0, (h0 u).1 hu⟩) fun e he ho ⟨c, hc⟩ => ⟨c + 1, pr false e, List.mem_map.2 ⟨e, List.mem_filter.2 ⟨he, ho⟩, rfl⟩, hc, rfl⟩
  · rintro ⟨c, hc⟩ S q1 q2
    induction c generalizing v with
    | zero => exact q1 v ((h0 v).2 hc)
    | succ c ih =>
      obtain ⟨p, hp, hr, hv⟩ := hc
      obtain ⟨e, he, rfl⟩ := List.mem_map.1 hp
      have he' := List.mem_filter.1 he
      have := q2 e he'.1 he'.2 (ih hr)
      rwa [← hv]
end
abbrev GStrs : List Str → Prop := gList gStr
abbrev GEd : Tlaws_Edge → Prop := gAnd (gInt .i64) (gAnd (gInt .i64) (gInt .i64))
abbrev GEds : List Tlaws_Edge → Prop := gList GEd
abbrev GLts : Tlaws_Lts → Prop := gAnd (gInt .i64) (gAnd (gInt .i64) (gAnd GStrs GEds))
def BLts (t : Tlaws_Lts) : Prop := t.2.2.1.length ≤ 1048576 ∧ (∀ s ∈ t.2.2.1, s.length ≤ 1048576) ∧ t.2.2.2.length ≤ 1048576

theorem sz_strs {a : List Str} (g : GStrs a) {b : Int} (h0 : 0 ≤ b) (hb : b ≤ 1048576) : ∃ r, Ev (fun n => laws_szStringS_m n a b) r ∧ Sz b r (a.length ≤ 1048576 ∧ ∀ s ∈ a, s.length ≤ 1048576) := by
  have hm := mx
  have hl := g.1
  unfold laws_szStringS_m
  rw [W_of (n := b - (a.length : Int)) (by omega) (by omega)]
  by_cases h : b - (a.length : Int) < 0
  · exact ⟨-1, Ev.ite_t (by simpa using h) (Ev.pure _), .inl (by omega)⟩
  · refine Exists.elim (EvI.count (β := Int ⊕ Int) (step := _)
      a.length (fun k (t : Int) => (t, (k : Int))) (fun k t => 0 ≤ t ∧ t ≤ b ∧ ∀ i, i < k → ∀ x, a[i]? = some x → x.length ≤ 1048576) (fun r => r = .inr (-1) ∨ ∃ t, r = .inl t ∧ 0 ≤ t ∧ t ≤ b ∧ ∀ x ∈ a, x.length ≤ 1048576)
      ?_ ?_ (k := 0) (t := b - (a.length : Int)) (Nat.zero_le _) ⟨by omega, by omega, fun i hi => by omega⟩) (fun res ⟨h1, h2⟩ => Exists.intro (match res with | .inl t => t | .inr t => t) ⟨Ev.ite_f (by simpa using h) (Ev.bind h1.ev (Ev.const (by cases res <;> rfl))), by
        rcases h2 with rfl | ⟨t, rfl, h3, h4, h5⟩
        · exact .inl (by show (-1 : Int) < 0; omega)
        · exact .inr ⟨h3, h4, by omega, h5⟩⟩)
    · rintro k t hk ⟨ht0, htb, hp⟩
      obtain ⟨x, hx⟩ := get_lt hk
      have gx := g.2 x (List.mem_of_getElem? hx)
      have hw : W (t - (x.length : Int)) = t - (x.length : Int) := W_of (by omega) (by omega)
      by_cases hneg : t - (x.length : Int) < 0
      · exact .inr ⟨_, Ev.ite_t (by simpa using hk) (Ev.bindc (idx_at hx) (Ev.ite_t (by rw [hw]; exact decide_eq_true hneg) (Ev.pure _))), .inl rfl⟩
      · refine .inl ⟨t - (x.length : Int), (Ev.ite_t (by simpa using hk) (Ev.bindc (idx_at hx) (Ev.ite_f (by rw [hw]; simpa using hneg) (Ev.pure _)))).eq ?_, by omega, by omega, fun i hi y hy => ?_⟩
        · rw [hw, W_of (by omega) (by omega)]; rfl
        · by_cases hik : i = k
          · subst hik; rw [hx] at hy; cases hy; omega
          · exact hp i (by omega) y hy
    · rintro t ⟨ht0, htb, hp⟩
      refine ⟨_, Ev.ite_f (by simp) (Ev.pure _), .inr ⟨t, rfl, ht0, htb, fun x hx => ?_⟩⟩
      obtain ⟨i, hi, rfl⟩ := List.getElem_of_mem hx
      exact hp i hi _ (List.getElem?_eq_getElem hi)

theorem sz_lts {a : Tlaws_Lts} (g : GLts a) {b : Int} (h0 : 0 ≤ b) (hb : b ≤ 1048576) : ∃ r, Ev (fun n => laws_szLts_m n a b) r ∧ Sz b r (BLts a) := by
  obtain ⟨r1, h1, s1⟩ := sz_strs g.2.2.1 h0 hb
  by_cases n1 : r1 < 0
  · exact ⟨-1, Ev.bind h1 (Ev.ite_t (by simpa using n1) (Ev.pure _)), .inl (by omega)⟩
  · rcases s1 with s1 | ⟨p1, q1, b1⟩
    · exact absurd s1 n1
    · obtain ⟨r2, h2, s2⟩ := sz_leaf (n := a.2.2.2.length) (b := r1) p1 (by omega) g.2.2.2.1
      by_cases n2 : r2 < 0
      · exact ⟨-1, Ev.bind h1 (Ev.ite_f (by simpa using n1) (Ev.bind h2 (Ev.ite_t (by simpa using n2) (Ev.pure _)))), .inl (by omega)⟩
      · rcases s2 with s2 | ⟨p2, q2, b2⟩
        · exact absurd s2 n2
        · exact ⟨r2, Ev.bind h1 (Ev.ite_f (by simpa using n1) (Ev.bind h2 (Ev.ite_f (by simpa using n2) (Ev.pure _)))), .inr ⟨p2, by omega, b1.1, b1.2, b2⟩⟩

theorem toB_strs {a : List Str} (hl : a.length ≤ 1048576) : Ev (fun n => laws_toStringS_m n a) a := by
  have := to_loop («to» := fun _ (x : Str) => some x) (f := id) (a := a) (z := ([] : Str)) (fun x _ => Ev.pure x) hl
  rw [List.map_id] at this
  exact this
theorem toB_edges {a : List Tlaws_Edge} (hl : a.length ≤ 1048576) : Ev (fun n => laws_toEdgeS_m n a) a := by
  have := to_loop («to» := fun n x => laws_toEdge_m n x) (f := id) (a := a) (z := ((0 : Int), (0 : Int), (0 : Int))) (fun x _ => Ev.pure x) hl
  rw [List.map_id] at this
  exact this
theorem toB_lts {a : Tlaws_Lts} (h : BLts a) : Ev (fun n => laws_toLts_m n a) a := Ev.bind (toB_strs h.1) (Ev.bind (toB_edges h.2.2) (Ev.pure _))

theorem eqB_strs {a : List Str} (h : a.length ≤ 1048576) : Ev (fun n => laws_eqStringS_m n a a) true := eq_loop_ints (by have := mx; omega)
theorem eqB_edges {a : List Timpl_Edge} (h : a.length ≤ 1048576) : Ev (fun n => laws_eqEdgeS_m n a a) true :=
  eq_loop (eq := fun n x y => laws_eqEdge_m n x y) (fun x _ => Ev.ite_f (by simp) (Ev.ite_f (by simp) (Ev.ite_f (by simp) (Ev.pure _)))) (by have := mx; omega)
theorem eqB_lts {a : Timpl_Lts} (h : BLts a) : Ev (fun n => laws_eqLts_m n a a) true :=
  Ev.ite_f (by simp) (Ev.ite_f (by simp) (Ev.bind (eqB_strs h.1) (Ev.ite_f (by simp) (Ev.bind (eqB_edges h.2.2) (Ev.ite_f (by simp) (Ev.pure _))))))
theorem valid_impl {t : Timpl_Lts} (hl : t.2.2.1.length ≤ 1048576) (hs : ∀ s ∈ t.2.2.1, s.length ≤ 1048576) (he : t.2.2.2.length ≤ 1048576) : Ev (fun m => impl_ValidLts_m m t) (validP t) := by
  have hm := mx
  unfold impl_ValidLts_m validP
  simp only [within_eq, isState_m, index_eq, Option.bind_some]
  cases h1 : inn t.1 1 40
  · unfold inn at h1
    exact Ev.eq (r := false) (Ev.const' fun m => by simp only [h1, Bool.not_false, if_true, Option.bind_some]) rfl
  · unfold inn at h1
    cases h2 : inn t.2.1 0 (W (t.1 - 1))
    · exact Ev.eq (r := false) (Ev.const' fun m => by simp only [h1, Bool.not_false, Bool.not_true, Bool.false_eq_true, if_true, if_false, Option.bind_some]) rfl
    · simp only [h1, Bool.not_true, Bool.false_eq_true, if_false, Option.bind_some, Bool.true_and]
      by_cases h3 : 1 ≤ t.2.2.1.length ∧ t.2.2.1.length ≤ 12
      · have e3 : (decide ((1 : Int) ≤ (t.2.2.1.length : Int)) && decide ((t.2.2.1.length : Int) ≤ 12)) = true := by
          rw [decide_eq_true (by omega : (1 : Int) ≤ (t.2.2.1.length : Int)), decide_eq_true (by omega : (t.2.2.1.length : Int) ≤ 12)]; rfl
        simp only [e3, Bool.not_true, Bool.false_eq_true, if_false, Option.bind_some]
        unfold edgesP
        by_cases h4 : 300 < t.2.2.2.length
        · rw [decide_eq_false (show ¬ t.2.2.2.length ≤ 300 by omega), Bool.false_and, Bool.and_false]
          exact Ev.ite_t (decide_eq_true (by omega)) (Ev.pure _)
        · rw [decide_eq_true (show t.2.2.2.length ≤ 300 by omega), Bool.true_and]
          refine Ev.ite_f (by simp; omega) ?_
          have hlab : labsP t.2.2.1 = decide (∀ k, k < t.2.2.1.length → okL t.2.2.1 k = true) := by
            unfold labsP
            rw [decide_eq_true h3.1, decide_eq_true h3.2]; rfl
          rw [hlab]
          have cond : ∀ k s, k < t.2.2.1.length → t.2.2.1[k]? = some s → Ev (fun m => (impl_IsLabel_m m s).bind fun x357 => (if (!x357) = true then some true else some ((s == ([116, 97, 117] : Str)) != ((k : Int) == (0 : Int)))).bind fun t360 => (if t360 = true then some true else (if (decide ((1 : Int) < (k : Int))) = true then (idx t.2.2.1 (W ((k : Int) - (1 : Int)))).bind fun x369 => some (Op.bytesLess s x369 || s == x369) else some false).bind fun t366 => some t366).bind fun t363 => (if t363 = true then some (.inr (.inr false)) else some (.inl ((W ((k : Int) + (1 : Int))))) : Option (Int ⊕ (Unit ⊕ Bool)))) (if okL t.2.2.1 k = true then .inl ((k + 1 : Nat) : Int) else .inr (.inr false)) := by
            intro k s hk hs'
            refine Ev.bind (label_impl (hs s (List.mem_of_getElem? hs'))) (Ev.const ?_)
            have e : ∀ (c : Bool) (x y : Int ⊕ (Unit ⊕ Bool)), some (if c = true then x else y) = some (if (!c) = true then y else x) := by intro c x y; cases c <;> rfl
            unfold okL condX
            rw [hs']
            cases k with
            | zero =>
              simp only [Option.bind_some, or_some, show decide ((1 : Int) < ((0 : Nat) : Int)) = false from rfl, Bool.false_eq_true, if_false, W_succ hk (by omega), Bool.false_and, Bool.or_false]
              rw [ite_some, e]
              rfl
            | succ j =>
              obtain ⟨p, hp⟩ := get_lt (xs := t.2.2.1) (k := j) (by omega)
              have w2 := W_pred (k := j) (n := t.2.2.1.length) (by omega) (by omega)
              simp only [hp, w2, idx_at hp, Option.bind_some, or_some, and_some, W_succ hk (by omega), Nat.add_sub_cancel, bl_le]
              rw [ite_some, e, Bool.or_assoc]
              rfl
          refine Ev.bind (EvI.all t.2.2.1.length (okL t.2.2.1) false (fun k hk hok => ?_) (fun k hk hok => ?_) (Ev.ite_f (by simp) (Ev.pure _))).ev ?_
          · obtain ⟨s, hs'⟩ := get_lt hk
            have hk' : decide ((k : Int) < (t.2.2.1.length : Int)) = true := by simpa using hk
            exact Ev.ite_t hk' (Ev.bindc (idx_at hs') ((cond k s hk hs').eq (by rw [hok]; rfl)))
          · obtain ⟨s, hs'⟩ := get_lt hk
            have hk' : decide ((k : Int) < (t.2.2.1.length : Int)) = true := by simpa using hk
            exact Ev.ite_t hk' (Ev.bindc (idx_at hs') ((cond k s hk hs').eq (by rw [hok]; rfl)))
          · by_cases h5 : ∀ k, k < t.2.2.1.length → okL t.2.2.1 k = true
            · rw [if_pos h5, decide_eq_true h5, Bool.true_and]
              have c3 : ∀ k e, k < t.2.2.2.length → t.2.2.2[k]? = some e → Ev (fun m => (if (decide ((0 : Int) < (k : Int))) = true then (idx t.2.2.2 (W ((k : Int) - (1 : Int)))).bind fun x327 => (impl_compareEdges_m m (x327.1, x327.2.1, x327.2.2) (e.1, e.2.1, e.2.2)).bind fun x342 => some (decide ((0 : Int) ≤ x342)) else some false)) (decide ((0 : Int) < (k : Int)) && (match t.2.2.2[k - 1]? with | none => false | some p => !edgeLess p e)) := by
                intro k e hk he'
                cases k with
                | zero => exact Ev.const' fun m => rfl
                | succ j =>
                  obtain ⟨p, hp⟩ := get_lt (xs := t.2.2.2) (k := j) (by omega)
                  have hpos : decide ((0 : Int) < ((j + 1 : Nat) : Int)) = true := decide_eq_true (by omega)
                  obtain ⟨r, hr1, hr2⟩ := edges_cmp p e
                  rw [W_pred (k := j) (n := t.2.2.2.length) (by omega) (by omega), Nat.add_sub_cancel, hp, hpos, Bool.true_and]
                  exact Ev.ite_t rfl (Ev.bindc (idx_at hp) (Ev.bind hr1 (Ev.const (by rw [hr2]))))
              refine (Ev.all t.2.2.2.length (fun k => !condE (W (t.1 - 1)) (W ((t.2.2.1.length : Int) - 1)) t.2.2.2 k) false true (fun k hk hok => ?_) (fun k hk hok => ?_) (Ev.ite_f (by simp) (Ev.pure _))).eq (by split <;> simp_all)
              all_goals
                obtain ⟨e, he'⟩ := get_lt hk
                have hk' : decide ((k : Int) < (t.2.2.2.length : Int)) = true := by simpa using hk
              · have hc : condE (W (t.1 - 1)) (W ((t.2.2.1.length : Int) - 1)) t.2.2.2 k = false := by rwa [Bool.not_eq_true'] at hok
                unfold condE at hc
                rw [he'] at hc
                simp only [Bool.or_eq_false_iff] at hc
                obtain ⟨⟨g1, g2⟩, g3, g4⟩ := hc
                have c := (c3 k e hk he').eq g4
                unfold inn at g3
                refine Ev.ite_t hk' (Ev.bindc (idx_at he') (Ev.bindc (a := false) ?_ (Ev.bindc (a := false) ?_ (Ev.bind (a := false) (Ev.ite_f (by simp) (Ev.bind c (Ev.pure _))) (Ev.ite_f (by simp) (Ev.const ?_))))))
                · simp only [g1, g2, Bool.false_eq_true, if_false]
                · simp only [g3, Bool.false_eq_true, if_false]
                · rw [W_succ hk (by omega)]
              · have hc : condE (W (t.1 - 1)) (W ((t.2.2.1.length : Int) - 1)) t.2.2.2 k = true := by rwa [Bool.not_eq_false'] at hok
                unfold condE at hc
                rw [he'] at hc
                have c := c3 k e hk he'
                refine Ev.ite_t hk' (Ev.bindc (idx_at he') (Ev.bindc (a := (!inn e.1 0 (W (t.1 - 1)) || !inn e.2.2 0 (W (t.1 - 1)))) (by rw [or_some]) (Ev.bindc (a := ((!inn e.1 0 (W (t.1 - 1)) || !inn e.2.2 0 (W (t.1 - 1))) || !inn e.2.1 0 (W ((t.2.2.1.length : Int) - 1)))) (by rw [or_some]; rfl) ?_)))
                refine Ev.bind (a := true) ?_ (Ev.ite_t rfl (Ev.pure _))
                cases ha : ((!inn e.1 0 (W (t.1 - 1)) || !inn e.2.2 0 (W (t.1 - 1))) || !inn e.2.1 0 (W ((t.2.2.1.length : Int) - 1)))
                · refine Ev.ite_f (by simp) (Ev.bind c (Ev.const ?_))
                  have hc' : ((!inn e.1 0 (W (t.1 - 1)) || !inn e.2.2 0 (W (t.1 - 1))) || (!inn e.2.1 0 (W ((t.2.2.1.length : Int) - 1)) || (decide ((0 : Int) < (k : Int)) && (match t.2.2.2[k - 1]? with | none => false | some p => !edgeLess p e)))) = true := hc
                  rw [← Bool.or_assoc, ha, Bool.false_or] at hc'
                  rw [hc']
                · exact Ev.ite_t rfl (Ev.pure _)
            · rw [if_neg h5, decide_eq_false h5, Bool.false_and]
              exact Ev.const' fun m => rfl
      · have e3 : (decide ((1 : Int) ≤ (t.2.2.1.length : Int)) && decide ((t.2.2.1.length : Int) ≤ 12)) = false := by
          apply Bool.eq_false_iff.2
          intro h
          rw [Bool.and_eq_true] at h
          exact h3 ⟨by have := of_decide_eq_true h.1; omega, by have := of_decide_eq_true h.2; omega⟩
        have hlab : labsP t.2.2.1 = false := by
          unfold labsP
          apply Bool.eq_false_iff.2
          intro h
          rw [Bool.and_eq_true, Bool.and_eq_true] at h
          exact h3 ⟨of_decide_eq_true h.1.1, of_decide_eq_true h.1.2⟩
        rw [hlab, Bool.false_and]
        exact Ev.const' fun m => by simp only [e3, Bool.not_false, if_true, Option.bind_some]
theorem EvI.first {β : Type} {step : Nat → Int → Option (Int ⊕ β)} {b : β} (i : Nat) (hs : ∀ j, j < i → Ev (fun m => step m (j : Int)) (.inl ((j + 1 : Nat) : Int))) (hi : Ev (fun m => step m (i : Int)) (.inr b)) : EvI step (0 : Int) b :=
  EvI.upto i (fun k (_ : Unit) => (k : Int)) (fun _ _ => True) (k := 0) (t := ()) rfl (Nat.zero_le _) trivial (fun k _t hk _ => ⟨(), hs k hk, trivial⟩) (fun _ _ => hi)

/-! ### compact -/
theorem compact_inc {zs : List Int} (h : zs.Pairwise (· ≤ ·)) : (Lib.compact zs).Pairwise (· < ·) ∧ ∀ v, v ∈ Lib.compact zs ↔ v ∈ zs := by
  have hle : ∀ i j : Nat, i < j → j < zs.length → zs.toArray[i]! ≤ zs.toArray[j]! := by
    intro i j hij hj
    rw [getElem!_pos zs.toArray i (by simpa using (by omega : i < zs.length)), getElem!_pos zs.toArray j (by simpa using hj)]
    simpa using List.pairwise_iff_getElem.1 h i j (by omega) hj hij
  have key : ∀ m, m ≤ zs.length → (Lib.compactUpTo zs.toArray m).Pairwise (· < ·) ∧ ∀ v, v ∈ Lib.compactUpTo zs.toArray m ↔ ∃ j, j < m ∧ zs.toArray[j]! = v := by
    intro m
    induction m with
    | zero => intro _; refine ⟨by simp [Lib.compactUpTo], fun v => ?_⟩; simp [Lib.compactUpTo]
    | succ m ih =>
      intro hm
      obtain ⟨h1, h2⟩ := ih (by omega)
      rw [Lib.compactUpTo_succ]
      cases hk : Lib.keeps zs.toArray m
      · refine ⟨by simpa using h1, fun v => ?_⟩
        simp only [Bool.false_eq_true, if_false, List.append_nil]
        rw [h2 v]
        constructor
        · rintro ⟨j, a, b⟩; exact ⟨j, by omega, b⟩
        · rintro ⟨j, a, b⟩
          by_cases hj : j = m
          · subst hj
            have hz : 0 < j ∧ zs.toArray[j]! = zs.toArray[j - 1]! := by
              unfold Lib.keeps at hk
              have := of_decide_eq_false hk
              refine ⟨?_, ?_⟩
              · by_cases h0 : j = 0
                · exact absurd (.inl h0) this
                · omega
              · by_cases h0 : zs.toArray[j]! = zs.toArray[j - 1]!
                · exact h0
                · exact absurd (.inr h0) this
            exact ⟨j - 1, by omega, by rw [← hz.2]; exact b⟩
          · exact ⟨j, by omega, b⟩
      · simp only [if_true]
        refine ⟨List.pairwise_append.2 ⟨h1, by simp, fun a ha b hb => ?_⟩, fun v => ?_⟩
        · obtain ⟨j, hj, rfl⟩ := (h2 a).1 ha
          obtain rfl : b = zs.toArray[m]! := by simpa using hb
          have hz : m = 0 ∨ zs.toArray[m]! ≠ zs.toArray[m - 1]! := by
            unfold Lib.keeps at hk
            exact of_decide_eq_true hk
          rcases hz with hz | hz
          · omega
          · have l1 := hle (m - 1) m (by omega) (by omega)
            by_cases hjm : j = m - 1
            · subst hjm; omega
            · have l2 := hle j (m - 1) (by omega) (by omega)
              omega
        · rw [List.mem_append, h2 v]
          constructor
          · rintro (⟨j, a, b⟩ | hv)
            · exact ⟨j, by omega, b⟩
            · exact ⟨m, by omega, (List.mem_singleton.1 hv).symm⟩
          · rintro ⟨j, a, b⟩
            by_cases hj : j = m
            · subst hj; exact .inr (by simp [b])
            · exact .inl ⟨j, by omega, b⟩
  obtain ⟨h1, h2⟩ := key zs.length (Nat.le_refl _)
  refine ⟨h1, fun v => (h2 v).trans ?_⟩
  constructor
  · rintro ⟨j, hj, rfl⟩
    rw [getElem!_pos zs.toArray j (by simpa using hj)]
    simp
  · intro hv
    obtain ⟨j, hj, rfl⟩ := List.getElem_of_mem hv
    refine ⟨j, hj, ?_⟩
    rw [getElem!_pos zs.toArray j (by simpa using hj)]
    simp
theorem comp_srt {n : Nat} {l : List Int} (hr : Rg n l) : Lib.compact (srt l) = below n fun k => decide ((k : Int) ∈ l) := by
  obtain ⟨h1, h2⟩ := compact_inc (srt_le l)
  refine inc_ext h1 (below_lt _ _) fun v => ?_
  rw [h2 v, mem_srt, mem_below]
  constructor
  · intro hv
    have := hr v hv
    exact ⟨v.toNat, by omega, by omega, decide_eq_true (by rwa [show ((v.toNat : Nat) : Int) = v by omega])⟩
  · rintro ⟨k, rfl, _, h⟩; simpa using h

/-! ### labels -/
theorem bl_trans : ∀ a b c : Str, Op.bytesLess a b = true → Op.bytesLess b c = true → Op.bytesLess a c = true
  | _, [], _, h, _ => by simp [Op.bytesLess] at h
  | _, _ :: _, [], _, h => by simp [Op.bytesLess] at h
  | [], _ :: _, _ :: _, _, _ => by simp [Op.bytesLess]
  | x :: a, y :: b, z :: c, h1, h2 => by
    simp only [Op.bytesLess, Bool.or_eq_true, Bool.and_eq_true, decide_eq_true_eq, beq_iff_eq] at h1 h2 ⊢
    rcases h1 with h1 | ⟨rfl, h1⟩
    · rcases h2 with h2 | ⟨rfl, h2⟩
      · left; rw [UInt8.lt_iff_toNat_lt] at h1 h2 ⊢; omega
      · exact .inl h1
    · rcases h2 with h2 | ⟨rfl, h2⟩
      · exact .inl h2
      · exact .inr ⟨rfl, bl_trans a b c h1 h2⟩

theorem VL.at_ {t : Timpl_Lts} {n : Nat} (V : VL t n) {k : Nat} {s : Str} (h : t.2.2.1[k]? = some s) : labelP s = true ∧ (s = tau' ↔ k = 0) ∧ ∀ (j : Nat) (p : Str), k = j + 1 → 0 < j → t.2.2.1[j]? = some p → Op.bytesLess p s = true := by
  have hk := (List.getElem?_eq_some_iff.1 h).1
  have h1 := V.lab k hk
  unfold okL condX at h1
  rw [h] at h1
  simp only [Bool.not_eq_true', Bool.or_eq_false_iff, Bool.not_eq_false'] at h1
  obtain ⟨a, b, c⟩ := h1
  refine ⟨a, ?_, fun j p hj h0 hp => ?_⟩
  · have b' : (s == tau') = ((k : Int) == 0) := by simpa using b
    constructor
    · intro e
      rw [e, beq_self_eq_true] at b'
      have := beq_iff_eq.1 b'.symm
      omega
    · intro e
      subst e
      exact beq_iff_eq.1 (b'.trans rfl)
  · subst hj
    rw [decide_eq_true (by omega), Bool.true_and, Nat.add_sub_cancel, hp] at c
    simpa using c
theorem VL.lt {t : Timpl_Lts} {n : Nat} (V : VL t n) : ∀ (d i : Nat) (s r : Str), 1 ≤ i → t.2.2.1[i]? = some s → t.2.2.1[i + d + 1]? = some r → Op.bytesLess s r = true
  | 0, i, s, r, h1, hs, hr => (V.at_ hr).2.2 i s rfl (by omega) hs
  | d + 1, i, s, r, h1, hs, hr => by
    have hl := (List.getElem?_eq_some_iff.1 hr).1
    obtain ⟨q, hq⟩ := get_lt (xs := t.2.2.1) (k := i + d + 1) (by omega)
    exact bl_trans _ _ _ (V.lt d i s q h1 hs hq) ((V.at_ hr).2.2 (i + d + 1) q rfl (by omega) hq)
theorem VL.one {t : Timpl_Lts} {n : Nat} (V : VL t n) {i j : Nat} {s : Str} (hi : t.2.2.1[i]? = some s) (hj : t.2.2.1[j]? = some s) : i = j := by
  have key : ∀ i j : Nat, i < j → t.2.2.1[i]? = some s → t.2.2.1[j]? = some s → False := by
    intro i j hij hi hj
    by_cases h0 : i = 0
    · have := ((V.at_ hj).2.1).1 (((V.at_ hi).2.1).2 h0)
      omega
    · obtain ⟨d, rfl⟩ : ∃ d, j = i + d + 1 := ⟨j - i - 1, by omega⟩
      have := V.lt d i s s (by omega) hi hj
      rw [bl_irr] at this
      cases this
  by_cases a : i < j
  · exact (key i j a hi hj).elim
  · by_cases b : j < i
    · exact (key j i b hj hi).elim
    · omega

/-- An edge's label. -/
def labT (t : Timpl_Lts) (e : Timpl_Edge) : Str := (idx t.2.2.1 e.2.1).getD []
theorem labT_at {t : Timpl_Lts} {n : Nat} (V : VL t n) {e : Timpl_Edge} (he : e ∈ t.2.2.2) : idx t.2.2.1 e.2.1 = some (labT t e) := by
  have hl := V.lbl e he
  obtain ⟨s, hs⟩ := get_lt (xs := t.2.2.1) (k := e.2.1.toNat) (by omega)
  have hs' := idx_at hs
  rw [show ((e.2.1.toNat : Nat) : Int) = e.2.1 by omega] at hs'
  unfold labT
  rw [hs']; rfl
theorem labT_tau {t : Timpl_Lts} {n : Nat} (V : VL t n) {e : Timpl_Edge} (he : e ∈ t.2.2.2) : labT t e = tau' ↔ e.2.1 = 0 := by
  have h := idx_some (labT_at V he)
  rw [(V.at_ h.2).2.1]
  omega

/-! ### following a label -/
def folP (n : Nat) (t : Timpl_Lts) (l : List Int) (s : Str) : List Int := below n fun k => t.2.2.2.any fun e => (labT t e == s && decide (e.1 ∈ l)) && decide (e.2.2 = (k : Int))
theorem mem_fol {t : Timpl_Lts} {n : Nat} (V : VL t n) {l : List Int} {s : Str} {v : Int} : v ∈ folP n t l s ↔ ∃ e ∈ t.2.2.2, labT t e = s ∧ e.1 ∈ l ∧ e.2.2 = v := by
  unfold folP
  rw [mem_below]
  constructor
  · rintro ⟨k, rfl, _, h⟩
    obtain ⟨e, he, h1⟩ := List.any_eq_true.1 h
    simp only [Bool.and_eq_true, beq_iff_eq, decide_eq_true_eq] at h1
    exact ⟨e, he, h1.1.1, h1.1.2, h1.2⟩
  · rintro ⟨e, he, h1, h2, rfl⟩
    have hd := V.dst e he
    refine ⟨e.2.2.toNat, by omega, by omega, List.any_eq_true.2 ⟨e, he, ?_⟩⟩
    simp only [Bool.and_eq_true, beq_iff_eq, decide_eq_true_eq]
    exact ⟨⟨h1, h2⟩, by omega⟩
theorem fol_rg {t : Timpl_Lts} {n : Nat} {l : List Int} {s : Str} : Rg n (folP n t l s) := by
  intro v hv
  obtain ⟨k, rfl, hk, _⟩ := mem_below.1 hv
  omega
theorem fol_ok {t : Timpl_Lts} {n : Nat} {l : List Int} {s : Str} : OkL n (folP n t l s) := ⟨(below_lt _ _).imp fun h => by omega, fol_rg⟩
theorem follow_ev {t : Timpl_Lts} {n : Nat} (V : VL t n) {l : List Int} {s : Str} (hl : l.length ≤ 1048576) : Ev (fun m => impl_Lts_follow_m m t l s) (folP n t l s) := by
  have hfew := V.few
  have hmx := mx
  have hres : Lib.compact (srt ((t.2.2.2.filter fun e => labT t e == s && decide (e.1 ∈ l)).map (·.2.2))) = folP n t l s := by
    have hr : Rg n ((t.2.2.2.filter fun e => labT t e == s && decide (e.1 ∈ l)).map (·.2.2)) := by
      intro v hv
      obtain ⟨e, he, rfl⟩ := List.mem_map.1 hv
      exact V.dst e (List.mem_filter.1 he).1
    rw [comp_srt hr]
    refine inc_ext (below_lt _ _) (below_lt _ _) fun v => ?_
    rw [mem_fol V, mem_below]
    constructor
    · rintro ⟨k, rfl, _, h⟩
      obtain ⟨e, he, h1⟩ := List.mem_map.1 (of_decide_eq_true h)
      obtain ⟨h2, h3⟩ := List.mem_filter.1 he
      simp only [Bool.and_eq_true, beq_iff_eq, decide_eq_true_eq] at h3
      exact ⟨e, h2, h3.1, h3.2, h1⟩
    · rintro ⟨e, he, h1, h2, rfl⟩
      have hd := V.dst e he
      refine ⟨e.2.2.toNat, by omega, by omega, decide_eq_true ?_⟩
      rw [show ((e.2.2.toNat : Nat) : Int) = e.2.2 by omega]
      exact List.mem_map.2 ⟨e, List.mem_filter.2 ⟨he, by simp [h1, h2]⟩, rfl⟩
  rw [← hres]
  have hlen : ((t.2.2.2.filter fun e => labT t e == s && decide (e.1 ∈ l)).map (·.2.2)).length ≤ 300 := by
    have := List.length_filter_le (fun e => labT t e == s && decide (e.1 ∈ l)) t.2.2.2
    rw [List.length_map]; omega
  unfold impl_Lts_follow_m
  refine Ev.bind (a := Sum.inl ((t.2.2.2.filter fun e => labT t e == s && decide (e.1 ∈ l)).map (·.2.2))) (EvI.ev ?_) ?_
  · refine EvI.upto t.2.2.2.length (fun k (_ : Unit) => (((t.2.2.2.take k).filter fun e => labT t e == s && decide (e.1 ∈ l)).map (·.2.2), (k : Int))) (fun _ _ => True) (k := 0) (t := ()) (by simp) (Nat.zero_le _) trivial (fun k _ hk _ => ⟨(), ?_, trivial⟩) (fun _ _ => (Ev.ite_f (by simp) (Ev.pure _)).eq (by rw [List.take_length]))
    obtain ⟨e, he⟩ := get_lt hk
    have hem := List.mem_of_getElem? he
    have htk : (t.2.2.2.take (k + 1)).filter (fun e => labT t e == s && decide (e.1 ∈ l)) = (t.2.2.2.take k).filter (fun e => labT t e == s && decide (e.1 ∈ l)) ++ (if (labT t e == s && decide (e.1 ∈ l)) = true then [e] else []) := by
      rw [List.take_add_one, he, List.filter_append]
      cases hp : (labT t e == s && decide (e.1 ∈ l)) <;> simp [hp]
    have hfl := List.length_filter_le (fun e => labT t e == s && decide (e.1 ∈ l)) (t.2.2.2.take k)
    rw [List.length_take] at hfl
    refine Ev.ite_t (decide_eq_true (by omega)) (Ev.join (Ev.bindc (idx_at he) (Ev.bindc (labT_at V hem) ?_)))
    rw [htk]
    cases h1 : (labT t e == s)
    · exact Ev.bindc (a := false) rfl (Ev.const (by rw [W_succ hk (by omega)]; simp))
    · refine Ev.bind (a := decide (e.1 ∈ l)) (Ev.ite_t rfl (Ev.bind (contains_ints (by omega)) (Ev.pure _))) ?_
      cases h2 : decide (e.1 ∈ l)
      · exact Ev.ite_f (by simp) (Ev.const (by rw [W_succ hk (by omega)]; simp))
      · refine Ev.ite_t rfl (Ev.bindc (app_ok (by rw [List.length_map]; simp; omega)) (Ev.const (by rw [W_succ hk (by omega)]; simp)))
  · refine Ev.bindc (a := srt ((t.2.2.2.filter fun e => labT t e == s && decide (e.1 ∈ l)).map (·.2.2))) ?_ (Ev.bindc rfl (Ev.pure _))
    exact if_pos (by omega)
theorem eqB_ints {a : List Int} (h : a.length ≤ 1048576) : Ev (fun n => laws_eqInt64S_m n a a) true := eq_ints (by have : maxLen = 9223372036854775807 := (by unfold maxLen; rfl); omega)
theorem marksB_ints {a : List Int} {k : Int} (h : a.length ≤ 1048576) (h0 : 1 ≤ k) (hk : k ≤ 4503599627370496) :
    ∃ k' ys, Ev (fun n => laws_markInt64S_m n a k) (k', ys) ∧ Ev (fun n => laws_heldInt64S_m n ys k) k' ∧ k ≤ k' ∧ k' ≤ k + 4398046511104 := by
  obtain ⟨k', ys, h1, h2, h3, h4, _⟩ := marks_ints h h0 (by omega)
  exact ⟨k', ys, h1, h2, h3, by omega⟩
theorem markText_ev {k : Int} (h0 : 1 ≤ k) (hk : k ≤ 4611686018427387904) : ∃ s, Ev (fun n => laws_markText_m n k) s := by
  unfold laws_markText_m
  refine Exists.elim (EvI.inv (β := Str ⊕ Str) (step := fun (_ : Nat) (s : (Int) × (Str)) => (match s with | (x40, x41) => (if (decide ((0 : Int) < x40)) = true then (cat (bstr [(IntKind.u8.wrap (W ((48 : Int) + (x40.tmod (10 : Int)))))]) x41).bind fun x65 => some (.inl ((W (x40.tdiv (10 : Int))), x65)) else some (.inr (.inl (x41)))) : Option (((Int) × (Str)) ⊕ ((Str) ⊕ (Str)))))
    (fun s => 0 ≤ s.1 ∧ s.1 ≤ 4611686018427387904 ∧ s.1 < 10 ^ (20 - s.2.length) ∧ s.2.length ≤ 20) (fun s => s.1.toNat) (fun r => ∃ x : Str, r = .inl x ∧ x.length ≤ 20) ?_ (s := (k, [])) ⟨by show 0 ≤ k; omega, hk, by show k < 10 ^ 20; omega, by simp⟩)
    (fun res ⟨h1, x, h2, h3⟩ => ⟨[109] ++ x, Ev.ite_f (by simp; omega) (Ev.bind h1.ev ?_)⟩)
  · rintro ⟨x, s⟩ ⟨a, b, c, d⟩
    replace a : 0 ≤ x := a
    replace b : x ≤ 4611686018427387904 := b
    replace c : x < 10 ^ (20 - s.length) := c
    replace d : s.length ≤ 20 := d
    by_cases hx : 0 < x
    · left
      have hlt : s.length < 20 := by
        by_cases he : s.length = 20
        · rw [he] at c; simp at c; omega
        · omega
      have hp : (10 : Int) ^ (20 - s.length) = 10 ^ (20 - (s.length + 1)) * 10 := by rw [show 20 - s.length = (20 - (s.length + 1)) + 1 by omega, Int.pow_succ]
      have hd : x.tdiv 10 = x / 10 := Int.tdiv_eq_ediv_of_nonneg a
      have hw : W (x.tdiv 10) = x / 10 := by rw [hd]; exact W_of (by omega) (by omega)
      refine ⟨(x / 10, bstr [IntKind.u8.wrap (W (48 + x.tmod 10))] ++ s), Ev.ite_t (decide_eq_true hx) (Ev.const ?_), ⟨by show 0 ≤ x / 10; omega, by show x / 10 ≤ _; omega, ?_, ?_⟩, by show (x / 10).toNat < x.toNat; omega⟩
      · have : cat (bstr [IntKind.u8.wrap (W (48 + x.tmod 10))]) s = some (bstr [IntKind.u8.wrap (W (48 + x.tmod 10))] ++ s) := by unfold cat; rw [if_pos (by first | (simp [bstr]; done) | (simp [bstr]; omega))]
        rw [this, Option.bind_some, hw]
      · show x / 10 < 10 ^ (20 - (bstr [IntKind.u8.wrap (W (48 + x.tmod 10))] ++ s).length)
        have : (bstr [IntKind.u8.wrap (W (48 + x.tmod 10))] ++ s).length = s.length + 1 := by first | (simp [bstr]; done) | (simp [bstr]; omega)
        rw [this]
        generalize (10 : Int) ^ (20 - (s.length + 1)) = p at hp ⊢
        omega
      · show (bstr [IntKind.u8.wrap (W (48 + x.tmod 10))] ++ s).length ≤ 20
        first | (simp [bstr]; done) | (simp [bstr]; omega)
    · right
      exact ⟨_, Ev.ite_f (by simpa using hx) (Ev.pure _), s, rfl, d⟩
  · subst h2
    refine Ev.const ?_
    rw [ctl_l]
    have : cat ([109] : Str) x = some ([109] ++ x) := by unfold cat; rw [if_pos (by simp; omega)]
    rw [this]; rfl

theorem markA_strs {a : List Str} {k : Int} (h : a.length ≤ 1048576) (h0 : 1 ≤ k) (hk : k ≤ 4611686018427387904 - 1048576) :
    ∃ k' ys, Ev (fun n => laws_markStringS_m n a k) (k', ys) ∧ k ≤ k' ∧ k' ≤ k + (a.length * 1 : Nat) ∧ ys.length = a.length := by
  unfold laws_markStringS_m
  refine mark_alone (p := fun _ => True) (fun _ _ => trivial) h0 (by omega) (fun xs k i x hxl hx _ h1 h2 => ?_) (fun xs k hxl => Ev.const' fun m => by simp [hxl])
  have hi : i < xs.length := (List.getElem?_eq_some_iff.1 hx).1
  have w : W (k + 1) = k + 1 := W_of (by omega) (by omega)
  obtain ⟨s, hs⟩ := markText_ev h1 (by omega)
  refine ⟨s, k + 1, Ev.eq (Ev.ite_t (by simp [hi]) (Ev.bind hs (Ev.bindc (idx_at hx) (Ev.pure _)))) ?_, by omega, by omega⟩
  simp only [Int.toNat_natCast, w, W_succ (k := i) (n := xs.length) hi (by omega)]
theorem markA_edges {a : List Timpl_Edge} {k : Int} (h : a.length ≤ 1048576) (h0 : 1 ≤ k) (hk : k ≤ 4611686018427387904 - 4194304) :
    ∃ k' ys, Ev (fun n => laws_markEdgeS_m n a k) (k', ys) ∧ k ≤ k' ∧ k' ≤ k + (a.length * 3 : Nat) ∧ ys.length = a.length := by
  unfold laws_markEdgeS_m
  refine mark_alone (p := fun _ => True) (fun _ _ => trivial) h0 (by omega) (fun xs k i x hxl hx _ h1 h2 => ?_) (fun xs k hxl => Ev.const' fun m => by simp [hxl])
  have hi : i < xs.length := (List.getElem?_eq_some_iff.1 hx).1
  have w1 : W (k + 1) = k + 1 := W_of (by omega) (by omega)
  have w2 : W (k + 1 + 1) = k + 1 + 1 := W_of (by omega) (by omega)
  have w3 : W (k + 1 + 1 + 1) = k + 1 + 1 + 1 := W_of (by omega) (by omega)
  refine ⟨(k, k + 1, k + 1 + 1), k + 1 + 1 + 1, Ev.eq (Ev.ite_t (by simp [hi]) (Ev.bindc (idx_at hx) (Ev.bindc (idx_set hi) (Ev.bindc (idx_set (by simpa using hi)) (Ev.pure _))))) ?_, by omega, by omega⟩
  simp only [Int.toNat_natCast, List.set_set, w1, w2, w3, W_succ (k := i) (n := xs.length) hi (by omega)]
theorem marksA_lts {a : Timpl_Lts} {k : Int} (h : BLts a) (h0 : 1 ≤ k) (hk : k ≤ 4503599627370496) :
    ∃ k' ys, Ev (fun n => laws_markLts_m n a k) (k', ys) ∧ k ≤ k' ∧ k' ≤ k + 4398046511104 := by
  obtain ⟨k1, ys, h1, h2, h3, _⟩ := markA_strs (a := a.2.2.1) h.1 h0 (by omega)
  have b1 := h.1
  have b2 := h.2.2
  obtain ⟨k2, zs, h4, h5, h6, _⟩ := markA_edges (a := a.2.2.2) (k := k1) h.2.2 (by omega) (by omega)
  exact ⟨k2, (ys, zs), Ev.bind h1 (Ev.bind h4 (Ev.pure _)), by omega, by omega⟩
theorem mget_app {α β : Type} [DecidableEq α] : ∀ (m m' : List (α × β)) (k : α), mget (m ++ m') k = (match mget m k with | some v => some v | none => mget m' k)
  | [], _, _ => rfl
  | p :: m, m', k => by
    simp only [List.cons_append, mget]
    by_cases h : p.1 = k
    · simp [h]
    · simp only [h, if_false]; exact mget_app m m' k
theorem mset_new {α β : Type} [DecidableEq α] : ∀ (m : List (α × β)) (k : α) (v : β), mget m k = none → mset m k v = m ++ [(k, v)]
  | [], _, _, _ => rfl
  | p :: m, k, v, h => by
    simp only [mget] at h
    by_cases hp : p.1 = k
    · simp [hp] at h
    · simp only [hp, if_false] at h
      simp [mset, hp, mset_new m k v h]

/-- The dictionary, one element on. -/
def dic (m : List (Int × Int)) (x : Int) : List (Int × Int) := if (mget m x).isSome = true then m else mset m x (m.length : Int)
/-- The blocks' numbers in the order in which they appear. -/
def nrm : List (Int × Int) → List Int → List Int
  | _, [] => []
  | m, x :: r => (mget m x).getD (m.length : Int) :: nrm (dic m x) r
theorem nrm_len : ∀ (m : List (Int × Int)) (l : List Int), (nrm m l).length = l.length
  | _, [] => rfl
  | m, x :: r => by simp [nrm, nrm_len _ r]
/-- The dictionary behind the first k elements. -/
def nrmD : List (Int × Int) → List Int → List (Int × Int)
  | m, [] => m
  | m, x :: r => nrmD (dic m x) r
theorem nrm_snoc : ∀ (m : List (Int × Int)) (l : List Int) (x : Int), nrm m (l ++ [x]) = nrm m l ++ [((mget (nrmD m l) x).getD ((nrmD m l).length : Int))] ∧ nrmD m (l ++ [x]) = dic (nrmD m l) x
  | m, [], x => by simp [nrm, nrmD]
  | m, y :: r, x => by
    obtain ⟨a, b⟩ := nrm_snoc (dic m y) r x
    simp only [List.cons_append, nrm, nrmD]
    exact ⟨by rw [a], b⟩
theorem nrmD_len : ∀ (l : List Int), (nrmD [] l).length ≤ l.length := by
  refine rev_ind (by simp [nrmD]) fun l x h => ?_
  rw [(nrm_snoc [] l x).2]
  unfold dic
  split
  · simp; omega
  · rename_i hn
    have : mget (nrmD [] l) x = none := by simpa using hn
    rw [mset_new _ _ _ this]
    simp; omega

theorem normal_ev {l : List Int} (hl : l.length ≤ 1048576) : Ev (fun m => impl_normal_m m l) (nrm [] l) := by
  have hlen := nrm_len [] l
  unfold impl_normal_m
  refine Ev.bindc (mks_ok (n := l.length) (by omega)) (Ev.bind (a := Sum.inl (nrm [] l)) (EvI.ev ?_) (Ev.pure _))
  refine EvI.upto l.length (fun k (_ : Unit) => (nrmD [] (l.take k), nrm [] (l.take k) ++ List.replicate (l.length - k) 0, (k : Int))) (fun _ _ => True) (k := 0) (t := ()) (by simp [nrm, nrmD]) (Nat.zero_le _) trivial (fun k _ hk _ => ⟨(), ?_, trivial⟩) (fun _ _ => (Ev.ite_f (by simp) (Ev.pure _)).eq (by simp))
  obtain ⟨x, hx⟩ := get_lt hk
  have htk : l.take (k + 1) = l.take k ++ [x] := by rw [List.take_add_one, hx]; rfl
  obtain ⟨s1, s2⟩ := nrm_snoc [] (l.take k) x
  have hlk : (nrm [] (l.take k)).length = k := by rw [nrm_len, List.length_take]; omega
  have hi : (nrm [] (l.take k) ++ List.replicate (l.length - k) (0 : Int))[k]? = some 0 := by
    rw [List.getElem?_append_right (by omega), hlk, List.getElem?_replicate, if_pos (by omega)]
  have hset : ∀ v, (nrm [] (l.take k) ++ List.replicate (l.length - k) (0 : Int)).set (k : Int).toNat v = nrm [] (l.take k) ++ [v] ++ List.replicate (l.length - (k + 1)) 0 := by
    intro v
    rw [Int.toNat_natCast, List.set_append_right _ _ (by omega), hlk, List.append_assoc]
    congr 1
    rw [show l.length - k = (l.length - (k + 1)) + 1 by omega, List.replicate_succ]
    simp
  dsimp only
  rw [htk, s1, s2]
  unfold dic
  refine Ev.ite_t (decide_eq_true (by omega)) (Ev.bindc (idx_at hx) (Ev.join ?_))
  cases hg : mget (nrmD [] (l.take k)) x with
  | none =>
    refine Ev.ite_t rfl (Ev.bindc (idx_at hi) (Ev.const ?_))
    rw [hset, W_succ hk (by omega)]; rfl
  | some b =>
    refine Ev.ite_f (by simp) (Ev.bindc (idx_at hi) (Ev.const ?_))
    rw [hset, W_succ hk (by omega)]; rfl

theorem nrm_one {l : List Int} {y : Int} (h : mget (nrmD [] l) y = none) : nrm [] (l ++ [y]) = nrm [] l ++ [((nrmD [] l).length : Int)] ∧ nrmD [] (l ++ [y]) = nrmD [] l ++ [(y, ((nrmD [] l).length : Int))] := by
  obtain ⟨s1, s2⟩ := nrm_snoc [] l y
  rw [s1, s2]
  unfold dic
  rw [h]
  exact ⟨rfl, by rw [if_neg (by simp), mset_new _ _ _ h]⟩
theorem nrm_old {l : List Int} {y o : Int} (h : mget (nrmD [] l) y = some o) : nrm [] (l ++ [y]) = nrm [] l ++ [o] ∧ nrmD [] (l ++ [y]) = nrmD [] l := by
  obtain ⟨s1, s2⟩ := nrm_snoc [] l y
  rw [s1, s2]
  unfold dic
  rw [h]
  exact ⟨rfl, by rw [if_pos (by simp)]⟩

theorem nrm_at : ∀ (l : List Int) (j : Nat) (x : Int), l[j]? = some x → (nrm [] l)[j]? = mget (nrmD [] l) x := by
  refine rev_ind (fun j x h => by simp at h) fun l y ih j x h => ?_
  by_cases hj : j < l.length
  · rw [List.getElem?_append_left hj] at h
    have h1 := ih j x h
    have hlt : j < (nrm [] l).length := by rw [nrm_len]; exact hj
    have h2 : mget (nrmD [] l) x = some (nrm [] l)[j] := by rw [← h1]; exact List.getElem?_eq_getElem hlt
    cases hm : mget (nrmD [] l) y with
    | none =>
      obtain ⟨e1, e2⟩ := nrm_one hm
      rw [e1, e2, List.getElem?_append_left hlt, mget_app, h2]
      exact List.getElem?_eq_getElem hlt
    | some o =>
      obtain ⟨e1, e2⟩ := nrm_old hm
      rw [e1, e2, List.getElem?_append_left hlt, h1]
  · have hjl := (List.getElem?_eq_some_iff.1 h).1
    simp at hjl
    obtain rfl : j = l.length := by omega
    simp at h
    subst h
    cases hm : mget (nrmD [] l) y with
    | none =>
      obtain ⟨e1, e2⟩ := nrm_one hm
      rw [e1, e2, mget_app, hm, List.getElem?_append_right (by rw [nrm_len]; exact Nat.le_refl _), nrm_len]
      simp [mget]
    | some o =>
      obtain ⟨e1, e2⟩ := nrm_old hm
      rw [e1, e2, hm, List.getElem?_append_right (by rw [nrm_len]; exact Nat.le_refl _), nrm_len]
      simp
theorem nrm_none : ∀ (l : List Int) (x : Int), x ∉ l → mget (nrmD [] l) x = none := by
  refine rev_ind (fun x _ => rfl) fun l y ih x h => ?_
  simp only [List.mem_append, List.mem_singleton, not_or] at h
  cases hm : mget (nrmD [] l) y with
  | none =>
    rw [(nrm_one hm).2, mget_app, ih x h.1]
    simp [mget, Ne.symm h.2]
  | some o => rw [(nrm_old hm).2, ih x h.1]
theorem nrm_pos : ∀ (l : List Int) (x o : Int), mget (nrmD [] l) x = some o → 0 ≤ o := by
  refine rev_ind (fun x o h => by simp [nrmD, mget] at h) fun l y ih x o h => ?_
  cases hm : mget (nrmD [] l) y with
  | none =>
    rw [(nrm_one hm).2, mget_app] at h
    cases hx : mget (nrmD [] l) x with
    | none =>
      rw [hx] at h
      simp only [mget] at h
      split at h
      · cases h; omega
      · cases h
    | some v => rw [hx] at h; cases h; exact ih x o hx
  | some v => rw [(nrm_old hm).2] at h; exact ih x o h

/-- The search for an earlier one of the same block. -/
theorem first_loop {ρ : Type} {step : Nat → Int × Int → Option ((Int × Int) ⊕ (Int ⊕ ρ))} {l : List Int} {k : Nat} {x : Int} (hk : k ≤ l.length)
    (hstop : ∀ v, Ev (fun m => step m (v, (k : Int))) (.inr (.inl v))) (hfound : ∀ (v : Int) (j : Nat), j < k → 0 ≤ v → Ev (fun m => step m (v, (j : Int))) (.inr (.inl v)))
    (hgo : ∀ (j : Nat) (y o : Int), j < k → l[j]? = some y → (nrm [] (l.take k))[j]? = some o → Ev (fun m => step m (-1, (j : Int))) (.inl (if y = x then o else -1, ((j + 1 : Nat) : Int)))) :
    EvI step (-1, 0) (.inl ((mget (nrmD [] (l.take k)) x).getD (-1))) := by
  have key : ∀ (d j : Nat), j + d = k → (∀ i, i < j → l[i]? ≠ some x) → EvI step (-1, (j : Int)) (.inl ((mget (nrmD [] (l.take k)) x).getD (-1))) := by
    intro d
    induction d with
    | zero =>
      intro j hj hn
      obtain rfl : j = k := by omega
      have : mget (nrmD [] (l.take j)) x = none := nrm_none _ _ (fun hm => by
        obtain ⟨i, hi⟩ := List.mem_iff_getElem?.1 hm
        rw [List.getElem?_take] at hi
        split at hi
        · rename_i h; exact hn i h hi
        · cases hi)
      rw [this]
      exact EvI.stop (hstop _)
    | succ d ih =>
      intro j hj hn
      have hjk : j < k := by omega
      obtain ⟨y, hy⟩ := get_lt (xs := l) (k := j) (by omega)
      have hyt : (l.take k)[j]? = some y := by rw [List.getElem?_take, if_pos hjk]; exact hy
      obtain ⟨o, ho⟩ := get_lt (xs := nrm [] (l.take k)) (k := j) (by rw [nrm_len, List.length_take]; omega)
      have hm := nrm_at _ _ _ hyt
      rw [ho] at hm
      have h1 := hgo j y o hjk hy ho
      by_cases hxy : y = x
      · rw [if_pos hxy] at h1
        subst hxy
        rw [← hm, Option.getD_some]
        refine EvI.go h1 (EvI.stop ?_)
        have hpos := nrm_pos _ _ _ hm.symm
        by_cases hl : j + 1 = k
        · rw [hl]; exact hstop o
        · exact hfound o (j + 1) (by omega) hpos
      · rw [if_neg hxy] at h1
        refine EvI.go h1 (ih (j + 1) (by omega) fun i hi => ?_)
        by_cases hij : i = j
        · subst hij; rw [hy]; intro e; exact hxy (Option.some.inj e)
        · exact hn i (by omega)
  exact key k 0 (by omega) (fun i hi => absurd hi (by omega))

/-- The loop over all: state (numbers, blocks, place). -/
theorem blocks_loop {ρ : Type} {step : Nat → List Int × Int × Int → Option ((List Int × Int × Int) ⊕ (List Int ⊕ ρ))} {l : List Int}
    (hs : ∀ (k : Nat) (x : Int) (out : List Int) (d : List (Int × Int)), l[k]? = some x → out = nrm [] (l.take k) → d = nrmD [] (l.take k) → d.length ≤ k → out.length = k →
      Ev (fun m => step m (out, (d.length : Int), (k : Int))) (.inl (match mget d x with | none => (out ++ [(d.length : Int)], ((d.length + 1 : Nat) : Int), ((k + 1 : Nat) : Int)) | some o => (out ++ [o], (d.length : Int), ((k + 1 : Nat) : Int)))))
    (hn : ∀ out b, Ev (fun m => step m (out, b, (l.length : Int))) (.inr (.inl out))) : EvI step ([], 0, 0) (.inl (nrm [] l)) := by
  refine EvI.upto l.length (fun k (_ : Unit) => (nrm [] (l.take k), ((nrmD [] (l.take k)).length : Int), (k : Int))) (fun _ _ => True) (k := 0) (t := ()) (by simp [nrm, nrmD]) (Nat.zero_le _) trivial (fun k _ hk _ => ⟨(), ?_, trivial⟩) (fun _ _ => (hn _ _).eq (by rw [List.take_length]))
  obtain ⟨x, hx⟩ := get_lt hk
  have hd := nrmD_len (l.take k)
  rw [List.length_take] at hd
  refine (hs k x _ _ hx rfl rfl (by omega) (by rw [nrm_len, List.length_take]; omega)).eq ?_
  have htk : l.take (k + 1) = l.take k ++ [x] := by rw [List.take_add_one, hx]; rfl
  rw [htk]
  cases hm : mget (nrmD [] (l.take k)) x with
  | none =>
    obtain ⟨e1, e2⟩ := nrm_one hm
    rw [e1, e2, List.length_append]
    rfl
  | some o =>
    obtain ⟨e1, e2⟩ := nrm_old hm
    rw [e1, e2]

theorem filter_true {α : Type} (l : List α) : l.filter (fun _ => true) = l := List.filter_eq_self.2 fun _ _ => rfl

theorem upTo_ev {n : Nat} (hn : n ≤ 1048576) : Ev (fun m => impl_upTo_m m (n : Int)) ((List.range n).map fun k => ((k : Nat) : Int)) := by
  unfold impl_upTo_m
  have := EvI.places (ρ := List Int) (step := fun (_ : Nat) (s : (List Int) × (Int)) => (match s with | (xs46, x48) => (if (decide (x48 < (n : Int))) = true then (app xs46 [x48]).bind fun x78 => some (.inl (x78, (W (x48 + (1 : Int))))) else some (.inr (.inl (xs46)))) : Option (((List Int) × (Int)) ⊕ (((List Int)) ⊕ ((List Int)))))) n (fun _ => true)
    (fun k xs hk hl => Ev.ite_t (decide_eq_true (by omega)) (Ev.bindc (app_ok (by simp; omega)) (Ev.const (by rw [W_succ hk (by omega)]; simp)))) (fun xs => Ev.ite_f (by simp) (Ev.pure _))
  rw [filter_true] at this
  exact Ev.bind this.ev (Ev.pure _)

def ok0 (e : Timpl_Edge) : Bool := e.2.1 == 0
/-- The states that internal edges reach from some. -/
def clos (n : Nat) (t : Timpl_Lts) (l : List Int) : List Int := below n fun k => decide (0 ≤ farA n ((t.2.2.2.filter ok0).map (pr false)) (far0 l) (k : Int))
def inL (l : List Int) : Int → Bool := fun v => decide (v ∈ l)

theorem VL.ws0 {t : Timpl_Lts} {n : Nat} (V : VL t n) : Ws n ((t.2.2.2.filter ok0).map (pr false)) := by
  intro e he
  obtain ⟨x, hx, rfl⟩ := List.mem_map.1 he
  have hm := (List.mem_filter.1 hx).1
  exact ⟨V.src x hm, V.dst x hm⟩
theorem mem_clos {t : Timpl_Lts} {n : Nat} (V : VL t n) {l : List Int} (hr : Rg n l) {v : Int} : v ∈ clos n t l ↔ Cl ok0 t.2.2.2 (inL l) v := by
  have h0 : ∀ v, inL l v = true ↔ v ∈ l := fun v => decide_eq_true_iff
  rw [cl_rch h0]
  unfold clos
  rw [mem_below]
  have hok := farA_ok V.ws0 hr
  constructor
  · rintro ⟨k, rfl, hk, h⟩
    rcases hok (k : Int) (by omega) (by omega) with ⟨q1, q2⟩ | ⟨c, q1, q2⟩
    · have := of_decide_eq_true h; omega
    · exact ⟨c, q2.1⟩
  · rintro ⟨c, hc⟩
    have hv := rch_rg V.ws0 hr hc
    refine ⟨v.toNat, by omega, by omega, decide_eq_true ?_⟩
    rw [show ((v.toNat : Nat) : Int) = v by omega]
    rcases hok v hv.1 hv.2 with ⟨q1, q2⟩ | ⟨c, q1, q2⟩
    · exact absurd hc (q2 c)
    · omega
theorem clos_rg {t : Timpl_Lts} {n : Nat} {l : List Int} : Rg n (clos n t l) := by
  intro v hv
  obtain ⟨k, rfl, hk, _⟩ := mem_below.1 hv
  omega
theorem clos_ok {t : Timpl_Lts} {n : Nat} {l : List Int} : OkL n (clos n t l) := ⟨(below_lt _ _).imp fun h => by omega, clos_rg⟩
theorem clos_lt {t : Timpl_Lts} {n : Nat} {l : List Int} : (clos n t l).Pairwise (· < ·) := below_lt _ _
theorem internal_ev {t : Timpl_Lts} {n : Nat} (V : VL t n) {l : List Int} (ho : OkL n l) : Ev (fun m => impl_Lts_internal_m m t l) (clos n t l) := by
  have htop := V.top
  have hfew := V.few
  have hmx := mx
  have hll := ho.len
  obtain ⟨L, q1, q2, q3, q4, hrun⟩ := EvI.work (fun u => folP n t [u] tau') n (fun u _ _ v hv => fol_rg v hv) ho
  have hres : srt L = clos n t l := by
    refine inc_ext (srt_lt q1.nodup) clos_lt fun v => ?_
    rw [mem_srt, mem_clos V ho.range]
    constructor
    · intro hv S h1 h2
      refine q4 S (fun u hu => h1 u (decide_eq_true hu)) (fun u hu v hv => ?_) v hv
      obtain ⟨e, he, a, b, c⟩ := (mem_fol V).1 hv
      have hu1 : e.1 = u := by simpa using b
      subst c
      exact h2 e he (beq_iff_eq.2 ((labT_tau V he).1 a)) (by rw [hu1]; exact hu)
    · intro h
      refine h (fun v => v ∈ L) (fun u hu => q2 u (of_decide_eq_true hu)) fun e he h0 h1 => ?_
      exact q3 e.1 h1 e.2.2 ((mem_fol V).2 ⟨e, he, (labT_tau V he).2 (beq_iff_eq.1 h0), by simp, rfl⟩)
  rw [← hres]
  unfold impl_Lts_internal_m
  refine Ev.bind (a := l) (Ev.const' fun m => ?_) ?_
  · unfold slices_Clone__int64_int64_m
    rw [app_ok (by simp; omega)]
    simp
  refine Ev.bind (a := Sum.inl L) (EvI.ev (hrun (fun l i => (l, (i : Int))) (fun l => Sum.inl l) (fun l i u hl hu => ?_) (fun l hl => Ev.ite_f (by simp) (Ev.pure _)))) ?_
  · have hi := (List.getElem?_eq_some_iff.1 hu).1
    have hlen := hl.len
    have hflen := (fol_ok (n := n) (t := t) (l := [u]) (s := tau')).len
    refine Ev.ite_t (decide_eq_true (by omega)) (Ev.bindc (idx_at hu) (Ev.bind (follow_ev V (l := [u]) (s := tau') (by simp)) (Ev.bind (a := Sum.inl (visits l (folP n t [u] tau'))) (EvI.ev ?_) (Ev.const (by rw [ctl_l, W_succ hi (by omega)])))))
    refine EvI.upto (folP n t [u] tau').length (fun k (_ : Unit) => (visits l ((folP n t [u] tau').take k), (k : Int))) (fun _ _ => True) (k := 0) (t := ()) (by simp [visits_nil]) (Nat.zero_le _) trivial (fun k _ hk _ => ⟨(), ?_, trivial⟩) (fun _ _ => (Ev.ite_f (by simp) (Ev.pure _)).eq (by rw [List.take_length]))
    obtain ⟨v, hv⟩ := get_lt hk
    have hok : OkL n (visits l ((folP n t [u] tau').take k)) := hl.visits fun v hv => fol_rg v (List.mem_of_mem_take hv)
    have hvl := hok.len
    rw [visits_take l (folP n t [u] tau') k hv]
    refine Ev.ite_t (decide_eq_true (by omega)) (Ev.join (Ev.bindc (idx_at hv) (Ev.bind (contains_ints (by omega)) ?_)))
    by_cases hm : v ∈ visits l ((folP n t [u] tau').take k)
    · exact Ev.ite_f (by simp [hm]) (Ev.const (by rw [W_succ hk (by omega), if_pos hm]))
    · exact Ev.ite_t (by simp [hm]) (Ev.bindc (app_ok (by simp; omega)) (Ev.const (by rw [W_succ hk (by omega), if_neg hm])))
  · have hLl := q1.len
    exact Ev.bindc (a := srt L) (if_pos (by omega)) (Ev.pure _)
theorem clos_self {t : Timpl_Lts} {n : Nat} (V : VL t n) {k : Int} (hk : 0 ≤ k ∧ k < (n : Int)) : k ∈ clos n t [k] :=
  (mem_clos V (fun v hv => by obtain rfl : v = k := (by simpa using hv); exact hk)).2 fun S h _ => h k (by simp [inL])
theorem clos_trans {t : Timpl_Lts} {n : Nat} (V : VL t n) {u v w : Int} (hu : 0 ≤ u ∧ u < (n : Int)) (h1 : v ∈ clos n t [u]) (h2 : w ∈ clos n t [v]) : w ∈ clos n t [u] := by
  have hv := clos_rg v h1
  have r1 : Rg n [u] := fun x hx => by obtain rfl : x = u := (by simpa using hx); exact hu
  have r2 : Rg n [v] := fun x hx => by obtain rfl : x = v := (by simpa using hx); exact hv
  refine (mem_clos V r1).2 fun S a b => ?_
  refine (mem_clos V r2).1 h2 S (fun x hx => ?_) b
  obtain rfl : x = v := by simpa [inL] using hx
  exact (mem_clos V r1).1 h1 S a b

/-- The reference's row. -/
theorem c53_reach {t : Timpl_Lts} {n : Nat} (V : VL t n) {k : Int} (hk : 0 ≤ k ∧ k < (n : Int)) : Ev (fun m => spec_l15Reach_m m t (List.replicate n 0) k) (tab n (inL (clos n t [k]))) := by
  have htop := V.top
  have hfew := V.few
  have hr : Rg n [k] := fun v hv => by
    obtain rfl : v = k := by simpa using hv
    exact hk
  obtain ⟨f, hf, hrun⟩ := cl_all (n := n) (ok := ok0) (es := t.2.2.2) (f0 := inL [k]) V.dst
  have hfc : tab n f = tab n (inL (clos n t [k])) := tab_congr fun v _ _ => by
    have := hf v
    rw [← mem_clos V hr] at this
    unfold inL
    by_cases h : v ∈ clos n t [k]
    · rw [decide_eq_true h]; exact this.2 h
    · rw [decide_eq_false h, ← Bool.not_eq_true]; exact fun q => h (this.1 q)
  rw [← hfc]
  have hz : ∀ v : Int, 0 ≤ v → v < (n : Int) → idx (List.replicate n (0 : Int)) v = some 0 := fun v h1 h2 => by rw [tab_const]; exact tab_at h1 h2
  unfold spec_l15Reach_m
  simp only [V.st]
  refine Ev.bindc (mks_ok (n := n) (by omega)) ?_
  rw [tab_const]
  refine Ev.bindc (tab_at hk.1 hk.2) ?_
  rw [tab_set hk.1, show tab n (upd (fun _ => false) k true) = tab n (inL [k]) from tab_congr fun v _ _ => by
    unfold upd inL
    by_cases h : v = k <;> simp [h]]
  refine Ev.bind (a := Sum.inl (tab n f)) (EvI.ev (hrun (fun s => (tab n s.1, s.2)) (fun s => Sum.inl (tab n s.1)) (fun s s' hI hn => ?_) (fun s hI hn => ?_))) (Ev.pure _)
  · obtain ⟨g, b⟩ := s
    cases b with
    | false => cases hn
    | true =>
      obtain rfl : upfold (clE ok0 t.2.2.2) t.2.2.2.length (g, false) = s' := Option.some.inj hn
      refine Ev.ite_t rfl (Ev.bind (a := Sum.inl (tab n (upfold (clE ok0 t.2.2.2) t.2.2.2.length (g, false)).1, (upfold (clE ok0 t.2.2.2) t.2.2.2.length (g, false)).2)) ?_ (Ev.const rfl))
      refine EvI.ev (EvI.fold t.2.2.2.length (fun (s : (Int → Bool) × Bool) i => (tab n s.1, s.2, (i : Int))) (clE ok0 t.2.2.2) (fun _ => True) (fun s => Sum.inl (tab n s.1, s.2)) rfl rfl trivial (fun _ _ _ _ => trivial) (fun i s hi _ => ?_) (fun s _ => Ev.ite_f (by simp) (Ev.pure _)))
      obtain ⟨e, he⟩ := get_lt hi
      have hem := List.mem_of_getElem? he
      have rs := V.src e hem
      have rd := V.dst e hem
      dsimp only
      refine Ev.ite_t (decide_eq_true (by omega)) (Ev.join (Ev.bindc (idx_at he) ?_))
      have hE : clE ok0 t.2.2.2 i s = (if (e.2.1 == 0) = true ∧ s.1 e.1 = true ∧ s.1 e.2.2 = false then (upd s.1 e.2.2 true, true) else s) := by
        unfold clE
        rw [he]
        rfl
      have hin : Ev (fun m => spec_l15Inert_m m (e.1, e.2.1, e.2.2) (List.replicate n 0)) (e.2.1 == 0) := by
        unfold spec_l15Inert_m
        refine Ev.const ?_
        cases h0 : (e.2.1 == 0)
        · simp
        · simp only [if_true]
          rw [hz _ rs.1 rs.2, Option.bind_some, hz _ rd.1 rd.2, Option.bind_some]; rfl
      rw [hE]
      refine Ev.bindc (tab_at rs.1 rs.2) ?_
      cases h1 : s.1 e.1
      · exact Ev.bindc (a := false) rfl (Ev.bindc (a := false) rfl (Ev.const (by rw [W_succ hi (by omega)]; simp)))
      · refine Ev.bindc (a := !(s.1 e.2.2)) (by simp only [if_true, tab_at rd.1 rd.2, Option.bind_some]) ?_
        cases h2 : s.1 e.2.2
        · refine Ev.bind (a := (e.2.1 == 0)) (Ev.ite_t rfl (Ev.bind hin (Ev.pure _))) ?_
          cases h0 : (e.2.1 == 0)
          · exact Ev.ite_f (by simp) (Ev.const (by rw [W_succ hi (by omega)]; simp))
          · refine Ev.ite_t rfl (Ev.bindc (tab_at rd.1 rd.2) (Ev.const ?_))
            rw [W_succ hi (by omega), tab_set rd.1]
            simp
        · exact Ev.bindc (a := false) rfl (Ev.const (by rw [W_succ hi (by omega)]; simp))
  · obtain ⟨g, b⟩ := s
    cases b with
    | true => cases hn
    | false => exact Ev.ite_f (by simp) (Ev.pure _)

/-- The least state on a cycle with k. -/
def lowF (n : Nat) (t : Timpl_Lts) (k : Int) (v j : Int) : Int := if k ∈ clos n t [j] then (if j < v then j else v) else v
def low (n : Nat) (t : Timpl_Lts) (k : Int) : Int := (clos n t [k]).foldl (lowF n t k) k
def mutl (n : Nat) (t : Timpl_Lts) (j k : Int) : Prop := j ∈ clos n t [k] ∧ k ∈ clos n t [j]
theorem lowF_spec {n : Nat} {t : Timpl_Lts} {k : Int} : ∀ (js : List Int) (v : Int), let r := js.foldl (lowF n t k) v
    (r = v ∨ (r ∈ js ∧ k ∈ clos n t [r])) ∧ r ≤ v ∧ ∀ j ∈ js, k ∈ clos n t [j] → r ≤ j
  | [], v => ⟨.inl rfl, Int.le_refl _, fun _ h => by cases h⟩
  | j :: js, v => by
    intro r
    obtain ⟨h1, h2, h3⟩ := lowF_spec js (lowF n t k v j)
    have hr : r = js.foldl (lowF n t k) (lowF n t k v j) := rfl
    rw [← hr] at h1 h2 h3
    unfold lowF at h1 h2
    by_cases hk : k ∈ clos n t [j]
    · rw [if_pos hk] at h1 h2
      refine ⟨?_, ?_, ?_⟩
      · rcases h1 with h | ⟨a, b⟩
        · by_cases hj : j < v
          · rw [if_pos hj] at h; exact .inr ⟨by rw [h]; exact List.mem_cons_self .., by rw [h]; exact hk⟩
          · rw [if_neg hj] at h; exact .inl h
        · exact .inr ⟨List.mem_cons_of_mem _ a, b⟩
      · split at h2 <;> omega
      · intro i hi hki
        rcases List.mem_cons.1 hi with rfl | hi
        · split at h2 <;> omega
        · exact h3 i hi hki
    · rw [if_neg hk] at h1 h2
      refine ⟨?_, h2, ?_⟩
      · rcases h1 with h | ⟨a, b⟩
        · exact .inl h
        · exact .inr ⟨List.mem_cons_of_mem _ a, b⟩
      · intro i hi hki
        rcases List.mem_cons.1 hi with rfl | hi
        · exact absurd hki hk
        · exact h3 i hi hki
theorem low_mut {n : Nat} {t : Timpl_Lts} (V : VL t n) {k : Int} (hk : 0 ≤ k ∧ k < (n : Int)) : mutl n t (low n t k) k ∧ ∀ j, mutl n t j k → low n t k ≤ j := by
  obtain ⟨h1, _, h3⟩ := lowF_spec (n := n) (t := t) (k := k) (clos n t [k]) k
  refine ⟨?_, fun j hj => h3 j hj.1 hj.2⟩
  rcases h1 with h | h
  · have e : low n t k = k := h
    rw [e]
    exact ⟨clos_self V hk, clos_self V hk⟩
  · exact h
theorem mut_trans {n : Nat} {t : Timpl_Lts} (V : VL t n) {i j k : Int} (hi : 0 ≤ i ∧ i < (n : Int)) (hk : 0 ≤ k ∧ k < (n : Int)) (h1 : mutl n t i j) (h2 : mutl n t j k) : mutl n t i k :=
  ⟨clos_trans V hk h2.1 h1.1, clos_trans V hi h1.2 h2.2⟩
theorem low_eq {n : Nat} {t : Timpl_Lts} (V : VL t n) {j k : Int} (hj : 0 ≤ j ∧ j < (n : Int)) (hk : 0 ≤ k ∧ k < (n : Int)) : low n t j = low n t k ↔ mutl n t j k := by
  obtain ⟨a1, a2⟩ := low_mut V hj
  obtain ⟨b1, b2⟩ := low_mut V hk
  have hlj := clos_rg _ a1.1
  have hlk := clos_rg _ b1.1
  constructor
  · intro e
    rw [← e] at b1
    exact mut_trans V hj hk ⟨a1.2, a1.1⟩ b1
  · intro h
    have h1 := b2 _ (mut_trans V hlj hk a1 h)
    have h2 := a2 _ (mut_trans V hlk hj b1 ⟨h.2, h.1⟩)
    omega
/-- The list of the least states. -/
def lows (n : Nat) (t : Timpl_Lts) : List Int := tab n (low n t)

theorem c53_spec {t : Timpl_Lts} {n : Nat} (V : VL t n) : Ev (fun m => spec_l15Cycles_m m t) (nrm [] (lows n t)) := by
  have htop := V.top
  have hlen : (lows n t).length = n := tab_len n _
  unfold spec_l15Cycles_m
  simp only [V.st]
  refine Ev.bindc (mks_ok (n := n) (by omega)) ?_
  refine Ev.bind (a := Sum.inl (tab n fun k => tab n (inL (clos n t [k])))) (EvI.ev ?_) ?_
  · refine EvI.upto n (fun k (_ : Unit) => (tab k fun k => tab n (inL (clos n t [k])), (k : Int))) (fun _ _ => True) (k := 0) (t := ()) (by simp [tab]) (Nat.zero_le _) trivial (fun k _ hk _ => ⟨(), ?_, trivial⟩) (fun _ _ => Ev.ite_f (by simp) (Ev.pure _))
    refine Ev.ite_t (decide_eq_true (by omega)) (Ev.bind (c53_reach V ⟨by omega, by omega⟩) (Ev.bindc (app_ok (by simp [tab_len]; omega)) (Ev.const ?_)))
    rw [tab_succ, W_succ hk (by omega)]
  · refine Ev.bind (a := Sum.inl (nrm [] (lows n t))) (EvI.ev ?_) (Ev.pure _)
    refine blocks_loop (l := lows n t) (fun k x out d hx ho hd hdl hol => ?_) (fun out b => Ev.ite_f (by simp [hlen]) (Ev.pure _))
    have hk : k < n := by have := (List.getElem?_eq_some_iff.1 hx).1; omega
    have hxv : low n t (k : Int) = x := by
      rw [lows, tab_get hk] at hx
      exact Option.some.inj hx
    dsimp only
    refine Ev.ite_t (decide_eq_true (by omega)) (Ev.bind (a := Sum.inl ((mget d x).getD (-1))) (EvI.ev ?_) ?_)
    · rw [hd]
      refine first_loop (l := lows n t) (k := k) (x := x) (by omega) (fun v => Ev.bindc (a := false) (by simp) (Ev.ite_f (by simp) (Ev.pure _))) (fun v j hj hv => Ev.bindc (a := false) (by simp; omega) (Ev.ite_f (by simp) (Ev.pure _))) (fun j y o hj hy hoj => ?_)
      have hyv : low n t (j : Int) = y := by
        rw [lows, tab_get (by omega)] at hy
        exact Option.some.inj hy
      have hrow : ∀ i : Nat, i < n → idx (tab n fun k => tab n (inL (clos n t [k]))) (i : Int) = some (tab n (inL (clos n t [(i : Int)]))) := fun i hi => tab_at (by omega) (by omega)
      have hiff := low_eq V (j := (j : Int)) (k := (k : Int)) (by omega) (by omega)
      rw [hyv, hxv] at hiff
      dsimp only
      refine Ev.bindc (a := true) (by rw [if_pos (decide_eq_true (by omega))]; simp) (Ev.ite_t rfl (Ev.join (Ev.bindc (hrow k hk) (Ev.bindc (tab_at (v := (j : Int)) (by omega) (by omega)) ?_))))
      refine Ev.bindc (a := decide (y = x)) ?_ ?_
      · by_cases h1 : (j : Int) ∈ clos n t [(k : Int)]
        · rw [show inL (clos n t [(k : Int)]) (j : Int) = true from decide_eq_true h1, if_pos rfl, hrow j (by omega), Option.bind_some, tab_at (v := (k : Int)) (by omega) (by omega), Option.bind_some]
          unfold inL
          congr 1
          exact decide_eq_decide.2 ⟨fun h2 => hiff.2 ⟨h1, h2⟩, fun e => (hiff.1 e).2⟩
        · rw [show inL (clos n t [(k : Int)]) (j : Int) = false from decide_eq_false h1, if_neg (by simp), decide_eq_false (fun e => h1 (hiff.1 e).1)]
      · rw [ho]
        by_cases hyx : y = x
        · rw [if_pos hyx]
          exact Ev.ite_t (decide_eq_true hyx) (Ev.bindc (idx_at hoj) (Ev.const (by rw [W_succ hj (by omega)])))
        · rw [if_neg hyx]
          exact Ev.ite_f (by simp [hyx]) (Ev.const (by rw [W_succ hj (by omega)]))
    · dsimp only [ctl_l]
      refine Ev.join ?_
      cases hm : mget d x with
      | none => exact Ev.ite_t (decide_eq_true (by simp)) (Ev.bindc (app_ok (by simp; omega)) (Ev.const (by rw [W_succ hk (by omega), W_of (by omega) (by omega)]; rfl)))
      | some o =>
        have ho0 : 0 ≤ o := nrm_pos _ _ _ (by rw [← hd]; exact hm)
        exact Ev.ite_f (by simp; omega) (Ev.bindc (app_ok (by simp; omega)) (Ev.const (by rw [W_succ hk (by omega)]; rfl)))

theorem sets_impl {t : Timpl_Lts} {n : Nat} (V : VL t n) : Ev (fun m => impl_Lts_internalSets_m m t) (tab n fun k => clos n t [k]) := by
  have htop := V.top
  unfold impl_Lts_internalSets_m
  simp only [V.st]
  refine Ev.bind (a := Sum.inl (tab n fun k => clos n t [k])) (EvI.ev ?_) (Ev.pure _)
  refine EvI.upto n (fun k (_ : Unit) => (tab k fun k => clos n t [k], (k : Int))) (fun _ _ => True) (k := 0) (t := ()) (by simp [tab]) (Nat.zero_le _) trivial (fun k _ hk _ => ⟨(), ?_, trivial⟩) (fun _ _ => Ev.ite_f (by simp) (Ev.pure _))
  have hok : OkL n [(k : Int)] := ⟨by simp, fun v hv => by obtain rfl : v = (k : Int) := (by simpa using hv); omega⟩
  refine Ev.ite_t (decide_eq_true (by omega)) (Ev.bind (a := clos n t [(k : Int)]) ?_ (Ev.bindc (app_ok (by simp [tab_len]; omega)) (Ev.const ?_)))
  · have hte : ((n : Int), t.2.1, t.2.2.1, t.2.2.2) = t := by rw [← V.st]
    show Ev (fun m => impl_Lts_internal_m m ((n : Int), t.2.1, t.2.2.1, t.2.2.2) [(k : Int)]) (clos n t [(k : Int)])
    rw [hte]
    exact internal_ev V hok
  · rw [tab_succ, W_succ hk (by omega)]

theorem lows_impl {t : Timpl_Lts} {n : Nat} (V : VL t n) (hv1 : Ev (fun m => impl_ValidLts_m m t) true) : Ev (fun m => impl_CyclePartition_m m t) (nrm [] (lows n t), 0) := by
  have htop := V.top
  have hmx := mx
  unfold impl_CyclePartition_m
  refine Ev.bind hv1 (Ev.ite_f (by simp) (Ev.bind (sets_impl V) (Ev.bind (a := tab n fun k => k) ?_ ?_)))
  · have := upTo_ev (n := n) (by omega)
    rw [show (t.1, t.2.1, t.2.2.1, t.2.2.2).1 = (n : Int) from V.st]
    exact this
  refine Ev.bind (a := Sum.inl (lows n t)) (EvI.ev ?_) ?_
  · refine EvI.upto n (fun k (_ : Unit) => (tab n (fun i => if i < (k : Int) then low n t i else i), (k : Int))) (fun _ _ => True) (k := 0) (t := ()) (by
      refine congrArg (fun z => (z, (0 : Int))) (tab_congr fun v h0 _ => ?_)
      rw [if_neg (by omega)]) (Nat.zero_le _) trivial (fun k _ hk _ => ⟨(), ?_, trivial⟩) (fun _ _ => (Ev.ite_f (by simp [tab_len]) (Ev.pure _)).eq (by
      congr 2
      exact tab_congr fun v h0 h1 => by rw [if_pos h1]))
    refine Ev.ite_t (by rw [tab_len]; exact decide_eq_true (by omega)) (Ev.bindc (tab_at (v := (k : Int)) (by omega) (by omega)) (Ev.bind (a := Sum.inl (tab n (fun i => if i < ((k + 1 : Nat) : Int) then low n t i else i))) (EvI.ev ?_) (Ev.const (by rw [ctl_l, W_succ hk (by omega)]))))
    have hr : Rg n (clos n t [(k : Int)]) := clos_rg
    have hcl := (clos_ok (n := n) (t := t) (l := [(k : Int)])).len
    -- the list while the row is gone through
    let lst : Int → List Int := fun v => tab n (fun i => if i < (k : Int) then low n t i else if i = (k : Int) then v else i)
    have hlst : ∀ v, idx (lst v) (k : Int) = some v := fun v => by
      have := tab_at (f := fun i => if i < (k : Int) then low n t i else if i = (k : Int) then v else i) (n := n) (v := (k : Int)) (by omega) (by omega)
      rw [if_neg (by omega), if_pos rfl] at this
      exact this
    have hset : ∀ v u, (lst v).set (k : Int).toNat u = lst u := fun v u => by
      show (tab n _).set _ _ = tab n _
      rw [tab_set (by omega)]
      refine tab_congr fun i _ _ => ?_
      unfold upd
      by_cases h : i = (k : Int)
      · rw [if_pos h, if_neg (by omega), if_pos h]
      · simp only [if_neg h]
    refine EvI.upto (clos n t [(k : Int)]).length (fun j (_ : Unit) => (lst (((clos n t [(k : Int)]).take j).foldl (lowF n t (k : Int)) (k : Int)), (j : Int))) (fun _ _ => True) (k := 0) (t := ()) (by
      refine congrArg (fun z => (z, (0 : Int))) (tab_congr fun v h0 _ => ?_)
      simp only [List.take_zero, List.foldl_nil]
      by_cases h1 : v < (k : Int)
      · rw [if_pos h1, if_pos h1]
      · rw [if_neg h1, if_neg h1]; split <;> omega) (Nat.zero_le _) trivial (fun j _ hj _ => ⟨(), ?_, trivial⟩) (fun _ _ => (Ev.ite_f (by simp) (Ev.pure _)).eq (by
      congr 2
      rw [List.take_length]
      refine tab_congr fun v h0 h1 => ?_
      by_cases h2 : v < (k : Int)
      · rw [if_pos h2, if_pos (by omega)]
      · by_cases h3 : v = (k : Int)
        · rw [if_neg h2, if_pos h3, if_pos (by omega), h3]; rfl
        · rw [if_neg h2, if_neg h3, if_neg (by omega)]))
    obtain ⟨c, hc⟩ := get_lt hj
    have rc := hr c (List.mem_of_getElem? hc)
    have hfold : ((clos n t [(k : Int)]).take (j + 1)).foldl (lowF n t (k : Int)) (k : Int) = lowF n t (k : Int) (((clos n t [(k : Int)]).take j).foldl (lowF n t (k : Int)) (k : Int)) c := by
      rw [List.take_add_one, hc]
      simp
    rw [hfold]
    generalize ((clos n t [(k : Int)]).take j).foldl (lowF n t (k : Int)) (k : Int) = v
    have hcc := (clos_ok (n := n) (t := t) (l := [c])).len
    refine Ev.ite_t (decide_eq_true (Int.ofNat_lt.2 hj)) (Ev.join (Ev.bindc (idx_at hc) (Ev.bindc (tab_at rc.1 rc.2) (Ev.bind (contains_ints (xs := clos n t [c]) (by omega)) ?_))))
    unfold lowF
    by_cases hm : (k : Int) ∈ clos n t [c]
    · rw [if_pos hm]
      refine Ev.ite_t (decide_eq_true hm) (Ev.bindc (hlst v) (Ev.bindc (hlst v) (Ev.const ?_)))
      show some (Sum.inl ((lst v).set (k : Int).toNat _, _)) = _
      rw [hset, W_succ hj (by omega)]
    · rw [if_neg hm]
      exact Ev.ite_f (by simp [hm]) (Ev.const (by rw [W_succ hj (by omega)]))
  · show Ev (fun m => (impl_normal_m m (lows n t)).bind fun x => some (x, (0 : Int))) _
    exact Ev.bind (normal_ev (by rw [lows, tab_len]; omega)) (Ev.pure _)

theorem cycle_core {a : Tlaws_Lts} (h : BLts a) : ∃ r, Ev (fun n => spec_CyclePartition_m n a) r ∧ Ev (fun n => impl_CyclePartition_m n a) r ∧ r.1.length ≤ 1048576 := by
  have h1 := valid_spec (t := a) h.1 h.2.1 h.2.2
  have h2 := valid_impl (t := a) h.1 h.2.1 h.2.2
  cases hv : validP a
  · rw [hv] at h1 h2
    unfold spec_CyclePartition_m impl_CyclePartition_m
    exact ⟨([], 1), Ev.bind h1 (Ev.const rfl), Ev.bind h2 (Ev.const rfl), by simp⟩
  · rw [hv] at h1 h2
    obtain ⟨n, V⟩ := valid_of hv
    have htop := V.top
    refine ⟨(nrm [] (lows n a), 0), ?_, lows_impl V h2, by show (nrm [] (lows n a)).length ≤ _; rw [nrm_len, lows, tab_len]; omega⟩
    have hS : Ev (fun m => spec_l15Cycles_m m (a.1, a.2.1, a.2.2.1, a.2.2.2)) (nrm [] (lows n a)) := c53_spec V
    unfold spec_CyclePartition_m
    exact Ev.bind h1 (Ev.ite_f (by simp) (Ev.bind hS (Ev.pure _)))
set_option maxHeartbeats 4000000 in
theorem law_CyclePartition {a : Tlaws_Lts} (g_a : (GLts) a) : ∃ n, laws_FnExactCyclePartition_m n a = some true := by
  have hm : maxLen = 9223372036854775807 := by unfold maxLen; rfl
  refine Ev.one (f := fun n => laws_FnExactCyclePartition_m n a) ?_
  unfold laws_FnExactCyclePartition_m
  obtain ⟨r1, h1, s1⟩ := sz_lts g_a (b := (1048576 : Int)) (by omega) (by omega)
  refine Ev.bind h1 ?_
  by_cases n1 : r1 < 0
  · exact Ev.ite_t (decide_eq_true n1) (Ev.pure _)
  rcases s1 with s1 | ⟨p1, q1, B_a⟩
  · exact absurd s1 n1
  refine Ev.ite_f (by simpa using n1) ?_
  obtain ⟨r, hs, hi, B_r0⟩ := cycle_core B_a
  have to_a_ := toB_lts B_a
  have eq_a_ := eqB_lts B_a
  have eq_r0 := eqB_ints (a := r.1) B_r0
  obtain ⟨k_a, ys_a, m_a, m1_a, m2_a⟩ := marksA_lts (k := (1 : Int)) B_a (by omega) (by omega)
  obtain ⟨k_r0, ys_r0, m_r0, m0_r0, m1_r0, m2_r0⟩ := marksB_ints (k := (1 : Int)) (a := r.1) B_r0 (by omega) (by omega)
  repeat (first
    | exact Ev.pure _
    | refine Ev.bind (by with_reducible assumption) ?_
    | refine Ev.ite_f (by first | (simp; done) | (simp; omega)) ?_
    | refine Ev.bind (Ev.ite_f (by first | (simp; done) | (simp; omega)) (Ev.bind (by with_reducible assumption) (Ev.pure _))) ?_
    | refine Ev.bind (a := false) (Ev.ite_f (by first | (simp; done) | (simp; omega)) (Ev.const (by simp))) ?_
    | refine Ev.bind (a := false) (Ev.ite_f (by first | (simp; done) | (simp; omega)) (Ev.bind (by with_reducible assumption) (Ev.const (by simp)))) ?_
    | refine Ev.bindc (by with_reducible rfl) ?_)
end Go.Proofs.YtelpejcnlekaoaaGreatDoor

