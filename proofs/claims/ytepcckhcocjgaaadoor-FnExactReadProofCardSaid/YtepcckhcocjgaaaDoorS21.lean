/-
  The plain laws of a statement, joined into one text.
-/
import Derived.Test.YtepcckhcocjgaaaDoorF0
import Derived.Test.YtepcckhcocjgaaaDoorF1
import Derived.Test.YtepcckhcocjgaaaDoorF2
import Derived.Test.YtepcckhcocjgaaaDoorFS
import Derived.Test.YtepcckhcocjgaaaDoorGxP
import Derived.Test.YtepcckhcocjgaaaDoorGxU
import Derived.Test.YtepcckhcocjgaaaDoorGxZ
import Derived.Test.YtepcckhcocjgaaaDoorLReadProof
namespace Go.Proofs.YtepcckhcocjgaaaDoor
open Go.Gx
theorem eq_ints {a : List Int} (hl : a.length ≤ maxLen) : Ev (fun n => laws_eqInt64S_m n a a) true := eq_loop_ints hl
theorem l00In_eq {n : Nat} {a b c : Int} : spec_l00In_m n a b c = some (decide (b ≤ a) && decide (a ≤ c)) := by
  unfold spec_l00In_m
  by_cases h : b ≤ a <;> simp [h]
theorem within_eq {n : Nat} {a b c : Int} : impl_within_m n a b c = some (decide (b ≤ a) && decide (a ≤ c)) := by
  unfold impl_within_m
  by_cases h : b ≤ a <;> simp [h]
/-! ### marks -/
theorem marks_ints {a : List Int} {k : Int} (hl : a.length ≤ 1048576) (h0 : 1 ≤ k) (hk : k ≤ 4611686018427387904 - 1048576) :
    ∃ k' ys, Ev (fun n => laws_markInt64S_m n a k) (k', ys) ∧ Ev (fun n => laws_heldInt64S_m n ys k) k' ∧ k ≤ k' ∧ k' ≤ k + (a.length * 1 : Nat) ∧ ys.length = a.length := by
  unfold laws_markInt64S_m laws_heldInt64S_m
  refine mark_held (p := fun _ => True) (fun _ _ => trivial) h0 (by omega)
    (fun xs k i x hxl hx _ h1 h2 => ⟨k, k + 1, Ev.const' fun m => ?_, by omega, by omega, fun ys hyl hy => Ev.const' fun m => ?_⟩) (fun xs k hxl => ?_) (fun ys k hyl => ?_)
  · have hi : i < xs.length := (List.getElem?_eq_some_iff.1 hx).1
    simp [idx_at hx, W_succ (k := i) (n := xs.length) hi (by omega), W_of (n := k + 1) (by omega) (by omega), hi]
  · have hi : i < ys.length := (List.getElem?_eq_some_iff.1 hy).1
    simp [idx_at hy, W_succ (k := i) (n := ys.length) hi (by omega), W_of (n := k + 1) (by omega) (by omega), hi]
  · exact Ev.const' fun m => by simp [hxl]
  · exact Ev.const' fun m => by simp [hyl]

theorem eqB_ints {a : List Int} (h : a.length ≤ 1048576) : Ev (fun n => laws_eqInt64S_m n a a) true := eq_ints (by have : maxLen = 9223372036854775807 := (by unfold maxLen; rfl); omega)
def BII (a : List (List Int)) : Prop := a.length ≤ 1048576 ∧ ∀ x ∈ a, x.length ≤ 1048576
theorem eqB_intss {a : List (List Int)} (h : BII a) : Ev (fun n => laws_eqInt64SS_m n a a) true :=
  have hm : maxLen = 9223372036854775807 := by unfold maxLen; rfl
  eq_loop (eq := fun n x y => laws_eqInt64S_m n x y) (fun x hx => eqB_ints (h.2 x hx)) (by have := h.1; omega)
theorem marksB_intss {a : List (List Int)} {k : Int} (h : BII a) (h0 : 1 ≤ k) (hk : k ≤ 4503599627370496) :
    ∃ k' ys, Ev (fun n => laws_markInt64SS_m n a k) (k', ys) ∧ Ev (fun n => laws_heldInt64SS_m n ys k) k' ∧ k ≤ k' ∧ k' ≤ k + 4398046511104 := by
  have : ∃ k' ys, Ev (fun n => laws_markInt64SS_m n a k) (k', ys) ∧ Ev (fun n => laws_heldInt64SS_m n ys k) k' ∧ k ≤ k' ∧ k' ≤ k + (a.length * 1048576 : Nat) ∧ ys.length = a.length := by
    unfold laws_markInt64SS_m laws_heldInt64SS_m
    refine mark_held (p := fun x => x.length ≤ 1048576) h.2 h0 (by have := h.1; omega) (fun xs k i x hxl hx hp h1 h2 => ?_) (fun xs k hxl => Ev.const' fun m => by simp [hxl]) (fun ys k hyl => Ev.const' fun m => by simp [hyl])
    have hi : i < xs.length := (List.getElem?_eq_some_iff.1 hx).1
    have hx1 := h.1
    obtain ⟨k', ys, e1, e2, e3, e4, _⟩ := marks_ints (a := x) (k := k) hp (by omega) (by omega)
    refine ⟨ys, k', Ev.eq (Ev.ite_t (by simp [hi]) (Ev.bindc (idx_at hx) (Ev.bind e1 (Ev.pure _)))) ?_, by omega, by omega, fun zs hzl hz => ?_⟩
    · simp only [Int.toNat_natCast, W_succ (k := i) (n := xs.length) hi (by omega)]
    · have hi : i < zs.length := (List.getElem?_eq_some_iff.1 hz).1
      refine Ev.eq (Ev.ite_t (by simp [hi]) (Ev.bindc (idx_at hz) (Ev.bind e2 (Ev.ite_f (by simp; omega) (Ev.pure _))))) ?_
      rw [W_succ (k := i) (n := zs.length) hi (by omega)]
  obtain ⟨k', ys, h1, h2, h3, h4, _⟩ := this
  have := h.1
  exact ⟨k', ys, h1, h2, h3, by omega⟩
theorem eqB_proof {a : Timpl_Proof} (h : BII a.2) : Ev (fun n => laws_eqProof_m n a a) true := Ev.ite_f (by simp) (Ev.bind (eqB_intss h) (Ev.pure _))
theorem marksB_proof {a : Timpl_Proof} {k : Int} (h : BII a.2) (h0 : 1 ≤ k) (hk : k ≤ 4503599627370496) :
    ∃ k' ys, Ev (fun n => laws_markProof_m n a k) (k', ys) ∧ Ev (fun n => laws_heldProof_m n (a.1, ys) k) k' ∧ k ≤ k' ∧ k' ≤ k + 4398046511104 := by
  obtain ⟨k', ys, h1, h2, h3, h4⟩ := marksB_intss (a := a.2) h h0 hk
  exact ⟨k', ys, Ev.bind h1 (Ev.pure _), Ev.bind h2 (Ev.ite_f (by simp; omega) (Ev.pure _)), h3, h4⟩
def dg (b : UInt8) : Bool := decide ((48 : Int) ≤ (b.toNat : Int)) && decide ((b.toNat : Int) ≤ 57)
theorem dg_eq (b : UInt8) : dg b = isDig b := by
  unfold dg isDig
  rw [show decide ((48 : Int) ≤ (b.toNat : Int)) = decide (48 ≤ b.toNat) from decide_eq_decide.2 (by omega), show decide ((b.toNat : Int) ≤ 57) = decide (b.toNat ≤ 57) from decide_eq_decide.2 (by omega)]
theorem dg_m {m : Nat} {b : UInt8} : spec_l01Digit_m m (b.toNat : Int) = some (dg b) := by unfold spec_l01Digit_m; rw [and_some]; rfl
/-! ### numbers -/
def numV (w : Str) : Int := (num w).getD 0
def numB (w : Str) : Bool := (num w).isSome
theorem dec_m {m : Nat} {n : Int} (h1 : -9223372036854775808 ≤ n) (h2 : n ≤ 9223372036854775807) : impl_Decimal_m m n = some (Lib.itoa n) := by
  unfold impl_Decimal_m strconv_FormatInt_m
  rw [if_pos ⟨rfl, h1, h2⟩]
  rfl
theorem read_dec {m : Nat} {w : Str} (hl : w.length ≤ 281474976710656) : impl_ReadDecimal_m m w = some (numV w, numB w) := by
  unfold impl_ReadDecimal_m strings_TrimPrefix_m
  rw [if_pos trivial]
  simp only [Option.bind_some]
  unfold numV numB
  rw [← rdDec_eq]
  unfold rdDec
  by_cases h : 18 < (Lib.trimPrefix w [45]).length
  · rw [if_pos h, if_pos (decide_eq_true (by omega))]; rfl
  · rw [if_neg h, if_neg (by rw [decide_eq_false (by omega)]; simp)]
    unfold strconv_ParseInt_m
    rw [if_pos ⟨rfl, rfl, hl⟩]
    cases hp : Lib.parseIntB 64 w with
    | ok v =>
      obtain ⟨h1, h2⟩ := parse_range hp
      simp only [Option.bind_some, dec_m h1 h2, Bool.false_eq_true, if_false]
      by_cases hi : Lib.itoa v = w
      · simp [hi]
      · have : (Lib.itoa v != w) = true := by simpa using hi
        simp [hi, this]
    | range => rfl
    | _ => rfl

theorem drop_take_succ {s : Str} {k i : Nat} {b : UInt8} (h : s[k]? = some b) (hi : i ≤ k) : (s.take (k + 1)).drop i = (s.take k).drop i ++ [b] := by
  rw [List.take_add_one, h, List.drop_append_of_le_length (by
    have : k < s.length := by
      rcases Nat.lt_or_ge k s.length with h' | h'
      · exact h'
      · rw [List.getElem?_eq_none h'] at h; cases h
    simp; omega)]
  rfl

theorem digits_loop {w : Str} (hl : w.length ≤ maxLen) {i : Nat} (hi : i ≤ w.length) (h18 : w.length - i ≤ 18) :
    Ev (fun m => iter (fun (s : (Int) × (Int)) => (match s with | (x59, x60) => (if (decide (x60 < (w.length : Int))) = true then (idx w x60).bind fun b88 => (spec_l01Digit_m m (b88.toNat : Int)).bind fun x92 => (if (!x92) = true then some (.inr (.inr ((0 : Int), false))) else (idx w x60).bind fun b96 => some (.inl ((W ((W ((10 : Int) * x59)) + (W (IntKind.u8.wrap ((b96.toNat : Int) - (48 : Int)))))), (W (x60 + (1 : Int)))))) else some (.inr (.inl (x59)))) : Option (((Int) × (Int)) ⊕ ((Int) ⊕ ((Int × Bool)))))) m ((0 : Int), (i : Int)))
      (if (w.drop i).all isDig = true then .inl (valN (w.drop i) : Int) else .inr ((0 : Int), false)) := by
  have hm := maxLen_le
  refine Exists.elim (EvI.count (step := fun m (s : (Int) × (Int)) => (match s with | (x59, x60) => (if (decide (x60 < (w.length : Int))) = true then (idx w x60).bind fun b88 => (spec_l01Digit_m m (b88.toNat : Int)).bind fun x92 => (if (!x92) = true then some (.inr (.inr ((0 : Int), false))) else (idx w x60).bind fun b96 => some (.inl ((W ((W ((10 : Int) * x59)) + (W (IntKind.u8.wrap ((b96.toNat : Int) - (48 : Int)))))), (W (x60 + (1 : Int)))))) else some (.inr (.inl (x59)))) : Option (((Int) × (Int)) ⊕ ((Int) ⊕ ((Int × Bool))))))
    w.length (fun k (_ : Unit) => ((valN ((w.take k).drop i) : Int), (k : Int))) (fun k _ => i ≤ k ∧ ((w.take k).drop i).all isDig = true)
    (fun r => r = (if (w.drop i).all isDig = true then .inl (valN (w.drop i) : Int) else .inr ((0 : Int), false))) ?hs ?hn hi (t := ()) ⟨Nat.le_refl _, by rw [List.drop_take_self]; rfl⟩) (fun res ⟨h1, h2⟩ => by
    subst h2
    rw [List.drop_take_self] at h1
    exact h1.ev)
  · rintro k t hk ⟨hik, hI⟩
    obtain ⟨b, hb⟩ := get_lt hk
    have hk' : decide ((k : Int) < (w.length : Int)) = true := by simpa using hk
    cases hd : isDig b with
    | true =>
      refine .inl ⟨(), Ev.const' fun m => ?_, by omega, ?_⟩
      · simp only [hk', if_true, idx_at hb, Option.bind_some, dg_m, dg_eq, hd, Bool.not_true, Bool.false_eq_true, if_false, W_succ hk (by omega)]
        have hb2 := dig_le hd
        have hv : valN ((w.take k).drop i) < 10 ^ 18 := val_small (by simp; omega) hI
        have hv2 : valN ((w.take (k + 1)).drop i) < 10 ^ 18 := val_small (by simp; omega) (by rw [drop_take_succ hb hik, List.all_append, hI]; simp [hd])
        rw [drop_take_succ hb hik, valN_snoc] at hv2 ⊢
        have e1 : IntKind.u8.wrap ((b.toNat : Int) - 48) = ((b.toNat - 48 : Nat) : Int) := by
          unfold IntKind.wrap
          simp [IntKind.signed, IntKind.bits]
          omega
        rw [e1, W_of (n := ((b.toNat - 48 : Nat) : Int)) (by omega) (by omega), W_of (n := 10 * (valN ((w.take k).drop i) : Int)) (by omega) (by omega), W_of (by omega) (by omega)]
        congr 3
      · rw [drop_take_succ hb hik, List.all_append, hI]; simp [hd]
    | false =>
      refine .inr ⟨.inr ((0 : Int), false), Ev.const' fun m => ?_, ?_⟩
      · simp only [hk', if_true, idx_at hb, Option.bind_some, dg_m, dg_eq, hd, Bool.not_false]
      · rw [if_neg]
        intro h
        rw [List.all_eq_true] at h
        have : b ∈ w.drop i := by
          have : (w.drop i)[k - i]? = some b := by rw [List.getElem?_drop, show i + (k - i) = k by omega]; exact hb
          exact List.mem_of_getElem? this
        rw [h b this] at hd
        cases hd
  · rintro t ⟨hik, hI⟩
    refine ⟨.inl (valN (w.drop i) : Int), Ev.const' fun m => ?_, ?_⟩
    · rw [List.take_length] at *
      simp
    · rw [List.take_length] at hI
      rw [if_pos hI]


def numRes (w : Str) (i : Nat) : Int × Bool :=
  if w.length = i ∨ 18 < w.length - i ∨ ((w.drop i).head? = some 48 ∧ 1 < w.length) then (0, false)
  else if (w.drop i).all isDig = true then (if i = 1 then -(valN (w.drop i) : Int) else (valN (w.drop i) : Int), true) else (0, false)

theorem num_body {w : Str} (hl : w.length ≤ maxLen) {i : Nat} {x : Int} (hx : x = (i : Int)) (hi : i ≤ w.length) :
    Ev (fun fuel => (if ((w.length : Int) == x) = true then some true else some (decide ((18 : Int) < (W ((w.length : Int) - x))))).bind fun t34 => (if t34 = true then some true else (idx w x).bind fun b40 => (if ((b40.toNat : Int) == (48 : Int)) = true then some (decide ((1 : Int) < (w.length : Int))) else some false).bind fun t42 => some t42).bind fun t37 => (if t37 = true then some (((0 : Int), false)) else (iter (fun (s : (Int) × (Int)) => (match s with | (x59, x60) => (if (decide (x60 < (w.length : Int))) = true then (idx w x60).bind fun b88 => (spec_l01Digit_m fuel (b88.toNat : Int)).bind fun x92 => (if (!x92) = true then some (.inr (.inr ((0 : Int), false))) else (idx w x60).bind fun b96 => some (.inl ((W ((W ((10 : Int) * x59)) + (W (IntKind.u8.wrap ((b96.toNat : Int) - (48 : Int)))))), (W (x60 + (1 : Int)))))) else some (.inr (.inl (x59)))) : Option (((Int) × (Int)) ⊕ ((Int) ⊕ ((Int × Bool)))))) fuel ((0 : Int), x)).bind fun res75 => ctl (β := Int) (ρ := (Int × Bool)) (τ := (Int × Bool)) res75 (fun (x74) => join (κ := Int → Option (Int × Bool)) (fun (x80 : Int) => some ((x80, true))) (fun K81 => (if (x == (1 : Int)) = true then (K81 (W (0 - x74))) else (K81 x74)))) (fun q => some (q)))) (numRes w i) := by
  have hm := maxLen_le
  subst hx
  unfold numRes
  by_cases h1 : w.length = i
  · have e1 : ((w.length : Int) == (i : Int)) = true := by rw [h1]; simp
    exact Ev.eq (r := ((0 : Int), false)) (Ev.const' fun m => by simp only [e1, if_true, Option.bind_some]) (if_pos (.inl h1)).symm
  · have e1 : ((w.length : Int) == (i : Int)) = false := beq_false_of_ne (by omega)
    have w1 : W ((w.length : Int) - (i : Int)) = (w.length : Int) - (i : Int) := W_of (by omega) (by omega)
    simp only [e1, Bool.false_eq_true, if_false, Option.bind_some, w1]
    by_cases h2 : 18 < w.length - i
    · have e2 : decide ((18 : Int) < (w.length : Int) - (i : Int)) = true := decide_eq_true (by omega)
      exact Ev.eq (r := ((0 : Int), false)) (Ev.const' fun m => by simp only [e2, if_true, Option.bind_some]) (if_pos (.inr (.inl h2))).symm
    · have e2 : decide ((18 : Int) < (w.length : Int) - (i : Int)) = false := decide_eq_false (by omega)
      obtain ⟨b, hb⟩ := get_lt (xs := w) (k := i) (by omega)
      have hh : (w.drop i).head? = some b := by rw [List.head?_drop]; exact hb
      simp only [e2, Bool.false_eq_true, if_false, idx_at hb, Option.bind_some, and_some]
      by_cases h3 : b = 48 ∧ 1 < w.length
      · have e3 : ((((b.toNat : Int) == 48) && decide ((1 : Int) < (w.length : Int)))) = true := by
          rw [h3.1, decide_eq_true (by omega : (1 : Int) < (w.length : Int))]; rfl
        exact Ev.eq (r := ((0 : Int), false)) (Ev.ite_t e3 (Ev.pure _)) (if_pos (.inr (.inr ⟨by rw [hh, h3.1], h3.2⟩))).symm
      · have e3 : ¬ ((((b.toNat : Int) == 48) && decide ((1 : Int) < (w.length : Int)))) = true := by
          intro h
          rw [Bool.and_eq_true] at h
          refine h3 ⟨?_, by have := of_decide_eq_true h.2; omega⟩
          have := beq_iff_eq.1 h.1
          exact UInt8.toNat_inj.1 (show b.toNat = 48 by omega)
        refine Ev.eq ?_ (if_neg (by
          rintro (h | h | ⟨h, h'⟩)
          · exact h1 h
          · exact h2 h
          · rw [hh] at h; exact h3 ⟨by simpa using h, h'⟩)).symm
        refine Ev.ite_f e3 (Ev.bind (digits_loop hl hi (by omega)) (Ev.const ?_))
        by_cases hd : (w.drop i).all isDig = true
        · have hv := val_small (ds := w.drop i) (by simp; omega) hd
          rw [if_pos hd, if_pos hd, ctl_l]
          show (if ((i : Int) == (1 : Int)) = true then some (W (0 - (valN (w.drop i) : Int)), true) else some ((valN (w.drop i) : Int), true)) = _
          by_cases hi1 : i = 1
          · subst hi1
            rw [if_pos (by rfl), if_pos rfl, W_of (by omega) (by omega)]
            congr 2
            omega
          · rw [if_neg (by intro h; have := beq_iff_eq.1 h; omega), if_neg hi1]
        · rw [if_neg hd, if_neg hd, ctl_r]

theorem num_minus (r : Str) : num (45 :: r) = if okD r = true ∧ r.head? ≠ some 48 then some (-(valN r : Int)) else none := by
  unfold num
  rw [if_pos (show (45 :: r : Str).head? = some 45 from rfl)]
  rfl
theorem numRes_neg (r : Str) : numRes (45 :: r) 1 = (numV (45 :: r), numB (45 :: r)) := by
  unfold numRes numV numB
  rw [num_minus]
  simp only [List.drop_succ_cons, List.drop_zero, List.length_cons, Nat.add_sub_cancel, if_true]
  by_cases h : okD r = true ∧ r.head? ≠ some 48
  · obtain ⟨h1, h2, h3⟩ := okD_iff.1 h.1
    have hp := List.length_pos_iff.2 h1
    rw [if_pos h, if_neg (by rintro (g | g | ⟨g, _⟩) <;> first | omega | exact h.2 g), if_pos h3]
    rfl
  · rw [if_neg h]
    split
    · rfl
    · rename_i hc
      split
      · rename_i hd
        exfalso
        apply h
        refine ⟨okD_iff.2 ⟨fun e => hc (.inl (by rw [e]; rfl)), by omega, hd⟩, fun e => hc (.inr (.inr ⟨e, ?_⟩))⟩
        cases r with
        | nil => cases e
        | cons _ _ => simp
      · rfl
theorem numRes_pos {w : Str} (hw : w.head? ≠ some 45) : numRes w 0 = (numV w, numB w) := by
  unfold numRes numV numB num
  rw [if_neg hw]
  simp only [List.drop_zero, Nat.sub_zero, Nat.zero_ne_one, if_false]
  by_cases h : okD w = true ∧ (w.head? ≠ some 48 ∨ w.length = 1)
  · obtain ⟨h1, h2, h3⟩ := okD_iff.1 h.1
    have hp := List.length_pos_iff.2 h1
    rw [if_pos h, if_neg (by rintro (g | g | ⟨g, g'⟩) <;> first | omega | exact h.2.elim (fun x => x g) (fun x => by omega)), if_pos h3]
    rfl
  · rw [if_neg h]
    split
    · rfl
    · rename_i hc
      split
      · rename_i hd
        exfalso
        apply h
        have hp : 0 < w.length := by
          rcases Nat.eq_zero_or_pos w.length with g | g
          · exact absurd (.inl g) hc
          · exact g
        refine ⟨okD_iff.2 ⟨fun e => hc (.inl (by rw [e]; rfl)), by omega, hd⟩, ?_⟩
        by_cases g : w.head? = some 48
        · right
          rcases Nat.lt_or_ge 1 w.length with g' | g'
          · exact absurd (.inr (.inr ⟨g, g'⟩)) hc
          · omega
        · exact .inl g
      · rfl

theorem num_spec {w : Str} (hl : w.length ≤ maxLen) : Ev (fun m => spec_l01Number_m m w) (numV w, numB w) := by
  have hm := maxLen_le
  unfold spec_l01Number_m
  refine Ev.join ?_
  cases hw : w with
  | nil => 
    rw [← hw]
    have e : decide ((0 : Int) < (w.length : Int)) = false := by rw [hw]; rfl
    simp only [e, Bool.false_eq_true, if_false, Option.bind_some]
    exact (num_body hl (i := 0) (x := 0) rfl (Nat.zero_le _)).eq (numRes_pos (by rw [hw]; simp))
  | cons b r =>
    rw [← hw]
    have e : decide ((0 : Int) < (w.length : Int)) = true := by rw [hw]; simp
    have hb : idx w (0 : Int) = some b := idx_at (k := 0) (by rw [hw]; rfl)
    refine Ev.bindc (a := ((b.toNat : Int) == (45 : Int))) (by simp only [e, if_true, hb, Option.bind_some]) ?_
    by_cases h : b = 45
    · subst h
      refine Ev.ite_t (by rfl) ?_
      exact (num_body hl (i := 1) (x := 1) rfl (by rw [hw]; simp)).eq (by rw [hw]; exact numRes_neg r)
    · refine Ev.ite_f (fun g => h ?_) ?_
      · have := beq_iff_eq.1 g
        exact UInt8.toNat_inj.1 (show b.toNat = 45 by omega)
      · exact (num_body hl (i := 0) (x := 0) rfl (Nat.zero_le _)).eq (numRes_pos (by rw [hw]; simpa using h))
theorem mx : 4294967296 ≤ maxLen ∧ maxLen ≤ 9223372036854775807 := by unfold maxLen; omega

/-! ### splitting -/
theorem splitC_snoc_eq (c : UInt8) : ∀ s : Str, splitC c (s ++ [c]) = splitC c s ++ [[]]
  | [] => by simp [splitC]
  | a :: r => by
    have ih := splitC_snoc_eq c r
    rw [List.cons_append]
    unfold splitC
    rw [ih]
    split
    · rfl
    · cases hr : splitC c r with
      | nil => exact absurd hr (splitC_ne c r)
      | cons x t => rfl
theorem splitC_snoc_ne {c b : UInt8} (hb : b ≠ c) : ∀ (s : Str) (o : List Str) (l : Str), splitC c s = o ++ [l] → splitC c (s ++ [b]) = o ++ [l ++ [b]]
  | [], o, l, h => by
    have h' : [([] : Str)] = o ++ [l] := h
    have : o = [] := by
      cases o with
      | nil => rfl
      | cons _ t => simp at h'
    subst this
    have : l = [] := by simpa using h'.symm
    subst this
    simp [splitC, hb]
  | a :: r, o, l, h => by
    rw [List.cons_append]
    unfold splitC at h ⊢
    by_cases ha : a = c
    · rw [if_pos ha] at h ⊢
      cases o with
      | nil =>
        exfalso
        have : splitC c r = [] := by simpa using (List.cons.inj h).2
        exact splitC_ne c r this
      | cons x o' =>
        rw [List.cons_append] at h ⊢
        obtain ⟨h1, h2⟩ := List.cons.inj h
        rw [← h1, splitC_snoc_ne hb r o' l h2]
    · rw [if_neg ha] at h ⊢
      rcases snoc_or (splitC c r) with hr | ⟨o', l', hr⟩
      · exact absurd hr (splitC_ne c r)
      · have ih := splitC_snoc_ne hb r o' l' hr
        rw [ih]
        rw [hr] at h
        cases o' with
        | nil =>
          simp only [List.nil_append, List.headD_cons, List.tail_cons] at h ⊢
          have : o = [] := by
            cases o with
            | nil => rfl
            | cons _ t => simp at h
          subst this
          have : l = a :: l' := by simpa using h.symm
          subst this
          rfl
        | cons x o'' =>
          simp only [List.cons_append, List.headD_cons, List.tail_cons] at h ⊢
          cases o with
          | nil => simp at h
          | cons y o3 =>
            rw [List.cons_append] at h ⊢
            obtain ⟨h1, h2⟩ := List.cons.inj h
            obtain ⟨h3, h4⟩ := List.append_inj' h2 rfl
            have : l' = l := by simpa using h4
            rw [h1, h3, this]

/-! ### lists of numbers -/
theorem fill_iter {α β ρ : Type} {to' : Nat → α → Option β} {f : α → β} {a : List α} {z : β} (hto : ∀ x ∈ a, Ev (fun n => to' n x) (f x)) (hl : a.length ≤ 1048576) :
    EvI (fun n (s : (List β) × (Int)) => (match s with | (xs35, x36) => (if (decide (x36 < (a.length : Int))) = true then (idx a x36).bind fun x75 => (to' n x75).bind fun x92 => (idx xs35 x36).bind fun _ => some (.inl ((xs35.set x36.toNat x92), (W (x36 + (1 : Int))))) else some (.inr (.inl (xs35)))) : Option (((List β) × (Int)) ⊕ (((List β)) ⊕ (ρ))))) (List.replicate a.length z, (0 : Int)) (.inl (a.map f)) := by
  refine EvI.upto a.length (fun k (t : List β) => (t, (k : Int))) (fun k t => t = (a.take k).map f ++ List.replicate (a.length - k) z) (k := 0) (t := List.replicate a.length z) rfl (Nat.zero_le _) (by simp) (fun k t hk ht => ?_) (fun t ht => ?_)
  · obtain ⟨x, hx⟩ : ∃ x, a[k]? = some x := ⟨a[k], List.getElem?_eq_getElem hk⟩
    have hlen : ((a.take k).map f).length = k := by simp; omega
    have hi : t[k]? = some z := by
      rw [ht, List.getElem?_append_right (by omega), hlen, List.getElem?_replicate, if_pos (by omega)]
    refine ⟨_, (Ev.ite_t (by simpa using hk) (Ev.bindc (idx_at hx) (Ev.bind (hto x (List.mem_of_getElem? hx)) (Ev.bindc (idx_at hi) (Ev.pure (Sum.inl (t.set (k : Int).toNat (f x), W ((k : Int) + 1)))))))).eq ?_, rfl⟩
    rw [W_of (by omega) (by omega)]
    refine congrArg Sum.inl (Prod.ext ?_ rfl)
    show t.set (k : Int).toNat (f x) = _
    rw [ht, Int.toNat_natCast, List.set_append_right _ _ (by omega), hlen]
    rw [List.take_add_one, hx, List.map_append, List.append_assoc]
    congr 1
    rw [show a.length - k = (a.length - (k + 1)) + 1 by omega, List.replicate_succ]
    simp
  · refine (Ev.ite_f (by simp) (Ev.pure _)).eq ?_
    rw [ht]; simp

theorem read_nums {ws : List Str} (hl : ws.length < 4294967282) (hw : ∀ w ∈ ws, w.length ≤ 281474976710656) :
    Ev (fun m => impl_readNumbers_m m ws) (if ws.all numB = true then (ws.map numV, true) else ([], false)) := by
  have hm := mx
  unfold impl_readNumbers_m
  refine Exists.elim (EvI.count (step := _) ws.length (fun k (_ : Unit) => ((ws.take k).map numV, (k : Int))) (fun k _ => (ws.take k).all numB = true)
    (fun r => r = (if ws.all numB = true then .inl (ws.map numV) else .inr ([], false))) ?_ ?_ (k := 0) (t := ()) (Nat.zero_le _) rfl)
    (fun res ⟨h1, h2⟩ => Ev.bind h1.ev (by
      subst h2
      by_cases h : ws.all numB = true
      · rw [if_pos h, if_pos h]; exact Ev.pure _
      · rw [if_neg h, if_neg h]; exact Ev.pure _))
  · intro k t hk hI
    obtain ⟨w, hw'⟩ := get_lt hk
    have hk' : decide ((k : Int) < (ws.length : Int)) = true := by simpa using hk
    have htk : ws.take (k + 1) = ws.take k ++ [w] := by rw [List.take_add_one, hw']; rfl
    have hrd : ∀ m, impl_ReadDecimal_m m w = some (numV w, numB w) := fun m => read_dec (hw w (List.mem_of_getElem? hw'))
    cases hb : numB w with
    | true =>
      left
      refine ⟨(), Ev.ite_t hk' (Ev.bindc (idx_at hw') (Ev.bind (Ev.const' hrd) (Ev.ite_f (by simp [hb]) (Ev.bindc (app_ok (by simp; omega)) (Ev.const ?_))))), ?_⟩
      · rw [W_succ hk (by omega), htk, List.map_append]; rfl
      · rw [htk, List.all_append, hI]; simp [hb]
    | false =>
      right
      refine ⟨_, Ev.ite_t hk' (Ev.bindc (idx_at hw') (Ev.bind (Ev.const' hrd) (Ev.ite_t (by simp [hb]) (Ev.pure _)))), ?_⟩
      rw [if_neg]
      intro h
      rw [List.all_eq_true] at h
      rw [h w (List.mem_of_getElem? hw')] at hb
      cases hb
  · intro t hI
    refine ⟨_, Ev.ite_f (by simp) (Ev.pure _), ?_⟩
    rw [List.take_length] at *
    rw [if_pos hI]

theorem cat_ev {a b : Str} (h : a.length + b.length ≤ 140737488355328) : cat a b = some (a ++ b) := by
  unfold cat
  rw [if_pos (by first | exact h | omega)]

/-- A check of the element at a place. -/
def okOf {α : Type} (ok : α → Bool) (l : List α) (k : Nat) : Bool := match l[k]? with | none => true | some x => ok x
theorem okOf_at {α : Type} {ok : α → Bool} {l : List α} {k : Nat} {x : α} (h : l[k]? = some x) : okOf ok l k = ok x := by unfold okOf; rw [h]
theorem okOf_all {α β : Type} {ok : α → Bool} {l : List α} {x y : β} : (if ∀ k, k < l.length → okOf ok l k = true then x else y) = if l.all ok = true then x else y := by
  have : (∀ k, k < l.length → okOf ok l k = true) ↔ l.all ok = true := by
    rw [List.all_eq_true]
    constructor
    · intro h x hx
      obtain ⟨k, hk⟩ := List.mem_iff_getElem?.1 hx
      have := h k (List.getElem?_eq_some_iff.1 hk).1
      rwa [okOf_at hk] at this
    · intro h k hk
      obtain ⟨x, hx⟩ := get_lt hk
      rw [okOf_at hx]
      exact h x (List.mem_of_getElem? hx)
  by_cases h : l.all ok = true
  · rw [if_pos (this.2 h), if_pos h]
  · rw [if_neg (fun q => h (this.1 q)), if_neg h]

/-! ### the reference's decimals -/
def rvD (u : Nat) : List Int := (Lib.decDigits u).reverse.map fun b => (b.toNat : Int)
theorem rvD_small {u : Nat} (h : u < 10) : rvD u = [((48 + u : Nat) : Int)] := by
  unfold rvD
  rw [Lib.decDigits_one h]
  simp
  omega
theorem rvD_big {u : Nat} (h : 10 ≤ u) : rvD u = ((48 + u % 10 : Nat) : Int) :: rvD (u / 10) := by
  unfold rvD
  rw [dec_big (by omega), List.reverse_append]
  simp
  omega
def rvE (u : Nat) : List Int := if u = 0 then [] else rvD u
theorem rvE_step {u : Nat} (h : 0 < u) : rvE u = ((48 + u % 10 : Nat) : Int) :: rvE (u / 10) := by
  unfold rvE
  rw [if_neg (by omega)]
  by_cases h1 : u < 10
  · rw [rvD_small h1, if_pos (by omega), Nat.mod_eq_of_lt h1]
  · rw [rvD_big (by omega), if_neg (by omega)]
theorem dec_loop (_n0 : Int) : ∀ (u : Nat) (x : Int) (xs : List Int), x.natAbs = u → u ≤ 4611686018427387904 → xs.length + u ≤ 4611686018427387904 + 100 → xs.length ≤ 1000 - 10 * 0 →
    (∀ d, u < 10 ^ d → xs.length + d ≤ 1000 → EvI (fun (_ : Nat) (s : (List Int) × (Int)) => (match s with | (xs53, x55) => (if (x55 != (0 : Int)) = true then join (κ := Int → Option (((List Int) × (Int)) ⊕ (((List Int)) ⊕ (Str)))) (fun (x167 : Int) => (app xs53 [(IntKind.u8.wrap (W ((48 : Int) + x167)))]).bind fun x173 => some (.inl (x173, (W (x55.tdiv (10 : Int)))))) (fun K168 => (if (decide ((x55.tmod (10 : Int)) < (0 : Int))) = true then (K168 (W (0 - (x55.tmod (10 : Int))))) else (K168 (x55.tmod (10 : Int))))) else some (.inr (.inl (xs53)))) : Option (((List Int) × (Int)) ⊕ (((List Int)) ⊕ (Str))))) (xs, x) (.inl (xs ++ rvE u))) := by
  intro u
  induction u using Nat.strongRecOn with
  | ind u ih =>
    intro x xs hx hu hl hl2 d hd hd2
    by_cases h0 : u = 0
    · subst h0
      have hx0 : x = 0 := by omega
      subst hx0
      refine EvI.stop (Ev.ite_f (by simp) (Ev.const ?_))
      simp [rvE]
    · rw [rvE_step (by omega)]
      have hd0 : d ≠ 0 := by intro e; subst e; simp at hd; omega
      obtain ⟨d', rfl⟩ : ∃ d', d = d' + 1 := ⟨d - 1, by omega⟩
      have hmod : x.tmod 10 = (if x < 0 then -((u % 10 : Nat) : Int) else ((u % 10 : Nat) : Int)) := by
        by_cases hn : x < 0
        · rw [if_pos hn]
          have : x = -(u : Int) := by omega
          rw [this, Int.neg_tmod]
          rfl
        · rw [if_neg hn]
          have : x = (u : Int) := by omega
          rw [this]; rfl
      have hdiv : x.tdiv 10 = (if x < 0 then -((u / 10 : Nat) : Int) else ((u / 10 : Nat) : Int)) := by
        by_cases hn : x < 0
        · rw [if_pos hn]
          have : x = -(u : Int) := by omega
          rw [this, Int.neg_tdiv]
          rfl
        · rw [if_neg hn]
          have : x = (u : Int) := by omega
          rw [this]; rfl
      have hwd : W (x.tdiv 10) = x.tdiv 10 := by
        rw [hdiv]
        split <;> exact W_of (by omega) (by omega)
      have hch : IntKind.u8.wrap (W ((48 : Int) + ((u % 10 : Nat) : Int))) = ((48 + u % 10 : Nat) : Int) := by
        rw [W_of (by omega) (by omega)]
        unfold IntKind.wrap
        simp [IntKind.signed, IntKind.bits]
        omega
      have hstep : Ev (fun (_ : Nat) => (if (x != (0 : Int)) = true then join (κ := Int → Option (((List Int) × (Int)) ⊕ (((List Int)) ⊕ (Str)))) (fun (x167 : Int) => (app xs [(IntKind.u8.wrap (W ((48 : Int) + x167)))]).bind fun x173 => some (.inl (x173, (W (x.tdiv (10 : Int)))))) (fun K168 => (if (decide ((x.tmod (10 : Int)) < (0 : Int))) = true then (K168 (W (0 - (x.tmod (10 : Int))))) else (K168 (x.tmod (10 : Int))))) else some (.inr (.inl (xs))) : Option (((List Int) × (Int)) ⊕ (((List Int)) ⊕ (Str))))) (.inl (xs ++ [((48 + u % 10 : Nat) : Int)], x.tdiv 10)) := by
        refine Ev.ite_t (by simp; omega) (Ev.join ?_)
        rw [hwd]
        have hfin : ∀ z : Int, z = ((u % 10 : Nat) : Int) → (app xs [(IntKind.u8.wrap (W ((48 : Int) + z)))]).bind (fun x173 => (some (.inl (x173, x.tdiv 10)) : Option (((List Int) × (Int)) ⊕ (((List Int)) ⊕ (Str))))) = some (.inl (xs ++ [((48 + u % 10 : Nat) : Int)], x.tdiv 10)) := by
          intro z hz
          rw [hz, hch, app_ok (by simp; omega)]; rfl
        by_cases hneg : x.tmod 10 < 0
        · refine Ev.ite_t (decide_eq_true hneg) (Ev.const (hfin _ ?_))
          rw [hmod] at hneg ⊢
          split
          · rw [W_of (by omega) (by omega)]; omega
          · rename_i h; rw [if_neg h] at hneg; omega
        · refine Ev.ite_f (by simpa using hneg) (Ev.const (hfin _ ?_))
          rw [hmod] at hneg ⊢
          split
          · rename_i h; rw [if_pos h] at hneg; omega
          · rfl
      refine EvI.go hstep ?_
      have := ih (u / 10) (by omega) (x.tdiv 10) (xs ++ [((48 + u % 10 : Nat) : Int)]) (by rw [hdiv]; split <;> omega) (by omega) (by simp; omega) (by simp at hd2 ⊢; omega) d' (by
        rw [Nat.pow_succ] at hd; omega) (by simp; omega)
      rw [List.append_assoc] at this
      exact this
theorem decD_len : ∀ (d u : Nat), u < 10 ^ (d + 1) → (Lib.decDigits u).length ≤ d + 1
  | 0, u, h => by rw [Lib.decDigits_one (by omega)]; simp
  | d + 1, u, h => by
    by_cases hu : u < 10
    · rw [Lib.decDigits_one hu]; simp
    · rw [dec_big hu, List.length_append]
      have := decD_len d (u / 10) (by rw [Nat.pow_succ] at h; omega)
      simp; omega
theorem itoa_len {n : Int} (h1 : -1000000000000000 ≤ n) (h2 : n ≤ 1000000000000000) : (Lib.itoa n).length ≤ 21 := by
  unfold Lib.itoa
  split
  · have := decD_len 17 n.natAbs (by omega)
    simp; omega
  · have := decD_len 17 n.toNat (by omega)
    omega
theorem dec_ref {n : Int} (h1 : -1000000000000000 ≤ n) (h2 : n ≤ 1000000000000000) : Ev (fun m => spec_l01Dec_m m n) (Lib.itoa n) := by
  unfold spec_l01Dec_m
  by_cases h0 : n = 0
  · subst h0
    exact (Ev.ite_t (by simp) (Ev.pure _)).eq (by
      unfold Lib.itoa
      rw [if_neg (by omega)]
      exact (Lib.decDigits_one (i := 0) (by omega)).symm)
  refine Ev.ite_f (by simpa using h0) ?_
  have hl := dec_loop n n.natAbs n [] rfl (by omega) (by simp; omega) (by simp) 18 (by omega) (by simp)
  rw [List.nil_append] at hl
  have hrv : rvE n.natAbs = rvD n.natAbs := by unfold rvE; rw [if_neg (by omega)]
  have hdl : (Lib.decDigits n.natAbs).length ≤ 40 := by
    have := decD_len 17 n.natAbs (by omega)
    omega
  have hrl : (rvD n.natAbs).length ≤ 40 := by unfold rvD; simpa using hdl
  rw [hrv] at hl
  let ds : List Int := if n < 0 then rvD n.natAbs ++ [45] else rvD n.natAbs
  have hdsl : ds.length ≤ 41 := by
    show (if n < 0 then _ else _ : List Int).length ≤ 41
    split
    · simp; omega
    · omega
  have hres : bstr ds.reverse = Lib.itoa n := by
    have hb : ∀ l : Str, bstr (l.map fun b => (b.toNat : Int)) = l := by
      intro l
      unfold bstr
      rw [List.map_map]
      refine (List.map_congr_left fun b _ => ?_).trans (List.map_id _)
      simp
    show bstr (if n < 0 then rvD n.natAbs ++ [45] else rvD n.natAbs).reverse = _
    unfold rvD Lib.itoa
    by_cases hn : n < 0
    · rw [if_pos hn, if_pos hn, List.reverse_append, ← List.map_reverse, List.reverse_reverse]
      have := hb (45 :: Lib.decDigits n.natAbs)
      simpa using this
    · rw [if_neg hn, if_neg hn, ← List.map_reverse, List.reverse_reverse, show n.toNat = n.natAbs by omega]
      exact hb _
  have hrev : ∀ ds : List Int, ds.length ≤ 41 → Ev (fun m => (iter (fun (s : (List Int) × (Int)) => (match s with | (xs108, x110) => (if (decide ((0 : Int) ≤ x110)) = true then (idx ds x110).bind fun x141 => (app xs108 [x141]).bind fun x149 => some (.inl (x149, (W (x110 - (1 : Int))))) else some (.inr (.inl (xs108)))) : Option (((List Int) × (Int)) ⊕ (((List Int)) ⊕ (Str))))) m (([] : List Int), (W ((ds.length : Int) - (1 : Int))))).bind fun res132 => ctl (β := (List Int)) (ρ := Str) (τ := Str) res132 (fun (xs130) => some ((bstr xs130))) (fun q => some (q))) (bstr ds.reverse) := by
    intro ds hdsl
    refine Ev.bind (a := Sum.inl ds.reverse) (EvI.ev ?_) (Ev.pure _)
    refine EvI.upto ds.length (fun k (_ : Unit) => (ds.reverse.take k, (ds.length : Int) - 1 - (k : Int))) (fun _ _ => True) (k := 0) (t := ()) (by rw [W_of (by omega) (by omega)]; simp) (Nat.zero_le _) trivial (fun k _ hk _ => ⟨(), ?_, trivial⟩) (fun _ _ => by
      dsimp only
      refine Ev.ite_f (by simp; omega) (Ev.const ?_)
      rw [List.take_of_length_le (by simp)])
    obtain ⟨x, hx⟩ := get_lt (xs := ds.reverse) (k := k) (by simpa using hk)
    have hx' : ds[ds.length - 1 - k]? = some x := by rw [← List.getElem?_reverse hk]; exact hx
    dsimp only
    refine Ev.ite_t (decide_eq_true (by omega)) (Ev.bindc (a := x) ?_ (Ev.bindc (app_ok (by simp; omega)) (Ev.const ?_)))
    · have := idx_at hx'
      rwa [show ((ds.length - 1 - k : Nat) : Int) = (ds.length : Int) - 1 - (k : Int) by omega] at this
    · rw [List.take_add_one, hx, W_of (by omega) (by omega), show (ds.length : Int) - 1 - (k : Int) - 1 = (ds.length : Int) - 1 - ((k + 1 : Nat) : Int) by omega]
      rfl
  refine Ev.bind (a := Sum.inl (rvD n.natAbs)) (EvI.ev hl) (Ev.join ?_)
  rw [← hres]
  by_cases hn : n < 0
  · refine Ev.ite_t (decide_eq_true hn) (Ev.bindc (app_ok (by simp; omega)) ?_)
    have e : ds = rvD n.natAbs ++ [45] := if_pos hn
    rw [e]
    exact hrev _ (by simp; omega)
  · refine Ev.ite_f (by simpa using hn) ?_
    have e : ds = rvD n.natAbs := if_neg hn
    rw [e]
    exact hrev _ (by omega)

/-! ### lists of decimals -/
def val12 (n : Int) : Bool := decide (-1000000000000 ≤ n) && decide (n ≤ 1000000000000)
def listP (vs : List Int) : Bool := decide (vs.length ≤ 64) && vs.all val12
theorem val12_iff {n : Int} : val12 n = true ↔ -1000000000000 ≤ n ∧ n ≤ 1000000000000 := by unfold val12; simp
/-- The text of a list. -/
def lstT (vs : List Int) : Str := if vs = [] then [45] else Lib.join (vs.map Lib.itoa) [44]
theorem join_snoc (c : Str) (xs : List Str) (y : Str) : Lib.join (xs ++ [y]) c = if xs = [] then y else Lib.join xs c ++ c ++ y := by
  cases xs with
  | nil => simp [Lib.join_one]
  | cons x r =>
    rw [if_neg (by simp), List.cons_append, Lib.join_cons, Lib.join_cons]
    simp [Lib.joinTail]
theorem join_le {c : Str} {L : Nat} : ∀ (xs : List Str), (∀ x ∈ xs, x.length ≤ L) → (Lib.join xs c).length ≤ xs.length * (L + c.length) := by
  refine rev_ind (fun _ => by simp [Lib.join_nil]) fun xs y ih h => ?_
  have h1 := ih fun x hx => h x (by simp [hx])
  have h2 := h y (by simp)
  rw [join_snoc, List.length_append, Nat.add_mul]
  split
  · simp; omega
  · simp; omega
theorem lst_spec {vs : List Int} (hl : vs.length ≤ 100000) (h : ∀ v ∈ vs, -1000000000000000 ≤ v ∧ v ≤ 1000000000000000) : Ev (fun m => spec_l01List_m m vs) (lstT vs) := by
  unfold spec_l01List_m lstT
  by_cases h0 : vs = []
  · rw [if_pos h0]
    subst h0
    exact Ev.ite_t (by simp) (Ev.pure _)
  rw [if_neg h0]
  have hne : ¬ ((vs.length : Int) == 0) = true := by
    intro e
    exact h0 (List.eq_nil_of_length_eq_zero (by have := beq_iff_eq.1 e; omega))
  refine Ev.ite_f hne (Ev.bind (a := Sum.inl (Lib.join (vs.map Lib.itoa) [44])) (EvI.ev ?_) (Ev.pure _))
  refine EvI.upto vs.length (fun k (_ : Unit) => (Lib.join ((vs.take k).map Lib.itoa) [44], (k : Int))) (fun _ _ => True) (k := 0) (t := ()) (by simp [Lib.join_nil]) (Nat.zero_le _) trivial (fun k _ hk _ => ⟨(), ?_, trivial⟩) (fun _ _ => by
    dsimp only
    exact Ev.ite_f (by simp) (Ev.const (by rw [List.take_length])))
  obtain ⟨v, hv⟩ := get_lt hk
  have hb := h v (List.mem_of_getElem? hv)
  have hil := itoa_len hb.1 hb.2
  have hjl := join_le (c := [44]) (L := 21) ((vs.take k).map Lib.itoa) (fun x hx => by
    obtain ⟨v, hv, rfl⟩ := List.mem_map.1 hx
    have := h v (List.mem_of_mem_take hv)
    exact itoa_len this.1 this.2)
  rw [List.length_map] at hjl
  have hjl : (Lib.join ((vs.take k).map Lib.itoa) [44]).length ≤ 100000 * 22 := Nat.le_trans hjl (Nat.mul_le_mul (by rw [List.length_take]; omega) (Nat.le_refl _))
  dsimp only
  rw [List.take_add_one, hv, List.map_append]
  rw [show (some v).toList.map Lib.itoa = [Lib.itoa v] from rfl, join_snoc]
  generalize hg : Lib.join ((vs.take k).map Lib.itoa) [44] = j at hjl ⊢
  refine Ev.ite_t (decide_eq_true (by omega)) (Ev.join ?_)
  by_cases hk0 : k = 0
  · subst hk0
    rw [if_pos (by simp)]
    have hj : j = [] := by rw [← hg]; simp [Lib.join_nil]
    refine Ev.ite_f (by simp) (Ev.bindc (idx_at hv) (Ev.bind (dec_ref hb.1 hb.2) (Ev.bindc (cat_ev (by omega)) (Ev.const ?_))))
    rw [hj, W_succ hk (by omega)]; rfl
  · rw [if_neg (by intro e; have h3 := congrArg List.length e; rw [List.length_map, List.length_take, List.length_nil] at h3; omega)]
    refine Ev.ite_t (decide_eq_true (by omega)) (Ev.bindc (cat_ev (by simp; omega)) (Ev.bindc (idx_at hv) (Ev.bind (dec_ref hb.1 hb.2) (Ev.bindc (cat_ev (by simp; omega)) (Ev.const ?_)))))
    rw [W_succ hk (by omega)]
theorem joined_law {vs : List Int} {c : UInt8} (hl : vs.length ≤ 100000) (h : ∀ v ∈ vs, -1000000000000000 ≤ v ∧ v ≤ 1000000000000000) : Ev (fun m => impl_joined_m m vs [c]) (Lib.join (vs.map Lib.itoa) [c]) := by
  unfold impl_joined_m
  have hjl := join_le (c := [c]) (L := 21) (vs.map Lib.itoa) (fun x hx => by
    obtain ⟨v, hv, rfl⟩ := List.mem_map.1 hx
    have := h v hv
    exact itoa_len this.1 this.2)
  rw [List.length_map] at hjl
  simp at hjl
  refine Ev.bindc (mks_ok (by omega)) (Ev.bind (fill_iter (f := Lib.itoa) (to' := impl_Decimal_m) (a := vs) (z := ([] : Str)) (fun x hx => Ev.const' fun m => by
    have := h x hx
    exact dec_m (by omega) (by omega)) (by omega)).ev (Ev.const' fun m => ?_))
  rw [ctl_l]
  unfold strings_Join_m
  rw [if_pos ⟨by simp; omega, by omega⟩]
  rfl
theorem listOk_ev {vs : List Int} (hl : vs.length ≤ maxLen) : Ev (fun m => impl_listOk_m m vs) (listP vs) := by
  unfold impl_listOk_m listP
  by_cases h : vs.length ≤ 64
  · rw [decide_eq_true h, Bool.true_and]
    refine Ev.bind (a := vs.all val12) (Ev.ite_t (decide_eq_true (by omega)) (Ev.bind (a := !(vs.all val12)) ?_ (Ev.const (by rw [Bool.not_not])))) (Ev.pure _)
    have := contains_loop hl (f := fun m z => impl_listOk_1_m m z) (ok := val12) (fun x _ => Ev.const' fun m => by
      unfold impl_listOk_1_m
      simp only [within_eq, Option.bind_some]
      rfl)
    unfold slices_ContainsFunc__int64_int64_m slices_IndexFunc__int64_int64_m
    exact this
  · rw [decide_eq_false h, Bool.false_and]
    exact Ev.bind (a := false) (Ev.ite_f (by simp; omega) (Ev.pure _)) (Ev.pure _)
theorem lstT_impl {vs : List Int} (hl : vs.length ≤ maxLen) : Ev (fun m => impl_ListText_m m vs) (if listP vs = true then lstT vs else []) := by
  unfold impl_ListText_m
  refine Ev.bind (listOk_ev hl) ?_
  cases hp : listP vs
  · exact Ev.ite_t rfl (Ev.pure _)
  · refine Ev.ite_f (by simp) ?_
    unfold listP at hp
    simp only [Bool.and_eq_true, decide_eq_true_eq, List.all_eq_true] at hp
    rw [if_pos rfl]
    unfold lstT
    by_cases h0 : vs = []
    · rw [if_pos h0]
      subst h0
      exact Ev.ite_t (by simp) (Ev.pure _)
    · rw [if_neg h0]
      have hne : ¬ ((vs.length : Int) == 0) = true := by
        intro e
        exact h0 (List.eq_nil_of_length_eq_zero (by have := beq_iff_eq.1 e; omega))
      refine Ev.ite_f hne (Ev.bind (joined_law (by omega) fun v hv => ?_) (Ev.pure _))
      have := val12_iff.1 (hp.2 v hv)
      omega
theorem lstT_len {vs : List Int} (hp : listP vs = true) : (lstT vs).length ≤ 1408 := by
  unfold listP at hp
  simp only [Bool.and_eq_true, decide_eq_true_eq, List.all_eq_true] at hp
  unfold lstT
  split
  · simp
  · have := join_le (c := [44]) (L := 21) (vs.map Lib.itoa) (fun x hx => by
      obtain ⟨v, hv, rfl⟩ := List.mem_map.1 hx
      have := val12_iff.1 (hp.2 v hv)
      exact itoa_len (by omega) (by omega))
    rw [List.length_map] at this
    simp at this
    omega
def in120 (n : Int) : Bool := decide (0 ≤ n) && decide (n ≤ 120)
def rowP (r : List Int) : Bool := (decide (r.length = 2) || decide (r.length = 4)) && r.all in120
def proofP (a : Timpl_Proof) : Bool := decide (a.2.length ≤ 120) && a.2.all rowP
def headT (b : Bool) : Str := if b = true then [116, 114, 117, 101] else [102, 97, 108, 115, 101]
def proofT (a : Timpl_Proof) : Str := Lib.join (headT a.1 :: a.2.map lstT) [10]
theorem rowP_list {r : List Int} (h : rowP r = true) : listP r = true ∧ (r.length = 2 ∨ r.length = 4) := by
  unfold rowP at h
  simp only [Bool.and_eq_true, Bool.or_eq_true, decide_eq_true_eq, List.all_eq_true] at h
  refine ⟨?_, h.1⟩
  unfold listP
  rw [decide_eq_true (show r.length ≤ 64 by omega), Bool.true_and, List.all_eq_true]
  intro v hv
  have := h.2 v hv
  unfold in120 at this
  simp at this
  exact val12_iff.2 (by omega)
theorem rows_ref {a : Timpl_Proof} (hl : BII a.2) : Ev (fun m => spec_l24Fits_m m a) (proofP a) := by
  obtain ⟨hl, g⟩ := hl
  unfold spec_l24Fits_m
  refine Ev.bind (EvI.all a.2.length (okOf rowP a.2) false (fun k hk hok => ?_) (fun k hk hok => ?_) (Ev.ite_f (by simp) (Ev.pure _))).ev (Ev.const ?_)
  · obtain ⟨x, hx⟩ := get_lt hk
    have hgx := g x (List.mem_of_getElem? hx)
    rw [okOf_at hx] at hok
    obtain ⟨_, h24⟩ := rowP_list hok
    have hin : x.all in120 = true := by
      unfold rowP at hok
      simp only [Bool.and_eq_true] at hok
      exact hok.2
    refine Ev.ite_t (decide_eq_true (by omega)) (Ev.bindc (idx_at hx) (Ev.bindc (a := false) ?_ (Ev.ite_f (by simp) (Ev.bind (a := Sum.inl ()) ?_ (Ev.const (by rw [ctl_l, W_succ hk (by omega)]))))))
    · by_cases h2 : x.length = 2
      · rw [if_neg (by simp [h2])]
      · rw [if_pos (by simp; omega), idx_at hx, Option.bind_some]
        have h4 : x.length = 4 := by omega
        simp [h4]
    · refine (EvI.all x.length (okOf in120 x) false (fun j hj hj' => ?_) (fun j hj hj' => ?_) ?_).ev.eq ?_
      · obtain ⟨v, hv⟩ := get_lt hj
        rw [okOf_at hv] at hj'
        refine Ev.bindc (idx_at hx) (Ev.ite_t (decide_eq_true (by omega)) (Ev.bindc (idx_at hx) (Ev.bindc (idx_at hv) (Ev.bind (Ev.const' fun m => l00In_eq) (Ev.ite_f ?_ (Ev.const (by rw [W_succ hj (by omega)])))))))
        unfold in120 at hj'
        rw [hj']; simp
      · obtain ⟨v, hv⟩ := get_lt hj
        rw [okOf_at hv] at hj'
        refine Ev.bindc (idx_at hx) (Ev.ite_t (decide_eq_true (by omega)) (Ev.bindc (idx_at hx) (Ev.bindc (idx_at hv) (Ev.bind (Ev.const' fun m => l00In_eq) (Ev.ite_t ?_ (Ev.pure _))))))
        unfold in120 at hj'
        rw [hj']; simp
      · exact Ev.bindc (idx_at hx) (Ev.ite_f (by simp) (Ev.pure _))
      · rw [okOf_all, if_pos hin]
  · obtain ⟨x, hx⟩ := get_lt hk
    have hgx := g x (List.mem_of_getElem? hx)
    rw [okOf_at hx] at hok
    by_cases h24 : x.length = 2 ∨ x.length = 4
    · have hin : x.all in120 = false := by
        unfold rowP at hok
        rw [← Bool.not_eq_true] at hok ⊢
        intro h
        refine hok ?_
        rw [h, Bool.and_true, Bool.or_eq_true]
        rcases h24 with h | h <;> simp [h]
      refine Ev.ite_t (decide_eq_true (by omega)) (Ev.bindc (idx_at hx) (Ev.bindc (a := false) ?_ (Ev.ite_f (by simp) (Ev.bind (a := Sum.inr false) ?_ (Ev.const rfl)))))
      · by_cases h2 : x.length = 2
        · rw [if_neg (by simp [h2])]
        · rw [if_pos (by simp; omega), idx_at hx, Option.bind_some]
          have h4 : x.length = 4 := by omega
          simp [h4]
      · refine (EvI.all x.length (okOf in120 x) false (fun j hj hj' => ?_) (fun j hj hj' => ?_) ?_).ev.eq ?_
        · obtain ⟨v, hv⟩ := get_lt hj
          rw [okOf_at hv] at hj'
          refine Ev.bindc (idx_at hx) (Ev.ite_t (decide_eq_true (by omega)) (Ev.bindc (idx_at hx) (Ev.bindc (idx_at hv) (Ev.bind (Ev.const' fun m => l00In_eq) (Ev.ite_f ?_ (Ev.const (by rw [W_succ hj (by omega)])))))))
          unfold in120 at hj'
          rw [hj']; simp
        · obtain ⟨v, hv⟩ := get_lt hj
          rw [okOf_at hv] at hj'
          refine Ev.bindc (idx_at hx) (Ev.ite_t (decide_eq_true (by omega)) (Ev.bindc (idx_at hx) (Ev.bindc (idx_at hv) (Ev.bind (Ev.const' fun m => l00In_eq) (Ev.ite_t ?_ (Ev.pure _))))))
          unfold in120 at hj'
          rw [hj']; simp
        · exact Ev.bindc (idx_at hx) (Ev.ite_f (by simp) (Ev.pure _))
        · rw [okOf_all, if_neg (by rw [hin]; simp)]
    · refine Ev.ite_t (decide_eq_true (by omega)) (Ev.bindc (idx_at hx) (Ev.bindc (a := true) ?_ (Ev.ite_t rfl (Ev.pure _))))
      rw [if_pos (by simp; omega), idx_at hx, Option.bind_some]
      refine congrArg some ?_
      simp; omega
  · rw [okOf_all]
    unfold proofP
    cases a.2.all rowP
    · rw [if_neg (by simp), ctl_r, Bool.and_false]
    · rw [if_pos rfl, ctl_l, Bool.and_true]
      exact congrArg some (decide_eq_decide.2 (by omega))
theorem proof_rows {a : Timpl_Proof} (h : proofP a = true) : a.2.length ≤ 120 ∧ ∀ x ∈ a.2, listP x = true ∧ (x.length = 2 ∨ x.length = 4) := by
  unfold proofP at h
  simp only [Bool.and_eq_true, decide_eq_true_eq, List.all_eq_true] at h
  exact ⟨h.1, fun x hx => rowP_list (h.2 x hx)⟩
theorem headT_len {b : Bool} : (headT b).length ≤ 5 := by cases b <;> simp [headT]
theorem ppre_len {a : Timpl_Proof} (h : proofP a = true) (k : Nat) : (Lib.join (headT a.1 :: (a.2.take k).map lstT) [10]).length ≤ 200000 := by
  obtain ⟨h1, h2⟩ := proof_rows h
  have hj := join_le (c := [10]) (L := 1408) (headT a.1 :: (a.2.take k).map lstT) (fun x hx => by
    rcases List.mem_cons.1 hx with rfl | hx
    · have := headT_len (b := a.1); omega
    · obtain ⟨y, hy, rfl⟩ := List.mem_map.1 hx
      exact lstT_len (h2 y (List.mem_of_mem_take hy)).1)
  rw [List.length_cons, List.length_map] at hj
  have h3 : (a.2.take k).length + 1 ≤ 121 := by rw [List.length_take]; omega
  have h4 := Nat.mul_le_mul h3 (Nat.le_refl (1408 + ([10] : Str).length))
  have h5 : 121 * (1408 + ([10] : Str).length) ≤ 200000 := by decide
  omega
theorem ptext_ref {a : Timpl_Proof} (h : proofP a = true) : Ev (fun m => spec_l24Text_m m a) (proofT a) := by
  obtain ⟨h1, h2⟩ := proof_rows h
  have rest : ∀ b : Bool, b = a.1 → Ev (fun fuel => (iter (fun (s : (Str) × (Int)) => (match s with | (x62, x63) => (if (decide (x63 < (a.2.length : Int))) = true then (idx a.2 x63).bind fun x93 => (spec_l01List_m fuel x93).bind fun x102 => (cat ([10] : Str) x102).bind fun x105 => (cat x62 x105).bind fun x107 => some (.inl (x107, (W (x63 + (1 : Int))))) else some (.inr (.inl (x62)))) : Option (((Str) × (Int)) ⊕ ((Str) ⊕ (Str))))) fuel (headT b, (0 : Int))).bind fun res84 => ctl (β := Str) (ρ := Str) (τ := Str) res84 (fun (x83) => some (x83)) (fun q => some (q))) (proofT a) := by
    intro b hb
    subst hb
    refine Ev.bind (a := Sum.inl (proofT a)) (EvI.ev ?_) (Ev.pure _)
    refine EvI.upto a.2.length (fun k (_ : Unit) => (Lib.join (headT a.1 :: (a.2.take k).map lstT) [10], (k : Int))) (fun _ _ => True) (k := 0) (t := ()) (by simp [Lib.join_one]) (Nat.zero_le _) trivial (fun k _ hk _ => ⟨(), ?_, trivial⟩) (fun _ _ => by
      dsimp only
      exact Ev.ite_f (by simp) (Ev.const (by rw [List.take_length]; rfl)))
    obtain ⟨x, hx⟩ := get_lt hk
    have hp := (h2 x (List.mem_of_getElem? hx)).1
    have hll := lstT_len hp
    have hjl := ppre_len h k
    have hlst : Ev (fun m => spec_l01List_m m x) (lstT x) := by
      unfold listP at hp
      simp only [Bool.and_eq_true, decide_eq_true_eq, List.all_eq_true] at hp
      exact lst_spec (by omega) fun v hv => by have := val12_iff.1 (hp.2 v hv); omega
    dsimp only
    rw [List.take_add_one, hx, List.map_append, ← List.cons_append]
    rw [show (some x).toList.map lstT = [lstT x] from rfl, join_snoc, if_neg (by simp)]
    refine Ev.ite_t (decide_eq_true (by omega)) (Ev.bindc (idx_at hx) (Ev.bind hlst (Ev.bindc (cat_ev (by simp; omega)) (Ev.bindc (cat_ev (by simp only [List.length_append, List.length_cons, List.length_nil]; omega)) (Ev.const ?_)))))
    rw [W_succ hk (by omega), List.append_assoc]
  unfold spec_l24Text_m
  refine Ev.join ?_
  by_cases hb : a.1 = true
  · have := rest true hb.symm
    exact Ev.ite_t hb this
  · have := rest false (by simpa using hb)
    exact Ev.ite_f hb this
theorem ptext_impl {a : Timpl_Proof} (hl : BII a.2) : Ev (fun m => impl_ProofText_m m a) (if proofP a = true then proofT a else []) := by
  have hmx := mx
  obtain ⟨hl, g⟩ := hl
  unfold impl_ProofText_m
  by_cases h120 : 120 < a.2.length
  · refine Ev.eq (r := []) (Ev.ite_t (decide_eq_true (by omega)) (Ev.pure _)) ?_
    rw [if_neg]
    intro h
    have := (proof_rows h).1
    omega
  refine Ev.ite_f (by simp; omega) ?_
  have rest : ∀ xs0 : List Str, xs0 = [headT a.1] → Ev (fun fuel => (iter (fun (s : (List Str) × (Int)) => (match s with | (xs87, x89) => (if (decide (x89 < (a.2.length : Int))) = true then (idx a.2 x89).bind fun x144 => (if ((x144.length : Int) != (2 : Int)) = true then some ((x144.length : Int) != (4 : Int)) else some false).bind fun t151 => (if t151 = true then some true else (slices_ContainsFunc__int64_int64_m fuel x144 (fun (z0 : Int) => impl_ProofText_1_m fuel z0)).bind fun x159 => some x159).bind fun t154 => (if t154 = true then some (.inr (.inr ([] : Str))) else (impl_ListText_m fuel x144).bind fun x165 => (app xs87 [x165]).bind fun x171 => some (.inl (x171, (W (x89 + (1 : Int)))))) else some (.inr (.inl (xs87)))) : Option (((List Str) × (Int)) ⊕ (((List Str)) ⊕ (Str))))) fuel (xs0, (0 : Int))).bind fun res130 => ctl (β := (List Str)) (ρ := Str) (τ := Str) res130 (fun (xs128) => (strings_Join_m fuel xs128 ([10] : Str)).bind fun x137 => some (x137)) (fun q => some (q))) (if proofP a = true then proofT a else []) := by
    intro xs0 hxs0
    subst hxs0
    have hP : proofP a = a.2.all rowP := by unfold proofP; rw [decide_eq_true (show a.2.length ≤ 120 by omega), Bool.true_and]
    refine Exists.elim (EvI.count (β := List Str ⊕ Str) (step := fun fuel (s : (List Str) × (Int)) => (match s with | (xs87, x89) => (if (decide (x89 < (a.2.length : Int))) = true then (idx a.2 x89).bind fun x144 => (if ((x144.length : Int) != (2 : Int)) = true then some ((x144.length : Int) != (4 : Int)) else some false).bind fun t151 => (if t151 = true then some true else (slices_ContainsFunc__int64_int64_m fuel x144 (fun (z0 : Int) => impl_ProofText_1_m fuel z0)).bind fun x159 => some x159).bind fun t154 => (if t154 = true then some (.inr (.inr ([] : Str))) else (impl_ListText_m fuel x144).bind fun x165 => (app xs87 [x165]).bind fun x171 => some (.inl (x171, (W (x89 + (1 : Int)))))) else some (.inr (.inl (xs87)))) : Option (((List Str) × (Int)) ⊕ (((List Str)) ⊕ (Str)))))
      a.2.length (fun k (_ : Unit) => (headT a.1 :: (a.2.take k).map lstT, (k : Int))) (fun k _ => (a.2.take k).all rowP = true)
      (fun r => r = (if proofP a = true then .inl (headT a.1 :: a.2.map lstT) else .inr [])) ?_ ?_ (k := 0) (t := ()) (Nat.zero_le _) (by simp)) (fun res ⟨e1, e2⟩ => ?_)
    · intro k _ hk hI
      obtain ⟨x, hx⟩ := get_lt hk
      have hgx := g x (List.mem_of_getElem? hx)
      have htk : a.2.take (k + 1) = a.2.take k ++ [x] := by rw [List.take_add_one, hx]; rfl
      have hfind : Ev (fun m => slices_ContainsFunc__int64_int64_m m x (fun z0 => impl_ProofText_1_m m z0)) (!(x.all in120)) := by
        have := contains_loop (a := x) (by omega) (f := fun m z => impl_ProofText_1_m m z) (ok := in120) (fun v _ => Ev.const' fun m => by
          unfold impl_ProofText_1_m
          simp only [within_eq, Option.bind_some]
          rfl)
        unfold slices_ContainsFunc__int64_int64_m slices_IndexFunc__int64_int64_m
        exact this
      have hbad : Ev (fun m => (if ((x.length : Int) != (2 : Int)) = true then some ((x.length : Int) != (4 : Int)) else some false).bind fun t151 => (if t151 = true then some true else (slices_ContainsFunc__int64_int64_m m x (fun (z0 : Int) => impl_ProofText_1_m m z0)).bind fun x159 => some x159)) (!(rowP x)) := by
        by_cases h24 : x.length = 2 ∨ x.length = 4
        · have e : rowP x = x.all in120 := by
            unfold rowP
            rcases h24 with h | h <;> simp [h]
          rw [e]
          refine Ev.bindc (a := false) ?_ (Ev.ite_f (by simp) (Ev.bind hfind (Ev.pure _)))
          by_cases h2 : x.length = 2
          · rw [if_neg (by simp [h2])]
          · rw [if_pos (by simp; omega)]
            have h4 : x.length = 4 := by omega
            simp [h4]
        · have e : rowP x = false := by
            unfold rowP
            rw [decide_eq_false (by omega), decide_eq_false (by omega)]; rfl
          rw [e]
          refine Ev.bindc (a := true) ?_ (Ev.ite_t rfl (Ev.pure _))
          rw [if_pos (by simp; omega)]
          refine congrArg some ?_
          simp; omega
      cases hr : rowP x
      · right
        rw [hr] at hbad
        refine ⟨.inr [], Ev.ite_t (decide_eq_true (by omega)) (Ev.bindc (idx_at hx) ?_), ?_⟩
        · obtain ⟨b, hb1, hb2⟩ : ∃ b, (if ((x.length : Int) != (2 : Int)) = true then some ((x.length : Int) != (4 : Int)) else some false) = some b ∧ Ev (fun m => (if b = true then some true else (slices_ContainsFunc__int64_int64_m m x (fun (z0 : Int) => impl_ProofText_1_m m z0)).bind fun x159 => some x159)) true := by
            cases hq : (if ((x.length : Int) != (2 : Int)) = true then some ((x.length : Int) != (4 : Int)) else some false) with
            | none => split at hq <;> cases hq
            | some b =>
              rw [hq] at hbad
              exact ⟨b, rfl, hbad⟩
          exact Ev.bindc hb1 (Ev.bind hb2 (Ev.ite_t rfl (Ev.pure _)))
        · rw [if_neg]
          rw [hP, List.all_eq_true]
          intro h
          rw [h x (List.mem_of_getElem? hx)] at hr
          cases hr
      · left
        rw [hr] at hbad
        obtain ⟨hp, _⟩ := rowP_list hr
        have hlt := lstT_impl (vs := x) (by omega)
        rw [if_pos hp] at hlt
        refine ⟨(), Ev.ite_t (decide_eq_true (by omega)) (Ev.bindc (idx_at hx) ?_), by rw [htk, List.all_append, hI]; simp [hr]⟩
        obtain ⟨b, hb1, hb2⟩ : ∃ b, (if ((x.length : Int) != (2 : Int)) = true then some ((x.length : Int) != (4 : Int)) else some false) = some b ∧ Ev (fun m => (if b = true then some true else (slices_ContainsFunc__int64_int64_m m x (fun (z0 : Int) => impl_ProofText_1_m m z0)).bind fun x159 => some x159)) false := by
          cases hq : (if ((x.length : Int) != (2 : Int)) = true then some ((x.length : Int) != (4 : Int)) else some false) with
          | none => split at hq <;> cases hq
          | some b =>
            rw [hq] at hbad
            exact ⟨b, rfl, hbad⟩
        refine Ev.bindc hb1 (Ev.bind hb2 (Ev.ite_f (by simp) (Ev.bind hlt (Ev.bindc (app_ok (by rw [List.length_cons, List.length_map, List.length_take]; simp; omega)) (Ev.const ?_)))))
        rw [W_succ hk (by omega), htk, List.map_append]
        rfl
    · intro _ hI
      rw [List.take_length] at hI
      refine ⟨.inl (headT a.1 :: a.2.map lstT), Ev.ite_f (by simp) (Ev.const (by rw [List.take_length])), ?_⟩
      rw [if_pos (by rw [hP]; exact hI)]
    · subst e2
      refine Ev.bind e1.ev ?_
      by_cases h : proofP a = true
      · rw [if_pos h, if_pos h]
        have hjl := ppre_len h a.2.length
        rw [List.take_length] at hjl
        show Ev (fun m => (strings_Join_m m (headT a.1 :: a.2.map lstT) ([10] : Str)).bind fun x => some x) _
        refine Ev.bind (a := proofT a) (Ev.const' fun m => ?_) (Ev.pure _)
        unfold strings_Join_m
        rw [if_pos ⟨by simp; omega, by omega⟩]
        rfl
      · rw [if_neg h, if_neg h]
        exact Ev.const rfl
  refine Ev.join ?_
  by_cases hb : a.1 = true
  · refine Ev.ite_t hb (Ev.bindc (a := [102, 97, 108, 115, 101]) rfl (rest _ ?_))
    rw [hb]; rfl
  · refine Ev.ite_f hb (rest _ ?_)
    rw [show a.1 = false from by simpa using hb]; rfl
theorem splitL {m : Nat} {s : Str} (c : UInt8) (hl : s.length < 4294967281) : strings_Split_m m s [c] = some (splitC c s) := by
  unfold strings_Split_m
  have hc : Lib.countB ⟨s.toArray⟩ ⟨([c] : Str).toArray⟩ = Lib.count s [c] := rfl
  have hs1 : (⟨([c] : Str).toArray⟩ : ByteArray).size = 1 := size_sv [c]
  have h3 := Lib.splitB_all ⟨([c] : Str).toArray⟩ (by rw [hs1]; decide) 0 _ ⟨s.toArray⟩ rfl
  have h4 := Lib.countB_le ⟨([c] : Str).toArray⟩ (by rw [hs1]; decide) _ ⟨s.toArray⟩ (Nat.le_refl _)
  have h5 : (⟨s.toArray⟩ : ByteArray).size = s.length := size_sv s
  have h6 := mx
  rw [if_pos ⟨hl, by simp, h3, by omega⟩, Lib.splitB_data]
  exact congrArg some (splitK_eq c s)

theorem splitR {s : Str} (c : UInt8) (hl : s.length < 4294967281) : Ev (fun m => spec_l01Split_m m s (c.toNat : Int)) (splitC c s) := by
  have hm := mx
  unfold spec_l01Split_m
  refine Exists.elim (EvI.count (step := _) s.length (fun k (t : List Str × Nat) => (t.1, (t.2 : Int), (k : Int))) (fun k t => t.2 ≤ k ∧ splitC c (s.take k) = t.1 ++ [(s.take k).drop t.2])
    (fun r => ∃ (o : List Str) (f : Nat), r = .inl (o, (f : Int)) ∧ f ≤ s.length ∧ splitC c s = o ++ [s.drop f]) ?_ ?_ (k := 0) (t := ([], 0)) (Nat.zero_le _) ⟨Nat.le_refl _, rfl⟩)
    (fun res ⟨h1, o, f, h2, h3, h4⟩ => Ev.bind h1.ev (by
      subst h2
      have hlen : o.length ≤ s.length + 1 := by
        have := splitC_len c s
        rw [h4] at this
        simp at this
        omega
      rw [h4]
      have hs : sub s (f : Int) (s.length : Int) = some (s.drop f) := by rw [sub_ok h3 (Nat.le_refl _), List.take_length]
      exact Ev.bindc hs (Ev.bindc (app_ok (by simp; omega)) (Ev.pure _))))
  · rintro k ⟨o, f⟩ hk ⟨hf, hI⟩
    have hf : f ≤ k := hf
    have hI : splitC c (s.take k) = o ++ [(s.take k).drop f] := hI
    obtain ⟨b, hb⟩ := get_lt hk
    have hk' : decide ((k : Int) < (s.length : Int)) = true := by simpa using hk
    have htk : s.take (k + 1) = s.take k ++ [b] := by rw [List.take_add_one, hb]; rfl
    left
    by_cases h : b = c
    · subst h
      have hlen : o.length ≤ s.length := by
        have := splitC_len b (s.take k)
        rw [hI] at this
        simp at this
        omega
      refine ⟨(o ++ [(s.take k).drop f], k + 1), Ev.ite_t hk' (Ev.join (Ev.bindc (idx_at hb) (Ev.ite_t (by simp) (Ev.bindc (sub_ok hf (by omega)) (Ev.bindc (app_ok (by simp; omega)) (Ev.const ?_)))))), Nat.le_refl _, ?_⟩
      · rw [W_succ hk (by omega)]
      · show splitC b (s.take (k + 1)) = _
        rw [htk, splitC_snoc_eq, hI]
        congr 2
        rw [List.drop_eq_nil_of_le (by simp; omega)]
    · refine ⟨(o, f), Ev.ite_t hk' (Ev.join (Ev.bindc (idx_at hb) (Ev.ite_f ?_ (Ev.const ?_)))), by show f ≤ k + 1; omega, ?_⟩
      · intro g
        have := beq_iff_eq.1 g
        exact h (UInt8.toNat_inj.1 (show b.toNat = c.toNat by omega))
      · rw [W_succ hk (by omega)]
      · show splitC c (s.take (k + 1)) = o ++ [(s.take (k + 1)).drop f]
        rw [htk, splitC_snoc_ne h _ _ _ hI, List.drop_append_of_le_length (by simp; omega)]
  · rintro ⟨o, f⟩ ⟨hf, hI⟩
    refine ⟨_, Ev.ite_f (by simp) (Ev.pure _), o, f, rfl, hf, ?_⟩
    rw [List.take_length] at hI
    exact hI

theorem splitC_piece (c : UInt8) : ∀ (s : Str) (w : Str), w ∈ splitC c s → w.length ≤ s.length
  | [], w, h => by
    have : w ∈ [([] : Str)] := h
    have : w = [] := by simpa using this
    subst this; simp
  | a :: r, w, h => by
    unfold splitC at h
    split at h
    · rcases List.mem_cons.1 h with rfl | h
      · simp
      · have := splitC_piece c r w h
        simp; omega
    · rcases snoc_or (splitC c r) with hr | ⟨o', l', hr⟩
      · exact absurd hr (splitC_ne c r)
      · cases hq : splitC c r with
        | nil => exact absurd hq (splitC_ne c r)
        | cons x t =>
          rw [hq] at h
          simp only [List.headD_cons, List.tail_cons] at h
          have hx := splitC_piece c r x (by rw [hq]; simp)
          rcases List.mem_cons.1 h with rfl | h
          · simp; omega
          · have := splitC_piece c r w (by rw [hq]; simp [h])
            simp; omega

/-- A list read. -/
def readL (s : Str) : List Int × Bool :=
  if s = [45] then ([], true) else
  if (splitC 44 s).all numB = true ∧ listP ((splitC 44 s).map numV) = true then ((splitC 44 s).map numV, true) else ([], false)
theorem readL_impl {s : Str} (hl : s.length ≤ 1048576) : Ev (fun m => impl_ReadList_m m s) (readL s) := by
  have hmx := mx
  have hsl := splitC_len 44 s
  unfold impl_ReadList_m readL
  by_cases h : s = [45]
  · rw [if_pos h]
    exact Ev.ite_t (by rw [h]; rfl) (Ev.pure _)
  rw [if_neg h]
  refine Ev.ite_f (by simpa using h) (Ev.bind (Ev.const' fun m => splitL 44 (by omega)) (Ev.bind (read_nums (by omega) fun w hw => by have := splitC_piece 44 s w hw; omega) ?_))
  by_cases h1 : (splitC 44 s).all numB = true
  · rw [if_pos h1]
    have hlo := listOk_ev (vs := (splitC 44 s).map numV) (by simp; omega)
    refine Ev.bind (a := !(listP ((splitC 44 s).map numV))) (Ev.ite_f (by simp) (Ev.bind hlo (Ev.pure _))) ?_
    cases h2 : listP ((splitC 44 s).map numV)
    · exact Ev.eq (r := ([], false)) (Ev.ite_t rfl (Ev.pure _)) (if_neg (fun q => by cases q.2)).symm
    · exact Ev.eq (r := ((splitC 44 s).map numV, true)) (Ev.ite_f (by simp) (Ev.pure _)) (if_pos ⟨h1, rfl⟩).symm
  · rw [if_neg h1, if_neg (fun q => h1 q.1)]
    exact Ev.bind (a := true) (Ev.ite_t rfl (Ev.pure _)) (Ev.ite_t rfl (Ev.pure _))
theorem readL_spec {s : Str} (hl : s.length ≤ 1048576) : Ev (fun m => spec_ReadList_m m s) (readL s) := by
  have hmx := mx
  have hsl := splitC_len 44 s
  unfold spec_ReadList_m readL
  by_cases h : s = [45]
  · rw [if_pos h]
    exact Ev.ite_t (by rw [h]; rfl) (Ev.pure _)
  rw [if_neg h]
  refine Ev.ite_f (by simpa using h) (Ev.bind (splitR 44 (by omega)) ?_)
  by_cases h64 : 64 < (splitC 44 s).length
  · refine Ev.eq (r := ([], false)) (Ev.ite_t (decide_eq_true (by omega)) (Ev.pure _)) ?_
    rw [if_neg]
    rintro ⟨_, h2⟩
    unfold listP at h2
    simp only [Bool.and_eq_true, decide_eq_true_eq, List.length_map] at h2
    omega
  refine Ev.ite_f (by simp; omega) ?_
  have hpc := splitC_piece 44 s
  generalize splitC 44 s = ws at *
  have hA : ((ws.all numB = true ∧ listP (ws.map numV) = true) ↔ ws.all (fun w => numB w && val12 (numV w)) = true) := by
    unfold listP
    simp only [List.length_map, Bool.and_eq_true, decide_eq_true_eq, List.all_eq_true, List.mem_map, forall_exists_index, and_imp, forall_apply_eq_imp_iff₂]
    constructor
    · rintro ⟨a, _, b⟩ w hw; exact ⟨a w hw, b w hw⟩
    · intro q; exact ⟨fun w hw => (q w hw).1, by omega, fun w hw => (q w hw).2⟩
  refine Exists.elim (EvI.count (β := List Int ⊕ (List Int × Bool)) (step := _) ws.length (fun k (_ : Unit) => ((ws.take k).map numV, (k : Int))) (fun k _ => (ws.take k).all (fun w => numB w && val12 (numV w)) = true)
    (fun r => r = (if ws.all (fun w => numB w && val12 (numV w)) = true then .inl (ws.map numV) else .inr ([], false))) ?_ ?_ (k := 0) (t := ()) (Nat.zero_le _) (by simp)) (fun res ⟨e1, e2⟩ => Ev.bind e1.ev ?_)
  · intro k _ hk hI
    obtain ⟨w, hw⟩ := get_lt hk
    have hwl := hpc w (List.mem_of_getElem? hw)
    have htk : ws.take (k + 1) = ws.take k ++ [w] := by rw [List.take_add_one, hw]; rfl
    have hns := num_spec (w := w) (by omega)
    have hbad : Ev (fun m => (if (!(numV w, numB w).2) = true then some true else (spec_l00In_m m (numV w, numB w).1 (-1000000000000 : Int) (1000000000000 : Int)).bind fun x142 => some (!x142))) (!(numB w && val12 (numV w))) := by
      cases hb : numB w
      · exact Ev.ite_t rfl (Ev.pure _)
      · refine Ev.ite_f (by simp) (Ev.bind (Ev.const' fun m => l00In_eq) (Ev.const ?_))
        unfold val12; simp
    cases hr : (numB w && val12 (numV w))
    · right
      rw [hr] at hbad
      refine ⟨.inr ([], false), Ev.ite_t (decide_eq_true (by omega)) (Ev.bindc (idx_at hw) (Ev.bind hns (Ev.bind hbad (Ev.ite_t rfl (Ev.pure _))))), ?_⟩
      rw [if_neg]
      intro q
      rw [List.all_eq_true] at q
      rw [q w (List.mem_of_getElem? hw)] at hr
      cases hr
    · left
      rw [hr] at hbad
      refine ⟨(), Ev.ite_t (decide_eq_true (by omega)) (Ev.bindc (idx_at hw) (Ev.bind hns (Ev.bind hbad (Ev.ite_f (by simp) (Ev.bindc (app_ok (by rw [List.length_map, List.length_take]; simp; omega)) (Ev.const ?_)))))), by rw [htk, List.all_append, hI]; simp [hr]⟩
      rw [W_succ hk (by omega), htk, List.map_append]
      rfl
  · intro _ hI
    rw [List.take_length] at hI
    exact ⟨.inl (ws.map numV), Ev.ite_f (by simp) (Ev.const (by rw [List.take_length])), by rw [if_pos hI]⟩
  · subst e2
    by_cases q : ws.all (fun w => numB w && val12 (numV w)) = true
    · rw [if_pos q, if_pos (hA.2 q)]; exact Ev.const rfl
    · rw [if_neg q, if_neg (fun z => q (hA.1 z))]; exact Ev.const rfl
theorem readL_ok {s : Str} (h : (readL s).2 = true) : listP (readL s).1 = true := by
  unfold readL at h ⊢
  split
  · decide
  · rename_i h1
    rw [if_neg h1] at h
    split
    · rename_i h2; exact h2.2
    · rename_i h2; rw [if_neg h2] at h; cases h
theorem readers {α β ρ : Type} {step : Nat → List β × Int → Option ((List β × Int) ⊕ (List β ⊕ ρ))} {s0 : List β × Int} (l : List α) (j : Nat → Int) (ok : α → Bool) (g : α → β) (bad : ρ) (h0 : s0 = ([], j 0))
    (hgo : ∀ (k : Nat) (x : α) (xs : List β), k < l.length → l[k]? = some x → xs.length = k → ok x = true → Ev (fun m => step m (xs, j k)) (.inl (xs ++ [g x], j (k + 1))))
    (hbad : ∀ (k : Nat) (x : α) (xs : List β), k < l.length → l[k]? = some x → xs.length = k → ok x = false → Ev (fun m => step m (xs, j k)) (.inr (.inr bad)))
    (hend : ∀ xs, Ev (fun m => step m (xs, j l.length)) (.inr (.inl xs))) : EvI step s0 (if l.all ok = true then .inl (l.map g) else .inr bad) := by
  subst h0
  refine Exists.elim (EvI.count (step := step) l.length (fun k (_ : Unit) => ((l.take k).map g, j k)) (fun k _ => (l.take k).all ok = true)
    (fun r => r = (if l.all ok = true then .inl (l.map g) else .inr bad)) ?_ ?_ (k := 0) (t := ()) (Nat.zero_le _) (by simp)) (fun res ⟨e1, e2⟩ => by subst e2; exact e1)
  · intro k _ hk hI
    obtain ⟨x, hx⟩ := get_lt hk
    have htk : l.take (k + 1) = l.take k ++ [x] := by rw [List.take_add_one, hx]; rfl
    have hl : ((l.take k).map g).length = k := by rw [List.length_map, List.length_take]; omega
    cases hr : ok x
    · right
      refine ⟨_, hbad k x _ hk hx hl hr, ?_⟩
      rw [if_neg]
      intro q
      rw [List.all_eq_true] at q
      rw [q x (List.mem_of_getElem? hx)] at hr
      cases hr
    · left
      refine ⟨(), (hgo k x _ hk hx hl hr).eq ?_, by rw [htk, List.all_append, hI]; simp [hr]⟩
      rw [htk, List.map_append]
      rfl
  · intro _ hI
    rw [List.take_length] at hI
    exact ⟨_, hend _, by rw [if_pos hI, List.take_length]⟩
def rdProof (s : Str) : Timpl_Proof := (((splitC 10 s).headD [] == [116, 114, 117, 101]), (splitC 10 s).tail.map fun w => (readL w).1)
def rdPok (s : Str) : Bool := ((splitC 10 s).tail.all fun w => (readL w).2) && proofP (rdProof s) && (proofT (rdProof s) == s)
def readPr (s : Str) : Timpl_Proof × Bool := if rdPok s = true then (rdProof s, true) else ((false, []), false)
def prOf (w0 : Str) (ws : List Str) : Timpl_Proof := ((w0 == ([116, 114, 117, 101] : Str)), ws.map fun w => (readL w).1)
theorem readPr_cons {s w0 : Str} {ws : List Str} (h : splitC 10 s = w0 :: ws) : readPr s = if ((ws.all fun w => (readL w).2) && proofP (prOf w0 ws) && (proofT (prOf w0 ws) == s)) = true then (prOf w0 ws, true) else ((false, []), false) := by
  unfold readPr rdPok rdProof
  rw [h]
  rfl
theorem rdPr_cons {s w0 : Str} {ws : List Str} (h : splitC 10 s = w0 :: ws) : rdProof s = prOf w0 ws := by
  unfold rdProof
  rw [h]
  rfl
theorem proofT_ne (a : Timpl_Proof) : proofT a ≠ [] := by
  unfold proofT
  rw [Lib.join_cons]
  intro h
  have := congrArg List.length h
  rw [List.length_append] at this
  cases ha : a.1 <;> simp [headT, ha] at this
theorem rdP_bii {s : Str} (hl : s.length ≤ 1048576) (h : ((splitC 10 s).tail.all fun w => (readL w).2) = true) : BII (rdProof s).2 := by
  have hsl := splitC_len 10 s
  refine ⟨?_, fun x hx => ?_⟩
  · show ((splitC 10 s).tail.map _).length ≤ _
    rw [List.length_map, List.length_tail]; omega
  · obtain ⟨w, hw, rfl⟩ := List.mem_map.1 hx
    have := readL_ok (List.all_eq_true.1 h w hw)
    unfold listP at this
    simp only [Bool.and_eq_true, decide_eq_true_eq] at this
    omega
theorem rp_impl {s : Str} (hl : s.length ≤ 1048576) : Ev (fun m => impl_ReadProof_m m s) (readPr s) := by
  have hsl := splitC_len 10 s
  have hpc := splitC_piece 10 s
  unfold impl_ReadProof_m
  refine Ev.bind (Ev.const' fun m => splitL 10 (by omega)) ?_
  have hB := rdP_bii hl
  cases hw : splitC 10 s with
  | nil => exact absurd hw (splitC_ne 10 s)
  | cons w0 ws =>
    rw [readPr_cons hw]
    rw [rdPr_cons hw] at hB
    rw [hw] at hsl hpc hB
    have hB : (ws.all fun w => (readL w).2) = true → BII (prOf w0 ws).2 := hB
    rw [List.length_cons] at hsl
    refine Ev.bindc (idx_at (k := 0) (x := w0) rfl) (Ev.bindc (a := ws) ?_ (Ev.bind (readers (ρ := Timpl_Proof × Bool) ws (fun k => (k : Int)) (fun w => (readL w).2) (fun w => (readL w).1) ((false, []), false) rfl (fun k w xs hk hw hx hr => ?_) (fun k w xs hk hw hx hr => ?_) (fun xs => Ev.ite_f (by simp) (Ev.pure _))).ev ?_))
    · have := sub_ok (xs := w0 :: ws) (lo := 1) (hi := (w0 :: ws).length) (by simp) (Nat.le_refl _)
      rw [List.take_length] at this
      exact this
    · have hwl := hpc w (List.mem_cons_of_mem _ (List.mem_of_getElem? hw))
      refine Ev.ite_t (decide_eq_true (by omega)) (Ev.bindc (idx_at hw) (Ev.bind (readL_impl (by omega)) (Ev.ite_f (by rw [hr]; simp) (Ev.bindc (app_ok (by simp; omega)) (Ev.const ?_)))))
      rw [W_succ hk (by omega)]
    · have hwl := hpc w (List.mem_cons_of_mem _ (List.mem_of_getElem? hw))
      exact Ev.ite_t (decide_eq_true (by omega)) (Ev.bindc (idx_at hw) (Ev.bind (readL_impl (by omega)) (Ev.ite_t (by rw [hr]; rfl) (Ev.pure _))))
    · by_cases hA : (ws.all fun w => (readL w).2) = true
      rotate_left
      · rw [if_neg hA, if_neg (by simp only [Bool.and_eq_true]; exact fun q => hA q.1.1)]
        exact Ev.const rfl
      · rw [if_pos hA, hA]
        have hBB := hB hA
        have ht := ptext_impl (a := ((w0 == ([116, 114, 117, 101] : Str)), ws.map fun w => (readL w).1)) hBB
        show Ev (fun m => (impl_ProofText_m m ((w0 == ([116, 114, 117, 101] : Str)), ws.map fun w => (readL w).1)).bind fun x123 => (if (x123 == ([] : Str)) = true then some true else some (x123 != s)).bind fun t126 => (if t126 = true then some (((false, []), false)) else some ((((w0 == ([116, 114, 117, 101] : Str)), ws.map fun w => (readL w).1), true)))) _
        show Ev (fun m => _) (if (true && proofP (prOf w0 ws) && (proofT (prOf w0 ws) == s)) = true then (prOf w0 ws, true) else ((false, []), false))
        rw [Bool.true_and]
        change Ev _ _ at ht
        have hpe : prOf w0 ws = ((w0 == ([116, 114, 117, 101] : Str)), ws.map fun w => (readL w).1) := rfl
        rw [← hpe] at ht ⊢
        generalize prOf w0 ws = p at ht ⊢
        refine Ev.bind ht ?_
        cases hp : proofP p
        · exact Ev.const (by simp)
        · have hne := proofT_ne p
          refine Ev.const ?_
          rw [if_pos rfl, if_neg (by simpa using hne)]
          by_cases he : proofT p = s
          · simp [he]
          · simp [he]
theorem rp_spec {s : Str} (hl : s.length ≤ 1048576) : Ev (fun m => spec_ReadProof_m m s) (readPr s) := by
  have hsl := splitC_len 10 s
  have hpc := splitC_piece 10 s
  unfold spec_ReadProof_m
  refine Ev.bind (splitR 10 (by omega)) ?_
  have hB := rdP_bii hl
  cases hw : splitC 10 s with
  | nil => exact absurd hw (splitC_ne 10 s)
  | cons w0 ws =>
    rw [readPr_cons hw]
    rw [rdPr_cons hw] at hB
    rw [hw] at hsl hpc hB
    have hB : (ws.all fun w => (readL w).2) = true → BII (prOf w0 ws).2 := hB
    rw [List.length_cons] at hsl
    refine Ev.bindc (idx_at (k := 0) (x := w0) rfl) ?_
    by_cases h121 : 121 < (w0 :: ws).length
    · refine Ev.eq (r := ((false, []), false)) (Ev.ite_t (decide_eq_true (by omega)) (Ev.pure _)) ?_
      refine Eq.symm (if_neg fun q => ?_)
      simp only [Bool.and_eq_true] at q
      rw [show (prOf w0 ws) = ((prOf w0 ws).1, (prOf w0 ws).2) from rfl] at q
      have := (proof_rows q.1.2).1
      have he : (prOf w0 ws).2.length = ws.length := List.length_map _
      simp at this h121
      omega
    refine Ev.ite_f (by simp only [decide_eq_true_eq]; omega) ?_
    rw [List.length_cons] at h121
    refine (Ev.bind (readers (ρ := Timpl_Proof × Bool) ws (fun k => ((k + 1 : Nat) : Int)) (fun w => (readL w).2) (fun w => (readL w).1) ((false, []), false) rfl (fun k w xs hk hw hx hr => ?_) (fun k w xs hk hw hx hr => ?_) (fun xs => Ev.ite_f (by simp) (Ev.pure _))).ev ?_)
    · have hwl := hpc w (List.mem_cons_of_mem _ (List.mem_of_getElem? hw))
      have hw' : (w0 :: ws)[k + 1]? = some w := hw
      refine Ev.ite_t (decide_eq_true (by rw [List.length_cons]; omega)) (Ev.bindc (idx_at hw') (Ev.bind (readL_spec (by omega)) (Ev.ite_f (by rw [hr]; simp) (Ev.bindc (app_ok (by simp; omega)) (Ev.const ?_)))))
      rw [W_of (by omega) (by omega)]
      rfl
    · have hwl := hpc w (List.mem_cons_of_mem _ (List.mem_of_getElem? hw))
      have hw' : (w0 :: ws)[k + 1]? = some w := hw
      exact Ev.ite_t (decide_eq_true (by rw [List.length_cons]; omega)) (Ev.bindc (idx_at hw') (Ev.bind (readL_spec (by omega)) (Ev.ite_t (by rw [hr]; rfl) (Ev.pure _))))
    · by_cases hA : (ws.all fun w => (readL w).2) = true
      rotate_left
      · rw [if_neg hA, if_neg (by simp only [Bool.and_eq_true]; exact fun q => hA q.1.1)]
        exact Ev.const rfl
      · rw [if_pos hA, hA]
        have hBB := hB hA
        have ht := rows_ref (a := ((w0 == ([116, 114, 117, 101] : Str)), ws.map fun w => (readL w).1)) hBB
        show Ev (fun m => (spec_l24Fits_m m ((w0 == ([116, 114, 117, 101] : Str)), ws.map fun w => (readL w).1)).bind fun x124 => (if (!x124) = true then some true else (spec_l24Text_m m ((w0 == ([116, 114, 117, 101] : Str)), ws.map fun w => (readL w).1)).bind fun x132 => some (x132 != s)).bind fun t127 => (if t127 = true then some (((false, []), false)) else some ((((w0 == ([116, 114, 117, 101] : Str)), ws.map fun w => (readL w).1), true)))) _
        show Ev (fun m => _) (if (true && proofP (prOf w0 ws) && (proofT (prOf w0 ws) == s)) = true then (prOf w0 ws, true) else ((false, []), false))
        rw [Bool.true_and]
        change Ev _ _ at ht
        have hpe : prOf w0 ws = ((w0 == ([116, 114, 117, 101] : Str)), ws.map fun w => (readL w).1) := rfl
        rw [← hpe] at ht ⊢
        generalize prOf w0 ws = p at ht ⊢
        refine Ev.bind ht ?_
        cases hp : proofP p
        · exact Ev.const (by simp)
        · refine Ev.bind (a := (proofT p != s)) (Ev.ite_f (by simp) (Ev.bind (ptext_ref hp) (Ev.pure _))) (Ev.const ?_)
          by_cases he : proofT p = s
          · simp [he]
          · simp [he]
theorem readP_core {s : Str} (hl : s.length ≤ 1048576) : ∃ r, Ev (fun m => spec_ReadProof_m m s) r ∧ Ev (fun m => impl_ReadProof_m m s) r ∧ BII r.1.2 := by
  refine ⟨readPr s, rp_spec hl, rp_impl hl, ?_⟩
  unfold readPr
  by_cases h : rdPok s = true
  · rw [if_pos h]
    unfold rdPok at h
    simp only [Bool.and_eq_true] at h
    exact rdP_bii hl h.1.1
  · rw [if_neg h]
    exact ⟨by simp, fun x hx => by cases hx⟩
set_option maxHeartbeats 4000000 in
theorem law_ReadProof {a : Str} (g_a : (gStr) a) : ∃ n, laws_FnExactReadProof_m n a = some true := by
  have hm : maxLen = 9223372036854775807 := by unfold maxLen; rfl
  refine Ev.one (f := fun n => laws_FnExactReadProof_m n a) ?_
  unfold laws_FnExactReadProof_m
  by_cases B_a : (1048576 : Int) < (a.length : Int)
  · exact Ev.ite_t (decide_eq_true B_a) (Ev.pure _)
  refine Ev.ite_f (by simpa using B_a) ?_
  replace B_a : a.length ≤ 1048576 := by omega
  obtain ⟨r, hs, hi, B_r0⟩ := readP_core B_a
  have eq_r0 := eqB_proof (a := r.1) B_r0
  obtain ⟨k_r0, ys_r0, m_r0, m0_r0, m1_r0, m2_r0⟩ := marksB_proof (k := (1 : Int)) (a := r.1) B_r0 (by omega) (by omega)
  repeat (first
    | exact Ev.pure _
    | refine Ev.bind (by with_reducible assumption) ?_
    | refine Ev.ite_f (by first | (simp; done) | (simp; omega)) ?_
    | refine Ev.bind (Ev.ite_f (by first | (simp; done) | (simp; omega)) (Ev.bind (by with_reducible assumption) (Ev.pure _))) ?_
    | refine Ev.bind (a := false) (Ev.ite_f (by first | (simp; done) | (simp; omega)) (Ev.const (by simp))) ?_
    | refine Ev.bind (a := false) (Ev.ite_f (by first | (simp; done) | (simp; omega)) (Ev.bind (by with_reducible assumption) (Ev.const (by simp)))) ?_
    | refine Ev.bindc (by with_reducible rfl) ?_)
end Go.Proofs.YtepcckhcocjgaaaDoor

