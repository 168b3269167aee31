/-
  What the game of an equation system is; what is relevant; small loops of the library.
-/
import Derived.Test.YtecknjdlbmmmiaaF0
import Derived.Test.YtecknjdlbmmmiaaF8
import Derived.Test.YtecknjdlbmmmiaaFS
import Derived.Test.YtecknjdlbmmmiaaLDecidedEquations
import Derived.Test.YtecknjdlbmmmiaaP5
import Derived.Test.YtecknjdlbmmmiaaP6
import Derived.Test.YtecknjdlbmmmiaaPV
namespace Go.Proofs.Ytecknjdlbmmmiaa
open Go.Gx

/-! ### the library's small loops -/
theorem truth_eq {n : Nat} {b : Bool} : impl_truth_m n b = some (if b = true then 1 else 0) := by
  unfold impl_truth_m; cases b <;> rfl

theorem mul_small {n : Nat} {x y : Int} (h0 : 0 ≤ x) (h1 : 0 ≤ y) (h2 : x < 18446744073709551616) (h3 : y < 18446744073709551616) (h : x * y < 18446744073709551616) : math_bits_Mul_m n x y = some (0, x * y) := by
  unfold math_bits_Mul_m
  rw [if_pos ⟨h0, h1, h2, h3, h⟩]

theorem u64_of {n : Int} (h0 : 0 ≤ n) (h1 : n < 18446744073709551616) : IntKind.u64.wrap n = n := by
  unfold IntKind.wrap
  simp [IntKind.signed, IntKind.bits]
  omega

theorem rep_loop {c : Int} {k : Nat} (hk : k ≤ 1048576) : ∀ d n, n + d = k → (n = 0 → k = 0) → EvI (β := List Int ⊕ List Int) (fun _ (s : (List Int) × (Int)) => (match s with | (xs57, x58) => (if (decide (x58 < (xs57.length : Int))) = true then (sub xs57 x58 (xs57.length : Int)).bind fun xs81 => (sub xs57 (0 : Int) x58).bind fun xs83 => some (.inl ((cpy xs57 (x58).toNat xs81.length xs83), (W (x58 + (((min xs83.length xs81.length : Nat) : Nat) : Int))))) else some (.inr (.inl (xs57)))) : Option (((List Int) × (Int)) ⊕ (((List Int)) ⊕ ((List Int)))))) (List.replicate n c ++ List.replicate (k - n) 0, (n : Int)) (.inl (List.replicate k c)) := by
  intro d
  induction d using Nat.strongRecOn with
  | _ d ih =>
    intro n hn h0
    have hl : (List.replicate n c ++ List.replicate (k - n) (0 : Int)).length = k := by simp; omega
    by_cases hd : n = k
    · subst hd
      exact EvI.stop (Ev.const (by simp))
    · have hs1 : sub (List.replicate n c ++ List.replicate (k - n) (0 : Int)) (n : Int) (k : Int) = some (List.replicate (k - n) 0) := by
        rw [sub_ok (by omega) (by omega)]
        rw [List.take_of_length_le (by omega), List.drop_left' (by simp)]
      have hs2 : sub (List.replicate n c ++ List.replicate (k - n) (0 : Int)) (0 : Int) (n : Int) = some (List.replicate n c) := by
        have := sub_ok (xs := List.replicate n c ++ List.replicate (k - n) (0 : Int)) (lo := 0) (hi := n) (by omega) (by omega)
        simp only [Int.natCast_zero] at this
        rw [this, List.take_left' (by simp)]; rfl
      have hcp : cpy (List.replicate n c ++ List.replicate (k - n) (0 : Int)) n (k - n) (List.replicate n c) = List.replicate (n + min n (k - n)) c ++ List.replicate (k - (n + min n (k - n))) 0 := by
        unfold cpy
        rw [List.take_left' (by simp), List.length_replicate, List.take_replicate, ← List.drop_drop, List.drop_left' (by simp), List.drop_replicate, ← List.append_assoc, List.replicate_append_replicate]
        congr 2 <;> omega
      refine EvI.go (s' := (List.replicate (n + min n (k - n)) c ++ List.replicate (k - (n + min n (k - n))) 0, ((n + min n (k - n) : Nat) : Int))) (Ev.const ?_) (ih (k - (n + min n (k - n))) (by omega) (n + min n (k - n)) (by omega) (by omega))
      simp only [hl, decide_eq_true (show (n : Int) < (k : Int) by omega), if_true, hs1, hs2, Option.bind_some, List.length_replicate, Int.toNat_natCast, hcp]
      rw [W_of (by omega) (by omega)]; simp

theorem repeat_ints {c : Int} {k : Nat} (hk : k ≤ 1048576) : Ev (fun m => slices_Repeat__int64_int64_m m [c] (k : Int)) (List.replicate k c) := by
  unfold slices_Repeat__int64_int64_m
  have hw : IntKind.u64.wrap ((([c] : List Int).length : Nat) : Int) = 1 := by
    have h1 : ((([c] : List Int).length : Nat) : Int) = 1 := rfl
    rw [h1]
    exact u64_of (by omega) (by omega)
  have hw2 : IntKind.u64.wrap (k : Int) = (k : Int) := u64_of (by omega) (by omega)
  refine Ev.join ?_
  refine Ev.ite_f (by simp) ?_
  refine Ev.bind (a := (0, (k : Int))) (Ev.const' fun m => ?_) ?_
  · rw [hw, hw2, mul_small (by omega) (by omega) (by omega) (by omega) (by omega), Int.one_mul]
  refine Ev.join ?_
  refine Ev.bind (a := false) (Ev.ite_f (by simp) (Ev.const (by simp; omega))) ?_
  refine Ev.ite_f (by simp) ?_
  have hwk : W (k : Int) = (k : Int) := W_of (by omega) (by omega)
  show Ev (fun m => (mks (W (k : Int)) (0 : Int)).bind _) _
  rw [hwk]
  refine Ev.bindc (mks_ok (by omega)) ?_
  have hc0 : cpy (List.replicate k (0 : Int)) ((0 : Int)).toNat k [c] = List.replicate (min 1 k) c ++ List.replicate (k - min 1 k) 0 := by
    unfold cpy
    cases k with
    | zero => rfl
    | succ k => simp [List.replicate_succ]
  simp only [List.length_replicate, hc0, List.length_singleton]
  refine Ev.bind (a := Sum.inl (List.replicate k c)) ?_ (Ev.pure _)
  refine EvI.ev ?_
  exact rep_loop hk (k - min 1 k) (min 1 k) (by omega) (by omega)
end Go.Proofs.Ytecknjdlbmmmiaa
