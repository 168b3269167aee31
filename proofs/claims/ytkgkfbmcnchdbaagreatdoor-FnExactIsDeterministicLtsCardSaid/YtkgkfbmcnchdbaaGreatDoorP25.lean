/-
  Statement IsDeterministicLts: the core.
-/
import Derived.Test.YtkgkfbmcnchdbaaGreatDoorF0
import Derived.Test.YtkgkfbmcnchdbaaGreatDoorLIsDeterministicLts
import Derived.Test.YtkgkfbmcnchdbaaGreatDoorPLt
import Derived.Test.YtkgkfbmcnchdbaaGreatDoorPY
namespace Go.Proofs.YtkgkfbmcnchdbaaGreatDoor
open Go.Gx
theorem ibeq_comm (a b : Int) : (a == b) = (b == a) := by
  by_cases h : a = b
  · rw [h]
  · rw [beq_false_of_ne h, beq_false_of_ne (Ne.symm h)]
def condD (es : List Timpl_Edge) (k : Nat) : Bool := match es[k]? with
  | none => false
  | some e => (e.2.1 == 0) || ((decide ((0 : Int) < (k : Int)) && (match es[k - 1]? with | none => false | some p => e.1 == p.1)) && (match es[k - 1]? with | none => false | some p => e.2.1 == p.2.1))
def singleP (es : List Timpl_Edge) : Bool := decide (∀ k, k < es.length → (!condD es k) = true)

theorem single_spec {t : Timpl_Lts} (he : t.2.2.2.length ≤ 1048576) : Ev (fun m => spec_l11Single_m m t) (singleP t.2.2.2) := by
  have hm := mx
  unfold spec_l11Single_m singleP
  refine (Ev.all t.2.2.2.length (fun k => !condD t.2.2.2 k) false true (fun k hk hok => Ev.const' fun m => ?_) (fun k hk hok => Ev.const' fun m => ?_) (Ev.ite_f (by simp) (Ev.pure _))).eq (by split <;> simp_all)
  all_goals
    obtain ⟨e, he'⟩ := get_lt hk
    have hk' : decide ((k : Int) < (t.2.2.2.length : Int)) = true := by simpa using hk
    simp only [Bool.not_eq_true', Bool.not_eq_false'] at hok
    have hc := hok
    unfold condD at hc
    rw [he'] at hc
    cases k with
    | zero =>
      simp only [hk', if_true, idx_at he', Option.bind_some, show decide ((0 : Int) < ((0 : Nat) : Int)) = false from rfl, Bool.false_eq_true, if_false, or_some, W_succ hk (by omega), Bool.false_and, Bool.or_false] at hc ⊢
      rw [hc]
      rfl
    | succ j =>
      obtain ⟨p, hp⟩ := get_lt (xs := t.2.2.2) (k := j) (by omega)
      have w2 := W_pred (k := j) (n := t.2.2.2.length) (by omega) (by omega)
      have hpos : decide ((0 : Int) < ((j + 1 : Nat) : Int)) = true := decide_eq_true (by omega)
      simp only [hp, hk', hpos, if_true, idx_at he', w2, idx_at hp, Option.bind_some, or_some, and_some, W_succ hk (by omega), Nat.add_sub_cancel, Bool.true_and] at hc ⊢
      rw [hc]
      rfl
theorem single_impl {t : Timpl_Lts} (he : t.2.2.2.length ≤ 1048576) :
    Ev (fun fuel => (iter (fun (s : (Int)) => (match s with | (x115) => (if (decide (x115 < (t.2.2.2.length : Int))) = true then (idx t.2.2.2 x115).bind fun x182 => (if (x182.2.1 == (0 : Int)) = true then some true else (if (decide ((0 : Int) < x115)) = true then (idx t.2.2.2 (W (x115 - (1 : Int)))).bind fun x207 => some (x207.1 == x182.1) else some false).bind fun t204 => (if t204 = true then (idx t.2.2.2 (W (x115 - (1 : Int)))).bind fun x223 => some (x223.2.1 == x182.2.1) else some false).bind fun t220 => some t220).bind fun t201 => (if t201 = true then some (.inr (.inr false)) else some (.inl ((W (x115 + (1 : Int)))))) else some (.inr (.inl ()))) : Option (((Int)) ⊕ ((Unit) ⊕ (Bool))))) fuel ((0 : Int))).bind fun res173 => ctl (β := Unit) (ρ := Bool) (τ := Bool) res173 (fun _ => some (true)) (fun q => some (q))) (singleP t.2.2.2) := by
  have hm := mx
  unfold singleP
  refine (Ev.all t.2.2.2.length (fun k => !condD t.2.2.2 k) false true (fun k hk hok => Ev.const' fun m => ?_) (fun k hk hok => Ev.const' fun m => ?_) (Ev.ite_f (by simp) (Ev.pure _))).eq (by split <;> simp_all)
  all_goals
    obtain ⟨e, he'⟩ := get_lt hk
    have hk' : decide ((k : Int) < (t.2.2.2.length : Int)) = true := by simpa using hk
    simp only [Bool.not_eq_true', Bool.not_eq_false'] at hok
    have hc := hok
    unfold condD at hc
    rw [he'] at hc
    cases k with
    | zero =>
      simp only [hk', if_true, idx_at he', Option.bind_some, show decide ((0 : Int) < ((0 : Nat) : Int)) = false from rfl, Bool.false_eq_true, if_false, or_some, W_succ hk (by omega), Bool.false_and, Bool.or_false] at hc ⊢
      rw [hc]
      rfl
    | succ j =>
      obtain ⟨p, hp⟩ := get_lt (xs := t.2.2.2) (k := j) (by omega)
      have w2 := W_pred (k := j) (n := t.2.2.2.length) (by omega) (by omega)
      have hpos : decide ((0 : Int) < ((j + 1 : Nat) : Int)) = true := decide_eq_true (by omega)
      simp only [hp, hk', hpos, if_true, idx_at he', w2, idx_at hp, Option.bind_some, or_some, and_some, W_succ hk (by omega), Nat.add_sub_cancel, Bool.true_and] at hc ⊢
      rw [ibeq_comm p.1, ibeq_comm p.2.1, hc]
      rfl
theorem det_core {a : Tlaws_Lts} (h : BLts a) : ∃ r, Ev (fun n => spec_IsDeterministicLts_m n a) r ∧ Ev (fun n => impl_IsDeterministicLts_m n a) r := by
  have h1 := valid_spec (t := a) h.1 h.2.1 h.2.2
  have h2 := valid_impl (t := a) h.1 h.2.1 h.2.2
  have h3 := single_spec (t := a) h.2.2
  have h4 := single_impl (t := a) h.2.2
  refine ⟨validP a && singleP a.2.2.2, ?_, ?_⟩
  · unfold spec_IsDeterministicLts_m
    refine Ev.bind h1 ?_
    cases validP a
    · exact Ev.const' fun m => rfl
    · exact Ev.bind (Ev.ite_t rfl (Ev.bind h3 (Ev.pure _))) (Ev.const rfl)
  · unfold impl_IsDeterministicLts_m
    refine Ev.bind h2 ?_
    cases validP a
    · exact Ev.const' fun m => rfl
    · exact Ev.ite_f (by simp) h4
end Go.Proofs.YtkgkfbmcnchdbaaGreatDoor
