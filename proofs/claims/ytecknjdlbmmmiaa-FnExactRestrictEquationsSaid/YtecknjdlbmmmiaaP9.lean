/-
  Statement 9 in plain words: the game of an equation system.
-/
import Derived.Test.YtecknjdlbmmmiaaF0
import Derived.Test.YtecknjdlbmmmiaaLGameOf
import Derived.Test.YtecknjdlbmmmiaaPG
namespace Go.Proofs.Ytecknjdlbmmmiaa
open Go.Gx

theorem EvI.tab {β ρ : Type} {step : Nat → List β × Int → Option ((List β × Int) ⊕ (List β ⊕ ρ))} (n : Nat) (f : Nat → β)
    (hs : ∀ k (xs : List β), k < n → xs.length = k → Ev (fun m => step m (xs, (k : Int))) (.inl (xs ++ [f k], ((k + 1 : Nat) : Int)))) (hn : ∀ xs : List β, Ev (fun m => step m (xs, (n : Int))) (.inr (.inl xs))) :
    EvI step ([], 0) (.inl ((List.range n).map f)) := by
  refine EvI.upto n (fun k (_ : Unit) => ((List.range k).map f, (k : Int))) (fun _ _ => True) (k := 0) (t := ()) rfl (Nat.zero_le _) trivial (fun k t hk _ => ⟨(), ?_, trivial⟩) (fun t _ => hn _)
  refine (hs k _ hk (by simp)).eq ?_
  rw [List.range_succ, List.map_append]; rfl

/-- The vertex of an equation. -/
def gv (a : List Timpl_Equation) (k : Nat) : Timpl_Vertex := match a[k]?, a[0]? with
  | some x, some y => (if x.2.1 = true then 1 else 0, ((cnt a (k + 1) : Nat) : Int) + (if y.1 = true then 0 else 1), x.2.2)
  | _, _ => (0, 0, [])
def gameE (a : List Timpl_Equation) : List Timpl_Vertex := (List.range a.length).map (gv a)

theorem game_impl {a : List Timpl_Equation} (hl : a.length ≤ 1048576) (g : ∀ x ∈ a, x.2.2.length ≤ 1048576) (h0 : 0 < a.length) : Ev (fun m => impl_game_m m a) (gameE a) := by
  unfold impl_game_m
  refine Ev.bind (blocks_law hl) (Ev.bind (EvI.tab (step := _) a.length (gv a) (fun k xs hk hx => ?_) (fun xs => Ev.ite_f (by simp) (Ev.pure _))).ev (Ev.pure _))
  obtain ⟨x, hxk⟩ := get_lt hk
  obtain ⟨y, hy⟩ := get_lt h0
  have hy0 : idx a 0 = some y := by simpa using idx_at hy
  have hb : idx ((List.range a.length).map fun k => ((cnt a (k + 1) : Nat) : Int)) (k : Int) = some ((cnt a (k + 1) : Nat) : Int) := idx_at (k := k) (by simp [hk])
  have hc := cnt_le a (k + 1)
  have hgv : gv a k = (if x.2.1 = true then 1 else 0, ((cnt a (k + 1) : Nat) : Int) + (if y.1 = true then 0 else 1), x.2.2) := by simp [gv, hxk, hy]
  have hw : W (((cnt a (k + 1) : Nat) : Int) + (if (!y.1) = true then 1 else 0)) = ((cnt a (k + 1) : Nat) : Int) + (if y.1 = true then 0 else 1) := by
    cases y.1 <;> simp <;> rw [W_of (by omega) (by omega)]
  refine (clone_ints (a := x.2.2) (g x (List.mem_of_getElem? hxk))).use fun m h => ?_
  simp only [decide_eq_true (show (k : Int) < (a.length : Int) by omega), if_true, idx_at hxk, Option.bind_some, truth_eq, hb, hy0, hw, h, app_ok (show xs.length + [(if x.2.1 = true then (1 : Int) else 0, ((cnt a (k + 1) : Nat) : Int) + (if y.1 = true then 0 else 1), x.2.2)].length ≤ 1099511627776 by simp; omega), W_succ hk (show a.length ≤ 9223372036854775807 by omega), hgv]

theorem game_spec {a : List Timpl_Equation} (hl : a.length ≤ 1048576) (g : ∀ x ∈ a, x.2.2.length ≤ 1048576) (h0 : 0 < a.length) : Ev (fun m => spec_l22Game_m m a) (gameE a) := by
  unfold spec_l22Game_m
  refine Ev.bind (blocks_spec hl h0) (Ev.bind (EvI.tab (step := _) a.length (gv a) (fun k xs hk hx => ?_) (fun xs => Ev.ite_f (by simp) (Ev.pure _))).ev (Ev.pure _))
  obtain ⟨x, hxk⟩ := get_lt hk
  obtain ⟨y, hy⟩ := get_lt h0
  have hy0 : idx a 0 = some y := by simpa using idx_at hy
  have hb : idx ((List.range a.length).map fun k => ((cnt a (k + 1) : Nat) : Int)) (k : Int) = some ((cnt a (k + 1) : Nat) : Int) := idx_at (k := k) (by simp [hk])
  have hc := cnt_le a (k + 1)
  have hgv : gv a k = (if x.2.1 = true then 1 else 0, ((cnt a (k + 1) : Nat) : Int) + (if y.1 = true then 0 else 1), x.2.2) := by simp [gv, hxk, hy]
  have hw : W (((cnt a (k + 1) : Nat) : Int) + 1) = ((cnt a (k + 1) : Nat) : Int) + 1 := W_of (by omega) (by omega)
  have hap : ∀ v : Timpl_Vertex, app xs [v] = some (xs ++ [v]) := fun v => app_ok (by simp; omega)
  refine (own_ints (a := x.2.2) (g x (List.mem_of_getElem? hxk))).use fun m h => ?_
  simp only [decide_eq_true (show (k : Int) < (a.length : Int) by omega), if_true, idx_at hxk, Option.bind_some, join, hb, hy0, hw, h, hap, W_succ hk (show a.length ≤ 9223372036854775807 by omega), hgv]
  cases x.2.1 <;> cases y.1 <;> simp

theorem validE_wf {a : List Timpl_Equation} (hv : validE a = true) : 0 < a.length ∧ a.length ≤ 120 := by
  simp only [validE, Bool.and_eq_true, decide_eq_true_eq] at hv
  omega

def gameOf (a : List Timpl_Equation) : List Timpl_Vertex × Int := if validE a = true then (gameE a, 0) else ([], 1)
theorem gameOf_spec {a : List Timpl_Equation} (hl : a.length ≤ 1048576) (g : ∀ x ∈ a, x.2.2.length ≤ 1048576) : Ev (fun m => spec_GameOf_m m a) (gameOf a) := by
  unfold spec_GameOf_m gameOf
  refine Ev.bind (l22Is_law hl g) ?_
  cases hv : validE a with
  | false => exact Ev.ite_t rfl (Ev.pure _)
  | true => exact Ev.ite_f (by simp) (Ev.bind (game_spec hl g (validE_wf hv).1) (Ev.pure _))
theorem gameOf_impl {a : List Timpl_Equation} (hl : a.length ≤ 1048576) (g : ∀ x ∈ a, x.2.2.length ≤ 1048576) : Ev (fun m => impl_GameOf_m m a) (gameOf a) := by
  unfold impl_GameOf_m gameOf
  refine Ev.bind (validE_impl hl g) ?_
  cases hv : validE a with
  | false => exact Ev.ite_t rfl (Ev.pure _)
  | true => exact Ev.ite_f (by simp) (Ev.bind (game_impl hl g (validE_wf hv).1) (Ev.pure _))
theorem gameOf_len (a : List Timpl_Equation) (hl : a.length ≤ 1048576) (g : ∀ x ∈ a, x.2.2.length ≤ 1048576) : (gameOf a).1.length ≤ 1048576 ∧ ∀ x ∈ (gameOf a).1, x.2.2.length ≤ 1048576 := by
  unfold gameOf
  split
  · refine ⟨by simpa [gameE] using hl, fun v hv => ?_⟩
    obtain ⟨k, hk, rfl⟩ := List.mem_map.1 hv
    simp only [gv]
    split
    · rename_i x y hx _; exact g x (List.mem_of_getElem? hx)
    · simp
  · exact ⟨Nat.zero_le _, fun x hx => by cases hx⟩
theorem gameOf_core {a : List Timpl_Equation} (B : a.length ≤ 1048576 ∧ ∀ x ∈ a, x.2.2.length ≤ 1048576) :
    ∃ r, Ev (fun m => spec_GameOf_m m a) r ∧ Ev (fun m => impl_GameOf_m m a) r ∧ (r.1.length ≤ 1048576 ∧ ∀ x ∈ r.1, x.2.2.length ≤ 1048576) :=
  ⟨_, gameOf_spec B.1 B.2, gameOf_impl B.1 B.2, gameOf_len a B.1 B.2⟩
end Go.Proofs.Ytecknjdlbmmmiaa
