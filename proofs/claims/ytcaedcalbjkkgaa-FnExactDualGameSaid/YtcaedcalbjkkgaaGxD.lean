/-
  Frames by their known slots, and the steps of the walk, an operation each.
-/
import Derived.Test.YtcaedcalbjkkgaaGxC
namespace Go.Gx
open Go.RowKit

/-! ### frames -/

def lk : List (Nat × Value) → Nat → Option Value
  | [], _ => none
  | (k, v) :: e, d => cond (Nat.beq k d) (some v) (lk e d)

structure Slots (a : Act) (N : Nat) (env : List (Nat × Value)) : Prop where
  defers : a.defers = []
  size : a.tmps.size = N
  at_ : ∀ d v, lk env d = some v → a.tmps[d]? = some v

def ev (env : List (Nat × Value)) : Operand → Option Value
  | .tmp t => lk env t
  | .const v => some v
  | .global g => some (.pointer (some ⟨g, 0, none⟩))
  | .func f => some (.func (.func f) #[] #[])

def evl (env : List (Nat × Value)) : List Operand → Option (List Value)
  | [] => some []
  | x :: xs => match ev env x with
    | none => none
    | some v => match evl env xs with
      | none => none
      | some vs => some (v :: vs)

section
variable {a : Act} {N : Nat} {env : List (Nat × Value)}

theorem Slots.eval (S : Slots a N env) {x : Operand} {v : Value} (h : ev env x = some v) : a.eval x = v := by
  cases x with
  | tmp t => simp [Act.eval, S.at_ t v h]
  | const c => simp [ev] at h; exact h
  | global g => simp [ev] at h; exact h
  | func f => simp [ev] at h; exact h

theorem Slots.evals (S : Slots a N env) : ∀ {xs : List Operand} {vs : List Value}, evl env xs = some vs → xs.map a.eval = vs
  | [], _, h => by simp [evl] at h; simp [h]
  | x :: xs, vs, h => by
    unfold evl at h
    split at h
    · cases h
    · rename_i v hv
      split at h
      · cases h
      · rename_i vs' hvs
        cases h
        simp [S.eval hv, S.evals hvs]

theorem Slots.put (S : Slots a N env) (d : Nat) (v : Value) (hd : d < N) : Slots (a.put (some d) v) N ((d, v) :: env) := by
  refine ⟨S.defers, by simp [Act.put, S.size], fun e u h => ?_⟩
  unfold lk at h
  by_cases hde : d = e
  · subst hde
    rw [show Nat.beq d d = true from Nat.beq_refl d] at h
    simp at h
    subst h
    simp [Act.put, S.size, hd]
  · have : Nat.beq d e = false := by cases hb : Nat.beq d e with
      | false => rfl
      | true => exact absurd (Nat.eq_of_beq_eq_true hb) hde
    rw [this] at h
    simp at h
    simp only [Act.put]
    rw [Array.getElem?_setIfInBounds_ne hde]
    exact S.at_ e u h

theorem Slots.putN (S : Slots a N env) (v : Value) : Slots (a.put none v) N env := S

def subEnv (env : List (Nat × Value)) : List (Nat × Value) → Prop
  | [] => True
  | (d, v) :: r => lk env d = some v ∧ subEnv env r

theorem lk_sub {env : List (Nat × Value)} : ∀ {env' : List (Nat × Value)}, subEnv env env' → ∀ d v, lk env' d = some v → lk env d = some v
  | [], _, _, _, h => by cases h
  | (k, u) :: r, ⟨h1, h2⟩, d, v, h => by
    unfold lk at h
    cases hb : Nat.beq k d with
    | true =>
      rw [hb] at h
      have := Nat.eq_of_beq_eq_true hb
      subst this
      simp at h
      subst h
      exact h1
    | false => rw [hb] at h; exact lk_sub h2 d v (by simpa using h)

theorem Slots.sub (S : Slots a N env) {env' : List (Nat × Value)} (h : subEnv env env') : Slots a N env' :=
  ⟨S.defers, S.size, fun d v hv => S.at_ d v (lk_sub h d v hv)⟩

/-- The frame of a call. -/
theorem Slots.enter (args : List Value) (N : Nat) (h : args.length ≤ N) (env : List (Nat × Value)) (he : ∀ d v, lk env d = some v → args[d]? = some v) :
    Slots { tmps := args.toArray ++ Array.replicate (N - args.toArray.size) undef, defers := [] } N env := by
  refine ⟨rfl, by simp; omega, fun d v hv => ?_⟩
  have := he d v hv
  have hd := (List.getElem?_eq_some_iff.1 this).1
  rw [Array.getElem?_append_left (by simpa using hd)]
  simpa using this

def envOf : Nat → List Value → List (Nat × Value)
  | _, [] => []
  | k, v :: r => (k, v) :: envOf (k + 1) r

theorem lk_envOf : ∀ (args : List Value) (k d : Nat) (v : Value), lk (envOf k args) d = some v → k ≤ d ∧ args[d - k]? = some v
  | [], _, _, _, h => by cases h
  | u :: r, k, d, v, h => by
    unfold envOf lk at h
    cases hb : Nat.beq k d with
    | true =>
      rw [hb] at h
      have := Nat.eq_of_beq_eq_true hb
      subst this
      simp at h
      simp [h]
    | false =>
      rw [hb] at h
      have h2 := lk_envOf r (k + 1) d v (by simpa using h)
      refine ⟨by omega, ?_⟩
      have : d - k = (d - (k + 1)) + 1 := by omega
      rw [this]
      simpa using h2.2
end

/-- A function is entered. -/
theorem enter {P : Program} {f : FuncId} {fn : Func} {c : Code} {args : List Value} {w : World} {R : Ending → World → Prop} (hf : P.funcs[f]? = some fn) (hb : fn.body = some c) (N : Nat) (hN : fn.ntmps = N)
    (hl : args.length ≤ N) (h : ∀ a, Slots a N (envOf 0 args) → c.wp P (bodyPost P fn R) a w) : Calls P f args.toArray w R := by
  refine calls_of_wp hf hb (h _ ?_)
  rw [hN]
  exact Slots.enter args N hl _ fun d v hv => by simpa using (lk_envOf args 0 d v hv).2

/-! ### leaving -/
section
variable {P : Program} {fn : Func} {R : Ending → World → Prop} {a : Act} {N : Nat} {env : List (Nat × Value)} {w : World}

theorem leave0 (S : Slots a N env) (hr : fn.results = #[]) (h : R (.returned (.tuple #[])) w) : bodyPost P fn R .ret a w := bodyPost_ret (results_none hr _ _ _) S.defers h
theorem leave0n (S : Slots a N env) (hr : fn.results = #[]) (h : R (.returned (.tuple #[])) w) : bodyPost P fn R .normal a w := bodyPost_end (results_none hr _ _ _) S.defers h

theorem getD_slot (S : Slots a N env) {t : Nat} {v : Value} (h : lk env t = some v) : a.tmps.getD t undef = v := by simp [S.at_ t v h]

theorem leave1 (S : Slots a N env) {t : Tmp} {v : Value} (hr : fn.results = #[.tmp t]) (ht : lk env t = some v) (h : R (.returned v) w) : bodyPost P fn R .ret a w :=
  bodyPost_ret (results_tmp hr _ _ _) S.defers (by rw [getD_slot S ht]; exact h)
theorem leave2 (S : Slots a N env) {t u : Tmp} {v v' : Value} (hr : fn.results = #[.tmp t, .tmp u]) (ht : lk env t = some v) (hu : lk env u = some v') (h : R (.returned (.tuple #[v, v'])) w) : bodyPost P fn R .ret a w :=
  bodyPost_ret (results_tmp2 hr _ _ _) S.defers (by rw [getD_slot S ht, getD_slot S hu]; exact h)
theorem leave3 (S : Slots a N env) {t u x : Tmp} {v v' v'' : Value} (hr : fn.results = #[.tmp t, .tmp u, .tmp x]) (ht : lk env t = some v) (hu : lk env u = some v') (hx : lk env x = some v'') (h : R (.returned (.tuple #[v, v', v''])) w) : bodyPost P fn R .ret a w :=
  bodyPost_ret (v := .tuple #[v, v', v'']) (by simp [results, hr, S.at_ _ _ ht, S.at_ _ _ hu, S.at_ _ _ hx]) S.defers h
theorem leave4 (S : Slots a N env) {t u x y : Tmp} {v v' v'' v3 : Value} (hr : fn.results = #[.tmp t, .tmp u, .tmp x, .tmp y]) (ht : lk env t = some v) (hu : lk env u = some v') (hx : lk env x = some v'') (hy : lk env y = some v3)
    (h : R (.returned (.tuple #[v, v', v'', v3])) w) : bodyPost P fn R .ret a w :=
  bodyPost_ret (v := .tuple #[v, v', v'', v3]) (by simp [results, hr, S.at_ _ _ ht, S.at_ _ _ hu, S.at_ _ _ hx, S.at_ _ _ hy]) S.defers h
end

/-! ### code -/
section
variable {P : Program} {Q : Exit → Act → World → Prop} {a : Act} {w : World}

theorem thenN {next : Act → World → Prop} (h : next a w) : Exit.then next Q .normal a w := h
theorem cond_t {c : Operand} {x y : Code} {N : Nat} {env : List (Nat × Value)} (S : Slots a N env) (hc : ev env c = some (.bool true)) (h : x.wp P Q a w) : (Code.cond c x y).wp P Q a w := wp_cond_true (S.eval hc) h
theorem cond_f {c : Operand} {x y : Code} {N : Nat} {env : List (Nat × Value)} (S : Slots a N env) (hc : ev env c = some (.bool false)) (h : y.wp P Q a w) : (Code.cond c x y).wp P Q a w := wp_cond_false (S.eval hc) h

theorem inBlock_exit {id : Nat} (h : Q .normal a w) : Exit.inBlock id Q (.exit id) a w := by simp [Exit.inBlock]; exact h

theorem least {p : Nat → Prop} (h : ∃ n, p n) : ∃ n, p n ∧ ∀ m, p m → n ≤ m := by
  obtain ⟨n, hn⟩ := h
  induction n using Nat.strongRecOn with
  | _ n ih =>
    by_cases hx : ∃ m, m < n ∧ p m
    · obtain ⟨m, hm, hp⟩ := hx
      exact ih m hm hp
    · exact ⟨n, hn, fun m hm => Nat.le_of_not_lt fun hl => hx ⟨m, hl, hm⟩⟩

/-- A loop, its rounds counted by a number that stands in no slot. -/
theorem loop_ghost {c : Code} (J : Nat → Act → World → Prop) (n : Nat) (h0 : J n a w)
    (round : ∀ n a w, J n a w → c.wp P (Exit.then (fun a' w' => ∃ m, m < n ∧ J m a' w') Q) a w) : (Code.loop c).wp P Q a w := by
  classical
  let μ : Act → World → Nat := fun a w => if h : ∃ n, J n a w then Classical.choose (least h) else 0
  refine wp_loop (fun a w => ∃ n, J n a w) μ ⟨n, h0⟩ fun a w hI => ?_
  have hn := (Classical.choose_spec (least hI)).1
  refine wp_mono (round _ a w hn) fun e a' w' hq => ?_
  cases e with
  | normal =>
    obtain ⟨m, hm, hJ⟩ := hq
    have hI' : ∃ n, J n a' w' := ⟨m, hJ⟩
    refine ⟨hI', ?_⟩
    have e1 : μ a' w' = Classical.choose (least hI') := dif_pos hI'
    have e2 : μ a w = Classical.choose (least hI) := dif_pos hI
    rw [e1, e2]
    exact Nat.lt_of_le_of_lt ((Classical.choose_spec (least hI')).2 m hJ) hm
  | _ => exact hq
end

end Go.Gx
