/-
  More steps: results out of variables, sub-slices, nil tests, min, and whole literals.
-/
import Derived.Test.YtcaedcalbjkkgaaGxN
import Derived.Lib.SliceRun
namespace Go.Gx
open Go.RowKit

/-! ### literals whose cells are all given -/
theorem splice_len {cs us : List Value} {o : Nat} (h : o + us.length ≤ cs.length) : (splice cs o us).length = cs.length := length_splice h

/-- The parts, one behind the other from 'o' on. -/
def dense : Nat → List (Nat × List Value) → Prop
  | _, [] => True
  | o, (p, us) :: r => p = o ∧ dense (o + us.length) r

theorem fillL_dense : ∀ (ps : List (Nat × List Value)) (pre rest : List Value) (n : Nat), dense pre.length ps → (ps.map (·.2)).flatten.length = rest.length →
    n = 0 → fillL (pre ++ rest) ps = pre ++ (ps.map (·.2)).flatten
  | [], pre, rest, _, _, hl, _ => by
    have : rest = [] := List.eq_nil_of_length_eq_zero (by simpa using hl.symm)
    simp [fillL, this]
  | (p, us) :: r, pre, rest, n, hd, hl, hn => by
    obtain ⟨rfl, hd⟩ := hd
    simp only [List.map_cons, List.flatten_cons, List.length_append] at hl
    have hs : splice (pre ++ rest) pre.length us = (pre ++ us) ++ rest.drop us.length := by
      simp only [splice, List.take_left', List.append_assoc]
      rw [List.drop_append]
      simp
    show fillL (splice (pre ++ rest) pre.length us) r = _
    rw [hs, fillL_dense r (pre ++ us) (rest.drop us.length) n (by simpa using hd) (by simp only [List.length_drop]; omega) hn]
    simp

theorem fill_dense {zs cs : List Value} {ps : List (Nat × List Value)} {n : Nat} (hz : zs.length = n) (hd : dense 0 ps) (hn : (ps.map (·.2)).flatten.length = n) (hc : (ps.map (·.2)).flatten = cs) : fillL zs ps = cs := by
  have := fillL_dense ps [] zs 0 hd (by omega) rfl
  simpa [hc] using this

section
variable {P : Program} {ops : Array Oper} {C : World → Prop} {eff : Nat → Bool} {Q : Act → World → Prop} {N : Nat} {env : List (Nat × Value)} {a : Act} {w w0 : World} {k : Nat} {rest : List Oper} {x y : Operand} {v u : Value}

theorem q_nilCheckFn {f : FuncId} {A B : Array Value} (hx : ev env x = some (.func (.func f) A B)) : Q1 P N env C (.nilCheck x) (.func (.func f) A B) := fun o ho a w S _ => .inl (by
  simp [execOp, ho, S.eval hx])

theorem q_isNil {A : Option Addr} {n c : Nat} {t e ty : TypeId} (hx : ev env x = some (.slice A n c)) (hy : ev env y = some (.slice none 0 0)) (ht : P.underlying t = some (.slice e)) :
    Q1 P N env C (.binOp .eql t x y ty) (.bool A.isNone) := fun o ho a w S _ => .inl (by
  have := Lib.run_eql_slice_nil (P := P) w t e A n c 0 0 ht
  simp [execOp, ho, S.eval hx, S.eval hy, eqGuard, this])

theorem q_min {kd : IntKind} {m n : Int} {aty : Array TypeId} (hx : ev env x = some (.int kd m)) (hy : ev env y = some (.int kd n)) :
    Q1 P N env C (.call { callee := .builtin .min, args := #[x, y], argTypes := aty }) (.int kd (if n < m then n else m)) := fun o ho a w S _ => .inl (by
  simp [execOp, ho, resolve, invoke, builtin, Builtin.min_, Builtin.min2, S.eval hx, S.eval hy])

theorem q_fieldAddr' {fs : Array Field} {f : Nat} {t : TypeId} (o ft : Nat) {sz : Nat} (hx : ev env x = some v) (hv : IsP v) (hu : P.underlying t = some (.struct fs)) (hf : (fs[f]?).map (fun d => (d.offset, d.type)) = some (o, ft)) (hs : ∀ w, (sizeOf ft).run P w = .ok (sz + 1) w) :
    Q1 P N env C (.fieldAddr t x f) (pAdd v o) := by
  cases hd : fs[f]? with
  | none => rw [hd] at hf; cases hf
  | some d =>
    rw [hd] at hf
    cases hf
    exact q_fieldAddr hx hv hu hd hs (Nat.succ_ne_zero _)

/-! ### results out of variables -/
def RV (P : Program) (env : List (Nat × Value)) (w : World) : ResultVar → Value → Prop
  | .tmp t, v => lk env t = some v
  | .cell a t, v => ∃ p, lk env a = some (.pointer (some p)) ∧ (loadVar t p).run P w = .ok v w

def rvGet (tmps : Array Value) : ResultVar → Sem Value
  | .tmp t => pure (tmps.getD t undef)
  | .cell a t => do loadVar t (← asAddr (tmps.getD a undef))

theorem RV.run {r : ResultVar} (S : Slots a N env) (h : RV P env w r v) : (rvGet a.tmps r).run P w = .ok v w := by
  cases r with
  | tmp t => simp [rvGet, getD_slot S h]
  | cell b t =>
    obtain ⟨p, h1, h2⟩ := h
    simp only [rvGet]
    rw [getD_slot S h1]
    simp [asAddr, h2]

theorem RV.cellA [dr : Dr] {b i e : Nat} {L : List Asrt} {t : TypeId} {cs : List Value} {q : Tmp} (H : Heap w0 L w) (hk : L[i]? = some (bA b cs e)) (hq : lk env q = some (bp b)) (ha : ∀ w, (isAgg t).run P w = .ok true w) (hs : ∀ w, (sizeOf t).run P w = .ok cs.length w) :
    RV P env w (.cell q t) (.agg cs.toArray) := by
  refine ⟨_, hq, ?_⟩
  have hl := run_loadCells_list (P := P) w ⟨b, 0, none⟩ cs (fun j u hu => by
    obtain ⟨q, hq, hc⟩ := boxAt H hk hu
    cases hq
    exact hc)
  simp [loadVar, ha, hs, hl]

theorem RV.cell1 [dr : Dr] {b i e : Nat} {L : List Asrt} {t : TypeId} {c : Value} {q : Tmp} (H : Heap w0 L w) (hk : L[i]? = some (bA b [c] e)) (hq : lk env q = some (bp b)) (ha : ∀ w, (isAgg t).run P w = .ok false w) :
    RV P env w (.cell q t) c := by
  refine ⟨_, hq, ?_⟩
  obtain ⟨q, hq, hc⟩ := boxAt (j := 0) H hk rfl
  cases hq
  rw [show (⟨b, 0, none⟩ : Addr).add 0 = ⟨b, 0, none⟩ from by simp [Addr.add]] at hc
  simp [loadVar, ha, hc]

theorem results_eq {fn : Func} {tmps : Array Value} : results fn tmps = (do
    let vs ← fn.results.mapM (rvGet tmps)
    pure (if h : vs.size = 1 then vs[0] else .tuple vs)) := by
  unfold results
  congr 2

variable {fn : Func} {R : Ending → World → Prop}
theorem leaveR1 (S : Slots a N env) {r1 : ResultVar} {v1 : Value} (hr : fn.results = #[r1]) (h1 : RV P env w r1 v1) (h : R (.returned v1) w) : bodyPost P fn R .ret a w :=
  bodyPost_ret (v := v1) (by rw [results_eq, hr]; simp [h1.run S]) S.defers h
theorem leaveR2 (S : Slots a N env) {r1 r2 : ResultVar} {v1 v2 : Value} (hr : fn.results = #[r1, r2]) (h1 : RV P env w r1 v1) (h2 : RV P env w r2 v2) (h : R (.returned (.tuple #[v1, v2])) w) : bodyPost P fn R .ret a w :=
  bodyPost_ret (v := .tuple #[v1, v2]) (by rw [results_eq, hr]; simp [h1.run S, h2.run S]) S.defers h
theorem leaveR3 (S : Slots a N env) {r1 r2 r3 : ResultVar} {v1 v2 v3 : Value} (hr : fn.results = #[r1, r2, r3]) (h1 : RV P env w r1 v1) (h2 : RV P env w r2 v2) (h3 : RV P env w r3 v3) (h : R (.returned (.tuple #[v1, v2, v3])) w) : bodyPost P fn R .ret a w :=
  bodyPost_ret (v := .tuple #[v1, v2, v3]) (by rw [results_eq, hr]; simp [h1.run S, h2.run S, h3.run S]) S.defers h
end

/-! ### parts of lists -/
section
variable {α : Type} {r : Rep α} {w : World} {v : Value} {xs : List α}
theorem Rd.isNil {P : Program} {t e : TypeId} (h : Rd (rList r) w v xs) (ht : P.underlying t = some (.slice e)) :
    ∃ bn : Bool, (∀ {N : Nat} {env : List (Nat × Value)} {C : World → Prop} {x y : Operand} {ty : TypeId}, ev env x = some v → ev env y = some (.slice none 0 0) → Q1 P N env C (.binOp .eql t x y ty) (.bool bn)) ∧ (bn = true → xs = []) := by
  obtain ⟨A, c, rfl, _, hs⟩ := h.isSl
  refine ⟨A.isNone, fun hx hy => q_isNil hx hy ht, fun hb => ?_⟩
  cases A with
  | some _ => cases hb
  | none =>
    by_cases h0 : 0 < xs.length
    · obtain ⟨_, h, _⟩ := hs h0
    · exact List.eq_nil_of_length_eq_zero (by omega)

/-- 's[lo:hi]' of a list. -/
def sub (xs : List α) (lo hi : Int) : Option (List α) := if 0 ≤ lo ∧ lo ≤ hi ∧ hi ≤ xs.length then some ((xs.take hi.toNat).drop lo.toNat) else none
theorem sub_some {lo hi : Int} {ys : List α} (h : sub xs lo hi = some ys) : (0 ≤ lo ∧ lo ≤ hi ∧ hi ≤ xs.length) ∧ ys = (xs.take hi.toNat).drop lo.toNat := by
  unfold sub at h; split at h
  · exact ⟨‹_›, (Option.some.inj h).symm⟩
  · cases h
/-- A part of a list that has kept its length. -/
theorem sub_turn {xs ys : List α} {lo hi : Int} {zs : List α} (h : sub xs lo hi = some zs) (hl : ys.length = xs.length) : sub ys lo hi = some ((ys.take hi.toNat).drop lo.toNat) := by
  have := (sub_some h).1
  unfold sub
  rw [if_pos (by omega)]
theorem sub_same {xs zs : List α} {lo hi : Int} (h : sub xs lo hi = some zs) : sub xs lo hi = some ((xs.take hi.toNat).drop lo.toNat) := sub_turn h rfl
end
end Go.Gx
