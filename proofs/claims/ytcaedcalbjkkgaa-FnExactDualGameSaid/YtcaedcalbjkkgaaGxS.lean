/-
  Parts of slices, and strings.
-/
import Derived.Test.YtcaedcalbjkkgaaGxO
import Derived.Laws.Strings
import Derived.Laws.Strings2
namespace Go.Gx
open Go.RowKit

section
variable {P : Program} {ops : Array Oper} {C : World → Prop} {eff : Nat → Bool} {Q : Act → World → Prop} {N : Nat} {env : List (Nat × Value)} {a : Act} {w w0 : World} {k : Nat} {rest : List Oper} {x y : Operand} {v u : Value} {t : TypeId}

/-- The value of 's[lo:hi]'. -/
def subV (v : Value) (lo hi size : Nat) : Value := match v with
  | .slice A _ c => .slice (if c = lo then A else A.map (·.add (lo * size))) (hi - lo) (c - lo)
  | v => v

/-- A bound that is not given, or an int. -/
def bnd (env : List (Nat × Value)) (o : Option Operand) (n : Nat) (i : Int) : Prop := match o with
  | none => i = (n : Int)
  | some x => ev env x = some (.int .i64 i)

theorem sliceBound_ok {i : Int} {n : Nat} {code : BoundsCode} (h0 : 0 ≤ i) (h1 : i ≤ n) (w : World) : (Instr.sliceBound (.int .i64 i) n code).run P w = .ok i.toNat w := by
  simp [Instr.sliceBound, asIntOf, h0, h1]

theorem q_slice {lo hi : Option Operand} {l h : Int} {n size : Nat} {e : TypeId} (hx : ev env x = some v) (hv : IsSl v n) (hu : P.underlying t = some (.slice e)) (hs : ∀ w, (sizeOf e).run P w = .ok size w)
    (hl : bnd env lo 0 l) (hh : bnd env hi n h) (h0 : 0 ≤ l) (h1 : l ≤ h) (h2 : h ≤ n) : Q1 P N env C (.slice t x lo hi none) (subV v l.toNat h.toNat size) := fun o ho a w S _ => .inl (by
  obtain ⟨A, c, rfl, hnc, _⟩ := hv
  have e1 : h.toNat ≤ c := by omega
  have b1 : ∀ code, (Instr.sliceBound (.int .i64 h) c code).run P w = .ok h.toNat w := fun code => sliceBound_ok (by omega) (by omega) w
  have b2 : ∀ code, (Instr.sliceBound (.int .i64 l) h.toNat code).run P w = .ok l.toNat w := fun code => sliceBound_ok h0 (by omega) w
  cases lo with
  | none =>
    obtain rfl : l = 0 := hl
    cases hi with
    | none =>
      obtain rfl : h = n := hh
      simp [execOp, ho, S.eval hx, Instr.sliceAt, Instr.slice, run_underlying hu, Instr.sliceBounds, hs, subV]
    | some y => simp [execOp, ho, S.eval hx, S.eval (show ev env y = some _ from hh), Instr.sliceAt, Instr.slice, run_underlying hu, Instr.sliceBounds, hs, subV, b1]
  | some z =>
    have hz := S.eval (show ev env z = some _ from hl)
    cases hi with
    | none =>
      obtain rfl : h = n := hh
      have b3 : ∀ code, (Instr.sliceBound (.int .i64 l) n code).run P w = .ok l.toNat w := fun code => sliceBound_ok h0 (by omega) w
      simp [execOp, ho, S.eval hx, hz, Instr.sliceAt, Instr.slice, run_underlying hu, Instr.sliceBounds, hs, subV, b3]
    | some y => simp [execOp, ho, S.eval hx, S.eval (show ev env y = some _ from hh), hz, Instr.sliceAt, Instr.slice, run_underlying hu, Instr.sliceBounds, hs, subV, b1, b2])

theorem rdL_split {α : Type} {r : Rep α} {B : Nat} {w : World} : ∀ {xs ys : List α} {cs : List Value}, rdL r B w cs (xs ++ ys) → ∃ c1 c2, cs = c1 ++ c2 ∧ rdL r B w c1 xs ∧ rdL r B w c2 ys
  | [], ys, cs, h => ⟨[], cs, rfl, rfl, h⟩
  | z :: xs, ys, cs, ⟨c1, c2, e, h1, h2⟩ => by
    obtain ⟨d1, d2, e2, h3, h4⟩ := rdL_split h2
    exact ⟨c1 ++ d1, d2, by rw [e, e2, List.append_assoc], ⟨c1, d1, rfl, h1, h3⟩, h4⟩

theorem Rd.sub {α : Type} {r : Rep α} {w : World} {v : Value} {xs ys : List α} {l h : Int} (H : Rd (rList r) w v xs) (hs : sub xs l h = some ys) : Rd (rList r) w (subV v l.toNat h.toNat r.size) ys := by
  obtain ⟨⟨h0, h1, h2⟩, rfl⟩ := sub_some hs
  obtain ⟨cs, hv, A, c, rfl, hc, hx⟩ := H
  have hv' : v = .slice A xs.length c := by simpa [toVal, rList] using hv
  subst hv'
  have hlen : ((xs.take h.toNat).drop l.toNat).length = h.toNat - l.toNat := by simp; omega
  refine ⟨_, rfl, (if c = l.toNat then A else A.map (·.add (l.toNat * r.size))), c - l.toNat, by rw [hlen], by rw [hlen]; omega, ?_⟩
  by_cases he : h.toNat = l.toNat
  · left; exact List.eq_nil_of_length_eq_zero (by omega)
  rcases hx with rfl | ⟨p, cc, rfl, hb, hcell, hL⟩
  · left; simp
  right
  have e1 : xs = xs.take l.toNat ++ ((xs.take h.toNat).drop l.toNat ++ xs.drop h.toNat) := by
    have : (xs.take h.toNat).take l.toNat = xs.take l.toNat := by rw [List.take_take]; congr 1; omega
    rw [← List.append_assoc, ← this, List.take_append_drop, List.take_append_drop]
  rw [e1] at hL
  obtain ⟨c1, c2, rfl, g1, g2⟩ := rdL_split hL
  obtain ⟨c3, c4, rfl, g3, g4⟩ := rdL_split g2
  have hne : c ≠ l.toNat := by omega
  refine ⟨p.add (l.toNat * r.size), c3, by rw [if_neg hne]; rfl, ?_, fun j u hu => ?_, g3⟩
  · have : (p.add (l.toNat * r.size)).block = p.block := by unfold Addr.add; split <;> rfl
    omega
  · have hl1 : c1.length = l.toNat * r.size := by rw [rdL_len g1, List.length_take]; congr 1; omega
    rw [add_add, ← hl1]
    refine hcell _ _ ?_
    have hj := (List.getElem?_eq_some_iff.1 hu).1
    rw [List.getElem?_append_right (by omega), Nat.add_sub_cancel_left, List.getElem?_append_left hj]
    exact hu

/-! ### strings -/
theorem sv_toList (s : Str) : (ByteArray.mk s.toArray).toList = s := ByteArray.toList_mk s
theorem sv_append (s u : Str) : (ByteArray.mk s.toArray) ++ (ByteArray.mk u.toArray) = ByteArray.mk (s ++ u).toArray := by
  apply ByteArray.ext
  simp

section
variable {s s' : Str} {yt : TypeId}
theorem q_seql (hx : ev env x = some (sv s)) (hy : ev env y = some (sv s')) : Q1 P N env C (.binOp .eql t x y yt) (.bool (s == s')) := fun o ho a w S _ => .inl (by
  simp [execOp, ho, S.eval hx, S.eval hy, eqGuard, sv, binOp, Op.stringOp])
theorem q_sneq (hx : ev env x = some (sv s)) (hy : ev env y = some (sv s')) : Q1 P N env C (.binOp .neq t x y yt) (.bool (s != s')) := fun o ho a w S _ => .inl (by
  simp [execOp, ho, S.eval hx, S.eval hy, eqGuard, sv, binOp, Op.stringOp, bne])
theorem q_slss (hx : ev env x = some (sv s)) (hy : ev env y = some (sv s')) : Q1 P N env C (.binOp .lss t x y yt) (.bool (Op.bytesLess s s')) := fun o ho a w S _ => .inl (by
  simp [execOp, ho, S.eval hx, S.eval hy, eqGuard, sv, binOp, Op.stringOp])
theorem q_sgtr (hx : ev env x = some (sv s)) (hy : ev env y = some (sv s')) : Q1 P N env C (.binOp .gtr t x y yt) (.bool (!(Op.bytesLess s s' || s == s'))) := fun o ho a w S _ => .inl (by
  simp [execOp, ho, S.eval hx, S.eval hy, eqGuard, sv, binOp, Op.stringOp])
theorem q_sleq (hx : ev env x = some (sv s)) (hy : ev env y = some (sv s')) : Q1 P N env C (.binOp .leq t x y yt) (.bool (Op.bytesLess s s' || s == s')) := fun o ho a w S _ => .inl (by
  simp [execOp, ho, S.eval hx, S.eval hy, eqGuard, sv, binOp, Op.stringOp])
theorem q_sgeq (hx : ev env x = some (sv s)) (hy : ev env y = some (sv s')) : Q1 P N env C (.binOp .geq t x y yt) (.bool (!Op.bytesLess s s')) := fun o ho a w S _ => .inl (by
  simp [execOp, ho, S.eval hx, S.eval hy, eqGuard, sv, binOp, Op.stringOp])

/-- Two texts, one behind the other. -/
def cat (s u : Str) : Option Str := if s.length + u.length ≤ 9223372036854775807 then some (s ++ u) else none
theorem cat_some {s u r : Str} (h : cat s u = some r) : s.length + u.length ≤ 9223372036854775807 ∧ s ++ u = r := by
  unfold cat at h; split at h
  · exact ⟨‹_›, Option.some.inj h⟩
  · cases h
theorem q_cat (hx : ev env x = some (sv s)) (hy : ev env y = some (sv s')) (hl : s.length + s'.length ≤ 9223372036854775807) : Q1 P N env C (.binOp .add t x y yt) (sv (s ++ s')) := fun o ho a w S _ => .inl (by
  have hm : ¬ (((s.length + s'.length : Nat) : Int) > IntKind.i64.max) := by
    have : IntKind.i64.max = 9223372036854775807 := rfl
    omega
  have hm' : ¬ (IntKind.i64.max < ((s.length : Int) + (s'.length : Int))) := by
    have : IntKind.i64.max = 9223372036854775807 := rfl
    omega
  simp [execOp, ho, S.eval hx, S.eval hy, eqGuard, sv, binOp, Op.stringOp, size_sv]
  rw [if_neg (by omega), sv_append])

theorem q_sidx {b : UInt8} {i : Int} {ix : Operand} (hx : ev env x = some (sv s)) (hy : ev env ix = some (.int .i64 i)) (hu : P.underlying t = some .string) (h : idx s i = some b) : Q1 P N env C (.index t x ix) (.int .u8 b.toNat) := fun o ho a w S _ => .inl (by
  obtain ⟨h0, h1⟩ := idx_some h
  have hb : (ByteArray.mk s.toArray)[i.toNat]? = some b := by
    obtain ⟨hlt, rfl⟩ := List.getElem?_eq_some_iff.1 h1
    rw [ByteArray.getElem?_lt' _ _ (by rw [size_sv]; exact hlt)]
    rfl
  simp [execOp, ho, S.eval hx, S.eval hy, sv, Instr.index, asIntOf, run_underlying hu, h0, hb])

theorem q_ssub {lo hi : Option Operand} {l h : Int} (hx : ev env x = some (sv s)) (hu : P.underlying t = some .string)
    (hl : bnd env lo 0 l) (hh : bnd env hi s.length h) (h0 : 0 ≤ l) (h1 : l ≤ h) (h2 : h ≤ s.length) : Q1 P N env C (.slice t x lo hi none) (sv ((s.take h.toNat).drop l.toNat)) := fun o ho a w S _ => .inl (by
  have e : (ByteArray.mk s.toArray).extract l.toNat h.toNat = ByteArray.mk ((s.take h.toNat).drop l.toNat).toArray := by
    rw [ByteArray.extract_mk, List.drop_take]
  have b1 : ∀ code, (Instr.sliceBound (.int .i64 h) s.length code).run P w = .ok h.toNat w := fun code => sliceBound_ok (by omega) (by omega) w
  have b2 : ∀ code, (Instr.sliceBound (.int .i64 l) h.toNat code).run P w = .ok l.toNat w := fun code => sliceBound_ok h0 (by omega) w
  have sz : (ByteArray.mk s.toArray).size = s.length := size_sv s
  cases lo with
  | none =>
    obtain rfl : l = 0 := hl
    cases hi with
    | none =>
      obtain rfl : h = s.length := hh
      simp at e
      simp [execOp, ho, S.eval hx, sv, Instr.sliceAt, Instr.slice, run_underlying hu, Instr.sliceBounds]
    | some y =>
      simp at e
      simp [execOp, ho, S.eval hx, S.eval (show ev env y = some _ from hh), sv, Instr.sliceAt, Instr.slice, run_underlying hu, Instr.sliceBounds, sz, b1, e]
  | some z =>
    have hz := S.eval (show ev env z = some _ from hl)
    cases hi with
    | none =>
      obtain rfl : h = s.length := hh
      have b3 : ∀ code, (Instr.sliceBound (.int .i64 l) s.length code).run P w = .ok l.toNat w := fun code => sliceBound_ok h0 (by omega) w
      simp at e
      simp [execOp, ho, S.eval hx, hz, sv, Instr.sliceAt, Instr.slice, run_underlying hu, Instr.sliceBounds, sz, b3, e]
    | some y => simp [execOp, ho, S.eval hx, S.eval (show ev env y = some _ from hh), hz, sv, Instr.sliceAt, Instr.slice, run_underlying hu, Instr.sliceBounds, sz, b1, b2, e])
end
end
end Go.Gx
