/-
  The steps of the walk: quiet operations.
-/
import Derived.Test.YtcaedcalbjkkgaaGxD
import Derived.WalkLawsBesides
namespace Go.Gx
open Go.RowKit

/-- The guard of an operation says yes. -/
def Want (ops : Array Oper) (env : List (Nat × Value)) : Option (Nat × Bool) → Prop
  | none => True
  | some (j, b) => ∃ d, (ops[j]?).bind (·.dst) = some d ∧ lk env d = some (.bool b)

def isB : Value → Bool → Bool
  | .bool b, c => b == c
  | _, _ => false

section
variable {P : Program} {ops : Array Oper} {C : World → Prop} {eff : Nat → Bool} {Q : Act → World → Prop} {N : Nat} {env : List (Nat × Value)} {a : Act} {w : World} {k : Nat} {rest : List Oper}

theorem wanted_of {o : Oper} (S : Slots a N env) (h : Want ops env o.guard) : Region.wanted o (yielded ops a.tmps) = true := by
  unfold Region.wanted
  cases hg : o.guard with
  | none => rfl
  | some x =>
    obtain ⟨j, b⟩ := x
    rw [hg] at h
    obtain ⟨d, h1, h2⟩ := h
    simp [yielded, h1, S.at_ d _ h2]

theorem not_wanted {o : Oper} {j : Nat} {b : Bool} {d : Nat} {u : Value} (S : Slots a N env) (hg : o.guard = some (j, b)) (hj : (ops[j]?).bind (·.dst) = some d) (hu : lk env d = some u) (hb : isB u b = false) :
    ¬ Region.wanted o (yielded ops a.tmps) = true := by
  unfold Region.wanted
  rw [hg]
  simp only [yielded, hj, Option.bind_some, S.at_ d u hu]
  cases u <;> simp [isB] at hb ⊢
  exact hb

theorem lx_nil (h : Q a w) : LX P ops C eff Q k [] a w := h

theorem lx_skip {op : Op} {ty : TypeId} {pos : String} {after : Array Edge} {j d dd : Nat} {b : Bool} {u : Value} (S : Slots a N env) (hj : (ops[j]?).bind (·.dst) = some d) (hu : lk env d = some u) (hb : isB u b = false) (hd : dd < N)
    (h : ∀ a, Slots a N ((dd, undef) :: env) → LX P ops C eff Q (k + 1) rest a w) : LX P ops C eff Q k (⟨some dd, op, ty, pos, after, some (j, b)⟩ :: rest) a w := by
  unfold LX Step
  rw [if_neg (not_wanted S rfl hj hu hb)]
  exact h _ (S.put dd undef hd)

theorem lx_skipN {op : Op} {ty : TypeId} {pos : String} {after : Array Edge} {j d : Nat} {b : Bool} {u : Value} (S : Slots a N env) (hj : (ops[j]?).bind (·.dst) = some d) (hu : lk env d = some u) (hb : isB u b = false)
    (h : ∀ a, Slots a N env → LX P ops C eff Q (k + 1) rest a w) : LX P ops C eff Q k (⟨none, op, ty, pos, after, some (j, b)⟩ :: rest) a w := by
  unfold LX Step
  rw [if_neg (not_wanted S rfl hj hu hb)]
  exact h _ (S.putN undef)

/-- The operation yields v in every world of the class. -/
def Q1 (P : Program) (N : Nat) (env : List (Nat × Value)) (C : World → Prop) (op : Op) (v : Value) : Prop :=
  ∀ (o : Oper), o.op = op → ∀ a w1, Slots a N env → C w1 → Runs P o a w1 v

theorem lx_q {op : Op} {ty : TypeId} {pos : String} {after : Array Edge} {g : Option (Nat × Bool)} {d : Nat} (v : Value) (S : Slots a N env) (hw : Want ops env g) (hd : d < N) (hr : Q1 P N env C op v)
    (h : ∀ a, Slots a N ((d, v) :: env) → LX P ops C eff Q (k + 1) rest a w) : LX P ops C eff Q k (⟨some d, op, ty, pos, after, g⟩ :: rest) a w := by
  unfold LX Step
  rw [if_pos (wanted_of (o := ⟨some d, op, ty, pos, after, g⟩) S hw)]
  exact .inl ⟨v, fun w1 hC => hr _ rfl a w1 S hC, h _ (S.put d v hd)⟩

/-- As lx_q, of an operation that is wanted always. -/
theorem lq {op : Op} {ty : TypeId} {pos : String} {after : Array Edge} {d : Nat} (v : Value) (S : Slots a N env) (hr : Q1 P N env C op v)
    (h : ∀ a, Slots a N ((d, v) :: env) → LX P ops C eff Q (k + 1) rest a w) (hd : d < N := by decide) : LX P ops C eff Q k (⟨some d, op, ty, pos, after, none⟩ :: rest) a w := lx_q v S trivial hd hr h

variable {x y c : Operand} {v u : Value} {t yt : TypeId} {kd : IntKind} {m n : Int}

theorem q_move (hx : ev env x = some v) : Q1 P N env C (.move x) v := fun o ho a w S _ => .inl (by simp [execOp, ho, S.eval hx])
theorem q_assign (hx : ev env x = some v) : Q1 P N env C (.assign x) v := fun o ho a w S _ => .inl (by simp [execOp, ho, S.eval hx])
theorem q_pickT (hc : ev env c = some (.bool true)) (hx : ev env x = some v) : Q1 P N env C (.pick c x y) v := fun o ho a w S _ => .inl (by simp [execOp, ho, S.eval hx, S.eval hc, asBool])
theorem q_pickF (hc : ev env c = some (.bool false)) (hy : ev env y = some v) : Q1 P N env C (.pick c x y) v := fun o ho a w S _ => .inl (by simp [execOp, ho, S.eval hy, S.eval hc, asBool])

section ints
variable (hx : ev env x = some (.int kd m)) (hy : ev env y = some (.int kd n))
include hx hy
theorem q_add : Q1 P N env C (.binOp .add t x y yt) (.int kd (kd.wrap (m + n))) := fun o ho a w S _ => .inl (by simp [execOp, ho, S.eval hx, S.eval hy, eqGuard, binOp, Op.intArith])
theorem q_sub : Q1 P N env C (.binOp .sub t x y yt) (.int kd (kd.wrap (m - n))) := fun o ho a w S _ => .inl (by simp [execOp, ho, S.eval hx, S.eval hy, eqGuard, binOp, Op.intArith])
theorem q_mul : Q1 P N env C (.binOp .mul t x y yt) (.int kd (kd.wrap (m * n))) := fun o ho a w S _ => .inl (by simp [execOp, ho, S.eval hx, S.eval hy, eqGuard, binOp, Op.intArith])
theorem q_quo (h0 : n ≠ 0) : Q1 P N env C (.binOp .quo t x y yt) (.int kd (kd.wrap (m.tdiv n))) := fun o ho a w S _ => .inl (by simp [execOp, ho, S.eval hx, S.eval hy, eqGuard, binOp, Op.intDiv, h0])
theorem q_rem (h0 : n ≠ 0) : Q1 P N env C (.binOp .rem t x y yt) (.int kd (m.tmod n)) := fun o ho a w S _ => .inl (by simp [execOp, ho, S.eval hx, S.eval hy, eqGuard, binOp, Op.intDiv, h0])
theorem q_lss : Q1 P N env C (.binOp .lss t x y yt) (.bool (decide (m < n))) := fun o ho a w S _ => .inl (by simp [execOp, ho, S.eval hx, S.eval hy, eqGuard, binOp, Op.intCmp])
theorem q_leq : Q1 P N env C (.binOp .leq t x y yt) (.bool (decide (m ≤ n))) := fun o ho a w S _ => .inl (by simp [execOp, ho, S.eval hx, S.eval hy, eqGuard, binOp, Op.intCmp])
theorem q_gtr : Q1 P N env C (.binOp .gtr t x y yt) (.bool (decide (n < m))) := fun o ho a w S _ => .inl (by simp [execOp, ho, S.eval hx, S.eval hy, eqGuard, binOp, Op.intCmp])
theorem q_geq : Q1 P N env C (.binOp .geq t x y yt) (.bool (decide (n ≤ m))) := fun o ho a w S _ => .inl (by simp [execOp, ho, S.eval hx, S.eval hy, eqGuard, binOp, Op.intCmp])
theorem q_eql : Q1 P N env C (.binOp .eql t x y yt) (.bool (m == n)) := fun o ho a w S _ => .inl (by simp [execOp, ho, S.eval hx, S.eval hy, eqGuard, binOp, Op.intCmp])
theorem q_neq : Q1 P N env C (.binOp .neq t x y yt) (.bool (m != n)) := fun o ho a w S _ => .inl (by simp [execOp, ho, S.eval hx, S.eval hy, eqGuard, binOp, Op.intCmp])
end ints

section bools
variable {b b' : Bool} (hx : ev env x = some (.bool b)) (hy : ev env y = some (.bool b')) (hu : P.underlying t = some .bool)
include hx hy hu
theorem q_beql : Q1 P N env C (.binOp .eql t x y yt) (.bool (b == b')) := fun o ho a w S _ => .inl (by
  have h : (binOp .eql t (.bool b) (.bool b')).run P w = .ok (.bool (b == b')) w := by simp only [binOp]; simp [run_equal_bool w t b b' hu]
  simp [execOp, ho, S.eval hx, S.eval hy, eqGuard, h])
theorem q_bneq : Q1 P N env C (.binOp .neq t x y yt) (.bool (b != b')) := fun o ho a w S _ => .inl (by
  have h : (binOp .neq t (.bool b) (.bool b')).run P w = .ok (.bool (b != b')) w := by simp only [binOp]; simp [run_equal_bool w t b b' hu, bne]
  simp [execOp, ho, S.eval hx, S.eval hy, eqGuard, h])
end bools

theorem q_not {b : Bool} (hx : ev env x = some (.bool b)) : Q1 P N env C (.unOp .not t x) (.bool (!b)) := fun o ho a w S _ => .inl (by simp [execOp, ho, S.eval hx, Op.unary])
theorem q_neg (hx : ev env x = some (.int kd n)) : Q1 P N env C (.unOp .neg t x) (.int kd (kd.wrap (0 - n))) := fun o ho a w S _ => .inl (by simp [execOp, ho, S.eval hx, Op.unary, Op.intArith])

/-- A slice of n elements. -/
def IsSl (v : Value) (n : Nat) : Prop := ∃ A c, v = .slice A n c ∧ n ≤ c ∧ (0 < n → ∃ p, A = some p)

theorem Rd.isSl {α : Type} {r : Rep α} {w : World} {v : Value} {xs : List α} (h : Rd (rList r) w v xs) : IsSl v xs.length := by
  obtain ⟨cs, hv, A, c, rfl, hc, h2⟩ := h
  refine ⟨A, c, by simpa [toVal, rList] using hv, hc, fun h0 => ?_⟩
  rcases h2 with rfl | ⟨p, _, hp, _⟩
  · simp at h0
  · exact ⟨p, hp⟩

theorem q_lenSl {l : Nat} {e : TypeId} {aty : Array TypeId} (hx : ev env x = some v) (hv : IsSl v l) (hat : aty[0]? = some t) (hu : P.underlying t = some (.slice e)) :
    Q1 P N env C (.call { callee := .builtin .len, args := #[x], argTypes := aty }) (.int .i64 l) := fun o ho a w S _ => .inl (by
  obtain ⟨A, cc, rfl, _⟩ := hv
  simp [execOp, ho, resolve, invoke, builtin, Builtin.len_, hat, S.eval hx, run_underlying hu, goInt])

theorem size_sv (s : Str) : (ByteArray.mk s.toArray).size = s.length := by show s.toArray.size = _; simp

theorem q_lenStr {s : Str} {aty : Array TypeId} (hx : ev env x = some (sv s)) (hat : aty[0]? = some t) (hu : P.underlying t = some .string) :
    Q1 P N env C (.call { callee := .builtin .len, args := #[x], argTypes := aty }) (.int .i64 s.length) := fun o ho a w S _ => .inl (by
  simp [execOp, ho, resolve, invoke, builtin, Builtin.len_, hat, S.eval hx, run_underlying hu, goInt, sv, size_sv])

/-- A pointer n cells on. -/
def pAdd : Value → Nat → Value
  | .pointer (some a), n => .pointer (some (a.add n))
  | v, _ => v
/-- The address of the cell k of a slice. -/
def ePtr : Value → Nat → Value
  | .slice (some a) _ _, k => .pointer (some (a.add k))
  | v, _ => v
/-- The pointer to a variable. -/
def bp (g : Nat) : Value := .pointer (some ⟨g, 0, none⟩)

def IsP (v : Value) : Prop := ∃ a, v = .pointer (some a)
theorem isP_bp (g : Nat) : IsP (bp g) := ⟨_, rfl⟩
theorem IsP.add {v : Value} (h : IsP v) (n : Nat) : IsP (pAdd v n) := by obtain ⟨a, rfl⟩ := h; exact ⟨_, rfl⟩
theorem IsSl.ptr {l i : Nat} (h : IsSl v l) (hi : i < l) (k : Nat) : IsP (ePtr v k) := by
  obtain ⟨A, c, rfl, _, h2⟩ := h
  obtain ⟨p, rfl⟩ := h2 (by omega)
  exact ⟨_, rfl⟩

theorem add_add (a : Addr) (m n : Nat) : (a.add m).add n = a.add (m + n) := by
  unfold Addr.add
  by_cases h1 : m = 0 <;> by_cases h2 : n = 0 <;> simp [h1, h2, Nat.add_assoc]

theorem pAdd_pAdd (v : Value) (m n : Nat) : pAdd (pAdd v m) n = pAdd v (m + n) := by
  unfold pAdd
  cases v with
  | pointer a => cases a <;> simp [add_add]
  | _ => rfl

/-- The cell j behind a pointer. -/
def At (w : World) (p : Value) (j : Nat) (u : Value) : Prop := ∃ a, p = .pointer (some a) ∧ w.cell? (a.add j) = some u

theorem At.of_add {w : World} {p : Value} {m j : Nat} {u : Value} (h : At w p (m + j) u) : At w (pAdd p m) j u := by
  obtain ⟨a, rfl, h⟩ := h
  exact ⟨a.add m, rfl, by rw [add_add]; exact h⟩

theorem Rd.elem {α : Type} {r : Rep α} {w : World} {v : Value} {xs : List α} (h : Rd (rList r) w v xs) {i : Nat} {x : α} (hi : xs[i]? = some x) :
    ∃ cs, r.rd w.heap.size w cs x ∧ ∀ j u, cs[j]? = some u → At w (ePtr v (i * r.size)) j u := by
  obtain ⟨cs, hv, A, c, rfl, hc, h2⟩ := h
  have hv' : v = .slice A xs.length c := by simpa [toVal, rList] using hv
  subst hv'
  rcases h2 with rfl | ⟨p, cc, rfl, hb, hcell, hL⟩
  · simp at hi
  · obtain ⟨cx, hx, hj⟩ := rdL_get hL hi
    exact ⟨cx, hx, fun j u hu => ⟨_, rfl, by rw [add_add]; exact hcell _ _ (hj j u hu)⟩⟩

theorem q_indexAddr {l : Nat} {e : TypeId} {sz : Nat} (hx : ev env x = some v) (hv : IsSl v l) (hy : ev env y = some (.int kd n)) (h0 : 0 ≤ n) (hl : n.toNat < l) (hu : P.underlying t = some (.slice e)) (hs : ∀ w, (sizeOf e).run P w = .ok sz w) :
    Q1 P N env C (.indexAddr t x y) (ePtr v (n.toNat * sz)) := fun o ho a w S _ => .inl (by
  obtain ⟨A, cc, rfl, _, h2⟩ := hv
  obtain ⟨p, rfl⟩ := h2 (by omega)
  have h3 : n < (l : Int) := by omega
  simp [execOp, ho, Instr.indexAt, asIntOf, S.eval hx, S.eval hy, run_underlying hu, h0, h3, hs, ePtr])

theorem q_fieldAddr {fs : Array Field} {f : Nat} {fd : Field} (hx : ev env x = some v) (hv : IsP v) (hu : P.underlying t = some (.struct fs)) (hf : fs[f]? = some fd) {sz : Nat} (hs : ∀ w, (sizeOf fd.type).run P w = .ok sz w) (hz : sz ≠ 0) :
    Q1 P N env C (.fieldAddr t x f) (pAdd v fd.offset) := fun o ho a w S _ => .inl (by
  obtain ⟨p, rfl⟩ := hv
  simp [execOp, ho, Instr.fieldAt, S.eval hx, run_underlying hu, hf, Instr.sureAddr, fieldPlace, hs, hz, pAdd])

theorem q_nilCheck (hx : ev env x = some v) (hv : IsP v) : Q1 P N env C (.nilCheck x) v := fun o ho a w S _ => .inl (by
  obtain ⟨p, rfl⟩ := hv
  simp [execOp, ho, S.eval hx])

/-- A load of one cell. -/
theorem q_load1 (hx : ev env x = some v) (ha : ∀ w, (isAgg t).run P w = .ok false w) (h : ∀ w, C w → At w v 0 u) : Q1 P N env C (.load t x) u := fun o ho a w S hC => .inl (by
  obtain ⟨p, rfl, hp⟩ := h w hC
  rw [show p.add 0 = p from by simp [Addr.add]] at hp
  simp [execOp, ho, S.eval hx, Instr.loadAt, Instr.sureAddr, loadVar, ha, hp])

/-- A load of a struct. -/
theorem q_loadA {cs : List Value} (hx : ev env x = some v) (hv : IsP v) (ha : ∀ w, (isAgg t).run P w = .ok true w) (hs : ∀ w, (sizeOf t).run P w = .ok cs.length w) (h : ∀ w, C w → ∀ j u, cs[j]? = some u → At w v j u) :
    Q1 P N env C (.load t x) (.agg cs.toArray) := fun o ho a w S hC => .inl (by
  obtain ⟨p, rfl⟩ := hv
  have hl := run_loadCells_list (P := P) w p cs (fun j u hu => by
    obtain ⟨q, hq, hc⟩ := h w hC j u hu
    cases hq
    exact hc)
  simp [execOp, ho, S.eval hx, Instr.loadAt, Instr.sureAddr, loadVar, ha, hs, hl])

theorem q_field1 {cs : List Value} {fs : Array Field} {f : Nat} {fd : Field} (hx : ev env x = some (.agg cs.toArray)) (hu : P.underlying t = some (.struct fs)) (hf : fs[f]? = some fd) (ha : ∀ w, (isAgg fd.type).run P w = .ok false w) (hv : cs[fd.offset]? = some u) :
    Q1 P N env C (.field t x f) u := fun o ho a w S _ => .inl (by
  simp [execOp, ho, S.eval hx, Instr.field, run_underlying hu, hf, asAgg, part, ha, hv])

theorem q_fieldA {cs : List Value} {fs : Array Field} {f : Nat} {fd : Field} {sz : Nat} (hx : ev env x = some (.agg cs.toArray)) (hu : P.underlying t = some (.struct fs)) (hf : fs[f]? = some fd) (ha : ∀ w, (isAgg fd.type).run P w = .ok true w)
    (hs : ∀ w, (sizeOf fd.type).run P w = .ok sz w) : Q1 P N env C (.field t x f) (.agg ((cs.drop fd.offset).take sz).toArray) := fun o ho a w S _ => .inl (by
  simp [execOp, ho, S.eval hx, Instr.field, run_underlying hu, hf, asAgg, part, ha, hs, List.extract_eq_take_drop])

theorem q_extract {vs : List Value} {i : Nat} (hx : ev env x = some (.tuple vs.toArray)) (hv : vs[i]? = some u) : Q1 P N env C (.extract x i) u := fun o ho a w S _ => .inl (by
  simp [execOp, ho, S.eval hx, Instr.extract, hv])

theorem q_makeFunc {fn : Fn} {xs ys : List Operand} {vs us : List Value} (hx : evl env xs = some vs) (hy : evl env ys = some us) : Q1 P N env C (.makeFunc fn xs.toArray ys.toArray) (.func fn vs.toArray us.toArray) := fun o ho a w S _ => .inl (by
  simp [execOp, ho, Instr.makeFunc, S.evals hx, S.evals hy])

theorem q_convInt {s d : TypeId} {ks k' : IntKind} (hx : ev env x = some (.int ks n)) {ds : TypeDesc} (hs : P.underlying s = some ds) (hd : P.underlying d = some (.int k')) : Q1 P N env C (.convert s d x) (.int k' (k'.wrap n)) := fun o ho a w S _ => .inl (by
  simp [execOp, ho, S.eval hx, convert, run_underlying hs, run_underlying hd, Conv.intToInt])

end
end Go.Gx
