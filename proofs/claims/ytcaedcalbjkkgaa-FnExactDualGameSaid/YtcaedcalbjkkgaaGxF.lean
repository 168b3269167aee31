/-
  The steps of the walk: calls, new memory, stores, append.
-/
import Derived.Test.YtcaedcalbjkkgaaGxE
namespace Go.Gx
open Go.RowKit

section
variable {P : Program} {ops : Array Oper} {C : World → Prop} {eff : Nat → Bool} {Q : Act → World → Prop} {N : Nat} {env : List (Nat × Value)} {a : Act} {w w0 : World} {k : Nat} {rest : List Oper} {L : List Asrt}
variable {x y z : Operand} {v u : Value} {t yt ty : TypeId} {pos : String} {after : Array Edge} {g : Option (Nat × Bool)} {d : Nat} {op : Op}

/-- An operation that only reads, in the world as it is. -/
theorem lx_e (v : Value) (S : Slots a N env) (hw : Want ops env g) (hd : d < N) (he : eff k = true) (hC : C w) (hr : Q1 P N env (fun w1 => w1 = w) op v)
    (h : ∀ a, Slots a N ((d, v) :: env) → LX P ops C eff Q (k + 1) rest a w) : LX P ops C eff Q k (⟨some d, op, ty, pos, after, g⟩ :: rest) a w := by
  unfold LX Step
  rw [if_pos (wanted_of (o := ⟨some d, op, ty, pos, after, g⟩) S hw)]
  refine .inr ⟨he, ?_⟩
  unfold EffAt
  rcases hr ⟨some d, op, ty, pos, after, g⟩ rfl a w S rfl with hx | ⟨hx, rfl⟩ <;> rw [hx]
  · exact ⟨hC, h _ (S.put d v hd)⟩
  · exact ⟨hC, h _ (S.put d _ hd)⟩

/-- What an operation that returns a value does. -/
theorem lx_val (S : Slots a N env) (hw : Want ops env g) (hd : d < N) (he : eff k = true) {w' : World}
    (hr : ∀ a, Slots a N env → (execOp a.eval ⟨some d, op, ty, pos, after, g⟩).run P w = .ok (.value v) w') (hC : C w')
    (h : ∀ a, Slots a N ((d, v) :: env) → LX P ops C eff Q (k + 1) rest a w') : LX P ops C eff Q k (⟨some d, op, ty, pos, after, g⟩ :: rest) a w := by
  unfold LX Step
  rw [if_pos (wanted_of (o := ⟨some d, op, ty, pos, after, g⟩) S hw)]
  refine .inr ⟨he, ?_⟩
  unfold EffAt
  rw [hr a S]
  exact ⟨hC, h _ (S.put d v hd)⟩

theorem lx_unit (S : Slots a N env) (hw : Want ops env g) (he : eff k = true) {w' : World}
    (hr : ∀ a, Slots a N env → (execOp a.eval ⟨none, op, ty, pos, after, g⟩).run P w = .ok .skip w') (hC : C w')
    (h : ∀ a, Slots a N env → LX P ops C eff Q (k + 1) rest a w') : LX P ops C eff Q k (⟨none, op, ty, pos, after, g⟩ :: rest) a w := by
  unfold LX Step
  rw [if_pos (wanted_of (o := ⟨none, op, ty, pos, after, g⟩) S hw)]
  refine .inr ⟨he, ?_⟩
  unfold EffAt
  rw [hr a S]
  exact ⟨hC, h _ (S.putN _)⟩

/-- A call of a named function. -/
theorem lx_call {f : FuncId} {xs : List Operand} {vs : List Value} {aty : Array TypeId} (S : Slots a N env) (hw : Want ops env g) (hd : d < N) (he : eff k = true) (hx : evl env xs = some vs)
    (hcall : ∀ args w, (callFunc f args).run P w = .ok (.enter f args) w)
    (h : Calls P f vs.toArray w fun e w' => ∃ v, e = .returned v ∧ C w' ∧ ∀ a, Slots a N ((d, v) :: env) → LX P ops C eff Q (k + 1) rest a w') :
    LX P ops C eff Q k (⟨some d, .call { callee := .value (.func f), args := xs.toArray, argTypes := aty }, ty, pos, after, g⟩ :: rest) a w := by
  unfold LX Step
  rw [if_pos (wanted_of (o := ⟨some d, .call { callee := .value (.func f), args := xs.toArray, argTypes := aty }, ty, pos, after, g⟩) S hw)]
  refine .inr ⟨he, ?_⟩
  unfold EffAt
  have hr : (execOp a.eval ⟨some d, .call { callee := .value (.func f), args := xs.toArray, argTypes := aty }, ty, pos, after, g⟩).run P w = .ok (.enter f vs.toArray) w := by
    simp [execOp, resolve, Act.eval, Deferred.ofValue, invoke, hcall, S.evals hx]
  rw [hr]
  exact h.mono fun e w' ⟨v, h1, h2, h3⟩ => ⟨v, h1, h2, h3 _ (S.put d v hd)⟩

theorem lx_callN {f : FuncId} {xs : List Operand} {vs : List Value} {aty : Array TypeId} (S : Slots a N env) (hw : Want ops env g) (he : eff k = true) (hx : evl env xs = some vs)
    (hcall : ∀ args w, (callFunc f args).run P w = .ok (.enter f args) w)
    (h : Calls P f vs.toArray w fun e w' => ∃ v, e = .returned v ∧ C w' ∧ ∀ a, Slots a N env → LX P ops C eff Q (k + 1) rest a w') :
    LX P ops C eff Q k (⟨none, .call { callee := .value (.func f), args := xs.toArray, argTypes := aty }, ty, pos, after, g⟩ :: rest) a w := by
  unfold LX Step
  rw [if_pos (wanted_of (o := ⟨none, .call { callee := .value (.func f), args := xs.toArray, argTypes := aty }, ty, pos, after, g⟩) S hw)]
  refine .inr ⟨he, ?_⟩
  unfold EffAt
  have hr : (execOp a.eval ⟨none, .call { callee := .value (.func f), args := xs.toArray, argTypes := aty }, ty, pos, after, g⟩).run P w = .ok (.enter f vs.toArray) w := by
    simp [execOp, resolve, Act.eval, Deferred.ofValue, invoke, hcall, S.evals hx]
  rw [hr]
  exact h.mono fun e w' ⟨v, h1, h2, h3⟩ => ⟨v, h1, h2, h3 _ (S.putN v)⟩

/-- A call of a function value. -/
theorem lx_callV {f : FuncId} {xs : List Operand} {vs first cap : List Value} {aty : Array TypeId} (S : Slots a N env) (hw : Want ops env g) (hd : d < N) (he : eff k = true) (hv : ev env z = some (.func (.func f) first.toArray cap.toArray)) (hx : evl env xs = some vs)
    (hcall : ∀ args w, (callFunc f args).run P w = .ok (.enter f args) w)
    (h : Calls P f (first ++ vs ++ cap).toArray w fun e w' => ∃ v, e = .returned v ∧ C w' ∧ ∀ a, Slots a N ((d, v) :: env) → LX P ops C eff Q (k + 1) rest a w') :
    LX P ops C eff Q k (⟨some d, .call { callee := .value z, args := xs.toArray, argTypes := aty }, ty, pos, after, g⟩ :: rest) a w := by
  unfold LX Step
  rw [if_pos (wanted_of (o := ⟨some d, .call { callee := .value z, args := xs.toArray, argTypes := aty }, ty, pos, after, g⟩) S hw)]
  refine .inr ⟨he, ?_⟩
  unfold EffAt
  have hr : (execOp a.eval ⟨some d, .call { callee := .value z, args := xs.toArray, argTypes := aty }, ty, pos, after, g⟩).run P w = .ok (.enter f (first ++ vs ++ cap).toArray) w := by
    simp [execOp, resolve, S.eval hv, Deferred.ofValue, invoke, hcall, S.evals hx]
  rw [hr]
  exact h.mono fun e w' ⟨v, h1, h2, h3⟩ => ⟨v, h1, h2, h3 _ (S.put d v hd)⟩

/-- A variable of its own block. -/
theorem lx_box [dr : Dr] {e : TypeId} {cs : List Value} (S : Slots a N env) (hw : Want ops env g) (hd : d < N) (he : eff k = true) (H : Heap w0 L w) (hx : ev env x = some v) (hv : v.cells = cs.toArray)
    (h : ∀ b w', Heap w0 (bA b cs e :: L) w' → C w' ∧ ∀ a, Slots a N ((d, bp b) :: env) → LX P ops C eff Q (k + 1) rest a w') :
    LX P ops C eff Q k (⟨some d, .box e x, ty, pos, after, g⟩ :: rest) a w := by
  have h' := h w.heap.size (w.alloc (.cells cs.toArray e)) (H.alloc _ ⟨rfl, heap_alloc_new w _⟩)
  exact lx_val S hw hd he (fun a S => by simp [execOp, S.eval hx, Instr.box, newVar, newRow, hv, bp]) h'.1 h'.2

theorem lx_alloc [dr : Dr] {e : TypeId} {cs : List Value} (S : Slots a N env) (hw : Want ops env g) (hd : d < N) (he : eff k = true) (H : Heap w0 L w) (hz : ∀ w, (zeroValue e).run P w = .ok v w) (hv : v.cells = cs.toArray)
    (h : ∀ b w', Heap w0 (bA b cs e :: L) w' → C w' ∧ ∀ a, Slots a N ((d, bp b) :: env) → LX P ops C eff Q (k + 1) rest a w') :
    LX P ops C eff Q k (⟨some d, .alloc e, ty, pos, after, g⟩ :: rest) a w := by
  have h' := h w.heap.size (w.alloc (.cells cs.toArray e)) (H.alloc _ ⟨rfl, heap_alloc_new w _⟩)
  exact lx_val S hw hd he (fun a S => by simp [execOp, Instr.alloc, hz, newVar, newRow, hv, bp]) h'.1 h'.2

/-- A row with some cells written over. -/
def splice (cs : List Value) (o : Nat) (us : List Value) : List Value := cs.take o ++ us ++ cs.drop (o + us.length)

theorem heap_setRow_same {w : World} {b : Nat} {cs us : Array Value} {t : TypeId} {fr : Nat × Nat} (h : w.heap[b]? = some (.cells cs t fr)) : (w.setRow b us).heap[b]? = some (.cells us t fr) := setRow_heap w b cs us t fr h

theorem run_storeVar_row {b o : Nat} {cs us : List Value} {e : TypeId} (hb : w.heap[b]? = some (.cells cs.toArray e (0, 0))) (hv : v.cells = us.toArray) (hs : ∀ w, (sizeOf t).run P w = .ok us.length w)
    (ho : o + us.length ≤ cs.length) (h1 : ∀ c ∈ us, c.oneCell' = true) : (storeVar t ((⟨b, 0, none⟩ : Addr).add o) v).run P w = .ok () (w.setRow b (splice cs o us).toArray) := by
  have hst := run_storeCells_at P b o e us 0 cs.toArray w hb (by simpa using ho) h1
  have ha : (⟨b, 0, none⟩ : Addr).add o = ⟨b, o, none⟩ := by unfold Addr.add; split <;> simp_all
  simp only [Nat.add_zero] at hst
  rw [ha]
  simp [storeVar, hv, hs, hst, splice]

theorem setRow_turns {w : World} {b : Nat} {cs : Array Value} : (w.setRow b cs).os = w.os ∧ (w.setRow b cs).tape = w.tape ∧ (w.setRow b cs).output = w.output ∧ (w.setRow b cs).heap.size = w.heap.size ∧ ∀ i, i ≠ b → (w.setRow b cs).heap[i]? = w.heap[i]? := by
  refine ⟨rfl, rfl, rfl, by simp, fun i hi => setRow_other w b i cs hi⟩

/-- A store into a variable of its own block. -/
theorem lx_storeBox [dr : Dr] {b o i : Nat} {cs us : List Value} {e : TypeId} (S : Slots a N env) (hw : Want ops env g) (he : eff k = true) (H : Heap w0 L w) (hk : L[i]? = some (bA b cs e)) (hx : ev env x = some (pAdd (bp b) o)) (hy : ev env y = some v)
    (hv : v.cells = us.toArray) (hs : ∀ w, (sizeOf t).run P w = .ok us.length w) (ho : o + us.length ≤ cs.length) (h1 : ∀ c ∈ us, c.oneCell' = true) {cs' : List Value} (hcs : splice cs o us = cs')
    (h : ∀ w', Heap w0 (L.set i (bA b cs' e)) w' → C w' ∧ ∀ a, Slots a N env → LX P ops C eff Q (k + 1) rest a w') :
    LX P ops C eff Q k (⟨none, .store t x y, ty, pos, after, g⟩ :: rest) a w := by
  have hb := H.box i hk
  obtain ⟨t1, t2, t3, t4, t5⟩ := setRow_turns (w := w) (b := b) (cs := cs'.toArray)
  have h' := h (w.setRow b cs'.toArray) (H.turn i hk t1 t2 ⟨t3, Nat.le_refl _⟩ (by omega) fun F ⟨hF, _⟩ _ => by
    subst hF
    exact ⟨[b], ⟨rfl, heap_setRow_same hb⟩, by simp, fun c hc => .inl hc, fun c _ hc => t5 c (by simpa using hc)⟩)
  refine lx_unit S hw he (fun a S => ?_) h'.1 h'.2
  have hx' : a.eval x = .pointer (some ((⟨b, 0, none⟩ : Addr).add o)) := S.eval hx
  have hrun := run_storeVar_row (P := P) (t := t) (o := o) hb hv hs ho h1
  rw [hcs] at hrun
  generalize (⟨b, 0, none⟩ : Addr).add o = p at hx' hrun
  simp [execOp, hx', S.eval hy, Instr.storeAt, Instr.sureAddr, hrun]

theorem boxAt [dr : Dr] {i b j : Nat} {cs : List Value} {e : TypeId} (H : Heap w0 L w) (hk : L[i]? = some (bA b cs e)) (hu : cs[j]? = some u) : At w (bp b) j u := by
  refine ⟨_, rfl, ?_⟩
  have ha : (⟨b, 0, none⟩ : Addr).add j = ⟨b, j, none⟩ := by unfold Addr.add; split <;> simp_all
  rw [ha, cell_of_row w b j cs.toArray e (0, 0) (H.box i hk)]
  simpa using hu

theorem drop_nil_own {α : Type} {r : Rep α} {w : World} : (oA (rList r) (.slice none 0 0) ([] : List α)).holds w [] := ⟨[.slice none 0 0], rfl, .inl ⟨rfl, rfl, rfl⟩⟩

theorem ownL_replicate {α : Type} {r : Rep α} {w : World} {cs : List Value} {z0 : α} (h : r.own w [] cs z0) : ∀ n, ownL r w [] (List.replicate n cs).flatten (List.replicate n z0)
  | 0 => ⟨rfl, rfl⟩
  | n + 1 => ⟨[], [], cs, _, rfl, by rw [List.replicate_succ, List.flatten_cons], h, ownL_replicate h n⟩

/-- make([]T, n). -/
theorem lx_make [dr : Dr] {α : Type} {r : Rep α} {e : TypeId} {i : TypeInfo} {zv : Value} {z0 : α} {n : Nat} {kd kc : IntKind} (S : Slots a N env) (hw : Want ops env g) (hd : d < N) (he : eff k = true) (H : Heap w0 L w)
    (hx : ev env x = some (.int kd n)) (hy : ev env y = some (.int kc n)) (ht : P.underlying t = some (.slice e)) (hi : P.info? e = some i) (hz : i.zero = some zv) (hsz : i.size = r.size) (hzl : 0 < r.size)
    (hown : ∀ w, r.own w [] zv.cells.toList z0) (hn : n ≤ 1099511627776) (hby : i.bytes ≤ 128)
    (h : ∀ v w', Heap w0 (oA (rList r) v (List.replicate n z0) :: L) w' → C w' ∧ ∀ a, Slots a N ((d, v) :: env) → LX P ops C eff Q (k + 1) rest a w') :
    LX P ops C eff Q k (⟨some d, .makeSlice t x y, ty, pos, after, g⟩ :: rest) a w := by
  have hb1 : i.bytes * n ≤ 128 * 1099511627776 := Nat.mul_le_mul hby hn
  have hb2 : (i.bytes : Int) * (n : Int) ≤ 281474976710656 := by
    have h : ((i.bytes * n : Nat) : Int) ≤ 281474976710656 := by omega
    rwa [Int.natCast_mul] at h
  have hrun := run_make (P := P) w t e i zv ht hi hz kd kc n n (by omega) (by omega) hb2 (by omega)
  simp only [Int.toNat_natCast] at hrun
  have hcl := r.own_len (hown w)
  have hrow : ownL r (w.alloc (.cells (madeCells zv.cells (n * i.size)) e)) [] ((madeCells zv.cells (n * i.size)).toList) (List.replicate n z0) := by
    rw [hsz]
    have key : ∀ m, (madeCells zv.cells (m * r.size)).toList = (List.replicate m zv.cells.toList).flatten := by
      intro m
      apply List.ext_getElem?
      intro j
      have hzs : zv.cells.size = r.size := by simpa using hcl
      rw [show (madeCells zv.cells (m * r.size)).toList[j]? = (madeCells zv.cells (m * r.size))[j]? by simp]
      have hlen : (List.replicate m zv.cells.toList).flatten.length = m * r.size := by simp [hzs]
      by_cases hj : j < m * r.size
      · have hq : j / r.size < m := Nat.div_lt_of_lt_mul (by rw [Nat.mul_comm]; exact hj)
        have hmod := Nat.mod_lt j hzl
        have e1 : (madeCells zv.cells (m * r.size))[j]? = some (zv.cells[j % r.size]!) := by simp [madeCells, hj, hzs]
        rw [e1]
        have : ∀ (m' : Nat) (j' : Nat), j' < m' * r.size → (List.replicate m' zv.cells.toList).flatten[j']? = some (zv.cells[j' % r.size]!) := by
          intro m'
          induction m' with
          | zero => intro j' h; simp at h
          | succ m' ih =>
            intro j' h
            rw [List.replicate_succ, List.flatten_cons]
            by_cases hlt : j' < r.size
            · rw [List.getElem?_append_left (by simpa [hzs] using hlt), Nat.mod_eq_of_lt hlt]
              simp [hzs, hlt]
            · rw [List.getElem?_append_right (by simp [hzs]; omega)]
              rw [show zv.cells.toList.length = r.size by simp [hzs], ih (j' - r.size) (by rw [Nat.add_mul, Nat.one_mul] at h; omega)]
              rw [← Nat.mod_eq_sub_mod (by omega)]
        exact (this m j hj).symm
      · rw [List.getElem?_eq_none (by omega)]
        simp [madeCells]; omega
    rw [key]
    exact ownL_replicate (hown _) n
  have h' := h (.slice (some ⟨w.heap.size, 0, none⟩) n n) (w.alloc (.cells (madeCells zv.cells (n * i.size)) e)) (H.alloc _ ?_)
  · exact lx_val S hw hd he (fun a S => by simp [execOp, S.eval hx, S.eval hy, hrun]) h'.1 h'.2
  · refine ⟨[.slice (some ⟨w.heap.size, 0, none⟩) n n], rfl, .inr ⟨w.heap.size, 0, n, madeCells zv.cells (n * i.size), e, [], (madeCells zv.cells (n * i.size)).toList, by simp, rfl, heap_alloc_new w _, ?_, by simp, ?_, ?_, hrow⟩⟩
    · simp [size_madeCells, hsz]
    · simp only [maxLen]; omega
    · simp [hsz, List.take_of_length_le, size_madeCells]
end
end Go.Gx
