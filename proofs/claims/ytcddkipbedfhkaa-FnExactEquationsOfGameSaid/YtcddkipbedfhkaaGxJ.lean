/-
  Maps with keys and values of one cell: made, looked up, written, counted.
-/
import Derived.Test.YtcddkipbedfhkaaGxT
import Derived.MapKept
namespace Go.Gx
open Go.RowKit

def mget {α β : Type} [DecidableEq α] : List (α × β) → α → Option β
  | [], _ => none
  | p :: m, k => if p.1 = k then some p.2 else mget m k
def mset {α β : Type} [DecidableEq α] : List (α × β) → α → β → List (α × β)
  | [], k, v => [(k, v)]
  | p :: m, k, v => if p.1 = k then (k, v) :: m else p :: mset m k v

abbrev pairs (es : List MapEntry) : List (Value × Value) := es.map fun e => (e.key, e.val)
abbrev encs {α β : Type} (ek : α → Value) (ev : β → Value) (m : List (α × β)) : List (Value × Value) := m.map fun p => (ek p.1, ev p.2)

/-- Keys of one kind, no two alike. -/
structure Keys {α : Type} (d : TypeDesc) (ek : α → Value) : Prop where
  is : ∀ a, MapKept.IsKey d (ek a)
  inj : ∀ a b, ek a = ek b → a = b
theorem keys_int (kd : IntKind) : Keys (.int kd) (fun n : Int => Value.int kd n) := ⟨fun _ => rfl, fun a b h => by cases h; rfl⟩
theorem keys_str : Keys .string (fun s : Str => sv s) := ⟨fun _ => trivial, fun a b h => by
  have h1 : (⟨a.toArray⟩ : ByteArray) = ⟨b.toArray⟩ := by simpa [sv] using h
  have h2 := congrArg (fun x : ByteArray => x.data.toList) h1
  simpa using h2⟩

/-- A map of its own. -/
def mapA {α β : Type} (ek : α → Value) (ev : β → Value) (g : Nat) (m : List (α × β)) : Asrt where
  holds w F := F = [g] ∧ ∃ es ck, w.heap[g]? = some (.map es ck) ∧ pairs es.toList = encs ek ev m
  keep := fun ⟨h1, es, ck, h2, h3⟩ hk => ⟨h1, es, ck, by rw [hk g (by rw [h1]; simp)]; exact h2, h3⟩
  lt := by
    rintro w F ⟨rfl, es, ck, h2, _⟩ b hb
    simp at hb
    subst hb
    exact (Array.getElem?_eq_some_iff.1 h2).1

def MapAt {α β : Type} (ek : α → Value) (ev : β → Value) (w : World) (g : Nat) (m : List (α × β)) : Prop := ∃ es ck, w.heap[g]? = some (.map es ck) ∧ pairs es.toList = encs ek ev m

theorem Heap.mapAt [dr : Dr] {α β : Type} {ek : α → Value} {ev : β → Value} {w0 w : World} {L : List Asrt} (H : Heap w0 L w) (k : Nat) {g : Nat} {m : List (α × β)} (hk : L[k]? = some (mapA ek ev g m)) : MapAt ek ev w g m := by
  obtain ⟨h0, F, hF, hn, hb⟩ := H
  obtain ⟨Fa, Fk, Fb, e, ⟨_, ho⟩, _, _⟩ := HL.split hF hk
  exact ho

/-- The search through the entries. -/
theorem findNow_m {α β : Type} [DecidableEq α] {d : TypeDesc} {ek : α → Value} {ev : β → Value} (K : Keys d ek) (k : α) : ∀ (l : List MapEntry) (m : List (α × β)) (i : Nat), pairs l = encs ek ev m →
    (Instr.findNow d (ek k) l i = some none ∧ mget m k = none ∧ ∀ v, mset m k v = m ++ [(k, v)]) ∨
    ∃ j u e, Instr.findNow d (ek k) l i = some (some (i + j, ev u)) ∧ mget m k = some u ∧ l[j]? = some e ∧ e.key = ek k ∧
      ∀ (v : β) (f : MapEntry → MapEntry), f e = { e with key := ek k, val := ev v } → pairs (l.modify j f) = encs ek ev (mset m k v)
  | [], m, _, h => by
    have : m = [] := by cases m <;> simp_all [pairs, encs]
    subst this
    exact .inl ⟨rfl, rfl, fun v => rfl⟩
  | e :: l, [], _, h => by simp [pairs, encs] at h
  | e :: l, p :: m, i, h => by
    simp only [pairs, encs, List.map_cons, List.cons.injEq, Prod.mk.injEq] at h
    obtain ⟨⟨hk, hv⟩, ht⟩ := h
    obtain ⟨r, hr, hiff⟩ := MapKept.sameNow_of_keys (K.is k) (show MapKept.IsKey d e.key by rw [hk]; exact K.is _)
    by_cases hp : p.1 = k
    · right
      have hrt : r = true := hiff.2 (by rw [hk, hp])
      subst hrt
      refine ⟨0, p.2, e, by simp [Instr.findNow, hr, hv], by simp [mget, hp], rfl, by rw [hk, hp], fun v f hf => ?_⟩
      simp only [mset, if_pos hp, List.modify_zero_cons, pairs, encs, List.map_cons, hf]
      rw [ht]
    · have hrf : r = false := by
        cases r with
        | false => rfl
        | true => exact absurd (K.inj _ _ (by rw [← hk]; exact (hiff.1 rfl).symm)) hp
      subst hrf
      rcases findNow_m K k l m (i + 1) ht with ⟨a, b, c⟩ | ⟨j, u, e', a, b, c, dd, ee⟩
      · exact .inl ⟨by simp [Instr.findNow, hr, a], by simp [mget, hp, b], fun v => by simp [mset, hp, c v]⟩
      · refine .inr ⟨j + 1, u, e', by simp [Instr.findNow, hr, a]; omega, by simp [mget, hp, b], by simpa using c, dd, fun v f hf => ?_⟩
        have := ee v f hf
        simp only [mset, if_neg hp, List.modify_succ_cons, pairs, encs, List.map_cons] at this ⊢
        rw [this, hk, hv]

section
variable {P : Program} {ops : Array Oper} {C : World → Prop} {eff : Nat → Bool} {Q : Act → World → Prop} {N : Nat} {env : List (Nat × Value)} {a : Act} {w w0 : World} {k : Nat} {rest : List Oper} {L : List Asrt}
variable {ty : TypeId} {pos : String} {after : Array Edge} {g : Option (Nat × Bool)} {d : Nat} {x y z : Operand}
variable {α β : Type} [DecidableEq α] {ek : α → Value} {ev' : β → Value} {td : TypeDesc} {mty kt et : TypeId} {b : Nat} {m : List (α × β)} {key : α} {val z0 : β}

omit [DecidableEq α] in
theorem lx_makeMap [dr : Dr] {t : TypeId} (ek : α → Value) (ev' : β → Value) (S : Slots a N env) (hw : Want ops env g) (hd : d < N) (he : eff k = true) (H : Heap w0 L w)
    (h : ∀ b w', Heap w0 (mapA ek ev' b ([] : List (α × β)) :: L) w' → C w' ∧ ∀ a, Slots a N ((d, .map (some b)) :: env) → LX P ops C eff Q (k + 1) rest a w') :
    LX P ops C eff Q k (⟨some d, .makeMap t none, ty, pos, after, g⟩ :: rest) a w := by
  have h' := h w.heap.size (w.alloc (.map #[] 0)) (H.alloc _ ⟨rfl, #[], 0, heap_alloc_new w _, rfl⟩)
  exact lx_val S hw hd he (fun a S => by simp [execOp, Instr.makeMap]) h'.1 h'.2

theorem q_lookup (K : Keys td ek) (hx : ev env x = some (.map (some b))) (hy : ev env y = some (ek key)) (hm : P.underlying mty = some (.map kt et)) (hk : P.underlying kt = some td)
    (hz : ∀ w, (zeroValue et).run P w = .ok (ev' z0) w) (h : ∀ w, C w → MapAt ek ev' w b m) :
    Q1 P N env C (.lookup mty x y true) (.tuple #[ev' ((mget m key).getD z0), .bool (mget m key).isSome]) := fun o ho a w S hC => .inl (by
  obtain ⟨es, ck, hb, hp⟩ := h w hC
  have hrun : (Instr.lookup mty (.map (some b)) (ek key) true).run P w = .ok (.tuple #[ev' ((mget m key).getD z0), .bool (mget m key).isSome]) w := by
    rcases findNow_m (ev := ev') K key es.toList m 0 hp with ⟨h1, h2, _⟩ | ⟨j, u, e, h1, h2, _⟩
    · simp [Instr.lookup, run_underlying hm, MapKept.run_getObj_map hb, MapKept.run_checkKey hk (K.is key), MapKept.run_findKey hk h1, hz, Result.andThen, h2]
    · simp [Instr.lookup, run_underlying hm, MapKept.run_getObj_map hb, MapKept.run_checkKey hk (K.is key), MapKept.run_findKey hk h1, Result.andThen, h2]
  simp [execOp, ho, S.eval hx, S.eval hy, hrun])
theorem q_lookup1 (K : Keys td ek) (hx : ev env x = some (.map (some b))) (hy : ev env y = some (ek key)) (hm : P.underlying mty = some (.map kt et)) (hk : P.underlying kt = some td)
    (hz : ∀ w, (zeroValue et).run P w = .ok (ev' z0) w) (h : ∀ w, C w → MapAt ek ev' w b m) :
    Q1 P N env C (.lookup mty x y false) (ev' ((mget m key).getD z0)) := fun o ho a w S hC => .inl (by
  obtain ⟨es, ck, hb, hp⟩ := h w hC
  have hrun : (Instr.lookup mty (.map (some b)) (ek key) false).run P w = .ok (ev' ((mget m key).getD z0)) w := by
    rcases findNow_m (ev := ev') K key es.toList m 0 hp with ⟨h1, h2, _⟩ | ⟨j, u, e, h1, h2, _⟩
    · simp [Instr.lookup, run_underlying hm, MapKept.run_getObj_map hb, MapKept.run_checkKey hk (K.is key), MapKept.run_findKey hk h1, hz, Result.andThen, h2]
    · simp [Instr.lookup, run_underlying hm, MapKept.run_getObj_map hb, MapKept.run_checkKey hk (K.is key), MapKept.run_findKey hk h1, Result.andThen, h2]
  simp [execOp, ho, S.eval hx, S.eval hy, hrun])
omit [DecidableEq α] in
theorem q_lenMap {aty : Array TypeId} {t : TypeId} (hx : ev env x = some (.map (some b))) (hat : aty[0]? = some t) (hu : P.underlying t = some (.map kt et)) (h : ∀ w, C w → MapAt ek ev' w b m) :
    Q1 P N env C (.call { callee := .builtin .len, args := #[x], argTypes := aty }) (.int .i64 (m.length : Int)) := fun o ho a w S hC => .inl (by
  obtain ⟨es, ck, hb, hp⟩ := h w hC
  have hl : es.size = m.length := by
    have := congrArg List.length hp
    simpa [pairs, encs] using this
  simp [execOp, ho, resolve, invoke, builtin, Builtin.len_, hat, S.eval hx, run_underlying hu, goInt, MapKept.run_getObj_map hb, hl])

theorem lx_mapUpdate [dr : Dr] (K : Keys td ek) (S : Slots a N env) (hw : Want ops env g) (he : eff k = true) (H : Heap w0 (mapA ek ev' b m :: L) w) (hx : ev env x = some (.map (some b))) (hy : ev env y = some (ek key)) (hv : ev env z = some (ev' val))
    (hm : P.underlying mty = some (.map kt et)) (hk : P.underlying kt = some td)
    (h : ∀ w', Heap w0 (mapA ek ev' b (mset m key val) :: L) w' → C w' ∧ ∀ a, Slots a N env → LX P ops C eff Q (k + 1) rest a w') :
    LX P ops C eff Q k (⟨none, .mapUpdate mty x y z, ty, pos, after, g⟩ :: rest) a w := by
  obtain ⟨es, ck, hb, hp⟩ := H.mapAt 0 rfl
  have key' : ∃ o', (Instr.mapUpdate mty (.map (some b)) (ek key) (ev' val)).run P w = .ok () { w with heap := w.heap.setIfInBounds b o' } ∧ ∃ es' ck', o' = .map es' ck' ∧ pairs es'.toList = encs ek ev' (mset m key val) := by
    rcases findNow_m (ev := ev') K key es.toList m 0 hp with ⟨h1, h2, h3⟩ | ⟨j, u, e, h1, h2, h3, h4, h5⟩
    · refine ⟨.map (es.push { key := ek key, val := ev' val, born := ck }) (ck + 1), ?_, _, _, rfl, ?_⟩
      · simp [Instr.mapUpdate, run_underlying hm, MapKept.run_getObj_map hb, MapKept.run_checkKey hk (K.is key), MapKept.run_findKey hk h1, MapKept.run_setObj_map _ hb, Result.andThen]
      · rw [h3]
        simp only [pairs, encs, Array.toList_push, List.map_append, List.map_cons, List.map_nil] at hp ⊢
        rw [hp]
    · have hj : es[j]? = some e := by simpa using h3
      refine ⟨.map (es.modify j fun e => { e with key := ek key, val := ev' val }) ck, ?_, _, _, rfl, ?_⟩
      · simp [Instr.mapUpdate, run_underlying hm, MapKept.run_getObj_map hb, MapKept.run_checkKey hk (K.is key), MapKept.run_findKey hk h1, hj, h4, MapKept.run_keyThatStays (K.is key), MapKept.run_setObj_map _ hb, Result.andThen]
      · have := h5 val (fun e => { e with key := ek key, val := ev' val }) rfl
        rw [Array.toList_modify]
        exact this
  obtain ⟨o', hrun, es', ck', rfl, hp'⟩ := key'
  have hset := MapKept.heap_set (o' := .map es' ck') hb
  have H' : Heap w0 (mapA ek ev' b (mset m key val) :: L) { w with heap := w.heap.setIfInBounds b (.map es' ck') } := by
    have := H.turn (w' := { w with heap := w.heap.setIfInBounds b (.map es' ck') }) (A' := mapA ek ev' b (mset m key val)) 0 rfl rfl rfl ⟨rfl, Nat.le_refl _⟩ (by simp) (fun F hF hn => by
      obtain ⟨rfl, _⟩ := hF
      refine ⟨[b], ⟨rfl, es', ck', hset.1, hp'⟩, by simp, fun q hq => .inl hq, fun q _ hq => hset.2 q (by simpa using hq)⟩)
    simpa using this
  have h' := h _ H'
  exact lx_unit S hw he (fun a S => by simp [execOp, S.eval hx, S.eval hy, S.eval hv, hrun]) h'.1 h'.2
end
end Go.Gx
