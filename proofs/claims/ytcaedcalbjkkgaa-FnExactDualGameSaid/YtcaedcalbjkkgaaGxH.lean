/-
  The steps of the walk: append and stores into elements, over owned pieces.
-/
import Derived.Test.YtcaedcalbjkkgaaGxG
namespace Go.Gx
open Go.RowKit

/-- A datum without blocks: what reads so is owned so. -/
def Flat {α : Type} (r : Rep α) : Prop := ∀ B w cs x, r.rd B w cs x → ∀ w', r.own w' [] cs x

theorem flat_int (k : IntKind) : Flat (rInt k) := fun _ _ _ _ h _ => ⟨rfl, h⟩
theorem flat_bool : Flat rBool := fun _ _ _ _ h _ => ⟨rfl, h⟩
theorem flat_str : Flat rStr := fun _ _ _ _ h _ => ⟨rfl, h⟩
theorem flat_prod {α β : Type} {r : Rep α} {s : Rep β} (h1 : Flat r) (h2 : Flat s) : Flat (rProd r s) := fun B w _ _ ⟨c1, c2, e, a, b⟩ w' => ⟨[], [], c1, c2, rfl, e, h1 B w _ _ a w', h2 B w _ _ b w'⟩

theorem flat_list {α : Type} {r : Rep α} (hf : Flat r) {B : Nat} {w w' : World} : ∀ {xs : List α} {cs}, rdL r B w cs xs → ownL r w' [] cs xs
  | [], _, h => ⟨rfl, h⟩
  | _ :: _, _, ⟨c1, c2, e, h1, h2⟩ => ⟨[], [], c1, c2, rfl, e, hf B w _ _ h1 w', flat_list hf h2⟩

theorem oA_list {α : Type} {r : Rep α} {v : Value} {xs : List α} {w : World} {F : List Nat} : (oA (rList r) v xs).holds w F ↔ (rList r).own w F [v] xs := by
  constructor
  · rintro ⟨cs, rfl, h⟩
    have : cs = [toVal (rList r) cs] := by
      rcases h with ⟨_, _, rfl⟩ | ⟨g, o, cap, cur, te, F', cc, rfl, _⟩ <;> rfl
    rw [← this]
    exact h
  · intro h
    exact ⟨[v], rfl, h⟩

/-- Two pieces as one. -/
def sA (A B : Asrt) : Asrt where
  holds w F := ∃ F1 F2, F = F1 ++ F2 ∧ A.holds w F1 ∧ B.holds w F2
  keep := by
    rintro w w' F ⟨F1, F2, rfl, h1, h2⟩ hk
    exact ⟨F1, F2, rfl, A.keep h1 fun b hb => hk b (by simp [hb]), B.keep h2 fun b hb => hk b (by simp [hb])⟩
  lt := by
    rintro w F ⟨F1, F2, rfl, h1, h2⟩ b hb
    rcases List.mem_append.1 hb with hb | hb
    · exact A.lt h1 b hb
    · exact B.lt h2 b hb

theorem Heap.join [dr : Dr] {w0 w : World} {A B : Asrt} {L : List Asrt} (H : Heap w0 (A :: B :: L) w) : Heap w0 (sA A B :: L) w := H.two fun F G h1 h2 => ⟨F, G, rfl, h1, h2⟩

section
variable {P : Program} {ops : Array Oper} {C : World → Prop} {eff : Nat → Bool} {Q : Act → World → Prop} {N : Nat} {env : List (Nat × Value)} {a : Act} {w w0 : World} {k : Nat} {rest : List Oper} {L : List Asrt}
variable {x y z : Operand} {v u : Value} {t yt ty : TypeId} {pos : String} {after : Array Edge} {g : Option (Nat × Bool)} {d : Nat} {op : Op}

theorem run_append_op {v' : Value} {w' : World} (hx : ev env x = some v) (hy : ev env y = some u) (hr : (Builtin.append_ #[t, t] ty #[v, u]).run P w = .ok v' w') (a : Act) (S : Slots a N env) :
    (execOp a.eval ⟨some d, .call { callee := .builtin .append, args := #[x, y], argTypes := #[t, t] }, ty, pos, after, g⟩).run P w = .ok (.value v') w' := by
  simp [execOp, resolve, invoke, builtin, S.eval hx, S.eval hy, hr]

/-- append(xs, ys...), both owned: the elements move. -/
theorem lx_appendOwn [dr : Dr] {α : Type} {r : Rep α} {e : TypeId} {i : TypeInfo} {zv : Value} {xs ys : List α} (S : Slots a N env) (hw : Want ops env g) (hd : d < N) (he : eff k = true) (H : Heap w0 (oA (rList r) v xs :: oA (rList r) u ys :: L) w)
    (hx : ev env x = some v) (hy : ev env y = some u) (ht : P.underlying t = some (.slice e)) (hi : P.info? e = some i) (hz : i.zero = some zv) (hsz : i.size = r.size) (hzs : zv.cells.size = r.size) (hpos : 0 < r.size) (hby : i.bytes ≤ 128)
    (h63 : xs.length + ys.length ≤ 1099511627776)
    (h : ∀ v' w', Heap w0 (oA (rList r) v' (xs ++ ys) :: L) w' → C w' ∧ ∀ a, Slots a N ((d, v') :: env) → LX P ops C eff Q (k + 1) rest a w') :
    LX P ops C eff Q k (⟨some d, .call { callee := .builtin .append, args := #[x, y], argTypes := #[t, t] }, ty, pos, after, g⟩ :: rest) a w := by
  obtain ⟨F1, F2, hF1, hF2⟩ : ∃ F1 F2, (oA (rList r) v xs).holds w F1 ∧ (oA (rList r) u ys).holds w F2 := by
    obtain ⟨_, F, ⟨F1, _, _, h1, F3, _, _, h2, _⟩, _⟩ := H
    exact ⟨F1, F3, h1, h2⟩
  -- the source's cells
  have src : ∀ F2, (oA (rList r) u ys).holds w F2 → ∃ news G, Src w r.size u ys.length news ∧ ownL r w G news ys ∧ (∀ b ∈ G, b ∈ F2) ∧ (F2.Nodup → G.Nodup) := by
    intro F2 h2
    rcases oA_list.1 h2 with ⟨rfl, rfl, hv⟩ | ⟨b, o, cap, cur, te, F', cc, hv, rfl, hb, hfit, hnc, hcm, htake, hL⟩
    · cases hv
      exact ⟨[], [], ⟨none, 0, rfl, by simp, .inl rfl⟩, ⟨rfl, rfl⟩, by simp, fun _ => List.nodup_nil⟩
    · cases hv
      refine ⟨cc, F', ⟨some ⟨b, o, none⟩, cap, rfl, ownL_len hL, .inr ⟨_, rfl, fun j q hq => ?_⟩⟩, hL, fun c hc => by simp [hc], fun h => (List.nodup_cons.1 h).2⟩
      have hadd : (⟨b, o, none⟩ : Addr).add j = ⟨b, o + j, none⟩ := by unfold Addr.add; split <;> simp_all
      rw [hadd, cell_of_row w b (o + j) cur te (0, 0) hb]
      rw [← htake, List.getElem?_take] at hq
      split at hq
      · rw [List.getElem?_drop] at hq; simpa using hq
      · cases hq
  obtain ⟨news, G, hsrc, hG, _, _⟩ := src F2 hF2
  obtain ⟨v', w', hr, t1, t2, t3, t4, _, _⟩ := run_append_rep (P := P) (v := v) (u := u) (ty := ty) ht hi hz hsz hzs hpos (oA_list.1 hF1) hsrc (ownL_one hG) h63 hby
  have h' := h v' w' (H.join.turn 0 rfl t1 t2 t3 t4 fun F ⟨Fa, Fb, e1, ha, hb⟩ hn => ?_)
  · exact lx_val S hw hd he (fun a S => run_append_op hx hy hr a S) h'.1 h'.2
  · subst e1
    obtain ⟨news', G', hsrc', hG', hGs, hGn⟩ := src Fb hb
    obtain ⟨v2, w2, hr2, _, _, _, _, h5, h6⟩ := run_append_rep (P := P) (v := v) (u := u) (ty := ty) ht hi hz hsz hzs hpos (oA_list.1 ha) hsrc' (ownL_one hG') h63 hby
    rw [hr] at hr2
    cases hr2
    have hn2 := List.nodup_append.1 hn
    have hlt := (oA (rList r) u ys).lt hb
    obtain ⟨F', q1, q2, q3⟩ := h6 G' ys hG' rfl (fun c hc => ⟨hlt c (hGs c hc), fun hx => hn2.2.2 c hx c (hGs c hc) rfl⟩) hn2.1 (hGn hn2.2.1)
    refine ⟨F', oA_list.2 q1, q2, fun c hc => ?_, fun c hc hnot => h5 c hc (fun hx => hnot (by simp [hx]))⟩
    rcases q3 c hc with h | h | h
    · exact .inl (by simp [h])
    · exact .inl (by simp [hGs c h])
    · exact .inr h

/-- append(xs, ys...), ys read only: of elements without blocks. -/
theorem lx_appendRd [dr : Dr] {α : Type} {r : Rep α} {e : TypeId} {i : TypeInfo} {zv : Value} {xs ys : List α} (S : Slots a N env) (hw : Want ops env g) (hd : d < N) (he : eff k = true) (H : Heap w0 (oA (rList r) v xs :: L) w) (hf : Flat r) (hR : Rd (rList r) w u ys)
    (hx : ev env x = some v) (hy : ev env y = some u) (ht : P.underlying t = some (.slice e)) (hi : P.info? e = some i) (hz : i.zero = some zv) (hsz : i.size = r.size) (hzs : zv.cells.size = r.size) (hpos : 0 < r.size) (hby : i.bytes ≤ 128)
    (h63 : xs.length + ys.length ≤ 1099511627776)
    (h : ∀ v' w', Heap w0 (oA (rList r) v' (xs ++ ys) :: L) w' → C w' ∧ ∀ a, Slots a N ((d, v') :: env) → LX P ops C eff Q (k + 1) rest a w') :
    LX P ops C eff Q k (⟨some d, .call { callee := .builtin .append, args := #[x, y], argTypes := #[t, t] }, ty, pos, after, g⟩ :: rest) a w := by
  obtain ⟨F1, hF1⟩ : ∃ F1, (oA (rList r) v xs).holds w F1 := by
    obtain ⟨_, F, ⟨F1, _, _, h1, _⟩, _⟩ := H
    exact ⟨F1, h1⟩
  obtain ⟨news, hsrc, hG⟩ : ∃ news, Src w r.size u ys.length news ∧ ownL r w [] news ys := by
    obtain ⟨cs, hv, A, c, rfl, hc, h2⟩ := hR
    have hv' : u = .slice A ys.length c := hv
    rcases h2 with rfl | ⟨p, cc, rfl, hb, hcell, hL⟩
    · exact ⟨[], ⟨A, c, hv', by simp, .inl rfl⟩, rfl, rfl⟩
    · exact ⟨cc, ⟨some p, c, hv', rdL_len hL, .inr ⟨p, rfl, hcell⟩⟩, flat_list hf hL⟩
  obtain ⟨v', w', hr, t1, t2, t3, t4, _, _⟩ := run_append_rep (P := P) (v := v) (u := u) (ty := ty) ht hi hz hsz hzs hpos (oA_list.1 hF1) hsrc (ownL_one hG) h63 hby
  have h' := h v' w' (H.turn 0 rfl t1 t2 t3 t4 fun F ha hn => ?_)
  · exact lx_val S hw hd he (fun a S => run_append_op hx hy hr a S) h'.1 h'.2
  · obtain ⟨v2, w2, hr2, _, _, _, _, h5, h6⟩ := run_append_rep (P := P) (v := v) (u := u) (ty := ty) ht hi hz hsz hzs hpos (oA_list.1 ha) hsrc (ownL_one hG) h63 hby
    rw [hr] at hr2
    cases hr2
    obtain ⟨F', q1, q2, q3⟩ := h6 [] ys hG rfl (by simp) hn List.nodup_nil
    refine ⟨F', oA_list.2 q1, q2, fun c hc => ?_, h5⟩
    rcases q3 c hc with h | h | h
    · exact .inl h
    · cases h
    · exact .inr h

/-- A store into an element: B is what the stored value owns. -/
theorem store_elem [dr : Dr] {α : Type} {r : Rep α} {B : Asrt} {us : List Value} {xs : List α} {i off : Nat} {e e' : α} (H : Heap w0 (oA (rList r) v xs :: B :: L) w) (hi : xs[i]? = some e) (hv : u.cells = us.toArray) (hs : ∀ w, (sizeOf t).run P w = .ok us.length w)
    (ho : off + us.length ≤ r.size) (h1 : ∀ c ∈ us, c.oneCell' = true)
    (hupd : ∀ w F c G, r.own w F c e → B.holds w G → (F ++ G).Nodup → ∃ F', r.own w F' (splice c off us) e' ∧ F'.Nodup ∧ ∀ b ∈ F', b ∈ F ∨ b ∈ G) :
    ∃ w' p, pAdd (ePtr v (i * r.size)) off = .pointer (some p) ∧ (storeVar t p u).run P w = .ok () w' ∧ Heap w0 (oA (rList r) v (xs.set i e') :: L) w' := by
  have key : ∀ F, (oA (rList r) v xs).holds w F → ∃ b o cap cur te F' cc, v = .slice (some ⟨b, o, none⟩) xs.length cap ∧ F = b :: F' ∧ w.heap[b]? = some (.cells cur te (0, 0)) ∧ o + cap * r.size ≤ cur.size ∧
      xs.length ≤ cap ∧ cap ≤ maxLen ∧ (cur.toList.drop o).take (xs.length * r.size) = cc ∧ ownL r w F' cc xs := by
    intro F hF
    rcases oA_list.1 hF with ⟨rfl, _, _⟩ | ⟨b, o, cap, cur, te, F', cc, hv, h2, h3, h4, h5, h6, h7, h8⟩
    · simp at hi
    · cases hv
      exact ⟨b, o, cap, cur, te, F', cc, rfl, h2, h3, h4, h5, h6, h7, h8⟩
  obtain ⟨F0, hF0⟩ : ∃ F, (oA (rList r) v xs).holds w F := by
    obtain ⟨_, F, ⟨F1, _, _, h1, _⟩, _⟩ := H
    exact ⟨F1, h1⟩
  obtain ⟨b, o, cap, cur, te, F', cc, hv', _, hb, hfit, hnc, _, _, _⟩ := key F0 hF0
  have hil := (List.getElem?_eq_some_iff.1 hi).1
  have hmul : (i + 1) * r.size ≤ cap * r.size := Nat.mul_le_mul_right _ (by omega)
  rw [Nat.add_mul, Nat.one_mul] at hmul
  have hst := run_storeVar_row (P := P) (w := w) (v := u) (t := t) (b := b) (o := o + i * r.size + off) (cs := cur.toList) (us := us) (e := te) (by simpa using hb) hv hs (by simp; omega) h1
  have hadd : ∀ q, (⟨b, 0, none⟩ : Addr).add q = ⟨b, q, none⟩ := by intro q; unfold Addr.add; split <;> simp_all
  have hadd2 : ((⟨b, o, none⟩ : Addr).add (i * r.size)).add off = ⟨b, o + i * r.size + off, none⟩ := by
    rw [add_add]; unfold Addr.add; split <;> simp_all [Nat.add_assoc]
  rw [hadd] at hst
  obtain ⟨t1, t2, t3, t4, t5⟩ := setRow_turns (w := w) (b := b) (cs := (splice cur.toList (o + i * r.size + off) us).toArray)
  refine ⟨_, _, by rw [hv']; show Value.pointer _ = _; rw [hadd2], hst, H.join.turn 0 rfl t1 t2 ⟨t3, Nat.le_refl _⟩ (by omega) fun F ⟨Fa, Fb, e1, ha, hB⟩ hn => ?_⟩
  subst e1
  obtain ⟨b2, o2, cap2, cur2, te2, F2, cc2, hv2, hF2, hb2, hfit2, hnc2, hcm2, htake2, hL2⟩ := key Fa ha
  rw [hv'] at hv2
  cases hv2
  rw [hb] at hb2
  cases hb2
  subst hF2
  have hn1 := List.nodup_append.1 hn
  have hn2 := List.nodup_cons.1 hn1.1
  obtain ⟨Ga, Gx, Gb, ca, c, cb, e3, e4, hl, hx, hset⟩ := ownL_get hL2 hi
  subst e3
  have hn3 := List.nodup_append.1 hn2.2
  have hn4 := List.nodup_append.1 hn3.2.1
  have hltB := B.lt hB
  -- the element in the new world
  have sameB : ∀ q ∈ Fb, (w.setRow b (splice cur.toList (o + i * r.size + off) us).toArray).heap[q]? = w.heap[q]? := fun q hq => t5 q (fun hx => hn1.2.2 b (by simp) q hq hx.symm)
  have sameF : ∀ q ∈ Ga ++ (Gx ++ Gb), (w.setRow b (splice cur.toList (o + i * r.size + off) us).toArray).heap[q]? = w.heap[q]? := fun q hq => t5 q (fun hx => hn2.1 (hx ▸ hq))
  obtain ⟨F', hown', hnod, hsub⟩ := hupd _ Gx c Fb (r.own_keep hx fun q hq => sameF q (by simp [hq])) (B.keep hB sameB) (List.nodup_append.2 ⟨hn4.1, hn1.2.1, fun p hp q hq => hn1.2.2 p (by simp [hp]) q hq⟩)
  have hnew := hset _ F' _ e' (fun q hq => sameF q (by rcases List.mem_append.1 hq with h | h <;> simp [h])) hown'
  have hcl := r.own_len hx
  refine ⟨b :: (Ga ++ (F' ++ Gb)), oA_list.2 (.inr ⟨b, o, cap, _, te, _, ca ++ (splice c off us ++ cb), by rw [hv']; simp, rfl, heap_setRow_same hb, ?_, by simpa using hnc, hcm2, ?_, hnew⟩), ?_, ?_, ?_⟩
  · simp only [List.size_toArray]
    rw [length_splice (by simp; omega)]
    simpa using hfit
  · -- the cells
    have hlen : xs.length * r.size = ca.length + (c.length + cb.length) := by
      have := ownL_len hL2
      rw [e4] at this
      simp at this
      omega
    have hcur : cur.toList = cur.toList.take o ++ ((ca ++ (c ++ cb)) ++ cur.toList.drop (o + xs.length * r.size)) := by
      rw [← e4, ← htake2, ← List.drop_drop, List.take_append_drop, List.take_append_drop]
    have ho2 : (cur.toList.take o).length = o := by simp; omega
    have hsp : splice cur.toList (o + i * r.size + off) us = cur.toList.take o ++ ((ca ++ (splice c off us ++ cb)) ++ cur.toList.drop (o + xs.length * r.size)) := by
      generalize hD : cur.toList.drop (o + xs.length * r.size) = D at hcur
      generalize hT : cur.toList.take o = T at hcur ho2
      rw [hcur]
      unfold splice
      rw [show o + i * r.size + off = T.length + (ca.length + off) by omega, show T.length + (ca.length + off) + us.length = T.length + (ca.length + (off + us.length)) by omega]
      have hc : off + us.length ≤ c.length := by omega
      simp [List.take_append, List.drop_append, show ca.length + off - ca.length = off by omega, show ca.length + (off + us.length) - ca.length = off + us.length by omega, show off - c.length = 0 by omega, show off + us.length - c.length = 0 by omega]
      rw [List.take_of_length_le (show ca.length ≤ ca.length + off by omega)]
      rw [List.drop_of_length_le (show ca.length ≤ ca.length + (off + us.length) by omega)]
      rw [List.take_of_length_le (show T.length ≤ T.length + (ca.length + off) by omega)]
      rw [List.drop_of_length_le (show T.length ≤ T.length + (ca.length + (off + us.length)) by omega)]
      simp
    rw [hsp]
    rw [show (xs.set i e').length * r.size = (ca ++ (splice c off us ++ cb)).length by
      simp only [List.length_set, List.length_append]
      rw [length_splice (by omega)]
      exact hlen]
    rw [show (cur.toList.take o ++ ((ca ++ (splice c off us ++ cb)) ++ cur.toList.drop (o + xs.length * r.size))).toArray.toList = cur.toList.take o ++ ((ca ++ (splice c off us ++ cb)) ++ cur.toList.drop (o + xs.length * r.size)) from rfl]
    rw [List.drop_left' ho2, List.take_left']
    rfl
  · have hGb : ∀ q ∈ F', q ∉ Ga ∧ q ∉ Gb ∧ q ≠ b := by
      intro q hq
      rcases hsub q hq with h | h
      · exact ⟨fun hx => hn3.2.2 q hx q (by simp [h]) rfl, fun hx => hn4.2.2 q h q hx rfl, fun hx => hn2.1 (by simp [← hx, h])⟩
      · exact ⟨fun hx => hn1.2.2 q (by simp [hx]) q h rfl, fun hx => hn1.2.2 q (by simp [hx]) q h rfl, fun hx => hn1.2.2 b (by simp) q h hx.symm⟩
    refine List.nodup_cons.2 ⟨?_, List.nodup_append.2 ⟨hn3.1, List.nodup_append.2 ⟨hnod, hn4.2.1, fun p hp q hq e => ?_⟩, fun p hp q hq e => ?_⟩⟩
    · intro hx
      rcases List.mem_append.1 hx with h | h
      · exact hn2.1 (by simp [h])
      · rcases List.mem_append.1 h with h | h
        · exact (hGb b h).2.2 rfl
        · exact hn2.1 (by simp [h])
    · subst e; exact (hGb p hp).2.1 hq
    · subst e
      rcases List.mem_append.1 hq with h | h
      · exact (hGb p h).1 hp
      · exact hn3.2.2 p hp p (by simp [h]) rfl
  · intro q hq
    left
    rcases List.mem_cons.1 hq with h | h
    · simp [h]
    · rcases List.mem_append.1 h with h | h
      · simp [h]
      · rcases List.mem_append.1 h with h | h
        · rcases hsub q h with h | h <;> simp [h]
        · simp [h]
  · intro q _ hq
    exact t5 q (fun hx => hq (by simp [hx]))

/-- An assertion of nothing. -/
def eA : Asrt := ⟨fun _ F => F = [], fun h _ => h, fun h b hb => by rw [h] at hb; cases hb⟩

theorem lx_storeElem [dr : Dr] {α : Type} {r : Rep α} {B : Asrt} {us : List Value} {xs : List α} {i off : Nat} {e e' : α} (S : Slots a N env) (hw : Want ops env g) (he : eff k = true) (H : Heap w0 (oA (rList r) v xs :: B :: L) w)
    (hx : ev env x = some (pAdd (ePtr v (i * r.size)) off)) (hy : ev env y = some u) (hi : xs[i]? = some e) (hv : u.cells = us.toArray) (hs : ∀ w, (sizeOf t).run P w = .ok us.length w)
    (ho : off + us.length ≤ r.size) (h1 : ∀ c ∈ us, c.oneCell' = true)
    (hupd : ∀ w F c G, r.own w F c e → B.holds w G → (F ++ G).Nodup → ∃ F', r.own w F' (splice c off us) e' ∧ F'.Nodup ∧ ∀ b ∈ F', b ∈ F ∨ b ∈ G)
    (h : ∀ w', Heap w0 (oA (rList r) v (xs.set i e') :: L) w' → C w' ∧ ∀ a, Slots a N env → LX P ops C eff Q (k + 1) rest a w') :
    LX P ops C eff Q k (⟨none, .store t x y, ty, pos, after, g⟩ :: rest) a w := by
  obtain ⟨w', p, hp, hr, H'⟩ := store_elem (P := P) (t := t) H hi hv hs ho h1 hupd
  have h' := h w' H'
  exact lx_unit S hw he (fun a S => by simp [execOp, S.eval hx, S.eval hy, hp, Instr.storeAt, Instr.sureAddr, hr]) h'.1 h'.2

/-- .. of a value without blocks. -/
theorem lx_storeElem0 [dr : Dr] {α : Type} {r : Rep α} {us : List Value} {xs : List α} {i off : Nat} {e e' : α} (S : Slots a N env) (hw : Want ops env g) (he : eff k = true) (H : Heap w0 (oA (rList r) v xs :: L) w)
    (hx : ev env x = some (pAdd (ePtr v (i * r.size)) off)) (hy : ev env y = some u) (hi : xs[i]? = some e) (hv : u.cells = us.toArray) (hs : ∀ w, (sizeOf t).run P w = .ok us.length w)
    (ho : off + us.length ≤ r.size) (h1 : ∀ c ∈ us, c.oneCell' = true)
    (hupd : ∀ w F c, r.own w F c e → r.own w F (splice c off us) e')
    (h : ∀ w', Heap w0 (oA (rList r) v (xs.set i e') :: L) w' → C w' ∧ ∀ a, Slots a N env → LX P ops C eff Q (k + 1) rest a w') :
    LX P ops C eff Q k (⟨none, .store t x y, ty, pos, after, g⟩ :: rest) a w := by
  have H2 : Heap w0 (oA (rList r) v xs :: eA :: L) w := H.ofHL fun F ⟨F1, F2, e1, h1, h2⟩ hn => ⟨F, ⟨F1, F2, e1, h1, [], F2, rfl, rfl, h2⟩, hn, fun _ hb => hb⟩
  exact lx_storeElem S hw he H2 hx hy hi hv hs ho h1 (fun w F c G hF _ hn => ⟨F, hupd w F c hF, (List.nodup_append.1 hn).1, fun b hb => .inl hb⟩) h
end
end Go.Gx
