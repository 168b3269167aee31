/-
  Arrays behind pointers; zeros appended.
-/
import Derived.Test.YtcddkipbedfhkaaGxT
import Derived.Test.YtcddkipbedfhkaaGxN
namespace Go.Gx
open Go.RowKit

theorem rd_pp {α : Type} {r : Rep α} {w : World} {cs : List Value} {x : α} (h : (rPtr r).rd w.heap.size w cs x) : ∃ v, cs = [v] ∧ Rd (rPtr r) w v x := by
  obtain ⟨a, cc, rfl, h2⟩ := h
  exact ⟨_, rfl, _, rfl, a, cc, rfl, h2⟩
theorem pp_rd {α : Type} {r : Rep α} {w : World} {v : Value} {x : α} (h : Rd (rPtr r) w v x) : (rPtr r).rd w.heap.size w [v] x := by
  obtain ⟨cs, hv, a, cc, rfl, h2⟩ := h
  have hv' : v = .pointer (some a) := hv
  subst hv'
  exact ⟨a, cc, rfl, h2⟩
theorem cells_pq {v : Value} (h : IsP v) : v.cells = #[v] := by obtain ⟨a, rfl⟩ := h; rfl
theorem one_p {v : Value} (h : IsP v) : v.oneCell' = true := by obtain ⟨a, rfl⟩ := h; rfl

/-! ### an array behind a pointer -/
theorem pAdd_pAdd' (p : Value) (m k : Nat) : pAdd (pAdd p m) k = pAdd p (m + k) := by
  cases p with
  | pointer a => cases a <;> simp [pAdd, add_add]
  | _ => rfl
theorem at_idx {w : World} {p : Value} {k : Nat} {u : Value} (h : At w p k u) : At w (pAdd p (k * 1)) 0 u := At.of_add (m := k * 1) (j := 0) (by simpa using h)
theorem arr_at {ms : List Int} {kd : IntKind} {full : List Value} {o : Nat} (h : (full.drop o).take ms.length = ms.map (Value.int kd)) {k : Nat} {x : Int} (hk : ms[k]? = some x) : full[o + k]? = some (.int kd x) := by
  have h1 := (List.getElem?_eq_some_iff.1 hk).1
  have h2 : ((full.drop o).take ms.length)[k]? = some (.int kd x) := by rw [h, List.getElem?_map, hk]; rfl
  rw [List.getElem?_take, if_pos h1, List.getElem?_drop] at h2
  exact h2
theorem add_none (b o j : Nat) : (⟨b, o, none⟩ : Addr).add j = ⟨b, o + j, none⟩ := by unfold Addr.add; split <;> simp_all
theorem wrap0 : IntKind.i64.wrap 0 = 0 := by decide
theorem five {k : Nat} (h : k < 5) : k = 0 ∨ k = 1 ∨ k = 2 ∨ k = 3 ∨ k = 4 := by omega
section
variable {P : Program} {ops : Array Oper} {C : World → Prop} {eff : Nat → Bool} {Q : Act → World → Prop} {N : Nat} {env : List (Nat × Value)} {a : Act} {w w0 : World} {k : Nat} {rest : List Oper} {L : List Asrt}
variable {x y z : Operand} {v u : Value} {t yt ty : TypeId} {pos : String} {after : Array Edge} {g : Option (Nat × Bool)} {d : Nat} {op : Op}
theorem ev_pp {p : Value} {m j : Nat} (h : ev env x = some (pAdd (pAdd p m) j)) : ev env x = some (pAdd p (m + j)) := by rw [h, pAdd_pAdd']
theorem q_indexArr {n : Int} {kd : IntKind} {l : Nat} {e : TypeId} {sz : Nat} (hx : ev env x = some v) (hv : IsP v) (hy : ev env y = some (.int kd n)) (h0 : 0 ≤ n) (hl : n.toNat < l) (hu : P.underlying t = some (.array l e)) (hs : ∀ w, (sizeOf e).run P w = .ok sz w) :
    Q1 P N env C (.indexAddr t x y) (pAdd v (n.toNat * sz)) := fun o ho a w S _ => .inl (by
  obtain ⟨p, rfl⟩ := hv
  have h3 : n < (l : Int) := by omega
  simp [execOp, ho, Instr.indexAt, asIntOf, S.eval hx, S.eval hy, run_underlying hu, h0, h3, hs, pAdd, Instr.sureAddr])

/-! ### append(x, make([]T, n)...) -/
theorem run_appendZ_rep {α : Type} {r : Rep α} {e : TypeId} {i : TypeInfo} {zv : Value} {F : List Nat} {xs : List α} {m : Nat} {t2 : TypeId} {kd : IntKind} (ht : P.underlying t = some (.slice e)) (hi : P.info? e = some i) (hz : i.zero = some zv) (hsz : i.size = r.size) (hzs : zv.cells.size = r.size) (hpos : 0 < r.size) (ht2 : P.underlying t2 = some (.int kd))
    (hown : (rList r).own w F [v] xs) (hone0 : ∀ c ∈ (Builtin.zeroCells zv.cells m).toList, c.oneCell' = true) (h63 : xs.length + m ≤ 1099511627776) (hby : i.bytes ≤ 128) :
    ∃ v' w', (Builtin.append_ #[t, t2] ty #[v, .int kd (m : Int)]).run P w = .ok v' w' ∧ w'.os = w.os ∧ w'.tape = w.tape ∧ (w'.output = w.output ∧ w.drawn ≤ w'.drawn) ∧ w.heap.size ≤ w'.heap.size ∧ (∀ b, b < w.heap.size → b ∉ F → w'.heap[b]? = w.heap[b]?) ∧
      ∀ G ys, ownL r w G (Builtin.zeroCells zv.cells m).toList ys → ys.length = m → (∀ b ∈ G, b < w.heap.size ∧ b ∉ F) → F.Nodup → G.Nodup → ∃ F', (rList r).own w' F' [v'] (xs ++ ys) ∧ F'.Nodup ∧ ∀ b ∈ F', b ∈ F ∨ b ∈ G ∨ w.heap.size ≤ b := by
  obtain ⟨news, hnews⟩ : ∃ news, news = (Builtin.zeroCells zv.cells m).toList := ⟨_, rfl⟩
  have hnl : news.length = m * r.size := by rw [hnews]; simp [size_zeroCells, hzs]
  have hna : Builtin.zeroCells zv.cells m = news.toArray := by rw [hnews]
  have hone : ∀ c ∈ news, c.oneCell' = true := by rw [hnews]; exact hone0
  rw [← hnews]
  have hwm : IntKind.i64.wrap (m : Int) = (m : Int) := by
    unfold IntKind.wrap
    simp [IntKind.signed, IntKind.bits]
    omega
  have hb47 : (xs.length + m) * i.bytes ≤ 140737488355328 := Nat.le_trans (Nat.mul_le_mul h63 hby) (by omega)
  have hbits : ((xs.length + m : Nat) : Int) ≤ 9223372036854775807 := by omega
  have hneg : ¬ ((m : Int) < 0) := by omega
  have hmz : (m * r.size = 0) = (m = 0) := by
    apply propext
    constructor
    · intro h
      rcases Nat.mul_eq_zero.1 h with h | h <;> omega
    · intro h; rw [h, Nat.zero_mul]
  have hmb : ¬ (281474976710656 < (m : Int) * (i.bytes : Int)) := by
    have h1 : m * i.bytes ≤ (xs.length + m) * i.bytes := Nat.mul_le_mul_right _ (by omega)
    have h2 : ((m * i.bytes : Nat) : Int) = (m : Int) * (i.bytes : Int) := by simp
    omega
  rcases hown with ⟨rfl, rfl, hv⟩ | ⟨b, o, cap, cur, te, F1, cc, hv, rfl, hb, hfit, hnc, hcm, htake, hL⟩
  · -- nothing yet
    cases hv
    by_cases hm : m = 0
    · subst hm
      have hnil : news = [] := List.eq_nil_of_length_eq_zero (by simpa using hnl)
      subst hnil
      refine ⟨.slice none 0 0, w, ?_, rfl, rfl, ⟨rfl, Nat.le_refl _⟩, Nat.le_refl _, fun _ _ _ => rfl, fun G ys hG hys _ _ _ => ?_⟩
      · simp [Builtin.append_, run_underlying ht, run_underlying ht2, asInt, asIntOf, wrap0, sizeOf, typeInfo, hi]
      · have : ys = [] := List.eq_nil_of_length_eq_zero hys
        subst this
        exact ⟨[], .inl ⟨rfl, rfl, rfl⟩, List.nodup_nil, by simp⟩
    · have hb47' : m * i.bytes ≤ 140737488355328 := by simpa using hb47
      have h48 : ¬ (281474976710656 < Builtin.nextslicecap m 0 * i.bytes) := by rw [nextslicecap_zero (by omega)]; omega
      have h63' : ¬ (9223372036854775807 < (m : Int)) := by simp at hbits; omega
      have hge := grownCap_ge w m 0 e
      have hcm := grownCap_le_maxLen w m 0 e (by simp [maxLen] at h63 ⊢; omega)
      refine ⟨.slice (some ⟨w.heap.size, 0, none⟩) m (grownCap w m 0 e), w.drew.alloc (.cells (news.toArray ++ Builtin.zeroCells zv.cells (grownCap w m 0 e - m)) e), ?_, rfl, rfl, ⟨rfl, Nat.le_succ _⟩, by simp, fun k hk _ => Below.heap_alloc w.drew _ k hk, fun G ys hG hys hGb _ hGn => ?_⟩
      · simp [Builtin.append_, run_underlying ht, run_underlying ht2, asInt, asIntOf, hwm, hneg, hmb, hna, hmz, sizeOf, typeInfo, zeroValue, hi, hz, hsz, hm, h63', h48, Question.forced, run_firstCells_none, newRow, grownCap]
      · refine ⟨w.heap.size :: G, .inr ⟨w.heap.size, 0, _, _, e, G, news, by simp [hys], rfl, heap_alloc_new w.drew _, ?_, ?_, hcm, ?_, ?_⟩, List.nodup_cons.2 ⟨fun hx => by have := (hGb _ hx).1; omega, hGn⟩, ?_⟩
        · simp only [Array.size_append, List.size_toArray, size_zeroCells, hzs, hnl, ← Nat.add_mul, Nat.zero_add]
          exact Nat.le_of_eq (by congr 1; omega)
        · simp [hys]; exact hge
        · simp [hys, ← hnl]
        · simpa using ownL_keep hG fun k hk => Below.heap_alloc w.drew _ k (hGb k hk).1
        · intro k hk
          rcases List.mem_cons.1 hk with h | h
          · right; right; omega
          · exact .inr (.inl h)
  · cases hv
    have hblt := (Array.getElem?_eq_some_iff.1 hb).1
    have hccl := ownL_len hL
    have hlt1 := ownL_lt hL
    by_cases hroom : xs.length + m ≤ cap
    · -- room
      have hmul : (xs.length + m) * r.size ≤ cap * r.size := Nat.mul_le_mul_right _ hroom
      rw [Nat.add_mul] at hmul
      have hst := run_storeCells_at P b (o + xs.length * r.size) te news 0 cur w hb (by omega) hone
      simp only [Nat.add_zero] at hst
      have hadd : (⟨b, o, none⟩ : Addr).add (xs.length * r.size) = ⟨b, o + xs.length * r.size, none⟩ := add_none _ _ _
      refine ⟨.slice (some ⟨b, o, none⟩) (xs.length + m) cap, w.setRow b (cur.toList.take (o + xs.length * r.size) ++ news ++ cur.toList.drop (o + xs.length * r.size + news.length)).toArray, ?_, rfl, rfl, ⟨rfl, Nat.le_refl _⟩, by simp, fun k _ hk => setRow_other w b k _ (fun hx => hk (by simp [hx])), fun G ys hG hys hGb hFn hGn => ?_⟩
      · by_cases hm : m = 0
        · have hn0 : news = [] := List.eq_nil_of_length_eq_zero (by rw [hnl, hm, Nat.zero_mul])
          have hself : w.setRow b (cur.toList.take (o + xs.length * r.size) ++ news ++ cur.toList.drop (o + xs.length * r.size + news.length)).toArray = w := by
            rw [hn0] at hst ⊢
            have h2 : (storeCells (⟨b, o + xs.length * r.size, none⟩ : Addr) []).run P w = .ok () w := by simp [storeCells]
            rw [h2] at hst
            injection hst with _ hst
            exact hst.symm
          rw [hself]
          subst hm
          simp [Builtin.append_, run_underlying ht, run_underlying ht2, asInt, asIntOf, wrap0, sizeOf, typeInfo, hi, show xs.length ≤ cap by omega, storeCells]
        · simp [Builtin.append_, run_underlying ht, run_underlying ht2, asInt, asIntOf, hwm, hneg, hmb, hna, hmz, hm, sizeOf, typeInfo, zeroValue, hi, hz, hsz, hroom, hadd, hst]
      · have hbF1 : b ∉ F1 := (List.nodup_cons.1 hFn).1
        have same : ∀ k, k ≠ b → (w.setRow b (cur.toList.take (o + xs.length * r.size) ++ news ++ cur.toList.drop (o + xs.length * r.size + news.length)).toArray).heap[k]? = w.heap[k]? := fun k hk => setRow_other w b k _ hk
        refine ⟨b :: (F1 ++ G), .inr ⟨b, o, cap, _, te, F1 ++ G, cc ++ news, by simp [hys], rfl, heap_setRow_same hb, ?_, by simp [hys]; exact hroom, hcm, ?_, ?_⟩, ?_, ?_⟩
        · simp; omega
        · simp only [List.length_append, hys, Nat.add_mul, List.append_assoc]
          rw [List.drop_append, List.drop_take, show (o - (cur.toList.take (o + xs.length * r.size)).length) = 0 by simp; omega, List.drop_zero]
          rw [show o + xs.length * r.size - o = xs.length * r.size by omega, htake]
          rw [List.take_append, hccl, List.take_of_length_le (by omega), show xs.length * r.size + m * r.size - xs.length * r.size = m * r.size by omega]
          rw [List.take_append, hnl, List.take_of_length_le (by omega)]
          simp
        · exact ownL_append (ownL_keep hL fun k hk => same k (fun hx => hbF1 (hx ▸ hk))) (ownL_keep hG fun k hk => same k (fun hx => (hGb k hk).2 (by simp [hx])))
        · refine List.nodup_cons.2 ⟨?_, List.nodup_append.2 ⟨(List.nodup_cons.1 hFn).2, hGn, ?_⟩⟩
          · intro hx
            rcases List.mem_append.1 hx with hx | hx
            · exact hbF1 hx
            · exact (hGb b hx).2 (by simp)
          · intro p hp q hq e
            subst e
            exact (hGb p hq).2 (by simp [hp])
        · intro k hk
          rcases List.mem_cons.1 hk with h | h
          · exact .inl (by simp [h])
          · rcases List.mem_append.1 h with h | h
            · exact .inl (by simp [h])
            · exact .inr (.inl h)
    · -- a new block
      have holds : ∀ j q, cc[j]? = some q → w.cell? ((⟨b, o, none⟩ : Addr).add j) = some q := by
        intro j q hq
        have hadd : (⟨b, o, none⟩ : Addr).add j = ⟨b, o + j, none⟩ := add_none _ _ _
        rw [hadd, cell_of_row w b (o + j) cur te (0, 0) hb]
        rw [← htake, List.getElem?_take] at hq
        split at hq
        · rw [List.getElem?_drop] at hq; simpa using hq
        · cases hq
      have hfo := run_firstCells_some (P := P) w.drew r.size xs.length ⟨b, o, none⟩ xs.length cap cc hccl (by simpa using holds)
      have h48 : ¬ (281474976710656 < Builtin.nextslicecap (xs.length + m) cap * i.bytes) := by have := growslice_fits (by omega : cap < xs.length + m) hb47; omega
      have h63' : ¬ (9223372036854775807 < ((xs.length : Int) + (m : Int))) := by omega
      have hge := grownCap_ge w (xs.length + m) cap e
      have hcm' := grownCap_le_maxLen w (xs.length + m) cap e (by simp [maxLen] at h63 ⊢; omega)
      refine ⟨.slice (some ⟨w.heap.size, 0, none⟩) (xs.length + m) (grownCap w (xs.length + m) cap e), w.drew.alloc (.cells (cc.toArray ++ news.toArray ++ Builtin.zeroCells zv.cells (grownCap w (xs.length + m) cap e - (xs.length + m))) e), ?_, rfl, rfl, ⟨rfl, Nat.le_succ _⟩, by simp, fun k hk _ => Below.heap_alloc w.drew _ k hk, fun G ys hG hys hGb hFn hGn => ?_⟩
      · have hm : ¬ m = 0 := by omega
        simp [Builtin.append_, run_underlying ht, run_underlying ht2, asInt, asIntOf, hwm, hneg, hmb, hna, hmz, hm, sizeOf, typeInfo, zeroValue, hi, hz, hsz, hroom, h63', h48, Question.forced, hfo, newRow, grownCap]
        congr 2
        apply Array.ext'
        simp [List.append_assoc]
      · refine ⟨w.heap.size :: (F1 ++ G), .inr ⟨w.heap.size, 0, _, _, e, F1 ++ G, cc ++ news, by simp [hys], rfl, heap_alloc_new w.drew _, ?_, ?_, hcm', ?_, ?_⟩, ?_, ?_⟩
        · simp only [Array.size_append, List.size_toArray, size_zeroCells, hzs, hnl, hccl, ← Nat.add_mul, Nat.zero_add]
          exact Nat.le_of_eq (by congr 1; omega)
        · simp [hys]; exact hge
        · simp only [List.length_append, hys, Nat.add_mul, Array.toList_append, List.drop_zero]
          rw [List.take_append_of_le_length (by simp [hccl, hnl])]
          simp [hccl, hnl, List.take_of_length_le]
        · exact ownL_append (ownL_keep hL fun k hk => Below.heap_alloc w.drew _ k (hlt1 k hk)) (ownL_keep hG fun k hk => Below.heap_alloc w.drew _ k (hGb k hk).1)
        · refine List.nodup_cons.2 ⟨?_, List.nodup_append.2 ⟨(List.nodup_cons.1 hFn).2, hGn, ?_⟩⟩
          · intro hx
            rcases List.mem_append.1 hx with hx | hx
            · have := hlt1 _ hx; omega
            · have := (hGb _ hx).1; omega
          · intro p hp q hq e
            subst e
            exact (hGb p hq).2 (by simp [hp])
        · intro k hk
          rcases List.mem_cons.1 hk with h | h
          · right; right; omega
          · rcases List.mem_append.1 h with h | h
            · exact .inl (by simp [h])
            · exact .inr (.inl h)
theorem run_appendZ_op {t2 : TypeId} {v' : Value} {w' : World} (hx : ev env x = some v) (hy : ev env y = some u) (hr : (Builtin.append_ #[t, t2] ty #[v, u]).run P w = .ok v' w') (a : Act) (S : Slots a N env) :
    (execOp a.eval ⟨some d, .call { callee := .builtin .append, args := #[x, y], argTypes := #[t, t2] }, ty, pos, after, g⟩).run P w = .ok (.value v') w' := by
  simp [execOp, resolve, invoke, builtin, S.eval hx, S.eval hy, hr]
theorem lx_appendZeros [dr : Dr] {α : Type} {r : Rep α} {e t2 : TypeId} {kd : IntKind} {i : TypeInfo} {zv : Value} {z0 : α} {m : Nat} {xs : List α} (S : Slots a N env) (hw : Want ops env g) (hd : d < N) (he : eff k = true) (H : Heap w0 (oA (rList r) v xs :: L) w)
    (hx : ev env x = some v) (hy : ev env y = some (.int kd (m : Int))) (ht : P.underlying t = some (.slice e)) (ht2 : P.underlying t2 = some (.int kd)) (hi : P.info? e = some i) (hz : i.zero = some zv) (hsz : i.size = r.size) (hzs : zv.cells.size = r.size) (hpos : 0 < r.size) (hby : i.bytes ≤ 128)
    (hz0 : ∀ w, r.own w [] zv.cells.toList z0) (h63 : xs.length + m ≤ 1099511627776)
    (h : ∀ v' w', Heap w0 (oA (rList r) v' (xs ++ List.replicate m z0) :: L) w' → C w' ∧ ∀ a, Slots a N ((d, v') :: env) → LX P ops C eff Q (k + 1) rest a w') :
    LX P ops C eff Q k (⟨some d, .call { callee := .builtin .append, args := #[x, y], argTypes := #[t, t2] }, ty, pos, after, g⟩ :: rest) a w := by
  obtain ⟨F1, hF1⟩ : ∃ F1, (oA (rList r) v xs).holds w F1 := by
    obtain ⟨_, F, ⟨F1, _, _, h1, _⟩, _⟩ := H
    exact ⟨F1, h1⟩
  have hG : ∀ w, ownL r w [] (Builtin.zeroCells zv.cells m).toList (List.replicate m z0) := fun w => by
    have q := zeroCells_flat zv.cells.toList m
    rw [show zv.cells.toList.toArray = zv.cells by simp] at q
    rw [q]
    exact ownL_replicate (hz0 w) m
  obtain ⟨v', w', hr, t1, t2', t3, t4, _, _⟩ := run_appendZ_rep (P := P) (v := v) (m := m) (ty := ty) ht hi hz hsz hzs hpos ht2 (oA_list.1 hF1) (ownL_one (hG w)) h63 hby
  have h' := h v' w' (H.turn 0 rfl t1 t2' t3 t4 fun F ha hn => ?_)
  · exact lx_val S hw hd he (fun a S => run_appendZ_op hx hy hr a S) h'.1 h'.2
  · obtain ⟨v2, w2, hr2, _, _, _, _, h5, h6⟩ := run_appendZ_rep (P := P) (v := v) (m := m) (ty := ty) ht hi hz hsz hzs hpos ht2 (oA_list.1 ha) (ownL_one (hG w)) h63 hby
    rw [hr] at hr2
    cases hr2
    obtain ⟨F', q1, q2, q3⟩ := h6 [] (List.replicate m z0) (hG w) (by simp) (by simp) hn List.nodup_nil
    refine ⟨F', oA_list.2 q1, q2, fun c hc => ?_, h5⟩
    rcases q3 c hc with h | h | h
    · exact .inl h
    · cases h
    · exact .inr h
end
end Go.Gx
