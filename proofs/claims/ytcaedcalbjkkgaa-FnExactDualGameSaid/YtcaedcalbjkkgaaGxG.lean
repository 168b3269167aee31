/-
  The steps of the walk: composite values, append, stores into elements.
-/
import Derived.Test.YtcaedcalbjkkgaaGxF
namespace Go.Gx
open Go.RowKit

/-! ### composite values -/

theorem foldl_splice : ∀ (us : List Value) (k off : Nat) (cs : List Value), off + k + us.length ≤ cs.length →
    (us.zipIdx k).foldl (fun (cs : Array Value) (x : Value × Nat) => cs.setIfInBounds (off + x.2) x.1) cs.toArray = (splice cs (off + k) us).toArray
  | [], k, off, cs, _ => by simp [splice]
  | u :: us, k, off, cs, h => by
    simp only [List.length_cons] at h
    rw [List.zipIdx_cons, List.foldl_cons]
    have e : (cs.toArray.setIfInBounds (off + k) u) = (cs.set (off + k) u).toArray := by simp
    rw [e, foldl_splice us (k + 1) off (cs.set (off + k) u) (by simp; omega)]
    congr 1
    unfold splice
    have h1 : off + k < cs.length := by omega
    rw [show off + (k + 1) = off + k + 1 by omega]
    rw [List.take_set, List.drop_set, if_pos (by omega)]
    rw [List.set_eq_take_append_cons_drop, if_pos (by simp; omega)]
    rw [List.take_take, Nat.min_eq_left (by omega), List.drop_take]
    simp only [List.length_cons, List.append_assoc]
    congr 1
    simp [show off + k + 1 - (off + k + 1) = 0 by omega, show off + k + 1 + us.length = off + k + (us.length + 1) by omega]

theorem fill_step {place : Nat → Option (Nat × Nat)} {cs us : List Value} {i off : Nat} {v : Value} {rest : List (Nat × Value)} (hp : place i = some (off, us.length)) (hv : v.cells = us.toArray) (hb : off + us.length ≤ cs.length) :
    Instr.fill place cs.toArray ((i, v) :: rest) = Instr.fill place (splice cs off us).toArray rest := by
  have h1 := foldl_splice us 0 off cs (by simpa using hb)
  have h2 : Instr.fill place cs.toArray ((i, v) :: rest) = Instr.fill place (us.toArray.zipIdx.foldl (fun (cs : Array Value) (x : Value × Nat) => cs.setIfInBounds (off + x.2) x.1) cs.toArray) rest := by
    have h3 : ¬ (cs.length < off + us.length) := by omega
    simp [Instr.fill, hp, hv, h3]
  rw [h2, ← Array.foldl_toList]
  simp only [Nat.add_zero] at h1
  simpa using congrArg (fun x => Instr.fill place x rest) h1

/-- The cells of composed parts: each part's place, size and cells. -/
def fillL : List Value → List (Nat × List Value) → List Value
  | cs, [] => cs
  | cs, (off, us) :: rest => fillL (splice cs off us) rest

/-- Parts as values against parts as cells at their offsets. -/
def partsOk (place : Nat → Option (Nat × Nat)) (n : Nat) : List (Nat × Value) → List (Nat × List Value) → Prop
  | [], [] => True
  | (i, v) :: r, (off, us) :: s => place i = some (off, us.length) ∧ v.cells = us.toArray ∧ off + us.length ≤ n ∧ partsOk place n r s
  | _, _ => False

theorem length_splice {cs us : List Value} {o : Nat} (h : o + us.length ≤ cs.length) : (splice cs o us).length = cs.length := by
  simp [splice]; omega

theorem fill_parts {place : Nat → Option (Nat × Nat)} : ∀ {parts : List (Nat × Value)} {ps : List (Nat × List Value)} {cs : List Value}, partsOk place cs.length parts ps → Instr.fill place cs.toArray parts = some (fillL cs ps).toArray
  | [], [], cs, _ => rfl
  | (i, v) :: r, (off, us) :: s, cs, h => by
    obtain ⟨h1, h2, h3, h4⟩ := h
    rw [fill_step h1 h2 h3]
    exact fill_parts (cs := splice cs off us) (by rw [length_splice h3]; exact h4)
  | [], _ :: _, _, h => h.elim
  | _ :: _, [], _, h => h.elim

def evp (env : List (Nat × Value)) : List (Nat × Operand) → Option (List (Nat × Value))
  | [] => some []
  | (i, x) :: xs => match ev env x with
    | none => none
    | some v => match evp env xs with
      | none => none
      | some vs => some ((i, v) :: vs)

theorem Slots.evps {a : Act} {N : Nat} {env : List (Nat × Value)} (S : Slots a N env) : ∀ {xs : List (Nat × Operand)} {vs : List (Nat × Value)}, evp env xs = some vs → xs.map (fun p => (p.1, a.eval p.2)) = vs
  | [], _, h => by simp [evp] at h; simp [h]
  | (i, x) :: xs, vs, h => by
    unfold evp at h
    split at h
    · cases h
    · rename_i v hv
      split at h
      · cases h
      · rename_i vs' hvs
        cases h
        simp [S.eval hv, S.evps hvs]

section
variable {P : Program} {ops : Array Oper} {C : World → Prop} {eff : Nat → Bool} {Q : Act → World → Prop} {N : Nat} {env : List (Nat × Value)} {a : Act} {w w0 : World} {k : Nat} {rest : List Oper} {L : List Asrt}
variable {x y z : Operand} {v u : Value} {t yt ty : TypeId} {pos : String} {after : Array Edge} {g : Option (Nat × Bool)} {d : Nat} {op : Op}

/-- A struct out of its parts. -/
theorem q_build {fs : Array Field} {szs : List Nat} {zs cs : List Value} {parts : List (Nat × Operand)} {vs : List (Nat × Value)} {ps : List (Nat × List Value)} (hx : evp env parts = some vs) (hu : P.underlying t = some (.struct fs)) (hz : ∀ w, (zeroValue t).run P w = .ok (.agg zs.toArray) w)
    (hpl : ∀ w, (Array.mapM (fun f => Prod.mk f.offset <$> sizeOf f.type) fs : Sem _).run P w = .ok ((fs.toList.map (·.offset)).zip szs).toArray w)
    (hp : partsOk (fun i => ((fs.toList.map (·.offset)).zip szs)[i]?) zs.length vs ps) (hcs : fillL zs ps = cs) : Q1 P N env C (.build t parts.toArray) (.agg cs.toArray) := fun o ho a w S _ => .inl (by
  have hf := fill_parts (cs := zs) hp
  have he := S.evps hx
  subst hcs
  have hm : (parts.toArray.map fun p => (p.1, a.eval p.2)).toList = vs := by simpa using he
  have hz' : (Value.agg zs.toArray).cells = zs.toArray := rfl
  simp [execOp, ho, Instr.build, run_underlying hu, hz, hz', hpl, he, hf])

/-- A slice out of its elements. -/
theorem lx_buildSlice [dr : Dr] {α : Type} {r : Rep α} {e : TypeId} {n : Nat} {zv : Value} {parts : List (Nat × Operand)} {vs : List (Nat × Value)} {ps : List (Nat × List Value)} {cs : List Value} {xs : List α} {A : Asrt}
    (S : Slots a N env) (hw : Want ops env g) (hd : d < N) (he : eff k = true) (H : Heap w0 (A :: L) w) (hx : evp env parts = some vs) (hu : P.underlying t = some (.slice e)) (hs : ∀ w, (sizeOf e).run P w = .ok r.size w) (hz : ∀ w, (zeroValue e).run P w = .ok zv w)
    (hn : n * r.size ≤ 16777216) (hp : partsOk (fun i => some (i * r.size, r.size)) (n * r.size) vs ps) (hcs : ∀ zs : List Value, zs.length = n * r.size → fillL zs ps = cs) (hl : xs.length = n) (hm : n ≤ 16777216)
    (hown : ∀ w F, A.holds w F → ownL r w F cs xs)
    (h : ∀ v w', Heap w0 (oA (rList r) v xs :: L) w' → C w' ∧ ∀ a, Slots a N ((d, v) :: env) → LX P ops C eff Q (k + 1) rest a w') :
    LX P ops C eff Q k (⟨some d, .buildSlice t n parts.toArray, ty, pos, after, g⟩ :: rest) a w := by
  have hrun : ∀ a, Slots a N env → (execOp a.eval ⟨some d, .buildSlice t n parts.toArray, ty, pos, after, g⟩).run P w = .ok (.value (.slice (some ⟨w.heap.size, 0, none⟩) n n)) (w.alloc (.cells cs.toArray e)) := by
    intro a S
    have he' := S.evps hx
    have key : ∀ zs : Array Value, zs.size = n * r.size → Instr.fill (fun i => some (i * r.size, r.size)) zs vs = some cs.toArray := by
      intro zs hzs
      have := fill_parts (place := fun i => some (i * r.size, r.size)) (cs := zs.toList) (parts := vs) (ps := ps) (by simpa [hzs] using hp)
      rw [hcs zs.toList (by simpa using hzs)] at this
      simpa using this
    have hn' : ¬ (16777216 < n * r.size) := by omega
    by_cases h0 : n * r.size = 0
    · simp [execOp, Instr.buildSlice, run_underlying hu, hs, he', h0, key, newRow]
    · simp [execOp, Instr.buildSlice, run_underlying hu, hs, hz, he', hn', h0, key, newRow]
  have hlen : cs.length = n * r.size := by
    obtain ⟨_, F, ⟨F1, F2, _, hA, _⟩, _⟩ := H
    have := ownL_len (hown w F1 hA)
    rw [hl] at this
    exact this
  have h' := h (.slice (some ⟨w.heap.size, 0, none⟩) n n) (w.alloc (.cells cs.toArray e)) ?_
  · exact lx_val S hw hd he hrun h'.1 h'.2
  · refine H.turn 0 rfl (A' := oA (rList r) (.slice (some ⟨w.heap.size, 0, none⟩) n n) xs) rfl rfl ⟨rfl, Nat.le_refl _⟩ (by simp) fun F hA hn => ?_
    have hlt := A.lt hA
    refine ⟨w.heap.size :: F, ⟨[.slice (some ⟨w.heap.size, 0, none⟩) n n], rfl, .inr ⟨w.heap.size, 0, n, cs.toArray, e, F, cs, by rw [hl], rfl, heap_alloc_new w _, ?_, by omega, ?_, ?_, ?_⟩⟩, ?_, ?_, ?_⟩
    · simp [hlen]
    · simp only [maxLen]; omega
    · simp [hl, hlen, List.take_of_length_le]
    · exact ownL_keep (hown w F hA) fun b hb => Below.heap_alloc w _ b (hlt b hb)
    · exact List.nodup_cons.2 ⟨fun hb => by have := hlt _ hb; omega, hn⟩
    · intro b hb
      rcases List.mem_cons.1 hb with hb | hb
      · right; omega
      · exact .inl hb
    · exact fun b hb _ => Below.heap_alloc w _ b hb

/-- No parts: an empty slice. -/
theorem lx_buildSlice0 [dr : Dr] {α : Type} {r : Rep α} {e : TypeId} (S : Slots a N env) (hw : Want ops env g) (hd : d < N) (he : eff k = true) (H : Heap w0 L w) (hu : P.underlying t = some (.slice e)) (hs : ∀ w, (sizeOf e).run P w = .ok r.size w)
    (h : ∀ v w', Heap w0 (oA (rList r) v ([] : List α) :: L) w' → C w' ∧ ∀ a, Slots a N ((d, v) :: env) → LX P ops C eff Q (k + 1) rest a w') :
    LX P ops C eff Q k (⟨some d, .buildSlice t 0 #[], ty, pos, after, g⟩ :: rest) a w := by
  have hrun : ∀ a, Slots a N env → (execOp a.eval ⟨some d, .buildSlice t 0 #[], ty, pos, after, g⟩).run P w = .ok (.value (.slice (some ⟨w.heap.size, 0, none⟩) 0 0)) (w.alloc (.cells #[] e)) := by
    intro a S
    have h0 : Array.map (fun _ : Nat => (default : Value)) (Array.range 0) = #[] := by simp [Array.range_zero']
    simp [execOp, Instr.buildSlice, run_underlying hu, hs, newRow, Instr.fill, h0]
  have h' := h (.slice (some ⟨w.heap.size, 0, none⟩) 0 0) (w.alloc (.cells #[] e)) (H.alloc _ ?_)
  · exact lx_val S hw hd he hrun h'.1 h'.2
  · exact ⟨[.slice (some ⟨w.heap.size, 0, none⟩) 0 0], rfl, .inr ⟨w.heap.size, 0, 0, #[], e, [], [], by simp, rfl, heap_alloc_new w _, by simp, by simp, by simp [maxLen], by simp, rfl, rfl⟩⟩

/-! ### append -/

/-- What is appended: m elements whose cells are news. -/
def Src (w : World) (size : Nat) (v : Value) (m : Nat) (news : List Value) : Prop := ∃ A c, v = .slice A m c ∧ news.length = m * size ∧ (m = 0 ∨ ∃ p, A = some p ∧ ∀ j u, news[j]? = some u → w.cell? (p.add j) = some u)

theorem run_src {size m : Nat} {news : List Value} {A : Option Addr} {c : Nat} {w w' : World} (hl : news.length = m * size) (h : m = 0 ∨ ∃ p, A = some p ∧ ∀ j u, news[j]? = some u → w.cell? (p.add j) = some u) (hw : w'.heap = w.heap) :
    (Builtin.firstCells size m (.slice A m c)).run P w' = .ok news.toArray w' := by
  rcases h with rfl | ⟨p, rfl, hc⟩
  · have : news = [] := List.eq_nil_of_length_eq_zero (by simpa using hl)
    subst this
    cases A <;> simp [Builtin.firstCells, loadCells, loadCellsFrom]
  · exact run_firstCells_some w' size m p m c news hl fun j u hu => by
      have := hc j u hu
      unfold World.cell? at this ⊢
      rw [hw]
      exact this

theorem run_append_rep {α : Type} {r : Rep α} {e : TypeId} {i : TypeInfo} {zv : Value} {F : List Nat} {xs : List α} {m : Nat} {news : List Value} (ht : P.underlying t = some (.slice e)) (hi : P.info? e = some i) (hz : i.zero = some zv) (hsz : i.size = r.size) (hzs : zv.cells.size = r.size) (_ : 0 < r.size)
    (hown : (rList r).own w F [v] xs) (hsrc : Src w r.size u m news) (hone : ∀ c ∈ news, c.oneCell' = true) (h63 : xs.length + m ≤ 1099511627776) (hby : i.bytes ≤ 128) :
    ∃ v' w', (Builtin.append_ #[t, t] ty #[v, u]).run P w = .ok v' w' ∧ w'.os = w.os ∧ w'.tape = w.tape ∧ (w'.output = w.output ∧ w.drawn ≤ w'.drawn) ∧ w.heap.size ≤ w'.heap.size ∧ (∀ b, b < w.heap.size → b ∉ F → w'.heap[b]? = w.heap[b]?) ∧
      ∀ G ys, ownL r w G news ys → ys.length = m → (∀ b ∈ G, b < w.heap.size ∧ b ∉ F) → F.Nodup → G.Nodup → ∃ F', (rList r).own w' F' [v'] (xs ++ ys) ∧ F'.Nodup ∧ ∀ b ∈ F', b ∈ F ∨ b ∈ G ∨ w.heap.size ≤ b := by
  obtain ⟨A, c, rfl, hnl, hcells⟩ := hsrc
  have hb47 : (xs.length + m) * i.bytes ≤ 140737488355328 := Nat.le_trans (Nat.mul_le_mul h63 hby) (by omega)
  have hbits : ((xs.length + m : Nat) : Int) ≤ 9223372036854775807 := by omega
  rcases hown with ⟨rfl, rfl, hv⟩ | ⟨b, o, cap, cur, te, F1, cc, hv, rfl, hb, hfit, hnc, hcm, htake, hL⟩
  · -- nothing yet
    cases hv
    by_cases hm : m = 0
    · subst hm
      have hnil : news = [] := List.eq_nil_of_length_eq_zero (by simpa using hnl)
      subst hnil
      have hf := run_src (P := P) (c := c) hnl hcells (rfl : w.heap = w.heap)
      refine ⟨.slice none 0 0, w, ?_, rfl, rfl, ⟨rfl, Nat.le_refl _⟩, Nat.le_refl _, fun _ _ _ => rfl, fun G ys hG hys _ _ _ => ?_⟩
      · simp [Builtin.append_, run_underlying ht, sizeOf, typeInfo, hi, hsz, Builtin.lenOf, hf]
      · have : ys = [] := List.eq_nil_of_length_eq_zero hys
        subst this
        exact ⟨[], .inl ⟨rfl, rfl, rfl⟩, List.nodup_nil, by simp⟩
    · have hf := run_src (P := P) (c := c) hnl hcells (show w.drew.heap = w.heap from rfl)
      have hb47' : m * i.bytes ≤ 140737488355328 := by simpa using hb47
      have h48 : ¬ (281474976710656 < Builtin.nextslicecap m 0 * i.bytes) := by rw [nextslicecap_zero (by omega)]; omega
      have h63' : ¬ (9223372036854775807 < (m : Int)) := by simp at hbits; omega
      have hge := grownCap_ge w m 0 e
      have hcm := grownCap_le_maxLen w m 0 e (by simp [maxLen] at h63 ⊢; omega)
      refine ⟨.slice (some ⟨w.heap.size, 0, none⟩) m (grownCap w m 0 e), w.drew.alloc (.cells (news.toArray ++ Builtin.zeroCells zv.cells (grownCap w m 0 e - m)) e), ?_, rfl, rfl, ⟨rfl, Nat.le_succ _⟩, by simp, fun k hk _ => Below.heap_alloc w.drew _ k hk, fun G ys hG hys hGb _ hGn => ?_⟩
      · simp [Builtin.append_, run_underlying ht, sizeOf, typeInfo, zeroValue, hi, hz, hsz, Builtin.lenOf, hm, h63', h48, Question.forced, run_firstCells_none, hf, newRow, grownCap]
      · refine ⟨w.heap.size :: G, .inr ⟨w.heap.size, 0, _, _, e, G, news, by simp [hys], rfl, heap_alloc_new w.drew _, ?_, ?_, hcm, ?_, ?_⟩, List.nodup_cons.2 ⟨fun hx => by have := (hGb _ hx).1; omega, hGn⟩, ?_⟩
        · simp only [Array.size_append, List.size_toArray, size_zeroCells, hzs, hnl, ← Nat.add_mul, Nat.zero_add]
          exact Nat.le_of_eq (by congr 1; omega)
        · simp [hys]; exact hge
        · simp [hys, ← hnl]
        · simpa using ownL_keep hG fun k hk => Below.heap_alloc w.drew _ k (hGb k hk).1
        · intro k hk
          rcases List.mem_cons.1 hk with h | h
          · right; right; omega
          · exact .inr (.inl h)
  · cases hv
    have hblt := (Array.getElem?_eq_some_iff.1 hb).1
    have hccl := ownL_len hL
    have hlt1 := ownL_lt hL
    by_cases hroom : xs.length + m ≤ cap
    · -- room
      have hf := run_src (P := P) (c := c) hnl hcells (rfl : w.heap = w.heap)
      have hmul : (xs.length + m) * r.size ≤ cap * r.size := Nat.mul_le_mul_right _ hroom
      rw [Nat.add_mul] at hmul
      have hst := run_storeCells_at P b (o + xs.length * r.size) te news 0 cur w hb (by omega) hone
      simp only [Nat.add_zero] at hst
      have hadd : (⟨b, o, none⟩ : Addr).add (xs.length * r.size) = ⟨b, o + xs.length * r.size, none⟩ := by unfold Addr.add; split <;> simp_all
      refine ⟨.slice (some ⟨b, o, none⟩) (xs.length + m) cap, w.setRow b (cur.toList.take (o + xs.length * r.size) ++ news ++ cur.toList.drop (o + xs.length * r.size + news.length)).toArray, ?_, rfl, rfl, ⟨rfl, Nat.le_refl _⟩, by simp, fun k _ hk => setRow_other w b k _ (fun hx => hk (by simp [hx])), fun G ys hG hys hGb hFn hGn => ?_⟩
      · simp [Builtin.append_, run_underlying ht, sizeOf, typeInfo, hi, hsz, Builtin.lenOf, hroom, hf, hadd, hst]
      · have hbF1 : b ∉ F1 := (List.nodup_cons.1 hFn).1
        have same : ∀ k, k ≠ b → (w.setRow b (cur.toList.take (o + xs.length * r.size) ++ news ++ cur.toList.drop (o + xs.length * r.size + news.length)).toArray).heap[k]? = w.heap[k]? := fun k hk => setRow_other w b k _ hk
        refine ⟨b :: (F1 ++ G), .inr ⟨b, o, cap, _, te, F1 ++ G, cc ++ news, by simp [hys], rfl, heap_setRow_same hb, ?_, by simp [hys]; exact hroom, hcm, ?_, ?_⟩, ?_, ?_⟩
        · simp; omega
        · simp only [List.length_append, hys, Nat.add_mul, List.append_assoc]
          rw [List.drop_append, List.drop_take, show (o - (cur.toList.take (o + xs.length * r.size)).length) = 0 by simp; omega, List.drop_zero]
          rw [show o + xs.length * r.size - o = xs.length * r.size by omega, htake]
          rw [List.take_append, hccl, List.take_of_length_le (by omega), show xs.length * r.size + m * r.size - xs.length * r.size = m * r.size by omega]
          rw [List.take_append, hnl, List.take_of_length_le (by omega)]
          simp
        · exact ownL_append (ownL_keep hL fun k hk => same k (fun hx => hbF1 (hx ▸ hk))) (ownL_keep hG fun k hk => same k (fun hx => (hGb k hk).2 (by simp [hx])))
        · refine List.nodup_cons.2 ⟨?_, List.nodup_append.2 ⟨(List.nodup_cons.1 hFn).2, hGn, ?_⟩⟩
          · intro hx
            rcases List.mem_append.1 hx with hx | hx
            · exact hbF1 hx
            · exact (hGb b hx).2 (by simp)
          · intro p hp q hq e
            subst e
            exact (hGb p hq).2 (by simp [hp])
        · intro k hk
          rcases List.mem_cons.1 hk with h | h
          · exact .inl (by simp [h])
          · rcases List.mem_append.1 h with h | h
            · exact .inl (by simp [h])
            · exact .inr (.inl h)
    · -- a new block
      have hf := run_src (P := P) (c := c) hnl hcells (show w.drew.heap = w.heap from rfl)
      have holds : ∀ j q, cc[j]? = some q → w.cell? ((⟨b, o, none⟩ : Addr).add j) = some q := by
        intro j q hq
        have hadd : (⟨b, o, none⟩ : Addr).add j = ⟨b, o + j, none⟩ := by unfold Addr.add; split <;> simp_all
        rw [hadd, cell_of_row w b (o + j) cur te (0, 0) hb]
        rw [← htake, List.getElem?_take] at hq
        split at hq
        · rw [List.getElem?_drop] at hq; simpa using hq
        · cases hq
      have hfo := run_firstCells_some (P := P) w.drew r.size xs.length ⟨b, o, none⟩ xs.length cap cc hccl (by simpa using holds)
      have h48 : ¬ (281474976710656 < Builtin.nextslicecap (xs.length + m) cap * i.bytes) := by have := growslice_fits (by omega : cap < xs.length + m) hb47; omega
      have h63' : ¬ (9223372036854775807 < ((xs.length : Int) + (m : Int))) := by omega
      have hge := grownCap_ge w (xs.length + m) cap e
      have hcm' := grownCap_le_maxLen w (xs.length + m) cap e (by simp [maxLen] at h63 ⊢; omega)
      refine ⟨.slice (some ⟨w.heap.size, 0, none⟩) (xs.length + m) (grownCap w (xs.length + m) cap e), w.drew.alloc (.cells (cc.toArray ++ news.toArray ++ Builtin.zeroCells zv.cells (grownCap w (xs.length + m) cap e - (xs.length + m))) e), ?_, rfl, rfl, ⟨rfl, Nat.le_succ _⟩, by simp, fun k hk _ => Below.heap_alloc w.drew _ k hk, fun G ys hG hys hGb hFn hGn => ?_⟩
      · simp [Builtin.append_, run_underlying ht, sizeOf, typeInfo, zeroValue, hi, hz, hsz, Builtin.lenOf, hroom, h63', h48, Question.forced, hf, hfo, newRow, grownCap]
        congr 2
        apply Array.ext'
        simp [List.append_assoc]
      · refine ⟨w.heap.size :: (F1 ++ G), .inr ⟨w.heap.size, 0, _, _, e, F1 ++ G, cc ++ news, by simp [hys], rfl, heap_alloc_new w.drew _, ?_, ?_, hcm', ?_, ?_⟩, ?_, ?_⟩
        · simp only [Array.size_append, List.size_toArray, size_zeroCells, hzs, hnl, hccl, ← Nat.add_mul, Nat.zero_add]
          exact Nat.le_of_eq (by congr 1; omega)
        · simp [hys]; exact hge
        · simp only [List.length_append, hys, Nat.add_mul, Array.toList_append, List.drop_zero]
          rw [List.take_append_of_le_length (by simp [hccl, hnl])]
          simp [hccl, hnl, List.take_of_length_le]
        · exact ownL_append (ownL_keep hL fun k hk => Below.heap_alloc w.drew _ k (hlt1 k hk)) (ownL_keep hG fun k hk => Below.heap_alloc w.drew _ k (hGb k hk).1)
        · refine List.nodup_cons.2 ⟨?_, List.nodup_append.2 ⟨(List.nodup_cons.1 hFn).2, hGn, ?_⟩⟩
          · intro hx
            rcases List.mem_append.1 hx with hx | hx
            · have := hlt1 _ hx; omega
            · have := (hGb _ hx).1; omega
          · intro p hp q hq e
            subst e
            exact (hGb p hq).2 (by simp [hp])
        · intro k hk
          rcases List.mem_cons.1 hk with h | h
          · right; right; omega
          · rcases List.mem_append.1 h with h | h
            · exact .inl (by simp [h])
            · exact .inr (.inl h)
end
end Go.Gx
