/-
  Sorting with a comparison function, elements of several cells: what the library's contract says of an owned slice.
-/
import Derived.Test.YtldmecdkdoipdaaGreatDoorGxK
namespace Go.Gx
open Go.RowKit Go.Sort

/-- An element is k cells, none of them leading on. -/
structure EncK {α : Type} (r : Rep α) (k : Nat) (enc : α → List Value) : Prop where
  size : r.size = k
  pos : 0 < k
  own : ∀ {w F cs x}, r.own w F cs x ↔ F = [] ∧ cs = enc x
  len : ∀ x, (enc x).length = k
  one : ∀ x, ∀ v ∈ enc x, v.oneCell' = true

section
variable {α : Type} {r : Rep α} {k : Nat} {enc : α → List Value} {w w0 : World} {L : List Asrt} {v : Value}

theorem EncK.ownL (E : EncK r k enc) : ∀ {xs : List α} {F cs}, Gx.ownL r w F cs xs ↔ F = [] ∧ cs = xs.flatMap enc
  | [], F, cs => by simp [Gx.ownL]
  | x :: xs, F, cs => by
    constructor
    · rintro ⟨F1, F2, c1, c2, rfl, rfl, h1, h2⟩
      obtain ⟨rfl, rfl⟩ := E.own.1 h1
      obtain ⟨rfl, rfl⟩ := E.ownL.1 h2
      simp
    · rintro ⟨rfl, rfl⟩
      exact ⟨[], [], enc x, xs.flatMap enc, rfl, rfl, E.own.2 ⟨rfl, rfl⟩, E.ownL.2 ⟨rfl, rfl⟩⟩

theorem EncK.flat_len (E : EncK r k enc) : ∀ (xs : List α), (xs.flatMap enc).length = xs.length * k
  | [] => by simp
  | x :: xs => by rw [List.flatMap_cons, List.length_append, E.len, E.flat_len xs, List.length_cons, Nat.add_mul, Nat.one_mul, Nat.add_comm]

theorem EncK.flat_get (E : EncK r k enc) [Inhabited α] : ∀ (xs : List α) (t : Nat), t < xs.length * k → (xs.flatMap enc)[t]? = some ((enc (xs[t / k]?.getD default))[t % k]!)
  | [], t, h => by simp at h
  | x :: xs, t, h => by
    have hk := E.pos
    rw [List.flatMap_cons]
    by_cases ht : t < k
    · rw [List.getElem?_append_left (by rw [E.len]; exact ht), Nat.div_eq_of_lt ht, Nat.mod_eq_of_lt ht]
      have : t < (enc x).length := by rw [E.len]; exact ht
      simp [this]
    · rw [List.getElem?_append_right (by rw [E.len]; omega), E.len]
      have h' : t - k < xs.length * k := by rw [List.length_cons, Nat.add_mul, Nat.one_mul] at h; omega
      rw [E.flat_get xs (t - k) h']
      have e : t = (t - k) + k := by omega
      have e1 : t / k = (t - k) / k + 1 := by rw [e, Nat.add_div_right _ hk, ← e]
      have e2 : t % k = (t - k) % k := by rw [e, Nat.add_mod_right, ← e]
      rw [e1, e2]
      simp

theorem EncK.flatK (E : EncK r k enc) [Inhabited α] (d : Array α) : (Sort.flatK enc k d).toList = d.toList.flatMap enc := by
  apply List.ext_getElem?
  intro t
  by_cases ht : t < d.size * k
  · rw [E.flat_get d.toList t (by simpa using ht)]
    have hs : t < (Sort.flatK enc k d).size := by simpa using ht
    have := Sort.get_flatK enc k d t ht
    rw [getElem!_pos _ t hs] at this
    rw [Array.getElem?_toList, Array.getElem?_eq_getElem hs, this]
    congr 3
    rw [Array.getElem?_toList]
    simp only [Array.getElem!_eq_getD, Array.getD_eq_getD_getElem?]
  · rw [List.getElem?_eq_none (by simpa using ht), List.getElem?_eq_none (by rw [E.flat_len]; simpa using ht)]

/-- An owned row: empty and nil, or a row of a block. -/
theorem EncK.row [dr : Dr] (E : EncK r k enc) [Inhabited α] {xs : List α} (H : Heap w0 (oA (rList r) v xs :: L) w) :
    (xs = [] ∧ v = .slice none 0 0) ∨ ∃ g o cap, v = .slice (some ⟨g, o, none⟩) xs.length cap ∧ xs.length ≤ cap ∧ cap ≤ maxLen ∧ g < w.heap.size ∧ Sort.HoldsK enc k w g o xs.toArray := by
  obtain ⟨_, F, ⟨F1, F2, _, hA, _⟩, _⟩ := H
  rcases oA_list.1 hA with ⟨rfl, rfl, hv⟩ | ⟨g, o, cap, cur, te, F', cc, hv, rfl, hg, hfit, hnc, hcm, htake, hO⟩
  · cases hv; exact .inl ⟨rfl, rfl⟩
  · cases hv
    refine .inr ⟨g, o, cap, rfl, hnc, hcm, (Array.getElem?_eq_some_iff.1 hg).1, fun j hj => ?_⟩
    obtain ⟨_, rfl⟩ := E.ownL.1 hO
    have hj' : j < xs.length * k := by simpa using hj
    have hget : (xs.flatMap enc)[j]? = some ((Sort.flatK enc k xs.toArray)[j]!) := by
      have := E.flatK xs.toArray
      rw [← show xs.toArray.toList = xs from rfl, ← this, Array.getElem?_toList, Array.getElem?_eq_getElem hj, getElem!_pos _ j hj]
    have h1 : cur[o + j]? = some ((Sort.flatK enc k xs.toArray)[j]!) := by
      have : ((cur.toList.drop o).take (xs.length * r.size))[j]? = some ((Sort.flatK enc k xs.toArray)[j]!) := by rw [htake]; exact hget
      rw [List.getElem?_take, E.size, if_pos hj', List.getElem?_drop] at this
      simpa using this
    refine ⟨by rw [cell_of_row w g (o + j) cur te (0, 0) hg]; exact h1, ?_⟩
    simp [World.frozen?, hg]

/-- The row of an owned slice has turned, draws and blocks behind it. -/
theorem EncK.turned [dr : Dr] (E : EncK r k enc) [Inhabited α] {g o cap : Nat} {xs : List α} {d : Array α} (H : Heap w0 (oA (rList r) (.slice (some ⟨g, o, none⟩) xs.length cap) xs :: L) w) (hd : d.size = xs.length) (n : Nat) (os : Array Obj) :
    Heap w0 (oA (rList r) (.slice (some ⟨g, o, none⟩) xs.length cap) d.toList :: L) (Sort.grow (Sort.putRowK enc k (Sort.ahead w n) g o d) os) := by
  have hgl : ∀ F, (oA (rList r) (.slice (some ⟨g, o, none⟩) xs.length cap) xs).holds w F → ∃ cur te, F = [g] ∧ w.heap[g]? = some (.cells cur te (0, 0)) ∧ o + cap * k ≤ cur.size ∧ xs.length ≤ cap ∧ cap ≤ maxLen := by
    intro F hA
    rcases oA_list.1 hA with ⟨_, _, hv⟩ | ⟨g', o', cap', cur, te, F', cc, hv, rfl, hg, hfit, hnc, hcm, htake, hO⟩
    · cases hv
    · cases hv
      obtain ⟨rfl, _⟩ := E.ownL.1 hO
      rw [E.size] at hfit
      exact ⟨cur, te, rfl, hg, hfit, hnc, hcm⟩
  unfold Sort.putRowK
  have hheap : ∀ b, b ≠ g → b < w.heap.size → (Sort.grow (Sort.putRow id (Sort.ahead w n) g o (Sort.flatK enc k d)) os).heap[b]? = w.heap[b]? := by
    intro b hb hlt
    simp only [Sort.grow, Sort.putRow, Sort.mapBlock, Sort.ahead]
    rw [Array.getElem?_append_left (by simpa using hlt), Array.getElem?_modify, if_neg (fun h => hb h.symm)]
  refine H.turn 0 rfl rfl rfl ⟨rfl, by simp [Sort.grow, Sort.putRow, Sort.mapBlock, Sort.ahead]⟩ (by simp [Sort.grow, Sort.putRow, Sort.mapBlock]) fun F hA hn => ?_
  obtain ⟨cur, te, rfl, hg, hfit, hnc, hcm⟩ := hgl F hA
  have hlt := (Array.getElem?_eq_some_iff.1 hg).1
  have hmul : d.size * k ≤ cap * k := Nat.mul_le_mul_right _ (by omega)
  refine ⟨[g], oA_list.2 (.inr ⟨g, o, cap, Sort.putCells id o (Sort.flatK enc k d) cur, te, [], d.toList.flatMap enc, by simp [hd], rfl, ?_, ?_, by simpa [hd] using hnc, hcm, ?_, E.ownL.2 ⟨rfl, rfl⟩⟩), hn, fun b hb => .inl hb, fun b hb hnb => hheap b (fun h => hnb (by simp [h])) hb⟩
  · simp only [Sort.grow, Sort.putRow, Sort.mapBlock, Sort.ahead]
    rw [Array.getElem?_append_left (by simpa using hlt), Array.getElem?_modify, if_pos rfl, hg]
    rfl
  · rw [E.size]; simpa [Sort.putCells] using hfit
  · rw [E.size]
    apply List.ext_getElem?
    intro j
    by_cases hj : j < d.size * k
    · rw [List.getElem?_take, if_pos (by simpa using hj), List.getElem?_drop]
      have hoj : o + j < cur.size := by omega
      have hjs : j < (Sort.flatK enc k d).size := by simpa using hj
      have e : (Sort.putCells id o (Sort.flatK enc k d) cur).toList[o + j]? = some ((Sort.flatK enc k d)[j]!) := by
        rw [Array.getElem?_toList]
        simp [Sort.putCells, hoj, hj]
      rw [e, ← E.flatK d, Array.getElem?_toList, Array.getElem?_eq_getElem hjs, getElem!_pos _ j hjs]
    · rw [List.getElem?_eq_none (by simp; omega), List.getElem?_eq_none (by rw [E.flat_len]; simp; omega)]
end

section
variable {α : Type} [DecidableEq α]
/-- slices.SortFunc, elements of k cells. -/
theorem sortF_k [dr : Dr] {r : Rep α} {k : Nat} {enc : α → List Value} (E : EncK r k enc) {P : Program} {f g : FuncId} {cp : List Value} {a : α → α → Option Int} {xs : List α} {v : Value} {w00 w : World} {L : List Asrt}
    (hsort : ∀ {β : Type} [Inhabited β] (enc' : β → List Value) (_ : ∀ x, (enc' x).length = k) (_ : ∀ x, ∀ v ∈ enc' x, v.oneCell' = true) (cf : β → β → Int) (_ : SWO (Go.Proofs.ltOf cf)) (blk off cap : Nat) (d : Array β) (w : World)
      (_ : ∀ args w, (callFunc g args).run P w = .ok (.enter g args) w) (_ : Go.Proofs.CmpLays P g cp.toArray enc' k cf blk off d.size w) (_ : Sort.HoldsK enc' k w blk off d) (_ : blk < w.heap.size) (_ : d.size < 4611686018427387904)
      (_ : ∀ x y, (Go.Proofs.ltOf cf) x y = false → (Go.Proofs.ltOf cf) y x = false → x = y),
      Calls P f #[.slice (some ⟨blk, off, none⟩) d.size cap, .func (.func g) #[] cp.toArray] w fun e w' => e = .returned (.tuple #[]) ∧ ∃ n os, w' = Go.Proofs.sortWorldK enc' k w blk off n (d.toList.mergeSort fun x y => !(Go.Proofs.ltOf cf) y x).toArray os)
    (hnone : ∀ (p : Option Addr) (cap : Nat) (w : World), Calls P f #[.slice p 0 cap, .func (.func g) #[] cp.toArray] w fun e w' => e = .returned (.tuple #[]) ∧ w' = w)
    (eg : ∀ args w, (callFunc g args).run P w = .ok (.enter g args) w)
    (hcmp : ∀ {w : World} {x y : α} {z : Int}, Heap w00 L w → a x y = some z → Calls P g (([] : List Value) ++ ([.agg (enc x).toArray, .agg (enc y).toArray] : List Value) ++ cp).toArray w fun e w' => e = .returned (.int .i64 z) ∧ Ext w w' ∧ w.drawn ≤ w'.drawn)
    (hc : sortOk a xs = true) (H : Heap w00 (oA (rList r) v xs :: L) w) :
    Calls P f #[v, .func (.func g) #[] cp.toArray] w fun e w' => e = .returned (.tuple #[]) ∧ Heap w00 (oA (rList r) v (sortF a xs) :: L) w' := by
  have hk := sortOk_iff.1 hc
  cases xs with
  | nil =>
    have hv : ∃ p c, v = .slice p 0 c := by
      obtain ⟨_, F, ⟨F1, F2, _, hA, _⟩, _⟩ := H
      rcases oA_list.1 hA with ⟨_, _, hv⟩ | ⟨g, o, cap, cur, te, F', cc, hv, _⟩
      · cases hv; exact ⟨_, _, rfl⟩
      · cases hv; exact ⟨_, _, rfl⟩
    obtain ⟨p, c, rfl⟩ := hv
    exact (hnone p c w).mono fun e w' ⟨he, hw⟩ => ⟨he, by rw [show sortF a ([] : List α) = [] from by simp [sortF], hw]; exact H⟩
  | cons x0 xs0 =>
    generalize hxs : x0 :: xs0 = xs at *
    have hx0 : x0 ∈ xs := by rw [← hxs]; simp
    letI : Inhabited {x // x ∈ xs} := ⟨⟨x0, hx0⟩⟩
    letI : Inhabited α := ⟨x0⟩
    rcases E.row H with ⟨rfl, rfl⟩ | ⟨g', o, cap, rfl, hnc, hcm, hg, hcell⟩
    · cases hxs
    have hsz : xs.attach.toArray.size = xs.length := by simp
    have flat : ∀ (dk : Array {x // x ∈ xs}), Sort.flatK (fun x : {x // x ∈ xs} => enc x.1) k dk = Sort.flatK enc k (dk.map (·.1)) := by
      intro dk
      refine Sort.ext_get! (by simp) fun t ht => ?_
      have ht' : t < dk.size * k := by simpa using ht
      have hq : t / k < dk.size := by
        rw [Nat.div_lt_iff_lt_mul E.pos]
        exact ht'
      rw [Sort.get_flatK _ _ _ _ ht', Sort.get_flatK _ _ _ _ (by simpa using ht'), getElem!_pos dk (t / k) hq, getElem!_pos (dk.map (·.1)) (t / k) (by simpa using hq)]
      simp
    have turn : ∀ (dk : Array {x // x ∈ xs}), dk.size = xs.length → ∀ n os, Heap w00 (oA (rList r) (.slice (some ⟨g', o, none⟩) xs.length cap) (dk.map (·.1)).toList :: L) (Go.Proofs.sortWorldK (fun x : {x // x ∈ xs} => enc x.1) k w g' o n dk os) := by
      intro dk hd n os
      unfold Go.Proofs.sortWorldK Sort.putRowK
      rw [flat]
      exact E.turned H (by simpa using hd) n os
    have key := hsort (fun x : {x // x ∈ xs} => enc x.1) (fun x => E.len x.1) (fun x => E.one x.1) (fun x y => (a x.1 y.1).getD 0) (sub_swo hk) g' o cap xs.attach.toArray w eg
      (fun m os dk hd x y => by
        obtain ⟨z, hz⟩ := hk.all x.1 x.2 y.1 y.2
        have hH := (turn dk (by rw [hd, hsz]) m os).tail
        have e1 : (a x.1 y.1).getD 0 = z := by rw [hz]; rfl
        have := hcmp hH hz
        have ea : (#[.agg (enc x.1).toArray, .agg (enc y.1).toArray] ++ cp.toArray : Array Value) = (([] : List Value) ++ ([.agg (enc x.1).toArray, .agg (enc y.1).toArray] : List Value) ++ cp).toArray := by simp
        refine (ea ▸ this : Calls P g (#[.agg (enc x.1).toArray, .agg (enc y.1).toArray] ++ cp.toArray) _ fun e w' => e = .returned (.int .i64 z) ∧ Ext _ w' ∧ World.drawn _ ≤ w'.drawn).mono fun e w' ⟨he, hw, hd⟩ => ⟨?_, ext_grown hw hd⟩
        rw [he, ← e1])
      (by
        unfold Sort.HoldsK at hcell ⊢
        rw [flat]
        have : xs.attach.toArray.map (·.1) = xs.toArray := by simp
        rw [this]
        exact hcell)
      hg (by rw [hsz]; exact hk.len) (fun x y p q => Subtype.ext (hk.anti x.1 x.2 y.1 y.2 p q))
    rw [hsz] at key
    refine key.mono fun e w' ⟨he, n, os, hw⟩ => ⟨he, ?_⟩
    subst hw
    have hT := turn (xs.attach.mergeSort fun x y => !ltF a y.1 x.1).toArray (by simp [(List.mergeSort_perm _ _).length_eq]) n os
    have e2 : ((xs.attach.mergeSort fun x y => !ltF a y.1 x.1).toArray.map (·.1)).toList = sortF a xs := by rw [← sub_sort]; simp
    rw [e2] at hT
    exact hT
end
end Go.Gx
