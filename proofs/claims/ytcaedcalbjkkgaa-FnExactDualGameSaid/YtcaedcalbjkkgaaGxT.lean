/-
  Owned slices cut; elements moved out of owned slices; rows that a contract of the library has turned.
-/
import Derived.Test.YtcaedcalbjkkgaaGxW
import Derived.Sort.Row
import Derived.Sort.Grow
import Derived.Lib.SlicesCompact
namespace Go.Gx
open Go.RowKit

section
variable {α : Type} {r : Rep α} {w w0 : World} {L : List Asrt} {v : Value} {x : α}

theorem sub_self {α : Type} {xs : List α} : sub xs (0 : Int) (xs.length : Int) = some xs := by
  unfold sub
  rw [if_pos (by omega)]
  simp
theorem addr_add (g o q : Nat) : (⟨g, o, none⟩ : Addr).add q = ⟨g, o + q, none⟩ := by unfold Addr.add; split <;> simp_all

theorem ownL_split : ∀ {xs ys : List α} {F cs}, ownL r w F cs (xs ++ ys) → ∃ F1 F2 c1 c2, F = F1 ++ F2 ∧ cs = c1 ++ c2 ∧ ownL r w F1 c1 xs ∧ ownL r w F2 c2 ys
  | [], ys, F, cs, h => ⟨[], F, [], cs, rfl, rfl, ⟨rfl, rfl⟩, h⟩
  | z :: xs, ys, F, cs, ⟨F1, F2, c1, c2, e, e2, h1, h2⟩ => by
    obtain ⟨G1, G2, d1, d2, e3, e4, h3, h4⟩ := ownL_split h2
    subst e; subst e2; subst e3; subst e4
    exact ⟨F1 ++ G1, G2, c1 ++ d1, d2, by simp, by simp, ⟨F1, G1, c1, d1, rfl, rfl, h1, h3⟩, h4⟩

/-- A part of an owned slice takes its place. -/
theorem Heap.cut [dr : Dr] {lo hi : Int} {xs ys : List α} (H : Heap w0 (oA (rList r) v xs :: L) w) (hs : sub xs lo hi = some ys) : Heap w0 (oA (rList r) (subV v lo.toNat hi.toNat r.size) ys :: L) w := by
  obtain ⟨⟨h0, h1, h2⟩, rfl⟩ := sub_some hs
  refine H.ofHL fun F ⟨F1, F2, e, hA, hL⟩ hn => ?_
  subst e
  have n1 := List.nodup_append.1 hn
  have hlen : ((xs.take hi.toNat).drop lo.toNat).length = hi.toNat - lo.toNat := by simp; omega
  rcases oA_list.1 hA with ⟨rfl, rfl, hv⟩ | ⟨g, o, cap, cur, te, F', cc, hv, rfl, hg, hfit, hnc, hcm, htake, hO⟩
  · cases hv
    have e1 : lo.toNat = 0 := by simp at h2; omega
    have e2 : hi.toNat = 0 := by simp at h2; omega
    refine ⟨F2, ⟨[], F2, rfl, oA_list.2 (.inl ⟨by simp, rfl, ?_⟩), hL⟩, n1.2.1, fun b hb => by simp [hb]⟩
    simp [subV, e1, e2]
  · cases hv
    by_cases hc : cap = lo.toNat
    · refine ⟨g :: F2, ⟨[g], F2, rfl, oA_list.2 (.inr ⟨g, o, 0, cur, te, [], [], ?_, rfl, hg, ?_, ?_, by simp [maxLen], ?_, ?_⟩), hL⟩, ?_, fun b hb => ?_⟩
      · simp [subV, hc]; omega
      · omega
      · rw [hlen]; omega
      · rw [hlen, show hi.toNat - lo.toNat = 0 by omega]; simp
      · have : (xs.take hi.toNat).drop lo.toNat = [] := List.eq_nil_of_length_eq_zero (by omega)
        rw [this]; exact ⟨rfl, rfl⟩
      · have := (List.nodup_cons.1 n1.1).1
        exact List.nodup_cons.2 ⟨fun hx => n1.2.2 g (by simp) g hx rfl, n1.2.1⟩
      · rcases List.mem_cons.1 hb with h | h <;> simp [h]
    · have e1 : xs = xs.take lo.toNat ++ ((xs.take hi.toNat).drop lo.toNat ++ xs.drop hi.toNat) := by
        have : (xs.take hi.toNat).take lo.toNat = xs.take lo.toNat := by rw [List.take_take]; congr 1; omega
        rw [← List.append_assoc, ← this, List.take_append_drop, List.take_append_drop]
      have hO' := hO
      rw [e1] at hO'
      obtain ⟨Ga, Gr, ca, cr, rfl, hcc, hOa, hOr⟩ := ownL_split hO'
      obtain ⟨Gm, Gb, cm, cb, rfl, rfl, hOm, hOb⟩ := ownL_split hOr
      have hla : ca.length = lo.toNat * r.size := by rw [ownL_len hOa, List.length_take]; congr 1; omega
      have hlm : cm.length = (hi.toNat - lo.toNat) * r.size := by rw [ownL_len hOm, hlen]
      refine ⟨(g :: Gm) ++ F2, ⟨g :: Gm, F2, rfl, oA_list.2 (.inr ⟨g, o + lo.toNat * r.size, cap - lo.toNat, cur, te, Gm, cm, ?_, rfl, hg, ?_, ?_, by omega, ?_, hOm⟩), hL⟩, ?_, fun b hb => ?_⟩
      · rw [hlen]
        simp only [subV, if_neg hc, Option.map_some, addr_add]
      · have : lo.toNat * r.size + (cap - lo.toNat) * r.size = cap * r.size := by rw [← Nat.add_mul]; congr 1; omega
        omega
      · rw [hlen]; omega
      · rw [hlen, ← List.drop_drop]
        have hx : (cur.toList.drop o).take (xs.length * r.size) = ca ++ (cm ++ cb) := by rw [htake, hcc]
        have hxl : lo.toNat * r.size + (hi.toNat - lo.toNat) * r.size ≤ xs.length * r.size := by rw [← Nat.add_mul]; exact Nat.mul_le_mul_right _ (by omega)
        have : ((cur.toList.drop o).drop (lo.toNat * r.size)).take ((hi.toNat - lo.toNat) * r.size) = (((cur.toList.drop o).take (xs.length * r.size)).drop (lo.toNat * r.size)).take ((hi.toNat - lo.toNat) * r.size) := by
          rw [List.drop_take, List.take_take, Nat.min_eq_left (by omega)]
        rw [this, hx, ← hla, List.drop_left, ← hlm, List.take_left]
      · have n2 := List.nodup_cons.1 n1.1
        have n3 := List.nodup_append.1 n2.2
        have n4 := List.nodup_append.1 n3.2.1
        refine List.nodup_append.2 ⟨List.nodup_cons.2 ⟨fun hx => n2.1 (by simp [hx]), n4.1⟩, n1.2.1, fun a ha b hb => ?_⟩
        refine n1.2.2 a ?_ b hb
        rcases List.mem_cons.1 ha with h | h <;> simp [h]
      · simp at hb ⊢
        rcases hb with h | h | h <;> simp [h]

/-- An element of an owned slice of slices, the rest let go. -/
theorem Heap.out [dr : Dr] {β : Type} {s : Rep β} {xs : List (List β)} {i : Nat} {y : List β} (H : Heap w0 (oA (rList (rList s)) v xs :: L) w) (hi : xs[i]? = some y) :
    ∃ u, At w (ePtr v (i * (rList s).size)) 0 u ∧ Heap w0 (oA (rList s) u y :: L) w := by
  obtain ⟨u, h1, h2⟩ := H.lend hi (Lend.here (s := s))
  exact ⟨u, h1, h2.drop 1 rfl⟩
end

/-! ### rows of one cell an element -/
/-- An element is one cell. -/
structure Enc {α : Type} (r : Rep α) (enc : α → Value) : Prop where
  size : r.size = 1
  own : ∀ {w F cs x}, r.own w F cs x ↔ F = [] ∧ cs = [enc x]
  one : ∀ x, (enc x).oneCell' = true

theorem enc_int (k : IntKind) : Enc (rInt k) (Value.int k) := ⟨rfl, Iff.rfl, fun _ => rfl⟩
theorem enc_bool : Enc rBool Value.bool := ⟨rfl, Iff.rfl, fun _ => rfl⟩
theorem enc_str : Enc rStr sv := ⟨rfl, Iff.rfl, fun _ => rfl⟩

section
variable {α : Type} {r : Rep α} {enc : α → Value} {w w0 : World} {L : List Asrt} {v : Value}

theorem Enc.ownL (E : Enc r enc) : ∀ {xs : List α} {F cs}, ownL r w F cs xs ↔ F = [] ∧ cs = xs.map enc
  | [], F, cs => by simp [Gx.ownL]
  | x :: xs, F, cs => by
    constructor
    · rintro ⟨F1, F2, c1, c2, rfl, rfl, h1, h2⟩
      obtain ⟨rfl, rfl⟩ := E.own.1 h1
      obtain ⟨rfl, rfl⟩ := E.ownL.1 h2
      simp
    · rintro ⟨rfl, rfl⟩
      exact ⟨[], [], [enc x], xs.map enc, rfl, rfl, E.own.2 ⟨rfl, rfl⟩, E.ownL.2 ⟨rfl, rfl⟩⟩

/-- An owned row of one-cell elements: empty and nil, or a row of a block. -/
theorem Enc.row [dr : Dr] (E : Enc r enc) {xs : List α} (H : Heap w0 (oA (rList r) v xs :: L) w) :
    (xs = [] ∧ v = .slice none 0 0) ∨ ∃ g o cap, v = .slice (some ⟨g, o, none⟩) xs.length cap ∧ xs.length ≤ cap ∧ cap ≤ maxLen ∧ g < w.heap.size ∧
      (∀ j x, xs[j]? = some x → w.cell? ⟨g, o + j, none⟩ = some (enc x) ∧ w.frozen? ⟨g, o + j, none⟩ = false) := by
  obtain ⟨_, F, ⟨F1, F2, _, hA, _⟩, _⟩ := H
  rcases oA_list.1 hA with ⟨rfl, rfl, hv⟩ | ⟨g, o, cap, cur, te, F', cc, hv, rfl, hg, hfit, hnc, hcm, htake, hO⟩
  · cases hv; exact .inl ⟨rfl, rfl⟩
  · cases hv
    refine .inr ⟨g, o, cap, rfl, hnc, hcm, (Array.getElem?_eq_some_iff.1 hg).1, fun j x hx => ?_⟩
    obtain ⟨_, rfl⟩ := E.ownL.1 hO
    have hj := (List.getElem?_eq_some_iff.1 hx).1
    have h1 : cur[o + j]? = some (enc x) := by
      have : ((cur.toList.drop o).take (xs.length * r.size))[j]? = some (enc x) := by rw [htake]; simp [hx]
      rw [List.getElem?_take, E.size, Nat.mul_one, if_pos hj, List.getElem?_drop] at this
      simpa using this
    refine ⟨by rw [cell_of_row w g (o + j) cur te (0, 0) hg]; exact h1, ?_⟩
    simp [World.frozen?, hg]

theorem Enc.holds (E : Enc r enc) [Inhabited α] {g o : Nat} {xs : List α} (h : ∀ j x, xs[j]? = some x → w.cell? ⟨g, o + j, none⟩ = some (enc x) ∧ w.frozen? ⟨g, o + j, none⟩ = false) : Sort.Holds enc w g o xs.toArray := by
  have := E.size
  intro j hj
  have hj' : j < xs.length := by simpa using hj
  have hx : xs[j]? = some xs[j] := List.getElem?_eq_getElem hj'
  have e : xs.toArray[j]! = xs[j] := by rw [getElem!_pos xs.toArray j hj]; simp
  rw [e]
  exact h j _ hx

/-- The row of an owned slice has turned, draws and blocks behind it. -/
theorem Enc.turned [dr : Dr] (E : Enc r enc) [Inhabited α] {g o cap : Nat} {xs : List α} {d : Array α} (H : Heap w0 (oA (rList r) (.slice (some ⟨g, o, none⟩) xs.length cap) xs :: L) w) (hd : d.size = xs.length) (n : Nat) (os : Array Obj) :
    Heap w0 (oA (rList r) (.slice (some ⟨g, o, none⟩) xs.length cap) d.toList :: L) (Sort.grow (Sort.putRow enc (Sort.ahead w n) g o d) os) := by
  have hgl : ∀ F, (oA (rList r) (.slice (some ⟨g, o, none⟩) xs.length cap) xs).holds w F → ∃ cur te, F = [g] ∧ w.heap[g]? = some (.cells cur te (0, 0)) ∧ o + cap ≤ cur.size ∧ xs.length ≤ cap ∧ cap ≤ maxLen := by
    intro F hA
    rcases oA_list.1 hA with ⟨_, _, hv⟩ | ⟨g', o', cap', cur, te, F', cc, hv, rfl, hg, hfit, hnc, hcm, htake, hO⟩
    · cases hv
    · cases hv
      obtain ⟨rfl, _⟩ := E.ownL.1 hO
      rw [E.size, Nat.mul_one] at hfit
      exact ⟨cur, te, rfl, hg, hfit, hnc, hcm⟩
  have hheap : ∀ b, b ≠ g → b < w.heap.size → (Sort.grow (Sort.putRow enc (Sort.ahead w n) g o d) os).heap[b]? = w.heap[b]? := by
    intro b hb hlt
    simp only [Sort.grow, Sort.putRow, Sort.mapBlock, Sort.ahead]
    rw [Array.getElem?_append_left (by simpa using hlt), Array.getElem?_modify, if_neg (fun h => hb h.symm)]
  refine H.turn 0 rfl rfl rfl ⟨rfl, by simp [Sort.grow, Sort.putRow, Sort.mapBlock, Sort.ahead]⟩ (by simp [Sort.grow, Sort.putRow, Sort.mapBlock]) fun F hA hn => ?_
  obtain ⟨cur, te, rfl, hg, hfit, hnc, hcm⟩ := hgl F hA
  have hlt := (Array.getElem?_eq_some_iff.1 hg).1
  refine ⟨[g], oA_list.2 (.inr ⟨g, o, cap, Sort.putCells enc o d cur, te, [], d.toList.map enc, by simp [hd], rfl, ?_, ?_, by simpa [hd] using hnc, hcm, ?_, E.ownL.2 ⟨rfl, rfl⟩⟩), hn, fun b hb => .inl hb, fun b hb hnb => hheap b (fun h => hnb (by simp [h])) hb⟩
  · simp only [Sort.grow, Sort.putRow, Sort.mapBlock, Sort.ahead]
    rw [Array.getElem?_append_left (by simpa using hlt), Array.getElem?_modify, if_pos rfl, hg]
    rfl
  · rw [E.size, Nat.mul_one]; simpa [Sort.putCells] using hfit
  · rw [E.size, Nat.mul_one]
    apply List.ext_getElem?
    intro j
    by_cases hj : j < d.size
    · rw [List.getElem?_take, if_pos (by simpa using hj), List.getElem?_drop]
      have hoj : o + j < cur.size := by omega
      have e : (Sort.putCells enc o d cur).toList[o + j]? = some (enc d[j]!) := by
        rw [Array.getElem?_toList]
        simp [Sort.putCells, hoj, hj]
      rw [e, List.getElem?_map, Array.getElem?_toList]
      rw [getElem!_pos d j hj]; simp [hj]
    · rw [List.getElem?_eq_none (by simp; omega), List.getElem?_eq_none (by simp; omega)]

/-- slices.Sort and its like: the library's contract, over an owned slice. -/
theorem Enc.sorted [dr : Dr] (E : Enc r enc) [Inhabited α] {P : Program} {f : FuncId} {more : Array Value} {xs : List α} {srt : List α → List α} (hlen : ∀ l, (srt l).length = l.length) (hnil : srt [] = [])
    (h0 : Calls P f (#[.slice none 0 0] ++ more) w fun e w' => e = .returned (.tuple #[]) ∧ Heap w [] w')
    (h1 : ∀ g o cap, g < w.heap.size → Sort.Holds enc w g o xs.toArray → v = .slice (some ⟨g, o, none⟩) xs.length cap → Calls P f (#[.slice (some ⟨g, o, none⟩) xs.length cap] ++ more) w fun e w' => e = .returned (.tuple #[]) ∧ ∃ n os, w' = Sort.grow (Sort.putRow enc (Sort.ahead w n) g o (srt xs).toArray) os)
    (H : Heap w0 (oA (rList r) v xs :: L) w) : Calls P f (#[v] ++ more) w fun e w' => e = .returned (.tuple #[]) ∧ Heap w0 (oA (rList r) v (srt xs) :: L) w' := by
  rcases E.row H with ⟨rfl, rfl⟩ | ⟨g, o, cap, rfl, hnc, hcm, hg, hcell⟩
  · rw [hnil]
    exact h0.mono fun e w' ⟨he, Hc⟩ => ⟨he, H.call0 Hc⟩
  · refine (h1 g o cap hg (E.holds hcell) rfl).mono fun e w' ⟨he, n, os, hw⟩ => ⟨he, ?_⟩
    subst hw
    have := E.turned H (d := (srt xs).toArray) (by simp [hlen]) n os
    simpa using this
end

section
variable {α : Type} {r : Rep α} {enc : α → Value} {w w0 : World} {L : List Asrt} {v : Value}
theorem grow_none (w : World) : Sort.grow w #[] = w := by simp [Sort.grow]

/-- The row of an owned slice has turned, and what is handed back is its front. -/
theorem Enc.shrunk [dr : Dr] (E : Enc r enc) [Inhabited α] {g o cap : Nat} {xs ys pad : List α} (H : Heap w0 (oA (rList r) (.slice (some ⟨g, o, none⟩) xs.length cap) xs :: L) w) (hl : ys.length + pad.length = xs.length) (n : Nat) (os : Array Obj) :
    Heap w0 (oA (rList r) (.slice (some ⟨g, o, none⟩) ys.length cap) ys :: L) (Sort.grow (Sort.putRow enc (Sort.ahead w n) g o (ys ++ pad).toArray) os) := by
  have h1 := E.turned H (d := (ys ++ pad).toArray) (by simpa using hl) n os
  have hs : sub ((ys ++ pad).toArray.toList) (0 : Int) (ys.length : Int) = some ys := by
    unfold sub
    rw [if_pos (by simp; omega)]
    simp
  have h2 := h1.cut hs
  have e : subV (.slice (some ⟨g, o, none⟩) xs.length cap) (0 : Int).toNat ((ys.length : Int)).toNat r.size = .slice (some ⟨g, o, none⟩) ys.length cap := by
    simp only [subV, Int.toNat_natCast, Nat.sub_zero, show (0 : Int).toNat = 0 from rfl, Nat.zero_mul]
    split
    · rfl
    · simp [Addr.add]
  rw [e] at h2
  exact h2

theorem compact_len {α : Type} [Inhabited α] [DecidableEq α] (l : List α) : (Lib.compact l).length ≤ l.length := by
  unfold Lib.compact Lib.compactUpTo
  have := List.length_filter_le (Lib.keeps l.toArray) (List.range l.length)
  simpa using this

/-- slices.Compact and its like. -/
theorem Enc.compacted [dr : Dr] (E : Enc r enc) [Inhabited α] {P : Program} {f : FuncId} {more : Array Value} {xs : List α} {cut : List α → List α} {z : α} (hlen : ∀ l, (cut l).length ≤ l.length) (hnil : cut [] = [])
    (h0 : Calls P f (#[.slice none 0 0] ++ more) w fun e w' => e = .returned (.slice none 0 0) ∧ w' = w)
    (h1 : ∀ g o cap, g < w.heap.size → xs.length ≤ cap → cap ≤ maxLen → Sort.Holds enc w g o xs.toArray → v = .slice (some ⟨g, o, none⟩) xs.length cap → Calls P f (#[.slice (some ⟨g, o, none⟩) xs.length cap] ++ more) w fun e w' => e = .returned (.slice (some ⟨g, o, none⟩) (cut xs).length cap) ∧
      ∃ n, w' = Sort.putRow enc (Sort.ahead w n) g o (cut xs ++ List.replicate (xs.length - (cut xs).length) z).toArray)
    (H : Heap w0 (oA (rList r) v xs :: L) w) : Calls P f (#[v] ++ more) w fun e w' => ∃ v', e = .returned v' ∧ Heap w0 (oA (rList r) v' (cut xs) :: L) w' := by
  rcases E.row H with ⟨rfl, rfl⟩ | ⟨g, o, cap, rfl, hnc, hcm, hg, hcell⟩
  · rw [hnil]
    exact h0.mono fun e w' ⟨he, hw⟩ => ⟨_, he, by subst hw; exact H⟩
  · refine (h1 g o cap hg hnc hcm (E.holds hcell) rfl).mono fun e w' ⟨he, n, hw⟩ => ⟨_, he, ?_⟩
    subst hw
    have := hlen xs
    have h2 := E.shrunk H (ys := cut xs) (pad := List.replicate (xs.length - (cut xs).length) z) (by simp; omega) n #[]
    rw [grow_none] at h2
    exact h2
end

/-! ### writing over a part of an owned row -/
section
variable {α : Type} {r : Rep α} {w w0 : World} {L : List Asrt} {v : Value}

theorem splice_mid (T ca cb cd D us : List Value) (h : us.length = cb.length) {k : Nat} (hk : k = T.length + ca.length) : splice (T ++ ((ca ++ (cb ++ cd)) ++ D)) k us = T ++ ((ca ++ (us ++ cd)) ++ D) := by
  have e : T ++ ((ca ++ (cb ++ cd)) ++ D) = (T ++ ca) ++ (cb ++ (cd ++ D)) := by simp
  have hl : (T ++ ca).length = k := by simp [hk]
  unfold splice
  rw [e, List.take_left' hl, ← hl, List.drop_append, h]
  simp [List.drop_of_length_le]

theorem Heap.write [dr : Dr] {xs ys : List α} {us : List Value} {g o cap lo : Nat} (H : Heap w0 (oA (rList r) (.slice (some ⟨g, o, none⟩) xs.length cap) xs :: L) w) (hlo : lo + ys.length ≤ xs.length) (hy : ∀ w, ownL r w [] us ys) :
    ∃ w', (∀ P, (storeCells ⟨g, o + lo * r.size, none⟩ us).run P w = .ok () w') ∧ Heap w0 (oA (rList r) (.slice (some ⟨g, o, none⟩) xs.length cap) (xs.take lo ++ (ys ++ xs.drop (lo + ys.length))) :: L) w' := by
  have key : ∀ F, (oA (rList r) (.slice (some ⟨g, o, none⟩) xs.length cap) xs).holds w F → ∃ cur te F' cc, F = g :: F' ∧ w.heap[g]? = some (.cells cur te (0, 0)) ∧ o + cap * r.size ≤ cur.size ∧
      xs.length ≤ cap ∧ cap ≤ maxLen ∧ (cur.toList.drop o).take (xs.length * r.size) = cc ∧ ownL r w F' cc xs := by
    intro F hF
    rcases oA_list.1 hF with ⟨_, _, hv⟩ | ⟨b, o', cap', cur, te, F', cc, hv, h2, h3, h4, h5, h6, h7, h8⟩
    · cases hv
    · cases hv
      exact ⟨cur, te, F', cc, h2, h3, h4, h5, h6, h7, h8⟩
  obtain ⟨F0, hF0⟩ : ∃ F, (oA (rList r) (.slice (some ⟨g, o, none⟩) xs.length cap) xs).holds w F := by
    obtain ⟨_, F, ⟨F1, _, _, h1, _⟩, _⟩ := H
    exact ⟨F1, h1⟩
  obtain ⟨cur, te, _, _, _, hb, hfit, hnc, _, _, _⟩ := key F0 hF0
  have hul := ownL_len (hy w)
  have hmul : (lo + ys.length) * r.size ≤ cap * r.size := Nat.mul_le_mul_right _ (by omega)
  rw [Nat.add_mul] at hmul
  have hst : ∀ P, (storeCells ⟨g, o + lo * r.size, none⟩ us).run P w = .ok () (w.setRow g (splice cur.toList (o + lo * r.size) us).toArray) := fun P => by
    have := run_storeCells_at P g (o + lo * r.size) te us 0 cur w hb (by omega) (ownL_one (hy w))
    simpa [splice] using this
  obtain ⟨t1, t2, t3, t4, t5⟩ := setRow_turns (w := w) (b := g) (cs := (splice cur.toList (o + lo * r.size) us).toArray)
  refine ⟨_, hst, H.turn 0 rfl t1 t2 ⟨t3, Nat.le_refl _⟩ (by omega) fun F hA hn => ?_⟩
  obtain ⟨cur2, te2, F2, cc, hF2, hb2, hfit2, hnc2, hcm2, htake, hO⟩ := key F hA
  rw [hb] at hb2
  cases hb2
  subst hF2
  have e1 : xs = xs.take lo ++ ((xs.drop lo).take ys.length ++ xs.drop (lo + ys.length)) := by
    rw [← List.drop_drop, List.take_append_drop, List.take_append_drop]
  have hO' := hO
  rw [e1] at hO'
  obtain ⟨Ga, Gr, ca, cr, rfl, rfl, hOa, hOr⟩ := ownL_split hO'
  obtain ⟨Gm, Gb, cm, cb, rfl, rfl, hOm, hOb⟩ := ownL_split hOr
  have hla : ca.length = lo * r.size := by rw [ownL_len hOa, List.length_take, Nat.min_eq_left (by omega)]
  have hlm : cm.length = ys.length * r.size := by rw [ownL_len hOm, List.length_take, List.length_drop, Nat.min_eq_left (by omega)]
  have n1 := List.nodup_cons.1 hn
  have n2 := List.nodup_append.1 n1.2
  have n3 := List.nodup_append.1 n2.2.1
  have same : ∀ b, b ∈ Ga ∨ b ∈ Gb → (w.setRow g (splice cur.toList (o + lo * r.size) us).toArray).heap[b]? = w.heap[b]? := fun b hbm => t5 b (fun hx => n1.1 (by rw [← hx]; rcases hbm with h | h <;> simp [h]))
  have hnew : ownL r (w.setRow g (splice cur.toList (o + lo * r.size) us).toArray) (Ga ++ ([] ++ Gb)) (ca ++ (us ++ cb)) (xs.take lo ++ (ys ++ xs.drop (lo + ys.length))) :=
    ownL_append (ownL_keep hOa fun b hb => same b (.inl hb)) (ownL_append (hy _) (ownL_keep hOb fun b hb => same b (.inr hb)))
  have hlen : (xs.take lo ++ (ys ++ xs.drop (lo + ys.length))).length = xs.length := by simp; omega
  have hsp : splice cur.toList (o + lo * r.size) us = cur.toList.take o ++ ((ca ++ (us ++ cb)) ++ cur.toList.drop (o + xs.length * r.size)) := by
    have hcur : cur.toList = cur.toList.take o ++ ((ca ++ (cm ++ cb)) ++ cur.toList.drop (o + xs.length * r.size)) := by
      rw [← htake, ← List.drop_drop, List.take_append_drop, List.take_append_drop]
    have hT : (cur.toList.take o).length = o := by
      have : o ≤ cur.size := by omega
      simp; omega
    generalize hD : cur.toList.drop (o + xs.length * r.size) = D at hcur ⊢
    generalize hTT : cur.toList.take o = T at hcur hT ⊢
    rw [hcur]
    exact splice_mid T ca cm cb D us (by omega) (by omega)
  refine ⟨g :: (Ga ++ ([] ++ Gb)), oA_list.2 (.inr ⟨g, o, cap, _, te, _, ca ++ (us ++ cb), by rw [hlen], rfl, heap_setRow_same hb, ?_, by omega, hcm2, ?_, hnew⟩), ?_, fun b hb => .inl ?_, fun b _ hb => t5 b (fun hx => hb (by simp [hx]))⟩
  · simp only [List.size_toArray]
    rw [length_splice (by simp; omega)]
    simpa using hfit2
  · rw [hsp]
    have hT : (cur.toList.take o).length = o := by
      have : o ≤ cur.size := by omega
      simp; omega
    rw [show (cur.toList.take o ++ ((ca ++ (us ++ cb)) ++ cur.toList.drop (o + xs.length * r.size))).toArray.toList = cur.toList.take o ++ ((ca ++ (us ++ cb)) ++ cur.toList.drop (o + xs.length * r.size)) from rfl]
    rw [List.drop_left' hT, List.take_left' (by rw [hlen, ← ownL_len hO]; simp; omega)]
  · refine List.nodup_cons.2 ⟨fun h => n1.1 (by simp at h ⊢; rcases h with h | h <;> simp [h]), ?_⟩
    exact List.nodup_append.2 ⟨n2.1, by simpa using n3.2.1, fun a ha b hb => n2.2.2 a ha b (by simp at hb; simp [hb])⟩
  · simp at hb ⊢; rcases hb with h | h | h <;> simp [h]

theorem subV_self {n s : Nat} (h : IsSl v n) : subV v 0 n s = v := by
  obtain ⟨A, c, rfl, _, _⟩ := h
  simp only [subV, Nat.zero_mul, Nat.sub_zero]
  split
  · rfl
  · cases A <;> simp [Addr.add]

theorem subV_self' {α : Type} {xs : List α} {s : Nat} (h : IsSl v xs.length) : subV v (0 : Int).toNat ((xs.length : Int)).toNat s = v := by simpa using subV_self h

/-- 'copy' into the places from lo on, n of them. -/
def cpy (xs : List α) (lo n : Nat) (zs : List α) : List α := xs.take lo ++ (zs.take (min zs.length n) ++ xs.drop (lo + min zs.length n))

variable {P : Program} {ops : Array Oper} {C : World → Prop} {eff : Nat → Bool} {Q : Act → World → Prop} {N : Nat} {env : List (Nat × Value)} {a : Act} {k : Nat} {rest : List Oper}
variable {x y : Operand} {u : Value} {t t' ty : TypeId} {pos : String} {after : Array Edge} {gd : Option (Nat × Bool)} {d : Nat}

theorem lx_copy [dr : Dr] {e : TypeId} {xs ys zs : List α} {lo hi : Int} (S : Slots a N env) (hw : Want ops env gd) (hd : d < N) (he : eff k = true) (H : Heap w0 (oA (rList r) v xs :: L) w) (hf : Flat r)
    (hx : ev env x = some (subV v lo.toNat hi.toNat r.size)) (hy : ev env y = some u) (hs : sub xs lo hi = some ys) (hR : Rd (rList r) w u zs) (ht : P.underlying t = some (.slice e)) (hsz : ∀ w, (sizeOf e).run P w = .ok r.size w)
    (h : ∀ w', Heap w0 (oA (rList r) v (cpy xs lo.toNat ys.length zs) :: L) w' → C w' ∧ ∀ a, Slots a N ((d, .int .i64 (min zs.length ys.length : Nat)) :: env) → LX P ops C eff Q (k + 1) rest a w') :
    LX P ops C eff Q k (⟨some d, .call { callee := .builtin .copy, args := #[x, y], argTypes := #[t, t'] }, ty, pos, after, gd⟩ :: rest) a w := by
  obtain ⟨⟨h0, h1, h2⟩, rfl⟩ := sub_some hs
  have hyl : ((xs.take hi.toNat).drop lo.toNat).length = hi.toNat - lo.toNat := by simp; omega
  have hsl := H.isSl 0 rfl
  obtain ⟨news, hu, hG⟩ : ∃ news : List Value, (∃ A c, u = .slice A zs.length c ∧ ∀ n, n ≤ zs.length → ∀ w', w'.heap = w.heap → (Builtin.firstCells r.size n (.slice A zs.length c)).run P w' = .ok (news.take (n * r.size)).toArray w') ∧ ∀ w', ownL r w' [] news zs := by
    obtain ⟨cs, hv, A, c, rfl, hc, h2⟩ := hR
    have hv' : u = .slice A zs.length c := hv
    rcases h2 with rfl | ⟨p, cc, rfl, hb, hcell, hL⟩
    · refine ⟨[], ⟨A, c, hv', fun n hn w' hw' => ?_⟩, fun _ => ⟨rfl, rfl⟩⟩
      obtain rfl : n = 0 := by simpa using hn
      have := run_src (P := P) (size := r.size) (m := 0) (news := []) (A := A) (c := c) (w := w) (w' := w') (by simp) (.inl rfl) hw'
      simpa using this
    · refine ⟨cc, ⟨some p, c, hv', fun n hn w' hw' => ?_⟩, fun _ => flat_list hf hL⟩
      have hcl := rdL_len hL
      have hnl : n * r.size ≤ zs.length * r.size := Nat.mul_le_mul_right _ hn
      have key := run_loadCells_list (P := P) w' p (cc.take (n * r.size)) (fun j q hq => by
        rw [List.getElem?_take] at hq
        split at hq
        · unfold World.cell?
          rw [hw']
          exact hcell j q hq
        · cases hq)
      have hlen : (cc.take (n * r.size)).length = n * r.size := by simp; omega
      rw [hlen] at key
      simpa [Builtin.firstCells] using key
  obtain ⟨A, c, rfl, hfc⟩ := hu
  rw [hyl] at h
  -- the write
  have hnm : min zs.length (hi.toNat - lo.toNat) ≤ zs.length := Nat.min_le_left _ _
  have hG' : ∀ w', ownL r w' [] (news.take (min zs.length (hi.toNat - lo.toNat) * r.size)) (zs.take (min zs.length (hi.toNat - lo.toNat))) := by
    intro w'
    have := hG w'
    rw [← List.take_append_drop (min zs.length (hi.toNat - lo.toNat)) zs] at this
    obtain ⟨F1, F2, c1, c2, e1, e2, h3, _⟩ := ownL_split this
    have : F1 = [] := (List.append_eq_nil_iff.1 e1.symm).1
    subst this
    have hl := ownL_len h3
    rw [List.length_take, Nat.min_eq_left hnm] at hl
    rw [e2, List.take_left' hl]
    exact h3
  have hzl : (zs.take (min zs.length (hi.toNat - lo.toNat))).length = min zs.length (hi.toNat - lo.toNat) := by simp
  have fin : ∀ {w'}, (∀ a, Slots a N env → (execOp a.eval ⟨some d, .call { callee := .builtin .copy, args := #[x, y], argTypes := #[t, t'] }, ty, pos, after, gd⟩).run P w = .ok (.value (.int .i64 (min zs.length (hi.toNat - lo.toNat) : Nat))) w') →
      Heap w0 (oA (rList r) v (cpy xs lo.toNat (hi.toNat - lo.toNat) zs) :: L) w' →
      LX P ops C eff Q k (⟨some d, .call { callee := .builtin .copy, args := #[x, y], argTypes := #[t, t'] }, ty, pos, after, gd⟩ :: rest) a w := by
    intro w' hr H'
    have h' := h w' H'
    exact lx_val S hw hd he hr h'.1 h'.2
  obtain ⟨Av, cv, hvv, hcv, hpv⟩ := hsl
  subst hvv
  by_cases hz : min zs.length (hi.toNat - lo.toNat) = 0
  · -- nothing goes over
    have e0 : cpy xs lo.toNat (hi.toNat - lo.toNat) zs = xs := by unfold cpy; rw [hz]; simp
    refine fin (w' := w) (fun a S => ?_) (by rw [e0]; exact H)
    have hf0 := hfc 0 (Nat.zero_le _) w rfl
    simp only [Nat.zero_mul, List.take_zero] at hf0
    have hz' : Nat.min zs.length (hi.toNat - lo.toNat) = 0 := hz
    simp only [subV] at hx
    rw [hz]
    generalize hq : (if cv = lo.toNat then Av else Option.map (fun x => x.add (lo.toNat * r.size)) Av) = q at hx
    cases q <;> simp [execOp, resolve, invoke, builtin, S.eval hx, S.eval hy, Builtin.copy_, run_underlying ht, Builtin.lenOf, hz', hsz, hf0, storeCells, goInt]
  · have hlt : lo.toNat < xs.length := by omega
    obtain ⟨p, hp⟩ := hpv (by omega)
    subst hp
    obtain ⟨g, o, rfl⟩ : ∃ g o, p = ⟨g, o, none⟩ := by
      obtain ⟨_, F, ⟨F1, _, _, hA, _⟩, _⟩ := H
      rcases oA_list.1 hA with ⟨_, _, hv⟩ | ⟨g, o, cap, cur, te, F', cc, hv, _⟩
      · cases hv
      · cases hv; exact ⟨g, o, rfl⟩
    obtain ⟨w', hst, H'⟩ := H.write (lo := lo.toNat) (ys := zs.take (min zs.length (hi.toNat - lo.toNat))) (by rw [hzl]; omega) hG'
    refine fin (w' := w') (fun a S => ?_) (by rw [hzl] at H'; exact H')
    have hne : ¬ cv = lo.toNat := by omega
    simp only [subV, if_neg hne, Option.map_some, addr_add] at hx
    have hf1 := hfc (min zs.length (hi.toNat - lo.toNat)) hnm w rfl
    have hm : Nat.min zs.length (hi.toNat - lo.toNat) = min zs.length (hi.toNat - lo.toNat) := rfl
    simp [execOp, resolve, invoke, builtin, S.eval hx, S.eval hy, Builtin.copy_, run_underlying ht, Builtin.lenOf, hm, hsz, hf1, hst, goInt]

/-- 'clear' of the places from lo to hi. -/
def clr (xs : List α) (lo hi : Nat) (z : α) : List α := xs.take lo ++ (List.replicate (hi - lo) z ++ xs.drop hi)

theorem flatten_rep (zs : List Value) : ∀ (n t : Nat), t < n * zs.length → (List.replicate n zs).flatten[t]? = some (zs[t % zs.length]!)
  | 0, t, h => by simp at h
  | n + 1, t, h => by
    rw [List.replicate_succ, List.flatten_cons]
    by_cases ht : t < zs.length
    · rw [List.getElem?_append_left ht, Nat.mod_eq_of_lt ht]
      simp [ht]
    · have hk : 0 < zs.length := by
        rcases Nat.eq_zero_or_pos zs.length with h0 | h0
        · rw [h0] at h; simp at h
        · exact h0
      rw [List.getElem?_append_right (by omega), flatten_rep zs n (t - zs.length) (by rw [Nat.add_mul, Nat.one_mul] at h; omega)]
      have e : t = (t - zs.length) + zs.length := by omega
      have e2 : t % zs.length = (t - zs.length) % zs.length := by rw [e, Nat.add_mod_right, ← e]
      rw [e2]
theorem zeroCells_flat (zs : List Value) (n : Nat) : (Builtin.zeroCells zs.toArray n).toList = (List.replicate n zs).flatten := by
  have hl : (List.replicate n zs).flatten.length = n * zs.length := by simp [List.length_flatten]
  apply List.ext_getElem?
  intro t
  by_cases ht : t < n * zs.length
  · rw [flatten_rep zs n t ht]
    simp [Builtin.zeroCells, ht]
  · rw [List.getElem?_eq_none (by simpa [Builtin.zeroCells] using ht), List.getElem?_eq_none (by rw [hl]; omega)]
theorem lx_clear [dr : Dr] {e : TypeId} {xs ys : List α} {lo hi : Int} {z0 : α} {zv : Value} {zs : List Value} (S : Slots a N env) (hw : Want ops env gd) (he : eff k = true) (H : Heap w0 (oA (rList r) v xs :: L) w)
    (hx : ev env x = some (subV v lo.toNat hi.toNat r.size)) (hs : sub xs lo hi = some ys) (ht : P.underlying t = some (.slice e)) (hz : ∀ w, (zeroValue e).run P w = .ok zv w) (hzs : zv.cells = zs.toArray) (_hsz : zs.length = r.size) (hown : ∀ w, r.own w [] zs z0)
    (h : ∀ w', Heap w0 (oA (rList r) v (clr xs lo.toNat hi.toNat z0) :: L) w' → C w' ∧ ∀ a, Slots a N env → LX P ops C eff Q (k + 1) rest a w') :
    LX P ops C eff Q k (⟨none, .call { callee := .builtin .clear, args := #[x], argTypes := #[t] }, ty, pos, after, gd⟩ :: rest) a w := by
  obtain ⟨⟨h0, h1, h2⟩, rfl⟩ := sub_some hs
  have hsl := H.isSl 0 rfl
  have fin : ∀ {w'}, (∀ a, Slots a N env → (execOp a.eval ⟨none, .call { callee := .builtin .clear, args := #[x], argTypes := #[t] }, ty, pos, after, gd⟩).run P w = .ok .skip w' ∨
        (execOp a.eval ⟨none, .call { callee := .builtin .clear, args := #[x], argTypes := #[t] }, ty, pos, after, gd⟩).run P w = .ok (.value (.tuple #[])) w') →
      Heap w0 (oA (rList r) v (clr xs lo.toNat hi.toNat z0) :: L) w' →
      LX P ops C eff Q k (⟨none, .call { callee := .builtin .clear, args := #[x], argTypes := #[t] }, ty, pos, after, gd⟩ :: rest) a w := by
    intro w' hr H'
    have h' := h w' H'
    unfold LX Step
    rw [if_pos (wanted_of (o := ⟨none, .call { callee := .builtin .clear, args := #[x], argTypes := #[t] }, ty, pos, after, gd⟩) S hw)]
    refine .inr ⟨he, ?_⟩
    unfold EffAt
    rcases hr a S with h1 | h1 <;> rw [h1] <;> exact ⟨h'.1, h'.2 _ (S.putN _)⟩
  obtain ⟨Av, cv, hvv, hcv, hpv⟩ := hsl
  subst hvv
  by_cases hz0 : hi.toNat - lo.toNat = 0
  · have e0 : clr xs lo.toNat hi.toNat z0 = xs := by
      have : hi.toNat = lo.toNat := by omega
      unfold clr; rw [this]; simp
    refine fin (w' := w) (fun a S => .inr ?_) (by rw [e0]; exact H)
    simp only [subV, hz0] at hx
    generalize hq : (if cv = lo.toNat then Av else Option.map (fun x => x.add (lo.toNat * r.size)) Av) = q at hx
    cases q <;> simp [execOp, resolve, invoke, builtin, S.eval hx, Builtin.clear_, run_underlying ht]
  · obtain ⟨p, hp⟩ := hpv (by omega)
    subst hp
    obtain ⟨g, o, rfl⟩ : ∃ g o, p = ⟨g, o, none⟩ := by
      obtain ⟨_, F, ⟨F1, _, _, hA, _⟩, _⟩ := H
      rcases oA_list.1 hA with ⟨_, _, hv⟩ | ⟨g, o, cap, cur, te, F', cc, hv, _⟩
      · cases hv
      · cases hv; exact ⟨g, o, rfl⟩
    have hG : ∀ w', ownL r w' [] (List.replicate (hi.toNat - lo.toNat) zs).flatten (List.replicate (hi.toNat - lo.toNat) z0) := fun w' => ownL_replicate (hown w') (hi.toNat - lo.toNat)
    obtain ⟨w', hst, H'⟩ := H.write (lo := lo.toNat) (ys := List.replicate (hi.toNat - lo.toNat) z0) (by simp; omega) hG
    refine fin (w' := w') (fun a S => .inr ?_) ?_
    · have hne : ¬ cv = lo.toNat := by omega
      simp only [subV, if_neg hne, Option.map_some, addr_add] at hx
      have hzc : (Builtin.zeroCells zv.cells (hi.toNat - lo.toNat)).toList = (List.replicate (hi.toNat - lo.toNat) zs).flatten := by
        rw [hzs]
        exact zeroCells_flat _ _
      obtain ⟨m, hm⟩ : ∃ m, hi.toNat - lo.toNat = m + 1 := ⟨hi.toNat - lo.toNat - 1, by omega⟩
      rw [hm] at hx hzc hst
      simp [execOp, resolve, invoke, builtin, S.eval hx, Builtin.clear_, run_underlying ht, hz, hzc, hst]
    · simp only [List.length_replicate, show lo.toNat + (hi.toNat - lo.toNat) = hi.toNat by omega] at H'
      exact H'
end
end Go.Gx
