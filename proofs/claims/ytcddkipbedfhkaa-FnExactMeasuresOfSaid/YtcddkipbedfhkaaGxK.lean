/-
  Sorting with a comparison function: what the library's contract says of an owned slice.
-/
import Derived.Test.YtcddkipbedfhkaaGxX
import Derived.Test.YtcddkipbedfhkaaGxKm
import Derived.Shelf.SlSortCmp.NoneTotal
namespace Go.Gx
open Go.RowKit Go.Sort

theorem ext_grown [dr : Dr] {w w' : World} (h : Ext w w') (hd : w.drawn ≤ w'.drawn) : ∃ q os, w' = Sort.grow (w.drewN q) os := by
  refine ⟨w'.drawn - w.drawn, w'.heap.extract w.heap.size w'.heap.size, ?_⟩
  have h1 := h.os
  have h2 := h.tape
  have h3 := h.output
  have h4 := hd
  have h5 := h.size
  have hh : w'.heap = w.heap ++ w'.heap.extract w.heap.size w'.heap.size := by
    apply Array.ext_getElem?
    intro i
    by_cases hi : i < w.heap.size
    · rw [Array.getElem?_append_left hi]; exact h.block hi
    · rw [Array.getElem?_append_right (by omega)]
      rw [Array.getElem?_extract]
      by_cases hj : i < w'.heap.size
      · rw [if_pos (by omega), show w.heap.size + (i - w.heap.size) = i by omega]
      · rw [if_neg (by omega), Array.getElem?_eq_none (by omega)]
  obtain ⟨hp, tp, dr, o, out⟩ := w'
  obtain ⟨hp0, tp0, dr0, o0, out0⟩ := w
  simp only [Sort.grow, World.drewN] at *
  subst h1; subst h2; subst h3
  rw [← hh, show dr0 + (dr - dr0) = dr by omega]

/-- A function that keeps the world keeps what a sort asks of its comparison. -/
theorem gr_ext [dr : Dr] {P : Program} {f : FuncId} {args : Array Value} {w : World} {x : Ending} (h : Calls P f args w fun e w' => e = x ∧ w' = w) : Calls P f args w fun e w' => e = x ∧ Ext w w' ∧ w.drawn ≤ w'.drawn :=
  h.mono fun e w' ⟨he, hw⟩ => ⟨he, by subst hw; exact ⟨Ext.refl _, Nat.le_refl _⟩⟩

/-- A function whose walk tells of the draws. -/
theorem gr_on [dr : Dr] {P : Program} {f : FuncId} {args : Array Value} {w : World} {x : Ending} (h : Calls P f args w fun e w' => e = x ∧ Heap (dr := drOn) w [] w') : Calls P f args w fun e w' => e = x ∧ Ext w w' ∧ w.drawn ≤ w'.drawn :=
  h.mono fun _ _ ⟨he, H⟩ =>
    have hx := Heap.ext (dr := drOn) H
    ⟨he, ⟨Ext.below (dr := drOn) hx, fun _ => Ext.dr (dr := drOn) hx rfl⟩, Ext.dr (dr := drOn) hx rfl⟩

section
variable {α : Type} [DecidableEq α]
theorem sub_swo {a : α → α → Option Int} {xs : List α} (h : SortOk a xs) : SWO (Go.Proofs.ltOf fun (x y : {x // x ∈ xs}) => (a x.1 y.1).getD 0) where
  irrefl x := h.irr x.1 x.2
  trans x y z := h.tr x.1 x.2 y.1 y.2 z.1 z.2
  ntrans x y z := h.ntr x.1 x.2 y.1 y.2 z.1 z.2

/-- slices.SortFunc, elements of one cell. -/
theorem sortF_one [dr : Dr] {r : Rep α} {enc : α → Value} (E : Enc r enc) {P : Program} {f g : FuncId} {cp : List Value} {a : α → α → Option Int} {xs : List α} {v : Value} {w00 w : World} {L : List Asrt}
    (hsort : ∀ {β : Type} [Inhabited β] (enc' : β → Value) (_ : Go.Proofs.OneCell enc') (cf : β → β → Int) (_ : SWO (Go.Proofs.ltOf cf)) (blk off cap : Nat) (d : Array β) (w : World)
      (_ : ∀ args w, (callFunc g args).run P w = .ok (.enter g args) w) (_ : Go.Proofs.CmpLays1 P g cp.toArray enc' cf blk off d.size w) (_ : Sort.Holds enc' w blk off d) (_ : blk < w.heap.size) (_ : d.size < 4611686018427387904)
      (_ : ∀ x y, (Go.Proofs.ltOf cf) x y = false → (Go.Proofs.ltOf cf) y x = false → x = y),
      Calls P f #[.slice (some ⟨blk, off, none⟩) d.size cap, .func (.func g) #[] cp.toArray] w fun e w' => e = .returned (.tuple #[]) ∧ ∃ n os, w' = Go.Proofs.sortWorld enc' w blk off n (d.toList.mergeSort fun x y => !(Go.Proofs.ltOf cf) y x).toArray os)
    (hnone : ∀ (p : Option Addr) (cap : Nat) (w : World), Calls P f #[.slice p 0 cap, .func (.func g) #[] cp.toArray] w fun e w' => e = .returned (.tuple #[]) ∧ w' = w)
    (eg : ∀ args w, (callFunc g args).run P w = .ok (.enter g args) w)
    (hcmp : ∀ {w : World} {x y : α} {z : Int}, Heap w00 L w → a x y = some z → Calls P g (([] : List Value) ++ ([enc x, enc y] : List Value) ++ cp).toArray w fun e w' => e = .returned (.int .i64 z) ∧ Ext w w' ∧ w.drawn ≤ w'.drawn)
    (hc : sortOk a xs = true) (H : Heap w00 (oA (rList r) v xs :: L) w) :
    Calls P f #[v, .func (.func g) #[] cp.toArray] w fun e w' => e = .returned (.tuple #[]) ∧ Heap w00 (oA (rList r) v (sortF a xs) :: L) w' := by
  have hk := sortOk_iff.1 hc
  cases xs with
  | nil =>
    have hv : ∃ p c, v = .slice p 0 c := by
      rcases E.row H with ⟨_, rfl⟩ | ⟨g', o, cap, rfl, _⟩
      · exact ⟨_, _, rfl⟩
      · exact ⟨_, _, rfl⟩
    obtain ⟨p, c, rfl⟩ := hv
    exact (hnone p c w).mono fun e w' ⟨he, hw⟩ => ⟨he, by rw [show sortF a ([] : List α) = [] from by simp [sortF], hw]; exact H⟩
  | cons x0 xs0 =>
    generalize hxs : x0 :: xs0 = xs at *
    have hx0 : x0 ∈ xs := by rw [← hxs]; simp
    rcases E.row H with ⟨rfl, rfl⟩ | ⟨g', o, cap, rfl, hnc, hcm, hg, hcell⟩
    · cases hxs
    letI : Inhabited {x // x ∈ xs} := ⟨⟨x0, hx0⟩⟩
    letI : Inhabited α := ⟨x0⟩
    have hsz : xs.attach.toArray.size = xs.length := by simp
    have put : ∀ (W : World) (dk : Array {x // x ∈ xs}), Sort.putRow (fun x : {x // x ∈ xs} => enc x.1) W g' o dk = Sort.putRow enc W g' o (dk.map (·.1)) := by
      intro W dk
      unfold Sort.putRow
      congr 1
      funext c
      unfold Sort.putCells
      congr 1
      funext k x
      simp only [Array.size_map]
      split
      · rename_i hc
        rw [getElem!_pos dk (k - o) (by omega), getElem!_pos (dk.map (·.1)) (k - o) (by simp; omega)]
        simp
      · rfl
    have turn : ∀ (dk : Array {x // x ∈ xs}), dk.size = xs.length → ∀ n os, Heap w00 (oA (rList r) (.slice (some ⟨g', o, none⟩) xs.length cap) (dk.map (·.1)).toList :: L) (Go.Proofs.sortWorld (fun x : {x // x ∈ xs} => enc x.1) w g' o n dk os) := by
      intro dk hd n os
      unfold Go.Proofs.sortWorld
      rw [put]
      exact E.turned H (by simpa using hd) n os
    have key := hsort (fun x : {x // x ∈ xs} => enc x.1) (fun x => E.one x.1) (fun x y => (a x.1 y.1).getD 0) (sub_swo hk) g' o cap xs.attach.toArray w eg
      (fun m os dk hd x y => by
        obtain ⟨z, hz⟩ := hk.all x.1 x.2 y.1 y.2
        have hH := (turn dk (by rw [hd, hsz]) m os).tail
        have e1 : (a x.1 y.1).getD 0 = z := by rw [hz]; rfl
        have := hcmp hH hz
        have ea : (#[enc x.1, enc y.1] ++ cp.toArray : Array Value) = (([] : List Value) ++ ([enc x.1, enc y.1] : List Value) ++ cp).toArray := by simp
        refine (ea ▸ this : Calls P g (#[enc x.1, enc y.1] ++ cp.toArray) _ fun e w' => e = .returned (.int .i64 z) ∧ Ext _ w' ∧ World.drawn _ ≤ w'.drawn).mono fun e w' ⟨he, hw, hd⟩ => ⟨?_, ext_grown hw hd⟩
        rw [he, ← e1])
      (fun j hj => by
        have hj' : j < xs.length := by simpa using hj
        have hx : xs[j]? = some xs[j] := List.getElem?_eq_getElem hj'
        have e : (xs.attach.toArray[j]!).1 = xs[j] := by rw [getElem!_pos xs.attach.toArray j hj]; simp
        show w.cell? _ = some (enc (xs.attach.toArray[j]!).1) ∧ _
        rw [e]
        exact hcell j _ hx)
      hg (by rw [hsz]; exact hk.len) (fun x y p q => Subtype.ext (hk.anti x.1 x.2 y.1 y.2 p q))
    rw [hsz] at key
    refine key.mono fun e w' ⟨he, n, os, hw⟩ => ⟨he, ?_⟩
    subst hw
    have hT := turn (xs.attach.mergeSort fun x y => !ltF a y.1 x.1).toArray (by simp [(List.mergeSort_perm _ _).length_eq]) n os
    have e2 : ((xs.attach.mergeSort fun x y => !ltF a y.1 x.1).toArray.map (·.1)).toList = sortF a xs := by rw [← sub_sort]; simp
    rw [e2] at hT
    exact hT
end
end Go.Gx
