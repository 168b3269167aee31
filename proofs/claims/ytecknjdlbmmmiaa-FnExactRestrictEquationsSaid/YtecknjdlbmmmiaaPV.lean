/-
  Plain laws of the statements' helpers on games.
-/
import Derived.Test.YtecknjdlbmmmiaaF0
import Derived.Test.YtecknjdlbmmmiaaF2
import Derived.Test.YtecknjdlbmmmiaaF3
import Derived.Test.YtecknjdlbmmmiaaF5
import Derived.Test.YtecknjdlbmmmiaaF6
import Derived.Test.YtecknjdlbmmmiaaP5
namespace Go.Proofs.Ytecknjdlbmmmiaa
open Go.Gx

abbrev GV : Tlaws_Vertex → Prop := gAnd (gInt .i64) (gAnd (gInt .i64) GI)
abbrev GVs : List Tlaws_Vertex → Prop := gList GV

theorem sz_vtx {x : Tlaws_Vertex} (g : GV x) {b : Int} (h0 : 0 ≤ b) (hb : b ≤ 1048576) : ∃ r, Ev (fun n => laws_szVertex_m n x b) r ∧ Sz b r (x.2.2.length ≤ 1048576) := by
  obtain ⟨r, h1, h2⟩ := sz_ints g.2.2 h0 hb
  by_cases h : r < 0
  · exact ⟨-1, Ev.bind h1 (Ev.ite_t (by simpa using h) (Ev.pure _)), .inl (by omega)⟩
  · exact ⟨r, Ev.bind h1 (Ev.ite_f (by simpa using h) (Ev.pure _)), h2⟩
theorem sz_vtxs {a : List Tlaws_Vertex} (g : GVs a) {b : Int} (h0 : 0 ≤ b) (hb : b ≤ 1048576) : ∃ r, Ev (fun n => laws_szVertexS_m n a b) r ∧ Sz b r (a.length ≤ 1048576 ∧ ∀ x ∈ a, x.2.2.length ≤ 1048576) :=
  sz_loop (fun x hx _ h0 hb => sz_vtx (g.2 x hx) h0 hb) g.1 h0 hb

theorem to_vtx {x : Tlaws_Vertex} (hl : x.2.2.length ≤ 1048576) : Ev (fun n => laws_toVertex_m n x) x := Ev.bind (to_ints hl) (Ev.pure _)
theorem to_vtxs {a : List Tlaws_Vertex} (hl : a.length ≤ 1048576) (h : ∀ x ∈ a, x.2.2.length ≤ 1048576) : Ev (fun n => laws_toVertexS_m n a) a := by
  have := to_loop (to := fun n x => laws_toVertex_m n x) (f := id) (a := a) (z := (0, 0, [])) (fun x hx => to_vtx (h x hx)) hl
  rw [List.map_id] at this
  exact this

theorem eq_vtx {x : Timpl_Vertex} (hl : x.2.2.length ≤ maxLen) : Ev (fun n => laws_eqVertex_m n x x) true :=
  Ev.ite_f (by simp) (Ev.ite_f (by simp) (Ev.bind (eq_ints hl) (Ev.ite_f (by simp) (Ev.pure _))))
theorem eq_vtxs {a : List Timpl_Vertex} (hl : a.length ≤ maxLen) (h : ∀ x ∈ a, x.2.2.length ≤ maxLen) : Ev (fun n => laws_eqVertexS_m n a a) true :=
  eq_loop (eq := fun n x y => laws_eqVertex_m n x y) (fun x hx => eq_vtx (h x hx)) hl

theorem marksH_vtxs {a : List Timpl_Vertex} {k : Int} (hl : a.length ≤ 1048576) (g : ∀ x ∈ a, x.2.2.length ≤ 1048576) (h0 : 1 ≤ k) (hk : k ≤ 4503599627370496) :
    ∃ k' ys, Ev (fun n => laws_markVertexS_m n a k) (k', ys) ∧ Ev (fun n => laws_heldVertexS_m n ys k) k' ∧ k ≤ k' ∧ k' ≤ k + (a.length * 1048578 : Nat) ∧ ys.length = a.length := by
  unfold laws_markVertexS_m laws_heldVertexS_m
  refine mark_held (p := fun x => x.2.2.length ≤ 1048576) g h0 (by omega) (fun xs k i x hxl hx hp h1 h2 => ?_) (fun xs k hxl => Ev.const' fun m => by simp [hxl]) (fun ys k hyl => Ev.const' fun m => by simp [hyl])
  have hi : i < xs.length := (List.getElem?_eq_some_iff.1 hx).1
  have w2 : W (k + 1) = k + 1 := W_of (by omega) (by omega)
  have w3 : W (k + 1 + 1) = k + 1 + 1 := W_of (by omega) (by omega)
  obtain ⟨k', ys, e1, e2, e3, e4, _⟩ := marks_ints (a := x.2.2) (k := k + 1 + 1) hp (by omega) (by omega)
  refine ⟨(k, W (k + 1), ys), k', Ev.eq (Ev.ite_t (by simp [hi]) (Ev.bindc (idx_at hx) (Ev.bindc (idx_set hi) (Ev.bindc (idx_set (by simpa using hi)) (Ev.bind (a := (k', ys)) ?_ (Ev.pure _)))))) ?_, by omega, by omega, fun zs hzl hz => ?_⟩
  · rw [w2, w3]; exact e1
  · simp only [Int.toNat_natCast, List.set_set, W_succ (k := i) (n := xs.length) hi (by omega)]
  · have hi : i < zs.length := (List.getElem?_eq_some_iff.1 hz).1
    refine Ev.eq (Ev.ite_t (by simp [hi]) (Ev.bindc (idx_at hz) (Ev.ite_f (by simp) (Ev.bindc (idx_at hz) (Ev.ite_f (by simp) (Ev.bindc (idx_at hz) (Ev.bind (a := k') ?_ (Ev.ite_f (by simp; omega) (Ev.pure _))))))))) ?_
    · rw [w2, w3]; exact e2
    · rw [W_succ (k := i) (n := zs.length) hi (by omega)]
end Go.Proofs.Ytecknjdlbmmmiaa
