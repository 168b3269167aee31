/- Functions of the library, by the contracts of the shelf (printed by a program of this repo). -/
import Derived.Test.YtcaedcalbjkkgaaF0
import Derived.Test.YtcaedcalbjkkgaaGxT
import Derived.Test.YtcaedcalbjkkgaaGxMx
import Derived.Test.YtcaedcalbjkkgaaShelf
namespace Go.Proofs.Ytcaedcalbjkkgaa
open Go.RowKit Go.Gx

/-- slices.Clone of vertices: their lists are read still -/
def slices_Clone__impl_Vertex_impl_Vertex_m (_ : Nat) (a0 : List Timpl_Vertex) : Option (List (Int × Int × Mx (List Int))) := (app ([] : List (Int × Int × Mx (List Int))) (a0.map fun x => (x.1, x.2.1, Mx.rd x.2.2))).bind fun x => some x
theorem slices_Clone__impl_Vertex_impl_Vertex_ok [dr : Dr] {w0 : World} {fuel : Nat} {p0 : Value} {a0 : List Timpl_Vertex} {r : List (Int × Int × Mx (List Int))} (h0 : Rd (rList Rimpl_Vertex) w0 p0 a0) (hm : slices_Clone__impl_Vertex_impl_Vertex_m fuel a0 = some r) :
    Calls Try.prog 29 #[p0] w0 fun e w => ∃ v0, e = .returned v0 ∧ Heap w0 [oA (rList (rProd (rInt .i64) (rProd (rInt .i64) (rMx w0 (rList (rInt .i64)))))) v0 r] w := by
  unfold slices_Clone__impl_Vertex_impl_Vertex_m at hm
  have H := Heap.start w0
  refine enter (args := [p0]) Try.func29 rfl 8 rfl (Nat.le_of_ble_eq_true rfl) (fun a S => ?_)
  refine wp_seq (region_plain ?_)
  refine lq (.slice none 0 0) S (q_assign rfl) fun a S => ?_
  refine lx_nil (thenN ?_)
  refine wp_seq (wp_seq (region_plain ?_))
  refine lq p0 S (q_move rfl) fun a S => ?_
  obtain ⟨bn31, hqn, hb32⟩ := ((H.arg h0)).isNil (P := Try.prog) Try.underlying24
  refine lq (.bool bn31) S (hqn rfl rfl) fun a S => ?_
  refine lx_nil (thenN ?_)
  refine cond_b S rfl (fun hc33 => ?_) (fun hc33 => ?_)
  · obtain rfl := hb32 hc33
    replace hm : some [] = some r := by simpa [app] using hm
    refine wp_seq (region_plain ?_)
    refine lq (.slice none 0 0) S (q_assign rfl) fun a S => ?_
    refine lx_nil (thenN ?_)
    refine wp_ret (then_ret ?_)
    obtain rfl := Option.some.inj hm
    exact leave1 S rfl rfl ⟨(.slice none 0 0), rfl, H.nilList (rProd (rInt .i64) (rProd (rInt .i64) (rMx w0 (rList (rInt .i64)))))⟩
  · skip
    refine wp_skip (thenN ?_)
    refine wp_seq (region_plain ?_)
    refine lx_buildSlice0 (r := rProd (rInt .i64) (rProd (rInt .i64) (rMx w0 (rList (rInt .i64))))) S trivial (by decide) rfl H Try.underlying24 Try.sizeOf37 (fun v35 w36 H => ⟨trivial, fun a S => ?_⟩)
    refine lq p0 S (q_move rfl) fun a S => ?_
    obtain ⟨x38, e39, hm⟩ := bind_some hm
    obtain ⟨hle, hap⟩ := app_some e39
    replace hap := hap.symm
    subst hap
    rw [List.length_map] at hle
    refine lx_appendFl (r := Rimpl_Vertex) (rm := rProd (rInt .i64) (rProd (rInt .i64) (rMx w0 (rList (rInt .i64))))) (gm := fun x => (x.1, x.2.1, Mx.rd x.2.2)) S trivial (by decide) rfl H (Fl.prod (Fl.flat (flat_int _)) (Fl.prod (Fl.flat (flat_int _)) Fl.mx)) h0 rfl rfl Try.underlying24 Try.ti37 rfl rfl rfl (Nat.le_of_ble_eq_true rfl) (by decide) hle (fun v40 w41 H => ⟨trivial, fun a S => ?_⟩)
    refine lq v40 S (q_assign rfl) fun a S => ?_
    refine lx_nil (thenN ?_)
    refine wp_ret ?_
    obtain rfl := Option.some.inj hm
    exact leave1 S rfl rfl ⟨v40, rfl, H⟩
end Go.Proofs.Ytcaedcalbjkkgaa
