/- The models of some functions and their walks (printed by a program of this repo). -/
import Derived.Test.YtnkpniekdipgaaaGreatDoorF0
import Derived.Test.YtnkpniekdipgaaaGreatDoorF5
import Derived.Test.YtnkpniekdipgaaaGreatDoorF6
import Derived.Test.YtnkpniekdipgaaaGreatDoorGxT
import Derived.Test.YtnkpniekdipgaaaGreatDoorGxY
namespace Go.Proofs.YtnkpniekdipgaaaGreatDoor
open Go.RowKit Go.Gx

/-- impl.statesCode$1 -/
def impl_statesCode_1_m (fuel : Nat) (a0 : Int) (a1 : Timpl_Lts) : Option (Bool) :=
  (impl_Lts_isState_m fuel (a1.1, a1.2.1, a1.2.2.1, a1.2.2.2) a0).bind fun x52 => some ((!x52))
set_option maxRecDepth 20000 in
theorem impl_statesCode_1_ok [dr : Dr] {w0 : World} {fuel : Nat} {p1 : Value} {a0 : Int} {a1 : Timpl_Lts} {r : Bool} (h1 : Rd (rPtr Rimpl_Lts) w0 p1 a1) (hm : impl_statesCode_1_m fuel a0 a1 = some r) :
  Calls Tryz.prog 72 #[.int .i64 a0, p1] w0 fun e w => e = .returned (.bool r) ∧ Heap w0 [] w := by
 unfold impl_statesCode_1_m at hm
 have H := Heap.start w0
 obtain ⟨c31, h32, hat33⟩ := h1.ptr
 obtain ⟨c38, c39, rfl, h40, h41⟩ := h32
 obtain rfl := h40
 obtain ⟨c42, c43, rfl, h44, h45⟩ := h41
 obtain rfl := h44
 obtain ⟨c46, c47, rfl, h48, h49⟩ := h45
 obtain ⟨v34, rfl, h35⟩ := rd_list h48
 obtain ⟨v36, rfl, h37⟩ := rd_list h49
 refine enter (args := [.int .i64 a0, p1]) Tryz.func72 rfl 8 rfl (Nat.le_of_ble_eq_true rfl) (fun a S => ?_)
 refine wp_seq (region_plain ?_)
 refine lq (.bool false) S (q_assign rfl) fun a S => ?_
 refine lx_nil (thenN ?_)
 refine wp_seq (region_plain ?_)
 refine lx_e (.agg #[(.int .i64 a1.1), (.int .i64 a1.2.1), v34, v36]) S trivial (by decide) rfl trivial (q_loadA (cs := [(.int .i64 a1.1), (.int .i64 a1.2.1), v34, v36]) rfl ((hat33 0 _ rfl).isP) Tryz.isAgg35 Tryz.sizeOf35 (by rintro _ rfl; exact (fun j u hu => (hat33 j u hu).ext H.ext))) (fun a S => ?_)
 refine lq (.int .i64 a0) S (q_move rfl) fun a S => ?_
 obtain ⟨x52, e53, hm⟩ := bind_some hm
 refine lx_call (xs := [.tmp 4, .tmp 5]) S trivial (by decide) rfl rfl Tryz.call63 ((impl_Lts_isState_ok ⟨[(.int .i64 a1.1), (.int .i64 a1.2.1), v34, v36], rfl, ⟨[(.int .i64 a1.1)], [(.int .i64 a1.2.1), v34, v36], rfl, rfl, ⟨[(.int .i64 a1.2.1)], [v34, v36], rfl, rfl, ⟨[v34], [v36], rfl, ((H.arg h35)).list_rd, ((H.arg h37)).list_rd⟩⟩⟩⟩  e53).mono ?_)
 rintro e w50 ⟨rfl, Hc51⟩
 have H := H.call0 Hc51
 refine ⟨_, rfl, trivial, fun a S => ?_⟩
 refine lq (.bool (!x52)) S (q_not rfl) fun a S => ?_
 refine lq (.bool (!x52)) S (q_assign rfl) fun a S => ?_
 refine lx_nil (thenN ?_)
 refine wp_ret ?_
 obtain rfl := Option.some.inj hm
 exact leave1 S rfl rfl ⟨rfl, H⟩

/-- impl.statesCode -/
def impl_statesCode_m (fuel : Nat) (a0 : Timpl_Lts) (a1 : (List Int)) : Option (Int) :=
  (impl_ValidLts_m fuel (a0.1, a0.2.1, a0.2.2.1, a0.2.2.2)).bind fun x54 => (if (!x54) = true then some ((1 : Int)) else (slices_ContainsFunc__int64_int64_m fuel a1 (fun (z0 : Int) => impl_statesCode_1_m fuel z0 (a0.1, a0.2.1, a0.2.2.1, a0.2.2.2))).bind fun x60 => (if x60 = true then some ((2 : Int)) else some ((0 : Int))))
set_option maxRecDepth 20000 in
theorem impl_statesCode_ok {w0 : World} {fuel : Nat} {p0 p1 : Value} {a0 : Timpl_Lts} {a1 : (List Int)} {r : Int} (hG : GlobE Tryz.prog w0) (h0 : Rd Rimpl_Lts w0 p0 a0) (h1 : Rd (rList (rInt .i64)) w0 p1 a1) (hm : impl_statesCode_m fuel a0 a1 = some r) :
  Calls Tryz.prog 52 #[p0, p1] w0 fun e w => e = .returned (.int .i64 r) ∧ Heap w0 [] w := by
 unfold impl_statesCode_m at hm
 have H := Heap.start w0
 obtain ⟨c31, rfl, h32⟩ := h0
 obtain ⟨c37, c38, rfl, h39, h40⟩ := h32
 obtain rfl := h39
 obtain ⟨c41, c42, rfl, h43, h44⟩ := h40
 obtain rfl := h43
 obtain ⟨c45, c46, rfl, h47, h48⟩ := h44
 obtain ⟨v33, rfl, h34⟩ := rd_list h47
 obtain ⟨v35, rfl, h36⟩ := rd_list h48
 refine enter (args := [(.agg #[(.int .i64 a0.1), (.int .i64 a0.2.1), v33, v35]), p1]) Tryz.func52 rfl 13 rfl (Nat.le_of_ble_eq_true rfl) (fun a S => ?_)
 refine wp_seq (region_plain ?_)
 refine lx_box S trivial (by decide) rfl H rfl rfl (fun b49 w50 H => ⟨trivial, fun a S => ?_⟩)
 refine lq (.int .i64 (0 : Int)) S (q_assign rfl) fun a S => ?_
 refine lx_nil (thenN ?_)
 refine wp_seq ?_
 refine wp_block ?_
 refine wp_seq (region_plain ?_)
 refine lx_e (.agg #[(.int .i64 a0.1), (.int .i64 a0.2.1), v33, v35]) S trivial (by decide) rfl trivial (q_loadA (cs := [(.int .i64 a0.1), (.int .i64 a0.2.1), v33, v35]) rfl (isP_bp _) Tryz.isAgg35 Tryz.sizeOf35 (by rintro _ rfl; exact (fun j u hu => boxAt (i := 0) H rfl hu))) (fun a S => ?_)
 obtain ⟨x54, e55, hm⟩ := bind_some hm
 refine lx_call (xs := [.tmp 6]) S trivial (by decide) rfl rfl Tryz.call42 ((impl_ValidLts_ok (hG.ext H.ext) ⟨[(.int .i64 a0.1), (.int .i64 a0.2.1), v33, v35], rfl, ⟨[(.int .i64 a0.1)], [(.int .i64 a0.2.1), v33, v35], rfl, rfl, ⟨[(.int .i64 a0.2.1)], [v33, v35], rfl, rfl, ⟨[v33], [v35], rfl, ((H.arg h34)).list_rd, ((H.arg h36)).list_rd⟩⟩⟩⟩ e55).mono ?_)
 rintro e w52 ⟨rfl, Hc53⟩
 have H := H.call0 Hc53
 refine ⟨_, rfl, trivial, fun a S => ?_⟩
 refine lq (.bool (!x54)) S (q_not rfl) fun a S => ?_
 refine lq (.bool (!x54)) S (q_assign rfl) fun a S => ?_
 refine lx_nil (thenN ?_)
 refine cond_b S rfl (fun hc57 => ?_) (fun hc57 => ?_)
 ·have hm := ite_t hc57 hm
  refine wp_seq (region_plain ?_)
  refine lq (.int .i64 (1 : Int)) S (q_assign rfl) fun a S => ?_
  refine lx_nil (thenN ?_)
  refine wp_ret (inBlock_ret ?_)
  refine then_ret ?_
  obtain rfl := Option.some.inj hm
  have H : Heap w0 [] w52 := H.sel [] (by decide)
  exact leave1 S rfl rfl ⟨rfl, H⟩
 ·have hm := ite_f hc57 hm
  refine wp_seq (region_plain ?_)
  refine lq p1 S (q_move rfl) fun a S => ?_
  refine lq (.func (.func 72) #[] #[(bp b49)]) S (q_makeFunc (xs := []) (ys := [.tmp 2]) rfl rfl) fun a S => ?_
  obtain ⟨x60, e61, hm⟩ := bind_some hm
  have hcap62 : Rd (rPtr Rimpl_Lts) w52 (bp b49) (a0.1, a0.2.1, a0.2.2.1, a0.2.2.2) := (rdPtr_box H 0 rfl ⟨[(.int .i64 a0.1)], [(.int .i64 a0.2.1), v33, v35], rfl, rfl, ⟨[(.int .i64 a0.2.1)], [v33, v35], rfl, rfl, ⟨[v33], [v35], rfl, ((H.arg h34)).list_rd, ((H.arg h36)).list_rd⟩⟩⟩)
  refine lx_call (xs := [.tmp 10, .tmp 11]) S trivial (by decide) rfl rfl Tryz.call71 ((slices_ContainsFunc__int64_int64_ok (f1 := 72) (fs1 := ([] : List Value)) (cp1 := ([(bp b49)] : List Value)) (a1 := (fun (z0 : Int) => impl_statesCode_1_m fuel z0 (a0.1, a0.2.1, a0.2.2.1, a0.2.2.2))) (H.arg h1) Tryz.call72 (fun he  hm => impl_statesCode_1_ok   (hcap62.ext he) hm) e61).mono ?_)
  rintro e w58 ⟨rfl, Hc59⟩
  have H := H.call0 Hc59
  refine ⟨_, rfl, trivial, fun a S => ?_⟩
  refine lq (.bool x60) S (q_assign rfl) fun a S => ?_
  refine lx_nil (thenN ?_)
  refine cond_b S rfl (fun hc64 => ?_) (fun hc64 => ?_)
  ·have hm := ite_t hc64 hm
   refine wp_seq (region_plain ?_)
   refine lq (.int .i64 (2 : Int)) S (q_assign rfl) fun a S => ?_
   refine lx_nil (thenN ?_)
   refine wp_ret (inBlock_ret ?_)
   refine then_ret ?_
   obtain rfl := Option.some.inj hm
   have H : Heap w0 [] w58 := H.sel [] (by decide)
   exact leave1 S rfl rfl ⟨rfl, H⟩
  ·have hm := ite_f hc64 hm
   refine wp_skip ?_
   refine inBlock_norm ?_
   refine thenN ?_
   refine wp_seq (region_plain ?_)
   refine lq (.int .i64 (0 : Int)) S (q_assign rfl) fun a S => ?_
   refine lx_nil (thenN ?_)
   refine wp_ret ?_
   obtain rfl := Option.some.inj hm
   have H : Heap w0 [] w58 := H.sel [] (by decide)
   exact leave1 S rfl rfl ⟨rfl, H⟩

/-- impl.modalCode -/
def impl_modalCode_m (fuel : Nat) (a0 : (List Timpl_Node)) (a1 : Timpl_Lts) (a2 : (List Int)) : Option (Int) :=
  (impl_ValidModal_m fuel a0).bind fun x54 => (if (!x54) = true then some ((1 : Int)) else (impl_statesCode_m fuel (a1.1, a1.2.1, a1.2.2.1, a1.2.2.2) a2).bind fun x60 => some (x60))
set_option maxRecDepth 20000 in
theorem impl_modalCode_ok {w0 : World} {fuel : Nat} {p0 p1 p2 : Value} {a0 : (List Timpl_Node)} {a1 : Timpl_Lts} {a2 : (List Int)} {r : Int} (hG : GlobE Tryz.prog w0) (h0 : Rd (rList Rimpl_Node) w0 p0 a0) (h1 : Rd Rimpl_Lts w0 p1 a1) (h2 : Rd (rList (rInt .i64)) w0 p2 a2) (hm : impl_modalCode_m fuel a0 a1 a2 = some r) :
  Calls Tryz.prog 33 #[p0, p1, p2] w0 fun e w => e = .returned (.int .i64 r) ∧ Heap w0 [] w := by
 unfold impl_modalCode_m at hm
 have H := Heap.start w0
 obtain ⟨c31, rfl, h32⟩ := h1
 obtain ⟨c37, c38, rfl, h39, h40⟩ := h32
 obtain rfl := h39
 obtain ⟨c41, c42, rfl, h43, h44⟩ := h40
 obtain rfl := h43
 obtain ⟨c45, c46, rfl, h47, h48⟩ := h44
 obtain ⟨v33, rfl, h34⟩ := rd_list h47
 obtain ⟨v35, rfl, h36⟩ := rd_list h48
 refine enter (args := [p0, (.agg #[(.int .i64 a1.1), (.int .i64 a1.2.1), v33, v35]), p2]) Tryz.func33 rfl 13 rfl (Nat.le_of_ble_eq_true rfl) (fun a S => ?_)
 refine wp_seq (region_plain ?_)
 refine lx_box S trivial (by decide) rfl H rfl rfl (fun b49 w50 H => ⟨trivial, fun a S => ?_⟩)
 refine lq (.int .i64 (0 : Int)) S (q_assign rfl) fun a S => ?_
 refine lx_nil (thenN ?_)
 refine wp_seq (wp_seq (region_plain ?_))
 refine lq p0 S (q_move rfl) fun a S => ?_
 obtain ⟨x54, e55, hm⟩ := bind_some hm
 refine lx_call (xs := [.tmp 7]) S trivial (by decide) rfl rfl Tryz.call41 ((impl_ValidModal_ok (hG.ext H.ext) (H.arg h0) e55).mono ?_)
 rintro e w52 ⟨rfl, Hc53⟩
 have H := H.call0 Hc53
 refine ⟨_, rfl, trivial, fun a S => ?_⟩
 refine lq (.bool (!x54)) S (q_not rfl) fun a S => ?_
 refine lx_nil (thenN ?_)
 refine cond_b S rfl (fun hc57 => ?_) (fun hc57 => ?_)
 ·have hm := ite_t hc57 hm
  refine wp_seq (region_plain ?_)
  refine lq (.int .i64 (1 : Int)) S (q_assign rfl) fun a S => ?_
  refine lx_nil (thenN ?_)
  refine wp_ret (then_ret ?_)
  obtain rfl := Option.some.inj hm
  have H : Heap w0 [] w52 := H.sel [] (by decide)
  exact leave1 S rfl rfl ⟨rfl, H⟩
 ·have hm := ite_f hc57 hm
  refine wp_skip (thenN ?_)
  refine wp_seq (region_plain ?_)
  refine lx_e (.agg #[(.int .i64 a1.1), (.int .i64 a1.2.1), v33, v35]) S trivial (by decide) rfl trivial (q_loadA (cs := [(.int .i64 a1.1), (.int .i64 a1.2.1), v33, v35]) rfl (isP_bp _) Tryz.isAgg35 Tryz.sizeOf35 (by rintro _ rfl; exact (fun j u hu => boxAt (i := 0) H rfl hu))) (fun a S => ?_)
  refine lq p2 S (q_move rfl) fun a S => ?_
  obtain ⟨x60, e61, hm⟩ := bind_some hm
  refine lx_call (xs := [.tmp 10, .tmp 11]) S trivial (by decide) rfl rfl Tryz.call52 ((impl_statesCode_ok (hG.ext H.ext) ⟨[(.int .i64 a1.1), (.int .i64 a1.2.1), v33, v35], rfl, ⟨[(.int .i64 a1.1)], [(.int .i64 a1.2.1), v33, v35], rfl, rfl, ⟨[(.int .i64 a1.2.1)], [v33, v35], rfl, rfl, ⟨[v33], [v35], rfl, ((H.arg h34)).list_rd, ((H.arg h36)).list_rd⟩⟩⟩⟩ (H.arg h2) e61).mono ?_)
  rintro e w58 ⟨rfl, Hc59⟩
  have H := H.call0 Hc59
  refine ⟨_, rfl, trivial, fun a S => ?_⟩
  refine lq (.int .i64 x60) S (q_assign rfl) fun a S => ?_
  refine lx_nil (thenN ?_)
  refine wp_ret ?_
  obtain rfl := Option.some.inj hm
  have H : Heap w0 [] w58 := H.sel [] (by decide)
  exact leave1 S rfl rfl ⟨rfl, H⟩
end Go.Proofs.YtnkpniekdipgaaaGreatDoor
