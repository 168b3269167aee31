/- The model of a statement and its walk (printed by a program of this repo). -/
import Derived.Test.YtkgkfbmcnchdbaaGreatDoorF0
import Derived.Test.YtkgkfbmcnchdbaaGreatDoorF1
import Derived.Test.YtkgkfbmcnchdbaaGreatDoorF10
import Derived.Test.YtkgkfbmcnchdbaaGreatDoorF2
import Derived.Test.YtkgkfbmcnchdbaaGreatDoorF4
import Derived.Test.YtkgkfbmcnchdbaaGreatDoorF5
import Derived.Test.YtkgkfbmcnchdbaaGreatDoorGxT
import Derived.Test.YtkgkfbmcnchdbaaGreatDoorGxY
namespace Go.Proofs.YtkgkfbmcnchdbaaGreatDoor
open Go.RowKit Go.Gx

/-- spec.EndOfPath -/
def spec_EndOfPath_m (fuel : Nat) (a0 : Timpl_Lts) (a1 : (List Int)) : Option ((Int × Int)) :=
  (spec_l11Is_m fuel (a0.1, a0.2.1, a0.2.2.1, a0.2.2.2)).bind fun x54 => (if (!x54) = true then some (((0 : Int), (1 : Int))) else (spec_l10Walk_m fuel (a0.1, a0.2.1, a0.2.2.1, a0.2.2.2) a1).bind fun x60 => some ((x60.1, x60.2)))
set_option maxRecDepth 20000 in
theorem spec_EndOfPath_ok {w0 : World} {fuel : Nat} {p0 p1 : Value} {a0 : Timpl_Lts} {a1 : (List Int)} {r : (Int × Int)} (h0 : Rd Rimpl_Lts w0 p0 a0) (h1 : Rd (rList (rInt .i64)) w0 p1 a1) (hm : spec_EndOfPath_m fuel a0 a1 = some r) :
  Calls Tryz.prog 26 #[p0, p1] w0 fun e w => e = .returned (.tuple #[.int .i64 r.1, .int .i64 r.2]) ∧ Heap w0 [] w := by
 unfold spec_EndOfPath_m at hm
 have H := Heap.start w0
 obtain ⟨c31, rfl, h32⟩ := h0
 obtain ⟨c37, c38, rfl, h39, h40⟩ := h32
 obtain rfl := h39
 obtain ⟨c41, c42, rfl, h43, h44⟩ := h40
 obtain rfl := h43
 obtain ⟨c45, c46, rfl, h47, h48⟩ := h44
 obtain ⟨v33, rfl, h34⟩ := rd_list h47
 obtain ⟨v35, rfl, h36⟩ := rd_list h48
 refine enter (args := [(.agg #[(.int .i64 a0.1), (.int .i64 a0.2.1), v33, v35]), p1]) Tryz.func26 rfl 12 rfl (Nat.le_of_ble_eq_true rfl) (fun a S => ?_)
 refine wp_seq (region_plain ?_)
 refine lx_box S trivial (by decide) rfl H rfl rfl (fun b49 w50 H => ⟨trivial, fun a S => ?_⟩)
 refine lq (.int .i64 (0 : Int)) S (q_assign rfl) fun a S => ?_
 refine lq (.int .i64 (0 : Int)) S (q_assign rfl) fun a S => ?_
 refine lx_nil (thenN ?_)
 refine wp_seq (wp_seq (region_plain ?_))
 obtain ⟨x54, e55, hm⟩ := bind_some hm
 refine lx_call (xs := [.tmp 2]) S trivial (by decide) rfl rfl Tryz.call70 ((spec_l11Is_ok (rdPtr_box H 0 rfl ⟨[(.int .i64 a0.1)], [(.int .i64 a0.2.1), v33, v35], rfl, rfl, ⟨[(.int .i64 a0.2.1)], [v33, v35], rfl, rfl, ⟨[v33], [v35], rfl, ((H.arg h34)).list_rd, ((H.arg h36)).list_rd⟩⟩⟩) e55).mono ?_)
 rintro e w52 ⟨rfl, Hc53⟩
 have H := H.call0 Hc53
 refine ⟨_, rfl, trivial, fun a S => ?_⟩
 refine lq (.bool (!x54)) S (q_not rfl) fun a S => ?_
 refine lx_nil (thenN ?_)
 refine cond_b S rfl (fun hc57 => ?_) (fun hc57 => ?_)
 ·have hm := ite_t hc57 hm
  refine wp_seq (region_plain ?_)
  refine lq (.int .i64 (0 : Int)) S (q_assign rfl) fun a S => ?_
  refine lq (.int .i64 (1 : Int)) S (q_assign rfl) fun a S => ?_
  refine lx_nil (thenN ?_)
  refine wp_ret (then_ret ?_)
  obtain rfl := Option.some.inj hm
  have H : Heap w0 [] w52 := H.sel [] (by decide)
  exact leave2 S rfl rfl rfl ⟨rfl, H⟩
 ·have hm := ite_f hc57 hm
  refine wp_skip (thenN ?_)
  refine wp_seq (region_plain ?_)
  refine lq p1 S (q_move rfl) fun a S => ?_
  obtain ⟨x60, e61, hm⟩ := bind_some hm
  refine lx_call (xs := [.tmp 2, .tmp 8]) S trivial (by decide) rfl rfl Tryz.call77 ((spec_l10Walk_ok (rdPtr_box H 0 rfl ⟨[(.int .i64 a0.1)], [(.int .i64 a0.2.1), v33, v35], rfl, rfl, ⟨[(.int .i64 a0.2.1)], [v33, v35], rfl, rfl, ⟨[v33], [v35], rfl, ((H.arg h34)).list_rd, ((H.arg h36)).list_rd⟩⟩⟩) (H.arg h1) e61).mono ?_)
  rintro e w58 ⟨rfl, Hc59⟩
  have H := H.call0 Hc59
  refine ⟨_, rfl, trivial, fun a S => ?_⟩
  refine lq (.int .i64 x60.1) S (q_extract rfl rfl) fun a S => ?_
  refine lq (.int .i64 x60.2) S (q_extract rfl rfl) fun a S => ?_
  refine lq (.int .i64 x60.1) S (q_assign rfl) fun a S => ?_
  refine lq (.int .i64 x60.2) S (q_assign rfl) fun a S => ?_
  refine lx_nil (thenN ?_)
  refine wp_ret ?_
  obtain rfl := Option.some.inj hm
  have H : Heap w0 [] w58 := H.sel [] (by decide)
  exact leave2 S rfl rfl rfl ⟨rfl, H⟩

/-- laws.FnExactEndOfPath -/
def laws_FnExactEndOfPath_m (fuel : Nat) (a0 : Tlaws_Lts) (a1 : (List Int)) : Option (Bool) :=
  (if (decide ((1048576 : Int) < (a1.length : Int))) = true then some (true) else (laws_szLts_m fuel (a0.1, a0.2.1, a0.2.2.1, a0.2.2.2) (1048576 : Int)).bind fun x55 => (if (decide (x55 < (0 : Int))) = true then some (true) else (laws_toLts_m fuel (a0.1, a0.2.1, a0.2.2.1, a0.2.2.2)).bind fun x61 => (laws_toInt64S_m fuel a1).bind fun x70 => (spec_EndOfPath_m fuel (x61.1, x61.2.1, x61.2.2.1, x61.2.2.2) x70).bind fun x77 => (laws_toLts_m fuel (a0.1, a0.2.1, a0.2.2.1, a0.2.2.2)).bind fun x82 => (laws_toInt64S_m fuel a1).bind fun x95 => (impl_EndOfPath_m fuel (x82.1, x82.2.1, x82.2.2.1, x82.2.2.2) x95).bind fun x102 => (if (x102.1 != x77.1) = true then some true else some (x102.2 != x77.2)).bind fun t105 => (if t105 = true then some (false) else (laws_toLts_m fuel (a0.1, a0.2.1, a0.2.2.1, a0.2.2.2)).bind fun x113 => (laws_eqLts_m fuel (x82.1, x82.2.1, x82.2.2.1, x82.2.2.2) (x113.1, x113.2.1, x113.2.2.1, x113.2.2.2)).bind fun x122 => (if (!x122) = true then some (false) else (laws_toInt64S_m fuel a1).bind fun x128 => (laws_eqInt64S_m fuel x95 x128).bind fun x135 => (if (!x135) = true then some (false) else some (true))))))
set_option maxRecDepth 20000 in
theorem laws_FnExactEndOfPath_ok {w0 : World} {fuel : Nat} {p0 p1 : Value} {a0 : Tlaws_Lts} {a1 : (List Int)} {r : Bool} (hG : Glob Tryz.prog w0) (h0 : Rd Rlaws_Lts w0 p0 a0) (h1 : Rd (rList (rInt .i64)) w0 p1 a1) (hm : laws_FnExactEndOfPath_m fuel a0 a1 = some r) :
  Calls Tryz.prog 5 #[p0, p1] w0 fun e w => e = .returned (.bool r) ∧ Heap w0 [] w := by
 unfold laws_FnExactEndOfPath_m at hm
 have H := Heap.start w0
 obtain ⟨c31, rfl, h32⟩ := h0
 obtain ⟨c37, c38, rfl, h39, h40⟩ := h32
 obtain rfl := h39
 obtain ⟨c41, c42, rfl, h43, h44⟩ := h40
 obtain rfl := h43
 obtain ⟨c45, c46, rfl, h47, h48⟩ := h44
 obtain ⟨v33, rfl, h34⟩ := rd_list h47
 obtain ⟨v35, rfl, h36⟩ := rd_list h48
 refine enter (args := [(.agg #[(.int .i64 a0.1), (.int .i64 a0.2.1), v33, v35]), p1]) Tryz.func5 rfl 56 rfl (Nat.le_of_ble_eq_true rfl) (fun a S => ?_)
 refine wp_seq (region_plain ?_)
 refine lx_box S trivial (by decide) rfl H rfl rfl (fun b49 w50 H => ⟨trivial, fun a S => ?_⟩)
 refine lq (.bool false) S (q_assign rfl) fun a S => ?_
 refine lx_nil (thenN ?_)
 refine wp_seq (wp_seq (region_plain ?_))
 refine lq p1 S (q_move rfl) fun a S => ?_
 refine lq (.int .i64 (a1.length : Int)) S (q_lenSl rfl (h1).isSl rfl Tryz.underlying34) fun a S => ?_
 refine lq (.bool (decide ((1048576 : Int) < (a1.length : Int)))) S (q_gtr rfl rfl) fun a S => ?_
 refine lx_nil (thenN ?_)
 refine cond_b S rfl (fun hc52 => ?_) (fun hc52 => ?_)
 ·have hm := ite_t hc52 hm
  refine wp_seq (region_plain ?_)
  refine lq (.bool true) S (q_assign rfl) fun a S => ?_
  refine lx_nil (thenN ?_)
  refine wp_ret (then_ret ?_)
  obtain rfl := Option.some.inj hm
  have H : Heap w0 [] w50 := H.sel [] (by decide)
  exact leave1 S rfl rfl ⟨rfl, H⟩
 ·have hm := ite_f hc52 hm
  refine wp_skip (thenN ?_)
  refine wp_seq (region_plain ?_)
  refine lq (.int .i64 (1048576 : Int)) S (q_assign rfl) fun a S => ?_
  refine lx_nil (thenN ?_)
  refine wp_seq (region_plain ?_)
  refine lx_e (.agg #[(.int .i64 a0.1), (.int .i64 a0.2.1), v33, v35]) S trivial (by decide) rfl trivial (q_loadA (cs := [(.int .i64 a0.1), (.int .i64 a0.2.1), v33, v35]) rfl (isP_bp _) Tryz.isAgg25 Tryz.sizeOf25 (by rintro _ rfl; exact (fun j u hu => boxAt (i := 0) H rfl hu))) (fun a S => ?_)
  refine lq (.int .i64 (1048576 : Int)) S (q_move rfl) fun a S => ?_
  obtain ⟨x55, e56, hm⟩ := bind_some hm
  refine lx_call (xs := [.tmp 15, .tmp 16]) S trivial (by decide) rfl rfl Tryz.call19 ((laws_szLts_ok ⟨[(.int .i64 a0.1), (.int .i64 a0.2.1), v33, v35], rfl, ⟨[(.int .i64 a0.1)], [(.int .i64 a0.2.1), v33, v35], rfl, rfl, ⟨[(.int .i64 a0.2.1)], [v33, v35], rfl, rfl, ⟨[v33], [v35], rfl, ((H.arg h34)).list_rd, ((H.arg h36)).list_rd⟩⟩⟩⟩  e56).mono ?_)
  rintro e w53 ⟨rfl, Hc54⟩
  have H := H.call0 Hc54
  refine ⟨_, rfl, trivial, fun a S => ?_⟩
  refine lq (.int .i64 x55) S (q_assign rfl) fun a S => ?_
  refine lx_nil (thenN ?_)
  refine wp_seq (wp_seq (region_plain ?_))
  refine lq (.int .i64 x55) S (q_move rfl) fun a S => ?_
  refine lq (.bool (decide (x55 < (0 : Int)))) S (q_lss rfl rfl) fun a S => ?_
  refine lx_nil (thenN ?_)
  refine cond_b S rfl (fun hc58 => ?_) (fun hc58 => ?_)
  ·have hm := ite_t hc58 hm
   refine wp_seq (region_plain ?_)
   refine lq (.bool true) S (q_assign rfl) fun a S => ?_
   refine lx_nil (thenN ?_)
   refine wp_ret (then_ret ?_)
   obtain rfl := Option.some.inj hm
   have H : Heap w0 [] w53 := H.sel [] (by decide)
   exact leave1 S rfl rfl ⟨rfl, H⟩
  ·have hm := ite_f hc58 hm
   refine wp_skip (thenN ?_)
   refine wp_seq (region_plain ?_)
   refine lx_e (.agg #[(.int .i64 a0.1), (.int .i64 a0.2.1), v33, v35]) S trivial (by decide) rfl trivial (q_loadA (cs := [(.int .i64 a0.1), (.int .i64 a0.2.1), v33, v35]) rfl (isP_bp _) Tryz.isAgg25 Tryz.sizeOf25 (by rintro _ rfl; exact (fun j u hu => boxAt (i := 0) H rfl hu))) (fun a S => ?_)
   obtain ⟨x61, e62, hm⟩ := bind_some hm
   refine lx_call (xs := [.tmp 21]) S trivial (by decide) rfl rfl Tryz.call21 ((laws_toLts_ok ⟨[(.int .i64 a0.1), (.int .i64 a0.2.1), v33, v35], rfl, ⟨[(.int .i64 a0.1)], [(.int .i64 a0.2.1), v33, v35], rfl, rfl, ⟨[(.int .i64 a0.2.1)], [v33, v35], rfl, rfl, ⟨[v33], [v35], rfl, ((H.arg h34)).list_rd, ((H.arg h36)).list_rd⟩⟩⟩⟩ e62).mono ?_)
   rintro e w59 ⟨v63, v64, rfl, Hc60⟩
   have H := H.call2 Hc60
   refine ⟨_, rfl, trivial, fun a S => ?_⟩
   refine lq p1 S (q_move rfl) fun a S => ?_
   obtain ⟨x70, e71, hm⟩ := bind_some hm
   refine lx_call (xs := [.tmp 23]) S trivial (by decide) rfl rfl Tryz.call27 ((laws_toInt64S_ok (H.arg h1) e71).mono ?_)
   rintro e w68 ⟨v72, rfl, Hc69⟩
   have H := H.call1 Hc69
   refine ⟨_, rfl, trivial, fun a S => ?_⟩
   obtain ⟨x77, e78, hm⟩ := bind_some hm
   refine lx_call (xs := [.tmp 22, .tmp 24]) S trivial (by decide) rfl rfl Tryz.call26 ((spec_EndOfPath_ok ⟨[(.int .i64 x61.1), (.int .i64 x61.2.1), v63, v64], rfl, ⟨[(.int .i64 x61.1)], [(.int .i64 x61.2.1), v63, v64], rfl, rfl, ⟨[(.int .i64 x61.2.1)], [v63, v64], rfl, rfl, ⟨[v63], [v64], rfl, ((H.rdAt 1 rfl)).list_rd, ((H.rdAt 2 rfl)).list_rd⟩⟩⟩⟩ (H.rdAt 0 rfl) e78).mono ?_)
   rintro e w75 ⟨rfl, Hc76⟩
   have H := H.call0 Hc76
   refine ⟨_, rfl, trivial, fun a S => ?_⟩
   refine lq (.tuple #[(.int .i64 x77.1), (.int .i64 x77.2)]) S (q_move rfl) fun a S => ?_
   refine lq (.int .i64 x77.1) S (q_extract rfl rfl) fun a S => ?_
   refine lq (.int .i64 x77.2) S (q_extract rfl rfl) fun a S => ?_
   refine lq (.int .i64 x77.1) S (q_assign rfl) fun a S => ?_
   refine lq (.int .i64 x77.2) S (q_assign rfl) fun a S => ?_
   refine lx_nil (thenN ?_)
   refine wp_seq (region_plain ?_)
   refine lx_e (.agg #[(.int .i64 a0.1), (.int .i64 a0.2.1), v33, v35]) S trivial (by decide) rfl trivial (q_loadA (cs := [(.int .i64 a0.1), (.int .i64 a0.2.1), v33, v35]) rfl (isP_bp _) Tryz.isAgg25 Tryz.sizeOf25 (by rintro _ rfl; exact (fun j u hu => boxAt (i := 3) H rfl hu))) (fun a S => ?_)
   obtain ⟨x82, e83, hm⟩ := bind_some hm
   refine lx_call (xs := [.tmp 28]) S trivial (by decide) rfl rfl Tryz.call21 ((laws_toLts_ok ⟨[(.int .i64 a0.1), (.int .i64 a0.2.1), v33, v35], rfl, ⟨[(.int .i64 a0.1)], [(.int .i64 a0.2.1), v33, v35], rfl, rfl, ⟨[(.int .i64 a0.2.1)], [v33, v35], rfl, rfl, ⟨[v33], [v35], rfl, ((H.arg h34)).list_rd, ((H.arg h36)).list_rd⟩⟩⟩⟩ e83).mono ?_)
   rintro e w80 ⟨v84, v85, rfl, Hc81⟩
   have H := H.call2 Hc81
   refine ⟨_, rfl, trivial, fun a S => ?_⟩
   refine lx_alloc S trivial (by decide) rfl H Tryz.zeroValue30 rfl (fun b89 w90 H => ⟨trivial, fun a S => ?_⟩)
   refine lx_storeBox (o := 0) (i := 0) (us := [(.int .i64 x82.1), (.int .i64 x82.2.1), v84, v85]) (cs' := [(.int .i64 x82.1), (.int .i64 x82.2.1), v84, v85]) S trivial rfl H rfl rfl rfl rfl Tryz.sizeOf30 (Nat.le_of_ble_eq_true rfl) (List.forall_mem_cons.2 ⟨rfl, (List.forall_mem_cons.2 ⟨rfl, (List.forall_mem_cons.2 ⟨one_sl (H.isSl 1 rfl), (List.forall_mem_cons.2 ⟨one_sl (H.isSl 2 rfl), (fun _ h => nomatch h)⟩)⟩)⟩)⟩) rfl (fun w92 H => ⟨trivial, fun a S => ?_⟩)
   change Heap w0 [bA b89 [(.int .i64 x82.1), (.int .i64 x82.2.1), v84, v85] 30, oA (rList rStr) v84 x82.2.2.1, oA (rList Rimpl_Edge) v85 x82.2.2.2, oA (rList (rInt .i64)) v72 x70, oA (rList rStr) v63 x61.2.2.1, oA (rList Rimpl_Edge) v64 x61.2.2.2, bA b49 [(.int .i64 a0.1), (.int .i64 a0.2.1), v33, v35] 25] w92 at H
   refine lx_nil (thenN ?_)
   refine wp_seq (region_plain ?_)
   refine lq p1 S (q_move rfl) fun a S => ?_
   obtain ⟨x95, e96, hm⟩ := bind_some hm
   refine lx_call (xs := [.tmp 30]) S trivial (by decide) rfl rfl Tryz.call27 ((laws_toInt64S_ok (H.arg h1) e96).mono ?_)
   rintro e w93 ⟨v97, rfl, Hc94⟩
   have H := H.call1 Hc94
   refine ⟨_, rfl, trivial, fun a S => ?_⟩
   refine lq v97 S (q_assign rfl) fun a S => ?_
   refine lx_nil (thenN ?_)
   refine wp_seq (region_plain ?_)
   refine lx_e (.agg #[(.int .i64 x82.1), (.int .i64 x82.2.1), v84, v85]) S trivial (by decide) rfl trivial (q_loadA (cs := [(.int .i64 x82.1), (.int .i64 x82.2.1), v84, v85]) rfl (isP_bp _) Tryz.isAgg30 Tryz.sizeOf30 (by rintro _ rfl; exact (fun j u hu => boxAt (i := 1) H rfl hu))) (fun a S => ?_)
   refine lq v97 S (q_move rfl) fun a S => ?_
   obtain ⟨x102, e103, hm⟩ := bind_some hm
   refine lx_call (xs := [.tmp 33, .tmp 34]) S trivial (by decide) rfl rfl Tryz.call28 ((impl_EndOfPath_ok (hG.ext H.ext) ⟨[(.int .i64 x82.1), (.int .i64 x82.2.1), v84, v85], rfl, ⟨[(.int .i64 x82.1)], [(.int .i64 x82.2.1), v84, v85], rfl, rfl, ⟨[(.int .i64 x82.2.1)], [v84, v85], rfl, rfl, ⟨[v84], [v85], rfl, ((H.rdAt 2 rfl)).list_rd, ((H.rdAt 3 rfl)).list_rd⟩⟩⟩⟩ (H.rdAt 0 rfl) e103).mono ?_)
   rintro e w100 ⟨rfl, Hc101⟩
   have H := H.call0 Hc101
   refine ⟨_, rfl, trivial, fun a S => ?_⟩
   refine lq (.tuple #[(.int .i64 x102.1), (.int .i64 x102.2)]) S (q_move rfl) fun a S => ?_
   refine lq (.int .i64 x102.1) S (q_extract rfl rfl) fun a S => ?_
   refine lq (.int .i64 x102.2) S (q_extract rfl rfl) fun a S => ?_
   refine lq (.int .i64 x102.1) S (q_assign rfl) fun a S => ?_
   refine lq (.int .i64 x102.2) S (q_assign rfl) fun a S => ?_
   refine lx_nil (thenN ?_)
   refine wp_seq (wp_seq (region_plain ?_))
   refine lq (.int .i64 x102.1) S (q_move rfl) fun a S => ?_
   refine lq (.int .i64 x77.1) S (q_move rfl) fun a S => ?_
   refine lq (.bool (x102.1 != x77.1)) S (q_neq rfl rfl) fun a S => ?_
   refine lq (.bool (x102.1 != x77.1)) S (q_move rfl) fun a S => ?_
   obtain ⟨t105, e106, hm⟩ := bind_some hm
   refine lx_cut 4 (fun a w => Slots a 56 [(1, p1), (2, (bp b49)), (8, (bp b89)), (9, v97), (45, (.bool t105))] ∧ Heap w0 [oA (rList (rInt .i64)) v97 x95, bA b89 [(.int .i64 x82.1), (.int .i64 x82.2.1), v84, v85] 30, oA (rList rStr) v84 x82.2.2.1, oA (rList Rimpl_Edge) v85 x82.2.2.2, bA b49 [(.int .i64 a0.1), (.int .i64 a0.2.1), v33, v35] 25] w) ?_ ?_
   ·by_cases hc107 : (x102.1 != x77.1) = true
    ·have hm := ite_t hc107 e106
     refine lx_skip S rfl rfl (isB_ne hc107) (by decide) (fun a S => ?_)
     refine lx_skip S rfl rfl (isB_ne hc107) (by decide) (fun a S => ?_)
     refine lx_skip S rfl rfl (isB_ne hc107) (by decide) (fun a S => ?_)
     refine lq (.bool true) S (q_pickT' rfl hc107 rfl) fun a S => ?_
     refine lx_nil ?_
     obtain rfl := Option.some.inj hm
     have H := H.sel [0, 1, 2, 3, 7] (by decide)
     exact ⟨S.sub ⟨rfl, rfl, rfl, rfl, rfl, trivial⟩, H⟩
    ·have hm := ite_f (eq_false_of_ne_true hc107) e106
     have hc107 : (x102.1 != x77.1) = false := eq_false_of_ne_true hc107
     refine lx_q (.int .i64 x102.2) S (want_b rfl rfl hc107) (by decide) (q_move rfl) (fun a S => ?_)
     refine lx_q (.int .i64 x77.2) S (want_b rfl rfl hc107) (by decide) (q_move rfl) (fun a S => ?_)
     refine lx_q (.bool (x102.2 != x77.2)) S (want_b rfl rfl hc107) (by decide) (q_neq rfl rfl) (fun a S => ?_)
     refine lq (.bool (x102.2 != x77.2)) S (q_pickF' rfl hc107 rfl) fun a S => ?_
     refine lx_nil ?_
     obtain rfl := Option.some.inj hm
     have H := H.sel [0, 1, 2, 3, 7] (by decide)
     exact ⟨S.sub ⟨rfl, rfl, rfl, rfl, rfl, trivial⟩, H⟩
   ·rintro a w ⟨S, H⟩
    refine lx_nil (thenN ?_)
    refine cond_b S rfl (fun hc108 => ?_) (fun hc108 => ?_)
    ·have hm := ite_t hc108 hm
     refine wp_seq (region_plain ?_)
     refine lq (.bool false) S (q_assign rfl) fun a S => ?_
     refine lx_nil (thenN ?_)
     refine wp_ret (then_ret ?_)
     obtain rfl := Option.some.inj hm
     have H : Heap w0 [] w := H.sel [] (by decide)
     exact leave1 S rfl rfl ⟨rfl, H⟩
    ·have hm := ite_f hc108 hm
     refine wp_skip (thenN ?_)
     refine wp_seq ?_
     refine wp_seq ?_
     refine region_drawG (fun w1 => Heap w0 [bA b89 [(.int .i64 x82.1), (.int .i64 x82.2.1), v84, v85] 30, bA b49 [(.int .i64 a0.1), (.int .i64 a0.2.1), v33, v35] 25] w1) (fun i => [2, 3].contains i) mixed (by kernel_rfl) (fun w110 he109 => ?_)
     have H := H.later he109
     refine ⟨H.sel [1, 4] (by decide), ?_⟩
     refine lq (.agg #[(.int .i64 x82.1), (.int .i64 x82.2.1), v84, v85]) S (q_loadA (cs := [(.int .i64 x82.1), (.int .i64 x82.2.1), v84, v85]) rfl (isP_bp _) Tryz.isAgg30 Tryz.sizeOf30 (fun w1 hC => (fun j u hu => boxAt (i := 0) hC rfl hu))) fun a S => ?_
     refine lq (.agg #[(.int .i64 a0.1), (.int .i64 a0.2.1), v33, v35]) S (q_loadA (cs := [(.int .i64 a0.1), (.int .i64 a0.2.1), v33, v35]) rfl (isP_bp _) Tryz.isAgg25 Tryz.sizeOf25 (fun w1 hC => (fun j u hu => boxAt (i := 1) hC rfl hu))) fun a S => ?_
     obtain ⟨x113, e114, hm⟩ := bind_some hm
     refine lx_call (xs := [.tmp 47]) S trivial (by decide) rfl rfl Tryz.call21 ((laws_toLts_ok ⟨[(.int .i64 a0.1), (.int .i64 a0.2.1), v33, v35], rfl, ⟨[(.int .i64 a0.1)], [(.int .i64 a0.2.1), v33, v35], rfl, rfl, ⟨[(.int .i64 a0.2.1)], [v33, v35], rfl, rfl, ⟨[v33], [v35], rfl, ((H.arg h34)).list_rd, ((H.arg h36)).list_rd⟩⟩⟩⟩ e114).mono ?_)
     rintro e w111 ⟨v115, v116, rfl, Hc112⟩
     have H := H.call2 Hc112
     refine ⟨_, rfl, H.sel [3, 6] (by decide), fun a S => ?_⟩
     obtain ⟨x122, e123, hm⟩ := bind_some hm
     refine lx_call (xs := [.tmp 46, .tmp 48]) S trivial (by decide) rfl rfl Tryz.call23 ((laws_eqLts_ok ⟨[(.int .i64 x82.1), (.int .i64 x82.2.1), v84, v85], rfl, ⟨[(.int .i64 x82.1)], [(.int .i64 x82.2.1), v84, v85], rfl, rfl, ⟨[(.int .i64 x82.2.1)], [v84, v85], rfl, rfl, ⟨[v84], [v85], rfl, ((H.rdAt 4 rfl)).list_rd, ((H.rdAt 5 rfl)).list_rd⟩⟩⟩⟩ ⟨[(.int .i64 x113.1), (.int .i64 x113.2.1), v115, v116], rfl, ⟨[(.int .i64 x113.1)], [(.int .i64 x113.2.1), v115, v116], rfl, rfl, ⟨[(.int .i64 x113.2.1)], [v115, v116], rfl, rfl, ⟨[v115], [v116], rfl, ((H.rdAt 0 rfl)).list_rd, ((H.rdAt 1 rfl)).list_rd⟩⟩⟩⟩ e123).mono ?_)
     rintro e w120 ⟨rfl, Hc121⟩
     have H := H.call0 Hc121
     refine ⟨_, rfl, H.sel [3, 6] (by decide), fun a S => ?_⟩
     refine lq (.bool (!x122)) S (q_not rfl) fun a S => ?_
     refine lx_nil (thenN ?_)
     refine cond_b S rfl (fun hc125 => ?_) (fun hc125 => ?_)
     ·have hm := ite_t hc125 hm
      refine wp_seq (region_plain ?_)
      refine lq (.bool false) S (q_assign rfl) fun a S => ?_
      refine lx_nil (thenN ?_)
      refine wp_ret (then_ret ?_)
      obtain rfl := Option.some.inj hm
      have H : Heap w0 [] w120 := H.sel [] (by decide)
      exact leave1 S rfl rfl ⟨rfl, H⟩
     ·have hm := ite_f hc125 hm
      refine wp_skip (thenN ?_)
      refine wp_seq (wp_seq (region_plain ?_))
      refine lq v97 S (q_move rfl) fun a S => ?_
      refine lq p1 S (q_move rfl) fun a S => ?_
      obtain ⟨x128, e129, hm⟩ := bind_some hm
      refine lx_call (xs := [.tmp 52]) S trivial (by decide) rfl rfl Tryz.call27 ((laws_toInt64S_ok (H.arg h1) e129).mono ?_)
      rintro e w126 ⟨v130, rfl, Hc127⟩
      have H := H.call1 Hc127
      refine ⟨_, rfl, trivial, fun a S => ?_⟩
      obtain ⟨x135, e136, hm⟩ := bind_some hm
      refine lx_call (xs := [.tmp 51, .tmp 53]) S trivial (by decide) rfl rfl Tryz.call29 ((laws_eqInt64S_ok (H.rdAt 3 rfl) (H.rdAt 0 rfl) e136).mono ?_)
      rintro e w133 ⟨rfl, Hc134⟩
      have H := H.call0 Hc134
      refine ⟨_, rfl, trivial, fun a S => ?_⟩
      refine lq (.bool (!x135)) S (q_not rfl) fun a S => ?_
      refine lx_nil (thenN ?_)
      refine cond_b S rfl (fun hc138 => ?_) (fun hc138 => ?_)
      ·have hm := ite_t hc138 hm
       refine wp_seq (region_plain ?_)
       refine lq (.bool false) S (q_assign rfl) fun a S => ?_
       refine lx_nil (thenN ?_)
       refine wp_ret (then_ret ?_)
       obtain rfl := Option.some.inj hm
       have H : Heap w0 [] w133 := H.sel [] (by decide)
       exact leave1 S rfl rfl ⟨rfl, H⟩
      ·have hm := ite_f hc138 hm
       refine wp_skip (thenN ?_)
       refine wp_seq (region_plain ?_)
       refine lq (.bool true) S (q_assign rfl) fun a S => ?_
       refine lx_nil (thenN ?_)
       refine wp_ret ?_
       obtain rfl := Option.some.inj hm
       have H : Heap w0 [] w133 := H.sel [] (by decide)
       exact leave1 S rfl rfl ⟨rfl, H⟩
end Go.Proofs.YtkgkfbmcnchdbaaGreatDoor
