/- The model of a statement and its walk (printed by a program of this repo). -/
import Derived.Test.YtkgkfbmcnchdbaaGreatDoorF0
import Derived.Test.YtkgkfbmcnchdbaaGreatDoorF1
import Derived.Test.YtkgkfbmcnchdbaaGreatDoorF13
import Derived.Test.YtkgkfbmcnchdbaaGreatDoorF14
import Derived.Test.YtkgkfbmcnchdbaaGreatDoorF2
import Derived.Test.YtkgkfbmcnchdbaaGreatDoorF3
import Derived.Test.YtkgkfbmcnchdbaaGreatDoorF4
import Derived.Test.YtkgkfbmcnchdbaaGreatDoorF5
import Derived.Test.YtkgkfbmcnchdbaaGreatDoorGxT
import Derived.Test.YtkgkfbmcnchdbaaGreatDoorGxY
namespace Go.Proofs.YtkgkfbmcnchdbaaGreatDoor
open Go.RowKit Go.Gx

/-- spec.InternalClosure -/
def spec_InternalClosure_m (fuel : Nat) (a0 : Timpl_Lts) (a1 : (List Int)) : Option (((List Int) × Int)) :=
  (spec_l11Is_m fuel (a0.1, a0.2.1, a0.2.2.1, a0.2.2.2)).bind fun x77 => (if (!x77) = true then some (([], (1 : Int))) else (spec_l00Rises_m fuel a1 (0 : Int) (W ((a0.1, a0.2.1, a0.2.2.1, a0.2.2.2).1 - (1 : Int)))).bind fun x84 => (if (!x84) = true then some (([], (2 : Int))) else (spec_l12Marks_m fuel (a0.1, a0.2.1, a0.2.2.1, a0.2.2.2) a1).bind fun x91 => (spec_l12Close_m fuel (a0.1, a0.2.1, a0.2.2.1, a0.2.2.2) x91).bind fun x98 => (spec_l14List_m fuel x98).bind fun x102 => some ((x102, (0 : Int)))))
set_option maxRecDepth 20000 in
theorem spec_InternalClosure_ok {w0 : World} {fuel : Nat} {p0 p1 : Value} {a0 : Timpl_Lts} {a1 : (List Int)} {r : ((List Int) × Int)} (h0 : Rd Rimpl_Lts w0 p0 a0) (h1 : Rd (rList (rInt .i64)) w0 p1 a1) (hm : spec_InternalClosure_m fuel a0 a1 = some r) :
  Calls Tryz.prog 64 #[p0, p1] w0 fun e w => ∃ (v0 : Value), e = .returned (.tuple #[v0, .int .i64 r.2]) ∧ Heap w0 [oA (rList (rInt .i64)) v0 r.1] w := by
 unfold spec_InternalClosure_m at hm
 have H := Heap.start w0
 obtain ⟨c31, rfl, h32⟩ := h0
 obtain ⟨c37, c38, rfl, h39, h40⟩ := h32
 obtain rfl := h39
 obtain ⟨c41, c42, rfl, h43, h44⟩ := h40
 obtain rfl := h43
 obtain ⟨c45, c46, rfl, h47, h48⟩ := h44
 obtain ⟨v33, rfl, h34⟩ := rd_list h47
 obtain ⟨v35, rfl, h36⟩ := rd_list h48
 refine enter (args := [(.agg #[(.int .i64 a0.1), (.int .i64 a0.2.1), v33, v35]), p1]) Tryz.func64 rfl 21 rfl (Nat.le_of_ble_eq_true rfl) (fun a S => ?_)
 refine wp_seq (region_plain ?_)
 refine lx_box S trivial (by decide) rfl H rfl rfl (fun b49 w50 H => ⟨trivial, fun a S => ?_⟩)
 refine lq (.slice none 0 0) S (q_assign rfl) fun a S => ?_
 refine lq (.int .i64 (0 : Int)) S (q_assign rfl) fun a S => ?_
 refine lx_nil ?_
 have H0 := H
 have hb52 : Rd (rPtr Rimpl_Lts) w50 (bp b49) (a0.1, a0.2.1, a0.2.2.1, a0.2.2.2) := (rdPtr_box H 0 rfl ⟨[(.int .i64 a0.1)], [(.int .i64 a0.2.1), v33, v35], rfl, rfl, ⟨[(.int .i64 a0.2.1)], [v33, v35], rfl, rfl, ⟨[v33], [v35], rfl, ((H.arg h34)).list_rd, ((H.arg h36)).list_rd⟩⟩⟩)
 obtain ⟨c53, h54, hat55⟩ := hb52.ptr
 obtain ⟨c60, c61, rfl, h62, h63⟩ := h54
 obtain rfl := h62
 obtain ⟨c64, c65, rfl, h66, h67⟩ := h63
 obtain rfl := h66
 obtain ⟨c68, c69, rfl, h70, h71⟩ := h67
 obtain ⟨v56, rfl, h57⟩ := rd_list h70
 obtain ⟨v58, rfl, h59⟩ := rd_list h71
 have h72 := H0.arg h34
 have h73 := H0.arg h36
 have h74 := H0.arg h1
 have H := Heap.start w50
 refine thenN ?_
 refine wp_seq (wp_seq (region_plain ?_))
 obtain ⟨x77, e78, hm⟩ := bind_some hm
 refine lx_call (xs := [.tmp 2]) S trivial (by decide) rfl rfl Tryz.call70 ((spec_l11Is_ok (H.arg hb52) e78).mono ?_)
 rintro e w75 ⟨rfl, Hc76⟩
 have H := H.call0 Hc76
 refine ⟨_, rfl, trivial, fun a S => ?_⟩
 refine lq (.bool (!x77)) S (q_not rfl) fun a S => ?_
 refine lx_nil (thenN ?_)
 refine cond_b S rfl (fun hc80 => ?_) (fun hc80 => ?_)
 ·have hm := ite_t hc80 hm
  refine wp_seq (region_plain ?_)
  refine lq (.slice none 0 0) S (q_assign rfl) fun a S => ?_
  refine lq (.int .i64 (1 : Int)) S (q_assign rfl) fun a S => ?_
  refine lx_nil (thenN ?_)
  refine wp_ret (then_ret ?_)
  obtain rfl := Option.some.inj hm
  have H : Heap w50 [oA (rList (rInt .i64)) (.slice none 0 0) ([] : List Int)] w75 := H.nilList (rInt .i64)
  have H : Heap w0 [oA (rList (rInt .i64)) (.slice none 0 0) ([] : List Int), bA b49 [(.int .i64 a0.1), (.int .i64 a0.2.1), v33, v35] 30] w75 := H0.call H
  have H : Heap w0 [oA (rList (rInt .i64)) (.slice none 0 0) ([] : List Int)] w75 := H.sel [0] (by decide)
  exact leave2 S rfl rfl rfl ⟨(.slice none 0 0), rfl, H⟩
 ·have hm := ite_f hc80 hm
  refine wp_skip (thenN ?_)
  refine wp_seq (wp_seq (region_plain ?_))
  refine lq p1 S (q_move rfl) fun a S => ?_
  refine lq (pAdd (bp b49) 0) S (q_fieldAddr' 0 2 rfl ((hat55 0 _ rfl).isP) Tryz.underlying30 rfl Tryz.sizeOf2) fun a S => ?_
  refine lx_e (.int .i64 (a0.1, a0.2.1, a0.2.2.1, a0.2.2.2).1) S trivial (by decide) rfl trivial (q_load1 rfl Tryz.isAgg2 (by rintro _ rfl; exact (At.of_add (m := 0) (j := 0) ((hat55 0 _ rfl).ext H.ext)))) (fun a S => ?_)
  refine lq (.int .i64 (W ((a0.1, a0.2.1, a0.2.2.1, a0.2.2.2).1 - (1 : Int)))) S (q_sub rfl rfl) fun a S => ?_
  obtain ⟨x84, e85, hm⟩ := bind_some hm
  refine lx_call (xs := [.tmp 9, .const (.int .i64 (0)), .tmp 12]) S trivial (by decide) rfl rfl Tryz.call102 ((spec_l00Rises_ok (H.arg h74)   e85).mono ?_)
  rintro e w82 ⟨rfl, Hc83⟩
  have H := H.call0 Hc83
  refine ⟨_, rfl, trivial, fun a S => ?_⟩
  refine lq (.bool (!x84)) S (q_not rfl) fun a S => ?_
  refine lx_nil (thenN ?_)
  refine cond_b S rfl (fun hc87 => ?_) (fun hc87 => ?_)
  ·have hm := ite_t hc87 hm
   refine wp_seq (region_plain ?_)
   refine lq (.slice none 0 0) S (q_assign rfl) fun a S => ?_
   refine lq (.int .i64 (2 : Int)) S (q_assign rfl) fun a S => ?_
   refine lx_nil (thenN ?_)
   refine wp_ret (then_ret ?_)
   obtain rfl := Option.some.inj hm
   have H : Heap w50 [oA (rList (rInt .i64)) (.slice none 0 0) ([] : List Int)] w82 := H.nilList (rInt .i64)
   have H : Heap w0 [oA (rList (rInt .i64)) (.slice none 0 0) ([] : List Int), bA b49 [(.int .i64 a0.1), (.int .i64 a0.2.1), v33, v35] 30] w82 := H0.call H
   have H : Heap w0 [oA (rList (rInt .i64)) (.slice none 0 0) ([] : List Int)] w82 := H.sel [0] (by decide)
   exact leave2 S rfl rfl rfl ⟨(.slice none 0 0), rfl, H⟩
  ·have hm := ite_f hc87 hm
   refine wp_skip (thenN ?_)
   refine wp_seq (region_plain ?_)
   refine lq p1 S (q_move rfl) fun a S => ?_
   obtain ⟨x91, e92, hm⟩ := bind_some hm
   refine lx_call (xs := [.tmp 2, .tmp 15]) S trivial (by decide) rfl rfl Tryz.call118 ((spec_l12Marks_ok (H.arg hb52) (H.arg h74) e92).mono ?_)
   rintro e w89 ⟨v93, rfl, Hc90⟩
   have H := H.call1 Hc90
   refine ⟨_, rfl, trivial, fun a S => ?_⟩
   refine lq v93 S (q_assign rfl) fun a S => ?_
   refine lx_nil (thenN ?_)
   refine wp_seq (region_plain ?_)
   refine lq v93 S (q_move rfl) fun a S => ?_
   obtain ⟨x98, e99, hm⟩ := bind_some hm
   refine lx_call (xs := [.tmp 2, .tmp 17]) S trivial (by decide) rfl rfl Tryz.call119 ((spec_l12Close_ok H hb52 e99).mono ?_)
   rintro e w96 ⟨rfl, H⟩
   refine ⟨_, rfl, trivial, fun a S => ?_⟩
   refine lx_nil (thenN ?_)
   refine wp_seq (region_plain ?_)
   refine lq v93 S (q_move rfl) fun a S => ?_
   obtain ⟨x102, e103, hm⟩ := bind_some hm
   refine lx_call (xs := [.tmp 19]) S trivial (by decide) rfl rfl Tryz.call120 ((spec_l14List_ok (H.rdAt 0 rfl) e103).mono ?_)
   rintro e w100 ⟨v104, rfl, Hc101⟩
   have H := H.call1 Hc101
   refine ⟨_, rfl, trivial, fun a S => ?_⟩
   refine lq v104 S (q_assign rfl) fun a S => ?_
   refine lq (.int .i64 (0 : Int)) S (q_assign rfl) fun a S => ?_
   refine lx_nil (thenN ?_)
   refine wp_ret ?_
   obtain rfl := Option.some.inj hm
   have H : Heap w0 [oA (rList (rInt .i64)) v104 x102, oA (rList rBool) v93 x98, bA b49 [(.int .i64 a0.1), (.int .i64 a0.2.1), v33, v35] 30] w100 := H0.call H
   have H : Heap w0 [oA (rList (rInt .i64)) v104 x102] w100 := H.sel [0] (by decide)
   exact leave2 S rfl rfl rfl ⟨v104, rfl, H⟩

/-- impl.InternalClosure -/
def impl_InternalClosure_m (fuel : Nat) (a0 : Timpl_Lts) (a1 : (List Int)) : Option (((List Int) × Int)) :=
  (impl_ValidLts_m fuel (a0.1, a0.2.1, a0.2.2.1, a0.2.2.2)).bind fun x54 => (if (!x54) = true then some (([], (1 : Int))) else (impl_Lts_statesOk_m fuel (a0.1, a0.2.1, a0.2.2.1, a0.2.2.2) a1).bind fun x61 => (if (!x61) = true then some (([], (2 : Int))) else (impl_Lts_internal_m fuel (a0.1, a0.2.1, a0.2.2.1, a0.2.2.2) a1).bind fun x68 => some ((x68, (0 : Int)))))
set_option maxRecDepth 20000 in
theorem impl_InternalClosure_ok {w0 : World} {fuel : Nat} {p0 p1 : Value} {a0 : Timpl_Lts} {a1 : (List Int)} {r : ((List Int) × Int)} (hG : Glob Tryz.prog w0) (h0 : Rd Rimpl_Lts w0 p0 a0) (h1 : Rd (rList (rInt .i64)) w0 p1 a1) (hm : impl_InternalClosure_m fuel a0 a1 = some r) :
  Calls Tryz.prog 65 #[p0, p1] w0 fun e w => ∃ (v0 : Value), e = .returned (.tuple #[v0, .int .i64 r.2]) ∧ Heap w0 [oA (rList (rInt .i64)) v0 r.1] w := by
 unfold impl_InternalClosure_m at hm
 have H := Heap.start w0
 obtain ⟨c31, rfl, h32⟩ := h0
 obtain ⟨c37, c38, rfl, h39, h40⟩ := h32
 obtain rfl := h39
 obtain ⟨c41, c42, rfl, h43, h44⟩ := h40
 obtain rfl := h43
 obtain ⟨c45, c46, rfl, h47, h48⟩ := h44
 obtain ⟨v33, rfl, h34⟩ := rd_list h47
 obtain ⟨v35, rfl, h36⟩ := rd_list h48
 refine enter (args := [(.agg #[(.int .i64 a0.1), (.int .i64 a0.2.1), v33, v35]), p1]) Tryz.func65 rfl 18 rfl (Nat.le_of_ble_eq_true rfl) (fun a S => ?_)
 refine wp_seq (region_plain ?_)
 refine lx_box S trivial (by decide) rfl H rfl rfl (fun b49 w50 H => ⟨trivial, fun a S => ?_⟩)
 refine lq (.slice none 0 0) S (q_assign rfl) fun a S => ?_
 refine lq (.int .i64 (0 : Int)) S (q_assign rfl) fun a S => ?_
 refine lx_nil (thenN ?_)
 refine wp_seq ?_
 refine wp_block ?_
 refine wp_seq (region_plain ?_)
 refine lx_e (.agg #[(.int .i64 a0.1), (.int .i64 a0.2.1), v33, v35]) S trivial (by decide) rfl trivial (q_loadA (cs := [(.int .i64 a0.1), (.int .i64 a0.2.1), v33, v35]) rfl (isP_bp _) Tryz.isAgg30 Tryz.sizeOf30 (by rintro _ rfl; exact (fun j u hu => boxAt (i := 0) H rfl hu))) (fun a S => ?_)
 obtain ⟨x54, e55, hm⟩ := bind_some hm
 refine lx_call (xs := [.tmp 7]) S trivial (by decide) rfl rfl Tryz.call22 ((impl_ValidLts_ok (hG.ext H.ext) ⟨[(.int .i64 a0.1), (.int .i64 a0.2.1), v33, v35], rfl, ⟨[(.int .i64 a0.1)], [(.int .i64 a0.2.1), v33, v35], rfl, rfl, ⟨[(.int .i64 a0.2.1)], [v33, v35], rfl, rfl, ⟨[v33], [v35], rfl, ((H.arg h34)).list_rd, ((H.arg h36)).list_rd⟩⟩⟩⟩ e55).mono ?_)
 rintro e w52 ⟨rfl, Hc53⟩
 have H := H.call0 Hc53
 refine ⟨_, rfl, trivial, fun a S => ?_⟩
 refine lq (.bool (!x54)) S (q_not rfl) fun a S => ?_
 refine lq (.bool (!x54)) S (q_assign rfl) fun a S => ?_
 refine lx_nil (thenN ?_)
 refine cond_b S rfl (fun hc57 => ?_) (fun hc57 => ?_)
 ·have hm := ite_t hc57 hm
  refine wp_seq (region_plain ?_)
  refine lq (.slice none 0 0) S (q_assign rfl) fun a S => ?_
  refine lq (.int .i64 (1 : Int)) S (q_assign rfl) fun a S => ?_
  refine lx_nil (thenN ?_)
  refine wp_ret (inBlock_ret ?_)
  refine then_ret ?_
  obtain rfl := Option.some.inj hm
  have H : Heap w0 [oA (rList (rInt .i64)) (.slice none 0 0) ([] : List Int), bA b49 [(.int .i64 a0.1), (.int .i64 a0.2.1), v33, v35] 30] w52 := H.nilList (rInt .i64)
  have H : Heap w0 [oA (rList (rInt .i64)) (.slice none 0 0) ([] : List Int)] w52 := H.sel [0] (by decide)
  exact leave2 S rfl rfl rfl ⟨(.slice none 0 0), rfl, H⟩
 ·have hm := ite_f hc57 hm
  refine wp_seq (region_plain ?_)
  refine lx_e (.agg #[(.int .i64 a0.1), (.int .i64 a0.2.1), v33, v35]) S trivial (by decide) rfl trivial (q_loadA (cs := [(.int .i64 a0.1), (.int .i64 a0.2.1), v33, v35]) rfl (isP_bp _) Tryz.isAgg30 Tryz.sizeOf30 (by rintro _ rfl; exact (fun j u hu => boxAt (i := 0) H rfl hu))) (fun a S => ?_)
  refine lq p1 S (q_move rfl) fun a S => ?_
  obtain ⟨x61, e62, hm⟩ := bind_some hm
  refine lx_call (xs := [.tmp 11, .tmp 12]) S trivial (by decide) rfl rfl Tryz.call104 ((impl_Lts_statesOk_ok ⟨[(.int .i64 a0.1), (.int .i64 a0.2.1), v33, v35], rfl, ⟨[(.int .i64 a0.1)], [(.int .i64 a0.2.1), v33, v35], rfl, rfl, ⟨[(.int .i64 a0.2.1)], [v33, v35], rfl, rfl, ⟨[v33], [v35], rfl, ((H.arg h34)).list_rd, ((H.arg h36)).list_rd⟩⟩⟩⟩ (H.arg h1) e62).mono ?_)
  rintro e w59 ⟨rfl, Hc60⟩
  have H := H.call0 Hc60
  refine ⟨_, rfl, trivial, fun a S => ?_⟩
  refine lq (.bool (!x61)) S (q_not rfl) fun a S => ?_
  refine lq (.bool (!x61)) S (q_assign rfl) fun a S => ?_
  refine lx_nil (thenN ?_)
  refine cond_b S rfl (fun hc64 => ?_) (fun hc64 => ?_)
  ·have hm := ite_t hc64 hm
   refine wp_seq (region_plain ?_)
   refine lq (.slice none 0 0) S (q_assign rfl) fun a S => ?_
   refine lq (.int .i64 (2 : Int)) S (q_assign rfl) fun a S => ?_
   refine lx_nil (thenN ?_)
   refine wp_ret (inBlock_ret ?_)
   refine then_ret ?_
   obtain rfl := Option.some.inj hm
   have H : Heap w0 [oA (rList (rInt .i64)) (.slice none 0 0) ([] : List Int), bA b49 [(.int .i64 a0.1), (.int .i64 a0.2.1), v33, v35] 30] w59 := H.nilList (rInt .i64)
   have H : Heap w0 [oA (rList (rInt .i64)) (.slice none 0 0) ([] : List Int)] w59 := H.sel [0] (by decide)
   exact leave2 S rfl rfl rfl ⟨(.slice none 0 0), rfl, H⟩
  ·have hm := ite_f hc64 hm
   refine wp_skip ?_
   refine inBlock_norm ?_
   refine thenN ?_
   refine wp_seq (region_plain ?_)
   refine lx_e (.agg #[(.int .i64 a0.1), (.int .i64 a0.2.1), v33, v35]) S trivial (by decide) rfl trivial (q_loadA (cs := [(.int .i64 a0.1), (.int .i64 a0.2.1), v33, v35]) rfl (isP_bp _) Tryz.isAgg30 Tryz.sizeOf30 (by rintro _ rfl; exact (fun j u hu => boxAt (i := 0) H rfl hu))) (fun a S => ?_)
   refine lq p1 S (q_move rfl) fun a S => ?_
   obtain ⟨x68, e69, hm⟩ := bind_some hm
   refine lx_call (xs := [.tmp 15, .tmp 16]) S trivial (by decide) rfl rfl Tryz.call121 ((impl_Lts_internal_ok ⟨[(.int .i64 a0.1), (.int .i64 a0.2.1), v33, v35], rfl, ⟨[(.int .i64 a0.1)], [(.int .i64 a0.2.1), v33, v35], rfl, rfl, ⟨[(.int .i64 a0.2.1)], [v33, v35], rfl, rfl, ⟨[v33], [v35], rfl, ((H.arg h34)).list_rd, ((H.arg h36)).list_rd⟩⟩⟩⟩ (H.arg h1) e69).mono ?_)
   rintro e w66 ⟨v70, rfl, Hc67⟩
   have H := H.call1 Hc67
   refine ⟨_, rfl, trivial, fun a S => ?_⟩
   refine lq v70 S (q_assign rfl) fun a S => ?_
   refine lq (.int .i64 (0 : Int)) S (q_assign rfl) fun a S => ?_
   refine lx_nil (thenN ?_)
   refine wp_ret ?_
   obtain rfl := Option.some.inj hm
   have H : Heap w0 [oA (rList (rInt .i64)) v70 x68] w66 := H.sel [0] (by decide)
   exact leave2 S rfl rfl rfl ⟨v70, rfl, H⟩

/-- laws.FnExactInternalClosure -/
def laws_FnExactInternalClosure_m (fuel : Nat) (a0 : Tlaws_Lts) (a1 : (List Int)) : Option (Bool) :=
  (if (decide ((1048576 : Int) < (a1.length : Int))) = true then some (true) else (laws_szLts_m fuel (a0.1, a0.2.1, a0.2.2.1, a0.2.2.2) (1048576 : Int)).bind fun x55 => (if (decide (x55 < (0 : Int))) = true then some (true) else (laws_toLts_m fuel (a0.1, a0.2.1, a0.2.2.1, a0.2.2.2)).bind fun x61 => (laws_toInt64S_m fuel a1).bind fun x70 => (spec_InternalClosure_m fuel (x61.1, x61.2.1, x61.2.2.1, x61.2.2.2) x70).bind fun x77 => (laws_toLts_m fuel (a0.1, a0.2.1, a0.2.2.1, a0.2.2.2)).bind fun x84 => (laws_toInt64S_m fuel a1).bind fun x97 => (impl_InternalClosure_m fuel (x84.1, x84.2.1, x84.2.2.1, x84.2.2.2) x97).bind fun x104 => (laws_eqInt64S_m fuel x104.1 x77.1).bind fun x111 => (if (!x111) = true then some true else some (x104.2 != x77.2)).bind fun t114 => (if t114 = true then some (false) else (laws_toLts_m fuel (a0.1, a0.2.1, a0.2.2.1, a0.2.2.2)).bind fun x122 => (laws_eqLts_m fuel (x84.1, x84.2.1, x84.2.2.1, x84.2.2.2) (x122.1, x122.2.1, x122.2.2.1, x122.2.2.2)).bind fun x131 => (if (!x131) = true then some (false) else (laws_toInt64S_m fuel a1).bind fun x137 => (laws_eqInt64S_m fuel x97 x137).bind fun x144 => (if (!x144) = true then some (false) else (laws_markLts_m fuel (x84.1, x84.2.1, x84.2.2.1, x84.2.2.2) (1 : Int)).bind fun x150 => (laws_markInt64S_m fuel x97 x150.1).bind fun x154 => (if (decide (x154.1 < (0 : Int))) = true then some true else (laws_eqInt64S_m fuel x104.1 x77.1).bind fun x161 => some (!x161)).bind fun t156 => (if t156 = true then some true else some (x104.2 != x77.2)).bind fun t164 => (if t164 = true then some (false) else (laws_markInt64S_m fuel x104.1 (1 : Int)).bind fun x170 => (laws_heldInt64S_m fuel x170.2 (1 : Int)).bind fun x174 => (if (decide (x174 < (0 : Int))) = true then some (false) else (if (x174 != x170.1) = true then some (false) else (laws_toLts_m fuel (a0.1, a0.2.1, a0.2.2.1, a0.2.2.2)).bind fun x181 => (laws_toInt64S_m fuel a1).bind fun x190 => (impl_InternalClosure_m fuel (x181.1, x181.2.1, x181.2.2.1, x181.2.2.2) x190).bind fun x197 => (laws_eqInt64S_m fuel x197.1 x77.1).bind fun x204 => (if (!x204) = true then some true else some (x197.2 != x77.2)).bind fun t207 => (if t207 = true then some (false) else (laws_heldInt64S_m fuel x170.2 (1 : Int)).bind fun x213 => (if (decide (x213 < (0 : Int))) = true then some (false) else (if (x213 != x170.1) = true then some (false) else some (true))))))))))))
set_option maxRecDepth 20000 in
theorem laws_FnExactInternalClosure_ok {w0 : World} {fuel : Nat} {p0 p1 : Value} {a0 : Tlaws_Lts} {a1 : (List Int)} {r : Bool} (hG : Glob Tryz.prog w0) (h0 : Rd Rlaws_Lts w0 p0 a0) (h1 : Rd (rList (rInt .i64)) w0 p1 a1) (hm : laws_FnExactInternalClosure_m fuel a0 a1 = some r) :
  Calls Tryz.prog 17 #[p0, p1] w0 fun e w => e = .returned (.bool r) ∧ Heap w0 [] w := by
 unfold laws_FnExactInternalClosure_m at hm
 have H := Heap.start w0
 obtain ⟨c31, rfl, h32⟩ := h0
 obtain ⟨c37, c38, rfl, h39, h40⟩ := h32
 obtain rfl := h39
 obtain ⟨c41, c42, rfl, h43, h44⟩ := h40
 obtain rfl := h43
 obtain ⟨c45, c46, rfl, h47, h48⟩ := h44
 obtain ⟨v33, rfl, h34⟩ := rd_list h47
 obtain ⟨v35, rfl, h36⟩ := rd_list h48
 refine enter (args := [(.agg #[(.int .i64 a0.1), (.int .i64 a0.2.1), v33, v35]), p1]) Tryz.func17 rfl 117 rfl (Nat.le_of_ble_eq_true rfl) (fun a S => ?_)
 refine wp_seq (region_plain ?_)
 refine lx_box S trivial (by decide) rfl H rfl rfl (fun b49 w50 H => ⟨trivial, fun a S => ?_⟩)
 refine lq (.bool false) S (q_assign rfl) fun a S => ?_
 refine lx_nil (thenN ?_)
 refine wp_seq (wp_seq (region_plain ?_))
 refine lq p1 S (q_move rfl) fun a S => ?_
 refine lq (.int .i64 (a1.length : Int)) S (q_lenSl rfl (h1).isSl rfl Tryz.underlying34) fun a S => ?_
 refine lq (.bool (decide ((1048576 : Int) < (a1.length : Int)))) S (q_gtr rfl rfl) fun a S => ?_
 refine lx_nil (thenN ?_)
 refine cond_b S rfl (fun hc52 => ?_) (fun hc52 => ?_)
 ·have hm := ite_t hc52 hm
  refine wp_seq (region_plain ?_)
  refine lq (.bool true) S (q_assign rfl) fun a S => ?_
  refine lx_nil (thenN ?_)
  refine wp_ret (then_ret ?_)
  obtain rfl := Option.some.inj hm
  have H : Heap w0 [] w50 := H.sel [] (by decide)
  exact leave1 S rfl rfl ⟨rfl, H⟩
 ·have hm := ite_f hc52 hm
  refine wp_skip (thenN ?_)
  refine wp_seq (region_plain ?_)
  refine lq (.int .i64 (1048576 : Int)) S (q_assign rfl) fun a S => ?_
  refine lx_nil (thenN ?_)
  refine wp_seq (region_plain ?_)
  refine lx_e (.agg #[(.int .i64 a0.1), (.int .i64 a0.2.1), v33, v35]) S trivial (by decide) rfl trivial (q_loadA (cs := [(.int .i64 a0.1), (.int .i64 a0.2.1), v33, v35]) rfl (isP_bp _) Tryz.isAgg25 Tryz.sizeOf25 (by rintro _ rfl; exact (fun j u hu => boxAt (i := 0) H rfl hu))) (fun a S => ?_)
  refine lq (.int .i64 (1048576 : Int)) S (q_move rfl) fun a S => ?_
  obtain ⟨x55, e56, hm⟩ := bind_some hm
  refine lx_call (xs := [.tmp 20, .tmp 21]) S trivial (by decide) rfl rfl Tryz.call19 ((laws_szLts_ok ⟨[(.int .i64 a0.1), (.int .i64 a0.2.1), v33, v35], rfl, ⟨[(.int .i64 a0.1)], [(.int .i64 a0.2.1), v33, v35], rfl, rfl, ⟨[(.int .i64 a0.2.1)], [v33, v35], rfl, rfl, ⟨[v33], [v35], rfl, ((H.arg h34)).list_rd, ((H.arg h36)).list_rd⟩⟩⟩⟩  e56).mono ?_)
  rintro e w53 ⟨rfl, Hc54⟩
  have H := H.call0 Hc54
  refine ⟨_, rfl, trivial, fun a S => ?_⟩
  refine lq (.int .i64 x55) S (q_assign rfl) fun a S => ?_
  refine lx_nil (thenN ?_)
  refine wp_seq (wp_seq (region_plain ?_))
  refine lq (.int .i64 x55) S (q_move rfl) fun a S => ?_
  refine lq (.bool (decide (x55 < (0 : Int)))) S (q_lss rfl rfl) fun a S => ?_
  refine lx_nil (thenN ?_)
  refine cond_b S rfl (fun hc58 => ?_) (fun hc58 => ?_)
  ·have hm := ite_t hc58 hm
   refine wp_seq (region_plain ?_)
   refine lq (.bool true) S (q_assign rfl) fun a S => ?_
   refine lx_nil (thenN ?_)
   refine wp_ret (then_ret ?_)
   obtain rfl := Option.some.inj hm
   have H : Heap w0 [] w53 := H.sel [] (by decide)
   exact leave1 S rfl rfl ⟨rfl, H⟩
  ·have hm := ite_f hc58 hm
   refine wp_skip (thenN ?_)
   refine wp_seq (region_plain ?_)
   refine lx_e (.agg #[(.int .i64 a0.1), (.int .i64 a0.2.1), v33, v35]) S trivial (by decide) rfl trivial (q_loadA (cs := [(.int .i64 a0.1), (.int .i64 a0.2.1), v33, v35]) rfl (isP_bp _) Tryz.isAgg25 Tryz.sizeOf25 (by rintro _ rfl; exact (fun j u hu => boxAt (i := 0) H rfl hu))) (fun a S => ?_)
   obtain ⟨x61, e62, hm⟩ := bind_some hm
   refine lx_call (xs := [.tmp 26]) S trivial (by decide) rfl rfl Tryz.call21 ((laws_toLts_ok ⟨[(.int .i64 a0.1), (.int .i64 a0.2.1), v33, v35], rfl, ⟨[(.int .i64 a0.1)], [(.int .i64 a0.2.1), v33, v35], rfl, rfl, ⟨[(.int .i64 a0.2.1)], [v33, v35], rfl, rfl, ⟨[v33], [v35], rfl, ((H.arg h34)).list_rd, ((H.arg h36)).list_rd⟩⟩⟩⟩ e62).mono ?_)
   rintro e w59 ⟨v63, v64, rfl, Hc60⟩
   have H := H.call2 Hc60
   refine ⟨_, rfl, trivial, fun a S => ?_⟩
   refine lq p1 S (q_move rfl) fun a S => ?_
   obtain ⟨x70, e71, hm⟩ := bind_some hm
   refine lx_call (xs := [.tmp 28]) S trivial (by decide) rfl rfl Tryz.call27 ((laws_toInt64S_ok (H.arg h1) e71).mono ?_)
   rintro e w68 ⟨v72, rfl, Hc69⟩
   have H := H.call1 Hc69
   refine ⟨_, rfl, trivial, fun a S => ?_⟩
   obtain ⟨x77, e78, hm⟩ := bind_some hm
   refine lx_call (xs := [.tmp 27, .tmp 29]) S trivial (by decide) rfl rfl Tryz.call64 ((spec_InternalClosure_ok ⟨[(.int .i64 x61.1), (.int .i64 x61.2.1), v63, v64], rfl, ⟨[(.int .i64 x61.1)], [(.int .i64 x61.2.1), v63, v64], rfl, rfl, ⟨[(.int .i64 x61.2.1)], [v63, v64], rfl, rfl, ⟨[v63], [v64], rfl, ((H.rdAt 1 rfl)).list_rd, ((H.rdAt 2 rfl)).list_rd⟩⟩⟩⟩ (H.rdAt 0 rfl) e78).mono ?_)
   rintro e w75 ⟨v79, rfl, Hc76⟩
   have H := H.call1 Hc76
   refine ⟨_, rfl, trivial, fun a S => ?_⟩
   refine lq (.tuple #[v79, (.int .i64 x77.2)]) S (q_move rfl) fun a S => ?_
   refine lq v79 S (q_extract rfl rfl) fun a S => ?_
   refine lq (.int .i64 x77.2) S (q_extract rfl rfl) fun a S => ?_
   refine lq v79 S (q_assign rfl) fun a S => ?_
   refine lq (.int .i64 x77.2) S (q_assign rfl) fun a S => ?_
   refine lx_nil (thenN ?_)
   refine wp_seq (region_plain ?_)
   refine lx_e (.agg #[(.int .i64 a0.1), (.int .i64 a0.2.1), v33, v35]) S trivial (by decide) rfl trivial (q_loadA (cs := [(.int .i64 a0.1), (.int .i64 a0.2.1), v33, v35]) rfl (isP_bp _) Tryz.isAgg25 Tryz.sizeOf25 (by rintro _ rfl; exact (fun j u hu => boxAt (i := 4) H rfl hu))) (fun a S => ?_)
   obtain ⟨x84, e85, hm⟩ := bind_some hm
   refine lx_call (xs := [.tmp 33]) S trivial (by decide) rfl rfl Tryz.call21 ((laws_toLts_ok ⟨[(.int .i64 a0.1), (.int .i64 a0.2.1), v33, v35], rfl, ⟨[(.int .i64 a0.1)], [(.int .i64 a0.2.1), v33, v35], rfl, rfl, ⟨[(.int .i64 a0.2.1)], [v33, v35], rfl, rfl, ⟨[v33], [v35], rfl, ((H.arg h34)).list_rd, ((H.arg h36)).list_rd⟩⟩⟩⟩ e85).mono ?_)
   rintro e w82 ⟨v86, v87, rfl, Hc83⟩
   have H := H.call2 Hc83
   refine ⟨_, rfl, trivial, fun a S => ?_⟩
   refine lx_alloc S trivial (by decide) rfl H Tryz.zeroValue30 rfl (fun b91 w92 H => ⟨trivial, fun a S => ?_⟩)
   refine lx_storeBox (o := 0) (i := 0) (us := [(.int .i64 x84.1), (.int .i64 x84.2.1), v86, v87]) (cs' := [(.int .i64 x84.1), (.int .i64 x84.2.1), v86, v87]) S trivial rfl H rfl rfl rfl rfl Tryz.sizeOf30 (Nat.le_of_ble_eq_true rfl) (List.forall_mem_cons.2 ⟨rfl, (List.forall_mem_cons.2 ⟨rfl, (List.forall_mem_cons.2 ⟨one_sl (H.isSl 1 rfl), (List.forall_mem_cons.2 ⟨one_sl (H.isSl 2 rfl), (fun _ h => nomatch h)⟩)⟩)⟩)⟩) rfl (fun w94 H => ⟨trivial, fun a S => ?_⟩)
   change Heap w0 [bA b91 [(.int .i64 x84.1), (.int .i64 x84.2.1), v86, v87] 30, oA (rList rStr) v86 x84.2.2.1, oA (rList Rimpl_Edge) v87 x84.2.2.2, oA (rList (rInt .i64)) v79 x77.1, oA (rList (rInt .i64)) v72 x70, oA (rList rStr) v63 x61.2.2.1, oA (rList Rimpl_Edge) v64 x61.2.2.2, bA b49 [(.int .i64 a0.1), (.int .i64 a0.2.1), v33, v35] 25] w94 at H
   refine lx_nil (thenN ?_)
   refine wp_seq (region_plain ?_)
   refine lq p1 S (q_move rfl) fun a S => ?_
   obtain ⟨x97, e98, hm⟩ := bind_some hm
   refine lx_call (xs := [.tmp 35]) S trivial (by decide) rfl rfl Tryz.call27 ((laws_toInt64S_ok (H.arg h1) e98).mono ?_)
   rintro e w95 ⟨v99, rfl, Hc96⟩
   have H := H.call1 Hc96
   refine ⟨_, rfl, trivial, fun a S => ?_⟩
   refine lq v99 S (q_assign rfl) fun a S => ?_
   refine lx_nil (thenN ?_)
   refine wp_seq (region_plain ?_)
   refine lx_e (.agg #[(.int .i64 x84.1), (.int .i64 x84.2.1), v86, v87]) S trivial (by decide) rfl trivial (q_loadA (cs := [(.int .i64 x84.1), (.int .i64 x84.2.1), v86, v87]) rfl (isP_bp _) Tryz.isAgg30 Tryz.sizeOf30 (by rintro _ rfl; exact (fun j u hu => boxAt (i := 1) H rfl hu))) (fun a S => ?_)
   refine lq v99 S (q_move rfl) fun a S => ?_
   obtain ⟨x104, e105, hm⟩ := bind_some hm
   refine lx_call (xs := [.tmp 38, .tmp 39]) S trivial (by decide) rfl rfl Tryz.call65 ((impl_InternalClosure_ok (hG.ext H.ext) ⟨[(.int .i64 x84.1), (.int .i64 x84.2.1), v86, v87], rfl, ⟨[(.int .i64 x84.1)], [(.int .i64 x84.2.1), v86, v87], rfl, rfl, ⟨[(.int .i64 x84.2.1)], [v86, v87], rfl, rfl, ⟨[v86], [v87], rfl, ((H.rdAt 2 rfl)).list_rd, ((H.rdAt 3 rfl)).list_rd⟩⟩⟩⟩ (H.rdAt 0 rfl) e105).mono ?_)
   rintro e w102 ⟨v106, rfl, Hc103⟩
   have H := H.call1 Hc103
   refine ⟨_, rfl, trivial, fun a S => ?_⟩
   refine lq (.tuple #[v106, (.int .i64 x104.2)]) S (q_move rfl) fun a S => ?_
   refine lq v106 S (q_extract rfl rfl) fun a S => ?_
   refine lq (.int .i64 x104.2) S (q_extract rfl rfl) fun a S => ?_
   refine lq v106 S (q_assign rfl) fun a S => ?_
   refine lq (.int .i64 x104.2) S (q_assign rfl) fun a S => ?_
   refine lx_nil (thenN ?_)
   refine wp_seq (wp_seq (region_plain ?_))
   refine lq v106 S (q_move rfl) fun a S => ?_
   refine lq v79 S (q_move rfl) fun a S => ?_
   obtain ⟨x111, e112, hm⟩ := bind_some hm
   refine lx_call (xs := [.tmp 43, .tmp 44]) S trivial (by decide) rfl rfl Tryz.call29 ((laws_eqInt64S_ok (H.rdAt 0 rfl) (H.rdAt 5 rfl) e112).mono ?_)
   rintro e w109 ⟨rfl, Hc110⟩
   have H := H.call0 Hc110
   refine ⟨_, rfl, trivial, fun a S => ?_⟩
   refine lq (.bool (!x111)) S (q_not rfl) fun a S => ?_
   refine lq (.bool (!x111)) S (q_move rfl) fun a S => ?_
   obtain ⟨t114, e115, hm⟩ := bind_some hm
   refine lx_cut 4 (fun a w => Slots a 117 [(1, p1), (2, (bp b49)), (6, v79), (7, (.int .i64 x77.2)), (8, (bp b91)), (9, v99), (10, v106), (11, (.int .i64 x104.2)), (51, (.bool t114))] ∧ Heap w0 [oA (rList (rInt .i64)) v106 x104.1, oA (rList (rInt .i64)) v99 x97, bA b91 [(.int .i64 x84.1), (.int .i64 x84.2.1), v86, v87] 30, oA (rList rStr) v86 x84.2.2.1, oA (rList Rimpl_Edge) v87 x84.2.2.2, oA (rList (rInt .i64)) v79 x77.1, bA b49 [(.int .i64 a0.1), (.int .i64 a0.2.1), v33, v35] 25] w) ?_ ?_
   ·by_cases hc116 : (!x111) = true
    ·have hm := ite_t hc116 e115
     refine lx_skip S rfl rfl (isB_ne hc116) (by decide) (fun a S => ?_)
     refine lx_skip S rfl rfl (isB_ne hc116) (by decide) (fun a S => ?_)
     refine lx_skip S rfl rfl (isB_ne hc116) (by decide) (fun a S => ?_)
     refine lq (.bool true) S (q_pickT' rfl hc116 rfl) fun a S => ?_
     refine lx_nil ?_
     obtain rfl := Option.some.inj hm
     have H := H.sel [0, 1, 2, 3, 4, 5, 9] (by decide)
     exact ⟨S.sub ⟨rfl, rfl, rfl, rfl, rfl, rfl, rfl, rfl, rfl, trivial⟩, H⟩
    ·have hm := ite_f (eq_false_of_ne_true hc116) e115
     have hc116 : (!x111) = false := eq_false_of_ne_true hc116
     refine lx_q (.int .i64 x104.2) S (want_b rfl rfl hc116) (by decide) (q_move rfl) (fun a S => ?_)
     refine lx_q (.int .i64 x77.2) S (want_b rfl rfl hc116) (by decide) (q_move rfl) (fun a S => ?_)
     refine lx_q (.bool (x104.2 != x77.2)) S (want_b rfl rfl hc116) (by decide) (q_neq rfl rfl) (fun a S => ?_)
     refine lq (.bool (x104.2 != x77.2)) S (q_pickF' rfl hc116 rfl) fun a S => ?_
     refine lx_nil ?_
     obtain rfl := Option.some.inj hm
     have H := H.sel [0, 1, 2, 3, 4, 5, 9] (by decide)
     exact ⟨S.sub ⟨rfl, rfl, rfl, rfl, rfl, rfl, rfl, rfl, rfl, trivial⟩, H⟩
   ·rintro a w ⟨S, H⟩
    refine lx_nil (thenN ?_)
    refine cond_b S rfl (fun hc117 => ?_) (fun hc117 => ?_)
    ·have hm := ite_t hc117 hm
     refine wp_seq (region_plain ?_)
     refine lq (.bool false) S (q_assign rfl) fun a S => ?_
     refine lx_nil (thenN ?_)
     refine wp_ret (then_ret ?_)
     obtain rfl := Option.some.inj hm
     have H : Heap w0 [] w := H.sel [] (by decide)
     exact leave1 S rfl rfl ⟨rfl, H⟩
    ·have hm := ite_f hc117 hm
     refine wp_skip (thenN ?_)
     refine wp_seq ?_
     refine wp_seq ?_
     refine region_drawG (fun w1 => Heap w0 [bA b91 [(.int .i64 x84.1), (.int .i64 x84.2.1), v86, v87] 30, bA b49 [(.int .i64 a0.1), (.int .i64 a0.2.1), v33, v35] 25] w1) (fun i => [2, 3].contains i) mixed (by kernel_rfl) (fun w119 he118 => ?_)
     have H := H.later he118
     refine ⟨H.sel [2, 6] (by decide), ?_⟩
     refine lq (.agg #[(.int .i64 x84.1), (.int .i64 x84.2.1), v86, v87]) S (q_loadA (cs := [(.int .i64 x84.1), (.int .i64 x84.2.1), v86, v87]) rfl (isP_bp _) Tryz.isAgg30 Tryz.sizeOf30 (fun w1 hC => (fun j u hu => boxAt (i := 0) hC rfl hu))) fun a S => ?_
     refine lq (.agg #[(.int .i64 a0.1), (.int .i64 a0.2.1), v33, v35]) S (q_loadA (cs := [(.int .i64 a0.1), (.int .i64 a0.2.1), v33, v35]) rfl (isP_bp _) Tryz.isAgg25 Tryz.sizeOf25 (fun w1 hC => (fun j u hu => boxAt (i := 1) hC rfl hu))) fun a S => ?_
     obtain ⟨x122, e123, hm⟩ := bind_some hm
     refine lx_call (xs := [.tmp 53]) S trivial (by decide) rfl rfl Tryz.call21 ((laws_toLts_ok ⟨[(.int .i64 a0.1), (.int .i64 a0.2.1), v33, v35], rfl, ⟨[(.int .i64 a0.1)], [(.int .i64 a0.2.1), v33, v35], rfl, rfl, ⟨[(.int .i64 a0.2.1)], [v33, v35], rfl, rfl, ⟨[v33], [v35], rfl, ((H.arg h34)).list_rd, ((H.arg h36)).list_rd⟩⟩⟩⟩ e123).mono ?_)
     rintro e w120 ⟨v124, v125, rfl, Hc121⟩
     have H := H.call2 Hc121
     refine ⟨_, rfl, H.sel [4, 8] (by decide), fun a S => ?_⟩
     obtain ⟨x131, e132, hm⟩ := bind_some hm
     refine lx_call (xs := [.tmp 52, .tmp 54]) S trivial (by decide) rfl rfl Tryz.call23 ((laws_eqLts_ok ⟨[(.int .i64 x84.1), (.int .i64 x84.2.1), v86, v87], rfl, ⟨[(.int .i64 x84.1)], [(.int .i64 x84.2.1), v86, v87], rfl, rfl, ⟨[(.int .i64 x84.2.1)], [v86, v87], rfl, rfl, ⟨[v86], [v87], rfl, ((H.rdAt 5 rfl)).list_rd, ((H.rdAt 6 rfl)).list_rd⟩⟩⟩⟩ ⟨[(.int .i64 x122.1), (.int .i64 x122.2.1), v124, v125], rfl, ⟨[(.int .i64 x122.1)], [(.int .i64 x122.2.1), v124, v125], rfl, rfl, ⟨[(.int .i64 x122.2.1)], [v124, v125], rfl, rfl, ⟨[v124], [v125], rfl, ((H.rdAt 0 rfl)).list_rd, ((H.rdAt 1 rfl)).list_rd⟩⟩⟩⟩ e132).mono ?_)
     rintro e w129 ⟨rfl, Hc130⟩
     have H := H.call0 Hc130
     refine ⟨_, rfl, H.sel [4, 8] (by decide), fun a S => ?_⟩
     refine lq (.bool (!x131)) S (q_not rfl) fun a S => ?_
     refine lx_nil (thenN ?_)
     refine cond_b S rfl (fun hc134 => ?_) (fun hc134 => ?_)
     ·have hm := ite_t hc134 hm
      refine wp_seq (region_plain ?_)
      refine lq (.bool false) S (q_assign rfl) fun a S => ?_
      refine lx_nil (thenN ?_)
      refine wp_ret (then_ret ?_)
      obtain rfl := Option.some.inj hm
      have H : Heap w0 [] w129 := H.sel [] (by decide)
      exact leave1 S rfl rfl ⟨rfl, H⟩
     ·have hm := ite_f hc134 hm
      refine wp_skip (thenN ?_)
      refine wp_seq (wp_seq (region_plain ?_))
      refine lq v99 S (q_move rfl) fun a S => ?_
      refine lq p1 S (q_move rfl) fun a S => ?_
      obtain ⟨x137, e138, hm⟩ := bind_some hm
      refine lx_call (xs := [.tmp 58]) S trivial (by decide) rfl rfl Tryz.call27 ((laws_toInt64S_ok (H.arg h1) e138).mono ?_)
      rintro e w135 ⟨v139, rfl, Hc136⟩
      have H := H.call1 Hc136
      refine ⟨_, rfl, trivial, fun a S => ?_⟩
      obtain ⟨x144, e145, hm⟩ := bind_some hm
      refine lx_call (xs := [.tmp 57, .tmp 59]) S trivial (by decide) rfl rfl Tryz.call29 ((laws_eqInt64S_ok (H.rdAt 4 rfl) (H.rdAt 0 rfl) e145).mono ?_)
      rintro e w142 ⟨rfl, Hc143⟩
      have H := H.call0 Hc143
      refine ⟨_, rfl, trivial, fun a S => ?_⟩
      refine lq (.bool (!x144)) S (q_not rfl) fun a S => ?_
      refine lx_nil (thenN ?_)
      refine cond_b S rfl (fun hc147 => ?_) (fun hc147 => ?_)
      ·have hm := ite_t hc147 hm
       refine wp_seq (region_plain ?_)
       refine lq (.bool false) S (q_assign rfl) fun a S => ?_
       refine lx_nil (thenN ?_)
       refine wp_ret (then_ret ?_)
       obtain rfl := Option.some.inj hm
       have H : Heap w0 [] w142 := H.sel [] (by decide)
       exact leave1 S rfl rfl ⟨rfl, H⟩
      ·have hm := ite_f hc147 hm
       refine wp_skip (thenN ?_)
       refine wp_seq (region_plain ?_)
       refine lq (.int .i64 (1 : Int)) S (q_assign rfl) fun a S => ?_
       refine lx_nil (thenN ?_)
       refine wp_seq (region_plain ?_)
       refine lx_e (.agg #[(.int .i64 x84.1), (.int .i64 x84.2.1), v86, v87]) S trivial (by decide) rfl trivial (q_loadA (cs := [(.int .i64 x84.1), (.int .i64 x84.2.1), v86, v87]) rfl (isP_bp _) Tryz.isAgg30 Tryz.sizeOf30 (by rintro _ rfl; exact (fun j u hu => boxAt (i := 5) H rfl hu))) (fun a S => ?_)
       refine lq (.int .i64 (1 : Int)) S (q_move rfl) fun a S => ?_
       obtain ⟨x150, e151, hm⟩ := bind_some hm
       have H : Heap w0 [oA (rList Rimpl_Edge) v87 x84.2.2.2, oA (rList (rInt .i64)) v139 x137, oA (rList rStr) v124 x122.2.2.1, oA (rList Rimpl_Edge) v125 x122.2.2.2, oA (rList (rInt .i64)) v106 x104.1, oA (rList (rInt .i64)) v99 x97, bA b91 [(.int .i64 x84.1), (.int .i64 x84.2.1), v86, v87] 30, oA (rList rStr) v86 x84.2.2.1, oA (rList (rInt .i64)) v79 x77.1, bA b49 [(.int .i64 a0.1), (.int .i64 a0.2.1), v33, v35] 25] w142 := H.front 7 rfl
       have H : Heap w0 [oA (rList rStr) v86 x84.2.2.1, oA (rList Rimpl_Edge) v87 x84.2.2.2, oA (rList (rInt .i64)) v139 x137, oA (rList rStr) v124 x122.2.2.1, oA (rList Rimpl_Edge) v125 x122.2.2.2, oA (rList (rInt .i64)) v106 x104.1, oA (rList (rInt .i64)) v99 x97, bA b91 [(.int .i64 x84.1), (.int .i64 x84.2.1), v86, v87] 30, oA (rList (rInt .i64)) v79 x77.1, bA b49 [(.int .i64 a0.1), (.int .i64 a0.2.1), v33, v35] 25] w142 := H.front 7 rfl
       refine lx_call (xs := [.tmp 62, .tmp 63]) S trivial (by decide) rfl rfl Tryz.call33 ((laws_markLts_ok H  e151).mono ?_)
       rintro e w148 ⟨rfl, H⟩
       refine ⟨_, rfl, trivial, fun a S => ?_⟩
       refine lq (.int .i64 x150.1) S (q_assign rfl) fun a S => ?_
       refine lx_nil (thenN ?_)
       refine wp_seq (region_plain ?_)
       refine lq v99 S (q_move rfl) fun a S => ?_
       refine lq (.int .i64 x150.1) S (q_move rfl) fun a S => ?_
       obtain ⟨x154, e155, hm⟩ := bind_some hm
       have H : Heap w0 [oA (rList (rInt .i64)) v99 x97, oA (rList rStr) v86 x150.2.1, oA (rList Rimpl_Edge) v87 x150.2.2, oA (rList (rInt .i64)) v139 x137, oA (rList rStr) v124 x122.2.2.1, oA (rList Rimpl_Edge) v125 x122.2.2.2, oA (rList (rInt .i64)) v106 x104.1, bA b91 [(.int .i64 x84.1), (.int .i64 x84.2.1), v86, v87] 30, oA (rList (rInt .i64)) v79 x77.1, bA b49 [(.int .i64 a0.1), (.int .i64 a0.2.1), v33, v35] 25] w148 := H.front 6 rfl
       refine lx_call (xs := [.tmp 65, .tmp 66]) S trivial (by decide) rfl rfl Tryz.call39 ((laws_markInt64S_ok H  e155).mono ?_)
       rintro e w152 ⟨rfl, H⟩
       refine ⟨_, rfl, trivial, fun a S => ?_⟩
       refine lq (.int .i64 x154.1) S (q_assign rfl) fun a S => ?_
       refine lx_nil (thenN ?_)
       refine wp_seq (wp_seq (region_plain ?_))
       refine lq (.int .i64 x154.1) S (q_move rfl) fun a S => ?_
       refine lq (.bool (decide (x154.1 < (0 : Int)))) S (q_lss rfl rfl) fun a S => ?_
       refine lq (.bool (decide (x154.1 < (0 : Int)))) S (q_move rfl) fun a S => ?_
       obtain ⟨t156, e157, hm⟩ := bind_some hm
       refine lx_cut 5 (fun a w => Slots a 117 [(1, p1), (2, (bp b49)), (6, v79), (7, (.int .i64 x77.2)), (10, v106), (11, (.int .i64 x104.2)), (75, (.bool t156))] ∧ Heap w0 [oA (rList (rInt .i64)) v106 x104.1, oA (rList (rInt .i64)) v79 x77.1, bA b49 [(.int .i64 a0.1), (.int .i64 a0.2.1), v33, v35] 25] w) ?_ ?_
       ·by_cases hc158 : (decide (x154.1 < (0 : Int))) = true
        ·have hm := ite_t hc158 e157
         refine lx_skip S rfl rfl (isB_ne hc158) (by decide) (fun a S => ?_)
         refine lx_skip S rfl rfl (isB_ne hc158) (by decide) (fun a S => ?_)
         refine lx_skip S rfl rfl (isB_ne hc158) (by decide) (fun a S => ?_)
         refine lx_skip S rfl rfl (isB_ne hc158) (by decide) (fun a S => ?_)
         refine lq (.bool true) S (q_pickT' rfl hc158 rfl) fun a S => ?_
         refine lx_nil ?_
         obtain rfl := Option.some.inj hm
         have H := H.sel [6, 8, 9] (by decide)
         exact ⟨S.sub ⟨rfl, rfl, rfl, rfl, rfl, rfl, rfl, trivial⟩, H⟩
        ·have hm := ite_f (eq_false_of_ne_true hc158) e157
         have hc158 : (decide (x154.1 < (0 : Int))) = false := eq_false_of_ne_true hc158
         refine lx_q v106 S (want_b rfl rfl hc158) (by decide) (q_move rfl) (fun a S => ?_)
         refine lx_q v79 S (want_b rfl rfl hc158) (by decide) (q_move rfl) (fun a S => ?_)
         obtain ⟨x161, e162, hm⟩ := bind_some hm
         refine lx_call (xs := [.tmp 71, .tmp 72]) S (want_b rfl rfl hc158) (by decide) rfl rfl Tryz.call29 ((laws_eqInt64S_ok (H.rdAt 6 rfl) (H.rdAt 8 rfl) e162).mono ?_)
         rintro e w159 ⟨rfl, Hc160⟩
         have H := H.call0 Hc160
         refine ⟨_, rfl, trivial, fun a S => ?_⟩
         refine lx_q (.bool (!x161)) S (want_b rfl rfl hc158) (by decide) (q_not rfl) (fun a S => ?_)
         refine lq (.bool (!x161)) S (q_pickF' rfl hc158 rfl) fun a S => ?_
         refine lx_nil ?_
         obtain rfl := Option.some.inj hm
         have H := H.sel [6, 8, 9] (by decide)
         exact ⟨S.sub ⟨rfl, rfl, rfl, rfl, rfl, rfl, rfl, trivial⟩, H⟩
       ·rintro a w ⟨S, H⟩
        refine lq (.bool t156) S (q_move rfl) fun a S => ?_
        obtain ⟨t164, e165, hm⟩ := bind_some hm
        refine lx_cut 4 (fun a w => Slots a 117 [(1, p1), (2, (bp b49)), (6, v79), (7, (.int .i64 x77.2)), (10, v106), (80, (.bool t164))] ∧ Heap w0 [oA (rList (rInt .i64)) v106 x104.1, oA (rList (rInt .i64)) v79 x77.1, bA b49 [(.int .i64 a0.1), (.int .i64 a0.2.1), v33, v35] 25] w) ?_ ?_
        ·by_cases hc166 : t156 = true
         ·have hm := ite_t hc166 e165
          refine lx_skip S rfl rfl (isB_ne hc166) (by decide) (fun a S => ?_)
          refine lx_skip S rfl rfl (isB_ne hc166) (by decide) (fun a S => ?_)
          refine lx_skip S rfl rfl (isB_ne hc166) (by decide) (fun a S => ?_)
          refine lq (.bool true) S (q_pickT' rfl hc166 rfl) fun a S => ?_
          refine lx_nil ?_
          obtain rfl := Option.some.inj hm
          exact ⟨S.sub ⟨rfl, rfl, rfl, rfl, rfl, rfl, trivial⟩, H⟩
         ·have hm := ite_f (eq_false_of_ne_true hc166) e165
          have hc166 : t156 = false := eq_false_of_ne_true hc166
          refine lx_q (.int .i64 x104.2) S (want_b rfl rfl hc166) (by decide) (q_move rfl) (fun a S => ?_)
          refine lx_q (.int .i64 x77.2) S (want_b rfl rfl hc166) (by decide) (q_move rfl) (fun a S => ?_)
          refine lx_q (.bool (x104.2 != x77.2)) S (want_b rfl rfl hc166) (by decide) (q_neq rfl rfl) (fun a S => ?_)
          refine lq (.bool (x104.2 != x77.2)) S (q_pickF' rfl hc166 rfl) fun a S => ?_
          refine lx_nil ?_
          obtain rfl := Option.some.inj hm
          exact ⟨S.sub ⟨rfl, rfl, rfl, rfl, rfl, rfl, trivial⟩, H⟩
        ·rintro a w ⟨S, H⟩
         refine lx_nil (thenN ?_)
         refine cond_b S rfl (fun hc167 => ?_) (fun hc167 => ?_)
         ·have hm := ite_t hc167 hm
          refine wp_seq (region_plain ?_)
          refine lq (.bool false) S (q_assign rfl) fun a S => ?_
          refine lx_nil (thenN ?_)
          refine wp_ret (then_ret ?_)
          obtain rfl := Option.some.inj hm
          have H : Heap w0 [] w := H.sel [] (by decide)
          exact leave1 S rfl rfl ⟨rfl, H⟩
         ·have hm := ite_f hc167 hm
          refine wp_skip (thenN ?_)
          refine wp_seq (region_plain ?_)
          refine lq (.int .i64 (1 : Int)) S (q_assign rfl) fun a S => ?_
          refine lx_nil (thenN ?_)
          refine wp_seq (region_plain ?_)
          refine lq v106 S (q_move rfl) fun a S => ?_
          refine lq (.int .i64 (1 : Int)) S (q_move rfl) fun a S => ?_
          obtain ⟨x170, e171, hm⟩ := bind_some hm
          refine lx_call (xs := [.tmp 81, .tmp 82]) S trivial (by decide) rfl rfl Tryz.call39 ((laws_markInt64S_ok H  e171).mono ?_)
          rintro e w168 ⟨rfl, H⟩
          refine ⟨_, rfl, trivial, fun a S => ?_⟩
          refine lq (.int .i64 x170.1) S (q_assign rfl) fun a S => ?_
          refine lx_nil (thenN ?_)
          refine wp_seq (region_plain ?_)
          refine lq (.int .i64 (1 : Int)) S (q_assign rfl) fun a S => ?_
          refine lx_nil (thenN ?_)
          refine wp_seq (region_plain ?_)
          refine lq v106 S (q_move rfl) fun a S => ?_
          refine lq (.int .i64 (1 : Int)) S (q_move rfl) fun a S => ?_
          obtain ⟨x174, e175, hm⟩ := bind_some hm
          refine lx_call (xs := [.tmp 84, .tmp 85]) S trivial (by decide) rfl rfl Tryz.call44 ((laws_heldInt64S_ok (H.rdAt 0 rfl)  e175).mono ?_)
          rintro e w172 ⟨rfl, Hc173⟩
          have H := H.call0 Hc173
          refine ⟨_, rfl, trivial, fun a S => ?_⟩
          refine lq (.int .i64 x174) S (q_assign rfl) fun a S => ?_
          refine lx_nil (thenN ?_)
          refine wp_seq (wp_seq (region_plain ?_))
          refine lq (.int .i64 x174) S (q_move rfl) fun a S => ?_
          refine lq (.bool (decide (x174 < (0 : Int)))) S (q_lss rfl rfl) fun a S => ?_
          refine lx_nil (thenN ?_)
          refine cond_b S rfl (fun hc177 => ?_) (fun hc177 => ?_)
          ·have hm := ite_t hc177 hm
           refine wp_seq (region_plain ?_)
           refine lq (.bool false) S (q_assign rfl) fun a S => ?_
           refine lx_nil (thenN ?_)
           refine wp_ret (then_ret ?_)
           obtain rfl := Option.some.inj hm
           have H : Heap w0 [] w172 := H.sel [] (by decide)
           exact leave1 S rfl rfl ⟨rfl, H⟩
          ·have hm := ite_f hc177 hm
           refine wp_skip (thenN ?_)
           refine wp_seq (wp_seq (region_plain ?_))
           refine lq (.int .i64 x174) S (q_move rfl) fun a S => ?_
           refine lq (.int .i64 x170.1) S (q_move rfl) fun a S => ?_
           refine lq (.bool (x174 != x170.1)) S (q_neq rfl rfl) fun a S => ?_
           refine lx_nil (thenN ?_)
           refine cond_b S rfl (fun hc178 => ?_) (fun hc178 => ?_)
           ·have hm := ite_t hc178 hm
            refine wp_seq (region_plain ?_)
            refine lq (.bool false) S (q_assign rfl) fun a S => ?_
            refine lx_nil (thenN ?_)
            refine wp_ret (then_ret ?_)
            obtain rfl := Option.some.inj hm
            have H : Heap w0 [] w172 := H.sel [] (by decide)
            exact leave1 S rfl rfl ⟨rfl, H⟩
           ·have hm := ite_f hc178 hm
            refine wp_skip (thenN ?_)
            refine wp_seq (region_plain ?_)
            refine lx_e (.agg #[(.int .i64 a0.1), (.int .i64 a0.2.1), v33, v35]) S trivial (by decide) rfl trivial (q_loadA (cs := [(.int .i64 a0.1), (.int .i64 a0.2.1), v33, v35]) rfl (isP_bp _) Tryz.isAgg25 Tryz.sizeOf25 (by rintro _ rfl; exact (fun j u hu => boxAt (i := 2) H rfl hu))) (fun a S => ?_)
            obtain ⟨x181, e182, hm⟩ := bind_some hm
            refine lx_call (xs := [.tmp 93]) S trivial (by decide) rfl rfl Tryz.call21 ((laws_toLts_ok ⟨[(.int .i64 a0.1), (.int .i64 a0.2.1), v33, v35], rfl, ⟨[(.int .i64 a0.1)], [(.int .i64 a0.2.1), v33, v35], rfl, rfl, ⟨[(.int .i64 a0.2.1)], [v33, v35], rfl, rfl, ⟨[v33], [v35], rfl, ((H.arg h34)).list_rd, ((H.arg h36)).list_rd⟩⟩⟩⟩ e182).mono ?_)
            rintro e w179 ⟨v183, v184, rfl, Hc180⟩
            have H := H.call2 Hc180
            refine ⟨_, rfl, trivial, fun a S => ?_⟩
            refine lq p1 S (q_move rfl) fun a S => ?_
            obtain ⟨x190, e191, hm⟩ := bind_some hm
            refine lx_call (xs := [.tmp 95]) S trivial (by decide) rfl rfl Tryz.call27 ((laws_toInt64S_ok (H.arg h1) e191).mono ?_)
            rintro e w188 ⟨v192, rfl, Hc189⟩
            have H := H.call1 Hc189
            refine ⟨_, rfl, trivial, fun a S => ?_⟩
            obtain ⟨x197, e198, hm⟩ := bind_some hm
            refine lx_call (xs := [.tmp 94, .tmp 96]) S trivial (by decide) rfl rfl Tryz.call65 ((impl_InternalClosure_ok (hG.ext H.ext) ⟨[(.int .i64 x181.1), (.int .i64 x181.2.1), v183, v184], rfl, ⟨[(.int .i64 x181.1)], [(.int .i64 x181.2.1), v183, v184], rfl, rfl, ⟨[(.int .i64 x181.2.1)], [v183, v184], rfl, rfl, ⟨[v183], [v184], rfl, ((H.rdAt 1 rfl)).list_rd, ((H.rdAt 2 rfl)).list_rd⟩⟩⟩⟩ (H.rdAt 0 rfl) e198).mono ?_)
            rintro e w195 ⟨v199, rfl, Hc196⟩
            have H := H.call1 Hc196
            refine ⟨_, rfl, trivial, fun a S => ?_⟩
            refine lq (.tuple #[v199, (.int .i64 x197.2)]) S (q_move rfl) fun a S => ?_
            refine lq v199 S (q_extract rfl rfl) fun a S => ?_
            refine lq (.int .i64 x197.2) S (q_extract rfl rfl) fun a S => ?_
            refine lq v199 S (q_assign rfl) fun a S => ?_
            refine lq (.int .i64 x197.2) S (q_assign rfl) fun a S => ?_
            refine lx_nil (thenN ?_)
            refine wp_seq (wp_seq (region_plain ?_))
            refine lq v199 S (q_move rfl) fun a S => ?_
            refine lq v79 S (q_move rfl) fun a S => ?_
            obtain ⟨x204, e205, hm⟩ := bind_some hm
            refine lx_call (xs := [.tmp 100, .tmp 101]) S trivial (by decide) rfl rfl Tryz.call29 ((laws_eqInt64S_ok (H.rdAt 0 rfl) (H.rdAt 5 rfl) e205).mono ?_)
            rintro e w202 ⟨rfl, Hc203⟩
            have H := H.call0 Hc203
            refine ⟨_, rfl, trivial, fun a S => ?_⟩
            refine lq (.bool (!x204)) S (q_not rfl) fun a S => ?_
            refine lq (.bool (!x204)) S (q_move rfl) fun a S => ?_
            obtain ⟨t207, e208, hm⟩ := bind_some hm
            refine lx_cut 4 (fun a w => Slots a 117 [(10, v106), (13, (.int .i64 x170.1)), (108, (.bool t207))] ∧ Heap w0 [oA (rList (rInt .i64)) v106 x170.2] w) ?_ ?_
            ·by_cases hc209 : (!x204) = true
             ·have hm := ite_t hc209 e208
              refine lx_skip S rfl rfl (isB_ne hc209) (by decide) (fun a S => ?_)
              refine lx_skip S rfl rfl (isB_ne hc209) (by decide) (fun a S => ?_)
              refine lx_skip S rfl rfl (isB_ne hc209) (by decide) (fun a S => ?_)
              refine lq (.bool true) S (q_pickT' rfl hc209 rfl) fun a S => ?_
              refine lx_nil ?_
              obtain rfl := Option.some.inj hm
              have H := H.sel [4] (by decide)
              exact ⟨S.sub ⟨rfl, rfl, rfl, trivial⟩, H⟩
             ·have hm := ite_f (eq_false_of_ne_true hc209) e208
              have hc209 : (!x204) = false := eq_false_of_ne_true hc209
              refine lx_q (.int .i64 x197.2) S (want_b rfl rfl hc209) (by decide) (q_move rfl) (fun a S => ?_)
              refine lx_q (.int .i64 x77.2) S (want_b rfl rfl hc209) (by decide) (q_move rfl) (fun a S => ?_)
              refine lx_q (.bool (x197.2 != x77.2)) S (want_b rfl rfl hc209) (by decide) (q_neq rfl rfl) (fun a S => ?_)
              refine lq (.bool (x197.2 != x77.2)) S (q_pickF' rfl hc209 rfl) fun a S => ?_
              refine lx_nil ?_
              obtain rfl := Option.some.inj hm
              have H := H.sel [4] (by decide)
              exact ⟨S.sub ⟨rfl, rfl, rfl, trivial⟩, H⟩
            ·rintro a w ⟨S, H⟩
             refine lx_nil (thenN ?_)
             refine cond_b S rfl (fun hc210 => ?_) (fun hc210 => ?_)
             ·have hm := ite_t hc210 hm
              refine wp_seq (region_plain ?_)
              refine lq (.bool false) S (q_assign rfl) fun a S => ?_
              refine lx_nil (thenN ?_)
              refine wp_ret (then_ret ?_)
              obtain rfl := Option.some.inj hm
              have H : Heap w0 [] w := H.sel [] (by decide)
              exact leave1 S rfl rfl ⟨rfl, H⟩
             ·have hm := ite_f hc210 hm
              refine wp_skip (thenN ?_)
              refine wp_seq (region_plain ?_)
              refine lq (.int .i64 (1 : Int)) S (q_assign rfl) fun a S => ?_
              refine lx_nil (thenN ?_)
              refine wp_seq (region_plain ?_)
              refine lq v106 S (q_move rfl) fun a S => ?_
              refine lq (.int .i64 (1 : Int)) S (q_move rfl) fun a S => ?_
              obtain ⟨x213, e214, hm⟩ := bind_some hm
              refine lx_call (xs := [.tmp 109, .tmp 110]) S trivial (by decide) rfl rfl Tryz.call44 ((laws_heldInt64S_ok (H.rdAt 0 rfl)  e214).mono ?_)
              rintro e w211 ⟨rfl, Hc212⟩
              have H := H.call0 Hc212
              refine ⟨_, rfl, trivial, fun a S => ?_⟩
              refine lq (.int .i64 x213) S (q_assign rfl) fun a S => ?_
              refine lx_nil (thenN ?_)
              refine wp_seq (wp_seq (region_plain ?_))
              refine lq (.int .i64 x213) S (q_move rfl) fun a S => ?_
              refine lq (.bool (decide (x213 < (0 : Int)))) S (q_lss rfl rfl) fun a S => ?_
              refine lx_nil (thenN ?_)
              refine cond_b S rfl (fun hc216 => ?_) (fun hc216 => ?_)
              ·have hm := ite_t hc216 hm
               refine wp_seq (region_plain ?_)
               refine lq (.bool false) S (q_assign rfl) fun a S => ?_
               refine lx_nil (thenN ?_)
               refine wp_ret (then_ret ?_)
               obtain rfl := Option.some.inj hm
               have H : Heap w0 [] w211 := H.sel [] (by decide)
               exact leave1 S rfl rfl ⟨rfl, H⟩
              ·have hm := ite_f hc216 hm
               refine wp_skip (thenN ?_)
               refine wp_seq (wp_seq (region_plain ?_))
               refine lq (.int .i64 x213) S (q_move rfl) fun a S => ?_
               refine lq (.int .i64 x170.1) S (q_move rfl) fun a S => ?_
               refine lq (.bool (x213 != x170.1)) S (q_neq rfl rfl) fun a S => ?_
               refine lx_nil (thenN ?_)
               refine cond_b S rfl (fun hc217 => ?_) (fun hc217 => ?_)
               ·have hm := ite_t hc217 hm
                refine wp_seq (region_plain ?_)
                refine lq (.bool false) S (q_assign rfl) fun a S => ?_
                refine lx_nil (thenN ?_)
                refine wp_ret (then_ret ?_)
                obtain rfl := Option.some.inj hm
                have H : Heap w0 [] w211 := H.sel [] (by decide)
                exact leave1 S rfl rfl ⟨rfl, H⟩
               ·have hm := ite_f hc217 hm
                refine wp_skip (thenN ?_)
                refine wp_seq (region_plain ?_)
                refine lq (.bool true) S (q_assign rfl) fun a S => ?_
                refine lx_nil (thenN ?_)
                refine wp_ret ?_
                obtain rfl := Option.some.inj hm
                have H : Heap w0 [] w211 := H.sel [] (by decide)
                exact leave1 S rfl rfl ⟨rfl, H⟩
end Go.Proofs.YtkgkfbmcnchdbaaGreatDoor
