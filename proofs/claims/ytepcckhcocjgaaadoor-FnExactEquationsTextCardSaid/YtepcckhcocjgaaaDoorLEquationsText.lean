/- The model of a statement and its walk (printed by a program of this repo). -/
import Derived.Test.YtepcckhcocjgaaaDoorF0
import Derived.Test.YtepcckhcocjgaaaDoorF1
import Derived.Test.YtepcckhcocjgaaaDoorF2
import Derived.Test.YtepcckhcocjgaaaDoorFS
import Derived.Test.YtepcckhcocjgaaaDoorGxT
import Derived.Test.YtepcckhcocjgaaaDoorGxY
namespace Go.Proofs.YtepcckhcocjgaaaDoor
open Go.RowKit Go.Gx

/-- laws.szEquation -/
def laws_szEquation_m (fuel : Nat) (a0 : Tlaws_Equation) (a1 : Int) : Option (Int) :=
  (laws_szInt64S_m fuel a0.2.2 a1).bind fun x48 => (if (decide (x48 < (0 : Int))) = true then some ((-1 : Int)) else some (x48))
set_option maxRecDepth 20000 in
theorem laws_szEquation_ok {w0 : World} {fuel : Nat} {p0 : Value} {a0 : Tlaws_Equation} {a1 : Int} {r : Int} (h0 : Rd Rlaws_Equation w0 p0 a0) (hm : laws_szEquation_m fuel a0 a1 = some r) :
  Calls Tryd.prog 30 #[p0, .int .i64 a1] w0 fun e w => e = .returned (.int .i64 r) ∧ Heap w0 [] w := by
 unfold laws_szEquation_m at hm
 have H := Heap.start w0
 obtain ⟨c31, rfl, h32⟩ := h0
 obtain ⟨c35, c36, rfl, h37, h38⟩ := h32
 obtain rfl := h37
 obtain ⟨c39, c40, rfl, h41, h42⟩ := h38
 obtain rfl := h41
 obtain ⟨v33, rfl, h34⟩ := rd_list h42
 refine enter (args := [(.agg #[(.bool a0.1), (.bool a0.2.1), v33]), .int .i64 a1]) Tryd.func30 rfl 12 rfl (Nat.le_of_ble_eq_true rfl) (fun a S => ?_)
 refine wp_seq (region_plain ?_)
 refine lx_box S trivial (by decide) rfl H rfl rfl (fun b43 w44 H => ⟨trivial, fun a S => ?_⟩)
 refine lq (.int .i64 (0 : Int)) S (q_assign rfl) fun a S => ?_
 refine lx_nil (thenN ?_)
 refine wp_seq (region_plain ?_)
 refine lq (pAdd (bp b43) 2) S (q_fieldAddr' 2 48 rfl (isP_bp _) Tryd.underlying57 rfl Tryd.sizeOf48) fun a S => ?_
 refine lx_e v33 S trivial (by decide) rfl trivial (q_load1 rfl Tryd.isAgg48 (by rintro _ rfl; exact (At.of_add (m := 2) (j := 0) (boxAt (i := 0) H rfl (j := 2) rfl)))) (fun a S => ?_)
 refine lq (.int .i64 a1) S (q_move rfl) fun a S => ?_
 obtain ⟨x48, e49, hm⟩ := bind_some hm
 refine lx_call (xs := [.tmp 6, .tmp 7]) S trivial (by decide) rfl rfl Tryd.call45 ((laws_szInt64S_ok (H.arg h34)  e49).mono ?_)
 rintro e w46 ⟨rfl, Hc47⟩
 have H := H.call0 Hc47
 refine ⟨_, rfl, trivial, fun a S => ?_⟩
 refine lq (.int .i64 x48) S (q_assign rfl) fun a S => ?_
 refine lx_nil (thenN ?_)
 refine wp_seq (wp_seq (region_plain ?_))
 refine lq (.int .i64 x48) S (q_move rfl) fun a S => ?_
 refine lq (.bool (decide (x48 < (0 : Int)))) S (q_lss rfl rfl) fun a S => ?_
 refine lx_nil (thenN ?_)
 refine cond_b S rfl (fun hc51 => ?_) (fun hc51 => ?_)
 ·have hm := ite_t hc51 hm
  refine wp_seq (region_plain ?_)
  refine lq (.int .i64 (-1 : Int)) S (q_assign rfl) fun a S => ?_
  refine lx_nil (thenN ?_)
  refine wp_ret (then_ret ?_)
  obtain rfl := Option.some.inj hm
  have H : Heap w0 [] w46 := H.sel [] (by decide)
  exact leave1 S rfl rfl ⟨rfl, H⟩
 ·have hm := ite_f hc51 hm
  refine wp_skip (thenN ?_)
  refine wp_seq (region_plain ?_)
  refine lq (.int .i64 x48) S (q_move rfl) fun a S => ?_
  refine lq (.int .i64 x48) S (q_assign rfl) fun a S => ?_
  refine lx_nil (thenN ?_)
  refine wp_ret ?_
  obtain rfl := Option.some.inj hm
  have H : Heap w0 [] w46 := H.sel [] (by decide)
  exact leave1 S rfl rfl ⟨rfl, H⟩

/-- laws.szEquationS -/
def laws_szEquationS_m (fuel : Nat) (a0 : (List Tlaws_Equation)) (a1 : Int) : Option (Int) :=
  (if (decide ((W (a1 - (a0.length : Int))) < (0 : Int))) = true then some ((-1 : Int)) else (iter (fun (s : (Int) × (Int)) => (match s with | (x56, x57) => (if (decide (x57 < (a0.length : Int))) = true then (idx a0 x57).bind fun x92 => (laws_szEquation_m fuel (x92.1, x92.2.1, x92.2.2) x56).bind fun x109 => (if (decide (x109 < (0 : Int))) = true then some (.inr (.inr (-1 : Int))) else some (.inl (x109, (W (x57 + (1 : Int)))))) else some (.inr (.inl (x56)))) : Option (((Int) × (Int)) ⊕ ((Int) ⊕ (Int))))) fuel ((W (a1 - (a0.length : Int))), (0 : Int))).bind fun res83 => ctl (β := Int) (ρ := Int) (τ := Int) res83 (fun (x82) => some (x82)) (fun q => some (q)))
set_option maxRecDepth 20000 in
theorem laws_szEquationS_ok {w0 : World} {fuel : Nat} {p0 : Value} {a0 : (List Tlaws_Equation)} {a1 : Int} {r : Int} (h0 : Rd (rList Rlaws_Equation) w0 p0 a0) (hm : laws_szEquationS_m fuel a0 a1 = some r) :
  Calls Tryd.prog 11 #[p0, .int .i64 a1] w0 fun e w => e = .returned (.int .i64 r) ∧ Heap w0 [] w := by
 unfold laws_szEquationS_m at hm
 have H := Heap.start w0
 refine enter (args := [p0, .int .i64 a1]) Tryd.func11 rfl 27 rfl (Nat.le_of_ble_eq_true rfl) (fun a S => ?_)
 refine wp_seq (region_plain ?_)
 refine lq (.int .i64 (0 : Int)) S (q_assign rfl) fun a S => ?_
 refine lx_nil (thenN ?_)
 refine wp_seq (region_plain ?_)
 refine lq (.int .i64 a1) S (q_move rfl) fun a S => ?_
 refine lq p0 S (q_move rfl) fun a S => ?_
 refine lq (.int .i64 (a0.length : Int)) S (q_lenSl rfl (h0).isSl rfl Tryd.underlying31) fun a S => ?_
 refine lq (.int .i64 (W (a1 - (a0.length : Int)))) S (q_sub rfl rfl) fun a S => ?_
 refine lq (.int .i64 (W (a1 - (a0.length : Int)))) S (q_assign rfl) fun a S => ?_
 refine lx_nil (thenN ?_)
 refine wp_seq (wp_seq (region_plain ?_))
 refine lq (.int .i64 (W (a1 - (a0.length : Int)))) S (q_move rfl) fun a S => ?_
 refine lq (.bool (decide ((W (a1 - (a0.length : Int))) < (0 : Int)))) S (q_lss rfl rfl) fun a S => ?_
 refine lx_nil (thenN ?_)
 refine cond_b S rfl (fun hc31 => ?_) (fun hc31 => ?_)
 ·have hm := ite_t hc31 hm
  refine wp_seq (region_plain ?_)
  refine lq (.int .i64 (-1 : Int)) S (q_assign rfl) fun a S => ?_
  refine lx_nil (thenN ?_)
  refine wp_ret (then_ret ?_)
  obtain rfl := Option.some.inj hm
  exact leave1 S rfl rfl ⟨rfl, H⟩
 ·have hm := ite_f hc31 hm
  refine wp_skip (thenN ?_)
  refine wp_seq (wp_seq (region_plain ?_))
  refine lq (.int .i64 (0 : Int)) S (q_assign rfl) fun a S => ?_
  refine lx_nil (thenN ?_)
  obtain ⟨res83, hit84, hk87⟩ := bind_some hm
  obtain ⟨f85, hf86, hit84⟩ := iter_name hit84
  refine block_loop (fun a w => ∃ (x82 : Int), Slots a 27 [(1, (.int .i64 x82))] ∧ Heap w0 [] w ∧ res83 = .inl (x82)) ?_ ?_
  ·rintro a w ⟨x82, S, H, rfl⟩
   have hm := ctl_inl hk87
   refine thenN ?_
   refine wp_seq (region_plain ?_)
   refine lq (.int .i64 x82) S (q_move rfl) fun a S => ?_
   refine lq (.int .i64 x82) S (q_assign rfl) fun a S => ?_
   refine lx_nil (thenN ?_)
   refine wp_ret ?_
   obtain rfl := Option.some.inj hm
   exact leave1 S rfl rfl ⟨rfl, H⟩
  ·skip
   refine loop_ghost (fun n a w => ∃ (x56 : Int) (x57 : Int), Slots a 27 [(0, p0), (1, (.int .i64 x56)), (5, (.int .i64 x57))] ∧ Heap w0 [] w ∧ iter f85 n (x56, x57) = some res83) _ ⟨(W (a1 - (a0.length : Int))), (0 : Int), S.sub ⟨rfl, rfl, rfl, trivial⟩, H, hit84⟩ ?_
   rintro n a w ⟨x56, x57, S, H, hit84⟩
   obtain ⟨m88, o89, rfl, hm, hc90⟩ := iter_step hit84
   rw [hf86] at hm
   refine wp_seq (wp_seq (region_plain ?_))
   refine lq (.int .i64 x57) S (q_move rfl) fun a S => ?_
   refine lq p0 S (q_move rfl) fun a S => ?_
   refine lq (.int .i64 (a0.length : Int)) S (q_lenSl rfl (h0).isSl rfl Tryd.underlying31) fun a S => ?_
   refine lq (.bool (decide (x57 < (a0.length : Int)))) S (q_lss rfl rfl) fun a S => ?_
   refine lx_nil (thenN ?_)
   refine cond_b S rfl (fun hc91 => ?_) (fun hc91 => ?_)
   ·have hm := ite_t hc91 hm
    refine wp_skip (thenN ?_)
    refine wp_seq ?_
    refine wp_block ?_
    refine wp_seq (region_plain ?_)
    refine lq p0 S (q_move rfl) fun a S => ?_
    refine lq (.int .i64 x57) S (q_move rfl) fun a S => ?_
    obtain ⟨x92, e93, hm⟩ := bind_some hm
    obtain ⟨c94, h95, hat96⟩ := (h0).elem (idx_some e93).2
    obtain ⟨c99, c100, rfl, h101, h102⟩ := h95
    obtain rfl := h101
    obtain ⟨c103, c104, rfl, h105, h106⟩ := h102
    obtain rfl := h105
    obtain ⟨v97, rfl, h98⟩ := rd_list h106
    have hlt := lt_of_idx (idx_some e93).2
    refine lq (ePtr p0 (x57.toNat * 3)) S (q_indexAddr rfl (h0).isSl rfl (idx_some e93).1 hlt Tryd.underlying31 Tryd.sizeOf57) fun a S => ?_
    refine lx_e (.agg #[(.bool x92.1), (.bool x92.2.1), v97]) S trivial (by decide) rfl trivial (q_loadA (cs := [(.bool x92.1), (.bool x92.2.1), v97]) rfl ((hat96 0 _ rfl).isP) Tryd.isAgg57 Tryd.sizeOf57 (by rintro _ rfl; exact (fun j u hu => (hat96 j u hu).ext H.ext))) (fun a S => ?_)
    refine lq (.int .i64 x56) S (q_move rfl) fun a S => ?_
    obtain ⟨x109, e110, hm⟩ := bind_some hm
    refine lx_call (xs := [.tmp 21, .tmp 22]) S trivial (by decide) rfl rfl Tryd.call30 ((laws_szEquation_ok ⟨[(.bool x92.1), (.bool x92.2.1), v97], rfl, ⟨[(.bool x92.1)], [(.bool x92.2.1), v97], rfl, rfl, ⟨[(.bool x92.2.1)], [v97], rfl, rfl, ((H.arg h98)).list_rd⟩⟩⟩  e110).mono ?_)
    rintro e w107 ⟨rfl, Hc108⟩
    have H := H.call0 Hc108
    refine ⟨_, rfl, trivial, fun a S => ?_⟩
    refine lq (.int .i64 x109) S (q_assign rfl) fun a S => ?_
    refine lx_nil (thenN ?_)
    refine wp_seq (region_plain ?_)
    refine lq (.int .i64 x109) S (q_move rfl) fun a S => ?_
    refine lq (.bool (decide (x109 < (0 : Int)))) S (q_lss rfl rfl) fun a S => ?_
    refine lx_nil (thenN ?_)
    refine cond_b S rfl (fun hc112 => ?_) (fun hc112 => ?_)
    ·have hm := ite_t hc112 hm
     refine wp_seq (region_plain ?_)
     refine lq (.int .i64 (-1 : Int)) S (q_assign rfl) fun a S => ?_
     refine lx_nil (thenN ?_)
     refine wp_ret (inBlock_ret ?_)
     refine then_ret ?_
     refine then_ret ?_
     refine inBlock_ret ?_
     refine then_ret ?_
     refine then_ret ?_
     obtain rfl := it_brk hm hc90
     have hm := ctl_inr hk87
     obtain rfl := Option.some.inj hm
     exact leave1 S rfl rfl ⟨rfl, H⟩
    ·have hm := ite_f hc112 hm
     refine wp_skip ?_
     refine inBlock_norm ?_
     refine thenN ?_
     refine region_plain ?_
     refine lq (.int .i64 x57) S (q_move rfl) fun a S => ?_
     refine lq (.int .i64 (W (x57 + (1 : Int)))) S (q_add rfl rfl) fun a S => ?_
     refine lq (.int .i64 (W (x57 + (1 : Int)))) S (q_assign rfl) fun a S => ?_
     refine lx_nil ?_
     exact ⟨m88, Nat.lt_succ_self _, x109, (W (x57 + (1 : Int))), S.sub ⟨rfl, rfl, rfl, trivial⟩, H, it_cont hm hc90⟩
   ·have hm := ite_f hc91 hm
    refine wp_exit ?_
    refine then_exit ?_
    refine then_exit ?_
    refine inBlock_exit ?_
    obtain rfl := it_brk hm hc90
    exact ⟨x56, S.sub ⟨rfl, trivial⟩, H, rfl⟩

/-- laws.toEquation -/
def laws_toEquation_m (fuel : Nat) (a0 : Tlaws_Equation) : Option (Timpl_Equation) :=
  (laws_toInt64S_m fuel a0.2.2).bind fun x56 => some ((a0.1, a0.2.1, x56))
set_option maxRecDepth 20000 in
theorem laws_toEquation_ok {w0 : World} {fuel : Nat} {p0 : Value} {a0 : Tlaws_Equation} {r : Timpl_Equation} (h0 : Rd Rlaws_Equation w0 p0 a0) (hm : laws_toEquation_m fuel a0 = some r) :
  Calls Tryd.prog 34 #[p0] w0 fun e w => ∃ (v0 : Value), e = .returned (.agg #[.bool r.1, .bool r.2.1, v0]) ∧ Heap w0 [oA (rList (rInt .i64)) v0 r.2.2] w := by
 unfold laws_toEquation_m at hm
 have H := Heap.start w0
 obtain ⟨c31, rfl, h32⟩ := h0
 obtain ⟨c35, c36, rfl, h37, h38⟩ := h32
 obtain rfl := h37
 obtain ⟨c39, c40, rfl, h41, h42⟩ := h38
 obtain rfl := h41
 obtain ⟨v33, rfl, h34⟩ := rd_list h42
 refine enter (args := [(.agg #[(.bool a0.1), (.bool a0.2.1), v33])]) Tryd.func34 rfl 15 rfl (Nat.le_of_ble_eq_true rfl) (fun a S => ?_)
 refine wp_seq (region_plain ?_)
 refine lx_box S trivial (by decide) rfl H rfl rfl (fun b43 w44 H => ⟨trivial, fun a S => ?_⟩)
 refine lx_alloc S trivial (by decide) rfl H Tryd.zeroValue59 rfl (fun b46 w47 H => ⟨trivial, fun a S => ?_⟩)
 refine lx_nil (thenN ?_)
 refine wp_seq (region_plain ?_)
 refine lx_alloc S trivial (by decide) rfl H Tryd.zeroValue59 rfl (fun b49 w50 H => ⟨trivial, fun a S => ?_⟩)
 refine lx_nil (thenN ?_)
 refine wp_seq (region_plain ?_)
 refine lq (pAdd (bp b43) 0) S (q_fieldAddr' 0 4 rfl (isP_bp _) Tryd.underlying57 rfl Tryd.sizeOf4) fun a S => ?_
 refine lx_e (.bool a0.1) S trivial (by decide) rfl trivial (q_load1 rfl Tryd.isAgg4 (by rintro _ rfl; exact (At.of_add (m := 0) (j := 0) (boxAt (i := 2) H rfl (j := 0) rfl)))) (fun a S => ?_)
 refine lq (pAdd (bp b49) 0) S (q_fieldAddr' 0 4 rfl (isP_bp _) Tryd.underlying59 rfl Tryd.sizeOf4) fun a S => ?_
 refine lx_storeBox (o := 0) (i := 0) (us := [(.bool a0.1)]) (cs' := [(.bool a0.1), (.bool false), (.slice none 0 0)]) S trivial rfl H rfl rfl rfl rfl Tryd.sizeOf4 (Nat.le_of_ble_eq_true rfl) (List.forall_mem_cons.2 ⟨rfl, (fun _ h => nomatch h)⟩) rfl (fun w52 H => ⟨trivial, fun a S => ?_⟩)
 change Heap w0 [bA b49 [(.bool a0.1), (.bool false), (.slice none 0 0)] 59, bA b46 [(.bool false), (.bool false), (.slice none 0 0)] 59, bA b43 [(.bool a0.1), (.bool a0.2.1), v33] 57] w52 at H
 refine lx_nil (thenN ?_)
 refine wp_seq (region_plain ?_)
 refine lq (pAdd (bp b43) 1) S (q_fieldAddr' 1 4 rfl (isP_bp _) Tryd.underlying57 rfl Tryd.sizeOf4) fun a S => ?_
 refine lx_e (.bool a0.2.1) S trivial (by decide) rfl trivial (q_load1 rfl Tryd.isAgg4 (by rintro _ rfl; exact (At.of_add (m := 1) (j := 0) (boxAt (i := 2) H rfl (j := 1) rfl)))) (fun a S => ?_)
 refine lq (pAdd (bp b49) 1) S (q_fieldAddr' 1 4 rfl (isP_bp _) Tryd.underlying59 rfl Tryd.sizeOf4) fun a S => ?_
 refine lx_storeBox (o := 1) (i := 0) (us := [(.bool a0.2.1)]) (cs' := [(.bool a0.1), (.bool a0.2.1), (.slice none 0 0)]) S trivial rfl H rfl rfl rfl rfl Tryd.sizeOf4 (Nat.le_of_ble_eq_true rfl) (List.forall_mem_cons.2 ⟨rfl, (fun _ h => nomatch h)⟩) rfl (fun w53 H => ⟨trivial, fun a S => ?_⟩)
 change Heap w0 [bA b49 [(.bool a0.1), (.bool a0.2.1), (.slice none 0 0)] 59, bA b46 [(.bool false), (.bool false), (.slice none 0 0)] 59, bA b43 [(.bool a0.1), (.bool a0.2.1), v33] 57] w53 at H
 refine lx_nil (thenN ?_)
 refine wp_seq (region_plain ?_)
 refine lq (pAdd (bp b43) 2) S (q_fieldAddr' 2 48 rfl (isP_bp _) Tryd.underlying57 rfl Tryd.sizeOf48) fun a S => ?_
 refine lx_e v33 S trivial (by decide) rfl trivial (q_load1 rfl Tryd.isAgg48 (by rintro _ rfl; exact (At.of_add (m := 2) (j := 0) (boxAt (i := 2) H rfl (j := 2) rfl)))) (fun a S => ?_)
 obtain ⟨x56, e57, hm⟩ := bind_some hm
 refine lx_call (xs := [.tmp 11]) S trivial (by decide) rfl rfl Tryd.call48 ((laws_toInt64S_ok (H.arg h34) e57).mono ?_)
 rintro e w54 ⟨v58, rfl, Hc55⟩
 have H := H.call1 Hc55
 refine ⟨_, rfl, trivial, fun a S => ?_⟩
 refine lq (pAdd (bp b49) 2) S (q_fieldAddr' 2 48 rfl (isP_bp _) Tryd.underlying59 rfl Tryd.sizeOf48) fun a S => ?_
 refine lx_storeBox (o := 2) (i := 1) (us := [v58]) (cs' := [(.bool a0.1), (.bool a0.2.1), v58]) S trivial rfl H rfl rfl rfl (cells_sl (H.isSl 0 rfl)) Tryd.sizeOf48 (Nat.le_of_ble_eq_true rfl) (List.forall_mem_cons.2 ⟨one_sl (H.isSl 0 rfl), (fun _ h => nomatch h)⟩) rfl (fun w61 H => ⟨trivial, fun a S => ?_⟩)
 change Heap w0 [oA (rList (rInt .i64)) v58 x56, bA b49 [(.bool a0.1), (.bool a0.2.1), v58] 59, bA b46 [(.bool false), (.bool false), (.slice none 0 0)] 59, bA b43 [(.bool a0.1), (.bool a0.2.1), v33] 57] w61 at H
 refine lx_nil (thenN ?_)
 refine wp_seq (region_plain ?_)
 refine lx_e (.agg #[(.bool a0.1), (.bool a0.2.1), v58]) S trivial (by decide) rfl trivial (q_loadA (cs := [(.bool a0.1), (.bool a0.2.1), v58]) rfl (isP_bp _) Tryd.isAgg59 Tryd.sizeOf59 (by rintro _ rfl; exact (fun j u hu => boxAt (i := 1) H rfl hu))) (fun a S => ?_)
 refine lx_storeBox (o := 0) (i := 2) (us := [(.bool a0.1), (.bool a0.2.1), v58]) (cs' := [(.bool a0.1), (.bool a0.2.1), v58]) S trivial rfl H rfl rfl rfl rfl Tryd.sizeOf59 (Nat.le_of_ble_eq_true rfl) (List.forall_mem_cons.2 ⟨rfl, (List.forall_mem_cons.2 ⟨rfl, (List.forall_mem_cons.2 ⟨one_sl (H.isSl 0 rfl), (fun _ h => nomatch h)⟩)⟩)⟩) rfl (fun w62 H => ⟨trivial, fun a S => ?_⟩)
 change Heap w0 [oA (rList (rInt .i64)) v58 x56, bA b49 [(.bool a0.1), (.bool a0.2.1), v58] 59, bA b46 [(.bool a0.1), (.bool a0.2.1), v58] 59, bA b43 [(.bool a0.1), (.bool a0.2.1), v33] 57] w62 at H
 refine lx_nil (thenN ?_)
 refine wp_ret ?_
 have hrv0 := RV.cellA (t := 59) (q := 2) (env := [(0, (.agg #[(.bool a0.1), (.bool a0.2.1), v33])), (1, (bp b43)), (2, (bp b46)), (3, (bp b49)), (4, (pAdd (bp b43) 0)), (5, (.bool a0.1)), (6, (pAdd (bp b49) 0)), (7, (pAdd (bp b43) 1)), (8, (.bool a0.2.1)), (9, (pAdd (bp b49) 1)), (10, (pAdd (bp b43) 2)), (11, v33), (12, v58), (13, (pAdd (bp b49) 2)), (14, (.agg #[(.bool a0.1), (.bool a0.2.1), v58]))]) H (i := 2) rfl rfl Tryd.isAgg59 Tryd.sizeOf59
 obtain rfl := Option.some.inj hm
 have H : Heap w0 [oA (rList (rInt .i64)) v58 x56] w62 := H.sel [0] (by decide)
 exact leaveR1 S rfl hrv0 ⟨v58, rfl, H⟩

/-- laws.toEquationS -/
def laws_toEquationS_m (fuel : Nat) (a0 : (List Tlaws_Equation)) : Option ((List Timpl_Equation)) :=
  (mks (a0.length : Int) (false, false, [])).bind fun x31 => (iter (fun (s : (List Timpl_Equation) × (Int)) => (match s with | (xs65, x66) => (if (decide (x66 < (a0.length : Int))) = true then (idx a0 x66).bind fun x105 => (laws_toEquation_m fuel (x105.1, x105.2.1, x105.2.2)).bind fun x122 => (idx xs65 x66).bind fun _ => some (.inl ((xs65.set x66.toNat (x122.1, x122.2.1, x122.2.2)), (W (x66 + (1 : Int))))) else some (.inr (.inl (xs65)))) : Option (((List Timpl_Equation) × (Int)) ⊕ (((List Timpl_Equation)) ⊕ ((List Timpl_Equation)))))) fuel (x31, (0 : Int))).bind fun res96 => ctl (β := (List Timpl_Equation)) (ρ := (List Timpl_Equation)) (τ := (List Timpl_Equation)) res96 (fun (xs95) => some (xs95)) (fun q => some (q))
set_option maxRecDepth 20000 in
theorem laws_toEquationS_ok {w0 : World} {fuel : Nat} {p0 : Value} {a0 : (List Tlaws_Equation)} {r : (List Timpl_Equation)} (h0 : Rd (rList Rlaws_Equation) w0 p0 a0) (hm : laws_toEquationS_m fuel a0 = some r) :
  Calls Tryd.prog 13 #[p0] w0 fun e w => ∃ (v0 : Value), e = .returned (v0) ∧ Heap w0 [oA (rList Rimpl_Equation) v0 r] w := by
 unfold laws_toEquationS_m at hm
 have H := Heap.start w0
 refine enter (args := [p0]) Tryd.func13 rfl 23 rfl (Nat.le_of_ble_eq_true rfl) (fun a S => ?_)
 refine wp_seq (region_plain ?_)
 refine lq (.slice none 0 0) S (q_assign rfl) fun a S => ?_
 refine lx_nil (thenN ?_)
 refine wp_seq (region_plain ?_)
 refine lq p0 S (q_move rfl) fun a S => ?_
 refine lq (.int .i64 (a0.length : Int)) S (q_lenSl rfl (h0).isSl rfl Tryd.underlying31) fun a S => ?_
 obtain ⟨x31, e32, hm⟩ := bind_some hm
 obtain ⟨m33, hn, hn2, rfl⟩ := mks_some e32
 refine lx_make (r := Rimpl_Equation) (z0 := (false, false, [])) (n := m33) S trivial (by decide) rfl H (by rw [← hn]; rfl) (by rw [← hn]; rfl) Tryd.underlying34 (Tryd.ti59) rfl rfl (Nat.le_of_ble_eq_true rfl) (fun w => ⟨_, _, [(.bool false)], [(.bool false), (.slice none 0 0)], rfl, rfl, ⟨rfl, rfl⟩, ⟨_, _, [(.bool false)], [(.slice none 0 0)], rfl, rfl, ⟨rfl, rfl⟩, (oA_list.1 drop_nil_own)⟩⟩) hn2 (by decide) (fun v34 w35 H => ⟨trivial, fun a S => ?_⟩)
 refine lq v34 S (q_assign rfl) fun a S => ?_
 refine lx_nil (thenN ?_)
 refine wp_seq (wp_seq (region_plain ?_))
 refine lq (.int .i64 (0 : Int)) S (q_assign rfl) fun a S => ?_
 refine lx_nil (thenN ?_)
 obtain ⟨res96, hit97, hk100⟩ := bind_some hm
 obtain ⟨f98, hf99, hit97⟩ := iter_name hit97
 refine block_loop (fun a w => ∃ (xs95 : List Timpl_Equation), Slots a 23 [(3, v34)] ∧ Heap w0 [oA (rList Rimpl_Equation) v34 xs95] w ∧ res96 = .inl (xs95)) ?_ ?_
 ·rintro a w ⟨xs95, S, H, rfl⟩
  have hm := ctl_inl hk100
  refine thenN ?_
  refine wp_seq (region_plain ?_)
  refine lq v34 S (q_move rfl) fun a S => ?_
  refine lq v34 S (q_assign rfl) fun a S => ?_
  refine lx_nil (thenN ?_)
  refine wp_ret ?_
  obtain rfl := Option.some.inj hm
  exact leave1 S rfl rfl ⟨v34, rfl, H⟩
 ·skip
  refine loop_ghost (fun n a w => ∃ (xs65 : List Timpl_Equation) (x66 : Int), Slots a 23 [(0, p0), (3, v34), (4, (.int .i64 x66))] ∧ Heap w0 [oA (rList Rimpl_Equation) v34 xs65] w ∧ iter f98 n (xs65, x66) = some res96) _ ⟨(List.replicate m33 (false, false, [])), (0 : Int), S.sub ⟨rfl, rfl, rfl, trivial⟩, H, hit97⟩ ?_
  rintro n a w ⟨xs65, x66, S, H, hit97⟩
  obtain ⟨m101, o102, rfl, hm, hc103⟩ := iter_step hit97
  rw [hf99] at hm
  refine wp_seq (wp_seq (region_plain ?_))
  refine lq (.int .i64 x66) S (q_move rfl) fun a S => ?_
  refine lq p0 S (q_move rfl) fun a S => ?_
  refine lq (.int .i64 (a0.length : Int)) S (q_lenSl rfl (h0).isSl rfl Tryd.underlying31) fun a S => ?_
  refine lq (.bool (decide (x66 < (a0.length : Int)))) S (q_lss rfl rfl) fun a S => ?_
  refine lx_nil (thenN ?_)
  refine cond_b S rfl (fun hc104 => ?_) (fun hc104 => ?_)
  ·have hm := ite_t hc104 hm
   refine wp_skip (thenN ?_)
   refine wp_seq ?_
   refine wp_block ?_
   refine region_plain ?_
   refine lq v34 S (q_move rfl) fun a S => ?_
   refine lq (.int .i64 x66) S (q_move rfl) fun a S => ?_
   refine lq p0 S (q_move rfl) fun a S => ?_
   refine lq (.int .i64 x66) S (q_move rfl) fun a S => ?_
   obtain ⟨x105, e106, hm⟩ := bind_some hm
   obtain ⟨c107, h108, hat109⟩ := (h0).elem (idx_some e106).2
   obtain ⟨c112, c113, rfl, h114, h115⟩ := h108
   obtain rfl := h114
   obtain ⟨c116, c117, rfl, h118, h119⟩ := h115
   obtain rfl := h118
   obtain ⟨v110, rfl, h111⟩ := rd_list h119
   have hlt := lt_of_idx (idx_some e106).2
   refine lq (ePtr p0 (x66.toNat * 3)) S (q_indexAddr rfl (h0).isSl rfl (idx_some e106).1 hlt Tryd.underlying31 Tryd.sizeOf57) fun a S => ?_
   refine lx_e (.agg #[(.bool x105.1), (.bool x105.2.1), v110]) S trivial (by decide) rfl trivial (q_loadA (cs := [(.bool x105.1), (.bool x105.2.1), v110]) rfl ((hat109 0 _ rfl).isP) Tryd.isAgg57 Tryd.sizeOf57 (by rintro _ rfl; exact (fun j u hu => (hat109 j u hu).ext H.ext))) (fun a S => ?_)
   obtain ⟨x122, e123, hm⟩ := bind_some hm
   refine lx_call (xs := [.tmp 19]) S trivial (by decide) rfl rfl Tryd.call34 ((laws_toEquation_ok ⟨[(.bool x105.1), (.bool x105.2.1), v110], rfl, ⟨[(.bool x105.1)], [(.bool x105.2.1), v110], rfl, rfl, ⟨[(.bool x105.2.1)], [v110], rfl, rfl, ((H.arg h111)).list_rd⟩⟩⟩ e123).mono ?_)
   rintro e w120 ⟨v124, rfl, Hc121⟩
   have H := H.call1 Hc121
   refine ⟨_, rfl, trivial, fun a S => ?_⟩
   obtain ⟨x127, e128, hm⟩ := bind_some hm
   have hlt := lt_of_idx (idx_some e128).2
   refine lq (ePtr v34 (x66.toNat * 3)) S (q_indexAddr rfl (H.isSl 1 rfl) rfl (idx_some e128).1 hlt Tryd.underlying34 Tryd.sizeOf59) fun a S => ?_
   have hcl : Value.cells (.agg #[(.bool x122.1), (.bool x122.2.1), v124]) = List.toArray [(.bool x122.1), (.bool x122.2.1), v124] := rfl
   have hon : ∀ c ∈ ([(.bool x122.1), (.bool x122.2.1), v124] : List Value), c.oneCell' = true := (List.forall_mem_cons.2 ⟨rfl, (List.forall_mem_cons.2 ⟨rfl, (List.forall_mem_cons.2 ⟨one_sl (H.isSl 0 rfl), (fun _ h => nomatch h)⟩)⟩)⟩)
   have H : Heap w0 [oA (rList Rimpl_Equation) v34 xs65, oA (rList (rInt .i64)) v124 x122.2.2] w120 := H.front 1 rfl
   refine lx_storeElem (r := Rimpl_Equation) (us := [(.bool x122.1), (.bool x122.2.1), v124]) (off := 0) (e' := (x122.1, x122.2.1, x122.2.2)) S trivial rfl H (ev_zero rfl) rfl (idx_some e128).2 hcl Tryd.sizeOf59 (Nat.le_of_ble_eq_true rfl) hon (Upd.full rfl (fun w G hG => ownF ⟨_, _, [(.bool x122.1)], [(.bool x122.2.1), v124], rfl, rfl, ⟨rfl, rfl⟩, ⟨_, _, [(.bool x122.2.1)], [v124], rfl, rfl, ⟨rfl, rfl⟩, (oA_list.1 hG)⟩⟩)) (fun w129 H => ⟨trivial, fun a S => ?_⟩)
   refine lx_nil ?_
   refine inBlock_norm ?_
   refine thenN ?_
   refine region_plain ?_
   refine lq (.int .i64 x66) S (q_move rfl) fun a S => ?_
   refine lq (.int .i64 (W (x66 + (1 : Int)))) S (q_add rfl rfl) fun a S => ?_
   refine lq (.int .i64 (W (x66 + (1 : Int)))) S (q_assign rfl) fun a S => ?_
   refine lx_nil ?_
   exact ⟨m101, Nat.lt_succ_self _, (xs65.set x66.toNat (x122.1, x122.2.1, x122.2.2)), (W (x66 + (1 : Int))), S.sub ⟨rfl, rfl, rfl, trivial⟩, H, it_cont hm hc103⟩
  ·have hm := ite_f hc104 hm
   refine wp_exit ?_
   refine then_exit ?_
   refine then_exit ?_
   refine inBlock_exit ?_
   obtain rfl := it_brk hm hc103
   exact ⟨xs65, S.sub ⟨rfl, trivial⟩, H, rfl⟩

/-- spec.l22Count -/
def spec_l22Count_m (fuel : Nat) (a0 : (List Timpl_Equation)) : Option (Int) :=
  (iter (fun (s : (Int) × (Int)) => (match s with | (x70, x71) => (if (decide (x71 < (a0.length : Int))) = true then join (κ := Int → Option (((Int) × (Int)) ⊕ ((Int) ⊕ (Int)))) (fun (x121 : Int) => some (.inl (x121, (W (x71 + (1 : Int)))))) (fun K122 => (idx a0 x71).bind fun x126 => (idx a0 (W (x71 - (1 : Int)))).bind fun x141 => (if (x126.1 != x141.1) = true then (K122 (W (x70 + (1 : Int)))) else (K122 x70))) else some (.inr (.inl (x70)))) : Option (((Int) × (Int)) ⊕ ((Int) ⊕ (Int))))) fuel ((1 : Int), (1 : Int))).bind fun res112 => ctl (β := Int) (ρ := Int) (τ := Int) res112 (fun (x111) => some (x111)) (fun q => some (q))
set_option maxRecDepth 20000 in
theorem spec_l22Count_ok {w0 : World} {fuel : Nat} {p0 : Value} {a0 : (List Timpl_Equation)} {r : Int} (h0 : Rd (rList Rimpl_Equation) w0 p0 a0) (hm : spec_l22Count_m fuel a0 = some r) :
  Calls Tryd.prog 56 #[p0] w0 fun e w => e = .returned (.int .i64 r) ∧ Heap w0 [] w := by
 unfold spec_l22Count_m at hm
 have H := Heap.start w0
 refine enter (args := [p0]) Tryd.func56 rfl 26 rfl (Nat.le_of_ble_eq_true rfl) (fun a S => ?_)
 refine wp_seq (region_plain ?_)
 refine lq (.int .i64 (0 : Int)) S (q_assign rfl) fun a S => ?_
 refine lx_nil (thenN ?_)
 refine wp_seq (region_plain ?_)
 refine lq (.int .i64 (1 : Int)) S (q_assign rfl) fun a S => ?_
 refine lx_nil (thenN ?_)
 refine wp_seq (wp_seq (region_plain ?_))
 refine lq (.int .i64 (1 : Int)) S (q_assign rfl) fun a S => ?_
 refine lx_nil (thenN ?_)
 obtain ⟨res112, hit113, hk116⟩ := bind_some hm
 obtain ⟨f114, hf115, hit113⟩ := iter_name hit113
 refine block_loop (fun a w => ∃ (x111 : Int), Slots a 26 [(3, (.int .i64 x111))] ∧ Heap w0 [] w ∧ res112 = .inl (x111)) ?_ ?_
 ·rintro a w ⟨x111, S, H, rfl⟩
  have hm := ctl_inl hk116
  refine thenN ?_
  refine wp_seq (region_plain ?_)
  refine lq (.int .i64 x111) S (q_move rfl) fun a S => ?_
  refine lq (.int .i64 x111) S (q_assign rfl) fun a S => ?_
  refine lx_nil (thenN ?_)
  refine wp_ret ?_
  obtain rfl := Option.some.inj hm
  exact leave1 S rfl rfl ⟨rfl, H⟩
 ·skip
  refine loop_ghost (fun n a w => ∃ (x70 : Int) (x71 : Int), Slots a 26 [(0, p0), (3, (.int .i64 x70)), (4, (.int .i64 x71))] ∧ Heap w0 [] w ∧ iter f114 n (x70, x71) = some res112) _ ⟨(1 : Int), (1 : Int), S.sub ⟨rfl, rfl, rfl, trivial⟩, H, hit113⟩ ?_
  rintro n a w ⟨x70, x71, S, H, hit113⟩
  obtain ⟨m117, o118, rfl, hm, hc119⟩ := iter_step hit113
  rw [hf115] at hm
  refine wp_seq (wp_seq (region_plain ?_))
  refine lq (.int .i64 x71) S (q_move rfl) fun a S => ?_
  refine lq p0 S (q_move rfl) fun a S => ?_
  refine lq (.int .i64 (a0.length : Int)) S (q_lenSl rfl (h0).isSl rfl Tryd.underlying34) fun a S => ?_
  refine lq (.bool (decide (x71 < (a0.length : Int)))) S (q_lss rfl rfl) fun a S => ?_
  refine lx_nil (thenN ?_)
  refine cond_b S rfl (fun hc120 => ?_) (fun hc120 => ?_)
  ·have hm := ite_t hc120 hm
   refine wp_skip (thenN ?_)
   obtain ⟨K122, hK123, hm⟩ := join_elim hm
   refine seq_cut (fun a w => ∃ (x121 : Int), Slots a 26 [(0, p0), (3, (.int .i64 x121)), (4, (.int .i64 x71))] ∧ Heap w0 [] w ∧ K122 x121 = some o118) ?_ ?_
   ·rintro a w ⟨x121, S, H, hm⟩
    subst hK123
    refine region_plain ?_
    refine lq (.int .i64 x71) S (q_move rfl) fun a S => ?_
    refine lq (.int .i64 (W (x71 + (1 : Int)))) S (q_add rfl rfl) fun a S => ?_
    refine lq (.int .i64 (W (x71 + (1 : Int)))) S (q_assign rfl) fun a S => ?_
    refine lx_nil ?_
    exact ⟨m117, Nat.lt_succ_self _, x121, (W (x71 + (1 : Int))), S.sub ⟨rfl, rfl, rfl, trivial⟩, H, it_cont hm hc119⟩
   ·skip
    refine wp_block ?_
    refine wp_seq ?_
    refine region_drawG (fun w1 => Heap w0 [] w1) (fun i => [].contains i) mixed (by kernel_rfl) (fun w125 he124 => ?_)
    have H := H.later he124
    refine ⟨H.sel [] (by decide), ?_⟩
    refine lq p0 S (q_move rfl) fun a S => ?_
    refine lq (.int .i64 x71) S (q_move rfl) fun a S => ?_
    obtain ⟨x126, e127, hm⟩ := bind_some hm
    obtain ⟨c128, h129, hat130⟩ := (h0).elem (idx_some e127).2
    obtain ⟨c133, c134, rfl, h135, h136⟩ := h129
    obtain rfl := h135
    obtain ⟨c137, c138, rfl, h139, h140⟩ := h136
    obtain rfl := h139
    obtain ⟨v131, rfl, h132⟩ := rd_list h140
    have hlt := lt_of_idx (idx_some e127).2
    refine lq (ePtr p0 (x71.toNat * 3)) S (q_indexAddr rfl (h0).isSl rfl (idx_some e127).1 hlt Tryd.underlying34 Tryd.sizeOf59) fun a S => ?_
    refine lq (pAdd (ePtr p0 (x71.toNat * 3)) 0) S (q_fieldAddr' 0 4 rfl ((hat130 0 _ rfl).isP) Tryd.underlying59 rfl Tryd.sizeOf4) fun a S => ?_
    refine lq (.bool x126.1) S (q_load1 rfl Tryd.isAgg4 (fun w1 hC => (At.of_add (m := 0) (j := 0) ((hat130 0 _ rfl).ext hC.ext)))) fun a S => ?_
    refine lq p0 S (q_move rfl) fun a S => ?_
    refine lq (.int .i64 x71) S (q_move rfl) fun a S => ?_
    refine lq (.int .i64 (W (x71 - (1 : Int)))) S (q_sub rfl rfl) fun a S => ?_
    obtain ⟨x141, e142, hm⟩ := bind_some hm
    obtain ⟨c143, h144, hat145⟩ := (h0).elem (idx_some e142).2
    obtain ⟨c148, c149, rfl, h150, h151⟩ := h144
    obtain rfl := h150
    obtain ⟨c152, c153, rfl, h154, h155⟩ := h151
    obtain rfl := h154
    obtain ⟨v146, rfl, h147⟩ := rd_list h155
    have hlt := lt_of_idx (idx_some e142).2
    refine lq (ePtr p0 ((W (x71 - (1 : Int))).toNat * 3)) S (q_indexAddr rfl (h0).isSl rfl (idx_some e142).1 hlt Tryd.underlying34 Tryd.sizeOf59) fun a S => ?_
    refine lq (pAdd (ePtr p0 ((W (x71 - (1 : Int))).toNat * 3)) 0) S (q_fieldAddr' 0 4 rfl ((hat145 0 _ rfl).isP) Tryd.underlying59 rfl Tryd.sizeOf4) fun a S => ?_
    refine lq (.bool x141.1) S (q_load1 rfl Tryd.isAgg4 (fun w1 hC => (At.of_add (m := 0) (j := 0) ((hat145 0 _ rfl).ext hC.ext)))) fun a S => ?_
    refine lq (.bool (x126.1 != x141.1)) S (q_bneq rfl rfl Tryd.underlying4) fun a S => ?_
    refine lx_nil (thenN ?_)
    refine cond_b S rfl (fun hc156 => ?_) (fun hc156 => ?_)
    ·have hm := ite_t hc156 hm
     refine region_plain ?_
     refine lq (.int .i64 x70) S (q_move rfl) fun a S => ?_
     refine lq (.int .i64 (W (x70 + (1 : Int)))) S (q_add rfl rfl) fun a S => ?_
     refine lq (.int .i64 (W (x70 + (1 : Int)))) S (q_assign rfl) fun a S => ?_
     refine lx_nil ?_
     refine inBlock_norm ?_
     exact ⟨(W (x70 + (1 : Int))), S.sub ⟨rfl, rfl, rfl, trivial⟩, H, hm⟩
    ·have hm := ite_f hc156 hm
     refine wp_skip ?_
     refine inBlock_norm ?_
     exact ⟨x70, S.sub ⟨rfl, rfl, rfl, trivial⟩, H, hm⟩
  ·have hm := ite_f hc120 hm
   refine wp_exit ?_
   refine then_exit ?_
   refine then_exit ?_
   refine inBlock_exit ?_
   obtain rfl := it_brk hm hc119
   exact ⟨x70, S.sub ⟨rfl, trivial⟩, H, rfl⟩

/-- spec.l00Rises -/
def spec_l00Rises_m (fuel : Nat) (a0 : (List Int)) (a1 : Int) (a2 : Int) : Option (Bool) :=
  (iter (fun (s : (Int)) => (match s with | (x62) => (if (decide (x62 < (a0.length : Int))) = true then (idx a0 x62).bind fun x105 => (spec_l00In_m fuel x105 a1 a2).bind fun x112 => (if (!x112) = true then some true else (if (decide ((0 : Int) < x62)) = true then (idx a0 (W (x62 - (1 : Int)))).bind fun x121 => (idx a0 x62).bind fun x126 => some (decide (x126 ≤ x121)) else some false).bind fun t118 => some t118).bind fun t115 => (if t115 = true then some (.inr (.inr false)) else some (.inl ((W (x62 + (1 : Int)))))) else some (.inr (.inl ()))) : Option (((Int)) ⊕ ((Unit) ⊕ (Bool))))) fuel ((0 : Int))).bind fun res94 => ctl (β := Unit) (ρ := Bool) (τ := Bool) res94 (fun _ => some (true)) (fun q => some (q))
set_option maxRecDepth 20000 in
theorem spec_l00Rises_ok {w0 : World} {fuel : Nat} {p0 : Value} {a0 : (List Int)} {a1 : Int} {a2 : Int} {r : Bool} (h0 : Rd (rList (rInt .i64)) w0 p0 a0) (hm : spec_l00Rises_m fuel a0 a1 a2 = some r) :
  Calls Tryd.prog 57 #[p0, .int .i64 a1, .int .i64 a2] w0 fun e w => e = .returned (.bool r) ∧ Heap w0 [] w := by
 unfold spec_l00Rises_m at hm
 have H := Heap.start w0
 refine enter (args := [p0, .int .i64 a1, .int .i64 a2]) Tryd.func57 rfl 38 rfl (Nat.le_of_ble_eq_true rfl) (fun a S => ?_)
 refine wp_seq (region_plain ?_)
 refine lq (.bool false) S (q_assign rfl) fun a S => ?_
 refine lx_nil (thenN ?_)
 refine wp_seq (wp_seq (region_plain ?_))
 refine lq (.int .i64 (0 : Int)) S (q_assign rfl) fun a S => ?_
 refine lx_nil (thenN ?_)
 obtain ⟨res94, hit95, hk98⟩ := bind_some hm
 obtain ⟨f96, hf97, hit95⟩ := iter_name hit95
 refine block_loop (fun a w => Slots a 38 [] ∧ Heap w0 [] w ∧ res94 = .inl ()) ?_ ?_
 ·rintro a w ⟨S, H, rfl⟩
  have hm := ctl_inl hk98
  refine thenN ?_
  refine wp_seq (region_plain ?_)
  refine lq (.bool true) S (q_assign rfl) fun a S => ?_
  refine lx_nil (thenN ?_)
  refine wp_ret ?_
  obtain rfl := Option.some.inj hm
  exact leave1 S rfl rfl ⟨rfl, H⟩
 ·skip
  refine loop_ghost (fun n a w => ∃ (x62 : Int), Slots a 38 [(0, p0), (1, (.int .i64 a1)), (2, (.int .i64 a2)), (7, (.int .i64 x62))] ∧ Heap w0 [] w ∧ iter f96 n (x62) = some res94) _ ⟨(0 : Int), S.sub ⟨rfl, rfl, rfl, rfl, trivial⟩, H, hit95⟩ ?_
  rintro n a w ⟨x62, S, H, hit95⟩
  obtain ⟨m99, o100, rfl, hm, hc101⟩ := iter_step hit95
  rw [hf97] at hm
  refine wp_seq (wp_seq (region_plain ?_))
  refine lq (.int .i64 x62) S (q_move rfl) fun a S => ?_
  refine lq p0 S (q_move rfl) fun a S => ?_
  refine lq (.int .i64 (a0.length : Int)) S (q_lenSl rfl (h0).isSl rfl Tryd.underlying48) fun a S => ?_
  refine lq (.bool (decide (x62 < (a0.length : Int)))) S (q_lss rfl rfl) fun a S => ?_
  refine lx_nil (thenN ?_)
  refine cond_b S rfl (fun hc102 => ?_) (fun hc102 => ?_)
  ·have hm := ite_t hc102 hm
   refine wp_skip (thenN ?_)
   refine wp_seq ?_
   refine wp_block ?_
   refine wp_seq ?_
   refine region_drawG (fun w1 => Heap w0 [] w1) (fun i => [6].contains i) mixed (by kernel_rfl) (fun w104 he103 => ?_)
   have H := H.later he103
   refine ⟨H.sel [] (by decide), ?_⟩
   refine lq p0 S (q_move rfl) fun a S => ?_
   refine lq (.int .i64 x62) S (q_move rfl) fun a S => ?_
   obtain ⟨x105, e106, hm⟩ := bind_some hm
   obtain ⟨c107, h108, hat109⟩ := (h0).elem (idx_some e106).2
   obtain rfl := h108
   have hlt := lt_of_idx (idx_some e106).2
   refine lq (ePtr p0 (x62.toNat * 1)) S (q_indexAddr rfl (h0).isSl rfl (idx_some e106).1 hlt Tryd.underlying48 Tryd.sizeOf2) fun a S => ?_
   refine lq (.int .i64 x105) S (q_load1 rfl Tryd.isAgg2 (fun w1 hC => ((hat109 0 _ rfl).ext hC.ext))) fun a S => ?_
   refine lq (.int .i64 a1) S (q_move rfl) fun a S => ?_
   refine lq (.int .i64 a2) S (q_move rfl) fun a S => ?_
   obtain ⟨x112, e113, hm⟩ := bind_some hm
   refine lx_call (xs := [.tmp 17, .tmp 18, .tmp 19]) S trivial (by decide) rfl rfl Tryd.call46 ((spec_l00In_ok    e113).mono ?_)
   rintro e w110 ⟨rfl, Hc111⟩
   have H := H.call0 Hc111
   refine ⟨_, rfl, H.sel [] (by decide), fun a S => ?_⟩
   refine lq (.bool (!x112)) S (q_not rfl) fun a S => ?_
   refine lq (.bool (!x112)) S (q_move rfl) fun a S => ?_
   obtain ⟨t115, e116, hm⟩ := bind_some hm
   refine lx_cut 15 (fun a w => Slots a 38 [(0, p0), (1, (.int .i64 a1)), (2, (.int .i64 a2)), (7, (.int .i64 x62)), (37, (.bool t115))] ∧ Heap w0 [] w) ?_ ?_
   ·by_cases hc117 : (!x112) = true
    ·have hm := ite_t hc117 e116
     refine lx_skip S rfl rfl (isB_ne hc117) (by decide) (fun a S => ?_)
     refine lx_skip S rfl rfl (isB_ne hc117) (by decide) (fun a S => ?_)
     refine lx_skip S rfl rfl (isB_ne hc117) (by decide) (fun a S => ?_)
     refine lx_skip S rfl rfl rfl (by decide) (fun a S => ?_)
     refine lx_skip S rfl rfl rfl (by decide) (fun a S => ?_)
     refine lx_skip S rfl rfl rfl (by decide) (fun a S => ?_)
     refine lx_skip S rfl rfl rfl (by decide) (fun a S => ?_)
     refine lx_skip S rfl rfl rfl (by decide) (fun a S => ?_)
     refine lx_skip S rfl rfl rfl (by decide) (fun a S => ?_)
     refine lx_skip S rfl rfl rfl (by decide) (fun a S => ?_)
     refine lx_skip S rfl rfl rfl (by decide) (fun a S => ?_)
     refine lx_skip S rfl rfl rfl (by decide) (fun a S => ?_)
     refine lx_skip S rfl rfl rfl (by decide) (fun a S => ?_)
     refine lx_skip S rfl rfl (isB_ne hc117) (by decide) (fun a S => ?_)
     refine lq (.bool true) S (q_pickT' rfl hc117 rfl) fun a S => ?_
     refine lx_nil ?_
     obtain rfl := Option.some.inj hm
     exact ⟨S.sub ⟨rfl, rfl, rfl, rfl, rfl, trivial⟩, H⟩
    ·have hm := ite_f (eq_false_of_ne_true hc117) e116
     have hc117 : (!x112) = false := eq_false_of_ne_true hc117
     refine lx_q (.int .i64 x62) S (want_b rfl rfl hc117) (by decide) (q_move rfl) (fun a S => ?_)
     refine lx_q (.bool (decide ((0 : Int) < x62))) S (want_b rfl rfl hc117) (by decide) (q_gtr rfl rfl) (fun a S => ?_)
     refine lx_q (.bool (decide ((0 : Int) < x62))) S (want_b rfl rfl hc117) (by decide) (q_move rfl) (fun a S => ?_)
     obtain ⟨t118, e119, hm⟩ := bind_some hm
     refine lx_cut 11 (fun a w => Slots a 38 [(0, p0), (1, (.int .i64 a1)), (2, (.int .i64 a2)), (7, (.int .i64 x62)), (22, (.bool (!x112))), (36, (.bool t118))] ∧ Heap w0 [] w) ?_ ?_
     ·by_cases hc120 : (decide ((0 : Int) < x62)) = true
      ·have hm := ite_t hc120 e119
       refine lx_q p0 S (want_b rfl rfl hc120) (by decide) (q_move rfl) (fun a S => ?_)
       refine lx_q (.int .i64 x62) S (want_b rfl rfl hc120) (by decide) (q_move rfl) (fun a S => ?_)
       refine lx_q (.int .i64 (W (x62 - (1 : Int)))) S (want_b rfl rfl hc120) (by decide) (q_sub rfl rfl) (fun a S => ?_)
       obtain ⟨x121, e122, hm⟩ := bind_some hm
       obtain ⟨c123, h124, hat125⟩ := (h0).elem (idx_some e122).2
       obtain rfl := h124
       have hlt := lt_of_idx (idx_some e122).2
       refine lx_q (ePtr p0 ((W (x62 - (1 : Int))).toNat * 1)) S (want_b rfl rfl hc120) (by decide) (q_indexAddr rfl (h0).isSl rfl (idx_some e122).1 hlt Tryd.underlying48 Tryd.sizeOf2) (fun a S => ?_)
       refine lx_q (.int .i64 x121) S (want_b rfl rfl hc120) (by decide) (q_load1 rfl Tryd.isAgg2 (fun w1 hC => ((hat125 0 _ rfl).ext hC.ext))) (fun a S => ?_)
       refine lx_q p0 S (want_b rfl rfl hc120) (by decide) (q_move rfl) (fun a S => ?_)
       refine lx_q (.int .i64 x62) S (want_b rfl rfl hc120) (by decide) (q_move rfl) (fun a S => ?_)
       obtain ⟨x126, e127, hm⟩ := bind_some hm
       obtain ⟨c128, h129, hat130⟩ := (h0).elem (idx_some e127).2
       obtain rfl := h129
       have hlt := lt_of_idx (idx_some e127).2
       refine lx_q (ePtr p0 (x62.toNat * 1)) S (want_b rfl rfl hc120) (by decide) (q_indexAddr rfl (h0).isSl rfl (idx_some e127).1 hlt Tryd.underlying48 Tryd.sizeOf2) (fun a S => ?_)
       refine lx_q (.int .i64 x126) S (want_b rfl rfl hc120) (by decide) (q_load1 rfl Tryd.isAgg2 (fun w1 hC => ((hat130 0 _ rfl).ext hC.ext))) (fun a S => ?_)
       refine lx_q (.bool (decide (x126 ≤ x121))) S (want_b rfl rfl hc120) (by decide) (q_geq rfl rfl) (fun a S => ?_)
       refine lx_q (.bool (decide (x126 ≤ x121))) S (want_b rfl rfl hc117) (by decide) (q_pickT' rfl hc120 rfl) (fun a S => ?_)
       refine lx_nil ?_
       obtain rfl := Option.some.inj hm
       exact ⟨S.sub ⟨rfl, rfl, rfl, rfl, rfl, rfl, trivial⟩, H⟩
      ·have hm := ite_f (eq_false_of_ne_true hc120) e119
       have hc120 : (decide ((0 : Int) < x62)) = false := eq_false_of_ne_true hc120
       refine lx_skip S rfl rfl (isB_ne hc120) (by decide) (fun a S => ?_)
       refine lx_skip S rfl rfl (isB_ne hc120) (by decide) (fun a S => ?_)
       refine lx_skip S rfl rfl (isB_ne hc120) (by decide) (fun a S => ?_)
       refine lx_skip S rfl rfl (isB_ne hc120) (by decide) (fun a S => ?_)
       refine lx_skip S rfl rfl (isB_ne hc120) (by decide) (fun a S => ?_)
       refine lx_skip S rfl rfl (isB_ne hc120) (by decide) (fun a S => ?_)
       refine lx_skip S rfl rfl (isB_ne hc120) (by decide) (fun a S => ?_)
       refine lx_skip S rfl rfl (isB_ne hc120) (by decide) (fun a S => ?_)
       refine lx_skip S rfl rfl (isB_ne hc120) (by decide) (fun a S => ?_)
       refine lx_skip S rfl rfl (isB_ne hc120) (by decide) (fun a S => ?_)
       refine lx_q (.bool false) S (want_b rfl rfl hc117) (by decide) (q_pickF' rfl hc120 rfl) (fun a S => ?_)
       refine lx_nil ?_
       obtain rfl := Option.some.inj hm
       exact ⟨S.sub ⟨rfl, rfl, rfl, rfl, rfl, rfl, trivial⟩, H⟩
     ·rintro a w ⟨S, H⟩
      refine lq (.bool t118) S (q_pickF' rfl hc117 rfl) fun a S => ?_
      refine lx_nil ?_
      obtain rfl := Option.some.inj hm
      exact ⟨S.sub ⟨rfl, rfl, rfl, rfl, rfl, trivial⟩, H⟩
   ·rintro a w ⟨S, H⟩
    refine lx_nil (thenN ?_)
    refine cond_b S rfl (fun hc131 => ?_) (fun hc131 => ?_)
    ·have hm := ite_t hc131 hm
     refine wp_seq (region_plain ?_)
     refine lq (.bool false) S (q_assign rfl) fun a S => ?_
     refine lx_nil (thenN ?_)
     refine wp_ret (inBlock_ret ?_)
     refine then_ret ?_
     refine then_ret ?_
     refine inBlock_ret ?_
     refine then_ret ?_
     refine then_ret ?_
     obtain rfl := it_brk hm hc101
     have hm := ctl_inr hk98
     obtain rfl := Option.some.inj hm
     exact leave1 S rfl rfl ⟨rfl, H⟩
    ·have hm := ite_f hc131 hm
     refine wp_skip ?_
     refine inBlock_norm ?_
     refine thenN ?_
     refine region_plain ?_
     refine lq (.int .i64 x62) S (q_move rfl) fun a S => ?_
     refine lq (.int .i64 (W (x62 + (1 : Int)))) S (q_add rfl rfl) fun a S => ?_
     refine lq (.int .i64 (W (x62 + (1 : Int)))) S (q_assign rfl) fun a S => ?_
     refine lx_nil ?_
     exact ⟨m99, Nat.lt_succ_self _, (W (x62 + (1 : Int))), S.sub ⟨rfl, rfl, rfl, rfl, trivial⟩, H, it_cont hm hc101⟩
  ·have hm := ite_f hc102 hm
   refine wp_exit ?_
   refine then_exit ?_
   refine then_exit ?_
   refine inBlock_exit ?_
   obtain rfl := it_brk hm hc101
   exact ⟨S.sub trivial, H, rfl⟩

/-- spec.l22Is -/
def spec_l22Is_m (fuel : Nat) (a0 : (List Timpl_Equation)) : Option (Bool) :=
  (if (decide ((a0.length : Int) < (1 : Int))) = true then some true else some (decide ((120 : Int) < (a0.length : Int)))).bind fun t31 => (if t31 = true then some true else (spec_l22Count_m fuel a0).bind fun x39 => some (decide ((9 : Int) < x39))).bind fun t34 => (if t34 = true then some (false) else (iter (fun (s : (Int)) => (match s with | (x66) => (if (decide (x66 < (a0.length : Int))) = true then (idx a0 x66).bind fun x99 => (spec_l00Rises_m fuel x99.2.2 (0 : Int) (W ((a0.length : Int) - (1 : Int)))).bind fun x116 => (if (!x116) = true then some (.inr (.inr false)) else some (.inl ((W (x66 + (1 : Int)))))) else some (.inr (.inl ()))) : Option (((Int)) ⊕ ((Unit) ⊕ (Bool))))) fuel ((0 : Int))).bind fun res90 => ctl (β := Unit) (ρ := Bool) (τ := Bool) res90 (fun _ => some (true)) (fun q => some (q)))
set_option maxRecDepth 20000 in
theorem spec_l22Is_ok {w0 : World} {fuel : Nat} {p0 : Value} {a0 : (List Timpl_Equation)} {r : Bool} (h0 : Rd (rList Rimpl_Equation) w0 p0 a0) (hm : spec_l22Is_m fuel a0 = some r) :
  Calls Tryd.prog 31 #[p0] w0 fun e w => e = .returned (.bool r) ∧ Heap w0 [] w := by
 unfold spec_l22Is_m at hm
 have H := Heap.start w0
 refine enter (args := [p0]) Tryd.func31 rfl 33 rfl (Nat.le_of_ble_eq_true rfl) (fun a S => ?_)
 refine wp_seq (region_plain ?_)
 refine lq (.bool false) S (q_assign rfl) fun a S => ?_
 refine lx_nil (thenN ?_)
 refine wp_seq (wp_seq (region_plain ?_))
 refine lq p0 S (q_move rfl) fun a S => ?_
 refine lq (.int .i64 (a0.length : Int)) S (q_lenSl rfl (h0).isSl rfl Tryd.underlying34) fun a S => ?_
 refine lq (.bool (decide ((a0.length : Int) < (1 : Int)))) S (q_lss rfl rfl) fun a S => ?_
 refine lq (.bool (decide ((a0.length : Int) < (1 : Int)))) S (q_move rfl) fun a S => ?_
 obtain ⟨t31, e32, hm⟩ := bind_some hm
 refine lx_cut 4 (fun a w => Slots a 33 [(0, p0), (11, (.bool t31))] ∧ Heap w0 [] w) ?_ ?_
 ·by_cases hc33 : (decide ((a0.length : Int) < (1 : Int))) = true
  ·have hm := ite_t hc33 e32
   refine lx_skip S rfl rfl (isB_ne hc33) (by decide) (fun a S => ?_)
   refine lx_skip S rfl rfl (isB_ne hc33) (by decide) (fun a S => ?_)
   refine lx_skip S rfl rfl (isB_ne hc33) (by decide) (fun a S => ?_)
   refine lq (.bool true) S (q_pickT' rfl hc33 rfl) fun a S => ?_
   refine lx_nil ?_
   obtain rfl := Option.some.inj hm
   exact ⟨S.sub ⟨rfl, rfl, trivial⟩, H⟩
  ·have hm := ite_f (eq_false_of_ne_true hc33) e32
   have hc33 : (decide ((a0.length : Int) < (1 : Int))) = false := eq_false_of_ne_true hc33
   refine lx_q p0 S (want_b rfl rfl hc33) (by decide) (q_move rfl) (fun a S => ?_)
   refine lx_q (.int .i64 (a0.length : Int)) S (want_b rfl rfl hc33) (by decide) (q_lenSl rfl (h0).isSl rfl Tryd.underlying34) (fun a S => ?_)
   refine lx_q (.bool (decide ((120 : Int) < (a0.length : Int)))) S (want_b rfl rfl hc33) (by decide) (q_gtr rfl rfl) (fun a S => ?_)
   refine lq (.bool (decide ((120 : Int) < (a0.length : Int)))) S (q_pickF' rfl hc33 rfl) fun a S => ?_
   refine lx_nil ?_
   obtain rfl := Option.some.inj hm
   exact ⟨S.sub ⟨rfl, rfl, trivial⟩, H⟩
 ·rintro a w ⟨S, H⟩
  refine lq (.bool t31) S (q_move rfl) fun a S => ?_
  obtain ⟨t34, e35, hm⟩ := bind_some hm
  refine lx_cut 4 (fun a w => Slots a 33 [(0, p0), (16, (.bool t34))] ∧ Heap w0 [] w) ?_ ?_
  ·by_cases hc36 : t31 = true
   ·have hm := ite_t hc36 e35
    refine lx_skip S rfl rfl (isB_ne hc36) (by decide) (fun a S => ?_)
    refine lx_skip S rfl rfl (isB_ne hc36) (by decide) (fun a S => ?_)
    refine lx_skip S rfl rfl (isB_ne hc36) (by decide) (fun a S => ?_)
    refine lq (.bool true) S (q_pickT' rfl hc36 rfl) fun a S => ?_
    refine lx_nil ?_
    obtain rfl := Option.some.inj hm
    exact ⟨S.sub ⟨rfl, rfl, trivial⟩, H⟩
   ·have hm := ite_f (eq_false_of_ne_true hc36) e35
    have hc36 : t31 = false := eq_false_of_ne_true hc36
    refine lx_q p0 S (want_b rfl rfl hc36) (by decide) (q_move rfl) (fun a S => ?_)
    obtain ⟨x39, e40, hm⟩ := bind_some hm
    refine lx_call (xs := [.tmp 13]) S (want_b rfl rfl hc36) (by decide) rfl rfl Tryd.call56 ((spec_l22Count_ok (H.arg h0) e40).mono ?_)
    rintro e w37 ⟨rfl, Hc38⟩
    have H := H.call0 Hc38
    refine ⟨_, rfl, trivial, fun a S => ?_⟩
    refine lx_q (.bool (decide ((9 : Int) < x39))) S (want_b rfl rfl hc36) (by decide) (q_gtr rfl rfl) (fun a S => ?_)
    refine lq (.bool (decide ((9 : Int) < x39))) S (q_pickF' rfl hc36 rfl) fun a S => ?_
    refine lx_nil ?_
    obtain rfl := Option.some.inj hm
    exact ⟨S.sub ⟨rfl, rfl, trivial⟩, H⟩
  ·rintro a w ⟨S, H⟩
   refine lx_nil (thenN ?_)
   refine cond_b S rfl (fun hc42 => ?_) (fun hc42 => ?_)
   ·have hm := ite_t hc42 hm
    refine wp_seq (region_plain ?_)
    refine lq (.bool false) S (q_assign rfl) fun a S => ?_
    refine lx_nil (thenN ?_)
    refine wp_ret (then_ret ?_)
    obtain rfl := Option.some.inj hm
    exact leave1 S rfl rfl ⟨rfl, H⟩
   ·have hm := ite_f hc42 hm
    refine wp_skip (thenN ?_)
    refine wp_seq (wp_seq (region_plain ?_))
    refine lq (.int .i64 (0 : Int)) S (q_assign rfl) fun a S => ?_
    refine lx_nil (thenN ?_)
    obtain ⟨res90, hit91, hk94⟩ := bind_some hm
    obtain ⟨f92, hf93, hit91⟩ := iter_name hit91
    refine block_loop (fun a w => Slots a 33 [] ∧ Heap w0 [] w ∧ res90 = .inl ()) ?_ ?_
    ·rintro a w ⟨S, H, rfl⟩
     have hm := ctl_inl hk94
     refine thenN ?_
     refine wp_seq (region_plain ?_)
     refine lq (.bool true) S (q_assign rfl) fun a S => ?_
     refine lx_nil (thenN ?_)
     refine wp_ret ?_
     obtain rfl := Option.some.inj hm
     exact leave1 S rfl rfl ⟨rfl, H⟩
    ·skip
     refine loop_ghost (fun n a w => ∃ (x66 : Int), Slots a 33 [(0, p0), (3, (.int .i64 x66))] ∧ Heap w0 [] w ∧ iter f92 n (x66) = some res90) _ ⟨(0 : Int), S.sub ⟨rfl, rfl, trivial⟩, H, hit91⟩ ?_
     rintro n a w ⟨x66, S, H, hit91⟩
     obtain ⟨m95, o96, rfl, hm, hc97⟩ := iter_step hit91
     rw [hf93] at hm
     refine wp_seq (wp_seq (region_plain ?_))
     refine lq (.int .i64 x66) S (q_move rfl) fun a S => ?_
     refine lq p0 S (q_move rfl) fun a S => ?_
     refine lq (.int .i64 (a0.length : Int)) S (q_lenSl rfl (h0).isSl rfl Tryd.underlying34) fun a S => ?_
     refine lq (.bool (decide (x66 < (a0.length : Int)))) S (q_lss rfl rfl) fun a S => ?_
     refine lx_nil (thenN ?_)
     refine cond_b S rfl (fun hc98 => ?_) (fun hc98 => ?_)
     ·have hm := ite_t hc98 hm
      refine wp_skip (thenN ?_)
      refine wp_seq ?_
      refine wp_block ?_
      refine wp_seq (region_plain ?_)
      refine lq p0 S (q_move rfl) fun a S => ?_
      refine lq (.int .i64 x66) S (q_move rfl) fun a S => ?_
      obtain ⟨x99, e100, hm⟩ := bind_some hm
      obtain ⟨c101, h102, hat103⟩ := (h0).elem (idx_some e100).2
      obtain ⟨c106, c107, rfl, h108, h109⟩ := h102
      obtain rfl := h108
      obtain ⟨c110, c111, rfl, h112, h113⟩ := h109
      obtain rfl := h112
      obtain ⟨v104, rfl, h105⟩ := rd_list h113
      have hlt := lt_of_idx (idx_some e100).2
      refine lq (ePtr p0 (x66.toNat * 3)) S (q_indexAddr rfl (h0).isSl rfl (idx_some e100).1 hlt Tryd.underlying34 Tryd.sizeOf59) fun a S => ?_
      refine lq (pAdd (ePtr p0 (x66.toNat * 3)) 2) S (q_fieldAddr' 2 48 rfl ((hat103 0 _ rfl).isP) Tryd.underlying59 rfl Tryd.sizeOf48) fun a S => ?_
      refine lx_e v104 S trivial (by decide) rfl trivial (q_load1 rfl Tryd.isAgg48 (by rintro _ rfl; exact (At.of_add (m := 2) (j := 0) ((hat103 2 _ rfl).ext H.ext)))) (fun a S => ?_)
      refine lq p0 S (q_move rfl) fun a S => ?_
      refine lq (.int .i64 (a0.length : Int)) S (q_lenSl rfl (h0).isSl rfl Tryd.underlying34) fun a S => ?_
      refine lq (.int .i64 (W ((a0.length : Int) - (1 : Int)))) S (q_sub rfl rfl) fun a S => ?_
      obtain ⟨x116, e117, hm⟩ := bind_some hm
      refine lx_call (xs := [.tmp 27, .const (.int .i64 (0)), .tmp 30]) S trivial (by decide) rfl rfl Tryd.call57 ((spec_l00Rises_ok (H.arg h105)   e117).mono ?_)
      rintro e w114 ⟨rfl, Hc115⟩
      have H := H.call0 Hc115
      refine ⟨_, rfl, trivial, fun a S => ?_⟩
      refine lq (.bool (!x116)) S (q_not rfl) fun a S => ?_
      refine lx_nil (thenN ?_)
      refine cond_b S rfl (fun hc119 => ?_) (fun hc119 => ?_)
      ·have hm := ite_t hc119 hm
       refine wp_seq (region_plain ?_)
       refine lq (.bool false) S (q_assign rfl) fun a S => ?_
       refine lx_nil (thenN ?_)
       refine wp_ret (inBlock_ret ?_)
       refine then_ret ?_
       refine then_ret ?_
       refine inBlock_ret ?_
       refine then_ret ?_
       refine then_ret ?_
       obtain rfl := it_brk hm hc97
       have hm := ctl_inr hk94
       obtain rfl := Option.some.inj hm
       exact leave1 S rfl rfl ⟨rfl, H⟩
      ·have hm := ite_f hc119 hm
       refine wp_skip ?_
       refine inBlock_norm ?_
       refine thenN ?_
       refine region_plain ?_
       refine lq (.int .i64 x66) S (q_move rfl) fun a S => ?_
       refine lq (.int .i64 (W (x66 + (1 : Int)))) S (q_add rfl rfl) fun a S => ?_
       refine lq (.int .i64 (W (x66 + (1 : Int)))) S (q_assign rfl) fun a S => ?_
       refine lx_nil ?_
       exact ⟨m95, Nat.lt_succ_self _, (W (x66 + (1 : Int))), S.sub ⟨rfl, rfl, trivial⟩, H, it_cont hm hc97⟩
     ·have hm := ite_f hc98 hm
      refine wp_exit ?_
      refine then_exit ?_
      refine then_exit ?_
      refine inBlock_exit ?_
      obtain rfl := it_brk hm hc97
      exact ⟨S.sub trivial, H, rfl⟩

/-- spec.l22Fits -/
def spec_l22Fits_m (fuel : Nat) (a0 : (List Timpl_Equation)) : Option (Bool) :=
  (iter (fun (s : (Int)) => (match s with | (x49) => (if (decide (x49 < (a0.length : Int))) = true then (idx a0 x49).bind fun x77 => (if (decide ((64 : Int) < (x77.2.2.length : Int))) = true then some (.inr (.inr false)) else some (.inl ((W (x49 + (1 : Int)))))) else some (.inr (.inl ()))) : Option (((Int)) ⊕ ((Unit) ⊕ (Bool))))) fuel ((0 : Int))).bind fun res68 => ctl (β := Unit) (ρ := Bool) (τ := Bool) res68 (fun _ => some (true)) (fun q => some (q))
set_option maxRecDepth 20000 in
theorem spec_l22Fits_ok {w0 : World} {fuel : Nat} {p0 : Value} {a0 : (List Timpl_Equation)} {r : Bool} (h0 : Rd (rList Rimpl_Equation) w0 p0 a0) (hm : spec_l22Fits_m fuel a0 = some r) :
  Calls Tryd.prog 32 #[p0] w0 fun e w => e = .returned (.bool r) ∧ Heap w0 [] w := by
 unfold spec_l22Fits_m at hm
 have H := Heap.start w0
 refine enter (args := [p0]) Tryd.func32 rfl 17 rfl (Nat.le_of_ble_eq_true rfl) (fun a S => ?_)
 refine wp_seq (region_plain ?_)
 refine lq (.bool false) S (q_assign rfl) fun a S => ?_
 refine lx_nil (thenN ?_)
 refine wp_seq (wp_seq (region_plain ?_))
 refine lq (.int .i64 (0 : Int)) S (q_assign rfl) fun a S => ?_
 refine lx_nil (thenN ?_)
 obtain ⟨res68, hit69, hk72⟩ := bind_some hm
 obtain ⟨f70, hf71, hit69⟩ := iter_name hit69
 refine block_loop (fun a w => Slots a 17 [] ∧ Heap w0 [] w ∧ res68 = .inl ()) ?_ ?_
 ·rintro a w ⟨S, H, rfl⟩
  have hm := ctl_inl hk72
  refine thenN ?_
  refine wp_seq (region_plain ?_)
  refine lq (.bool true) S (q_assign rfl) fun a S => ?_
  refine lx_nil (thenN ?_)
  refine wp_ret ?_
  obtain rfl := Option.some.inj hm
  exact leave1 S rfl rfl ⟨rfl, H⟩
 ·skip
  refine loop_ghost (fun n a w => ∃ (x49 : Int), Slots a 17 [(0, p0), (3, (.int .i64 x49))] ∧ Heap w0 [] w ∧ iter f70 n (x49) = some res68) _ ⟨(0 : Int), S.sub ⟨rfl, rfl, trivial⟩, H, hit69⟩ ?_
  rintro n a w ⟨x49, S, H, hit69⟩
  obtain ⟨m73, o74, rfl, hm, hc75⟩ := iter_step hit69
  rw [hf71] at hm
  refine wp_seq (wp_seq (region_plain ?_))
  refine lq (.int .i64 x49) S (q_move rfl) fun a S => ?_
  refine lq p0 S (q_move rfl) fun a S => ?_
  refine lq (.int .i64 (a0.length : Int)) S (q_lenSl rfl (h0).isSl rfl Tryd.underlying34) fun a S => ?_
  refine lq (.bool (decide (x49 < (a0.length : Int)))) S (q_lss rfl rfl) fun a S => ?_
  refine lx_nil (thenN ?_)
  refine cond_b S rfl (fun hc76 => ?_) (fun hc76 => ?_)
  ·have hm := ite_t hc76 hm
   refine wp_skip (thenN ?_)
   refine wp_seq ?_
   refine wp_block ?_
   refine wp_seq (region_plain ?_)
   refine lq p0 S (q_move rfl) fun a S => ?_
   refine lq (.int .i64 x49) S (q_move rfl) fun a S => ?_
   obtain ⟨x77, e78, hm⟩ := bind_some hm
   obtain ⟨c79, h80, hat81⟩ := (h0).elem (idx_some e78).2
   obtain ⟨c84, c85, rfl, h86, h87⟩ := h80
   obtain rfl := h86
   obtain ⟨c88, c89, rfl, h90, h91⟩ := h87
   obtain rfl := h90
   obtain ⟨v82, rfl, h83⟩ := rd_list h91
   have hlt := lt_of_idx (idx_some e78).2
   refine lq (ePtr p0 (x49.toNat * 3)) S (q_indexAddr rfl (h0).isSl rfl (idx_some e78).1 hlt Tryd.underlying34 Tryd.sizeOf59) fun a S => ?_
   refine lq (pAdd (ePtr p0 (x49.toNat * 3)) 2) S (q_fieldAddr' 2 48 rfl ((hat81 0 _ rfl).isP) Tryd.underlying59 rfl Tryd.sizeOf48) fun a S => ?_
   refine lx_e v82 S trivial (by decide) rfl trivial (q_load1 rfl Tryd.isAgg48 (by rintro _ rfl; exact (At.of_add (m := 2) (j := 0) ((hat81 2 _ rfl).ext H.ext)))) (fun a S => ?_)
   refine lq (.int .i64 (x77.2.2.length : Int)) S (q_lenSl rfl (h83).isSl rfl Tryd.underlying48) fun a S => ?_
   refine lq (.bool (decide ((64 : Int) < (x77.2.2.length : Int)))) S (q_gtr rfl rfl) fun a S => ?_
   refine lx_nil (thenN ?_)
   refine cond_b S rfl (fun hc92 => ?_) (fun hc92 => ?_)
   ·have hm := ite_t hc92 hm
    refine wp_seq (region_plain ?_)
    refine lq (.bool false) S (q_assign rfl) fun a S => ?_
    refine lx_nil (thenN ?_)
    refine wp_ret (inBlock_ret ?_)
    refine then_ret ?_
    refine then_ret ?_
    refine inBlock_ret ?_
    refine then_ret ?_
    refine then_ret ?_
    obtain rfl := it_brk hm hc75
    have hm := ctl_inr hk72
    obtain rfl := Option.some.inj hm
    exact leave1 S rfl rfl ⟨rfl, H⟩
   ·have hm := ite_f hc92 hm
    refine wp_skip ?_
    refine inBlock_norm ?_
    refine thenN ?_
    refine region_plain ?_
    refine lq (.int .i64 x49) S (q_move rfl) fun a S => ?_
    refine lq (.int .i64 (W (x49 + (1 : Int)))) S (q_add rfl rfl) fun a S => ?_
    refine lq (.int .i64 (W (x49 + (1 : Int)))) S (q_assign rfl) fun a S => ?_
    refine lx_nil ?_
    exact ⟨m73, Nat.lt_succ_self _, (W (x49 + (1 : Int))), S.sub ⟨rfl, rfl, trivial⟩, H, it_cont hm hc75⟩
  ·have hm := ite_f hc76 hm
   refine wp_exit ?_
   refine then_exit ?_
   refine then_exit ?_
   refine inBlock_exit ?_
   obtain rfl := it_brk hm hc75
   exact ⟨S.sub trivial, H, rfl⟩

/-- spec.l22Text -/
def spec_l22Text_m (fuel : Nat) (a0 : (List Timpl_Equation)) : Option (Str) :=
  (iter (fun (s : (Str) × (Int)) => (match s with | (x108, x109) => (if (decide (x109 < (a0.length : Int))) = true then join (κ := Str → Option (((Str) × (Int)) ⊕ ((Str) ⊕ (Str)))) (fun (x197 : Str) => join (κ := Str → Option (((Str) × (Int)) ⊕ ((Str) ⊕ (Str)))) (fun (x200 : Str) => join (κ := Str → Option (((Str) × (Int)) ⊕ ((Str) ⊕ (Str)))) (fun (x203 : Str) => (idx a0 x109).bind fun x206 => (spec_l01List_m fuel x206.2.2).bind fun x223 => (cat x203 x223).bind fun x226 => some (.inl (x226, (W (x109 + (1 : Int)))))) (fun K204 => (idx a0 x109).bind fun x228 => (if x228.2.1 = true then (cat x200 ([97, 108, 108, 32] : Str)).bind fun x244 => (K204 x244) else (cat x200 ([97, 110, 121, 32] : Str)).bind fun x246 => (K204 x246)))) (fun K201 => (idx a0 x109).bind fun x248 => (if x248.1 = true then (cat x197 ([110, 117, 32] : Str)).bind fun x264 => (K201 x264) else (cat x197 ([109, 117, 32] : Str)).bind fun x266 => (K201 x266)))) (fun K198 => (if (decide ((0 : Int) < x109)) = true then (cat x108 ([10] : Str)).bind fun x269 => (K198 x269) else (K198 x108))) else some (.inr (.inl (x108)))) : Option (((Str) × (Int)) ⊕ ((Str) ⊕ (Str))))) fuel (([] : Str), (0 : Int))).bind fun res188 => ctl (β := Str) (ρ := Str) (τ := Str) res188 (fun (x187) => some (x187)) (fun q => some (q))
set_option maxRecDepth 20000 in
theorem spec_l22Text_ok {w0 : World} {fuel : Nat} {p0 : Value} {a0 : (List Timpl_Equation)} {r : Str} (h0 : Rd (rList Rimpl_Equation) w0 p0 a0) (hm : spec_l22Text_m fuel a0 = some r) :
  Calls Tryd.prog 33 #[p0] w0 fun e w => e = .returned (sv r) ∧ Heap w0 [] w := by
 unfold spec_l22Text_m at hm
 have H := Heap.start w0
 refine enter (args := [p0]) Tryd.func33 rfl 42 rfl (Nat.le_of_ble_eq_true rfl) (fun a S => ?_)
 refine wp_seq (region_plain ?_)
 refine lq (sv ([] : Str)) S (q_assign rfl) fun a S => ?_
 refine lx_nil (thenN ?_)
 refine wp_seq (region_plain ?_)
 refine lq (sv ([] : Str)) S (q_assign rfl) fun a S => ?_
 refine lx_nil (thenN ?_)
 refine wp_seq (wp_seq (region_plain ?_))
 refine lq (.int .i64 (0 : Int)) S (q_assign rfl) fun a S => ?_
 refine lx_nil (thenN ?_)
 obtain ⟨res188, hit189, hk192⟩ := bind_some hm
 obtain ⟨f190, hf191, hit189⟩ := iter_name hit189
 refine block_loop (fun a w => ∃ (x187 : Str), Slots a 42 [(3, (sv x187))] ∧ Heap w0 [] w ∧ res188 = .inl (x187)) ?_ ?_
 ·rintro a w ⟨x187, S, H, rfl⟩
  have hm := ctl_inl hk192
  refine thenN ?_
  refine wp_seq (region_plain ?_)
  refine lq (sv x187) S (q_move rfl) fun a S => ?_
  refine lq (sv x187) S (q_assign rfl) fun a S => ?_
  refine lx_nil (thenN ?_)
  refine wp_ret ?_
  obtain rfl := Option.some.inj hm
  exact leave1 S rfl rfl ⟨rfl, H⟩
 ·skip
  refine loop_ghost (fun n a w => ∃ (x108 : Str) (x109 : Int), Slots a 42 [(0, p0), (3, (sv x108)), (4, (.int .i64 x109))] ∧ Heap w0 [] w ∧ iter f190 n (x108, x109) = some res188) _ ⟨([] : Str), (0 : Int), S.sub ⟨rfl, rfl, rfl, trivial⟩, H, hit189⟩ ?_
  rintro n a w ⟨x108, x109, S, H, hit189⟩
  obtain ⟨m193, o194, rfl, hm, hc195⟩ := iter_step hit189
  rw [hf191] at hm
  refine wp_seq (wp_seq (region_plain ?_))
  refine lq (.int .i64 x109) S (q_move rfl) fun a S => ?_
  refine lq p0 S (q_move rfl) fun a S => ?_
  refine lq (.int .i64 (a0.length : Int)) S (q_lenSl rfl (h0).isSl rfl Tryd.underlying34) fun a S => ?_
  refine lq (.bool (decide (x109 < (a0.length : Int)))) S (q_lss rfl rfl) fun a S => ?_
  refine lx_nil (thenN ?_)
  refine cond_b S rfl (fun hc196 => ?_) (fun hc196 => ?_)
  ·have hm := ite_t hc196 hm
   refine wp_skip (thenN ?_)
   refine wp_seq ?_
   refine wp_block ?_
   obtain ⟨K198, hK199, hm⟩ := join_elim hm
   refine seq_cut (fun a w => ∃ (x197 : Str), Slots a 42 [(0, p0), (3, (sv x197)), (4, (.int .i64 x109))] ∧ Heap w0 [] w ∧ K198 x197 = some o194) ?_ ?_
   ·rintro a w ⟨x197, S, H, hm⟩
    subst hK199
    obtain ⟨K201, hK202, hm⟩ := join_elim hm
    refine seq_cut (fun a w => ∃ (x200 : Str), Slots a 42 [(0, p0), (3, (sv x200)), (4, (.int .i64 x109))] ∧ Heap w0 [] w ∧ K201 x200 = some o194) ?_ ?_
    ·rintro a w ⟨x200, S, H, hm⟩
     subst hK202
     obtain ⟨K204, hK205, hm⟩ := join_elim hm
     refine seq_cut (fun a w => ∃ (x203 : Str), Slots a 42 [(0, p0), (3, (sv x203)), (4, (.int .i64 x109))] ∧ Heap w0 [] w ∧ K204 x203 = some o194) ?_ ?_
     ·rintro a w ⟨x203, S, H, hm⟩
      subst hK205
      refine region_plain ?_
      refine lq (sv x203) S (q_move rfl) fun a S => ?_
      refine lq p0 S (q_move rfl) fun a S => ?_
      refine lq (.int .i64 x109) S (q_move rfl) fun a S => ?_
      obtain ⟨x206, e207, hm⟩ := bind_some hm
      obtain ⟨c208, h209, hat210⟩ := (h0).elem (idx_some e207).2
      obtain ⟨c213, c214, rfl, h215, h216⟩ := h209
      obtain rfl := h215
      obtain ⟨c217, c218, rfl, h219, h220⟩ := h216
      obtain rfl := h219
      obtain ⟨v211, rfl, h212⟩ := rd_list h220
      have hlt := lt_of_idx (idx_some e207).2
      refine lq (ePtr p0 (x109.toNat * 3)) S (q_indexAddr rfl (h0).isSl rfl (idx_some e207).1 hlt Tryd.underlying34 Tryd.sizeOf59) fun a S => ?_
      refine lq (pAdd (ePtr p0 (x109.toNat * 3)) 2) S (q_fieldAddr' 2 48 rfl ((hat210 0 _ rfl).isP) Tryd.underlying59 rfl Tryd.sizeOf48) fun a S => ?_
      refine lx_e v211 S trivial (by decide) rfl trivial (q_load1 rfl Tryd.isAgg48 (by rintro _ rfl; exact (At.of_add (m := 2) (j := 0) ((hat210 2 _ rfl).ext H.ext)))) (fun a S => ?_)
      obtain ⟨x223, e224, hm⟩ := bind_some hm
      refine lx_call (xs := [.tmp 38]) S trivial (by decide) rfl rfl Tryd.call47 ((spec_l01List_ok (H.arg h212) e224).mono ?_)
      rintro e w221 ⟨rfl, Hc222⟩
      have H := H.call0 Hc222
      refine ⟨_, rfl, trivial, fun a S => ?_⟩
      obtain ⟨x226, e227, hm⟩ := bind_some hm
      obtain ⟨hle, hcat⟩ := cat_some e227
      subst hcat
      refine lq (sv (x203 ++ x223)) S (q_cat rfl rfl hle) fun a S => ?_
      refine lq (sv (x203 ++ x223)) S (q_assign rfl) fun a S => ?_
      refine lx_nil ?_
      refine inBlock_norm ?_
      refine thenN ?_
      refine region_plain ?_
      refine lq (.int .i64 x109) S (q_move rfl) fun a S => ?_
      refine lq (.int .i64 (W (x109 + (1 : Int)))) S (q_add rfl rfl) fun a S => ?_
      refine lq (.int .i64 (W (x109 + (1 : Int)))) S (q_assign rfl) fun a S => ?_
      refine lx_nil ?_
      exact ⟨m193, Nat.lt_succ_self _, (x203 ++ x223), (W (x109 + (1 : Int))), S.sub ⟨rfl, rfl, rfl, trivial⟩, H, it_cont hm hc195⟩
     ·skip
      refine wp_seq (region_plain ?_)
      refine lq p0 S (q_move rfl) fun a S => ?_
      refine lq (.int .i64 x109) S (q_move rfl) fun a S => ?_
      obtain ⟨x228, e229, hm⟩ := bind_some hm
      obtain ⟨c230, h231, hat232⟩ := (h0).elem (idx_some e229).2
      obtain ⟨c235, c236, rfl, h237, h238⟩ := h231
      obtain rfl := h237
      obtain ⟨c239, c240, rfl, h241, h242⟩ := h238
      obtain rfl := h241
      obtain ⟨v233, rfl, h234⟩ := rd_list h242
      have hlt := lt_of_idx (idx_some e229).2
      refine lq (ePtr p0 (x109.toNat * 3)) S (q_indexAddr rfl (h0).isSl rfl (idx_some e229).1 hlt Tryd.underlying34 Tryd.sizeOf59) fun a S => ?_
      refine lq (pAdd (ePtr p0 (x109.toNat * 3)) 1) S (q_fieldAddr' 1 4 rfl ((hat232 0 _ rfl).isP) Tryd.underlying59 rfl Tryd.sizeOf4) fun a S => ?_
      refine lx_e (.bool x228.2.1) S trivial (by decide) rfl trivial (q_load1 rfl Tryd.isAgg4 (by rintro _ rfl; exact (At.of_add (m := 1) (j := 0) ((hat232 1 _ rfl).ext H.ext)))) (fun a S => ?_)
      refine lx_nil (thenN ?_)
      refine cond_b S rfl (fun hc243 => ?_) (fun hc243 => ?_)
      ·have hm := ite_t hc243 hm
       refine region_plain ?_
       refine lq (sv x200) S (q_move rfl) fun a S => ?_
       obtain ⟨x244, e245, hm⟩ := bind_some hm
       obtain ⟨hle, hcat⟩ := cat_some e245
       subst hcat
       refine lq (sv (x200 ++ ([97, 108, 108, 32] : Str))) S (q_cat rfl rfl hle) fun a S => ?_
       refine lq (sv (x200 ++ ([97, 108, 108, 32] : Str))) S (q_assign rfl) fun a S => ?_
       refine lx_nil ?_
       exact ⟨(x200 ++ ([97, 108, 108, 32] : Str)), S.sub ⟨rfl, rfl, rfl, trivial⟩, H, hm⟩
      ·have hm := ite_f hc243 hm
       refine region_plain ?_
       refine lq (sv x200) S (q_move rfl) fun a S => ?_
       obtain ⟨x246, e247, hm⟩ := bind_some hm
       obtain ⟨hle, hcat⟩ := cat_some e247
       subst hcat
       refine lq (sv (x200 ++ ([97, 110, 121, 32] : Str))) S (q_cat rfl rfl hle) fun a S => ?_
       refine lq (sv (x200 ++ ([97, 110, 121, 32] : Str))) S (q_assign rfl) fun a S => ?_
       refine lx_nil ?_
       exact ⟨(x200 ++ ([97, 110, 121, 32] : Str)), S.sub ⟨rfl, rfl, rfl, trivial⟩, H, hm⟩
    ·skip
     refine wp_seq (region_plain ?_)
     refine lq p0 S (q_move rfl) fun a S => ?_
     refine lq (.int .i64 x109) S (q_move rfl) fun a S => ?_
     obtain ⟨x248, e249, hm⟩ := bind_some hm
     obtain ⟨c250, h251, hat252⟩ := (h0).elem (idx_some e249).2
     obtain ⟨c255, c256, rfl, h257, h258⟩ := h251
     obtain rfl := h257
     obtain ⟨c259, c260, rfl, h261, h262⟩ := h258
     obtain rfl := h261
     obtain ⟨v253, rfl, h254⟩ := rd_list h262
     have hlt := lt_of_idx (idx_some e249).2
     refine lq (ePtr p0 (x109.toNat * 3)) S (q_indexAddr rfl (h0).isSl rfl (idx_some e249).1 hlt Tryd.underlying34 Tryd.sizeOf59) fun a S => ?_
     refine lq (pAdd (ePtr p0 (x109.toNat * 3)) 0) S (q_fieldAddr' 0 4 rfl ((hat252 0 _ rfl).isP) Tryd.underlying59 rfl Tryd.sizeOf4) fun a S => ?_
     refine lx_e (.bool x248.1) S trivial (by decide) rfl trivial (q_load1 rfl Tryd.isAgg4 (by rintro _ rfl; exact (At.of_add (m := 0) (j := 0) ((hat252 0 _ rfl).ext H.ext)))) (fun a S => ?_)
     refine lx_nil (thenN ?_)
     refine cond_b S rfl (fun hc263 => ?_) (fun hc263 => ?_)
     ·have hm := ite_t hc263 hm
      refine region_plain ?_
      refine lq (sv x197) S (q_move rfl) fun a S => ?_
      obtain ⟨x264, e265, hm⟩ := bind_some hm
      obtain ⟨hle, hcat⟩ := cat_some e265
      subst hcat
      refine lq (sv (x197 ++ ([110, 117, 32] : Str))) S (q_cat rfl rfl hle) fun a S => ?_
      refine lq (sv (x197 ++ ([110, 117, 32] : Str))) S (q_assign rfl) fun a S => ?_
      refine lx_nil ?_
      exact ⟨(x197 ++ ([110, 117, 32] : Str)), S.sub ⟨rfl, rfl, rfl, trivial⟩, H, hm⟩
     ·have hm := ite_f hc263 hm
      refine region_plain ?_
      refine lq (sv x197) S (q_move rfl) fun a S => ?_
      obtain ⟨x266, e267, hm⟩ := bind_some hm
      obtain ⟨hle, hcat⟩ := cat_some e267
      subst hcat
      refine lq (sv (x197 ++ ([109, 117, 32] : Str))) S (q_cat rfl rfl hle) fun a S => ?_
      refine lq (sv (x197 ++ ([109, 117, 32] : Str))) S (q_assign rfl) fun a S => ?_
      refine lx_nil ?_
      exact ⟨(x197 ++ ([109, 117, 32] : Str)), S.sub ⟨rfl, rfl, rfl, trivial⟩, H, hm⟩
   ·skip
    refine wp_seq (region_plain ?_)
    refine lq (.int .i64 x109) S (q_move rfl) fun a S => ?_
    refine lq (.bool (decide ((0 : Int) < x109))) S (q_gtr rfl rfl) fun a S => ?_
    refine lx_nil (thenN ?_)
    refine cond_b S rfl (fun hc268 => ?_) (fun hc268 => ?_)
    ·have hm := ite_t hc268 hm
     refine region_plain ?_
     refine lq (sv x108) S (q_move rfl) fun a S => ?_
     obtain ⟨x269, e270, hm⟩ := bind_some hm
     obtain ⟨hle, hcat⟩ := cat_some e270
     subst hcat
     refine lq (sv (x108 ++ ([10] : Str))) S (q_cat rfl rfl hle) fun a S => ?_
     refine lq (sv (x108 ++ ([10] : Str))) S (q_assign rfl) fun a S => ?_
     refine lx_nil ?_
     exact ⟨(x108 ++ ([10] : Str)), S.sub ⟨rfl, rfl, rfl, trivial⟩, H, hm⟩
    ·have hm := ite_f hc268 hm
     refine wp_skip ?_
     exact ⟨x108, S.sub ⟨rfl, rfl, rfl, trivial⟩, H, hm⟩
  ·have hm := ite_f hc196 hm
   refine wp_exit ?_
   refine then_exit ?_
   refine then_exit ?_
   refine inBlock_exit ?_
   obtain rfl := it_brk hm hc195
   exact ⟨x108, S.sub ⟨rfl, trivial⟩, H, rfl⟩

/-- spec.EquationsText -/
def spec_EquationsText_m (fuel : Nat) (a0 : (List Timpl_Equation)) : Option (Str) :=
  (spec_l22Is_m fuel a0).bind fun x33 => (if (!x33) = true then some true else (spec_l22Fits_m fuel a0).bind fun x41 => some (!x41)).bind fun t36 => (if t36 = true then some (([] : Str)) else (spec_l22Text_m fuel a0).bind fun x47 => some (x47))
set_option maxRecDepth 20000 in
theorem spec_EquationsText_ok {w0 : World} {fuel : Nat} {p0 : Value} {a0 : (List Timpl_Equation)} {r : Str} (h0 : Rd (rList Rimpl_Equation) w0 p0 a0) (hm : spec_EquationsText_m fuel a0 = some r) :
  Calls Tryd.prog 12 #[p0] w0 fun e w => e = .returned (sv r) ∧ Heap w0 [] w := by
 unfold spec_EquationsText_m at hm
 have H := Heap.start w0
 refine enter (args := [p0]) Tryd.func12 rfl 13 rfl (Nat.le_of_ble_eq_true rfl) (fun a S => ?_)
 refine wp_seq (region_plain ?_)
 refine lq (sv ([] : Str)) S (q_assign rfl) fun a S => ?_
 refine lx_nil (thenN ?_)
 refine wp_seq (wp_seq (region_plain ?_))
 refine lq p0 S (q_move rfl) fun a S => ?_
 obtain ⟨x33, e34, hm⟩ := bind_some hm
 refine lx_call (xs := [.tmp 3]) S trivial (by decide) rfl rfl Tryd.call31 ((spec_l22Is_ok (H.arg h0) e34).mono ?_)
 rintro e w31 ⟨rfl, Hc32⟩
 have H := H.call0 Hc32
 refine ⟨_, rfl, trivial, fun a S => ?_⟩
 refine lq (.bool (!x33)) S (q_not rfl) fun a S => ?_
 refine lq (.bool (!x33)) S (q_move rfl) fun a S => ?_
 obtain ⟨t36, e37, hm⟩ := bind_some hm
 refine lx_cut 4 (fun a w => Slots a 13 [(0, p0), (10, (.bool t36))] ∧ Heap w0 [] w) ?_ ?_
 ·by_cases hc38 : (!x33) = true
  ·have hm := ite_t hc38 e37
   refine lx_skip S rfl rfl (isB_ne hc38) (by decide) (fun a S => ?_)
   refine lx_skip S rfl rfl (isB_ne hc38) (by decide) (fun a S => ?_)
   refine lx_skip S rfl rfl (isB_ne hc38) (by decide) (fun a S => ?_)
   refine lq (.bool true) S (q_pickT' rfl hc38 rfl) fun a S => ?_
   refine lx_nil ?_
   obtain rfl := Option.some.inj hm
   exact ⟨S.sub ⟨rfl, rfl, trivial⟩, H⟩
  ·have hm := ite_f (eq_false_of_ne_true hc38) e37
   have hc38 : (!x33) = false := eq_false_of_ne_true hc38
   refine lx_q p0 S (want_b rfl rfl hc38) (by decide) (q_move rfl) (fun a S => ?_)
   obtain ⟨x41, e42, hm⟩ := bind_some hm
   refine lx_call (xs := [.tmp 7]) S (want_b rfl rfl hc38) (by decide) rfl rfl Tryd.call32 ((spec_l22Fits_ok (H.arg h0) e42).mono ?_)
   rintro e w39 ⟨rfl, Hc40⟩
   have H := H.call0 Hc40
   refine ⟨_, rfl, trivial, fun a S => ?_⟩
   refine lx_q (.bool (!x41)) S (want_b rfl rfl hc38) (by decide) (q_not rfl) (fun a S => ?_)
   refine lq (.bool (!x41)) S (q_pickF' rfl hc38 rfl) fun a S => ?_
   refine lx_nil ?_
   obtain rfl := Option.some.inj hm
   exact ⟨S.sub ⟨rfl, rfl, trivial⟩, H⟩
 ·rintro a w ⟨S, H⟩
  refine lx_nil (thenN ?_)
  refine cond_b S rfl (fun hc44 => ?_) (fun hc44 => ?_)
  ·have hm := ite_t hc44 hm
   refine wp_seq (region_plain ?_)
   refine lq (sv ([] : Str)) S (q_assign rfl) fun a S => ?_
   refine lx_nil (thenN ?_)
   refine wp_ret (then_ret ?_)
   obtain rfl := Option.some.inj hm
   exact leave1 S rfl rfl ⟨rfl, H⟩
  ·have hm := ite_f hc44 hm
   refine wp_skip (thenN ?_)
   refine wp_seq (region_plain ?_)
   refine lq p0 S (q_move rfl) fun a S => ?_
   obtain ⟨x47, e48, hm⟩ := bind_some hm
   refine lx_call (xs := [.tmp 11]) S trivial (by decide) rfl rfl Tryd.call33 ((spec_l22Text_ok (H.arg h0) e48).mono ?_)
   rintro e w45 ⟨rfl, Hc46⟩
   have H := H.call0 Hc46
   refine ⟨_, rfl, trivial, fun a S => ?_⟩
   refine lq (sv x47) S (q_assign rfl) fun a S => ?_
   refine lx_nil (thenN ?_)
   refine wp_ret ?_
   obtain rfl := Option.some.inj hm
   exact leave1 S rfl rfl ⟨rfl, H⟩

/-- impl.equationBlocks -/
def impl_equationBlocks_m (fuel : Nat) (a0 : (List Timpl_Equation)) : Option ((List Int)) :=
  (iter (fun (s : (List Int) × (Int) × (Int)) => (match s with | (xs90, x92, x93) => (if (decide (x93 < (a0.length : Int))) = true then (idx a0 x93).bind fun x164 => join (κ := Int → Option (((List Int) × (Int) × (Int)) ⊕ (((List Int)) ⊕ ((List Int))))) (fun (x183 : Int) => (app xs90 [x183]).bind fun x189 => some (.inl (x189, x183, (W (x93 + (1 : Int)))))) (fun K184 => (if (decide ((0 : Int) < x93)) = true then (idx a0 (W (x93 - (1 : Int)))).bind fun x199 => some (x164.1 != x199.1) else some false).bind fun t196 => (if t196 = true then (K184 (W (x92 + (1 : Int)))) else (K184 x92))) else some (.inr (.inl (xs90)))) : Option (((List Int) × (Int) × (Int)) ⊕ (((List Int)) ⊕ ((List Int)))))) fuel ([], (0 : Int), (0 : Int))).bind fun res154 => ctl (β := (List Int)) (ρ := (List Int)) (τ := (List Int)) res154 (fun (xs152) => some (xs152)) (fun q => some (q))
set_option maxRecDepth 20000 in
theorem impl_equationBlocks_ok {w0 : World} {fuel : Nat} {p0 : Value} {a0 : (List Timpl_Equation)} {r : (List Int)} (h0 : Rd (rList Rimpl_Equation) w0 p0 a0) (hm : impl_equationBlocks_m fuel a0 = some r) :
  Calls Tryd.prog 73 #[p0] w0 fun e w => ∃ (v0 : Value), e = .returned (v0) ∧ Heap w0 [oA (rList (rInt .i64)) v0 r] w := by
 unfold impl_equationBlocks_m at hm
 have H := Heap.start w0
 refine enter (args := [p0]) Tryd.func73 rfl 35 rfl (Nat.le_of_ble_eq_true rfl) (fun a S => ?_)
 refine wp_seq (region_plain ?_)
 refine lq (.slice none 0 0) S (q_assign rfl) fun a S => ?_
 refine lx_nil (thenN ?_)
 refine wp_seq (region_plain ?_)
 refine lq (.slice none 0 0) S (q_assign rfl) fun a S => ?_
 refine lx_nil (thenN ?_)
 refine wp_seq (region_plain ?_)
 refine lq (.int .i64 (0 : Int)) S (q_assign rfl) fun a S => ?_
 refine lx_nil (thenN ?_)
 refine wp_seq (wp_seq (region_plain ?_))
 refine lq p0 S (q_move rfl) fun a S => ?_
 refine lq (.int .i64 (a0.length : Int)) S (q_lenSl rfl (h0).isSl rfl Tryd.underlying34) fun a S => ?_
 refine lq (.int .i64 (0 : Int)) S (q_move rfl) fun a S => ?_
 refine lx_nil (thenN ?_)
 obtain ⟨res154, hit155, hk158⟩ := bind_some hm
 obtain ⟨f156, hf157, hit155⟩ := iter_name hit155
 refine block_loop (fun a w => ∃ (xs152 : List Int) (v151 : Value), Slots a 35 [(3, v151)] ∧ Heap w0 [oA (rList (rInt .i64)) v151 xs152] w ∧ res154 = .inl (xs152)) ?_ ?_
 ·rintro a w ⟨xs152, v151, S, H, rfl⟩
  have hm := ctl_inl hk158
  refine thenN ?_
  refine wp_seq (region_plain ?_)
  refine lq v151 S (q_move rfl) fun a S => ?_
  refine lq v151 S (q_assign rfl) fun a S => ?_
  refine lx_nil (thenN ?_)
  refine wp_ret ?_
  obtain rfl := Option.some.inj hm
  exact leave1 S rfl rfl ⟨v151, rfl, H⟩
 ·skip
  have H : Heap w0 [oA (rList (rInt .i64)) (.slice none 0 0) ([] : List Int)] w0 := H.nilList (rInt .i64)
  refine loop_ghost (fun n a w => ∃ (xs90 : List Int) (x92 : Int) (x93 : Int) (v89 : Value), Slots a 35 [(0, p0), (3, v89), (4, (.int .i64 x92)), (7, p0), (8, (.int .i64 (a0.length : Int))), (9, (.int .i64 x93))] ∧ Heap w0 [oA (rList (rInt .i64)) v89 xs90] w ∧ iter f156 n (xs90, x92, x93) = some res154) _ ⟨[], (0 : Int), (0 : Int), (.slice none 0 0), S.sub ⟨rfl, rfl, rfl, rfl, rfl, rfl, trivial⟩, H, hit155⟩ ?_
  rintro n a w ⟨xs90, x92, x93, v89, S, H, hit155⟩
  obtain ⟨m160, o161, rfl, hm, hc162⟩ := iter_step hit155
  rw [hf157] at hm
  refine wp_seq (region_plain ?_)
  refine lq (.bool (decide (x93 < (a0.length : Int)))) S (q_lss rfl rfl) fun a S => ?_
  refine lx_nil (thenN ?_)
  refine wp_seq ?_
  refine cond_b S rfl (fun hc163 => ?_) (fun hc163 => ?_)
  ·have hm := ite_t hc163 hm
   refine wp_skip (thenN ?_)
   refine wp_seq ?_
   refine wp_block ?_
   refine wp_seq (region_plain ?_)
   refine lq (.int .i64 x93) S (q_move rfl) fun a S => ?_
   obtain ⟨x164, e165, hm⟩ := bind_some hm
   obtain ⟨c166, h167, hat168⟩ := (h0).elem (idx_some e165).2
   obtain ⟨c171, c172, rfl, h173, h174⟩ := h167
   obtain rfl := h173
   obtain ⟨c175, c176, rfl, h177, h178⟩ := h174
   obtain rfl := h177
   obtain ⟨v169, rfl, h170⟩ := rd_list h178
   have hlt := lt_of_idx (idx_some e165).2
   refine lq (ePtr p0 (x93.toNat * 3)) S (q_indexAddr rfl (h0).isSl rfl (idx_some e165).1 hlt Tryd.underlying34 Tryd.sizeOf59) fun a S => ?_
   refine lx_e (.agg #[(.bool x164.1), (.bool x164.2.1), v169]) S trivial (by decide) rfl trivial (q_loadA (cs := [(.bool x164.1), (.bool x164.2.1), v169]) rfl ((hat168 0 _ rfl).isP) Tryd.isAgg59 Tryd.sizeOf59 (by rintro _ rfl; exact (fun j u hu => (hat168 j u hu).ext H.ext))) (fun a S => ?_)
   refine lx_alloc S trivial (by decide) rfl H Tryd.zeroValue59 rfl (fun b179 w180 H => ⟨trivial, fun a S => ?_⟩)
   refine lq (.int .i64 x93) S (q_assign rfl) fun a S => ?_
   refine lx_storeBox (o := 0) (i := 0) (us := [(.bool x164.1), (.bool x164.2.1), v169]) (cs' := [(.bool x164.1), (.bool x164.2.1), v169]) S trivial rfl H rfl rfl rfl rfl Tryd.sizeOf59 (Nat.le_of_ble_eq_true rfl) (List.forall_mem_cons.2 ⟨rfl, (List.forall_mem_cons.2 ⟨rfl, (List.forall_mem_cons.2 ⟨one_sl (h170).isSl, (fun _ h => nomatch h)⟩)⟩)⟩) rfl (fun w182 H => ⟨trivial, fun a S => ?_⟩)
   change Heap w0 [bA b179 [(.bool x164.1), (.bool x164.2.1), v169] 59, oA (rList (rInt .i64)) v89 xs90] w182 at H
   refine lx_nil (thenN ?_)
   obtain ⟨K184, hK185, hm⟩ := join_elim hm
   refine seq_cut (fun a w => ∃ (x183 : Int), Slots a 35 [(0, p0), (3, v89), (4, (.int .i64 x183)), (7, p0), (8, (.int .i64 (a0.length : Int))), (9, (.int .i64 x93))] ∧ Heap w0 [oA (rList (rInt .i64)) v89 xs90] w ∧ K184 x183 = some o161) ?_ ?_
   ·rintro a w ⟨x183, S, H, hm⟩
    subst hK185
    refine region_plain ?_
    refine lq v89 S (q_move rfl) fun a S => ?_
    refine lq (.int .i64 x183) S (q_move rfl) fun a S => ?_
    refine lx_buildSlice (r := (rInt .i64)) (xs := [x183]) (ps := [(0, [(.int .i64 x183)])]) (cs := [(.int .i64 x183)]) (parts := [(0, .tmp 30)]) S trivial (by decide) rfl (H.put0 (A := eA) rfl) rfl Tryd.underlying48 Tryd.sizeOf2 Tryd.zeroValue2 (by decide) ⟨rfl, rfl, Nat.le_of_ble_eq_true rfl, trivial⟩ (by intro zs hz; exact fill_dense hz ⟨rfl, trivial⟩ rfl rfl) rfl (by decide) (fun w F hA => by cases (show F = [] from hA); exact ⟨_, _, [(.int .i64 x183)], _, rfl, rfl, ⟨rfl, rfl⟩, ⟨rfl, rfl⟩⟩) (fun v186 w187 H => ⟨trivial, fun a S => ?_⟩)
    obtain ⟨x189, e190, hm⟩ := bind_some hm
    obtain ⟨hle, hap⟩ := app_some e190
    replace hap := hap.symm
    subst hap
    have H : Heap w0 [oA (rList (rInt .i64)) v186 [x183], oA (rList (rInt .i64)) v89 xs90] w187 := H.front 0 rfl
    have H : Heap w0 [oA (rList (rInt .i64)) v89 xs90, oA (rList (rInt .i64)) v186 [x183]] w187 := H.front 1 rfl
    refine lx_appendOwn (r := (rInt .i64)) S trivial (by decide) rfl H rfl rfl Tryd.underlying48 Tryd.ti2 rfl rfl rfl (Nat.le_of_ble_eq_true rfl) (by decide) hle (fun v191 w192 H => ⟨trivial, fun a S => ?_⟩)
    refine lq v191 S (q_assign rfl) fun a S => ?_
    refine lx_nil ?_
    refine inBlock_norm ?_
    refine thenN ?_
    refine region_plain ?_
    refine lq (.int .i64 (W (x93 + (1 : Int)))) S (q_add rfl rfl) fun a S => ?_
    refine lq (.int .i64 (W (x93 + (1 : Int)))) S (q_move rfl) fun a S => ?_
    refine lx_nil ?_
    exact ⟨m160, Nat.lt_succ_self _, (xs90 ++ [x183]), x183, (W (x93 + (1 : Int))), v191, S.sub ⟨rfl, rfl, rfl, rfl, rfl, rfl, trivial⟩, H, it_cont hm hc162⟩
   ·skip
    refine wp_seq ?_
    refine region_drawG (fun w1 => Heap w0 [bA b179 [(.bool x164.1), (.bool x164.2.1), v169] 59] w1) (fun i => [].contains i) mixed (by kernel_rfl) (fun w195 he194 => ?_)
    have H := H.later he194
    refine ⟨H.sel [0] (by decide), ?_⟩
    refine lq (.int .i64 x93) S (q_move rfl) fun a S => ?_
    refine lq (.bool (decide ((0 : Int) < x93))) S (q_gtr rfl rfl) fun a S => ?_
    refine lq (.bool (decide ((0 : Int) < x93))) S (q_move rfl) fun a S => ?_
    obtain ⟨t196, e197, hm⟩ := bind_some hm
    refine lx_cut 10 (fun a w => Slots a 35 [(0, p0), (3, v89), (4, (.int .i64 x92)), (7, p0), (8, (.int .i64 (a0.length : Int))), (9, (.int .i64 x93)), (26, (.bool t196))] ∧ Heap w0 [oA (rList (rInt .i64)) v89 xs90] w) ?_ ?_
    ·by_cases hc198 : (decide ((0 : Int) < x93)) = true
     ·have hm := ite_t hc198 e197
      refine lx_q (pAdd (bp b179) 0) S (want_b rfl rfl hc198) (by decide) (q_fieldAddr' 0 4 rfl (isP_bp _) Tryd.underlying59 rfl Tryd.sizeOf4) (fun a S => ?_)
      refine lx_q (.bool x164.1) S (want_b rfl rfl hc198) (by decide) (q_load1 rfl Tryd.isAgg4 (fun w1 hC => (At.of_add (m := 0) (j := 0) (boxAt (i := 0) hC rfl (j := 0) rfl)))) (fun a S => ?_)
      refine lx_q p0 S (want_b rfl rfl hc198) (by decide) (q_move rfl) (fun a S => ?_)
      refine lx_q (.int .i64 x93) S (want_b rfl rfl hc198) (by decide) (q_move rfl) (fun a S => ?_)
      refine lx_q (.int .i64 (W (x93 - (1 : Int)))) S (want_b rfl rfl hc198) (by decide) (q_sub rfl rfl) (fun a S => ?_)
      obtain ⟨x199, e200, hm⟩ := bind_some hm
      obtain ⟨c201, h202, hat203⟩ := (h0).elem (idx_some e200).2
      obtain ⟨c206, c207, rfl, h208, h209⟩ := h202
      obtain rfl := h208
      obtain ⟨c210, c211, rfl, h212, h213⟩ := h209
      obtain rfl := h212
      obtain ⟨v204, rfl, h205⟩ := rd_list h213
      have hlt := lt_of_idx (idx_some e200).2
      refine lx_q (ePtr p0 ((W (x93 - (1 : Int))).toNat * 3)) S (want_b rfl rfl hc198) (by decide) (q_indexAddr rfl (h0).isSl rfl (idx_some e200).1 hlt Tryd.underlying34 Tryd.sizeOf59) (fun a S => ?_)
      refine lx_q (pAdd (ePtr p0 ((W (x93 - (1 : Int))).toNat * 3)) 0) S (want_b rfl rfl hc198) (by decide) (q_fieldAddr' 0 4 rfl ((hat203 0 _ rfl).isP) Tryd.underlying59 rfl Tryd.sizeOf4) (fun a S => ?_)
      refine lx_q (.bool x199.1) S (want_b rfl rfl hc198) (by decide) (q_load1 rfl Tryd.isAgg4 (fun w1 hC => (At.of_add (m := 0) (j := 0) ((hat203 0 _ rfl).ext hC.ext)))) (fun a S => ?_)
      refine lx_q (.bool (x164.1 != x199.1)) S (want_b rfl rfl hc198) (by decide) (q_bneq rfl rfl Tryd.underlying4) (fun a S => ?_)
      refine lq (.bool (x164.1 != x199.1)) S (q_pickT' rfl hc198 rfl) fun a S => ?_
      refine lx_nil ?_
      obtain rfl := Option.some.inj hm
      have H := H.sel [1] (by decide)
      exact ⟨S.sub ⟨rfl, rfl, rfl, rfl, rfl, rfl, rfl, trivial⟩, H⟩
     ·have hm := ite_f (eq_false_of_ne_true hc198) e197
      have hc198 : (decide ((0 : Int) < x93)) = false := eq_false_of_ne_true hc198
      refine lx_skip S rfl rfl (isB_ne hc198) (by decide) (fun a S => ?_)
      refine lx_skip S rfl rfl (isB_ne hc198) (by decide) (fun a S => ?_)
      refine lx_skip S rfl rfl (isB_ne hc198) (by decide) (fun a S => ?_)
      refine lx_skip S rfl rfl (isB_ne hc198) (by decide) (fun a S => ?_)
      refine lx_skip S rfl rfl (isB_ne hc198) (by decide) (fun a S => ?_)
      refine lx_skip S rfl rfl (isB_ne hc198) (by decide) (fun a S => ?_)
      refine lx_skip S rfl rfl (isB_ne hc198) (by decide) (fun a S => ?_)
      refine lx_skip S rfl rfl (isB_ne hc198) (by decide) (fun a S => ?_)
      refine lx_skip S rfl rfl (isB_ne hc198) (by decide) (fun a S => ?_)
      refine lq (.bool false) S (q_pickF' rfl hc198 rfl) fun a S => ?_
      refine lx_nil ?_
      obtain rfl := Option.some.inj hm
      have H := H.sel [1] (by decide)
      exact ⟨S.sub ⟨rfl, rfl, rfl, rfl, rfl, rfl, rfl, trivial⟩, H⟩
    ·rintro a w ⟨S, H⟩
     refine lx_nil (thenN ?_)
     refine cond_b S rfl (fun hc214 => ?_) (fun hc214 => ?_)
     ·have hm := ite_t hc214 hm
      refine region_plain ?_
      refine lq (.int .i64 x92) S (q_move rfl) fun a S => ?_
      refine lq (.int .i64 (W (x92 + (1 : Int)))) S (q_add rfl rfl) fun a S => ?_
      refine lq (.int .i64 (W (x92 + (1 : Int)))) S (q_assign rfl) fun a S => ?_
      refine lx_nil ?_
      exact ⟨(W (x92 + (1 : Int))), S.sub ⟨rfl, rfl, rfl, rfl, rfl, rfl, trivial⟩, H, hm⟩
     ·have hm := ite_f hc214 hm
      refine wp_skip ?_
      exact ⟨x92, S.sub ⟨rfl, rfl, rfl, rfl, rfl, rfl, trivial⟩, H, hm⟩
  ·have hm := ite_f hc163 hm
   refine wp_exit ?_
   refine then_exit ?_
   refine then_exit ?_
   refine inBlock_exit ?_
   obtain rfl := it_brk hm hc162
   exact ⟨xs90, v89, S.sub ⟨rfl, trivial⟩, H, rfl⟩

/-- impl.last[int64] -/
def impl_last_int64_m (_ : Nat) (a0 : (List Int)) : Option (Int) :=
  (idx a0 (W ((a0.length : Int) - (1 : Int)))).bind fun x31 => some (x31)
set_option maxRecDepth 20000 in
theorem impl_last_int64_ok {w0 : World} {fuel : Nat} {p0 : Value} {a0 : (List Int)} {r : Int} (h0 : Rd (rList (rInt .i64)) w0 p0 a0) (hm : impl_last_int64_m fuel a0 = some r) :
  Calls Tryd.prog 72 #[p0] w0 fun e w => e = .returned (.int .i64 r) ∧ Heap w0 [] w := by
 unfold impl_last_int64_m at hm
 have H := Heap.start w0
 refine enter (args := [p0]) Tryd.func72 rfl 9 rfl (Nat.le_of_ble_eq_true rfl) (fun a S => ?_)
 refine wp_seq (region_plain ?_)
 refine lq (.int .i64 (0 : Int)) S (q_assign rfl) fun a S => ?_
 refine lx_nil (thenN ?_)
 refine wp_seq (region_plain ?_)
 refine lq p0 S (q_move rfl) fun a S => ?_
 refine lq p0 S (q_move rfl) fun a S => ?_
 refine lq (.int .i64 (a0.length : Int)) S (q_lenSl rfl (h0).isSl rfl Tryd.underlying48) fun a S => ?_
 refine lq (.int .i64 (W ((a0.length : Int) - (1 : Int)))) S (q_sub rfl rfl) fun a S => ?_
 obtain ⟨x31, e32, hm⟩ := bind_some hm
 obtain ⟨c33, h34, hat35⟩ := (h0).elem (idx_some e32).2
 obtain rfl := h34
 have hlt := lt_of_idx (idx_some e32).2
 refine lq (ePtr p0 ((W ((a0.length : Int) - (1 : Int))).toNat * 1)) S (q_indexAddr rfl (h0).isSl rfl (idx_some e32).1 hlt Tryd.underlying48 Tryd.sizeOf2) fun a S => ?_
 refine lx_e (.int .i64 x31) S trivial (by decide) rfl trivial (q_load1 rfl Tryd.isAgg2 (by rintro _ rfl; exact ((hat35 0 _ rfl).ext H.ext))) (fun a S => ?_)
 refine lq (.int .i64 x31) S (q_assign rfl) fun a S => ?_
 refine lx_nil (thenN ?_)
 refine wp_ret ?_
 obtain rfl := Option.some.inj hm
 exact leave1 S rfl rfl ⟨rfl, H⟩

/-- impl.blocksFit -/
def impl_blocksFit_m (fuel : Nat) (a0 : (List Timpl_Equation)) : Option (Bool) :=
  (impl_equationBlocks_m fuel a0).bind fun x33 => (impl_last_int64_m fuel x33).bind fun x40 => some ((decide (x40 < (9 : Int))))
set_option maxRecDepth 20000 in
theorem impl_blocksFit_ok {w0 : World} {fuel : Nat} {p0 : Value} {a0 : (List Timpl_Equation)} {r : Bool} (h0 : Rd (rList Rimpl_Equation) w0 p0 a0) (hm : impl_blocksFit_m fuel a0 = some r) :
  Calls Tryd.prog 58 #[p0] w0 fun e w => e = .returned (.bool r) ∧ Heap w0 [] w := by
 unfold impl_blocksFit_m at hm
 have H := Heap.start w0
 refine enter (args := [p0]) Tryd.func58 rfl 7 rfl (Nat.le_of_ble_eq_true rfl) (fun a S => ?_)
 refine wp_seq (region_plain ?_)
 refine lq (.bool false) S (q_assign rfl) fun a S => ?_
 refine lx_nil (thenN ?_)
 refine wp_seq (region_plain ?_)
 refine lq p0 S (q_move rfl) fun a S => ?_
 obtain ⟨x33, e34, hm⟩ := bind_some hm
 refine lx_call (xs := [.tmp 3]) S trivial (by decide) rfl rfl Tryd.call73 ((impl_equationBlocks_ok (H.arg h0) e34).mono ?_)
 rintro e w31 ⟨v35, rfl, Hc32⟩
 have H := H.call1 Hc32
 refine ⟨_, rfl, trivial, fun a S => ?_⟩
 obtain ⟨x40, e41, hm⟩ := bind_some hm
 refine lx_call (xs := [.tmp 4]) S trivial (by decide) rfl rfl Tryd.call72 ((impl_last_int64_ok (H.rdAt 0 rfl) e41).mono ?_)
 rintro e w38 ⟨rfl, Hc39⟩
 have H := H.call0 Hc39
 refine ⟨_, rfl, trivial, fun a S => ?_⟩
 refine lq (.bool (decide (x40 < (9 : Int)))) S (q_lss rfl rfl) fun a S => ?_
 refine lq (.bool (decide (x40 < (9 : Int)))) S (q_assign rfl) fun a S => ?_
 refine lx_nil (thenN ?_)
 refine wp_ret ?_
 obtain rfl := Option.some.inj hm
 have H : Heap w0 [] w38 := H.sel [] (by decide)
 exact leave1 S rfl rfl ⟨rfl, H⟩

/-- impl.index -/
def impl_index_m (fuel : Nat) (a0 : Int) (a1 : Int) : Option (Bool) :=
  (impl_within_m fuel a0 (0 : Int) (W (a1 - (1 : Int)))).bind fun x33 => some (x33)
set_option maxRecDepth 20000 in
theorem impl_index_ok {w0 : World} {fuel : Nat} {a0 : Int} {a1 : Int} {r : Bool} (hm : impl_index_m fuel a0 a1 = some r) :
  Calls Tryd.prog 74 #[.int .i64 a0, .int .i64 a1] w0 fun e w => e = .returned (.bool r) ∧ Heap w0 [] w := by
 unfold impl_index_m at hm
 have H := Heap.start w0
 refine enter (args := [.int .i64 a0, .int .i64 a1]) Tryd.func74 rfl 9 rfl (Nat.le_of_ble_eq_true rfl) (fun a S => ?_)
 refine wp_seq (region_plain ?_)
 refine lq (.bool false) S (q_assign rfl) fun a S => ?_
 refine lx_nil (thenN ?_)
 refine wp_seq (region_plain ?_)
 refine lq (.int .i64 a0) S (q_move rfl) fun a S => ?_
 refine lq (.int .i64 a1) S (q_move rfl) fun a S => ?_
 refine lq (.int .i64 (W (a1 - (1 : Int)))) S (q_sub rfl rfl) fun a S => ?_
 obtain ⟨x33, e34, hm⟩ := bind_some hm
 refine lx_call (xs := [.tmp 5, .const (.int .i64 (0)), .tmp 7]) S trivial (by decide) rfl rfl Tryd.call25 ((impl_within_ok    e34).mono ?_)
 rintro e w31 ⟨rfl, Hc32⟩
 have H := H.call0 Hc32
 refine ⟨_, rfl, trivial, fun a S => ?_⟩
 refine lq (.bool x33) S (q_assign rfl) fun a S => ?_
 refine lx_nil (thenN ?_)
 refine wp_ret ?_
 obtain rfl := Option.some.inj hm
 exact leave1 S rfl rfl ⟨rfl, H⟩

/-- impl.increasing -/
def impl_increasing_m (fuel : Nat) (a0 : (List Int)) (a1 : Int) : Option (Bool) :=
  (iter (fun (s : (Int)) => (match s with | (x55) => (if (decide (x55 < (a0.length : Int))) = true then (idx a0 x55).bind fun x89 => (impl_index_m fuel x89 a1).bind fun x96 => (if (!x96) = true then some true else (if (decide ((0 : Int) < x55)) = true then (idx a0 (W (x55 - (1 : Int)))).bind fun x105 => some (decide (x89 ≤ x105)) else some false).bind fun t102 => some t102).bind fun t99 => (if t99 = true then some (.inr (.inr false)) else some (.inl ((W (x55 + (1 : Int)))))) else some (.inr (.inl ()))) : Option (((Int)) ⊕ ((Unit) ⊕ (Bool))))) fuel ((0 : Int))).bind fun res80 => ctl (β := Unit) (ρ := Bool) (τ := Bool) res80 (fun _ => some (true)) (fun q => some (q))
set_option maxRecDepth 20000 in
theorem impl_increasing_ok {w0 : World} {fuel : Nat} {p0 : Value} {a0 : (List Int)} {a1 : Int} {r : Bool} (h0 : Rd (rList (rInt .i64)) w0 p0 a0) (hm : impl_increasing_m fuel a0 a1 = some r) :
  Calls Tryd.prog 60 #[p0, .int .i64 a1] w0 fun e w => e = .returned (.bool r) ∧ Heap w0 [] w := by
 unfold impl_increasing_m at hm
 have H := Heap.start w0
 refine enter (args := [p0, .int .i64 a1]) Tryd.func60 rfl 32 rfl (Nat.le_of_ble_eq_true rfl) (fun a S => ?_)
 refine wp_seq (region_plain ?_)
 refine lq (.bool false) S (q_assign rfl) fun a S => ?_
 refine lx_nil (thenN ?_)
 refine wp_seq (wp_seq (region_plain ?_))
 refine lq p0 S (q_move rfl) fun a S => ?_
 refine lq (.int .i64 (a0.length : Int)) S (q_lenSl rfl (h0).isSl rfl Tryd.underlying48) fun a S => ?_
 refine lq (.int .i64 (0 : Int)) S (q_move rfl) fun a S => ?_
 refine lx_nil (thenN ?_)
 obtain ⟨res80, hit81, hk84⟩ := bind_some hm
 obtain ⟨f82, hf83, hit81⟩ := iter_name hit81
 refine block_loop (fun a w => Slots a 32 [] ∧ Heap w0 [] w ∧ res80 = .inl ()) ?_ ?_
 ·rintro a w ⟨S, H, rfl⟩
  have hm := ctl_inl hk84
  refine thenN ?_
  refine wp_seq (region_plain ?_)
  refine lq (.bool true) S (q_assign rfl) fun a S => ?_
  refine lx_nil (thenN ?_)
  refine wp_ret ?_
  obtain rfl := Option.some.inj hm
  exact leave1 S rfl rfl ⟨rfl, H⟩
 ·skip
  refine loop_ghost (fun n a w => ∃ (x55 : Int), Slots a 32 [(0, p0), (1, (.int .i64 a1)), (7, p0), (8, (.int .i64 (a0.length : Int))), (9, (.int .i64 x55))] ∧ Heap w0 [] w ∧ iter f82 n (x55) = some res80) _ ⟨(0 : Int), S.sub ⟨rfl, rfl, rfl, rfl, rfl, trivial⟩, H, hit81⟩ ?_
  rintro n a w ⟨x55, S, H, hit81⟩
  obtain ⟨m85, o86, rfl, hm, hc87⟩ := iter_step hit81
  rw [hf83] at hm
  refine wp_seq (region_plain ?_)
  refine lq (.bool (decide (x55 < (a0.length : Int)))) S (q_lss rfl rfl) fun a S => ?_
  refine lx_nil (thenN ?_)
  refine wp_seq ?_
  refine cond_b S rfl (fun hc88 => ?_) (fun hc88 => ?_)
  ·have hm := ite_t hc88 hm
   refine wp_skip (thenN ?_)
   refine wp_seq ?_
   refine wp_block ?_
   refine wp_seq (region_plain ?_)
   refine lq (.int .i64 x55) S (q_move rfl) fun a S => ?_
   obtain ⟨x89, e90, hm⟩ := bind_some hm
   obtain ⟨c91, h92, hat93⟩ := (h0).elem (idx_some e90).2
   obtain rfl := h92
   have hlt := lt_of_idx (idx_some e90).2
   refine lq (ePtr p0 (x55.toNat * 1)) S (q_indexAddr rfl (h0).isSl rfl (idx_some e90).1 hlt Tryd.underlying48 Tryd.sizeOf2) fun a S => ?_
   refine lx_e (.int .i64 x89) S trivial (by decide) rfl trivial (q_load1 rfl Tryd.isAgg2 (by rintro _ rfl; exact ((hat93 0 _ rfl).ext H.ext))) (fun a S => ?_)
   refine lq (.int .i64 x55) S (q_assign rfl) fun a S => ?_
   refine lq (.int .i64 x89) S (q_assign rfl) fun a S => ?_
   refine lx_nil (thenN ?_)
   refine wp_seq (region_plain ?_)
   refine lq (.int .i64 x89) S (q_move rfl) fun a S => ?_
   refine lq (.int .i64 a1) S (q_move rfl) fun a S => ?_
   obtain ⟨x96, e97, hm⟩ := bind_some hm
   refine lx_call (xs := [.tmp 14, .tmp 15]) S trivial (by decide) rfl rfl Tryd.call74 ((impl_index_ok   e97).mono ?_)
   rintro e w94 ⟨rfl, Hc95⟩
   have H := H.call0 Hc95
   refine ⟨_, rfl, trivial, fun a S => ?_⟩
   refine lq (.bool (!x96)) S (q_not rfl) fun a S => ?_
   refine lq (.bool (!x96)) S (q_move rfl) fun a S => ?_
   obtain ⟨t99, e100, hm⟩ := bind_some hm
   refine lx_cut 12 (fun a w => Slots a 32 [(0, p0), (1, (.int .i64 a1)), (7, p0), (8, (.int .i64 (a0.length : Int))), (9, (.int .i64 x55)), (30, (.bool t99))] ∧ Heap w0 [] w) ?_ ?_
   ·by_cases hc101 : (!x96) = true
    ·have hm := ite_t hc101 e100
     refine lx_skip S rfl rfl (isB_ne hc101) (by decide) (fun a S => ?_)
     refine lx_skip S rfl rfl (isB_ne hc101) (by decide) (fun a S => ?_)
     refine lx_skip S rfl rfl (isB_ne hc101) (by decide) (fun a S => ?_)
     refine lx_skip S rfl rfl rfl (by decide) (fun a S => ?_)
     refine lx_skip S rfl rfl rfl (by decide) (fun a S => ?_)
     refine lx_skip S rfl rfl rfl (by decide) (fun a S => ?_)
     refine lx_skip S rfl rfl rfl (by decide) (fun a S => ?_)
     refine lx_skip S rfl rfl rfl (by decide) (fun a S => ?_)
     refine lx_skip S rfl rfl rfl (by decide) (fun a S => ?_)
     refine lx_skip S rfl rfl rfl (by decide) (fun a S => ?_)
     refine lx_skip S rfl rfl (isB_ne hc101) (by decide) (fun a S => ?_)
     refine lq (.bool true) S (q_pickT' rfl hc101 rfl) fun a S => ?_
     refine lx_nil ?_
     obtain rfl := Option.some.inj hm
     exact ⟨S.sub ⟨rfl, rfl, rfl, rfl, rfl, rfl, trivial⟩, H⟩
    ·have hm := ite_f (eq_false_of_ne_true hc101) e100
     have hc101 : (!x96) = false := eq_false_of_ne_true hc101
     refine lx_q (.int .i64 x55) S (want_b rfl rfl hc101) (by decide) (q_move rfl) (fun a S => ?_)
     refine lx_q (.bool (decide ((0 : Int) < x55))) S (want_b rfl rfl hc101) (by decide) (q_gtr rfl rfl) (fun a S => ?_)
     refine lx_q (.bool (decide ((0 : Int) < x55))) S (want_b rfl rfl hc101) (by decide) (q_move rfl) (fun a S => ?_)
     obtain ⟨t102, e103, hm⟩ := bind_some hm
     refine lx_cut 8 (fun a w => Slots a 32 [(0, p0), (1, (.int .i64 a1)), (7, p0), (8, (.int .i64 (a0.length : Int))), (9, (.int .i64 x55)), (18, (.bool (!x96))), (29, (.bool t102))] ∧ Heap w0 [] w) ?_ ?_
     ·by_cases hc104 : (decide ((0 : Int) < x55)) = true
      ·have hm := ite_t hc104 e103
       refine lx_q (.int .i64 x89) S (want_b rfl rfl hc104) (by decide) (q_move rfl) (fun a S => ?_)
       refine lx_q p0 S (want_b rfl rfl hc104) (by decide) (q_move rfl) (fun a S => ?_)
       refine lx_q (.int .i64 x55) S (want_b rfl rfl hc104) (by decide) (q_move rfl) (fun a S => ?_)
       refine lx_q (.int .i64 (W (x55 - (1 : Int)))) S (want_b rfl rfl hc104) (by decide) (q_sub rfl rfl) (fun a S => ?_)
       obtain ⟨x105, e106, hm⟩ := bind_some hm
       obtain ⟨c107, h108, hat109⟩ := (h0).elem (idx_some e106).2
       obtain rfl := h108
       have hlt := lt_of_idx (idx_some e106).2
       refine lx_q (ePtr p0 ((W (x55 - (1 : Int))).toNat * 1)) S (want_b rfl rfl hc104) (by decide) (q_indexAddr rfl (h0).isSl rfl (idx_some e106).1 hlt Tryd.underlying48 Tryd.sizeOf2) (fun a S => ?_)
       refine lx_e (.int .i64 x105) S (want_b rfl rfl hc104) (by decide) rfl trivial (q_load1 rfl Tryd.isAgg2 (by rintro _ rfl; exact ((hat109 0 _ rfl).ext H.ext))) (fun a S => ?_)
       refine lx_q (.bool (decide (x89 ≤ x105))) S (want_b rfl rfl hc104) (by decide) (q_leq rfl rfl) (fun a S => ?_)
       refine lx_q (.bool (decide (x89 ≤ x105))) S (want_b rfl rfl hc101) (by decide) (q_pickT' rfl hc104 rfl) (fun a S => ?_)
       refine lx_nil ?_
       obtain rfl := Option.some.inj hm
       exact ⟨S.sub ⟨rfl, rfl, rfl, rfl, rfl, rfl, rfl, trivial⟩, H⟩
      ·have hm := ite_f (eq_false_of_ne_true hc104) e103
       have hc104 : (decide ((0 : Int) < x55)) = false := eq_false_of_ne_true hc104
       refine lx_skip S rfl rfl (isB_ne hc104) (by decide) (fun a S => ?_)
       refine lx_skip S rfl rfl (isB_ne hc104) (by decide) (fun a S => ?_)
       refine lx_skip S rfl rfl (isB_ne hc104) (by decide) (fun a S => ?_)
       refine lx_skip S rfl rfl (isB_ne hc104) (by decide) (fun a S => ?_)
       refine lx_skip S rfl rfl (isB_ne hc104) (by decide) (fun a S => ?_)
       refine lx_skip S rfl rfl (isB_ne hc104) (by decide) (fun a S => ?_)
       refine lx_skip S rfl rfl (isB_ne hc104) (by decide) (fun a S => ?_)
       refine lx_q (.bool false) S (want_b rfl rfl hc101) (by decide) (q_pickF' rfl hc104 rfl) (fun a S => ?_)
       refine lx_nil ?_
       obtain rfl := Option.some.inj hm
       exact ⟨S.sub ⟨rfl, rfl, rfl, rfl, rfl, rfl, rfl, trivial⟩, H⟩
     ·rintro a w ⟨S, H⟩
      refine lq (.bool t102) S (q_pickF' rfl hc101 rfl) fun a S => ?_
      refine lx_nil ?_
      obtain rfl := Option.some.inj hm
      exact ⟨S.sub ⟨rfl, rfl, rfl, rfl, rfl, rfl, trivial⟩, H⟩
   ·rintro a w ⟨S, H⟩
    refine lx_nil (thenN ?_)
    refine cond_b S rfl (fun hc110 => ?_) (fun hc110 => ?_)
    ·have hm := ite_t hc110 hm
     refine wp_seq (region_plain ?_)
     refine lq (.bool false) S (q_assign rfl) fun a S => ?_
     refine lx_nil (thenN ?_)
     refine wp_ret (inBlock_ret ?_)
     refine then_ret ?_
     refine then_ret ?_
     refine inBlock_ret ?_
     refine then_ret ?_
     refine then_ret ?_
     obtain rfl := it_brk hm hc87
     have hm := ctl_inr hk84
     obtain rfl := Option.some.inj hm
     exact leave1 S rfl rfl ⟨rfl, H⟩
    ·have hm := ite_f hc110 hm
     refine wp_skip ?_
     refine inBlock_norm ?_
     refine thenN ?_
     refine region_plain ?_
     refine lq (.int .i64 (W (x55 + (1 : Int)))) S (q_add rfl rfl) fun a S => ?_
     refine lq (.int .i64 (W (x55 + (1 : Int)))) S (q_move rfl) fun a S => ?_
     refine lx_nil ?_
     exact ⟨m85, Nat.lt_succ_self _, (W (x55 + (1 : Int))), S.sub ⟨rfl, rfl, rfl, rfl, rfl, trivial⟩, H, it_cont hm hc87⟩
  ·have hm := ite_f hc88 hm
   refine wp_exit ?_
   refine then_exit ?_
   refine then_exit ?_
   refine inBlock_exit ?_
   obtain rfl := it_brk hm hc87
   exact ⟨S.sub trivial, H, rfl⟩

/-- impl.ValidEquations$1 -/
def impl_ValidEquations_1_m (fuel : Nat) (a0 : Timpl_Equation) (a1 : (List Timpl_Equation)) : Option (Bool) :=
  (impl_increasing_m fuel a0.2.2 (a1.length : Int)).bind fun x53 => some ((!x53))
set_option maxRecDepth 20000 in
theorem impl_ValidEquations_1_ok {w0 : World} {fuel : Nat} {p0 p1 : Value} {a0 : Timpl_Equation} {a1 : (List Timpl_Equation)} {r : Bool} (h0 : Rd Rimpl_Equation w0 p0 a0) (h1 : Rd (rPtr (rList Rimpl_Equation)) w0 p1 a1) (hm : impl_ValidEquations_1_m fuel a0 a1 = some r) :
  Calls Tryd.prog 59 #[p0, p1] w0 fun e w => e = .returned (.bool r) ∧ Heap w0 [] w := by
 unfold impl_ValidEquations_1_m at hm
 have H := Heap.start w0
 obtain ⟨c31, rfl, h32⟩ := h0
 obtain ⟨c35, c36, rfl, h37, h38⟩ := h32
 obtain rfl := h37
 obtain ⟨c39, c40, rfl, h41, h42⟩ := h38
 obtain rfl := h41
 obtain ⟨v33, rfl, h34⟩ := rd_list h42
 obtain ⟨c43, h44, hat45⟩ := h1.ptr
 obtain ⟨v46, rfl, h47⟩ := rd_list h44
 refine enter (args := [(.agg #[(.bool a0.1), (.bool a0.2.1), v33]), p1]) Tryd.func59 rfl 10 rfl (Nat.le_of_ble_eq_true rfl) (fun a S => ?_)
 refine wp_seq (region_plain ?_)
 refine lx_box S trivial (by decide) rfl H rfl rfl (fun b48 w49 H => ⟨trivial, fun a S => ?_⟩)
 refine lq (.bool false) S (q_assign rfl) fun a S => ?_
 refine lx_nil (thenN ?_)
 refine wp_seq (region_plain ?_)
 refine lq (pAdd (bp b48) 2) S (q_fieldAddr' 2 48 rfl (isP_bp _) Tryd.underlying59 rfl Tryd.sizeOf48) fun a S => ?_
 refine lx_e v33 S trivial (by decide) rfl trivial (q_load1 rfl Tryd.isAgg48 (by rintro _ rfl; exact (At.of_add (m := 2) (j := 0) (boxAt (i := 0) H rfl (j := 2) rfl)))) (fun a S => ?_)
 refine lx_e v46 S trivial (by decide) rfl trivial (q_load1 rfl Tryd.isAgg34 (by rintro _ rfl; exact ((hat45 0 _ rfl).ext H.ext))) (fun a S => ?_)
 refine lq (.int .i64 (a1.length : Int)) S (q_lenSl rfl (h47).isSl rfl Tryd.underlying34) fun a S => ?_
 obtain ⟨x53, e54, hm⟩ := bind_some hm
 refine lx_call (xs := [.tmp 5, .tmp 7]) S trivial (by decide) rfl rfl Tryd.call60 ((impl_increasing_ok (H.arg h34)  e54).mono ?_)
 rintro e w51 ⟨rfl, Hc52⟩
 have H := H.call0 Hc52
 refine ⟨_, rfl, trivial, fun a S => ?_⟩
 refine lq (.bool (!x53)) S (q_not rfl) fun a S => ?_
 refine lq (.bool (!x53)) S (q_assign rfl) fun a S => ?_
 refine lx_nil (thenN ?_)
 refine wp_ret ?_
 obtain rfl := Option.some.inj hm
 have H : Heap w0 [] w51 := H.sel [] (by decide)
 exact leave1 S rfl rfl ⟨rfl, H⟩

/-- slices.IndexFunc[[]impl.Equation,impl.Equation] -/
def slices_IndexFunc__impl_Equation_impl_Equation_m (fuel : Nat) (a0 : (List Timpl_Equation)) (a1 : (Timpl_Equation → Option Bool)) : Option (Int) :=
  (iter (fun (s : (Int)) => (match s with | (x56) => (if (decide (x56 < (a0.length : Int))) = true then (idx a0 x56).bind fun x91 => (a1 (x91.1, x91.2.1, x91.2.2)).bind fun x110 => (if x110 = true then some (.inr (.inr x56)) else some (.inl ((W (x56 + (1 : Int)))))) else some (.inr (.inl ()))) : Option (((Int)) ⊕ ((Unit) ⊕ (Int))))) fuel ((0 : Int))).bind fun res82 => ctl (β := Unit) (ρ := Int) (τ := Int) res82 (fun _ => some ((-1 : Int))) (fun q => some (q))
set_option maxRecDepth 20000 in
theorem slices_IndexFunc__impl_Equation_impl_Equation_ok {w0 : World} {fuel : Nat} {p0 : Value} {a0 : (List Timpl_Equation)} {a1 : (Timpl_Equation → Option Bool)} {f1 : Nat} {fs1 cp1 : List Value} {r : Int} (h0 : Rd (rList Rimpl_Equation) w0 p0 a0) (hcf1 : ∀ args w, (callFunc f1 args).run Tryd.prog w = .ok (.enter f1 args) w) (hf1 : ∀ {w : World} {x0_ : Timpl_Equation} {v0_ : Value} {y : Bool}, Ext w0 w → Rd Rimpl_Equation w v0_ x0_ → a1 x0_ = some y → Calls Tryd.prog f1 (fs1 ++ ([v0_] : List Value) ++ cp1).toArray w fun e w' => e = .returned (.bool y) ∧ Heap w [] w') (hm : slices_IndexFunc__impl_Equation_impl_Equation_m fuel a0 a1 = some r) :
  Calls Tryd.prog 61 #[p0, .func (.func f1) fs1.toArray cp1.toArray] w0 fun e w => e = .returned (.int .i64 r) ∧ Heap w0 [] w := by
 unfold slices_IndexFunc__impl_Equation_impl_Equation_m at hm
 have H := Heap.start w0
 refine enter (args := [p0, .func (.func f1) fs1.toArray cp1.toArray]) Tryd.func61 rfl 19 rfl (Nat.le_of_ble_eq_true rfl) (fun a S => ?_)
 refine wp_seq (region_plain ?_)
 refine lq (.int .i64 (0 : Int)) S (q_assign rfl) fun a S => ?_
 refine lx_nil (thenN ?_)
 refine wp_seq (wp_seq (region_plain ?_))
 refine lq p0 S (q_move rfl) fun a S => ?_
 refine lq (.int .i64 (a0.length : Int)) S (q_lenSl rfl (h0).isSl rfl Tryd.underlying34) fun a S => ?_
 refine lq (.int .i64 (0 : Int)) S (q_move rfl) fun a S => ?_
 refine lx_nil (thenN ?_)
 obtain ⟨res82, hit83, hk86⟩ := bind_some hm
 obtain ⟨f84, hf85, hit83⟩ := iter_name hit83
 refine block_loop (fun a w => Slots a 19 [] ∧ Heap w0 [] w ∧ res82 = .inl ()) ?_ ?_
 ·rintro a w ⟨S, H, rfl⟩
  have hm := ctl_inl hk86
  refine thenN ?_
  refine wp_seq (region_plain ?_)
  refine lq (.int .i64 (-1 : Int)) S (q_assign rfl) fun a S => ?_
  refine lx_nil (thenN ?_)
  refine wp_ret ?_
  obtain rfl := Option.some.inj hm
  exact leave1 S rfl rfl ⟨rfl, H⟩
 ·skip
  refine loop_ghost (fun n a w => ∃ (x56 : Int), Slots a 19 [(0, p0), (1, (.func (.func f1) fs1.toArray cp1.toArray)), (7, (.int .i64 (a0.length : Int))), (8, (.int .i64 x56))] ∧ Heap w0 [] w ∧ iter f84 n (x56) = some res82) _ ⟨(0 : Int), S.sub ⟨rfl, rfl, rfl, rfl, trivial⟩, H, hit83⟩ ?_
  rintro n a w ⟨x56, S, H, hit83⟩
  obtain ⟨m87, o88, rfl, hm, hc89⟩ := iter_step hit83
  rw [hf85] at hm
  refine wp_seq (region_plain ?_)
  refine lq (.bool (decide (x56 < (a0.length : Int)))) S (q_lss rfl rfl) fun a S => ?_
  refine lx_nil (thenN ?_)
  refine wp_seq ?_
  refine cond_b S rfl (fun hc90 => ?_) (fun hc90 => ?_)
  ·have hm := ite_t hc90 hm
   refine wp_skip (thenN ?_)
   refine wp_seq ?_
   refine wp_block ?_
   refine wp_seq (region_plain ?_)
   refine lq (.int .i64 x56) S (q_move rfl) fun a S => ?_
   refine lq (.int .i64 x56) S (q_assign rfl) fun a S => ?_
   refine lx_nil (thenN ?_)
   refine wp_seq (region_plain ?_)
   refine lq (.func (.func f1) fs1.toArray cp1.toArray) S (q_move rfl) fun a S => ?_
   refine lq p0 S (q_move rfl) fun a S => ?_
   refine lq (.int .i64 x56) S (q_move rfl) fun a S => ?_
   obtain ⟨x91, e92, hm⟩ := bind_some hm
   obtain ⟨c93, h94, hat95⟩ := (h0).elem (idx_some e92).2
   obtain ⟨c98, c99, rfl, h100, h101⟩ := h94
   obtain rfl := h100
   obtain ⟨c102, c103, rfl, h104, h105⟩ := h101
   obtain rfl := h104
   obtain ⟨v96, rfl, h97⟩ := rd_list h105
   have hlt := lt_of_idx (idx_some e92).2
   refine lq (ePtr p0 (x56.toNat * 3)) S (q_indexAddr rfl (h0).isSl rfl (idx_some e92).1 hlt Tryd.underlying34 Tryd.sizeOf59) fun a S => ?_
   refine lx_e (.agg #[(.bool x91.1), (.bool x91.2.1), v96]) S trivial (by decide) rfl trivial (q_loadA (cs := [(.bool x91.1), (.bool x91.2.1), v96]) rfl ((hat95 0 _ rfl).isP) Tryd.isAgg59 Tryd.sizeOf59 (by rintro _ rfl; exact (fun j u hu => (hat95 j u hu).ext H.ext))) (fun a S => ?_)
   obtain ⟨x110, e111, hm⟩ := bind_some hm
   refine lx_callV (f := f1) (first := fs1) (cap := cp1) (xs := [.tmp 15]) S trivial (by decide) rfl rfl rfl hcf1 ((hf1 H.ext ⟨[(.bool x91.1), (.bool x91.2.1), v96], rfl, ⟨[(.bool x91.1)], [(.bool x91.2.1), v96], rfl, rfl, ⟨[(.bool x91.2.1)], [v96], rfl, rfl, ((H.arg h97)).list_rd⟩⟩⟩ e111).mono ?_)
   rintro e w108 ⟨rfl, Hc109⟩
   have H := H.call0 Hc109
   refine ⟨_, rfl, trivial, fun a S => ?_⟩
   refine lx_nil (thenN ?_)
   refine cond_b S rfl (fun hc113 => ?_) (fun hc113 => ?_)
   ·have hm := ite_t hc113 hm
    refine wp_seq (region_plain ?_)
    refine lq (.int .i64 x56) S (q_move rfl) fun a S => ?_
    refine lq (.int .i64 x56) S (q_assign rfl) fun a S => ?_
    refine lx_nil (thenN ?_)
    refine wp_ret (inBlock_ret ?_)
    refine then_ret ?_
    refine then_ret ?_
    refine inBlock_ret ?_
    refine then_ret ?_
    refine then_ret ?_
    obtain rfl := it_brk hm hc89
    have hm := ctl_inr hk86
    obtain rfl := Option.some.inj hm
    exact leave1 S rfl rfl ⟨rfl, H⟩
   ·have hm := ite_f hc113 hm
    refine wp_skip ?_
    refine inBlock_norm ?_
    refine thenN ?_
    refine region_plain ?_
    refine lq (.int .i64 (W (x56 + (1 : Int)))) S (q_add rfl rfl) fun a S => ?_
    refine lq (.int .i64 (W (x56 + (1 : Int)))) S (q_move rfl) fun a S => ?_
    refine lx_nil ?_
    exact ⟨m87, Nat.lt_succ_self _, (W (x56 + (1 : Int))), S.sub ⟨rfl, rfl, rfl, rfl, trivial⟩, H, it_cont hm hc89⟩
  ·have hm := ite_f hc90 hm
   refine wp_exit ?_
   refine then_exit ?_
   refine then_exit ?_
   refine inBlock_exit ?_
   obtain rfl := it_brk hm hc89
   exact ⟨S.sub trivial, H, rfl⟩

/-- slices.ContainsFunc[[]impl.Equation,impl.Equation] -/
def slices_ContainsFunc__impl_Equation_impl_Equation_m (fuel : Nat) (a0 : (List Timpl_Equation)) (a1 : (Timpl_Equation → Option Bool)) : Option (Bool) :=
  (slices_IndexFunc__impl_Equation_impl_Equation_m fuel a0 a1).bind fun x33 => some ((decide ((0 : Int) ≤ x33)))
set_option maxRecDepth 20000 in
theorem slices_ContainsFunc__impl_Equation_impl_Equation_ok {w0 : World} {fuel : Nat} {p0 : Value} {a0 : (List Timpl_Equation)} {a1 : (Timpl_Equation → Option Bool)} {f1 : Nat} {fs1 cp1 : List Value} {r : Bool} (h0 : Rd (rList Rimpl_Equation) w0 p0 a0) (hcf1 : ∀ args w, (callFunc f1 args).run Tryd.prog w = .ok (.enter f1 args) w) (hf1 : ∀ {w : World} {x0_ : Timpl_Equation} {v0_ : Value} {y : Bool}, Ext w0 w → Rd Rimpl_Equation w v0_ x0_ → a1 x0_ = some y → Calls Tryd.prog f1 (fs1 ++ ([v0_] : List Value) ++ cp1).toArray w fun e w' => e = .returned (.bool y) ∧ Heap w [] w') (hm : slices_ContainsFunc__impl_Equation_impl_Equation_m fuel a0 a1 = some r) :
  Calls Tryd.prog 36 #[p0, .func (.func f1) fs1.toArray cp1.toArray] w0 fun e w => e = .returned (.bool r) ∧ Heap w0 [] w := by
 unfold slices_ContainsFunc__impl_Equation_impl_Equation_m at hm
 have H := Heap.start w0
 refine enter (args := [p0, .func (.func f1) fs1.toArray cp1.toArray]) Tryd.func36 rfl 9 rfl (Nat.le_of_ble_eq_true rfl) (fun a S => ?_)
 refine wp_seq (region_plain ?_)
 refine lq (.bool false) S (q_assign rfl) fun a S => ?_
 refine lx_nil (thenN ?_)
 refine wp_seq (region_plain ?_)
 refine lq p0 S (q_move rfl) fun a S => ?_
 refine lq (.func (.func f1) fs1.toArray cp1.toArray) S (q_move rfl) fun a S => ?_
 obtain ⟨x33, e34, hm⟩ := bind_some hm
 refine lx_call (xs := [.tmp 5, .tmp 6]) S trivial (by decide) rfl rfl Tryd.call61 ((slices_IndexFunc__impl_Equation_impl_Equation_ok (f1 := f1) (fs1 := fs1) (cp1 := cp1) (a1 := a1) (H.arg h0) hcf1 (fun he h0_ hm => hf1 ((H.ext).trans he) h0_ hm) e34).mono ?_)
 rintro e w31 ⟨rfl, Hc32⟩
 have H := H.call0 Hc32
 refine ⟨_, rfl, trivial, fun a S => ?_⟩
 refine lq (.bool (decide ((0 : Int) ≤ x33))) S (q_geq rfl rfl) fun a S => ?_
 refine lq (.bool (decide ((0 : Int) ≤ x33))) S (q_assign rfl) fun a S => ?_
 refine lx_nil (thenN ?_)
 refine wp_ret ?_
 obtain rfl := Option.some.inj hm
 exact leave1 S rfl rfl ⟨rfl, H⟩

/-- impl.ValidEquations -/
def impl_ValidEquations_m (fuel : Nat) (a0 : (List Timpl_Equation)) : Option (Bool) :=
  (impl_within_m fuel (a0.length : Int) (1 : Int) (120 : Int)).bind fun x36 => (if (!x36) = true then some true else (impl_blocksFit_m fuel a0).bind fun x44 => some (!x44)).bind fun t39 => (if t39 = true then some (false) else (slices_ContainsFunc__impl_Equation_impl_Equation_m fuel a0 (fun (z0 : Timpl_Equation) => impl_ValidEquations_1_m fuel z0 a0)).bind fun x50 => some ((!x50)))
set_option maxRecDepth 20000 in
theorem impl_ValidEquations_ok {w0 : World} {fuel : Nat} {p0 : Value} {a0 : (List Timpl_Equation)} {r : Bool} (h0 : Rd (rList Rimpl_Equation) w0 p0 a0) (hm : impl_ValidEquations_m fuel a0 = some r) :
  Calls Tryd.prog 35 #[p0] w0 fun e w => e = .returned (.bool r) ∧ Heap w0 [] w := by
 unfold impl_ValidEquations_m at hm
 have H := Heap.start w0
 refine enter (args := [p0]) Tryd.func35 rfl 16 rfl (Nat.le_of_ble_eq_true rfl) (fun a S => ?_)
 refine wp_seq (region_plain ?_)
 refine lx_box S trivial (by decide) rfl H rfl (cells_sl (h0).isSl) (fun b31 w32 H => ⟨trivial, fun a S => ?_⟩)
 refine lq (.bool false) S (q_assign rfl) fun a S => ?_
 refine lx_nil (thenN ?_)
 refine wp_seq (wp_seq (region_plain ?_))
 refine lx_e p0 S trivial (by decide) rfl trivial (q_load1 rfl Tryd.isAgg34 (by rintro _ rfl; exact (boxAt (i := 0) H rfl (j := 0) rfl))) (fun a S => ?_)
 refine lq (.int .i64 (a0.length : Int)) S (q_lenSl rfl (h0).isSl rfl Tryd.underlying34) fun a S => ?_
 obtain ⟨x36, e37, hm⟩ := bind_some hm
 refine lx_call (xs := [.tmp 4, .const (.int .i64 (1)), .const (.int .i64 (120))]) S trivial (by decide) rfl rfl Tryd.call25 ((impl_within_ok    e37).mono ?_)
 rintro e w34 ⟨rfl, Hc35⟩
 have H := H.call0 Hc35
 refine ⟨_, rfl, trivial, fun a S => ?_⟩
 refine lq (.bool (!x36)) S (q_not rfl) fun a S => ?_
 refine lq (.bool (!x36)) S (q_move rfl) fun a S => ?_
 obtain ⟨t39, e40, hm⟩ := bind_some hm
 refine lx_cut 4 (fun a w => Slots a 16 [(1, (bp b31)), (11, (.bool t39))] ∧ Heap w0 [bA b31 [p0] 34] w) ?_ ?_
 ·by_cases hc41 : (!x36) = true
  ·have hm := ite_t hc41 e40
   refine lx_skip S rfl rfl (isB_ne hc41) (by decide) (fun a S => ?_)
   refine lx_skip S rfl rfl (isB_ne hc41) (by decide) (fun a S => ?_)
   refine lx_skip S rfl rfl (isB_ne hc41) (by decide) (fun a S => ?_)
   refine lq (.bool true) S (q_pickT' rfl hc41 rfl) fun a S => ?_
   refine lx_nil ?_
   obtain rfl := Option.some.inj hm
   exact ⟨S.sub ⟨rfl, rfl, trivial⟩, H⟩
  ·have hm := ite_f (eq_false_of_ne_true hc41) e40
   have hc41 : (!x36) = false := eq_false_of_ne_true hc41
   refine lx_e p0 S (want_b rfl rfl hc41) (by decide) rfl trivial (q_load1 rfl Tryd.isAgg34 (by rintro _ rfl; exact (boxAt (i := 0) H rfl (j := 0) rfl))) (fun a S => ?_)
   obtain ⟨x44, e45, hm⟩ := bind_some hm
   refine lx_call (xs := [.tmp 8]) S (want_b rfl rfl hc41) (by decide) rfl rfl Tryd.call58 ((impl_blocksFit_ok (H.arg h0) e45).mono ?_)
   rintro e w42 ⟨rfl, Hc43⟩
   have H := H.call0 Hc43
   refine ⟨_, rfl, trivial, fun a S => ?_⟩
   refine lx_q (.bool (!x44)) S (want_b rfl rfl hc41) (by decide) (q_not rfl) (fun a S => ?_)
   refine lq (.bool (!x44)) S (q_pickF' rfl hc41 rfl) fun a S => ?_
   refine lx_nil ?_
   obtain rfl := Option.some.inj hm
   exact ⟨S.sub ⟨rfl, rfl, trivial⟩, H⟩
 ·rintro a w ⟨S, H⟩
  refine lx_nil (thenN ?_)
  refine cond_b S rfl (fun hc47 => ?_) (fun hc47 => ?_)
  ·have hm := ite_t hc47 hm
   refine wp_seq (region_plain ?_)
   refine lq (.bool false) S (q_assign rfl) fun a S => ?_
   refine lx_nil (thenN ?_)
   refine wp_ret (then_ret ?_)
   obtain rfl := Option.some.inj hm
   have H : Heap w0 [] w := H.sel [] (by decide)
   exact leave1 S rfl rfl ⟨rfl, H⟩
  ·have hm := ite_f hc47 hm
   refine wp_skip (thenN ?_)
   refine wp_seq (region_plain ?_)
   refine lx_e p0 S trivial (by decide) rfl trivial (q_load1 rfl Tryd.isAgg34 (by rintro _ rfl; exact (boxAt (i := 0) H rfl (j := 0) rfl))) (fun a S => ?_)
   refine lq (.func (.func 59) #[] #[(bp b31)]) S (q_makeFunc (xs := []) (ys := [.tmp 1]) rfl rfl) fun a S => ?_
   obtain ⟨x50, e51, hm⟩ := bind_some hm
   have hcap52 : Rd (rPtr (rList Rimpl_Equation)) w (bp b31) a0 := (rdPtr_box H 0 rfl ((H.arg h0)).list_rd)
   refine lx_call (xs := [.tmp 12, .tmp 13]) S trivial (by decide) rfl rfl Tryd.call36 ((slices_ContainsFunc__impl_Equation_impl_Equation_ok (f1 := 59) (fs1 := ([] : List Value)) (cp1 := ([(bp b31)] : List Value)) (a1 := (fun (z0 : Timpl_Equation) => impl_ValidEquations_1_m fuel z0 a0)) (H.arg h0) Tryd.call59 (fun he h0_ hm => impl_ValidEquations_1_ok  h0_ (hcap52.ext he) hm) e51).mono ?_)
   rintro e w48 ⟨rfl, Hc49⟩
   have H := H.call0 Hc49
   refine ⟨_, rfl, trivial, fun a S => ?_⟩
   refine lq (.bool (!x50)) S (q_not rfl) fun a S => ?_
   refine lq (.bool (!x50)) S (q_assign rfl) fun a S => ?_
   refine lx_nil (thenN ?_)
   refine wp_ret ?_
   obtain rfl := Option.some.inj hm
   have H : Heap w0 [] w48 := H.sel [] (by decide)
   exact leave1 S rfl rfl ⟨rfl, H⟩

/-- impl.EquationsText$1 -/
def impl_EquationsText_1_m (_ : Nat) (a0 : Timpl_Equation) : Option (Bool) :=
  some ((decide ((64 : Int) < (a0.2.2.length : Int))))
set_option maxRecDepth 20000 in
theorem impl_EquationsText_1_ok {w0 : World} {fuel : Nat} {p0 : Value} {a0 : Timpl_Equation} {r : Bool} (h0 : Rd Rimpl_Equation w0 p0 a0) (hm : impl_EquationsText_1_m fuel a0 = some r) :
  Calls Tryd.prog 37 #[p0] w0 fun e w => e = .returned (.bool r) ∧ Heap w0 [] w := by
 unfold impl_EquationsText_1_m at hm
 have H := Heap.start w0
 obtain ⟨c31, rfl, h32⟩ := h0
 obtain ⟨c35, c36, rfl, h37, h38⟩ := h32
 obtain rfl := h37
 obtain ⟨c39, c40, rfl, h41, h42⟩ := h38
 obtain rfl := h41
 obtain ⟨v33, rfl, h34⟩ := rd_list h42
 refine enter (args := [(.agg #[(.bool a0.1), (.bool a0.2.1), v33])]) Tryd.func37 rfl 7 rfl (Nat.le_of_ble_eq_true rfl) (fun a S => ?_)
 refine wp_seq (region_plain ?_)
 refine lx_box S trivial (by decide) rfl H rfl rfl (fun b43 w44 H => ⟨trivial, fun a S => ?_⟩)
 refine lq (.bool false) S (q_assign rfl) fun a S => ?_
 refine lx_nil (thenN ?_)
 refine wp_seq (region_plain ?_)
 refine lq (pAdd (bp b43) 2) S (q_fieldAddr' 2 48 rfl (isP_bp _) Tryd.underlying59 rfl Tryd.sizeOf48) fun a S => ?_
 refine lx_e v33 S trivial (by decide) rfl trivial (q_load1 rfl Tryd.isAgg48 (by rintro _ rfl; exact (At.of_add (m := 2) (j := 0) (boxAt (i := 0) H rfl (j := 2) rfl)))) (fun a S => ?_)
 refine lq (.int .i64 (a0.2.2.length : Int)) S (q_lenSl rfl (h34).isSl rfl Tryd.underlying48) fun a S => ?_
 refine lq (.bool (decide ((64 : Int) < (a0.2.2.length : Int)))) S (q_gtr rfl rfl) fun a S => ?_
 refine lq (.bool (decide ((64 : Int) < (a0.2.2.length : Int)))) S (q_assign rfl) fun a S => ?_
 refine lx_nil (thenN ?_)
 refine wp_ret ?_
 obtain rfl := Option.some.inj hm
 have H : Heap w0 [] w44 := H.sel [] (by decide)
 exact leave1 S rfl rfl ⟨rfl, H⟩

/-- impl.EquationsText -/
def impl_EquationsText_m (fuel : Nat) (a0 : (List Timpl_Equation)) : Option (Str) :=
  (impl_ValidEquations_m fuel a0).bind fun x33 => (if (!x33) = true then some true else (slices_ContainsFunc__impl_Equation_impl_Equation_m fuel a0 (fun (z0 : Timpl_Equation) => impl_EquationsText_1_m fuel z0)).bind fun x41 => some x41).bind fun t36 => (if t36 = true then some (([] : Str)) else (iter (fun (s : (List Str) × (Int)) => (match s with | (xs100, x102) => (if (decide (x102 < (a0.length : Int))) = true then (idx a0 x102).bind fun x174 => join (κ := Str → Option (((List Str) × (Int)) ⊕ (((List Str)) ⊕ (Str)))) (fun (x193 : Str) => join (κ := Str → Option (((List Str) × (Int)) ⊕ (((List Str)) ⊕ (Str)))) (fun (x196 : Str) => (cat x193 ([32] : Str)).bind fun x199 => (cat x199 x196).bind fun x201 => (cat x201 ([32] : Str)).bind fun x203 => (impl_ListText_m fuel x174.2.2).bind fun x207 => (cat x203 x207).bind fun x210 => (app xs100 [x210]).bind fun x215 => some (.inl (x215, (W (x102 + (1 : Int)))))) (fun K197 => (if x174.2.1 = true then (K197 ([97, 108, 108] : Str)) else (K197 ([97, 110, 121] : Str))))) (fun K194 => (if x174.1 = true then (K194 ([110, 117] : Str)) else (K194 ([109, 117] : Str)))) else some (.inr (.inl (xs100)))) : Option (((List Str) × (Int)) ⊕ (((List Str)) ⊕ (Str))))) fuel ([], (0 : Int))).bind fun res159 => ctl (β := (List Str)) (ρ := Str) (τ := Str) res159 (fun (xs157) => (strings_Join_m fuel xs157 ([10] : Str)).bind fun x166 => some (x166)) (fun q => some (q)))
set_option maxRecDepth 20000 in
theorem impl_EquationsText_ok {w0 : World} {fuel : Nat} {p0 : Value} {a0 : (List Timpl_Equation)} {r : Str} (hG : Glob Tryd.prog w0) (h0 : Rd (rList Rimpl_Equation) w0 p0 a0) (hm : impl_EquationsText_m fuel a0 = some r) :
  Calls Tryd.prog 14 #[p0] w0 fun e w => e = .returned (sv r) ∧ Heap w0 [] w := by
 unfold impl_EquationsText_m at hm
 have H := Heap.start w0
 refine enter (args := [p0]) Tryd.func14 rfl 40 rfl (Nat.le_of_ble_eq_true rfl) (fun a S => ?_)
 refine wp_seq (region_plain ?_)
 refine lq (sv ([] : Str)) S (q_assign rfl) fun a S => ?_
 refine lx_nil (thenN ?_)
 refine wp_seq (wp_seq (region_plain ?_))
 refine lq p0 S (q_move rfl) fun a S => ?_
 obtain ⟨x33, e34, hm⟩ := bind_some hm
 refine lx_call (xs := [.tmp 8]) S trivial (by decide) rfl rfl Tryd.call35 ((impl_ValidEquations_ok (H.arg h0) e34).mono ?_)
 rintro e w31 ⟨rfl, Hc32⟩
 have H := H.call0 Hc32
 refine ⟨_, rfl, trivial, fun a S => ?_⟩
 refine lq (.bool (!x33)) S (q_not rfl) fun a S => ?_
 refine lq (.bool (!x33)) S (q_move rfl) fun a S => ?_
 obtain ⟨t36, e37, hm⟩ := bind_some hm
 refine lx_cut 3 (fun a w => Slots a 40 [(0, p0), (14, (.bool t36))] ∧ Heap w0 [] w) ?_ ?_
 ·by_cases hc38 : (!x33) = true
  ·have hm := ite_t hc38 e37
   refine lx_skip S rfl rfl (isB_ne hc38) (by decide) (fun a S => ?_)
   refine lx_skip S rfl rfl (isB_ne hc38) (by decide) (fun a S => ?_)
   refine lq (.bool true) S (q_pickT' rfl hc38 rfl) fun a S => ?_
   refine lx_nil ?_
   obtain rfl := Option.some.inj hm
   exact ⟨S.sub ⟨rfl, rfl, trivial⟩, H⟩
  ·have hm := ite_f (eq_false_of_ne_true hc38) e37
   have hc38 : (!x33) = false := eq_false_of_ne_true hc38
   refine lx_q p0 S (want_b rfl rfl hc38) (by decide) (q_move rfl) (fun a S => ?_)
   obtain ⟨x41, e42, hm⟩ := bind_some hm
   refine lx_call (xs := [.tmp 12, .func 37]) S (want_b rfl rfl hc38) (by decide) rfl rfl Tryd.call36 ((slices_ContainsFunc__impl_Equation_impl_Equation_ok (f1 := 37) (fs1 := ([] : List Value)) (cp1 := ([] : List Value)) (a1 := (fun (z0 : Timpl_Equation) => impl_EquationsText_1_m fuel z0)) (H.arg h0) Tryd.call37 (fun he h0_ hm => impl_EquationsText_1_ok  h0_  hm) e42).mono ?_)
   rintro e w39 ⟨rfl, Hc40⟩
   have H := H.call0 Hc40
   refine ⟨_, rfl, trivial, fun a S => ?_⟩
   refine lq (.bool x41) S (q_pickF' rfl hc38 rfl) fun a S => ?_
   refine lx_nil ?_
   obtain rfl := Option.some.inj hm
   exact ⟨S.sub ⟨rfl, rfl, trivial⟩, H⟩
 ·rintro a w ⟨S, H⟩
  refine lx_nil (thenN ?_)
  refine cond_b S rfl (fun hc44 => ?_) (fun hc44 => ?_)
  ·have hm := ite_t hc44 hm
   refine wp_seq (region_plain ?_)
   refine lq (sv ([] : Str)) S (q_assign rfl) fun a S => ?_
   refine lx_nil (thenN ?_)
   refine wp_ret (then_ret ?_)
   obtain rfl := Option.some.inj hm
   exact leave1 S rfl rfl ⟨rfl, H⟩
  ·have hm := ite_f hc44 hm
   refine wp_skip (thenN ?_)
   refine wp_seq (region_plain ?_)
   refine lq (.slice none 0 0) S (q_assign rfl) fun a S => ?_
   refine lx_nil (thenN ?_)
   refine wp_seq (wp_seq (region_plain ?_))
   refine lq p0 S (q_move rfl) fun a S => ?_
   refine lq (.int .i64 (a0.length : Int)) S (q_lenSl rfl (h0).isSl rfl Tryd.underlying34) fun a S => ?_
   refine lq (.int .i64 (0 : Int)) S (q_move rfl) fun a S => ?_
   refine lx_nil (thenN ?_)
   obtain ⟨res159, hit160, hk163⟩ := bind_some hm
   obtain ⟨f161, hf162, hit160⟩ := iter_name hit160
   refine block_loop (fun a w => ∃ (xs157 : List Str) (v156 : Value), Slots a 40 [(3, v156)] ∧ Heap w0 [oA (rList rStr) v156 xs157] w ∧ res159 = .inl (xs157)) ?_ ?_
   ·rintro a w ⟨xs157, v156, S, H, rfl⟩
    have hm := ctl_inl hk163
    refine thenN ?_
    refine wp_seq (region_plain ?_)
    refine lq v156 S (q_move rfl) fun a S => ?_
    obtain ⟨x166, e167, hm⟩ := bind_some hm
    refine lx_call (xs := [.tmp 38, .const (sv [10])]) S trivial (by decide) rfl rfl Tryd.call28 ((strings_Join_ok (H.rdAt 0 rfl)  e167).mono ?_)
    rintro e w164 ⟨rfl, Hc165⟩
    have H := H.call0 Hc165
    refine ⟨_, rfl, trivial, fun a S => ?_⟩
    refine lq (sv x166) S (q_assign rfl) fun a S => ?_
    refine lx_nil (thenN ?_)
    refine wp_ret ?_
    obtain rfl := Option.some.inj hm
    have H : Heap w0 [] w164 := H.sel [] (by decide)
    exact leave1 S rfl rfl ⟨rfl, H⟩
   ·skip
    have H : Heap w0 [oA (rList rStr) (.slice none 0 0) ([] : List Str)] w := H.nilList rStr
    refine loop_ghost (fun n a w => ∃ (xs100 : List Str) (x102 : Int) (v99 : Value), Slots a 40 [(3, v99), (15, p0), (16, (.int .i64 (a0.length : Int))), (17, (.int .i64 x102))] ∧ Heap w0 [oA (rList rStr) v99 xs100] w ∧ iter f161 n (xs100, x102) = some res159) _ ⟨[], (0 : Int), (.slice none 0 0), S.sub ⟨rfl, rfl, rfl, rfl, trivial⟩, H, hit160⟩ ?_
    rintro n a w ⟨xs100, x102, v99, S, H, hit160⟩
    obtain ⟨m170, o171, rfl, hm, hc172⟩ := iter_step hit160
    rw [hf162] at hm
    refine wp_seq (region_plain ?_)
    refine lq (.bool (decide (x102 < (a0.length : Int)))) S (q_lss rfl rfl) fun a S => ?_
    refine lx_nil (thenN ?_)
    refine wp_seq ?_
    refine cond_b S rfl (fun hc173 => ?_) (fun hc173 => ?_)
    ·have hm := ite_t hc173 hm
     refine wp_skip (thenN ?_)
     refine wp_seq ?_
     refine wp_block ?_
     refine wp_seq (region_plain ?_)
     obtain ⟨x174, e175, hm⟩ := bind_some hm
     obtain ⟨c176, h177, hat178⟩ := (h0).elem (idx_some e175).2
     obtain ⟨c181, c182, rfl, h183, h184⟩ := h177
     obtain rfl := h183
     obtain ⟨c185, c186, rfl, h187, h188⟩ := h184
     obtain rfl := h187
     obtain ⟨v179, rfl, h180⟩ := rd_list h188
     have hlt := lt_of_idx (idx_some e175).2
     refine lq (ePtr p0 (x102.toNat * 3)) S (q_indexAddr rfl (h0).isSl rfl (idx_some e175).1 hlt Tryd.underlying34 Tryd.sizeOf59) fun a S => ?_
     refine lx_e (.agg #[(.bool x174.1), (.bool x174.2.1), v179]) S trivial (by decide) rfl trivial (q_loadA (cs := [(.bool x174.1), (.bool x174.2.1), v179]) rfl ((hat178 0 _ rfl).isP) Tryd.isAgg59 Tryd.sizeOf59 (by rintro _ rfl; exact (fun j u hu => (hat178 j u hu).ext H.ext))) (fun a S => ?_)
     refine lx_alloc S trivial (by decide) rfl H Tryd.zeroValue59 rfl (fun b189 w190 H => ⟨trivial, fun a S => ?_⟩)
     refine lx_storeBox (o := 0) (i := 0) (us := [(.bool x174.1), (.bool x174.2.1), v179]) (cs' := [(.bool x174.1), (.bool x174.2.1), v179]) S trivial rfl H rfl rfl rfl rfl Tryd.sizeOf59 (Nat.le_of_ble_eq_true rfl) (List.forall_mem_cons.2 ⟨rfl, (List.forall_mem_cons.2 ⟨rfl, (List.forall_mem_cons.2 ⟨one_sl (h180).isSl, (fun _ h => nomatch h)⟩)⟩)⟩) rfl (fun w192 H => ⟨trivial, fun a S => ?_⟩)
     change Heap w0 [bA b189 [(.bool x174.1), (.bool x174.2.1), v179] 59, oA (rList rStr) v99 xs100] w192 at H
     refine lx_nil (thenN ?_)
     refine wp_seq (region_plain ?_)
     refine lq (sv ([109, 117] : Str)) S (q_assign rfl) fun a S => ?_
     refine lq (sv ([97, 110, 121] : Str)) S (q_assign rfl) fun a S => ?_
     refine lx_nil (thenN ?_)
     obtain ⟨K194, hK195, hm⟩ := join_elim hm
     refine seq_cut (fun a w => ∃ (x193 : Str), Slots a 40 [(3, v99), (5, (bp b189)), (6, (sv x193)), (7, (sv ([97, 110, 121] : Str))), (15, p0), (16, (.int .i64 (a0.length : Int))), (17, (.int .i64 x102))] ∧ Heap w0 [oA (rList rStr) v99 xs100, bA b189 [(.bool x174.1), (.bool x174.2.1), v179] 59] w ∧ K194 x193 = some o171) ?_ ?_
     ·rintro a w ⟨x193, S, H, hm⟩
      subst hK195
      obtain ⟨K197, hK198, hm⟩ := join_elim hm
      refine seq_cut (fun a w => ∃ (x196 : Str), Slots a 40 [(3, v99), (5, (bp b189)), (6, (sv x193)), (7, (sv x196)), (15, p0), (16, (.int .i64 (a0.length : Int))), (17, (.int .i64 x102))] ∧ Heap w0 [oA (rList rStr) v99 xs100, bA b189 [(.bool x174.1), (.bool x174.2.1), v179] 59] w ∧ K197 x196 = some o171) ?_ ?_
      ·rintro a w ⟨x196, S, H, hm⟩
       subst hK198
       refine region_plain ?_
       refine lq v99 S (q_move rfl) fun a S => ?_
       refine lq (sv x193) S (q_move rfl) fun a S => ?_
       obtain ⟨x199, e200, hm⟩ := bind_some hm
       obtain ⟨hle, hcat⟩ := cat_some e200
       subst hcat
       refine lq (sv (x193 ++ ([32] : Str))) S (q_cat rfl rfl hle) fun a S => ?_
       refine lq (sv x196) S (q_move rfl) fun a S => ?_
       obtain ⟨x201, e202, hm⟩ := bind_some hm
       obtain ⟨hle, hcat⟩ := cat_some e202
       subst hcat
       refine lq (sv ((x193 ++ ([32] : Str)) ++ x196)) S (q_cat rfl rfl hle) fun a S => ?_
       obtain ⟨x203, e204, hm⟩ := bind_some hm
       obtain ⟨hle, hcat⟩ := cat_some e204
       subst hcat
       refine lq (sv (((x193 ++ ([32] : Str)) ++ x196) ++ ([32] : Str))) S (q_cat rfl rfl hle) fun a S => ?_
       refine lq (pAdd (bp b189) 2) S (q_fieldAddr' 2 48 rfl (isP_bp _) Tryd.underlying59 rfl Tryd.sizeOf48) fun a S => ?_
       refine lx_e v179 S trivial (by decide) rfl trivial (q_load1 rfl Tryd.isAgg48 (by rintro _ rfl; exact (At.of_add (m := 2) (j := 0) (boxAt (i := 1) H rfl (j := 2) rfl)))) (fun a S => ?_)
       obtain ⟨x207, e208, hm⟩ := bind_some hm
       refine lx_call (xs := [.tmp 32]) S trivial (by decide) rfl rfl Tryd.call27 ((impl_ListText_ok (hG.ext H.ext) (H.arg h180) e208).mono ?_)
       rintro e w205 ⟨rfl, Hc206⟩
       have H := H.call0 Hc206
       refine ⟨_, rfl, trivial, fun a S => ?_⟩
       obtain ⟨x210, e211, hm⟩ := bind_some hm
       obtain ⟨hle, hcat⟩ := cat_some e211
       subst hcat
       refine lq (sv ((((x193 ++ ([32] : Str)) ++ x196) ++ ([32] : Str)) ++ x207)) S (q_cat rfl rfl hle) fun a S => ?_
       refine lx_buildSlice (r := rStr) (xs := [((((x193 ++ ([32] : Str)) ++ x196) ++ ([32] : Str)) ++ x207)]) (ps := [(0, [(sv ((((x193 ++ ([32] : Str)) ++ x196) ++ ([32] : Str)) ++ x207))])]) (cs := [(sv ((((x193 ++ ([32] : Str)) ++ x196) ++ ([32] : Str)) ++ x207))]) (parts := [(0, .tmp 34)]) S trivial (by decide) rfl (H.put0 (A := eA) rfl) rfl Tryd.underlying47 Tryd.sizeOf9 Tryd.zeroValue9 (by decide) ⟨rfl, rfl, Nat.le_of_ble_eq_true rfl, trivial⟩ (by intro zs hz; exact fill_dense hz ⟨rfl, trivial⟩ rfl rfl) rfl (by decide) (fun w F hA => by cases (show F = [] from hA); exact ⟨_, _, [(sv ((((x193 ++ ([32] : Str)) ++ x196) ++ ([32] : Str)) ++ x207))], _, rfl, rfl, ⟨rfl, rfl⟩, ⟨rfl, rfl⟩⟩) (fun v212 w213 H => ⟨trivial, fun a S => ?_⟩)
       obtain ⟨x215, e216, hm⟩ := bind_some hm
       obtain ⟨hle, hap⟩ := app_some e216
       replace hap := hap.symm
       subst hap
       have H : Heap w0 [oA (rList rStr) v212 [((((x193 ++ ([32] : Str)) ++ x196) ++ ([32] : Str)) ++ x207)], oA (rList rStr) v99 xs100, bA b189 [(.bool x174.1), (.bool x174.2.1), v179] 59] w213 := H.front 0 rfl
       have H : Heap w0 [oA (rList rStr) v99 xs100, oA (rList rStr) v212 [((((x193 ++ ([32] : Str)) ++ x196) ++ ([32] : Str)) ++ x207)], bA b189 [(.bool x174.1), (.bool x174.2.1), v179] 59] w213 := H.front 1 rfl
       refine lx_appendOwn (r := rStr) S trivial (by decide) rfl H rfl rfl Tryd.underlying47 Tryd.ti9 rfl rfl rfl (Nat.le_of_ble_eq_true rfl) (by decide) hle (fun v217 w218 H => ⟨trivial, fun a S => ?_⟩)
       refine lq v217 S (q_assign rfl) fun a S => ?_
       refine lx_nil ?_
       refine inBlock_norm ?_
       refine thenN ?_
       refine region_plain ?_
       refine lq (.int .i64 (W (x102 + (1 : Int)))) S (q_add rfl rfl) fun a S => ?_
       refine lq (.int .i64 (W (x102 + (1 : Int)))) S (q_move rfl) fun a S => ?_
       refine lx_nil ?_
       have H : Heap w0 [oA (rList rStr) v217 (xs100 ++ [((((x193 ++ ([32] : Str)) ++ x196) ++ ([32] : Str)) ++ x207)])] w218 := H.sel [0] (by decide)
       exact ⟨m170, Nat.lt_succ_self _, (xs100 ++ [((((x193 ++ ([32] : Str)) ++ x196) ++ ([32] : Str)) ++ x207)]), (W (x102 + (1 : Int))), v217, S.sub ⟨rfl, rfl, rfl, rfl, trivial⟩, H, it_cont hm hc172⟩
      ·skip
       refine wp_seq (region_plain ?_)
       refine lq (pAdd (bp b189) 1) S (q_fieldAddr' 1 4 rfl (isP_bp _) Tryd.underlying59 rfl Tryd.sizeOf4) fun a S => ?_
       refine lx_e (.bool x174.2.1) S trivial (by decide) rfl trivial (q_load1 rfl Tryd.isAgg4 (by rintro _ rfl; exact (At.of_add (m := 1) (j := 0) (boxAt (i := 1) H rfl (j := 1) rfl)))) (fun a S => ?_)
       refine lx_nil (thenN ?_)
       refine cond_b S rfl (fun hc220 => ?_) (fun hc220 => ?_)
       ·have hm := ite_t hc220 hm
        refine region_plain ?_
        refine lq (sv ([97, 108, 108] : Str)) S (q_assign rfl) fun a S => ?_
        refine lx_nil ?_
        exact ⟨([97, 108, 108] : Str), S.sub ⟨rfl, rfl, rfl, rfl, rfl, rfl, rfl, trivial⟩, H, hm⟩
       ·have hm := ite_f hc220 hm
        refine wp_skip ?_
        exact ⟨([97, 110, 121] : Str), S.sub ⟨rfl, rfl, rfl, rfl, rfl, rfl, rfl, trivial⟩, H, hm⟩
     ·skip
      refine wp_seq (region_plain ?_)
      refine lq (pAdd (bp b189) 0) S (q_fieldAddr' 0 4 rfl (isP_bp _) Tryd.underlying59 rfl Tryd.sizeOf4) fun a S => ?_
      refine lx_e (.bool x174.1) S trivial (by decide) rfl trivial (q_load1 rfl Tryd.isAgg4 (by rintro _ rfl; exact (At.of_add (m := 0) (j := 0) (boxAt (i := 0) H rfl (j := 0) rfl)))) (fun a S => ?_)
      refine lx_nil (thenN ?_)
      refine cond_b S rfl (fun hc221 => ?_) (fun hc221 => ?_)
      ·have hm := ite_t hc221 hm
       refine region_plain ?_
       refine lq (sv ([110, 117] : Str)) S (q_assign rfl) fun a S => ?_
       refine lx_nil ?_
       have H : Heap w0 [oA (rList rStr) v99 xs100, bA b189 [(.bool x174.1), (.bool x174.2.1), v179] 59] w192 := H.front 1 rfl
       exact ⟨([110, 117] : Str), S.sub ⟨rfl, rfl, rfl, rfl, rfl, rfl, rfl, trivial⟩, H, hm⟩
      ·have hm := ite_f hc221 hm
       refine wp_skip ?_
       have H : Heap w0 [oA (rList rStr) v99 xs100, bA b189 [(.bool x174.1), (.bool x174.2.1), v179] 59] w192 := H.front 1 rfl
       exact ⟨([109, 117] : Str), S.sub ⟨rfl, rfl, rfl, rfl, rfl, rfl, rfl, trivial⟩, H, hm⟩
    ·have hm := ite_f hc173 hm
     refine wp_exit ?_
     refine then_exit ?_
     refine then_exit ?_
     refine inBlock_exit ?_
     obtain rfl := it_brk hm hc172
     exact ⟨xs100, v99, S.sub ⟨rfl, trivial⟩, H, rfl⟩

/-- laws.eqEquation -/
def laws_eqEquation_m (fuel : Nat) (a0 : Timpl_Equation) (a1 : Timpl_Equation) : Option (Bool) :=
  (if (a0.1 != a1.1) = true then some (false) else (if (a0.2.1 != a1.2.1) = true then some (false) else (laws_eqInt64S_m fuel a0.2.2 a1.2.2).bind fun x65 => (if (!x65) = true then some (false) else some (true))))
set_option maxRecDepth 20000 in
theorem laws_eqEquation_ok {w0 : World} {fuel : Nat} {p0 p1 : Value} {a0 : Timpl_Equation} {a1 : Timpl_Equation} {r : Bool} (h0 : Rd Rimpl_Equation w0 p0 a0) (h1 : Rd Rimpl_Equation w0 p1 a1) (hm : laws_eqEquation_m fuel a0 a1 = some r) :
  Calls Tryd.prog 38 #[p0, p1] w0 fun e w => e = .returned (.bool r) ∧ Heap w0 [] w := by
 unfold laws_eqEquation_m at hm
 have H := Heap.start w0
 obtain ⟨c31, rfl, h32⟩ := h0
 obtain ⟨c35, c36, rfl, h37, h38⟩ := h32
 obtain rfl := h37
 obtain ⟨c39, c40, rfl, h41, h42⟩ := h38
 obtain rfl := h41
 obtain ⟨v33, rfl, h34⟩ := rd_list h42
 obtain ⟨c43, rfl, h44⟩ := h1
 obtain ⟨c47, c48, rfl, h49, h50⟩ := h44
 obtain rfl := h49
 obtain ⟨c51, c52, rfl, h53, h54⟩ := h50
 obtain rfl := h53
 obtain ⟨v45, rfl, h46⟩ := rd_list h54
 refine enter (args := [(.agg #[(.bool a0.1), (.bool a0.2.1), v33]), (.agg #[(.bool a1.1), (.bool a1.2.1), v45])]) Tryd.func38 rfl 21 rfl (Nat.le_of_ble_eq_true rfl) (fun a S => ?_)
 refine wp_seq (region_plain ?_)
 refine lx_box S trivial (by decide) rfl H rfl rfl (fun b55 w56 H => ⟨trivial, fun a S => ?_⟩)
 refine lx_box S trivial (by decide) rfl H rfl rfl (fun b58 w59 H => ⟨trivial, fun a S => ?_⟩)
 refine lq (.bool false) S (q_assign rfl) fun a S => ?_
 refine lx_nil (thenN ?_)
 refine wp_seq (wp_seq (region_plain ?_))
 refine lq (pAdd (bp b55) 0) S (q_fieldAddr' 0 4 rfl (isP_bp _) Tryd.underlying59 rfl Tryd.sizeOf4) fun a S => ?_
 refine lx_e (.bool a0.1) S trivial (by decide) rfl trivial (q_load1 rfl Tryd.isAgg4 (by rintro _ rfl; exact (At.of_add (m := 0) (j := 0) (boxAt (i := 1) H rfl (j := 0) rfl)))) (fun a S => ?_)
 refine lq (pAdd (bp b58) 0) S (q_fieldAddr' 0 4 rfl (isP_bp _) Tryd.underlying59 rfl Tryd.sizeOf4) fun a S => ?_
 refine lx_e (.bool a1.1) S trivial (by decide) rfl trivial (q_load1 rfl Tryd.isAgg4 (by rintro _ rfl; exact (At.of_add (m := 0) (j := 0) (boxAt (i := 0) H rfl (j := 0) rfl)))) (fun a S => ?_)
 refine lq (.bool (a0.1 != a1.1)) S (q_bneq rfl rfl Tryd.underlying4) fun a S => ?_
 refine lx_nil (thenN ?_)
 refine cond_b S rfl (fun hc61 => ?_) (fun hc61 => ?_)
 ·have hm := ite_t hc61 hm
  refine wp_seq (region_plain ?_)
  refine lq (.bool false) S (q_assign rfl) fun a S => ?_
  refine lx_nil (thenN ?_)
  refine wp_ret (then_ret ?_)
  obtain rfl := Option.some.inj hm
  have H : Heap w0 [] w59 := H.sel [] (by decide)
  exact leave1 S rfl rfl ⟨rfl, H⟩
 ·have hm := ite_f hc61 hm
  refine wp_skip (thenN ?_)
  refine wp_seq (wp_seq (region_plain ?_))
  refine lq (pAdd (bp b55) 1) S (q_fieldAddr' 1 4 rfl (isP_bp _) Tryd.underlying59 rfl Tryd.sizeOf4) fun a S => ?_
  refine lx_e (.bool a0.2.1) S trivial (by decide) rfl trivial (q_load1 rfl Tryd.isAgg4 (by rintro _ rfl; exact (At.of_add (m := 1) (j := 0) (boxAt (i := 1) H rfl (j := 1) rfl)))) (fun a S => ?_)
  refine lq (pAdd (bp b58) 1) S (q_fieldAddr' 1 4 rfl (isP_bp _) Tryd.underlying59 rfl Tryd.sizeOf4) fun a S => ?_
  refine lx_e (.bool a1.2.1) S trivial (by decide) rfl trivial (q_load1 rfl Tryd.isAgg4 (by rintro _ rfl; exact (At.of_add (m := 1) (j := 0) (boxAt (i := 0) H rfl (j := 1) rfl)))) (fun a S => ?_)
  refine lq (.bool (a0.2.1 != a1.2.1)) S (q_bneq rfl rfl Tryd.underlying4) fun a S => ?_
  refine lx_nil (thenN ?_)
  refine cond_b S rfl (fun hc62 => ?_) (fun hc62 => ?_)
  ·have hm := ite_t hc62 hm
   refine wp_seq (region_plain ?_)
   refine lq (.bool false) S (q_assign rfl) fun a S => ?_
   refine lx_nil (thenN ?_)
   refine wp_ret (then_ret ?_)
   obtain rfl := Option.some.inj hm
   have H : Heap w0 [] w59 := H.sel [] (by decide)
   exact leave1 S rfl rfl ⟨rfl, H⟩
  ·have hm := ite_f hc62 hm
   refine wp_skip (thenN ?_)
   refine wp_seq (wp_seq (region_plain ?_))
   refine lq (pAdd (bp b55) 2) S (q_fieldAddr' 2 48 rfl (isP_bp _) Tryd.underlying59 rfl Tryd.sizeOf48) fun a S => ?_
   refine lx_e v33 S trivial (by decide) rfl trivial (q_load1 rfl Tryd.isAgg48 (by rintro _ rfl; exact (At.of_add (m := 2) (j := 0) (boxAt (i := 1) H rfl (j := 2) rfl)))) (fun a S => ?_)
   refine lq (pAdd (bp b58) 2) S (q_fieldAddr' 2 48 rfl (isP_bp _) Tryd.underlying59 rfl Tryd.sizeOf48) fun a S => ?_
   refine lx_e v45 S trivial (by decide) rfl trivial (q_load1 rfl Tryd.isAgg48 (by rintro _ rfl; exact (At.of_add (m := 2) (j := 0) (boxAt (i := 0) H rfl (j := 2) rfl)))) (fun a S => ?_)
   obtain ⟨x65, e66, hm⟩ := bind_some hm
   refine lx_call (xs := [.tmp 16, .tmp 18]) S trivial (by decide) rfl rfl Tryd.call55 ((laws_eqInt64S_ok (H.arg h34) (H.arg h46) e66).mono ?_)
   rintro e w63 ⟨rfl, Hc64⟩
   have H := H.call0 Hc64
   refine ⟨_, rfl, trivial, fun a S => ?_⟩
   refine lq (.bool (!x65)) S (q_not rfl) fun a S => ?_
   refine lx_nil (thenN ?_)
   refine cond_b S rfl (fun hc68 => ?_) (fun hc68 => ?_)
   ·have hm := ite_t hc68 hm
    refine wp_seq (region_plain ?_)
    refine lq (.bool false) S (q_assign rfl) fun a S => ?_
    refine lx_nil (thenN ?_)
    refine wp_ret (then_ret ?_)
    obtain rfl := Option.some.inj hm
    have H : Heap w0 [] w63 := H.sel [] (by decide)
    exact leave1 S rfl rfl ⟨rfl, H⟩
   ·have hm := ite_f hc68 hm
    refine wp_skip (thenN ?_)
    refine wp_seq (region_plain ?_)
    refine lq (.bool true) S (q_assign rfl) fun a S => ?_
    refine lx_nil (thenN ?_)
    refine wp_ret ?_
    obtain rfl := Option.some.inj hm
    have H : Heap w0 [] w63 := H.sel [] (by decide)
    exact leave1 S rfl rfl ⟨rfl, H⟩

/-- laws.eqEquationS -/
def laws_eqEquationS_m (fuel : Nat) (a0 : (List Timpl_Equation)) (a1 : (List Timpl_Equation)) : Option (Bool) :=
  (if ((a0.length : Int) != (a1.length : Int)) = true then some (false) else (iter (fun (s : (Int)) => (match s with | (x72) => (if (decide (x72 < (a0.length : Int))) = true then (idx a0 x72).bind fun x124 => (idx a1 x72).bind fun x139 => (laws_eqEquation_m fuel (x124.1, x124.2.1, x124.2.2) (x139.1, x139.2.1, x139.2.2)).bind fun x156 => (if (!x156) = true then some (.inr (.inr false)) else some (.inl ((W (x72 + (1 : Int)))))) else some (.inr (.inl ()))) : Option (((Int)) ⊕ ((Unit) ⊕ (Bool))))) fuel ((0 : Int))).bind fun res113 => ctl (β := Unit) (ρ := Bool) (τ := Bool) res113 (fun _ => some (true)) (fun q => some (q)))
set_option maxRecDepth 20000 in
theorem laws_eqEquationS_ok {w0 : World} {fuel : Nat} {p0 p1 : Value} {a0 : (List Timpl_Equation)} {a1 : (List Timpl_Equation)} {r : Bool} (h0 : Rd (rList Rimpl_Equation) w0 p0 a0) (h1 : Rd (rList Rimpl_Equation) w0 p1 a1) (hm : laws_eqEquationS_m fuel a0 a1 = some r) :
  Calls Tryd.prog 15 #[p0, p1] w0 fun e w => e = .returned (.bool r) ∧ Heap w0 [] w := by
 unfold laws_eqEquationS_m at hm
 have H := Heap.start w0
 refine enter (args := [p0, p1]) Tryd.func15 rfl 27 rfl (Nat.le_of_ble_eq_true rfl) (fun a S => ?_)
 refine wp_seq (region_plain ?_)
 refine lq (.bool false) S (q_assign rfl) fun a S => ?_
 refine lx_nil (thenN ?_)
 refine wp_seq (wp_seq (region_plain ?_))
 refine lq p0 S (q_move rfl) fun a S => ?_
 refine lq (.int .i64 (a0.length : Int)) S (q_lenSl rfl (h0).isSl rfl Tryd.underlying34) fun a S => ?_
 refine lq p1 S (q_move rfl) fun a S => ?_
 refine lq (.int .i64 (a1.length : Int)) S (q_lenSl rfl (h1).isSl rfl Tryd.underlying34) fun a S => ?_
 refine lq (.bool ((a0.length : Int) != (a1.length : Int))) S (q_neq rfl rfl) fun a S => ?_
 refine lx_nil (thenN ?_)
 refine cond_b S rfl (fun hc31 => ?_) (fun hc31 => ?_)
 ·have hm := ite_t hc31 hm
  refine wp_seq (region_plain ?_)
  refine lq (.bool false) S (q_assign rfl) fun a S => ?_
  refine lx_nil (thenN ?_)
  refine wp_ret (then_ret ?_)
  obtain rfl := Option.some.inj hm
  exact leave1 S rfl rfl ⟨rfl, H⟩
 ·have hm := ite_f hc31 hm
  refine wp_skip (thenN ?_)
  refine wp_seq (wp_seq (region_plain ?_))
  refine lq (.int .i64 (0 : Int)) S (q_assign rfl) fun a S => ?_
  refine lx_nil (thenN ?_)
  obtain ⟨res113, hit114, hk117⟩ := bind_some hm
  obtain ⟨f115, hf116, hit114⟩ := iter_name hit114
  refine block_loop (fun a w => Slots a 27 [] ∧ Heap w0 [] w ∧ res113 = .inl ()) ?_ ?_
  ·rintro a w ⟨S, H, rfl⟩
   have hm := ctl_inl hk117
   refine thenN ?_
   refine wp_seq (region_plain ?_)
   refine lq (.bool true) S (q_assign rfl) fun a S => ?_
   refine lx_nil (thenN ?_)
   refine wp_ret ?_
   obtain rfl := Option.some.inj hm
   exact leave1 S rfl rfl ⟨rfl, H⟩
  ·skip
   refine loop_ghost (fun n a w => ∃ (x72 : Int), Slots a 27 [(0, p0), (1, p1), (5, (.int .i64 x72))] ∧ Heap w0 [] w ∧ iter f115 n (x72) = some res113) _ ⟨(0 : Int), S.sub ⟨rfl, rfl, rfl, trivial⟩, H, hit114⟩ ?_
   rintro n a w ⟨x72, S, H, hit114⟩
   obtain ⟨m118, o119, rfl, hm, hc120⟩ := iter_step hit114
   rw [hf116] at hm
   refine wp_seq (wp_seq (region_plain ?_))
   refine lq (.int .i64 x72) S (q_move rfl) fun a S => ?_
   refine lq p0 S (q_move rfl) fun a S => ?_
   refine lq (.int .i64 (a0.length : Int)) S (q_lenSl rfl (h0).isSl rfl Tryd.underlying34) fun a S => ?_
   refine lq (.bool (decide (x72 < (a0.length : Int)))) S (q_lss rfl rfl) fun a S => ?_
   refine lx_nil (thenN ?_)
   refine cond_b S rfl (fun hc121 => ?_) (fun hc121 => ?_)
   ·have hm := ite_t hc121 hm
    refine wp_skip (thenN ?_)
    refine wp_seq ?_
    refine wp_block ?_
    refine wp_seq ?_
    refine region_drawG (fun w1 => Heap w0 [] w1) (fun i => [8].contains i) mixed (by kernel_rfl) (fun w123 he122 => ?_)
    have H := H.later he122
    refine ⟨H.sel [] (by decide), ?_⟩
    refine lq p0 S (q_move rfl) fun a S => ?_
    refine lq (.int .i64 x72) S (q_move rfl) fun a S => ?_
    obtain ⟨x124, e125, hm⟩ := bind_some hm
    obtain ⟨c126, h127, hat128⟩ := (h0).elem (idx_some e125).2
    obtain ⟨c131, c132, rfl, h133, h134⟩ := h127
    obtain rfl := h133
    obtain ⟨c135, c136, rfl, h137, h138⟩ := h134
    obtain rfl := h137
    obtain ⟨v129, rfl, h130⟩ := rd_list h138
    have hlt := lt_of_idx (idx_some e125).2
    refine lq (ePtr p0 (x72.toNat * 3)) S (q_indexAddr rfl (h0).isSl rfl (idx_some e125).1 hlt Tryd.underlying34 Tryd.sizeOf59) fun a S => ?_
    refine lq (.agg #[(.bool x124.1), (.bool x124.2.1), v129]) S (q_loadA (cs := [(.bool x124.1), (.bool x124.2.1), v129]) rfl ((hat128 0 _ rfl).isP) Tryd.isAgg59 Tryd.sizeOf59 (fun w1 hC => (fun j u hu => (hat128 j u hu).ext hC.ext))) fun a S => ?_
    refine lq p1 S (q_move rfl) fun a S => ?_
    refine lq (.int .i64 x72) S (q_move rfl) fun a S => ?_
    obtain ⟨x139, e140, hm⟩ := bind_some hm
    obtain ⟨c141, h142, hat143⟩ := (h1).elem (idx_some e140).2
    obtain ⟨c146, c147, rfl, h148, h149⟩ := h142
    obtain rfl := h148
    obtain ⟨c150, c151, rfl, h152, h153⟩ := h149
    obtain rfl := h152
    obtain ⟨v144, rfl, h145⟩ := rd_list h153
    have hlt := lt_of_idx (idx_some e140).2
    refine lq (ePtr p1 (x72.toNat * 3)) S (q_indexAddr rfl (h1).isSl rfl (idx_some e140).1 hlt Tryd.underlying34 Tryd.sizeOf59) fun a S => ?_
    refine lq (.agg #[(.bool x139.1), (.bool x139.2.1), v144]) S (q_loadA (cs := [(.bool x139.1), (.bool x139.2.1), v144]) rfl ((hat143 0 _ rfl).isP) Tryd.isAgg59 Tryd.sizeOf59 (fun w1 hC => (fun j u hu => (hat143 j u hu).ext hC.ext))) fun a S => ?_
    obtain ⟨x156, e157, hm⟩ := bind_some hm
    refine lx_call (xs := [.tmp 20, .tmp 24]) S trivial (by decide) rfl rfl Tryd.call38 ((laws_eqEquation_ok ⟨[(.bool x124.1), (.bool x124.2.1), v129], rfl, ⟨[(.bool x124.1)], [(.bool x124.2.1), v129], rfl, rfl, ⟨[(.bool x124.2.1)], [v129], rfl, rfl, ((H.arg h130)).list_rd⟩⟩⟩ ⟨[(.bool x139.1), (.bool x139.2.1), v144], rfl, ⟨[(.bool x139.1)], [(.bool x139.2.1), v144], rfl, rfl, ⟨[(.bool x139.2.1)], [v144], rfl, rfl, ((H.arg h145)).list_rd⟩⟩⟩ e157).mono ?_)
    rintro e w154 ⟨rfl, Hc155⟩
    have H := H.call0 Hc155
    refine ⟨_, rfl, H.sel [] (by decide), fun a S => ?_⟩
    refine lq (.bool (!x156)) S (q_not rfl) fun a S => ?_
    refine lx_nil (thenN ?_)
    refine cond_b S rfl (fun hc159 => ?_) (fun hc159 => ?_)
    ·have hm := ite_t hc159 hm
     refine wp_seq (region_plain ?_)
     refine lq (.bool false) S (q_assign rfl) fun a S => ?_
     refine lx_nil (thenN ?_)
     refine wp_ret (inBlock_ret ?_)
     refine then_ret ?_
     refine then_ret ?_
     refine inBlock_ret ?_
     refine then_ret ?_
     refine then_ret ?_
     obtain rfl := it_brk hm hc120
     have hm := ctl_inr hk117
     obtain rfl := Option.some.inj hm
     exact leave1 S rfl rfl ⟨rfl, H⟩
    ·have hm := ite_f hc159 hm
     refine wp_skip ?_
     refine inBlock_norm ?_
     refine thenN ?_
     refine region_plain ?_
     refine lq (.int .i64 x72) S (q_move rfl) fun a S => ?_
     refine lq (.int .i64 (W (x72 + (1 : Int)))) S (q_add rfl rfl) fun a S => ?_
     refine lq (.int .i64 (W (x72 + (1 : Int)))) S (q_assign rfl) fun a S => ?_
     refine lx_nil ?_
     exact ⟨m118, Nat.lt_succ_self _, (W (x72 + (1 : Int))), S.sub ⟨rfl, rfl, rfl, trivial⟩, H, it_cont hm hc120⟩
   ·have hm := ite_f hc121 hm
    refine wp_exit ?_
    refine then_exit ?_
    refine then_exit ?_
    refine inBlock_exit ?_
    obtain rfl := it_brk hm hc120
    exact ⟨S.sub trivial, H, rfl⟩

/-- laws.FnExactEquationsText -/
def laws_FnExactEquationsText_m (fuel : Nat) (a0 : (List Tlaws_Equation)) : Option (Bool) :=
  (laws_szEquationS_m fuel a0 (1048576 : Int)).bind fun x33 => (if (decide (x33 < (0 : Int))) = true then some (true) else (laws_toEquationS_m fuel a0).bind fun x39 => (spec_EquationsText_m fuel x39).bind fun x46 => (laws_toEquationS_m fuel a0).bind fun x51 => (impl_EquationsText_m fuel x51).bind fun x58 => (if (x58 != x46) = true then some (false) else (laws_toEquationS_m fuel a0).bind fun x64 => (laws_eqEquationS_m fuel x51 x64).bind fun x71 => (if (!x71) = true then some (false) else some (true))))
set_option maxRecDepth 20000 in
theorem laws_FnExactEquationsText_ok {w0 : World} {fuel : Nat} {p0 : Value} {a0 : (List Tlaws_Equation)} {r : Bool} (hG : Glob Tryd.prog w0) (h0 : Rd (rList Rlaws_Equation) w0 p0 a0) (hm : laws_FnExactEquationsText_m fuel a0 = some r) :
  Calls Tryd.prog 4 #[p0] w0 fun e w => e = .returned (.bool r) ∧ Heap w0 [] w := by
 unfold laws_FnExactEquationsText_m at hm
 have H := Heap.start w0
 refine enter (args := [p0]) Tryd.func4 rfl 27 rfl (Nat.le_of_ble_eq_true rfl) (fun a S => ?_)
 refine wp_seq (region_plain ?_)
 refine lq (.bool false) S (q_assign rfl) fun a S => ?_
 refine lx_nil (thenN ?_)
 refine wp_seq (region_plain ?_)
 refine lq (.int .i64 (1048576 : Int)) S (q_assign rfl) fun a S => ?_
 refine lx_nil (thenN ?_)
 refine wp_seq (region_plain ?_)
 refine lq p0 S (q_move rfl) fun a S => ?_
 refine lq (.int .i64 (1048576 : Int)) S (q_move rfl) fun a S => ?_
 obtain ⟨x33, e34, hm⟩ := bind_some hm
 refine lx_call (xs := [.tmp 7, .tmp 8]) S trivial (by decide) rfl rfl Tryd.call11 ((laws_szEquationS_ok (H.arg h0)  e34).mono ?_)
 rintro e w31 ⟨rfl, Hc32⟩
 have H := H.call0 Hc32
 refine ⟨_, rfl, trivial, fun a S => ?_⟩
 refine lq (.int .i64 x33) S (q_assign rfl) fun a S => ?_
 refine lx_nil (thenN ?_)
 refine wp_seq (wp_seq (region_plain ?_))
 refine lq (.int .i64 x33) S (q_move rfl) fun a S => ?_
 refine lq (.bool (decide (x33 < (0 : Int)))) S (q_lss rfl rfl) fun a S => ?_
 refine lx_nil (thenN ?_)
 refine cond_b S rfl (fun hc36 => ?_) (fun hc36 => ?_)
 ·have hm := ite_t hc36 hm
  refine wp_seq (region_plain ?_)
  refine lq (.bool true) S (q_assign rfl) fun a S => ?_
  refine lx_nil (thenN ?_)
  refine wp_ret (then_ret ?_)
  obtain rfl := Option.some.inj hm
  exact leave1 S rfl rfl ⟨rfl, H⟩
 ·have hm := ite_f hc36 hm
  refine wp_skip (thenN ?_)
  refine wp_seq (region_plain ?_)
  refine lq p0 S (q_move rfl) fun a S => ?_
  obtain ⟨x39, e40, hm⟩ := bind_some hm
  refine lx_call (xs := [.tmp 12]) S trivial (by decide) rfl rfl Tryd.call13 ((laws_toEquationS_ok (H.arg h0) e40).mono ?_)
  rintro e w37 ⟨v41, rfl, Hc38⟩
  have H := H.call1 Hc38
  refine ⟨_, rfl, trivial, fun a S => ?_⟩
  obtain ⟨x46, e47, hm⟩ := bind_some hm
  refine lx_call (xs := [.tmp 13]) S trivial (by decide) rfl rfl Tryd.call12 ((spec_EquationsText_ok (H.rdAt 0 rfl) e47).mono ?_)
  rintro e w44 ⟨rfl, Hc45⟩
  have H := H.call0 Hc45
  refine ⟨_, rfl, trivial, fun a S => ?_⟩
  refine lq (sv x46) S (q_assign rfl) fun a S => ?_
  refine lx_nil (thenN ?_)
  refine wp_seq (region_plain ?_)
  refine lq p0 S (q_move rfl) fun a S => ?_
  obtain ⟨x51, e52, hm⟩ := bind_some hm
  refine lx_call (xs := [.tmp 15]) S trivial (by decide) rfl rfl Tryd.call13 ((laws_toEquationS_ok (H.arg h0) e52).mono ?_)
  rintro e w49 ⟨v53, rfl, Hc50⟩
  have H := H.call1 Hc50
  refine ⟨_, rfl, trivial, fun a S => ?_⟩
  refine lq v53 S (q_assign rfl) fun a S => ?_
  refine lx_nil (thenN ?_)
  refine wp_seq (region_plain ?_)
  refine lq v53 S (q_move rfl) fun a S => ?_
  obtain ⟨x58, e59, hm⟩ := bind_some hm
  refine lx_call (xs := [.tmp 17]) S trivial (by decide) rfl rfl Tryd.call14 ((impl_EquationsText_ok (hG.ext H.ext) (H.rdAt 0 rfl) e59).mono ?_)
  rintro e w56 ⟨rfl, Hc57⟩
  have H := H.call0 Hc57
  refine ⟨_, rfl, trivial, fun a S => ?_⟩
  refine lq (sv x58) S (q_assign rfl) fun a S => ?_
  refine lx_nil (thenN ?_)
  refine wp_seq (wp_seq (region_plain ?_))
  refine lq (sv x58) S (q_move rfl) fun a S => ?_
  refine lq (sv x46) S (q_move rfl) fun a S => ?_
  refine lq (.bool (x58 != x46)) S (q_sneq rfl rfl) fun a S => ?_
  refine lx_nil (thenN ?_)
  refine cond_b S rfl (fun hc61 => ?_) (fun hc61 => ?_)
  ·have hm := ite_t hc61 hm
   refine wp_seq (region_plain ?_)
   refine lq (.bool false) S (q_assign rfl) fun a S => ?_
   refine lx_nil (thenN ?_)
   refine wp_ret (then_ret ?_)
   obtain rfl := Option.some.inj hm
   have H : Heap w0 [] w56 := H.sel [] (by decide)
   exact leave1 S rfl rfl ⟨rfl, H⟩
  ·have hm := ite_f hc61 hm
   refine wp_skip (thenN ?_)
   refine wp_seq (wp_seq (region_plain ?_))
   refine lq v53 S (q_move rfl) fun a S => ?_
   refine lq p0 S (q_move rfl) fun a S => ?_
   obtain ⟨x64, e65, hm⟩ := bind_some hm
   refine lx_call (xs := [.tmp 23]) S trivial (by decide) rfl rfl Tryd.call13 ((laws_toEquationS_ok (H.arg h0) e65).mono ?_)
   rintro e w62 ⟨v66, rfl, Hc63⟩
   have H := H.call1 Hc63
   refine ⟨_, rfl, trivial, fun a S => ?_⟩
   obtain ⟨x71, e72, hm⟩ := bind_some hm
   refine lx_call (xs := [.tmp 22, .tmp 24]) S trivial (by decide) rfl rfl Tryd.call15 ((laws_eqEquationS_ok (H.rdAt 1 rfl) (H.rdAt 0 rfl) e72).mono ?_)
   rintro e w69 ⟨rfl, Hc70⟩
   have H := H.call0 Hc70
   refine ⟨_, rfl, trivial, fun a S => ?_⟩
   refine lq (.bool (!x71)) S (q_not rfl) fun a S => ?_
   refine lx_nil (thenN ?_)
   refine cond_b S rfl (fun hc74 => ?_) (fun hc74 => ?_)
   ·have hm := ite_t hc74 hm
    refine wp_seq (region_plain ?_)
    refine lq (.bool false) S (q_assign rfl) fun a S => ?_
    refine lx_nil (thenN ?_)
    refine wp_ret (then_ret ?_)
    obtain rfl := Option.some.inj hm
    have H : Heap w0 [] w69 := H.sel [] (by decide)
    exact leave1 S rfl rfl ⟨rfl, H⟩
   ·have hm := ite_f hc74 hm
    refine wp_skip (thenN ?_)
    refine wp_seq (region_plain ?_)
    refine lq (.bool true) S (q_assign rfl) fun a S => ?_
    refine lx_nil (thenN ?_)
    refine wp_ret ?_
    obtain rfl := Option.some.inj hm
    have H : Heap w0 [] w69 := H.sel [] (by decide)
    exact leave1 S rfl rfl ⟨rfl, H⟩
end Go.Proofs.YtepcckhcocjgaaaDoor
