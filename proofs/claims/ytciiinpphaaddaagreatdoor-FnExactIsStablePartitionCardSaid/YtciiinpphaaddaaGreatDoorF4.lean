/- The models of some functions and their walks (printed by a program of this repo). -/
import Derived.Test.YtciiinpphaaddaaGreatDoorF0
import Derived.Test.YtciiinpphaaddaaGreatDoorF3
import Derived.Test.YtciiinpphaaddaaGreatDoorFS
import Derived.Test.YtciiinpphaaddaaGreatDoorGxJ
import Derived.Test.YtciiinpphaaddaaGreatDoorGxMx
import Derived.Test.YtciiinpphaaddaaGreatDoorGxT
import Derived.Test.YtciiinpphaaddaaGreatDoorGxY
namespace Go.Proofs.YtciiinpphaaddaaGreatDoor
open Go.RowKit Go.Gx

/-- laws.eqLts -/
def laws_eqLts_m (fuel : Nat) (a0 : Timpl_Lts) (a1 : Timpl_Lts) : Option (Bool) :=
  (if (a0.1 != a1.1) = true then some (false) else (if (a0.2.1 != a1.2.1) = true then some (false) else (laws_eqStringS_m fuel a0.2.2.1 a1.2.2.1).bind fun x77 => (if (!x77) = true then some (false) else (laws_eqEdgeS_m fuel a0.2.2.2 a1.2.2.2).bind fun x83 => (if (!x83) = true then some (false) else some (true)))))
set_option maxRecDepth 20000 in
theorem laws_eqLts_ok {w0 : World} {fuel : Nat} {p0 p1 : Value} {a0 : Timpl_Lts} {a1 : Timpl_Lts} {r : Bool} (h0 : Rd Rimpl_Lts w0 p0 a0) (h1 : Rd Rimpl_Lts w0 p1 a1) (hm : laws_eqLts_m fuel a0 a1 = some r) :
  Calls Tryz.prog 15 #[p0, p1] w0 fun e w => e = .returned (.bool r) ∧ Heap w0 [] w := by
 unfold laws_eqLts_m at hm
 have H := Heap.start w0
 obtain ⟨c31, rfl, h32⟩ := h0
 obtain ⟨c37, c38, rfl, h39, h40⟩ := h32
 obtain rfl := h39
 obtain ⟨c41, c42, rfl, h43, h44⟩ := h40
 obtain rfl := h43
 obtain ⟨c45, c46, rfl, h47, h48⟩ := h44
 obtain ⟨v33, rfl, h34⟩ := rd_list h47
 obtain ⟨v35, rfl, h36⟩ := rd_list h48
 obtain ⟨c49, rfl, h50⟩ := h1
 obtain ⟨c55, c56, rfl, h57, h58⟩ := h50
 obtain rfl := h57
 obtain ⟨c59, c60, rfl, h61, h62⟩ := h58
 obtain rfl := h61
 obtain ⟨c63, c64, rfl, h65, h66⟩ := h62
 obtain ⟨v51, rfl, h52⟩ := rd_list h65
 obtain ⟨v53, rfl, h54⟩ := rd_list h66
 refine enter (args := [(.agg #[(.int .i64 a0.1), (.int .i64 a0.2.1), v33, v35]), (.agg #[(.int .i64 a1.1), (.int .i64 a1.2.1), v51, v53])]) Tryz.func15 rfl 27 rfl (Nat.le_of_ble_eq_true rfl) (fun a S => ?_)
 refine wp_seq (region_plain ?_)
 refine lx_box S trivial (by decide) rfl H rfl rfl (fun b67 w68 H => ⟨trivial, fun a S => ?_⟩)
 refine lx_box S trivial (by decide) rfl H rfl rfl (fun b70 w71 H => ⟨trivial, fun a S => ?_⟩)
 refine lq (.bool false) S (q_assign rfl) fun a S => ?_
 refine lx_nil (thenN ?_)
 refine wp_seq (wp_seq (region_plain ?_))
 refine lq (pAdd (bp b67) 0) S (q_fieldAddr' 0 2 rfl (isP_bp _) Tryz.underlying32 rfl Tryz.sizeOf2) fun a S => ?_
 refine lx_e (.int .i64 a0.1) S trivial (by decide) rfl trivial (q_load1 rfl Tryz.isAgg2 (by rintro _ rfl; exact (At.of_add (m := 0) (j := 0) (boxAt (i := 1) H rfl (j := 0) rfl)))) (fun a S => ?_)
 refine lq (pAdd (bp b70) 0) S (q_fieldAddr' 0 2 rfl (isP_bp _) Tryz.underlying32 rfl Tryz.sizeOf2) fun a S => ?_
 refine lx_e (.int .i64 a1.1) S trivial (by decide) rfl trivial (q_load1 rfl Tryz.isAgg2 (by rintro _ rfl; exact (At.of_add (m := 0) (j := 0) (boxAt (i := 0) H rfl (j := 0) rfl)))) (fun a S => ?_)
 refine lq (.bool (a0.1 != a1.1)) S (q_neq rfl rfl) fun a S => ?_
 refine lx_nil (thenN ?_)
 refine cond_b S rfl (fun hc73 => ?_) (fun hc73 => ?_)
 ·have hm := ite_t hc73 hm
  refine wp_seq (region_plain ?_)
  refine lq (.bool false) S (q_assign rfl) fun a S => ?_
  refine lx_nil (thenN ?_)
  refine wp_ret (then_ret ?_)
  obtain rfl := Option.some.inj hm
  have H : Heap w0 [] w71 := H.sel [] (by decide)
  exact leave1 S rfl rfl ⟨rfl, H⟩
 ·have hm := ite_f hc73 hm
  refine wp_skip (thenN ?_)
  refine wp_seq (wp_seq (region_plain ?_))
  refine lq (pAdd (bp b67) 1) S (q_fieldAddr' 1 2 rfl (isP_bp _) Tryz.underlying32 rfl Tryz.sizeOf2) fun a S => ?_
  refine lx_e (.int .i64 a0.2.1) S trivial (by decide) rfl trivial (q_load1 rfl Tryz.isAgg2 (by rintro _ rfl; exact (At.of_add (m := 1) (j := 0) (boxAt (i := 1) H rfl (j := 1) rfl)))) (fun a S => ?_)
  refine lq (pAdd (bp b70) 1) S (q_fieldAddr' 1 2 rfl (isP_bp _) Tryz.underlying32 rfl Tryz.sizeOf2) fun a S => ?_
  refine lx_e (.int .i64 a1.2.1) S trivial (by decide) rfl trivial (q_load1 rfl Tryz.isAgg2 (by rintro _ rfl; exact (At.of_add (m := 1) (j := 0) (boxAt (i := 0) H rfl (j := 1) rfl)))) (fun a S => ?_)
  refine lq (.bool (a0.2.1 != a1.2.1)) S (q_neq rfl rfl) fun a S => ?_
  refine lx_nil (thenN ?_)
  refine cond_b S rfl (fun hc74 => ?_) (fun hc74 => ?_)
  ·have hm := ite_t hc74 hm
   refine wp_seq (region_plain ?_)
   refine lq (.bool false) S (q_assign rfl) fun a S => ?_
   refine lx_nil (thenN ?_)
   refine wp_ret (then_ret ?_)
   obtain rfl := Option.some.inj hm
   have H : Heap w0 [] w71 := H.sel [] (by decide)
   exact leave1 S rfl rfl ⟨rfl, H⟩
  ·have hm := ite_f hc74 hm
   refine wp_skip (thenN ?_)
   refine wp_seq (wp_seq (region_plain ?_))
   refine lq (pAdd (bp b67) 2) S (q_fieldAddr' 2 22 rfl (isP_bp _) Tryz.underlying32 rfl Tryz.sizeOf22) fun a S => ?_
   refine lx_e v33 S trivial (by decide) rfl trivial (q_load1 rfl Tryz.isAgg22 (by rintro _ rfl; exact (At.of_add (m := 2) (j := 0) (boxAt (i := 1) H rfl (j := 2) rfl)))) (fun a S => ?_)
   refine lq (pAdd (bp b70) 2) S (q_fieldAddr' 2 22 rfl (isP_bp _) Tryz.underlying32 rfl Tryz.sizeOf22) fun a S => ?_
   refine lx_e v51 S trivial (by decide) rfl trivial (q_load1 rfl Tryz.isAgg22 (by rintro _ rfl; exact (At.of_add (m := 2) (j := 0) (boxAt (i := 0) H rfl (j := 2) rfl)))) (fun a S => ?_)
   obtain ⟨x77, e78, hm⟩ := bind_some hm
   refine lx_call (xs := [.tmp 16, .tmp 18]) S trivial (by decide) rfl rfl Tryz.call41 ((laws_eqStringS_ok (H.arg h34) (H.arg h52) e78).mono ?_)
   rintro e w75 ⟨rfl, Hc76⟩
   have H := H.call0 Hc76
   refine ⟨_, rfl, trivial, fun a S => ?_⟩
   refine lq (.bool (!x77)) S (q_not rfl) fun a S => ?_
   refine lx_nil (thenN ?_)
   refine cond_b S rfl (fun hc80 => ?_) (fun hc80 => ?_)
   ·have hm := ite_t hc80 hm
    refine wp_seq (region_plain ?_)
    refine lq (.bool false) S (q_assign rfl) fun a S => ?_
    refine lx_nil (thenN ?_)
    refine wp_ret (then_ret ?_)
    obtain rfl := Option.some.inj hm
    have H : Heap w0 [] w75 := H.sel [] (by decide)
    exact leave1 S rfl rfl ⟨rfl, H⟩
   ·have hm := ite_f hc80 hm
    refine wp_skip (thenN ?_)
    refine wp_seq (wp_seq (region_plain ?_))
    refine lq (pAdd (bp b67) 3) S (q_fieldAddr' 3 30 rfl (isP_bp _) Tryz.underlying32 rfl Tryz.sizeOf30) fun a S => ?_
    refine lx_e v35 S trivial (by decide) rfl trivial (q_load1 rfl Tryz.isAgg30 (by rintro _ rfl; exact (At.of_add (m := 3) (j := 0) (boxAt (i := 1) H rfl (j := 3) rfl)))) (fun a S => ?_)
    refine lq (pAdd (bp b70) 3) S (q_fieldAddr' 3 30 rfl (isP_bp _) Tryz.underlying32 rfl Tryz.sizeOf30) fun a S => ?_
    refine lx_e v53 S trivial (by decide) rfl trivial (q_load1 rfl Tryz.isAgg30 (by rintro _ rfl; exact (At.of_add (m := 3) (j := 0) (boxAt (i := 0) H rfl (j := 3) rfl)))) (fun a S => ?_)
    obtain ⟨x83, e84, hm⟩ := bind_some hm
    refine lx_call (xs := [.tmp 22, .tmp 24]) S trivial (by decide) rfl rfl Tryz.call42 ((laws_eqEdgeS_ok (H.arg h36) (H.arg h54) e84).mono ?_)
    rintro e w81 ⟨rfl, Hc82⟩
    have H := H.call0 Hc82
    refine ⟨_, rfl, trivial, fun a S => ?_⟩
    refine lq (.bool (!x83)) S (q_not rfl) fun a S => ?_
    refine lx_nil (thenN ?_)
    refine cond_b S rfl (fun hc86 => ?_) (fun hc86 => ?_)
    ·have hm := ite_t hc86 hm
     refine wp_seq (region_plain ?_)
     refine lq (.bool false) S (q_assign rfl) fun a S => ?_
     refine lx_nil (thenN ?_)
     refine wp_ret (then_ret ?_)
     obtain rfl := Option.some.inj hm
     have H : Heap w0 [] w81 := H.sel [] (by decide)
     exact leave1 S rfl rfl ⟨rfl, H⟩
    ·have hm := ite_f hc86 hm
     refine wp_skip (thenN ?_)
     refine wp_seq (region_plain ?_)
     refine lq (.bool true) S (q_assign rfl) fun a S => ?_
     refine lx_nil (thenN ?_)
     refine wp_ret ?_
     obtain rfl := Option.some.inj hm
     have H : Heap w0 [] w81 := H.sel [] (by decide)
     exact leave1 S rfl rfl ⟨rfl, H⟩

/-- spec.l00Same -/
def spec_l00Same_m (fuel : Nat) (a0 : (List Int)) (a1 : (List Int)) : Option (Bool) :=
  (if ((a0.length : Int) != (a1.length : Int)) = true then some (false) else (iter (fun (s : (Int)) => (match s with | (x47) => (if (decide (x47 < (a0.length : Int))) = true then (idx a0 x47).bind fun x74 => (idx a1 x47).bind fun x79 => (if (x74 != x79) = true then some (.inr (.inr false)) else some (.inl ((W (x47 + (1 : Int)))))) else some (.inr (.inl ()))) : Option (((Int)) ⊕ ((Unit) ⊕ (Bool))))) fuel ((0 : Int))).bind fun res63 => ctl (β := Unit) (ρ := Bool) (τ := Bool) res63 (fun _ => some (true)) (fun q => some (q)))
set_option maxRecDepth 20000 in
theorem spec_l00Same_ok {w0 : World} {fuel : Nat} {p0 p1 : Value} {a0 : (List Int)} {a1 : (List Int)} {r : Bool} (h0 : Rd (rList (rInt .i64)) w0 p0 a0) (h1 : Rd (rList (rInt .i64)) w0 p1 a1) (hm : spec_l00Same_m fuel a0 a1 = some r) :
  Calls Tryz.prog 84 #[p0, p1] w0 fun e w => e = .returned (.bool r) ∧ Heap w0 [] w := by
 unfold spec_l00Same_m at hm
 have H := Heap.start w0
 refine enter (args := [p0, p1]) Tryz.func84 rfl 26 rfl (Nat.le_of_ble_eq_true rfl) (fun a S => ?_)
 refine wp_seq (region_plain ?_)
 refine lq (.bool false) S (q_assign rfl) fun a S => ?_
 refine lx_nil (thenN ?_)
 refine wp_seq (wp_seq (region_plain ?_))
 refine lq p0 S (q_move rfl) fun a S => ?_
 refine lq (.int .i64 (a0.length : Int)) S (q_lenSl rfl (h0).isSl rfl Tryz.underlying27) fun a S => ?_
 refine lq p1 S (q_move rfl) fun a S => ?_
 refine lq (.int .i64 (a1.length : Int)) S (q_lenSl rfl (h1).isSl rfl Tryz.underlying27) fun a S => ?_
 refine lq (.bool ((a0.length : Int) != (a1.length : Int))) S (q_neq rfl rfl) fun a S => ?_
 refine lx_nil (thenN ?_)
 refine cond_b S rfl (fun hc31 => ?_) (fun hc31 => ?_)
 ·have hm := ite_t hc31 hm
  refine wp_seq (region_plain ?_)
  refine lq (.bool false) S (q_assign rfl) fun a S => ?_
  refine lx_nil (thenN ?_)
  refine wp_ret (then_ret ?_)
  obtain rfl := Option.some.inj hm
  exact leave1 S rfl rfl ⟨rfl, H⟩
 ·have hm := ite_f hc31 hm
  refine wp_skip (thenN ?_)
  refine wp_seq (wp_seq (region_plain ?_))
  refine lq (.int .i64 (0 : Int)) S (q_assign rfl) fun a S => ?_
  refine lx_nil (thenN ?_)
  obtain ⟨res63, hit64, hk67⟩ := bind_some hm
  obtain ⟨f65, hf66, hit64⟩ := iter_name hit64
  refine block_loop (fun a w => Slots a 26 [] ∧ Heap w0 [] w ∧ res63 = .inl ()) ?_ ?_
  ·rintro a w ⟨S, H, rfl⟩
   have hm := ctl_inl hk67
   refine thenN ?_
   refine wp_seq (region_plain ?_)
   refine lq (.bool true) S (q_assign rfl) fun a S => ?_
   refine lx_nil (thenN ?_)
   refine wp_ret ?_
   obtain rfl := Option.some.inj hm
   exact leave1 S rfl rfl ⟨rfl, H⟩
  ·skip
   refine loop_ghost (fun n a w => ∃ (x47 : Int), Slots a 26 [(0, p0), (1, p1), (5, (.int .i64 x47))] ∧ Heap w0 [] w ∧ iter f65 n (x47) = some res63) _ ⟨(0 : Int), S.sub ⟨rfl, rfl, rfl, trivial⟩, H, hit64⟩ ?_
   rintro n a w ⟨x47, S, H, hit64⟩
   obtain ⟨m68, o69, rfl, hm, hc70⟩ := iter_step hit64
   rw [hf66] at hm
   refine wp_seq (wp_seq (region_plain ?_))
   refine lq (.int .i64 x47) S (q_move rfl) fun a S => ?_
   refine lq p0 S (q_move rfl) fun a S => ?_
   refine lq (.int .i64 (a0.length : Int)) S (q_lenSl rfl (h0).isSl rfl Tryz.underlying27) fun a S => ?_
   refine lq (.bool (decide (x47 < (a0.length : Int)))) S (q_lss rfl rfl) fun a S => ?_
   refine lx_nil (thenN ?_)
   refine cond_b S rfl (fun hc71 => ?_) (fun hc71 => ?_)
   ·have hm := ite_t hc71 hm
    refine wp_skip (thenN ?_)
    refine wp_seq ?_
    refine wp_block ?_
    refine wp_seq ?_
    refine region_drawG (fun w1 => Heap w0 [] w1) (fun i => [].contains i) mixed (by kernel_rfl) (fun w73 he72 => ?_)
    have H := H.later he72
    refine ⟨H.sel [] (by decide), ?_⟩
    refine lq p0 S (q_move rfl) fun a S => ?_
    refine lq (.int .i64 x47) S (q_move rfl) fun a S => ?_
    obtain ⟨x74, e75, hm⟩ := bind_some hm
    obtain ⟨c76, h77, hat78⟩ := (h0).elem (idx_some e75).2
    obtain rfl := h77
    have hlt := lt_of_idx (idx_some e75).2
    refine lq (ePtr p0 (x47.toNat * 1)) S (q_indexAddr rfl (h0).isSl rfl (idx_some e75).1 hlt Tryz.underlying27 Tryz.sizeOf2) fun a S => ?_
    refine lq (.int .i64 x74) S (q_load1 rfl Tryz.isAgg2 (fun w1 hC => ((hat78 0 _ rfl).ext hC.ext))) fun a S => ?_
    refine lq p1 S (q_move rfl) fun a S => ?_
    refine lq (.int .i64 x47) S (q_move rfl) fun a S => ?_
    obtain ⟨x79, e80, hm⟩ := bind_some hm
    obtain ⟨c81, h82, hat83⟩ := (h1).elem (idx_some e80).2
    obtain rfl := h82
    have hlt := lt_of_idx (idx_some e80).2
    refine lq (ePtr p1 (x47.toNat * 1)) S (q_indexAddr rfl (h1).isSl rfl (idx_some e80).1 hlt Tryz.underlying27 Tryz.sizeOf2) fun a S => ?_
    refine lq (.int .i64 x79) S (q_load1 rfl Tryz.isAgg2 (fun w1 hC => ((hat83 0 _ rfl).ext hC.ext))) fun a S => ?_
    refine lq (.bool (x74 != x79)) S (q_neq rfl rfl) fun a S => ?_
    refine lx_nil (thenN ?_)
    refine cond_b S rfl (fun hc84 => ?_) (fun hc84 => ?_)
    ·have hm := ite_t hc84 hm
     refine wp_seq (region_plain ?_)
     refine lq (.bool false) S (q_assign rfl) fun a S => ?_
     refine lx_nil (thenN ?_)
     refine wp_ret (inBlock_ret ?_)
     refine then_ret ?_
     refine then_ret ?_
     refine inBlock_ret ?_
     refine then_ret ?_
     refine then_ret ?_
     obtain rfl := it_brk hm hc70
     have hm := ctl_inr hk67
     obtain rfl := Option.some.inj hm
     exact leave1 S rfl rfl ⟨rfl, H⟩
    ·have hm := ite_f hc84 hm
     refine wp_skip ?_
     refine inBlock_norm ?_
     refine thenN ?_
     refine region_plain ?_
     refine lq (.int .i64 x47) S (q_move rfl) fun a S => ?_
     refine lq (.int .i64 (W (x47 + (1 : Int)))) S (q_add rfl rfl) fun a S => ?_
     refine lq (.int .i64 (W (x47 + (1 : Int)))) S (q_assign rfl) fun a S => ?_
     refine lx_nil ?_
     exact ⟨m68, Nat.lt_succ_self _, (W (x47 + (1 : Int))), S.sub ⟨rfl, rfl, rfl, trivial⟩, H, it_cont hm hc70⟩
   ·have hm := ite_f hc71 hm
    refine wp_exit ?_
    refine then_exit ?_
    refine then_exit ?_
    refine inBlock_exit ?_
    obtain rfl := it_brk hm hc70
    exact ⟨S.sub trivial, H, rfl⟩

/-- slices.Equal[[]int64,int64] -/
def slices_Equal__int64_int64_m (fuel : Nat) (a0 : (List Int)) (a1 : (List Int)) : Option (Bool) :=
  (if ((a0.length : Int) != (a1.length : Int)) = true then some (false) else (iter (fun (s : (Int)) => (match s with | (x47) => (if (decide (x47 < (a0.length : Int))) = true then (idx a0 x47).bind fun x74 => (idx a1 x47).bind fun x79 => (if (x74 != x79) = true then some (.inr (.inr false)) else some (.inl ((W (x47 + (1 : Int)))))) else some (.inr (.inl ()))) : Option (((Int)) ⊕ ((Unit) ⊕ (Bool))))) fuel ((0 : Int))).bind fun res63 => ctl (β := Unit) (ρ := Bool) (τ := Bool) res63 (fun _ => some (true)) (fun q => some (q)))
set_option maxRecDepth 20000 in
theorem slices_Equal__int64_int64_ok {w0 : World} {fuel : Nat} {p0 p1 : Value} {a0 : (List Int)} {a1 : (List Int)} {r : Bool} (h0 : Rd (rList (rInt .i64)) w0 p0 a0) (h1 : Rd (rList (rInt .i64)) w0 p1 a1) (hm : slices_Equal__int64_int64_m fuel a0 a1 = some r) :
  Calls Tryz.prog 51 #[p0, p1] w0 fun e w => e = .returned (.bool r) ∧ Heap w0 [] w := by
 unfold slices_Equal__int64_int64_m at hm
 have H := Heap.start w0
 refine enter (args := [p0, p1]) Tryz.func51 rfl 26 rfl (Nat.le_of_ble_eq_true rfl) (fun a S => ?_)
 refine wp_seq (region_plain ?_)
 refine lq (.bool false) S (q_assign rfl) fun a S => ?_
 refine lx_nil (thenN ?_)
 refine wp_seq (wp_seq (region_plain ?_))
 refine lq p0 S (q_move rfl) fun a S => ?_
 refine lq (.int .i64 (a0.length : Int)) S (q_lenSl rfl (h0).isSl rfl Tryz.underlying27) fun a S => ?_
 refine lq p1 S (q_move rfl) fun a S => ?_
 refine lq (.int .i64 (a1.length : Int)) S (q_lenSl rfl (h1).isSl rfl Tryz.underlying27) fun a S => ?_
 refine lq (.bool ((a0.length : Int) != (a1.length : Int))) S (q_neq rfl rfl) fun a S => ?_
 refine lx_nil (thenN ?_)
 refine cond_b S rfl (fun hc31 => ?_) (fun hc31 => ?_)
 ·have hm := ite_t hc31 hm
  refine wp_seq (region_plain ?_)
  refine lq (.bool false) S (q_assign rfl) fun a S => ?_
  refine lx_nil (thenN ?_)
  refine wp_ret (then_ret ?_)
  obtain rfl := Option.some.inj hm
  exact leave1 S rfl rfl ⟨rfl, H⟩
 ·have hm := ite_f hc31 hm
  refine wp_skip (thenN ?_)
  refine wp_seq (wp_seq (region_plain ?_))
  refine lq p0 S (q_move rfl) fun a S => ?_
  refine lq (.int .i64 (a0.length : Int)) S (q_lenSl rfl (h0).isSl rfl Tryz.underlying27) fun a S => ?_
  refine lq (.int .i64 (0 : Int)) S (q_move rfl) fun a S => ?_
  refine lx_nil (thenN ?_)
  obtain ⟨res63, hit64, hk67⟩ := bind_some hm
  obtain ⟨f65, hf66, hit64⟩ := iter_name hit64
  refine block_loop (fun a w => Slots a 26 [] ∧ Heap w0 [] w ∧ res63 = .inl ()) ?_ ?_
  ·rintro a w ⟨S, H, rfl⟩
   have hm := ctl_inl hk67
   refine thenN ?_
   refine wp_seq (region_plain ?_)
   refine lq (.bool true) S (q_assign rfl) fun a S => ?_
   refine lx_nil (thenN ?_)
   refine wp_ret ?_
   obtain rfl := Option.some.inj hm
   exact leave1 S rfl rfl ⟨rfl, H⟩
  ·skip
   refine loop_ghost (fun n a w => ∃ (x47 : Int), Slots a 26 [(0, p0), (1, p1), (12, (.int .i64 (a0.length : Int))), (13, (.int .i64 x47))] ∧ Heap w0 [] w ∧ iter f65 n (x47) = some res63) _ ⟨(0 : Int), S.sub ⟨rfl, rfl, rfl, rfl, trivial⟩, H, hit64⟩ ?_
   rintro n a w ⟨x47, S, H, hit64⟩
   obtain ⟨m68, o69, rfl, hm, hc70⟩ := iter_step hit64
   rw [hf66] at hm
   refine wp_seq (region_plain ?_)
   refine lq (.bool (decide (x47 < (a0.length : Int)))) S (q_lss rfl rfl) fun a S => ?_
   refine lx_nil (thenN ?_)
   refine wp_seq ?_
   refine cond_b S rfl (fun hc71 => ?_) (fun hc71 => ?_)
   ·have hm := ite_t hc71 hm
    refine wp_skip (thenN ?_)
    refine wp_seq ?_
    refine wp_block ?_
    refine wp_seq (region_plain ?_)
    refine lq (.int .i64 x47) S (q_move rfl) fun a S => ?_
    refine lq (.int .i64 x47) S (q_assign rfl) fun a S => ?_
    refine lx_nil (thenN ?_)
    refine wp_seq ?_
    refine region_drawG (fun w1 => Heap w0 [] w1) (fun i => [].contains i) mixed (by kernel_rfl) (fun w73 he72 => ?_)
    have H := H.later he72
    refine ⟨H.sel [] (by decide), ?_⟩
    refine lq p0 S (q_move rfl) fun a S => ?_
    refine lq (.int .i64 x47) S (q_move rfl) fun a S => ?_
    obtain ⟨x74, e75, hm⟩ := bind_some hm
    obtain ⟨c76, h77, hat78⟩ := (h0).elem (idx_some e75).2
    obtain rfl := h77
    have hlt := lt_of_idx (idx_some e75).2
    refine lq (ePtr p0 (x47.toNat * 1)) S (q_indexAddr rfl (h0).isSl rfl (idx_some e75).1 hlt Tryz.underlying27 Tryz.sizeOf2) fun a S => ?_
    refine lq (.int .i64 x74) S (q_load1 rfl Tryz.isAgg2 (fun w1 hC => ((hat78 0 _ rfl).ext hC.ext))) fun a S => ?_
    refine lq p1 S (q_move rfl) fun a S => ?_
    refine lq (.int .i64 x47) S (q_move rfl) fun a S => ?_
    obtain ⟨x79, e80, hm⟩ := bind_some hm
    obtain ⟨c81, h82, hat83⟩ := (h1).elem (idx_some e80).2
    obtain rfl := h82
    have hlt := lt_of_idx (idx_some e80).2
    refine lq (ePtr p1 (x47.toNat * 1)) S (q_indexAddr rfl (h1).isSl rfl (idx_some e80).1 hlt Tryz.underlying27 Tryz.sizeOf2) fun a S => ?_
    refine lq (.int .i64 x79) S (q_load1 rfl Tryz.isAgg2 (fun w1 hC => ((hat83 0 _ rfl).ext hC.ext))) fun a S => ?_
    refine lq (.bool (x74 != x79)) S (q_neq rfl rfl) fun a S => ?_
    refine lx_nil (thenN ?_)
    refine cond_b S rfl (fun hc84 => ?_) (fun hc84 => ?_)
    ·have hm := ite_t hc84 hm
     refine wp_seq (region_plain ?_)
     refine lq (.bool false) S (q_assign rfl) fun a S => ?_
     refine lx_nil (thenN ?_)
     refine wp_ret (inBlock_ret ?_)
     refine then_ret ?_
     refine then_ret ?_
     refine inBlock_ret ?_
     refine then_ret ?_
     refine then_ret ?_
     obtain rfl := it_brk hm hc70
     have hm := ctl_inr hk67
     obtain rfl := Option.some.inj hm
     exact leave1 S rfl rfl ⟨rfl, H⟩
    ·have hm := ite_f hc84 hm
     refine wp_skip ?_
     refine inBlock_norm ?_
     refine thenN ?_
     refine region_plain ?_
     refine lq (.int .i64 (W (x47 + (1 : Int)))) S (q_add rfl rfl) fun a S => ?_
     refine lq (.int .i64 (W (x47 + (1 : Int)))) S (q_move rfl) fun a S => ?_
     refine lx_nil ?_
     exact ⟨m68, Nat.lt_succ_self _, (W (x47 + (1 : Int))), S.sub ⟨rfl, rfl, rfl, rfl, trivial⟩, H, it_cont hm hc70⟩
   ·have hm := ite_f hc71 hm
    refine wp_exit ?_
    refine then_exit ?_
    refine then_exit ?_
    refine inBlock_exit ?_
    obtain rfl := it_brk hm hc70
    exact ⟨S.sub trivial, H, rfl⟩

/-- impl.normalKeys$1 -/
def impl_normalKeys_1_m (fuel : Nat) (a0 : (List Int)) (a1 : (List Int)) : Option (Bool) :=
  (slices_Equal__int64_int64_m fuel a0 a1).bind fun x38 => some (x38)
set_option maxRecDepth 20000 in
theorem impl_normalKeys_1_ok {w0 : World} {fuel : Nat} {p0 p1 : Value} {a0 : (List Int)} {a1 : (List Int)} {r : Bool} (h0 : Rd (rList (rInt .i64)) w0 p0 a0) (h1 : Rd (rPtr (rList (rInt .i64))) w0 p1 a1) (hm : impl_normalKeys_1_m fuel a0 a1 = some r) :
  Calls Tryz.prog 115 #[p0, p1] w0 fun e w => e = .returned (.bool r) ∧ Heap w0 [] w := by
 unfold impl_normalKeys_1_m at hm
 have H := Heap.start w0
 obtain ⟨c31, h32, hat33⟩ := h1.ptr
 obtain ⟨v34, rfl, h35⟩ := rd_list h32
 refine enter (args := [p0, p1]) Tryz.func115 rfl 7 rfl (Nat.le_of_ble_eq_true rfl) (fun a S => ?_)
 refine wp_seq (region_plain ?_)
 refine lq (.bool false) S (q_assign rfl) fun a S => ?_
 refine lx_nil (thenN ?_)
 refine wp_seq (region_plain ?_)
 refine lq p0 S (q_move rfl) fun a S => ?_
 refine lx_e v34 S trivial (by decide) rfl trivial (q_load1 rfl Tryz.isAgg27 (by rintro _ rfl; exact ((hat33 0 _ rfl).ext H.ext))) (fun a S => ?_)
 obtain ⟨x38, e39, hm⟩ := bind_some hm
 refine lx_call (xs := [.tmp 4, .tmp 5]) S trivial (by decide) rfl rfl Tryz.call51 ((slices_Equal__int64_int64_ok (H.arg h0) (H.arg h35) e39).mono ?_)
 rintro e w36 ⟨rfl, Hc37⟩
 have H := H.call0 Hc37
 refine ⟨_, rfl, trivial, fun a S => ?_⟩
 refine lq (.bool x38) S (q_assign rfl) fun a S => ?_
 refine lx_nil (thenN ?_)
 refine wp_ret ?_
 obtain rfl := Option.some.inj hm
 exact leave1 S rfl rfl ⟨rfl, H⟩

/-- slices.IndexFunc[[][]int64,[]int64] -/
def slices_IndexFunc___int64__int64_m (fuel : Nat) (a0 : (List (List Int))) (a1 : ((List Int) → Option Bool)) : Option (Int) :=
  (iter (fun (s : (Int)) => (match s with | (x48) => (if (decide (x48 < (a0.length : Int))) = true then (idx a0 x48).bind fun x75 => (a1 x75).bind fun x86 => (if x86 = true then some (.inr (.inr x48)) else some (.inl ((W (x48 + (1 : Int)))))) else some (.inr (.inl ()))) : Option (((Int)) ⊕ ((Unit) ⊕ (Int))))) fuel ((0 : Int))).bind fun res66 => ctl (β := Unit) (ρ := Int) (τ := Int) res66 (fun _ => some ((-1 : Int))) (fun q => some (q))
set_option maxRecDepth 20000 in
theorem slices_IndexFunc___int64__int64_ok {w0 : World} {fuel : Nat} {p0 : Value} {a0 : (List (List Int))} {a1 : ((List Int) → Option Bool)} {f1 : Nat} {fs1 cp1 : List Value} {r : Int} (h0 : Rd (rList (rList (rInt .i64))) w0 p0 a0) (hcf1 : ∀ args w, (callFunc f1 args).run Tryz.prog w = .ok (.enter f1 args) w) (hf1 : ∀ {w : World} {x0_ : (List Int)} {v0_ : Value} {y : Bool}, Ext w0 w → Rd (rList (rInt .i64)) w v0_ x0_ → a1 x0_ = some y → Calls Tryz.prog f1 (fs1 ++ ([v0_] : List Value) ++ cp1).toArray w fun e w' => e = .returned (.bool y) ∧ Heap w [] w') (hm : slices_IndexFunc___int64__int64_m fuel a0 a1 = some r) :
  Calls Tryz.prog 92 #[p0, .func (.func f1) fs1.toArray cp1.toArray] w0 fun e w => e = .returned (.int .i64 r) ∧ Heap w0 [] w := by
 unfold slices_IndexFunc___int64__int64_m at hm
 have H := Heap.start w0
 refine enter (args := [p0, .func (.func f1) fs1.toArray cp1.toArray]) Tryz.func92 rfl 19 rfl (Nat.le_of_ble_eq_true rfl) (fun a S => ?_)
 refine wp_seq (region_plain ?_)
 refine lq (.int .i64 (0 : Int)) S (q_assign rfl) fun a S => ?_
 refine lx_nil (thenN ?_)
 refine wp_seq (wp_seq (region_plain ?_))
 refine lq p0 S (q_move rfl) fun a S => ?_
 refine lq (.int .i64 (a0.length : Int)) S (q_lenSl rfl (h0).isSl rfl Tryz.underlying63) fun a S => ?_
 refine lq (.int .i64 (0 : Int)) S (q_move rfl) fun a S => ?_
 refine lx_nil (thenN ?_)
 obtain ⟨res66, hit67, hk70⟩ := bind_some hm
 obtain ⟨f68, hf69, hit67⟩ := iter_name hit67
 refine block_loop (fun a w => Slots a 19 [] ∧ Heap w0 [] w ∧ res66 = .inl ()) ?_ ?_
 ·rintro a w ⟨S, H, rfl⟩
  have hm := ctl_inl hk70
  refine thenN ?_
  refine wp_seq (region_plain ?_)
  refine lq (.int .i64 (-1 : Int)) S (q_assign rfl) fun a S => ?_
  refine lx_nil (thenN ?_)
  refine wp_ret ?_
  obtain rfl := Option.some.inj hm
  exact leave1 S rfl rfl ⟨rfl, H⟩
 ·skip
  refine loop_ghost (fun n a w => ∃ (x48 : Int), Slots a 19 [(0, p0), (1, (.func (.func f1) fs1.toArray cp1.toArray)), (7, (.int .i64 (a0.length : Int))), (8, (.int .i64 x48))] ∧ Heap w0 [] w ∧ iter f68 n (x48) = some res66) _ ⟨(0 : Int), S.sub ⟨rfl, rfl, rfl, rfl, trivial⟩, H, hit67⟩ ?_
  rintro n a w ⟨x48, S, H, hit67⟩
  obtain ⟨m71, o72, rfl, hm, hc73⟩ := iter_step hit67
  rw [hf69] at hm
  refine wp_seq (region_plain ?_)
  refine lq (.bool (decide (x48 < (a0.length : Int)))) S (q_lss rfl rfl) fun a S => ?_
  refine lx_nil (thenN ?_)
  refine wp_seq ?_
  refine cond_b S rfl (fun hc74 => ?_) (fun hc74 => ?_)
  ·have hm := ite_t hc74 hm
   refine wp_skip (thenN ?_)
   refine wp_seq ?_
   refine wp_block ?_
   refine wp_seq (region_plain ?_)
   refine lq (.int .i64 x48) S (q_move rfl) fun a S => ?_
   refine lq (.int .i64 x48) S (q_assign rfl) fun a S => ?_
   refine lx_nil (thenN ?_)
   refine wp_seq (region_plain ?_)
   refine lq (.func (.func f1) fs1.toArray cp1.toArray) S (q_move rfl) fun a S => ?_
   refine lq p0 S (q_move rfl) fun a S => ?_
   refine lq (.int .i64 x48) S (q_move rfl) fun a S => ?_
   obtain ⟨x75, e76, hm⟩ := bind_some hm
   obtain ⟨c77, h78, hat79⟩ := (h0).elem (idx_some e76).2
   obtain ⟨v80, rfl, h81⟩ := rd_list h78
   have hlt := lt_of_idx (idx_some e76).2
   refine lq (ePtr p0 (x48.toNat * 1)) S (q_indexAddr rfl (h0).isSl rfl (idx_some e76).1 hlt Tryz.underlying63 Tryz.sizeOf27) fun a S => ?_
   refine lx_e v80 S trivial (by decide) rfl trivial (q_load1 rfl Tryz.isAgg27 (by rintro _ rfl; exact ((hat79 0 _ rfl).ext H.ext))) (fun a S => ?_)
   obtain ⟨x86, e87, hm⟩ := bind_some hm
   refine lx_callV (f := f1) (first := fs1) (cap := cp1) (xs := [.tmp 15]) S trivial (by decide) rfl rfl rfl hcf1 ((hf1 H.ext (H.arg h81) e87).mono ?_)
   rintro e w84 ⟨rfl, Hc85⟩
   have H := H.call0 Hc85
   refine ⟨_, rfl, trivial, fun a S => ?_⟩
   refine lx_nil (thenN ?_)
   refine cond_b S rfl (fun hc89 => ?_) (fun hc89 => ?_)
   ·have hm := ite_t hc89 hm
    refine wp_seq (region_plain ?_)
    refine lq (.int .i64 x48) S (q_move rfl) fun a S => ?_
    refine lq (.int .i64 x48) S (q_assign rfl) fun a S => ?_
    refine lx_nil (thenN ?_)
    refine wp_ret (inBlock_ret ?_)
    refine then_ret ?_
    refine then_ret ?_
    refine inBlock_ret ?_
    refine then_ret ?_
    refine then_ret ?_
    obtain rfl := it_brk hm hc73
    have hm := ctl_inr hk70
    obtain rfl := Option.some.inj hm
    exact leave1 S rfl rfl ⟨rfl, H⟩
   ·have hm := ite_f hc89 hm
    refine wp_skip ?_
    refine inBlock_norm ?_
    refine thenN ?_
    refine region_plain ?_
    refine lq (.int .i64 (W (x48 + (1 : Int)))) S (q_add rfl rfl) fun a S => ?_
    refine lq (.int .i64 (W (x48 + (1 : Int)))) S (q_move rfl) fun a S => ?_
    refine lx_nil ?_
    exact ⟨m71, Nat.lt_succ_self _, (W (x48 + (1 : Int))), S.sub ⟨rfl, rfl, rfl, rfl, trivial⟩, H, it_cont hm hc73⟩
  ·have hm := ite_f hc74 hm
   refine wp_exit ?_
   refine then_exit ?_
   refine then_exit ?_
   refine inBlock_exit ?_
   obtain rfl := it_brk hm hc73
   exact ⟨S.sub trivial, H, rfl⟩

/-- impl.normal -/
def impl_normal_m (fuel : Nat) (a0 : (List Int)) : Option ((List Int)) :=
  (mks (a0.length : Int) (0 : Int)).bind fun x34 => (iter (fun (s : (List (Int × Int)) × (List Int) × (Int)) => (match s with | (m58, xs59, x60) => (if (decide (x60 < (a0.length : Int))) = true then (idx a0 x60).bind fun x89 => join (κ := List (Int × Int) → Int → Option (((List (Int × Int)) × (List Int) × (Int)) ⊕ (((List Int)) ⊕ ((List Int))))) (fun (m94 : List (Int × Int)) (x95 : Int) => (idx xs59 x60).bind fun _ => some (.inl (m94, (xs59.set x60.toNat x95), (W (x60 + (1 : Int)))))) (fun K96 => (if (!(mget m58 x89).isSome) = true then (K96 (mset m58 x89 (m58.length : Int)) (m58.length : Int)) else (K96 m58 ((mget m58 x89).getD (0 : Int))))) else some (.inr (.inl (xs59)))) : Option (((List (Int × Int)) × (List Int) × (Int)) ⊕ (((List Int)) ⊕ ((List Int)))))) fuel (([] : List (Int × Int)), x34, (0 : Int))).bind fun res80 => ctl (β := (List Int)) (ρ := (List Int)) (τ := (List Int)) res80 (fun (xs79) => some (xs79)) (fun q => some (q))
set_option maxRecDepth 20000 in
theorem impl_normal_ok {w0 : World} {fuel : Nat} {p0 : Value} {a0 : (List Int)} {r : (List Int)} (h0 : Rd (rList (rInt .i64)) w0 p0 a0) (hm : impl_normal_m fuel a0 = some r) :
  Calls Tryz.prog 116 #[p0] w0 fun e w => ∃ (v0 : Value), e = .returned (v0) ∧ Heap w0 [oA (rList (rInt .i64)) v0 r] w := by
 unfold impl_normal_m at hm
 have H := Heap.start w0
 refine enter (args := [p0]) Tryz.func116 rfl 39 rfl (Nat.le_of_ble_eq_true rfl) (fun a S => ?_)
 refine wp_seq (region_plain ?_)
 refine lq (.slice none 0 0) S (q_assign rfl) fun a S => ?_
 refine lx_nil (thenN ?_)
 refine wp_seq (region_plain ?_)
 refine lx_makeMap (fun n : Int => Value.int .i64 n) (fun n : Int => Value.int .i64 n) S trivial (by decide) rfl H (fun r31 w32 H => ⟨trivial, fun a S => ?_⟩)
 refine lq (.map (some r31)) S (q_assign rfl) fun a S => ?_
 refine lx_nil (thenN ?_)
 refine wp_seq (region_plain ?_)
 refine lq p0 S (q_move rfl) fun a S => ?_
 refine lq (.int .i64 (a0.length : Int)) S (q_lenSl rfl (h0).isSl rfl Tryz.underlying27) fun a S => ?_
 obtain ⟨x34, e35, hm⟩ := bind_some hm
 obtain ⟨m36, hn, hn2, rfl⟩ := mks_some e35
 refine lx_make (r := (rInt .i64)) (z0 := (0 : Int)) (n := m36) S trivial (by decide) rfl H (by rw [← hn]; rfl) (by rw [← hn]; rfl) Tryz.underlying27 (Tryz.ti2) rfl rfl (Nat.le_of_ble_eq_true rfl) (fun w => ⟨rfl, rfl⟩) hn2 (by decide) (fun v37 w38 H => ⟨trivial, fun a S => ?_⟩)
 refine lq v37 S (q_assign rfl) fun a S => ?_
 refine lx_nil (thenN ?_)
 refine wp_seq (wp_seq (region_plain ?_))
 refine lq p0 S (q_move rfl) fun a S => ?_
 refine lq (.int .i64 (a0.length : Int)) S (q_lenSl rfl (h0).isSl rfl Tryz.underlying27) fun a S => ?_
 refine lq (.int .i64 (0 : Int)) S (q_move rfl) fun a S => ?_
 refine lx_nil (thenN ?_)
 obtain ⟨res80, hit81, hk84⟩ := bind_some hm
 obtain ⟨f82, hf83, hit81⟩ := iter_name hit81
 refine block_loop (fun a w => ∃ (xs79 : List Int), Slots a 39 [(4, v37)] ∧ Heap w0 [oA (rList (rInt .i64)) v37 xs79] w ∧ res80 = .inl (xs79)) ?_ ?_
 ·rintro a w ⟨xs79, S, H, rfl⟩
  have hm := ctl_inl hk84
  refine thenN ?_
  refine wp_seq (region_plain ?_)
  refine lq v37 S (q_move rfl) fun a S => ?_
  refine lq v37 S (q_assign rfl) fun a S => ?_
  refine lx_nil (thenN ?_)
  refine wp_ret ?_
  obtain rfl := Option.some.inj hm
  exact leave1 S rfl rfl ⟨v37, rfl, H⟩
 ·skip
  have H : Heap w0 [mapA (fun n : Int => Value.int .i64 n) (fun n : Int => Value.int .i64 n) r31 ([] : List (Int × Int)), oA (rList (rInt .i64)) v37 (List.replicate m36 (0 : Int))] w38 := H.front 1 rfl
  refine loop_ghost (fun n a w => ∃ (m58 : List (Int × Int)) (xs59 : List Int) (x60 : Int), Slots a 39 [(3, (.map (some r31))), (4, v37), (13, p0), (14, (.int .i64 (a0.length : Int))), (15, (.int .i64 x60))] ∧ Heap w0 [mapA (fun n : Int => Value.int .i64 n) (fun n : Int => Value.int .i64 n) r31 m58, oA (rList (rInt .i64)) v37 xs59] w ∧ iter f82 n (m58, xs59, x60) = some res80) _ ⟨([] : List (Int × Int)), (List.replicate m36 (0 : Int)), (0 : Int), S.sub ⟨rfl, rfl, rfl, rfl, rfl, trivial⟩, H, hit81⟩ ?_
  rintro n a w ⟨m58, xs59, x60, S, H, hit81⟩
  obtain ⟨m85, o86, rfl, hm, hc87⟩ := iter_step hit81
  rw [hf83] at hm
  refine wp_seq (region_plain ?_)
  refine lq (.bool (decide (x60 < (a0.length : Int)))) S (q_lss rfl rfl) fun a S => ?_
  refine lx_nil (thenN ?_)
  refine wp_seq ?_
  refine cond_b S rfl (fun hc88 => ?_) (fun hc88 => ?_)
  ·have hm := ite_t hc88 hm
   refine wp_skip (thenN ?_)
   refine wp_seq ?_
   refine wp_block ?_
   refine wp_seq (region_plain ?_)
   refine lq (.int .i64 x60) S (q_move rfl) fun a S => ?_
   obtain ⟨x89, e90, hm⟩ := bind_some hm
   obtain ⟨c91, h92, hat93⟩ := (h0).elem (idx_some e90).2
   obtain rfl := h92
   have hlt := lt_of_idx (idx_some e90).2
   refine lq (ePtr p0 (x60.toNat * 1)) S (q_indexAddr rfl (h0).isSl rfl (idx_some e90).1 hlt Tryz.underlying27 Tryz.sizeOf2) fun a S => ?_
   refine lx_e (.int .i64 x89) S trivial (by decide) rfl trivial (q_load1 rfl Tryz.isAgg2 (by rintro _ rfl; exact ((hat93 0 _ rfl).ext H.ext))) (fun a S => ?_)
   refine lq (.int .i64 x60) S (q_assign rfl) fun a S => ?_
   refine lq (.int .i64 x89) S (q_assign rfl) fun a S => ?_
   refine lx_nil (thenN ?_)
   refine wp_seq (region_plain ?_)
   refine lq (.map (some r31)) S (q_move rfl) fun a S => ?_
   refine lq (.int .i64 x89) S (q_move rfl) fun a S => ?_
   refine lx_e (.tuple #[(.int .i64 ((mget m58 x89).getD (0 : Int))), (.bool (mget m58 x89).isSome)]) S trivial (by decide) rfl trivial (q_lookup (key := x89) (z0 := (0 : Int)) (keys_int .i64) rfl rfl Tryz.underlying155 Tryz.underlying2 Tryz.zeroValue2 (by rintro _ rfl; exact H.mapAt 0 rfl)) (fun a S => ?_)
   refine lq (.tuple #[(.int .i64 ((mget m58 x89).getD (0 : Int))), (.bool (mget m58 x89).isSome)]) S (q_move rfl) fun a S => ?_
   refine lq (.int .i64 ((mget m58 x89).getD (0 : Int))) S (q_extract rfl rfl) fun a S => ?_
   refine lq (.bool (mget m58 x89).isSome) S (q_extract rfl rfl) fun a S => ?_
   refine lq (.int .i64 ((mget m58 x89).getD (0 : Int))) S (q_assign rfl) fun a S => ?_
   refine lq (.bool (mget m58 x89).isSome) S (q_assign rfl) fun a S => ?_
   refine lx_nil (thenN ?_)
   obtain ⟨K96, hK97, hm⟩ := join_elim hm
   refine seq_cut (fun a w => ∃ (m94 : List (Int × Int)) (x95 : Int), Slots a 39 [(3, (.map (some r31))), (4, v37), (5, (.int .i64 x60)), (7, (.int .i64 x95)), (13, p0), (14, (.int .i64 (a0.length : Int))), (15, (.int .i64 x60))] ∧ Heap w0 [mapA (fun n : Int => Value.int .i64 n) (fun n : Int => Value.int .i64 n) r31 m94, oA (rList (rInt .i64)) v37 xs59] w ∧ K96 m94 x95 = some o86) ?_ ?_
   ·rintro a w ⟨m94, x95, S, H, hm⟩
    subst hK97
    refine region_plain ?_
    refine lq v37 S (q_move rfl) fun a S => ?_
    refine lq (.int .i64 x60) S (q_move rfl) fun a S => ?_
    refine lq (.int .i64 x95) S (q_move rfl) fun a S => ?_
    obtain ⟨x98, e99, hm⟩ := bind_some hm
    have hlt := lt_of_idx (idx_some e99).2
    refine lq (ePtr v37 (x60.toNat * 1)) S (q_indexAddr rfl (H.isSl 1 rfl) rfl (idx_some e99).1 hlt Tryz.underlying27 Tryz.sizeOf2) fun a S => ?_
    have H : Heap w0 [oA (rList (rInt .i64)) v37 xs59, mapA (fun n : Int => Value.int .i64 n) (fun n : Int => Value.int .i64 n) r31 m94] w := H.front 1 rfl
    refine lx_storeElem (r := (rInt .i64)) (us := [(.int .i64 x95)]) (off := 0) (e' := x95) S trivial rfl H.putE (ev_zero rfl) rfl (idx_some e99).2 rfl Tryz.sizeOf2 (Nat.le_of_ble_eq_true rfl) (List.forall_mem_cons.2 ⟨rfl, (fun _ h => nomatch h)⟩) (Upd.full rfl (fun w G hG => by cases (show G = [] from hG); exact ⟨rfl, rfl⟩)) (fun w100 H => ⟨trivial, fun a S => ?_⟩)
    refine lx_nil ?_
    refine inBlock_norm ?_
    refine thenN ?_
    refine region_plain ?_
    refine lq (.int .i64 (W (x60 + (1 : Int)))) S (q_add rfl rfl) fun a S => ?_
    refine lq (.int .i64 (W (x60 + (1 : Int)))) S (q_move rfl) fun a S => ?_
    refine lx_nil ?_
    have H : Heap w0 [mapA (fun n : Int => Value.int .i64 n) (fun n : Int => Value.int .i64 n) r31 m94, oA (rList (rInt .i64)) v37 (xs59.set x60.toNat x95)] w100 := H.front 1 rfl
    exact ⟨m85, Nat.lt_succ_self _, m94, (xs59.set x60.toNat x95), (W (x60 + (1 : Int))), S.sub ⟨rfl, rfl, rfl, rfl, rfl, trivial⟩, H, it_cont hm hc87⟩
   ·skip
    refine wp_seq (region_plain ?_)
    refine lq (.bool (mget m58 x89).isSome) S (q_move rfl) fun a S => ?_
    refine lq (.bool (!(mget m58 x89).isSome)) S (q_not rfl) fun a S => ?_
    refine lx_nil (thenN ?_)
    refine cond_b S rfl (fun hc101 => ?_) (fun hc101 => ?_)
    ·have hm := ite_t hc101 hm
     refine wp_seq (region_plain ?_)
     refine lq (.map (some r31)) S (q_move rfl) fun a S => ?_
     refine lx_e (.int .i64 (m58.length : Int)) S trivial (by decide) rfl trivial (q_lenMap rfl rfl Tryz.underlying155 (by rintro _ rfl; exact H.mapAt 0 rfl)) (fun a S => ?_)
     refine lq (.int .i64 (m58.length : Int)) S (q_assign rfl) fun a S => ?_
     refine lx_nil (thenN ?_)
     refine region_plain ?_
     refine lq (.map (some r31)) S (q_move rfl) fun a S => ?_
     refine lq (.int .i64 x89) S (q_move rfl) fun a S => ?_
     refine lq (.int .i64 (m58.length : Int)) S (q_move rfl) fun a S => ?_
     refine lx_mapUpdate (key := x89) (val := (m58.length : Int)) (keys_int .i64) S trivial rfl H rfl rfl rfl Tryz.underlying155 Tryz.underlying2 (fun w102 H => ⟨trivial, fun a S => ?_⟩)
     refine lx_nil ?_
     exact ⟨(mset m58 x89 (m58.length : Int)), (m58.length : Int), S.sub ⟨rfl, rfl, rfl, rfl, rfl, rfl, rfl, trivial⟩, H, hm⟩
    ·have hm := ite_f hc101 hm
     refine wp_skip ?_
     exact ⟨m58, ((mget m58 x89).getD (0 : Int)), S.sub ⟨rfl, rfl, rfl, rfl, rfl, rfl, rfl, trivial⟩, H, hm⟩
  ·have hm := ite_f hc88 hm
   refine wp_exit ?_
   refine then_exit ?_
   refine then_exit ?_
   refine inBlock_exit ?_
   obtain rfl := it_brk hm hc87
   have H : Heap w0 [oA (rList (rInt .i64)) v37 xs59] w := H.sel [1] (by decide)
   exact ⟨xs59, S.sub ⟨rfl, trivial⟩, H, rfl⟩

/-- impl.normalKeys -/
def impl_normalKeys_m (fuel : Nat) (a0 : (List (List Int))) : Option ((List Int)) :=
  (iter (fun (s : (List Int) × (Int)) => (match s with | (xs69, x71) => (if (decide (x71 < (a0.length : Int))) = true then (idx a0 x71).bind fun x128 => (sub a0 (0 : Int) x71).bind fun xs139 => (slices_IndexFunc___int64__int64_m fuel xs139 (fun (z0 : (List Int)) => impl_normalKeys_1_m fuel z0 x128)).bind fun x143 => join (κ := Int → Option (((List Int) × (Int)) ⊕ (((List Int)) ⊕ ((List Int))))) (fun (x147 : Int) => (app xs69 [x147]).bind fun x153 => some (.inl (x153, (W (x71 + (1 : Int)))))) (fun K148 => (if (decide (x143 < (0 : Int))) = true then (K148 x71) else (K148 x143))) else some (.inr (.inl (xs69)))) : Option (((List Int) × (Int)) ⊕ (((List Int)) ⊕ ((List Int)))))) fuel ([], (0 : Int))).bind fun res111 => ctl (β := (List Int)) (ρ := (List Int)) (τ := (List Int)) res111 (fun (xs109) => (impl_normal_m fuel xs109).bind fun x118 => some (x118)) (fun q => some (q))
set_option maxRecDepth 20000 in
theorem impl_normalKeys_ok {w0 : World} {fuel : Nat} {p0 : Value} {a0 : (List (List Int))} {r : (List Int)} (h0 : Rd (rList (rList (rInt .i64))) w0 p0 a0) (hm : impl_normalKeys_m fuel a0 = some r) :
  Calls Tryz.prog 88 #[p0] w0 fun e w => ∃ (v0 : Value), e = .returned (v0) ∧ Heap w0 [oA (rList (rInt .i64)) v0 r] w := by
 unfold impl_normalKeys_m at hm
 have H := Heap.start w0
 refine enter (args := [p0]) Tryz.func88 rfl 29 rfl (Nat.le_of_ble_eq_true rfl) (fun a S => ?_)
 refine wp_seq (region_plain ?_)
 refine lq (.slice none 0 0) S (q_assign rfl) fun a S => ?_
 refine lx_nil (thenN ?_)
 refine wp_seq (region_plain ?_)
 refine lq (.slice none 0 0) S (q_assign rfl) fun a S => ?_
 refine lx_nil (thenN ?_)
 refine wp_seq (wp_seq (region_plain ?_))
 refine lq p0 S (q_move rfl) fun a S => ?_
 refine lq (.int .i64 (a0.length : Int)) S (q_lenSl rfl (h0).isSl rfl Tryz.underlying63) fun a S => ?_
 refine lq (.int .i64 (0 : Int)) S (q_move rfl) fun a S => ?_
 refine lx_nil (thenN ?_)
 obtain ⟨res111, hit112, hk115⟩ := bind_some hm
 obtain ⟨f113, hf114, hit112⟩ := iter_name hit112
 refine block_loop (fun a w => ∃ (xs109 : List Int) (v108 : Value), Slots a 29 [(3, v108)] ∧ Heap w0 [oA (rList (rInt .i64)) v108 xs109] w ∧ res111 = .inl (xs109)) ?_ ?_
 ·rintro a w ⟨xs109, v108, S, H, rfl⟩
  have hm := ctl_inl hk115
  refine thenN ?_
  refine wp_seq (region_plain ?_)
  refine lq v108 S (q_move rfl) fun a S => ?_
  obtain ⟨x118, e119, hm⟩ := bind_some hm
  refine lx_call (xs := [.tmp 27]) S trivial (by decide) rfl rfl Tryz.call116 ((impl_normal_ok (H.rdAt 0 rfl) e119).mono ?_)
  rintro e w116 ⟨v120, rfl, Hc117⟩
  have H := H.call1 Hc117
  refine ⟨_, rfl, trivial, fun a S => ?_⟩
  refine lq v120 S (q_assign rfl) fun a S => ?_
  refine lx_nil (thenN ?_)
  refine wp_ret ?_
  obtain rfl := Option.some.inj hm
  have H : Heap w0 [oA (rList (rInt .i64)) v120 x118] w116 := H.sel [0] (by decide)
  exact leave1 S rfl rfl ⟨v120, rfl, H⟩
 ·skip
  have H : Heap w0 [oA (rList (rInt .i64)) (.slice none 0 0) ([] : List Int)] w0 := H.nilList (rInt .i64)
  refine loop_ghost (fun n a w => ∃ (xs69 : List Int) (x71 : Int) (v68 : Value), Slots a 29 [(0, p0), (3, v68), (7, p0), (8, (.int .i64 (a0.length : Int))), (9, (.int .i64 x71))] ∧ Heap w0 [oA (rList (rInt .i64)) v68 xs69] w ∧ iter f113 n (xs69, x71) = some res111) _ ⟨[], (0 : Int), (.slice none 0 0), S.sub ⟨rfl, rfl, rfl, rfl, rfl, trivial⟩, H, hit112⟩ ?_
  rintro n a w ⟨xs69, x71, v68, S, H, hit112⟩
  obtain ⟨m124, o125, rfl, hm, hc126⟩ := iter_step hit112
  rw [hf114] at hm
  refine wp_seq (region_plain ?_)
  refine lq (.bool (decide (x71 < (a0.length : Int)))) S (q_lss rfl rfl) fun a S => ?_
  refine lx_nil (thenN ?_)
  refine wp_seq ?_
  refine cond_b S rfl (fun hc127 => ?_) (fun hc127 => ?_)
  ·have hm := ite_t hc127 hm
   refine wp_skip (thenN ?_)
   refine wp_seq ?_
   refine wp_block ?_
   refine wp_seq (region_plain ?_)
   refine lq (.int .i64 x71) S (q_move rfl) fun a S => ?_
   obtain ⟨x128, e129, hm⟩ := bind_some hm
   obtain ⟨c130, h131, hat132⟩ := (h0).elem (idx_some e129).2
   obtain ⟨v133, rfl, h134⟩ := rd_list h131
   have hlt := lt_of_idx (idx_some e129).2
   refine lq (ePtr p0 (x71.toNat * 1)) S (q_indexAddr rfl (h0).isSl rfl (idx_some e129).1 hlt Tryz.underlying63 Tryz.sizeOf27) fun a S => ?_
   refine lx_e v133 S trivial (by decide) rfl trivial (q_load1 rfl Tryz.isAgg27 (by rintro _ rfl; exact ((hat132 0 _ rfl).ext H.ext))) (fun a S => ?_)
   refine lx_alloc S trivial (by decide) rfl H Tryz.zeroValue27 rfl (fun b135 w136 H => ⟨trivial, fun a S => ?_⟩)
   refine lq (.int .i64 x71) S (q_assign rfl) fun a S => ?_
   refine lx_storeBox (o := 0) (i := 0) (us := [v133]) (cs' := [v133]) S trivial rfl H rfl rfl rfl (cells_sl (h134).isSl) Tryz.sizeOf27 (Nat.le_of_ble_eq_true rfl) (List.forall_mem_cons.2 ⟨one_sl (h134).isSl, (fun _ h => nomatch h)⟩) rfl (fun w138 H => ⟨trivial, fun a S => ?_⟩)
   change Heap w0 [bA b135 [v133] 27, oA (rList (rInt .i64)) v68 xs69] w138 at H
   refine lx_nil (thenN ?_)
   refine wp_seq (region_plain ?_)
   refine lq p0 S (q_move rfl) fun a S => ?_
   refine lq (.int .i64 x71) S (q_move rfl) fun a S => ?_
   obtain ⟨xs139, e140, hm⟩ := bind_some hm
   have hsb := (sub_some e140).1
   refine lq (subV p0 ((0 : Int)).toNat (x71).toNat 1) S (q_slice (lo := none) (hi := (some (.tmp 15))) (l := (0 : Int)) (h := x71) (size := 1) rfl (h0).isSl Tryz.underlying63 Tryz.sizeOf27 rfl rfl hsb.1 hsb.2.1 hsb.2.2) fun a S => ?_
   refine lq (.func (.func 115) #[] #[(bp b135)]) S (q_makeFunc (xs := []) (ys := [.tmp 5]) rfl rfl) fun a S => ?_
   obtain ⟨x143, e144, hm⟩ := bind_some hm
   have hcap145 : Rd (rPtr (rList (rInt .i64))) w138 (bp b135) x128 := (rdPtr_box H 0 rfl ((H.arg h134)).list_rd)
   refine lx_call (xs := [.tmp 16, .tmp 17]) S trivial (by decide) rfl rfl Tryz.call92 ((slices_IndexFunc___int64__int64_ok (f1 := 115) (fs1 := ([] : List Value)) (cp1 := ([(bp b135)] : List Value)) (a1 := (fun (z0 : (List Int)) => impl_normalKeys_1_m fuel z0 x128)) (H.arg (h0.sub e140)) Tryz.call115 (fun he h0_ hm => impl_normalKeys_1_ok  h0_ (hcap145.ext he) hm) e144).mono ?_)
   rintro e w141 ⟨rfl, Hc142⟩
   have H := H.call0 Hc142
   refine ⟨_, rfl, trivial, fun a S => ?_⟩
   refine lq (.int .i64 x143) S (q_assign rfl) fun a S => ?_
   refine lx_nil (thenN ?_)
   obtain ⟨K148, hK149, hm⟩ := join_elim hm
   refine seq_cut (fun a w => ∃ (x147 : Int), Slots a 29 [(0, p0), (3, v68), (6, (.int .i64 x147)), (7, p0), (8, (.int .i64 (a0.length : Int))), (9, (.int .i64 x71))] ∧ Heap w0 [oA (rList (rInt .i64)) v68 xs69] w ∧ K148 x147 = some o125) ?_ ?_
   ·rintro a w ⟨x147, S, H, hm⟩
    subst hK149
    refine region_plain ?_
    refine lq v68 S (q_move rfl) fun a S => ?_
    refine lq (.int .i64 x147) S (q_move rfl) fun a S => ?_
    refine lx_buildSlice (r := (rInt .i64)) (xs := [x147]) (ps := [(0, [(.int .i64 x147)])]) (cs := [(.int .i64 x147)]) (parts := [(0, .tmp 23)]) S trivial (by decide) rfl (H.put0 (A := eA) rfl) rfl Tryz.underlying27 Tryz.sizeOf2 Tryz.zeroValue2 (by decide) ⟨rfl, rfl, Nat.le_of_ble_eq_true rfl, trivial⟩ (by intro zs hz; exact fill_dense hz ⟨rfl, trivial⟩ rfl rfl) rfl (by decide) (fun w F hA => by cases (show F = [] from hA); exact ⟨_, _, [(.int .i64 x147)], _, rfl, rfl, ⟨rfl, rfl⟩, ⟨rfl, rfl⟩⟩) (fun v150 w151 H => ⟨trivial, fun a S => ?_⟩)
    obtain ⟨x153, e154, hm⟩ := bind_some hm
    obtain ⟨hle, hap⟩ := app_some e154
    replace hap := hap.symm
    subst hap
    have H : Heap w0 [oA (rList (rInt .i64)) v150 [x147], oA (rList (rInt .i64)) v68 xs69] w151 := H.front 0 rfl
    have H : Heap w0 [oA (rList (rInt .i64)) v68 xs69, oA (rList (rInt .i64)) v150 [x147]] w151 := H.front 1 rfl
    refine lx_appendOwn (r := (rInt .i64)) S trivial (by decide) rfl H rfl rfl Tryz.underlying27 Tryz.ti2 rfl rfl rfl (Nat.le_of_ble_eq_true rfl) (by decide) hle (fun v155 w156 H => ⟨trivial, fun a S => ?_⟩)
    refine lq v155 S (q_assign rfl) fun a S => ?_
    refine lx_nil ?_
    refine inBlock_norm ?_
    refine thenN ?_
    refine region_plain ?_
    refine lq (.int .i64 (W (x71 + (1 : Int)))) S (q_add rfl rfl) fun a S => ?_
    refine lq (.int .i64 (W (x71 + (1 : Int)))) S (q_move rfl) fun a S => ?_
    refine lx_nil ?_
    exact ⟨m124, Nat.lt_succ_self _, (xs69 ++ [x147]), (W (x71 + (1 : Int))), v155, S.sub ⟨rfl, rfl, rfl, rfl, rfl, trivial⟩, H, it_cont hm hc126⟩
   ·skip
    refine wp_seq (region_plain ?_)
    refine lq (.int .i64 x143) S (q_move rfl) fun a S => ?_
    refine lq (.bool (decide (x143 < (0 : Int)))) S (q_lss rfl rfl) fun a S => ?_
    refine lx_nil (thenN ?_)
    refine cond_b S rfl (fun hc158 => ?_) (fun hc158 => ?_)
    ·have hm := ite_t hc158 hm
     refine region_plain ?_
     refine lq (.int .i64 x71) S (q_move rfl) fun a S => ?_
     refine lq (.int .i64 x71) S (q_assign rfl) fun a S => ?_
     refine lx_nil ?_
     have H : Heap w0 [oA (rList (rInt .i64)) v68 xs69] w141 := H.sel [1] (by decide)
     exact ⟨x71, S.sub ⟨rfl, rfl, rfl, rfl, rfl, rfl, trivial⟩, H, hm⟩
    ·have hm := ite_f hc158 hm
     refine wp_skip ?_
     have H : Heap w0 [oA (rList (rInt .i64)) v68 xs69] w141 := H.sel [1] (by decide)
     exact ⟨x143, S.sub ⟨rfl, rfl, rfl, rfl, rfl, rfl, trivial⟩, H, hm⟩
  ·have hm := ite_f hc127 hm
   refine wp_exit ?_
   refine then_exit ?_
   refine then_exit ?_
   refine inBlock_exit ?_
   obtain rfl := it_brk hm hc126
   exact ⟨xs69, v68, S.sub ⟨rfl, trivial⟩, H, rfl⟩

/-- (impl.Lts).refine -/
def impl_Lts_refine_m (fuel : Nat) (a0 : Timpl_Lts) (a1 : (List Int)) : Option ((List Int)) :=
  (mks a0.1 (Mx.own ([] : (List Int)))).bind fun x52 => (iter (fun (s : (List (Mx (List Int))) × (Int)) => (match s with | (xs72, x73) => (if (decide (x73 < (a1.length : Int))) = true then (idx a1 x73).bind fun x24401 => (idx xs72 x73).bind fun _ => some (.inl ((xs72.set x73.toNat (Mx.own [x24401])), (W (x73 + (1 : Int))))) else some (.inr (.inl (xs72)))) : Option (((List (Mx (List Int))) × (Int)) ⊕ (((List (Mx (List Int)))) ⊕ ((List Int)))))) fuel (x52, (0 : Int))).bind fun res89 => ctl (β := (List (Mx (List Int)))) (ρ := (List Int)) (τ := (List Int)) res89 (fun (xs88) => (mks a0.1 (Mx.own ([] : (List Int)))).bind fun x94 => (iter (fun (s : (List (Mx (List Int))) × (Int)) => (match s with | (xs4148, x4149) => (if (decide (x4149 < (a0.2.2.2.length : Int))) = true then join (κ := List (Mx (List Int)) → Option (((List (Mx (List Int))) × (Int)) ⊕ (((List (Mx (List Int)))) ⊕ ((List Int))))) (fun (xs20352 : List (Mx (List Int))) => some (.inl (xs20352, (W (x4149 + (1 : Int)))))) (fun K20353 => (idx a0.2.2.2 x4149).bind fun x20355 => (idx xs4148 x20355.1).bind fun x20374 => (Mx.mine x20374).bind fun x20376 => (idx a1 x20355.2.2).bind fun x20381 => (app x20376 [(W ((W (x20355.2.1 * a0.1)) + x20381))]).bind fun x20389 => (idx (xs4148.set x20355.1.toNat .gone) x20355.1).bind fun _ => (K20353 ((xs4148.set x20355.1.toNat .gone).set x20355.1.toNat (Mx.own x20389)))) else some (.inr (.inl (xs4148)))) : Option (((List (Mx (List Int))) × (Int)) ⊕ (((List (Mx (List Int)))) ⊕ ((List Int)))))) fuel (x94, (0 : Int))).bind fun res8199 => ctl (β := (List (Mx (List Int)))) (ρ := (List Int)) (τ := (List Int)) res8199 (fun (xs8198) => (iter (fun (s : (List (Mx (List Int))) × (List (Mx (List Int))) × (Int)) => (match s with | (xs12246, xs12247, x12248) => (if (decide (x12248 < (xs8198.length : Int))) = true then join (κ := List (Mx (List Int)) → List (Mx (List Int)) → Option (((List (Mx (List Int))) × (List (Mx (List Int))) × (Int)) ⊕ (((List (Mx (List Int)))) ⊕ ((List Int))))) (fun (xs16310 : List (Mx (List Int))) (xs16311 : List (Mx (List Int))) => some (.inl (xs16310, xs16311, (W (x12248 + (1 : Int)))))) (fun K16312 => (idx xs12247 x12248).bind fun x16314 => (Mx.mine x16314).bind fun x16316 => (slices_Sort__int64_int64_m fuel x16316).bind fun x16323 => (idx xs12246 x12248).bind fun x16327 => (Mx.mine x16327).bind fun x16329 => (slices_Compact__int64_int64_m fuel x16323).bind fun x16336 => (app x16329 x16336).bind fun x16340 => (idx (xs12246.set x12248.toNat .gone) x12248).bind fun _ => (K16312 ((xs12246.set x12248.toNat .gone).set x12248.toNat (Mx.own x16340)) (xs12247.set x12248.toNat .gone))) else some (.inr (.inl (xs12246)))) : Option (((List (Mx (List Int))) × (List (Mx (List Int))) × (Int)) ⊕ (((List (Mx (List Int)))) ⊕ ((List Int)))))) fuel (xs88, xs8198, (0 : Int))).bind fun res16292 => ctl (β := (List (Mx (List Int)))) (ρ := (List Int)) (τ := (List Int)) res16292 (fun (xs16291) => (allO Mx.val xs16291).bind fun ys16299 => (impl_normalKeys_m fuel ys16299).bind fun x16301 => some (x16301)) (fun q => some (q))) (fun q => some (q))) (fun q => some (q))
set_option maxRecDepth 20000 in
theorem impl_Lts_refine_ok {w0 : World} {fuel : Nat} {p0 p1 : Value} {a0 : Timpl_Lts} {a1 : (List Int)} {r : (List Int)} (h0 : Rd Rimpl_Lts w0 p0 a0) (h1 : Rd (rList (rInt .i64)) w0 p1 a1) (hm : impl_Lts_refine_m fuel a0 a1 = some r) :
  Calls Tryz.prog 47 #[p0, p1] w0 fun e w => ∃ (v0 : Value), e = .returned (v0) ∧ Heap w0 [oA (rList (rInt .i64)) v0 r] w := by
 unfold impl_Lts_refine_m at hm
 have H := Heap.start w0
 obtain ⟨c31, rfl, h32⟩ := h0
 obtain ⟨c37, c38, rfl, h39, h40⟩ := h32
 obtain rfl := h39
 obtain ⟨c41, c42, rfl, h43, h44⟩ := h40
 obtain rfl := h43
 obtain ⟨c45, c46, rfl, h47, h48⟩ := h44
 obtain ⟨v33, rfl, h34⟩ := rd_list h47
 obtain ⟨v35, rfl, h36⟩ := rd_list h48
 refine enter (args := [(.agg #[(.int .i64 a0.1), (.int .i64 a0.2.1), v33, v35]), p1]) Tryz.func47 rfl 84 rfl (Nat.le_of_ble_eq_true rfl) (fun a S => ?_)
 refine wp_seq (region_plain ?_)
 refine lx_box S trivial (by decide) rfl H rfl rfl (fun b49 w50 H => ⟨trivial, fun a S => ?_⟩)
 refine lq (.slice none 0 0) S (q_assign rfl) fun a S => ?_
 refine lx_nil (thenN ?_)
 refine wp_seq (region_plain ?_)
 refine lq (pAdd (bp b49) 0) S (q_fieldAddr' 0 2 rfl (isP_bp _) Tryz.underlying32 rfl Tryz.sizeOf2) fun a S => ?_
 refine lx_e (.int .i64 a0.1) S trivial (by decide) rfl trivial (q_load1 rfl Tryz.isAgg2 (by rintro _ rfl; exact (At.of_add (m := 0) (j := 0) (boxAt (i := 0) H rfl (j := 0) rfl)))) (fun a S => ?_)
 obtain ⟨x52, e53, hm⟩ := bind_some hm
 obtain ⟨m54, hn, hn2, rfl⟩ := mks_some e53
 refine lx_make (r := (rMx w0 (rList (rInt .i64)))) (z0 := (Mx.own ([] : (List Int)))) (n := m54) S trivial (by decide) rfl H (by rw [← hn]; rfl) (by rw [← hn]; rfl) Tryz.underlying63 (Tryz.ti27) rfl rfl (Nat.le_of_ble_eq_true rfl) (fun w => (oA_list.1 drop_nil_own)) hn2 (by decide) (fun v55 w56 H => ⟨trivial, fun a S => ?_⟩)
 refine lq v55 S (q_assign rfl) fun a S => ?_
 refine lx_nil (thenN ?_)
 refine wp_seq (wp_seq (region_plain ?_))
 refine lq p1 S (q_move rfl) fun a S => ?_
 refine lq (.int .i64 (a1.length : Int)) S (q_lenSl rfl (h1).isSl rfl Tryz.underlying27) fun a S => ?_
 refine lq (.int .i64 (0 : Int)) S (q_move rfl) fun a S => ?_
 refine lx_nil (thenN ?_)
 obtain ⟨res89, hit90, hk93⟩ := bind_some hm
 obtain ⟨f91, hf92, hit90⟩ := iter_name hit90
 refine block_loop (fun a w => ∃ (xs88 : List (Mx (List Int))), Slots a 84 [(1, p1), (2, (bp b49)), (5, v55)] ∧ Heap w0 [bA b49 [(.int .i64 a0.1), (.int .i64 a0.2.1), v33, v35] 32, oA (rList (rMx w0 (rList (rInt .i64)))) v55 xs88] w ∧ res89 = .inl (xs88)) ?_ ?_
 ·rintro a w ⟨xs88, S, H, rfl⟩
  have hm := ctl_inl hk93
  refine thenN ?_
  refine wp_seq (region_plain ?_)
  refine lq (pAdd (bp b49) 0) S (q_fieldAddr' 0 2 rfl (isP_bp _) Tryz.underlying32 rfl Tryz.sizeOf2) fun a S => ?_
  refine lx_e (.int .i64 a0.1) S trivial (by decide) rfl trivial (q_load1 rfl Tryz.isAgg2 (by rintro _ rfl; exact (At.of_add (m := 0) (j := 0) (boxAt (i := 0) H rfl (j := 0) rfl)))) (fun a S => ?_)
  obtain ⟨x94, e95, hm⟩ := bind_some hm
  obtain ⟨m96, hn, hn2, rfl⟩ := mks_some e95
  refine lx_make (r := (rMx w0 (rList (rInt .i64)))) (z0 := (Mx.own ([] : (List Int)))) (n := m96) S trivial (by decide) rfl H (by rw [← hn]; rfl) (by rw [← hn]; rfl) Tryz.underlying63 (Tryz.ti27) rfl rfl (Nat.le_of_ble_eq_true rfl) (fun w => (oA_list.1 drop_nil_own)) hn2 (by decide) (fun v97 w98 H => ⟨trivial, fun a S => ?_⟩)
  refine lq v97 S (q_assign rfl) fun a S => ?_
  refine lx_nil (thenN ?_)
  refine wp_seq (wp_seq (region_plain ?_))
  refine lq (pAdd (bp b49) 3) S (q_fieldAddr' 3 30 rfl (isP_bp _) Tryz.underlying32 rfl Tryz.sizeOf30) fun a S => ?_
  refine lx_e v35 S trivial (by decide) rfl trivial (q_load1 rfl Tryz.isAgg30 (by rintro _ rfl; exact (At.of_add (m := 3) (j := 0) (boxAt (i := 1) H rfl (j := 3) rfl)))) (fun a S => ?_)
  refine lq (.int .i64 (a0.2.2.2.length : Int)) S (q_lenSl rfl (h36).isSl rfl Tryz.underlying30) fun a S => ?_
  refine lq (.int .i64 (0 : Int)) S (q_move rfl) fun a S => ?_
  refine lx_nil (thenN ?_)
  obtain ⟨res8199, hit8200, hk8203⟩ := bind_some hm
  obtain ⟨f8201, hf8202, hit8200⟩ := iter_name hit8200
  refine block_loop (fun a w => ∃ (xs8198 : List (Mx (List Int))), Slots a 84 [(5, v55), (8, v97)] ∧ Heap w0 [oA (rList (rMx w0 (rList (rInt .i64)))) v55 xs88, oA (rList (rMx w0 (rList (rInt .i64)))) v97 xs8198] w ∧ res8199 = .inl (xs8198)) ?_ ?_
  ·rintro a w ⟨xs8198, S, H, rfl⟩
   have hm := ctl_inl hk8203
   refine thenN ?_
   refine wp_seq (wp_seq (region_plain ?_))
   refine lq v97 S (q_move rfl) fun a S => ?_
   refine lq (.int .i64 (xs8198.length : Int)) S (q_lenSl rfl (H.isSl 1 rfl) rfl Tryz.underlying63) fun a S => ?_
   refine lq (.int .i64 (0 : Int)) S (q_move rfl) fun a S => ?_
   refine lx_nil (thenN ?_)
   obtain ⟨res16292, hit16293, hk16296⟩ := bind_some hm
   obtain ⟨f16294, hf16295, hit16293⟩ := iter_name hit16293
   refine block_loop (fun a w => ∃ (xs16291 : List (Mx (List Int))), Slots a 84 [(5, v55)] ∧ Heap w0 [oA (rList (rMx w0 (rList (rInt .i64)))) v55 xs16291] w ∧ res16292 = .inl (xs16291)) ?_ ?_
   ·rintro a w ⟨xs16291, S, H, rfl⟩
    have hm := ctl_inl hk16296
    refine thenN ?_
    refine wp_seq (region_plain ?_)
    refine lq v55 S (q_move rfl) fun a S => ?_
    obtain ⟨ys16299, ey16300, hm⟩ := bind_some hm
    obtain ⟨x16301, e16302, hm⟩ := bind_some hm
    refine lx_call (xs := [.tmp 82]) S trivial (by decide) rfl rfl Tryz.call88 ((impl_normalKeys_ok (((H.rdAt 0 rfl)).cv (CvR.list CvR.mx) H.ext ey16300) e16302).mono ?_)
    rintro e w16297 ⟨v16303, rfl, Hc16298⟩
    have H := H.call1 Hc16298
    refine ⟨_, rfl, trivial, fun a S => ?_⟩
    refine lq v16303 S (q_assign rfl) fun a S => ?_
    refine lx_nil (thenN ?_)
    refine wp_ret ?_
    obtain rfl := Option.some.inj hm
    have H : Heap w0 [oA (rList (rInt .i64)) v16303 x16301] w16297 := H.sel [0] (by decide)
    exact leave1 S rfl rfl ⟨v16303, rfl, H⟩
   ·skip
    refine loop_ghost (fun n a w => ∃ (xs12246 : List (Mx (List Int))) (xs12247 : List (Mx (List Int))) (x12248 : Int), Slots a 84 [(5, v55), (62, v97), (63, (.int .i64 (xs8198.length : Int))), (64, (.int .i64 x12248))] ∧ Heap w0 [oA (rList (rMx w0 (rList (rInt .i64)))) v55 xs12246, oA (rList (rMx w0 (rList (rInt .i64)))) v97 xs12247] w ∧ iter f16294 n (xs12246, xs12247, x12248) = some res16292) _ ⟨xs88, xs8198, (0 : Int), S.sub ⟨rfl, rfl, rfl, rfl, trivial⟩, H, hit16293⟩ ?_
    rintro n a w ⟨xs12246, xs12247, x12248, S, H, hit16293⟩
    obtain ⟨m16306, o16307, rfl, hm, hc16308⟩ := iter_step hit16293
    rw [hf16295] at hm
    refine wp_seq (region_plain ?_)
    refine lq (.bool (decide (x12248 < (xs8198.length : Int)))) S (q_lss rfl rfl) fun a S => ?_
    refine lx_nil (thenN ?_)
    refine wp_seq ?_
    refine cond_b S rfl (fun hc16309 => ?_) (fun hc16309 => ?_)
    ·have hm := ite_t hc16309 hm
     refine wp_skip (thenN ?_)
     obtain ⟨K16312, hK16313, hm⟩ := join_elim hm
     refine seq_cut (fun a w => ∃ (xs16310 : List (Mx (List Int))) (xs16311 : List (Mx (List Int))), Slots a 84 [(5, v55), (62, v97), (63, (.int .i64 (xs8198.length : Int))), (64, (.int .i64 x12248))] ∧ Heap w0 [oA (rList (rMx w0 (rList (rInt .i64)))) v55 xs16310, oA (rList (rMx w0 (rList (rInt .i64)))) v97 xs16311] w ∧ K16312 xs16310 xs16311 = some o16307) ?_ ?_
     ·rintro a w ⟨xs16310, xs16311, S, H, hm⟩
      subst hK16313
      refine region_plain ?_
      refine lq (.int .i64 (W (x12248 + (1 : Int)))) S (q_add rfl rfl) fun a S => ?_
      refine lq (.int .i64 (W (x12248 + (1 : Int)))) S (q_move rfl) fun a S => ?_
      refine lx_nil ?_
      exact ⟨m16306, Nat.lt_succ_self _, xs16310, xs16311, (W (x12248 + (1 : Int))), S.sub ⟨rfl, rfl, rfl, rfl, trivial⟩, H, it_cont hm hc16308⟩
     ·skip
      refine wp_block ?_
      refine wp_seq (region_plain ?_)
      refine lq (.int .i64 x12248) S (q_move rfl) fun a S => ?_
      obtain ⟨x16314, e16315, hm⟩ := bind_some hm
      have hlt := lt_of_idx (idx_some e16315).2
      refine lq (ePtr v97 (x12248.toNat * 1)) S (q_indexAddr rfl (H.isSl 1 rfl) rfl (idx_some e16315).1 hlt Tryz.underlying63 Tryz.sizeOf27) fun a S => ?_
      obtain ⟨x16316, e16317, hm⟩ := bind_some hm
      have H : Heap w0 [oA (rList (rMx w0 (rList (rInt .i64)))) v97 xs12247, oA (rList (rMx w0 (rList (rInt .i64)))) v55 xs12246] w := H.front 1 rfl
      obtain ⟨u16318, hat16319, H⟩ := H.takeM (idx_some e16315).2 e16317
      refine lx_e u16318 S trivial (by decide) rfl (trivial) (q_load1 rfl Tryz.isAgg27 (by rintro _ rfl; exact hat16319)) (fun a S => ?_)
      refine lq (.int .i64 x12248) S (q_assign rfl) fun a S => ?_
      refine lq u16318 S (q_assign rfl) fun a S => ?_
      refine lx_nil (thenN ?_)
      refine wp_seq (region_plain ?_)
      refine lq u16318 S (q_move rfl) fun a S => ?_
      obtain ⟨x16323, e16324, hm⟩ := bind_some hm
      refine lx_call (xs := [.tmp 69]) S trivial (by decide) rfl rfl Tryz.call86 ((slices_Sort__int64_int64_ok H  e16324).mono ?_)
      rintro e w16321 ⟨rfl, H⟩
      refine ⟨_, rfl, trivial, fun a S => ?_⟩
      refine lx_nil (thenN ?_)
      obtain ⟨x16327, e16328, hm⟩ := bind_some hm
      obtain ⟨x16329, e16330, hm⟩ := bind_some hm
      obtain ⟨x16336, e16337, hm⟩ := bind_some hm
      obtain ⟨x16340, e16341, hm⟩ := bind_some hm
      obtain ⟨x16345, e16346, hm⟩ := bind_some hm
      refine region_draw2 (m := [_, _, _, _, _, _, _, _, _, _, _]) (fun w1 => Heap w0 [] w1) (fun i => [5, 7, 8, 10].contains i) (fun i => [7, 1, 8, 10].contains i) [6, 7, 0, 1, 2, 3, 4, 5, 8, 9, 10] 5 7 mixed (by kernel_rfl) rfl rfl rfl (fun w16326 he16325 => ?_)
      have H := H.later he16325
      refine ⟨⟨H.sel [] (by decide), ?_⟩, ?_⟩
      ·skip
       refine lq v55 S (q_move rfl) fun a S => ?_
       refine lq (.int .i64 x12248) S (q_move rfl) fun a S => ?_
       refine lq v55 S (q_move rfl) fun a S => ?_
       refine lq (.int .i64 x12248) S (q_move rfl) fun a S => ?_
       have hlt := lt_of_idx (idx_some e16328).2
       refine lq (ePtr v55 (x12248.toNat * 1)) S (q_indexAddr rfl (H.isSl 2 rfl) rfl (idx_some e16328).1 hlt Tryz.underlying63 Tryz.sizeOf27) fun a S => ?_
       have H : Heap w0 [oA (rList (rMx w0 (rList (rInt .i64)))) v55 xs12246, oA (rList (rInt .i64)) u16318 x16323, oA (rList (rMx w0 (rList (rInt .i64)))) v97 (xs12247.set x12248.toNat .gone)] w16326 := H.front 2 rfl
       obtain ⟨u16331, hat16332, H⟩ := H.takeM (idx_some e16328).2 e16330
       refine lx_e u16331 S trivial (by decide) rfl (H.sel [] (by decide)) (q_load1 rfl Tryz.isAgg27 (by rintro _ rfl; exact hat16332)) (fun a S => ?_)
       refine lq u16318 S (q_move rfl) fun a S => ?_
       have H : Heap w0 [oA (rList (rInt .i64)) u16318 x16323, oA (rList (rInt .i64)) u16331 x16329, oA (rList (rMx w0 (rList (rInt .i64)))) v55 (xs12246.set x12248.toNat .gone), oA (rList (rMx w0 (rList (rInt .i64)))) v97 (xs12247.set x12248.toNat .gone)] w16326 := H.front 2 rfl
       refine lx_call (xs := [.tmp 77]) S trivial (by decide) rfl rfl Tryz.call87 ((slices_Compact__int64_int64_ok H  e16337).mono ?_)
       rintro e w16334 ⟨v16338, rfl, H⟩
       refine ⟨_, rfl, H.sel [] (by decide), fun a S => ?_⟩
       obtain ⟨hle, hap⟩ := app_some e16341
       replace hap := hap.symm
       subst hap
       have H : Heap w0 [oA (rList (rInt .i64)) v16338 x16336, oA (rList (rInt .i64)) u16331 x16329, oA (rList (rMx w0 (rList (rInt .i64)))) v55 (xs12246.set x12248.toNat .gone), oA (rList (rMx w0 (rList (rInt .i64)))) v97 (xs12247.set x12248.toNat .gone)] w16334 := H.front 0 rfl
       have H : Heap w0 [oA (rList (rInt .i64)) u16331 x16329, oA (rList (rInt .i64)) v16338 x16336, oA (rList (rMx w0 (rList (rInt .i64)))) v55 (xs12246.set x12248.toNat .gone), oA (rList (rMx w0 (rList (rInt .i64)))) v97 (xs12247.set x12248.toNat .gone)] w16334 := H.front 1 rfl
       refine lx_appendOwn (r := (rInt .i64)) S trivial (by decide) rfl H rfl rfl Tryz.underlying27 Tryz.ti2 rfl rfl rfl (Nat.le_of_ble_eq_true rfl) (by decide) hle (fun v16342 w16343 H => ⟨H.sel [] (by decide), fun a S => ?_⟩)
       have hlt := lt_of_idx (idx_some e16346).2
       refine lq (ePtr v55 (x12248.toNat * 1)) S (q_indexAddr rfl (H.isSl 1 rfl) rfl (idx_some e16346).1 hlt Tryz.underlying63 Tryz.sizeOf27) fun a S => ?_
       have hcl : Value.cells v16342 = List.toArray [v16342] := (cells_sl (H.isSl 0 rfl))
       have hon : ∀ c ∈ ([v16342] : List Value), c.oneCell' = true := (List.forall_mem_cons.2 ⟨one_sl (H.isSl 0 rfl), (fun _ h => nomatch h)⟩)
       have H : Heap w0 [oA (rList (rMx w0 (rList (rInt .i64)))) v55 (xs12246.set x12248.toNat .gone), oA (rList (rInt .i64)) v16342 (x16329 ++ x16336), oA (rList (rMx w0 (rList (rInt .i64)))) v97 (xs12247.set x12248.toNat .gone)] w16343 := H.front 1 rfl
       refine lx_storeElem (r := (rMx w0 (rList (rInt .i64)))) (us := [v16342]) (off := 0) (e' := (Mx.own (x16329 ++ x16336))) S trivial rfl H (ev_zero rfl) rfl (idx_some e16346).2 hcl Tryz.sizeOf27 (Nat.le_of_ble_eq_true rfl) hon (Upd.full rfl (fun w G hG => oA_list.1 hG)) (fun w16347 H => ⟨H.sel [] (by decide), fun a S => ?_⟩)
       refine lx_nil ?_
       refine inBlock_norm ?_
       exact ⟨((xs12246.set x12248.toNat .gone).set x12248.toNat (Mx.own (x16329 ++ x16336))), (xs12247.set x12248.toNat .gone), S.sub ⟨rfl, rfl, rfl, rfl, trivial⟩, H, hm⟩
      ·skip
       refine lq u16318 S (q_move rfl) fun a S => ?_
       refine lx_call (xs := [.tmp 77]) S trivial (by decide) rfl rfl Tryz.call87 ((slices_Compact__int64_int64_ok H  e16337).mono ?_)
       rintro e w16334 ⟨v16338, rfl, H⟩
       refine ⟨_, rfl, H.sel [] (by decide), fun a S => ?_⟩
       refine lq v55 S (q_move rfl) fun a S => ?_
       refine lq (.int .i64 x12248) S (q_move rfl) fun a S => ?_
       refine lq v55 S (q_move rfl) fun a S => ?_
       refine lq (.int .i64 x12248) S (q_move rfl) fun a S => ?_
       have hlt := lt_of_idx (idx_some e16328).2
       refine lq (ePtr v55 (x12248.toNat * 1)) S (q_indexAddr rfl (H.isSl 2 rfl) rfl (idx_some e16328).1 hlt Tryz.underlying63 Tryz.sizeOf27) fun a S => ?_
       have H : Heap w0 [oA (rList (rMx w0 (rList (rInt .i64)))) v55 xs12246, oA (rList (rInt .i64)) v16338 x16336, oA (rList (rMx w0 (rList (rInt .i64)))) v97 (xs12247.set x12248.toNat .gone)] w16334 := H.front 2 rfl
       obtain ⟨u16331, hat16332, H⟩ := H.takeM (idx_some e16328).2 e16330
       refine lx_e u16331 S trivial (by decide) rfl (H.sel [] (by decide)) (q_load1 rfl Tryz.isAgg27 (by rintro _ rfl; exact hat16332)) (fun a S => ?_)
       obtain ⟨hle, hap⟩ := app_some e16341
       replace hap := hap.symm
       subst hap
       have H : Heap w0 [oA (rList (rInt .i64)) v16338 x16336, oA (rList (rInt .i64)) u16331 x16329, oA (rList (rMx w0 (rList (rInt .i64)))) v55 (xs12246.set x12248.toNat .gone), oA (rList (rMx w0 (rList (rInt .i64)))) v97 (xs12247.set x12248.toNat .gone)] w16334 := H.front 2 rfl
       have H : Heap w0 [oA (rList (rInt .i64)) u16331 x16329, oA (rList (rInt .i64)) v16338 x16336, oA (rList (rMx w0 (rList (rInt .i64)))) v55 (xs12246.set x12248.toNat .gone), oA (rList (rMx w0 (rList (rInt .i64)))) v97 (xs12247.set x12248.toNat .gone)] w16334 := H.front 1 rfl
       refine lx_appendOwn (r := (rInt .i64)) S trivial (by decide) rfl H rfl rfl Tryz.underlying27 Tryz.ti2 rfl rfl rfl (Nat.le_of_ble_eq_true rfl) (by decide) hle (fun v16342 w16343 H => ⟨H.sel [] (by decide), fun a S => ?_⟩)
       have hlt := lt_of_idx (idx_some e16346).2
       refine lq (ePtr v55 (x12248.toNat * 1)) S (q_indexAddr rfl (H.isSl 1 rfl) rfl (idx_some e16346).1 hlt Tryz.underlying63 Tryz.sizeOf27) fun a S => ?_
       have hcl : Value.cells v16342 = List.toArray [v16342] := (cells_sl (H.isSl 0 rfl))
       have hon : ∀ c ∈ ([v16342] : List Value), c.oneCell' = true := (List.forall_mem_cons.2 ⟨one_sl (H.isSl 0 rfl), (fun _ h => nomatch h)⟩)
       have H : Heap w0 [oA (rList (rMx w0 (rList (rInt .i64)))) v55 (xs12246.set x12248.toNat .gone), oA (rList (rInt .i64)) v16342 (x16329 ++ x16336), oA (rList (rMx w0 (rList (rInt .i64)))) v97 (xs12247.set x12248.toNat .gone)] w16343 := H.front 1 rfl
       refine lx_storeElem (r := (rMx w0 (rList (rInt .i64)))) (us := [v16342]) (off := 0) (e' := (Mx.own (x16329 ++ x16336))) S trivial rfl H (ev_zero rfl) rfl (idx_some e16346).2 hcl Tryz.sizeOf27 (Nat.le_of_ble_eq_true rfl) hon (Upd.full rfl (fun w G hG => oA_list.1 hG)) (fun w16347 H => ⟨H.sel [] (by decide), fun a S => ?_⟩)
       refine lx_nil ?_
       refine inBlock_norm ?_
       exact ⟨((xs12246.set x12248.toNat .gone).set x12248.toNat (Mx.own (x16329 ++ x16336))), (xs12247.set x12248.toNat .gone), S.sub ⟨rfl, rfl, rfl, rfl, trivial⟩, H, hm⟩
    ·have hm := ite_f hc16309 hm
     refine wp_exit ?_
     refine then_exit ?_
     refine then_exit ?_
     refine inBlock_exit ?_
     obtain rfl := it_brk hm hc16308
     have H : Heap w0 [oA (rList (rMx w0 (rList (rInt .i64)))) v55 xs12246] w := H.sel [0] (by decide)
     exact ⟨xs12246, S.sub ⟨rfl, trivial⟩, H, rfl⟩
  ·skip
   have H : Heap w0 [oA (rList (rMx w0 (rList (rInt .i64)))) v55 xs88, oA (rList (rMx w0 (rList (rInt .i64)))) v97 (List.replicate m96 (Mx.own ([] : (List Int)))), bA b49 [(.int .i64 a0.1), (.int .i64 a0.2.1), v33, v35] 32] w98 := H.front 2 rfl
   have H : Heap w0 [bA b49 [(.int .i64 a0.1), (.int .i64 a0.2.1), v33, v35] 32, oA (rList (rMx w0 (rList (rInt .i64)))) v55 xs88, oA (rList (rMx w0 (rList (rInt .i64)))) v97 (List.replicate m96 (Mx.own ([] : (List Int))))] w98 := H.front 2 rfl
   refine loop_ghost (fun n a w => ∃ (xs4148 : List (Mx (List Int))) (x4149 : Int), Slots a 84 [(1, p1), (2, (bp b49)), (5, v55), (8, v97), (33, v35), (34, (.int .i64 (a0.2.2.2.length : Int))), (35, (.int .i64 x4149))] ∧ Heap w0 [bA b49 [(.int .i64 a0.1), (.int .i64 a0.2.1), v33, v35] 32, oA (rList (rMx w0 (rList (rInt .i64)))) v55 xs88, oA (rList (rMx w0 (rList (rInt .i64)))) v97 xs4148] w ∧ iter f8201 n (xs4148, x4149) = some res8199) _ ⟨(List.replicate m96 (Mx.own ([] : (List Int)))), (0 : Int), S.sub ⟨rfl, rfl, rfl, rfl, rfl, rfl, rfl, trivial⟩, H, hit8200⟩ ?_
   rintro n a w ⟨xs4148, x4149, S, H, hit8200⟩
   obtain ⟨m20348, o20349, rfl, hm, hc20350⟩ := iter_step hit8200
   rw [hf8202] at hm
   refine wp_seq (region_plain ?_)
   refine lq (.bool (decide (x4149 < (a0.2.2.2.length : Int)))) S (q_lss rfl rfl) fun a S => ?_
   refine lx_nil (thenN ?_)
   refine wp_seq ?_
   refine cond_b S rfl (fun hc20351 => ?_) (fun hc20351 => ?_)
   ·have hm := ite_t hc20351 hm
    refine wp_skip (thenN ?_)
    obtain ⟨K20353, hK20354, hm⟩ := join_elim hm
    refine seq_cut (fun a w => ∃ (xs20352 : List (Mx (List Int))), Slots a 84 [(1, p1), (2, (bp b49)), (5, v55), (8, v97), (33, v35), (34, (.int .i64 (a0.2.2.2.length : Int))), (35, (.int .i64 x4149))] ∧ Heap w0 [bA b49 [(.int .i64 a0.1), (.int .i64 a0.2.1), v33, v35] 32, oA (rList (rMx w0 (rList (rInt .i64)))) v55 xs88, oA (rList (rMx w0 (rList (rInt .i64)))) v97 xs20352] w ∧ K20353 xs20352 = some o20349) ?_ ?_
    ·rintro a w ⟨xs20352, S, H, hm⟩
     subst hK20354
     refine region_plain ?_
     refine lq (.int .i64 (W (x4149 + (1 : Int)))) S (q_add rfl rfl) fun a S => ?_
     refine lq (.int .i64 (W (x4149 + (1 : Int)))) S (q_move rfl) fun a S => ?_
     refine lx_nil ?_
     exact ⟨m20348, Nat.lt_succ_self _, xs20352, (W (x4149 + (1 : Int))), S.sub ⟨rfl, rfl, rfl, rfl, rfl, rfl, rfl, trivial⟩, H, it_cont hm hc20350⟩
    ·skip
     refine wp_block ?_
     refine wp_seq (region_plain ?_)
     obtain ⟨x20355, e20356, hm⟩ := bind_some hm
     obtain ⟨c20357, h20358, hat20359⟩ := (h36).elem (idx_some e20356).2
     obtain ⟨c20360, c20361, rfl, h20362, h20363⟩ := h20358
     obtain rfl := h20362
     obtain ⟨c20364, c20365, rfl, h20366, h20367⟩ := h20363
     obtain rfl := h20366
     obtain rfl := h20367
     have hlt := lt_of_idx (idx_some e20356).2
     refine lq (ePtr v35 (x4149.toNat * 3)) S (q_indexAddr rfl (h36).isSl rfl (idx_some e20356).1 hlt Tryz.underlying30 Tryz.sizeOf86) fun a S => ?_
     refine lx_e (.agg #[(.int .i64 x20355.1), (.int .i64 x20355.2.1), (.int .i64 x20355.2.2)]) S trivial (by decide) rfl trivial (q_loadA (cs := [(.int .i64 x20355.1), (.int .i64 x20355.2.1), (.int .i64 x20355.2.2)]) rfl ((hat20359 0 _ rfl).isP) Tryz.isAgg86 Tryz.sizeOf86 (by rintro _ rfl; exact (fun j u hu => (hat20359 j u hu).ext H.ext))) (fun a S => ?_)
     refine lx_alloc S trivial (by decide) rfl H Tryz.zeroValue86 rfl (fun b20368 w20369 H => ⟨trivial, fun a S => ?_⟩)
     refine lx_storeBox (o := 0) (i := 0) (us := [(.int .i64 x20355.1), (.int .i64 x20355.2.1), (.int .i64 x20355.2.2)]) (cs' := [(.int .i64 x20355.1), (.int .i64 x20355.2.1), (.int .i64 x20355.2.2)]) S trivial rfl H rfl rfl rfl rfl Tryz.sizeOf86 (Nat.le_of_ble_eq_true rfl) (List.forall_mem_cons.2 ⟨rfl, (List.forall_mem_cons.2 ⟨rfl, (List.forall_mem_cons.2 ⟨rfl, (fun _ h => nomatch h)⟩)⟩)⟩) rfl (fun w20371 H => ⟨trivial, fun a S => ?_⟩)
     change Heap w0 [bA b20368 [(.int .i64 x20355.1), (.int .i64 x20355.2.1), (.int .i64 x20355.2.2)] 86, bA b49 [(.int .i64 a0.1), (.int .i64 a0.2.1), v33, v35] 32, oA (rList (rMx w0 (rList (rInt .i64)))) v55 xs88, oA (rList (rMx w0 (rList (rInt .i64)))) v97 xs4148] w20371 at H
     refine lx_nil (thenN ?_)
     obtain ⟨x20374, e20375, hm⟩ := bind_some hm
     obtain ⟨x20376, e20377, hm⟩ := bind_some hm
     obtain ⟨x20381, e20382, hm⟩ := bind_some hm
     obtain ⟨x20389, e20390, hm⟩ := bind_some hm
     obtain ⟨x20394, e20395, hm⟩ := bind_some hm
     refine region_draw2 (m := [_, _, _, _, _, _, _, _, _, _, _, _, _, _, _, _, _, _, _, _, _, _, _]) (fun w1 => Heap w0 [bA b20368 [(.int .i64 x20355.1), (.int .i64 x20355.2.1), (.int .i64 x20355.2.2)] 86, bA b49 [(.int .i64 a0.1), (.int .i64 a0.2.1), v33, v35] 32] w1) (fun i => [7, 19, 20, 22].contains i) (fun i => [19, 11, 20, 22].contains i) [8, 9, 10, 11, 12, 13, 14, 15, 16, 17, 18, 19, 0, 1, 2, 3, 4, 5, 6, 7, 20, 21, 22] 7 19 mixed (by kernel_rfl) rfl rfl rfl (fun w20373 he20372 => ?_)
     have H := H.later he20372
     refine ⟨⟨H.sel [0, 1] (by decide), ?_⟩, ?_⟩
     ·skip
      refine lq v97 S (q_move rfl) fun a S => ?_
      refine lq (pAdd (bp b20368) 0) S (q_fieldAddr' 0 2 rfl (isP_bp _) Tryz.underlying86 rfl Tryz.sizeOf2) fun a S => ?_
      refine lq (.int .i64 x20355.1) S (q_load1 rfl Tryz.isAgg2 (fun w1 hC => (At.of_add (m := 0) (j := 0) (boxAt (i := 0) hC rfl (j := 0) rfl)))) fun a S => ?_
      refine lq v97 S (q_move rfl) fun a S => ?_
      refine lq (pAdd (bp b20368) 0) S (q_fieldAddr' 0 2 rfl (isP_bp _) Tryz.underlying86 rfl Tryz.sizeOf2) fun a S => ?_
      refine lq (.int .i64 x20355.1) S (q_load1 rfl Tryz.isAgg2 (fun w1 hC => (At.of_add (m := 0) (j := 0) (boxAt (i := 0) hC rfl (j := 0) rfl)))) fun a S => ?_
      have hlt := lt_of_idx (idx_some e20375).2
      refine lq (ePtr v97 (x20355.1.toNat * 1)) S (q_indexAddr rfl (H.isSl 3 rfl) rfl (idx_some e20375).1 hlt Tryz.underlying63 Tryz.sizeOf27) fun a S => ?_
      have H : Heap w0 [oA (rList (rMx w0 (rList (rInt .i64)))) v97 xs4148, bA b20368 [(.int .i64 x20355.1), (.int .i64 x20355.2.1), (.int .i64 x20355.2.2)] 86, bA b49 [(.int .i64 a0.1), (.int .i64 a0.2.1), v33, v35] 32, oA (rList (rMx w0 (rList (rInt .i64)))) v55 xs88] w20373 := H.front 3 rfl
      obtain ⟨u20378, hat20379, H⟩ := H.takeM (idx_some e20375).2 e20377
      refine lx_e u20378 S trivial (by decide) rfl (H.sel [2, 3] (by decide)) (q_load1 rfl Tryz.isAgg27 (by rintro _ rfl; exact hat20379)) (fun a S => ?_)
      refine lq (pAdd (bp b20368) 1) S (q_fieldAddr' 1 2 rfl (isP_bp _) Tryz.underlying86 rfl Tryz.sizeOf2) fun a S => ?_
      refine lq (.int .i64 x20355.2.1) S (q_load1 rfl Tryz.isAgg2 (fun w1 hC => (At.of_add (m := 1) (j := 0) (boxAt (i := 0) hC rfl (j := 1) rfl)))) fun a S => ?_
      refine lq (pAdd (bp b49) 0) S (q_fieldAddr' 0 2 rfl (isP_bp _) Tryz.underlying32 rfl Tryz.sizeOf2) fun a S => ?_
      refine lq (.int .i64 a0.1) S (q_load1 rfl Tryz.isAgg2 (fun w1 hC => (At.of_add (m := 0) (j := 0) (boxAt (i := 1) hC rfl (j := 0) rfl)))) fun a S => ?_
      refine lq (.int .i64 (W (x20355.2.1 * a0.1))) S (q_mul rfl rfl) fun a S => ?_
      refine lq p1 S (q_move rfl) fun a S => ?_
      refine lq (pAdd (bp b20368) 2) S (q_fieldAddr' 2 2 rfl (isP_bp _) Tryz.underlying86 rfl Tryz.sizeOf2) fun a S => ?_
      refine lq (.int .i64 x20355.2.2) S (q_load1 rfl Tryz.isAgg2 (fun w1 hC => (At.of_add (m := 2) (j := 0) (boxAt (i := 0) hC rfl (j := 2) rfl)))) fun a S => ?_
      obtain ⟨c20383, h20384, hat20385⟩ := (h1).elem (idx_some e20382).2
      obtain rfl := h20384
      have hlt := lt_of_idx (idx_some e20382).2
      refine lq (ePtr p1 (x20355.2.2.toNat * 1)) S (q_indexAddr rfl (h1).isSl rfl (idx_some e20382).1 hlt Tryz.underlying27 Tryz.sizeOf2) fun a S => ?_
      refine lq (.int .i64 x20381) S (q_load1 rfl Tryz.isAgg2 (fun w1 hC => ((hat20385 0 _ rfl).ext hC.ext))) fun a S => ?_
      refine lq (.int .i64 (W ((W (x20355.2.1 * a0.1)) + x20381))) S (q_add rfl rfl) fun a S => ?_
      refine lx_buildSlice (r := (rInt .i64)) (xs := [(W ((W (x20355.2.1 * a0.1)) + x20381))]) (ps := [(0, [(.int .i64 (W ((W (x20355.2.1 * a0.1)) + x20381)))])]) (cs := [(.int .i64 (W ((W (x20355.2.1 * a0.1)) + x20381)))]) (parts := [(0, .tmp 57)]) S trivial (by decide) rfl (H.put0 (A := eA) rfl) rfl Tryz.underlying27 Tryz.sizeOf2 Tryz.zeroValue2 (by decide) ⟨rfl, rfl, Nat.le_of_ble_eq_true rfl, trivial⟩ (by intro zs hz; exact fill_dense hz ⟨rfl, trivial⟩ rfl rfl) rfl (by decide) (fun w F hA => by cases (show F = [] from hA); exact ⟨_, _, [(.int .i64 (W ((W (x20355.2.1 * a0.1)) + x20381)))], _, rfl, rfl, ⟨rfl, rfl⟩, ⟨rfl, rfl⟩⟩) (fun v20386 w20387 H => ⟨H.sel [3, 4] (by decide), fun a S => ?_⟩)
      obtain ⟨hle, hap⟩ := app_some e20390
      replace hap := hap.symm
      subst hap
      have H : Heap w0 [oA (rList (rInt .i64)) v20386 [(W ((W (x20355.2.1 * a0.1)) + x20381))], oA (rList (rInt .i64)) u20378 x20376, oA (rList (rMx w0 (rList (rInt .i64)))) v97 (xs4148.set x20355.1.toNat .gone), bA b20368 [(.int .i64 x20355.1), (.int .i64 x20355.2.1), (.int .i64 x20355.2.2)] 86, bA b49 [(.int .i64 a0.1), (.int .i64 a0.2.1), v33, v35] 32, oA (rList (rMx w0 (rList (rInt .i64)))) v55 xs88] w20387 := H.front 0 rfl
      have H : Heap w0 [oA (rList (rInt .i64)) u20378 x20376, oA (rList (rInt .i64)) v20386 [(W ((W (x20355.2.1 * a0.1)) + x20381))], oA (rList (rMx w0 (rList (rInt .i64)))) v97 (xs4148.set x20355.1.toNat .gone), bA b20368 [(.int .i64 x20355.1), (.int .i64 x20355.2.1), (.int .i64 x20355.2.2)] 86, bA b49 [(.int .i64 a0.1), (.int .i64 a0.2.1), v33, v35] 32, oA (rList (rMx w0 (rList (rInt .i64)))) v55 xs88] w20387 := H.front 1 rfl
      refine lx_appendOwn (r := (rInt .i64)) S trivial (by decide) rfl H rfl rfl Tryz.underlying27 Tryz.ti2 rfl rfl rfl (Nat.le_of_ble_eq_true rfl) (by decide) hle (fun v20391 w20392 H => ⟨H.sel [2, 3] (by decide), fun a S => ?_⟩)
      have hlt := lt_of_idx (idx_some e20395).2
      refine lq (ePtr v97 (x20355.1.toNat * 1)) S (q_indexAddr rfl (H.isSl 1 rfl) rfl (idx_some e20395).1 hlt Tryz.underlying63 Tryz.sizeOf27) fun a S => ?_
      have hcl : Value.cells v20391 = List.toArray [v20391] := (cells_sl (H.isSl 0 rfl))
      have hon : ∀ c ∈ ([v20391] : List Value), c.oneCell' = true := (List.forall_mem_cons.2 ⟨one_sl (H.isSl 0 rfl), (fun _ h => nomatch h)⟩)
      have H : Heap w0 [oA (rList (rMx w0 (rList (rInt .i64)))) v97 (xs4148.set x20355.1.toNat .gone), oA (rList (rInt .i64)) v20391 (x20376 ++ [(W ((W (x20355.2.1 * a0.1)) + x20381))]), bA b20368 [(.int .i64 x20355.1), (.int .i64 x20355.2.1), (.int .i64 x20355.2.2)] 86, bA b49 [(.int .i64 a0.1), (.int .i64 a0.2.1), v33, v35] 32, oA (rList (rMx w0 (rList (rInt .i64)))) v55 xs88] w20392 := H.front 1 rfl
      refine lx_storeElem (r := (rMx w0 (rList (rInt .i64)))) (us := [v20391]) (off := 0) (e' := (Mx.own (x20376 ++ [(W ((W (x20355.2.1 * a0.1)) + x20381))]))) S trivial rfl H (ev_zero rfl) rfl (idx_some e20395).2 hcl Tryz.sizeOf27 (Nat.le_of_ble_eq_true rfl) hon (Upd.full rfl (fun w G hG => oA_list.1 hG)) (fun w20396 H => ⟨H.sel [1, 2] (by decide), fun a S => ?_⟩)
      refine lx_nil ?_
      refine inBlock_norm ?_
      have H : Heap w0 [oA (rList (rMx w0 (rList (rInt .i64)))) v55 xs88, oA (rList (rMx w0 (rList (rInt .i64)))) v97 ((xs4148.set x20355.1.toNat .gone).set x20355.1.toNat (Mx.own (x20376 ++ [(W ((W (x20355.2.1 * a0.1)) + x20381))]))), bA b20368 [(.int .i64 x20355.1), (.int .i64 x20355.2.1), (.int .i64 x20355.2.2)] 86, bA b49 [(.int .i64 a0.1), (.int .i64 a0.2.1), v33, v35] 32] w20396 := H.front 3 rfl
      have H : Heap w0 [bA b49 [(.int .i64 a0.1), (.int .i64 a0.2.1), v33, v35] 32, oA (rList (rMx w0 (rList (rInt .i64)))) v55 xs88, oA (rList (rMx w0 (rList (rInt .i64)))) v97 ((xs4148.set x20355.1.toNat .gone).set x20355.1.toNat (Mx.own (x20376 ++ [(W ((W (x20355.2.1 * a0.1)) + x20381))]))), bA b20368 [(.int .i64 x20355.1), (.int .i64 x20355.2.1), (.int .i64 x20355.2.2)] 86] w20396 := H.front 3 rfl
      have H : Heap w0 [bA b49 [(.int .i64 a0.1), (.int .i64 a0.2.1), v33, v35] 32, oA (rList (rMx w0 (rList (rInt .i64)))) v55 xs88, oA (rList (rMx w0 (rList (rInt .i64)))) v97 ((xs4148.set x20355.1.toNat .gone).set x20355.1.toNat (Mx.own (x20376 ++ [(W ((W (x20355.2.1 * a0.1)) + x20381))])))] w20396 := H.sel [0, 1, 2] (by decide)
      exact ⟨((xs4148.set x20355.1.toNat .gone).set x20355.1.toNat (Mx.own (x20376 ++ [(W ((W (x20355.2.1 * a0.1)) + x20381))]))), S.sub ⟨rfl, rfl, rfl, rfl, rfl, rfl, rfl, trivial⟩, H, hm⟩
     ·skip
      refine lq (pAdd (bp b20368) 1) S (q_fieldAddr' 1 2 rfl (isP_bp _) Tryz.underlying86 rfl Tryz.sizeOf2) fun a S => ?_
      refine lq (.int .i64 x20355.2.1) S (q_load1 rfl Tryz.isAgg2 (fun w1 hC => (At.of_add (m := 1) (j := 0) (boxAt (i := 0) hC rfl (j := 1) rfl)))) fun a S => ?_
      refine lq (pAdd (bp b49) 0) S (q_fieldAddr' 0 2 rfl (isP_bp _) Tryz.underlying32 rfl Tryz.sizeOf2) fun a S => ?_
      refine lq (.int .i64 a0.1) S (q_load1 rfl Tryz.isAgg2 (fun w1 hC => (At.of_add (m := 0) (j := 0) (boxAt (i := 1) hC rfl (j := 0) rfl)))) fun a S => ?_
      refine lq (.int .i64 (W (x20355.2.1 * a0.1))) S (q_mul rfl rfl) fun a S => ?_
      refine lq p1 S (q_move rfl) fun a S => ?_
      refine lq (pAdd (bp b20368) 2) S (q_fieldAddr' 2 2 rfl (isP_bp _) Tryz.underlying86 rfl Tryz.sizeOf2) fun a S => ?_
      refine lq (.int .i64 x20355.2.2) S (q_load1 rfl Tryz.isAgg2 (fun w1 hC => (At.of_add (m := 2) (j := 0) (boxAt (i := 0) hC rfl (j := 2) rfl)))) fun a S => ?_
      obtain ⟨c20383, h20384, hat20385⟩ := (h1).elem (idx_some e20382).2
      obtain rfl := h20384
      have hlt := lt_of_idx (idx_some e20382).2
      refine lq (ePtr p1 (x20355.2.2.toNat * 1)) S (q_indexAddr rfl (h1).isSl rfl (idx_some e20382).1 hlt Tryz.underlying27 Tryz.sizeOf2) fun a S => ?_
      refine lq (.int .i64 x20381) S (q_load1 rfl Tryz.isAgg2 (fun w1 hC => ((hat20385 0 _ rfl).ext hC.ext))) fun a S => ?_
      refine lq (.int .i64 (W ((W (x20355.2.1 * a0.1)) + x20381))) S (q_add rfl rfl) fun a S => ?_
      refine lx_buildSlice (r := (rInt .i64)) (xs := [(W ((W (x20355.2.1 * a0.1)) + x20381))]) (ps := [(0, [(.int .i64 (W ((W (x20355.2.1 * a0.1)) + x20381)))])]) (cs := [(.int .i64 (W ((W (x20355.2.1 * a0.1)) + x20381)))]) (parts := [(0, .tmp 57)]) S trivial (by decide) rfl (H.put0 (A := eA) rfl) rfl Tryz.underlying27 Tryz.sizeOf2 Tryz.zeroValue2 (by decide) ⟨rfl, rfl, Nat.le_of_ble_eq_true rfl, trivial⟩ (by intro zs hz; exact fill_dense hz ⟨rfl, trivial⟩ rfl rfl) rfl (by decide) (fun w F hA => by cases (show F = [] from hA); exact ⟨_, _, [(.int .i64 (W ((W (x20355.2.1 * a0.1)) + x20381)))], _, rfl, rfl, ⟨rfl, rfl⟩, ⟨rfl, rfl⟩⟩) (fun v20386 w20387 H => ⟨H.sel [1, 2] (by decide), fun a S => ?_⟩)
      refine lq v97 S (q_move rfl) fun a S => ?_
      refine lq (pAdd (bp b20368) 0) S (q_fieldAddr' 0 2 rfl (isP_bp _) Tryz.underlying86 rfl Tryz.sizeOf2) fun a S => ?_
      refine lq (.int .i64 x20355.1) S (q_load1 rfl Tryz.isAgg2 (fun w1 hC => (At.of_add (m := 0) (j := 0) (boxAt (i := 0) hC rfl (j := 0) rfl)))) fun a S => ?_
      refine lq v97 S (q_move rfl) fun a S => ?_
      refine lq (pAdd (bp b20368) 0) S (q_fieldAddr' 0 2 rfl (isP_bp _) Tryz.underlying86 rfl Tryz.sizeOf2) fun a S => ?_
      refine lq (.int .i64 x20355.1) S (q_load1 rfl Tryz.isAgg2 (fun w1 hC => (At.of_add (m := 0) (j := 0) (boxAt (i := 0) hC rfl (j := 0) rfl)))) fun a S => ?_
      have hlt := lt_of_idx (idx_some e20375).2
      refine lq (ePtr v97 (x20355.1.toNat * 1)) S (q_indexAddr rfl (H.isSl 4 rfl) rfl (idx_some e20375).1 hlt Tryz.underlying63 Tryz.sizeOf27) fun a S => ?_
      have H : Heap w0 [oA (rList (rMx w0 (rList (rInt .i64)))) v97 xs4148, oA (rList (rInt .i64)) v20386 [(W ((W (x20355.2.1 * a0.1)) + x20381))], bA b20368 [(.int .i64 x20355.1), (.int .i64 x20355.2.1), (.int .i64 x20355.2.2)] 86, bA b49 [(.int .i64 a0.1), (.int .i64 a0.2.1), v33, v35] 32, oA (rList (rMx w0 (rList (rInt .i64)))) v55 xs88] w20387 := H.front 4 rfl
      obtain ⟨u20378, hat20379, H⟩ := H.takeM (idx_some e20375).2 e20377
      refine lx_e u20378 S trivial (by decide) rfl (H.sel [3, 4] (by decide)) (q_load1 rfl Tryz.isAgg27 (by rintro _ rfl; exact hat20379)) (fun a S => ?_)
      obtain ⟨hle, hap⟩ := app_some e20390
      replace hap := hap.symm
      subst hap
      have H : Heap w0 [oA (rList (rInt .i64)) v20386 [(W ((W (x20355.2.1 * a0.1)) + x20381))], oA (rList (rInt .i64)) u20378 x20376, oA (rList (rMx w0 (rList (rInt .i64)))) v97 (xs4148.set x20355.1.toNat .gone), bA b20368 [(.int .i64 x20355.1), (.int .i64 x20355.2.1), (.int .i64 x20355.2.2)] 86, bA b49 [(.int .i64 a0.1), (.int .i64 a0.2.1), v33, v35] 32, oA (rList (rMx w0 (rList (rInt .i64)))) v55 xs88] w20387 := H.front 2 rfl
      have H : Heap w0 [oA (rList (rInt .i64)) u20378 x20376, oA (rList (rInt .i64)) v20386 [(W ((W (x20355.2.1 * a0.1)) + x20381))], oA (rList (rMx w0 (rList (rInt .i64)))) v97 (xs4148.set x20355.1.toNat .gone), bA b20368 [(.int .i64 x20355.1), (.int .i64 x20355.2.1), (.int .i64 x20355.2.2)] 86, bA b49 [(.int .i64 a0.1), (.int .i64 a0.2.1), v33, v35] 32, oA (rList (rMx w0 (rList (rInt .i64)))) v55 xs88] w20387 := H.front 1 rfl
      refine lx_appendOwn (r := (rInt .i64)) S trivial (by decide) rfl H rfl rfl Tryz.underlying27 Tryz.ti2 rfl rfl rfl (Nat.le_of_ble_eq_true rfl) (by decide) hle (fun v20391 w20392 H => ⟨H.sel [2, 3] (by decide), fun a S => ?_⟩)
      have hlt := lt_of_idx (idx_some e20395).2
      refine lq (ePtr v97 (x20355.1.toNat * 1)) S (q_indexAddr rfl (H.isSl 1 rfl) rfl (idx_some e20395).1 hlt Tryz.underlying63 Tryz.sizeOf27) fun a S => ?_
      have hcl : Value.cells v20391 = List.toArray [v20391] := (cells_sl (H.isSl 0 rfl))
      have hon : ∀ c ∈ ([v20391] : List Value), c.oneCell' = true := (List.forall_mem_cons.2 ⟨one_sl (H.isSl 0 rfl), (fun _ h => nomatch h)⟩)
      have H : Heap w0 [oA (rList (rMx w0 (rList (rInt .i64)))) v97 (xs4148.set x20355.1.toNat .gone), oA (rList (rInt .i64)) v20391 (x20376 ++ [(W ((W (x20355.2.1 * a0.1)) + x20381))]), bA b20368 [(.int .i64 x20355.1), (.int .i64 x20355.2.1), (.int .i64 x20355.2.2)] 86, bA b49 [(.int .i64 a0.1), (.int .i64 a0.2.1), v33, v35] 32, oA (rList (rMx w0 (rList (rInt .i64)))) v55 xs88] w20392 := H.front 1 rfl
      refine lx_storeElem (r := (rMx w0 (rList (rInt .i64)))) (us := [v20391]) (off := 0) (e' := (Mx.own (x20376 ++ [(W ((W (x20355.2.1 * a0.1)) + x20381))]))) S trivial rfl H (ev_zero rfl) rfl (idx_some e20395).2 hcl Tryz.sizeOf27 (Nat.le_of_ble_eq_true rfl) hon (Upd.full rfl (fun w G hG => oA_list.1 hG)) (fun w20396 H => ⟨H.sel [1, 2] (by decide), fun a S => ?_⟩)
      refine lx_nil ?_
      refine inBlock_norm ?_
      have H : Heap w0 [oA (rList (rMx w0 (rList (rInt .i64)))) v55 xs88, oA (rList (rMx w0 (rList (rInt .i64)))) v97 ((xs4148.set x20355.1.toNat .gone).set x20355.1.toNat (Mx.own (x20376 ++ [(W ((W (x20355.2.1 * a0.1)) + x20381))]))), bA b20368 [(.int .i64 x20355.1), (.int .i64 x20355.2.1), (.int .i64 x20355.2.2)] 86, bA b49 [(.int .i64 a0.1), (.int .i64 a0.2.1), v33, v35] 32] w20396 := H.front 3 rfl
      have H : Heap w0 [bA b49 [(.int .i64 a0.1), (.int .i64 a0.2.1), v33, v35] 32, oA (rList (rMx w0 (rList (rInt .i64)))) v55 xs88, oA (rList (rMx w0 (rList (rInt .i64)))) v97 ((xs4148.set x20355.1.toNat .gone).set x20355.1.toNat (Mx.own (x20376 ++ [(W ((W (x20355.2.1 * a0.1)) + x20381))]))), bA b20368 [(.int .i64 x20355.1), (.int .i64 x20355.2.1), (.int .i64 x20355.2.2)] 86] w20396 := H.front 3 rfl
      have H : Heap w0 [bA b49 [(.int .i64 a0.1), (.int .i64 a0.2.1), v33, v35] 32, oA (rList (rMx w0 (rList (rInt .i64)))) v55 xs88, oA (rList (rMx w0 (rList (rInt .i64)))) v97 ((xs4148.set x20355.1.toNat .gone).set x20355.1.toNat (Mx.own (x20376 ++ [(W ((W (x20355.2.1 * a0.1)) + x20381))])))] w20396 := H.sel [0, 1, 2] (by decide)
      exact ⟨((xs4148.set x20355.1.toNat .gone).set x20355.1.toNat (Mx.own (x20376 ++ [(W ((W (x20355.2.1 * a0.1)) + x20381))]))), S.sub ⟨rfl, rfl, rfl, rfl, rfl, rfl, rfl, trivial⟩, H, hm⟩
   ·have hm := ite_f hc20351 hm
    refine wp_exit ?_
    refine then_exit ?_
    refine then_exit ?_
    refine inBlock_exit ?_
    obtain rfl := it_brk hm hc20350
    have H : Heap w0 [oA (rList (rMx w0 (rList (rInt .i64)))) v55 xs88, oA (rList (rMx w0 (rList (rInt .i64)))) v97 xs4148] w := H.sel [1, 2] (by decide)
    exact ⟨xs4148, S.sub ⟨rfl, rfl, trivial⟩, H, rfl⟩
 ·skip
  have H : Heap w0 [bA b49 [(.int .i64 a0.1), (.int .i64 a0.2.1), v33, v35] 32, oA (rList (rMx w0 (rList (rInt .i64)))) v55 (List.replicate m54 (Mx.own ([] : (List Int))))] w56 := H.front 1 rfl
  refine loop_ghost (fun n a w => ∃ (xs72 : List (Mx (List Int))) (x73 : Int), Slots a 84 [(1, p1), (2, (bp b49)), (5, v55), (16, p1), (17, (.int .i64 (a1.length : Int))), (18, (.int .i64 x73))] ∧ Heap w0 [bA b49 [(.int .i64 a0.1), (.int .i64 a0.2.1), v33, v35] 32, oA (rList (rMx w0 (rList (rInt .i64)))) v55 xs72] w ∧ iter f91 n (xs72, x73) = some res89) _ ⟨(List.replicate m54 (Mx.own ([] : (List Int)))), (0 : Int), S.sub ⟨rfl, rfl, rfl, rfl, rfl, rfl, trivial⟩, H, hit90⟩ ?_
  rintro n a w ⟨xs72, x73, S, H, hit90⟩
  obtain ⟨m24397, o24398, rfl, hm, hc24399⟩ := iter_step hit90
  rw [hf92] at hm
  refine wp_seq (region_plain ?_)
  refine lq (.bool (decide (x73 < (a1.length : Int)))) S (q_lss rfl rfl) fun a S => ?_
  refine lx_nil (thenN ?_)
  refine wp_seq ?_
  refine cond_b S rfl (fun hc24400 => ?_) (fun hc24400 => ?_)
  ·have hm := ite_t hc24400 hm
   refine wp_skip (thenN ?_)
   refine wp_seq ?_
   refine wp_block ?_
   refine wp_seq (region_plain ?_)
   refine lq (.int .i64 x73) S (q_move rfl) fun a S => ?_
   obtain ⟨x24401, e24402, hm⟩ := bind_some hm
   obtain ⟨c24403, h24404, hat24405⟩ := (h1).elem (idx_some e24402).2
   obtain rfl := h24404
   have hlt := lt_of_idx (idx_some e24402).2
   refine lq (ePtr p1 (x73.toNat * 1)) S (q_indexAddr rfl (h1).isSl rfl (idx_some e24402).1 hlt Tryz.underlying27 Tryz.sizeOf2) fun a S => ?_
   refine lx_e (.int .i64 x24401) S trivial (by decide) rfl trivial (q_load1 rfl Tryz.isAgg2 (by rintro _ rfl; exact ((hat24405 0 _ rfl).ext H.ext))) (fun a S => ?_)
   refine lq (.int .i64 x73) S (q_assign rfl) fun a S => ?_
   refine lq (.int .i64 x24401) S (q_assign rfl) fun a S => ?_
   refine lx_nil (thenN ?_)
   refine region_plain ?_
   refine lq v55 S (q_move rfl) fun a S => ?_
   refine lq (.int .i64 x73) S (q_move rfl) fun a S => ?_
   refine lq (.int .i64 x24401) S (q_move rfl) fun a S => ?_
   refine lx_buildSlice (r := (rInt .i64)) (xs := [x24401]) (ps := [(0, [(.int .i64 x24401)])]) (cs := [(.int .i64 x24401)]) (parts := [(0, .tmp 25)]) S trivial (by decide) rfl (H.put0 (A := eA) rfl) rfl Tryz.underlying27 Tryz.sizeOf2 Tryz.zeroValue2 (by decide) ⟨rfl, rfl, Nat.le_of_ble_eq_true rfl, trivial⟩ (by intro zs hz; exact fill_dense hz ⟨rfl, trivial⟩ rfl rfl) rfl (by decide) (fun w F hA => by cases (show F = [] from hA); exact ⟨_, _, [(.int .i64 x24401)], _, rfl, rfl, ⟨rfl, rfl⟩, ⟨rfl, rfl⟩⟩) (fun v24406 w24407 H => ⟨trivial, fun a S => ?_⟩)
   obtain ⟨x24409, e24410, hm⟩ := bind_some hm
   have hlt := lt_of_idx (idx_some e24410).2
   refine lq (ePtr v55 (x73.toNat * 1)) S (q_indexAddr rfl (H.isSl 2 rfl) rfl (idx_some e24410).1 hlt Tryz.underlying63 Tryz.sizeOf27) fun a S => ?_
   have hcl : Value.cells v24406 = List.toArray [v24406] := (cells_sl (H.isSl 0 rfl))
   have hon : ∀ c ∈ ([v24406] : List Value), c.oneCell' = true := (List.forall_mem_cons.2 ⟨one_sl (H.isSl 0 rfl), (fun _ h => nomatch h)⟩)
   have H : Heap w0 [oA (rList (rMx w0 (rList (rInt .i64)))) v55 xs72, oA (rList (rInt .i64)) v24406 [x24401], bA b49 [(.int .i64 a0.1), (.int .i64 a0.2.1), v33, v35] 32] w24407 := H.front 2 rfl
   refine lx_storeElem (r := (rMx w0 (rList (rInt .i64)))) (us := [v24406]) (off := 0) (e' := (Mx.own [x24401])) S trivial rfl H (ev_zero rfl) rfl (idx_some e24410).2 hcl Tryz.sizeOf27 (Nat.le_of_ble_eq_true rfl) hon (Upd.full rfl (fun w G hG => oA_list.1 hG)) (fun w24411 H => ⟨trivial, fun a S => ?_⟩)
   refine lx_nil ?_
   refine inBlock_norm ?_
   refine thenN ?_
   refine region_plain ?_
   refine lq (.int .i64 (W (x73 + (1 : Int)))) S (q_add rfl rfl) fun a S => ?_
   refine lq (.int .i64 (W (x73 + (1 : Int)))) S (q_move rfl) fun a S => ?_
   refine lx_nil ?_
   have H : Heap w0 [bA b49 [(.int .i64 a0.1), (.int .i64 a0.2.1), v33, v35] 32, oA (rList (rMx w0 (rList (rInt .i64)))) v55 (xs72.set x73.toNat (Mx.own [x24401]))] w24411 := H.front 1 rfl
   exact ⟨m24397, Nat.lt_succ_self _, (xs72.set x73.toNat (Mx.own [x24401])), (W (x73 + (1 : Int))), S.sub ⟨rfl, rfl, rfl, rfl, rfl, rfl, trivial⟩, H, it_cont hm hc24399⟩
  ·have hm := ite_f hc24400 hm
   refine wp_exit ?_
   refine then_exit ?_
   refine then_exit ?_
   refine inBlock_exit ?_
   obtain rfl := it_brk hm hc24399
   exact ⟨xs72, S.sub ⟨rfl, rfl, rfl, trivial⟩, H, rfl⟩
end Go.Proofs.YtciiinpphaaddaaGreatDoor
