/- The models of some functions and their walks (printed by a program of this repo). -/
import Derived.Test.YtnkpniekdipgaaaGreatDoorF0
import Derived.Test.YtnkpniekdipgaaaGreatDoorF4
import Derived.Test.YtnkpniekdipgaaaGreatDoorF5
import Derived.Test.YtnkpniekdipgaaaGreatDoorFS
import Derived.Test.YtnkpniekdipgaaaGreatDoorFT
import Derived.Test.YtnkpniekdipgaaaGreatDoorGxT
import Derived.Test.YtnkpniekdipgaaaGreatDoorGxTg
import Derived.Test.YtnkpniekdipgaaaGreatDoorGxY
namespace Go.Proofs.YtnkpniekdipgaaaGreatDoor
open Go.RowKit Go.Gx

/-- impl.ValidLts -/
def impl_ValidLts_m (fuel : Nat) (a0 : Timpl_Lts) : Option (Bool) :=
  (impl_within_m fuel a0.1 (1 : Int) (40 : Int)).bind fun x54 => (if (!x54) = true then some true else (impl_Lts_isState_m fuel (a0.1, a0.2.1, a0.2.2.1, a0.2.2.2) a0.2.1).bind fun x62 => some (!x62)).bind fun t57 => (if t57 = true then some true else (impl_within_m fuel (a0.2.2.1.length : Int) (1 : Int) (12 : Int)).bind fun x70 => some (!x70)).bind fun t65 => (if t65 = true then some true else some (decide ((300 : Int) < (a0.2.2.2.length : Int)))).bind fun t73 => (if t73 = true then some (false) else (iter (fun (s : (Int)) => (match s with | (x104) => (if (decide (x104 < (a0.2.2.1.length : Int))) = true then (idx a0.2.2.1 x104).bind fun x350 => (impl_IsLabel_m fuel x350).bind fun x357 => (if (!x357) = true then some true else some ((x350 == ([116, 97, 117] : Str)) != (x104 == (0 : Int)))).bind fun t360 => (if t360 = true then some true else (if (decide ((1 : Int) < x104)) = true then (idx a0.2.2.1 (W (x104 - (1 : Int)))).bind fun x369 => some (Op.bytesLess x350 x369 || x350 == x369) else some false).bind fun t366 => some t366).bind fun t363 => (if t363 = true then some (.inr (.inr false)) else some (.inl ((W (x104 + (1 : Int)))))) else some (.inr (.inl ()))) : Option (((Int)) ⊕ ((Unit) ⊕ (Bool))))) fuel ((0 : Int))).bind fun res132 => ctl (β := Unit) (ρ := Bool) (τ := Bool) res132 (fun _ => (iter (fun (s : (Int)) => (match s with | (x204) => (if (decide (x204 < (a0.2.2.2.length : Int))) = true then (idx a0.2.2.2 x204).bind fun x281 => (impl_Lts_isState_m fuel (a0.1, a0.2.1, a0.2.2.1, a0.2.2.2) x281.1).bind fun x302 => (if (!x302) = true then some true else (impl_Lts_isState_m fuel (a0.1, a0.2.1, a0.2.2.1, a0.2.2.2) x281.2.2).bind fun x310 => some (!x310)).bind fun t305 => (if t305 = true then some true else (impl_index_m fuel x281.2.1 (a0.2.2.1.length : Int)).bind fun x318 => some (!x318)).bind fun t313 => (if t313 = true then some true else (if (decide ((0 : Int) < x204)) = true then (idx a0.2.2.2 (W (x204 - (1 : Int)))).bind fun x327 => (impl_compareEdges_m fuel (x327.1, x327.2.1, x327.2.2) (x281.1, x281.2.1, x281.2.2)).bind fun x342 => some (decide ((0 : Int) ≤ x342)) else some false).bind fun t324 => some t324).bind fun t321 => (if t321 = true then some (.inr (.inr false)) else some (.inl ((W (x204 + (1 : Int)))))) else some (.inr (.inl ()))) : Option (((Int)) ⊕ ((Unit) ⊕ (Bool))))) fuel ((0 : Int))).bind fun res272 => ctl (β := Unit) (ρ := Bool) (τ := Bool) res272 (fun _ => some (true)) (fun q => some (q))) (fun q => some (q)))
set_option maxRecDepth 20000 in
theorem impl_ValidLts_ok {w0 : World} {fuel : Nat} {p0 : Value} {a0 : Timpl_Lts} {r : Bool} (hG : GlobE Tryz.prog w0) (h0 : Rd Rimpl_Lts w0 p0 a0) (hm : impl_ValidLts_m fuel a0 = some r) :
  Calls Tryz.prog 42 #[p0] w0 fun e w => e = .returned (.bool r) ∧ Heap w0 [] w := by
 unfold impl_ValidLts_m at hm
 have H := Heap.start w0
 obtain ⟨c31, rfl, h32⟩ := h0
 obtain ⟨c37, c38, rfl, h39, h40⟩ := h32
 obtain rfl := h39
 obtain ⟨c41, c42, rfl, h43, h44⟩ := h40
 obtain rfl := h43
 obtain ⟨c45, c46, rfl, h47, h48⟩ := h44
 obtain ⟨v33, rfl, h34⟩ := rd_list h47
 obtain ⟨v35, rfl, h36⟩ := rd_list h48
 refine enter (args := [(.agg #[(.int .i64 a0.1), (.int .i64 a0.2.1), v33, v35])]) Tryz.func42 rfl 109 rfl (Nat.le_of_ble_eq_true rfl) (fun a S => ?_)
 refine wp_seq (region_plain ?_)
 refine lx_box S trivial (by decide) rfl H rfl rfl (fun b49 w50 H => ⟨trivial, fun a S => ?_⟩)
 refine lq (.bool false) S (q_assign rfl) fun a S => ?_
 refine lx_nil (thenN ?_)
 refine wp_seq (wp_seq (region_plain ?_))
 refine lq (pAdd (bp b49) 0) S (q_fieldAddr' 0 2 rfl (isP_bp _) Tryz.underlying35 rfl Tryz.sizeOf2) fun a S => ?_
 refine lx_e (.int .i64 a0.1) S trivial (by decide) rfl trivial (q_load1 rfl Tryz.isAgg2 (by rintro _ rfl; exact (At.of_add (m := 0) (j := 0) (boxAt (i := 0) H rfl (j := 0) rfl)))) (fun a S => ?_)
 obtain ⟨x54, e55, hm⟩ := bind_some hm
 refine lx_call (xs := [.tmp 8, .const (.int .i64 (1)), .const (.int .i64 (40))]) S trivial (by decide) rfl rfl Tryz.call58 ((impl_within_ok    e55).mono ?_)
 rintro e w52 ⟨rfl, Hc53⟩
 have H := H.call0 Hc53
 refine ⟨_, rfl, trivial, fun a S => ?_⟩
 refine lq (.bool (!x54)) S (q_not rfl) fun a S => ?_
 refine lq (.bool (!x54)) S (q_move rfl) fun a S => ?_
 obtain ⟨t57, e58, hm⟩ := bind_some hm
 refine lx_cut 6 (fun a w => Slots a 109 [(1, (bp b49)), (17, (.bool t57))] ∧ Heap w0 [bA b49 [(.int .i64 a0.1), (.int .i64 a0.2.1), v33, v35] 35] w) ?_ ?_
 ·by_cases hc59 : (!x54) = true
  ·have hm := ite_t hc59 e58
   refine lx_skip S rfl rfl (isB_ne hc59) (by decide) (fun a S => ?_)
   refine lx_skip S rfl rfl (isB_ne hc59) (by decide) (fun a S => ?_)
   refine lx_skip S rfl rfl (isB_ne hc59) (by decide) (fun a S => ?_)
   refine lx_skip S rfl rfl (isB_ne hc59) (by decide) (fun a S => ?_)
   refine lx_skip S rfl rfl (isB_ne hc59) (by decide) (fun a S => ?_)
   refine lq (.bool true) S (q_pickT' rfl hc59 rfl) fun a S => ?_
   refine lx_nil ?_
   obtain rfl := Option.some.inj hm
   exact ⟨S.sub ⟨rfl, rfl, trivial⟩, H⟩
  ·have hm := ite_f (eq_false_of_ne_true hc59) e58
   have hc59 : (!x54) = false := eq_false_of_ne_true hc59
   refine lx_e (.agg #[(.int .i64 a0.1), (.int .i64 a0.2.1), v33, v35]) S (want_b rfl rfl hc59) (by decide) rfl trivial (q_loadA (cs := [(.int .i64 a0.1), (.int .i64 a0.2.1), v33, v35]) rfl (isP_bp _) Tryz.isAgg35 Tryz.sizeOf35 (by rintro _ rfl; exact (fun j u hu => boxAt (i := 0) H rfl hu))) (fun a S => ?_)
   refine lx_q (pAdd (bp b49) 1) S (want_b rfl rfl hc59) (by decide) (q_fieldAddr' 1 2 rfl (isP_bp _) Tryz.underlying35 rfl Tryz.sizeOf2) (fun a S => ?_)
   refine lx_e (.int .i64 a0.2.1) S (want_b rfl rfl hc59) (by decide) rfl trivial (q_load1 rfl Tryz.isAgg2 (by rintro _ rfl; exact (At.of_add (m := 1) (j := 0) (boxAt (i := 0) H rfl (j := 1) rfl)))) (fun a S => ?_)
   obtain ⟨x62, e63, hm⟩ := bind_some hm
   refine lx_call (xs := [.tmp 12, .tmp 14]) S (want_b rfl rfl hc59) (by decide) rfl rfl Tryz.call63 ((impl_Lts_isState_ok ⟨[(.int .i64 a0.1), (.int .i64 a0.2.1), v33, v35], rfl, ⟨[(.int .i64 a0.1)], [(.int .i64 a0.2.1), v33, v35], rfl, rfl, ⟨[(.int .i64 a0.2.1)], [v33, v35], rfl, rfl, ⟨[v33], [v35], rfl, ((H.arg h34)).list_rd, ((H.arg h36)).list_rd⟩⟩⟩⟩  e63).mono ?_)
   rintro e w60 ⟨rfl, Hc61⟩
   have H := H.call0 Hc61
   refine ⟨_, rfl, trivial, fun a S => ?_⟩
   refine lx_q (.bool (!x62)) S (want_b rfl rfl hc59) (by decide) (q_not rfl) (fun a S => ?_)
   refine lq (.bool (!x62)) S (q_pickF' rfl hc59 rfl) fun a S => ?_
   refine lx_nil ?_
   obtain rfl := Option.some.inj hm
   exact ⟨S.sub ⟨rfl, rfl, trivial⟩, H⟩
 ·rintro a w ⟨S, H⟩
  refine lq (.bool t57) S (q_move rfl) fun a S => ?_
  obtain ⟨t65, e66, hm⟩ := bind_some hm
  refine lx_cut 6 (fun a w => Slots a 109 [(1, (bp b49)), (24, (.bool t65))] ∧ Heap w0 [bA b49 [(.int .i64 a0.1), (.int .i64 a0.2.1), v33, v35] 35] w) ?_ ?_
  ·by_cases hc67 : t57 = true
   ·have hm := ite_t hc67 e66
    refine lx_skip S rfl rfl (isB_ne hc67) (by decide) (fun a S => ?_)
    refine lx_skip S rfl rfl (isB_ne hc67) (by decide) (fun a S => ?_)
    refine lx_skip S rfl rfl (isB_ne hc67) (by decide) (fun a S => ?_)
    refine lx_skip S rfl rfl (isB_ne hc67) (by decide) (fun a S => ?_)
    refine lx_skip S rfl rfl (isB_ne hc67) (by decide) (fun a S => ?_)
    refine lq (.bool true) S (q_pickT' rfl hc67 rfl) fun a S => ?_
    refine lx_nil ?_
    obtain rfl := Option.some.inj hm
    exact ⟨S.sub ⟨rfl, rfl, trivial⟩, H⟩
   ·have hm := ite_f (eq_false_of_ne_true hc67) e66
    have hc67 : t57 = false := eq_false_of_ne_true hc67
    refine lx_q (pAdd (bp b49) 2) S (want_b rfl rfl hc67) (by decide) (q_fieldAddr' 2 23 rfl (isP_bp _) Tryz.underlying35 rfl Tryz.sizeOf23) (fun a S => ?_)
    refine lx_e v33 S (want_b rfl rfl hc67) (by decide) rfl trivial (q_load1 rfl Tryz.isAgg23 (by rintro _ rfl; exact (At.of_add (m := 2) (j := 0) (boxAt (i := 0) H rfl (j := 2) rfl)))) (fun a S => ?_)
    refine lx_q (.int .i64 (a0.2.2.1.length : Int)) S (want_b rfl rfl hc67) (by decide) (q_lenSl rfl (h34).isSl rfl Tryz.underlying23) (fun a S => ?_)
    obtain ⟨x70, e71, hm⟩ := bind_some hm
    refine lx_call (xs := [.tmp 21, .const (.int .i64 (1)), .const (.int .i64 (12))]) S (want_b rfl rfl hc67) (by decide) rfl rfl Tryz.call58 ((impl_within_ok    e71).mono ?_)
    rintro e w68 ⟨rfl, Hc69⟩
    have H := H.call0 Hc69
    refine ⟨_, rfl, trivial, fun a S => ?_⟩
    refine lx_q (.bool (!x70)) S (want_b rfl rfl hc67) (by decide) (q_not rfl) (fun a S => ?_)
    refine lq (.bool (!x70)) S (q_pickF' rfl hc67 rfl) fun a S => ?_
    refine lx_nil ?_
    obtain rfl := Option.some.inj hm
    exact ⟨S.sub ⟨rfl, rfl, trivial⟩, H⟩
  ·rintro a w ⟨S, H⟩
   refine lq (.bool t65) S (q_move rfl) fun a S => ?_
   obtain ⟨t73, e74, hm⟩ := bind_some hm
   refine lx_cut 5 (fun a w => Slots a 109 [(1, (bp b49)), (30, (.bool t73))] ∧ Heap w0 [bA b49 [(.int .i64 a0.1), (.int .i64 a0.2.1), v33, v35] 35] w) ?_ ?_
   ·by_cases hc75 : t65 = true
    ·have hm := ite_t hc75 e74
     refine lx_skip S rfl rfl (isB_ne hc75) (by decide) (fun a S => ?_)
     refine lx_skip S rfl rfl (isB_ne hc75) (by decide) (fun a S => ?_)
     refine lx_skip S rfl rfl (isB_ne hc75) (by decide) (fun a S => ?_)
     refine lx_skip S rfl rfl (isB_ne hc75) (by decide) (fun a S => ?_)
     refine lq (.bool true) S (q_pickT' rfl hc75 rfl) fun a S => ?_
     refine lx_nil ?_
     obtain rfl := Option.some.inj hm
     exact ⟨S.sub ⟨rfl, rfl, trivial⟩, H⟩
    ·have hm := ite_f (eq_false_of_ne_true hc75) e74
     have hc75 : t65 = false := eq_false_of_ne_true hc75
     refine lx_q (pAdd (bp b49) 3) S (want_b rfl rfl hc75) (by decide) (q_fieldAddr' 3 33 rfl (isP_bp _) Tryz.underlying35 rfl Tryz.sizeOf33) (fun a S => ?_)
     refine lx_e v35 S (want_b rfl rfl hc75) (by decide) rfl trivial (q_load1 rfl Tryz.isAgg33 (by rintro _ rfl; exact (At.of_add (m := 3) (j := 0) (boxAt (i := 0) H rfl (j := 3) rfl)))) (fun a S => ?_)
     refine lx_q (.int .i64 (a0.2.2.2.length : Int)) S (want_b rfl rfl hc75) (by decide) (q_lenSl rfl (h36).isSl rfl Tryz.underlying33) (fun a S => ?_)
     refine lx_q (.bool (decide ((300 : Int) < (a0.2.2.2.length : Int)))) S (want_b rfl rfl hc75) (by decide) (q_gtr rfl rfl) (fun a S => ?_)
     refine lq (.bool (decide ((300 : Int) < (a0.2.2.2.length : Int)))) S (q_pickF' rfl hc75 rfl) fun a S => ?_
     refine lx_nil ?_
     obtain rfl := Option.some.inj hm
     exact ⟨S.sub ⟨rfl, rfl, trivial⟩, H⟩
   ·rintro a w ⟨S, H⟩
    refine lx_nil (thenN ?_)
    refine cond_b S rfl (fun hc76 => ?_) (fun hc76 => ?_)
    ·have hm := ite_t hc76 hm
     refine wp_seq (region_plain ?_)
     refine lq (.bool false) S (q_assign rfl) fun a S => ?_
     refine lx_nil (thenN ?_)
     refine wp_ret (then_ret ?_)
     obtain rfl := Option.some.inj hm
     have H : Heap w0 [] w := H.sel [] (by decide)
     exact leave1 S rfl rfl ⟨rfl, H⟩
    ·have hm := ite_f hc76 hm
     refine wp_skip (thenN ?_)
     refine wp_seq (wp_seq (region_plain ?_))
     refine lq (pAdd (bp b49) 2) S (q_fieldAddr' 2 23 rfl (isP_bp _) Tryz.underlying35 rfl Tryz.sizeOf23) fun a S => ?_
     refine lx_e v33 S trivial (by decide) rfl trivial (q_load1 rfl Tryz.isAgg23 (by rintro _ rfl; exact (At.of_add (m := 2) (j := 0) (boxAt (i := 0) H rfl (j := 2) rfl)))) (fun a S => ?_)
     refine lq (.int .i64 (a0.2.2.1.length : Int)) S (q_lenSl rfl (h34).isSl rfl Tryz.underlying23) fun a S => ?_
     refine lq (.int .i64 (0 : Int)) S (q_move rfl) fun a S => ?_
     refine lx_nil (thenN ?_)
     obtain ⟨res132, hit133, hk136⟩ := bind_some hm
     obtain ⟨f134, hf135, hit133⟩ := iter_name hit133
     refine block_loop (fun a w => Slots a 109 [(1, (bp b49))] ∧ Heap w0 [bA b49 [(.int .i64 a0.1), (.int .i64 a0.2.1), v33, v35] 35] w ∧ res132 = .inl ()) ?_ ?_
     ·rintro a w ⟨S, H, rfl⟩
      have hm := ctl_inl hk136
      refine thenN ?_
      refine wp_seq (wp_seq (region_plain ?_))
      refine lq (pAdd (bp b49) 3) S (q_fieldAddr' 3 33 rfl (isP_bp _) Tryz.underlying35 rfl Tryz.sizeOf33) fun a S => ?_
      refine lx_e v35 S trivial (by decide) rfl trivial (q_load1 rfl Tryz.isAgg33 (by rintro _ rfl; exact (At.of_add (m := 3) (j := 0) (boxAt (i := 0) H rfl (j := 3) rfl)))) (fun a S => ?_)
      refine lq (.int .i64 (a0.2.2.2.length : Int)) S (q_lenSl rfl (h36).isSl rfl Tryz.underlying33) fun a S => ?_
      refine lq (.int .i64 (0 : Int)) S (q_move rfl) fun a S => ?_
      refine lx_nil (thenN ?_)
      obtain ⟨res272, hit273, hk276⟩ := bind_some hm
      obtain ⟨f274, hf275, hit273⟩ := iter_name hit273
      refine block_loop (fun a w => Slots a 109 [] ∧ Heap w0 [] w ∧ res272 = .inl ()) ?_ ?_
      ·rintro a w ⟨S, H, rfl⟩
       have hm := ctl_inl hk276
       refine thenN ?_
       refine wp_seq (region_plain ?_)
       refine lq (.bool true) S (q_assign rfl) fun a S => ?_
       refine lx_nil (thenN ?_)
       refine wp_ret ?_
       obtain rfl := Option.some.inj hm
       exact leave1 S rfl rfl ⟨rfl, H⟩
      ·skip
       refine loop_ghost (fun n a w => ∃ (x204 : Int), Slots a 109 [(1, (bp b49)), (65, v35), (66, (.int .i64 (a0.2.2.2.length : Int))), (67, (.int .i64 x204))] ∧ Heap w0 [bA b49 [(.int .i64 a0.1), (.int .i64 a0.2.1), v33, v35] 35] w ∧ iter f274 n (x204) = some res272) _ ⟨(0 : Int), S.sub ⟨rfl, rfl, rfl, rfl, trivial⟩, H, hit273⟩ ?_
       rintro n a w ⟨x204, S, H, hit273⟩
       obtain ⟨m277, o278, rfl, hm, hc279⟩ := iter_step hit273
       rw [hf275] at hm
       refine wp_seq (region_plain ?_)
       refine lq (.bool (decide (x204 < (a0.2.2.2.length : Int)))) S (q_lss rfl rfl) fun a S => ?_
       refine lx_nil (thenN ?_)
       refine wp_seq ?_
       refine cond_b S rfl (fun hc280 => ?_) (fun hc280 => ?_)
       ·have hm := ite_t hc280 hm
        refine wp_skip (thenN ?_)
        refine wp_seq ?_
        refine wp_block ?_
        refine wp_seq (region_plain ?_)
        refine lq (.int .i64 x204) S (q_move rfl) fun a S => ?_
        obtain ⟨x281, e282, hm⟩ := bind_some hm
        obtain ⟨c283, h284, hat285⟩ := (h36).elem (idx_some e282).2
        obtain ⟨c286, c287, rfl, h288, h289⟩ := h284
        obtain rfl := h288
        obtain ⟨c290, c291, rfl, h292, h293⟩ := h289
        obtain rfl := h292
        obtain rfl := h293
        have hlt := lt_of_idx (idx_some e282).2
        refine lq (ePtr v35 (x204.toNat * 3)) S (q_indexAddr rfl (h36).isSl rfl (idx_some e282).1 hlt Tryz.underlying33 Tryz.sizeOf80) fun a S => ?_
        refine lx_e (.agg #[(.int .i64 x281.1), (.int .i64 x281.2.1), (.int .i64 x281.2.2)]) S trivial (by decide) rfl trivial (q_loadA (cs := [(.int .i64 x281.1), (.int .i64 x281.2.1), (.int .i64 x281.2.2)]) rfl ((hat285 0 _ rfl).isP) Tryz.isAgg80 Tryz.sizeOf80 (by rintro _ rfl; exact (fun j u hu => (hat285 j u hu).ext H.ext))) (fun a S => ?_)
        refine lx_alloc S trivial (by decide) rfl H Tryz.zeroValue80 rfl (fun b294 w295 H => ⟨trivial, fun a S => ?_⟩)
        refine lq (.int .i64 x204) S (q_assign rfl) fun a S => ?_
        refine lx_storeBox (o := 0) (i := 0) (us := [(.int .i64 x281.1), (.int .i64 x281.2.1), (.int .i64 x281.2.2)]) (cs' := [(.int .i64 x281.1), (.int .i64 x281.2.1), (.int .i64 x281.2.2)]) S trivial rfl H rfl rfl rfl rfl Tryz.sizeOf80 (Nat.le_of_ble_eq_true rfl) (List.forall_mem_cons.2 ⟨rfl, (List.forall_mem_cons.2 ⟨rfl, (List.forall_mem_cons.2 ⟨rfl, (List.forall_mem_nil _)⟩)⟩)⟩) rfl (fun w297 H => ⟨trivial, fun a S => ?_⟩)
        change Heap w0 [bA b294 [(.int .i64 x281.1), (.int .i64 x281.2.1), (.int .i64 x281.2.2)] 80, bA b49 [(.int .i64 a0.1), (.int .i64 a0.2.1), v33, v35] 35] w297 at H
        refine lx_nil (thenN ?_)
        refine wp_seq ?_
        refine region_drawG (fun w1 => Heap w0 [bA b294 [(.int .i64 x281.1), (.int .i64 x281.2.1), (.int .i64 x281.2.2)] 80, bA b49 [(.int .i64 a0.1), (.int .i64 a0.2.1), v33, v35] 35] w1) (fun i => [3, 9, 18, 32].contains i) mixed (by kernel_rfl) (fun w299 he298 => ?_)
        have H := H.later he298
        refine ⟨H.sel [0, 1] (by decide), ?_⟩
        refine lq (.agg #[(.int .i64 a0.1), (.int .i64 a0.2.1), v33, v35]) S (q_loadA (cs := [(.int .i64 a0.1), (.int .i64 a0.2.1), v33, v35]) rfl (isP_bp _) Tryz.isAgg35 Tryz.sizeOf35 (fun w1 hC => (fun j u hu => boxAt (i := 1) hC rfl hu))) fun a S => ?_
        refine lq (pAdd (bp b294) 0) S (q_fieldAddr' 0 2 rfl (isP_bp _) Tryz.underlying80 rfl Tryz.sizeOf2) fun a S => ?_
        refine lq (.int .i64 x281.1) S (q_load1 rfl Tryz.isAgg2 (fun w1 hC => (At.of_add (m := 0) (j := 0) (boxAt (i := 0) hC rfl (j := 0) rfl)))) fun a S => ?_
        obtain ⟨x302, e303, hm⟩ := bind_some hm
        refine lx_call (xs := [.tmp 72, .tmp 74]) S trivial (by decide) rfl rfl Tryz.call63 ((impl_Lts_isState_ok ⟨[(.int .i64 a0.1), (.int .i64 a0.2.1), v33, v35], rfl, ⟨[(.int .i64 a0.1)], [(.int .i64 a0.2.1), v33, v35], rfl, rfl, ⟨[(.int .i64 a0.2.1)], [v33, v35], rfl, rfl, ⟨[v33], [v35], rfl, ((H.arg h34)).list_rd, ((H.arg h36)).list_rd⟩⟩⟩⟩  e303).mono ?_)
        rintro e w300 ⟨rfl, Hc301⟩
        have H := H.call0 Hc301
        refine ⟨_, rfl, H.sel [0, 1] (by decide), fun a S => ?_⟩
        refine lq (.bool (!x302)) S (q_not rfl) fun a S => ?_
        refine lq (.bool (!x302)) S (q_move rfl) fun a S => ?_
        obtain ⟨t305, e306, hm⟩ := bind_some hm
        refine lx_cut 6 (fun a w => Slots a 109 [(1, (bp b49)), (5, (.int .i64 x204)), (6, (bp b294)), (65, v35), (66, (.int .i64 (a0.2.2.2.length : Int))), (67, (.int .i64 x204)), (83, (.bool t305))] ∧ Heap w0 [bA b294 [(.int .i64 x281.1), (.int .i64 x281.2.1), (.int .i64 x281.2.2)] 80, bA b49 [(.int .i64 a0.1), (.int .i64 a0.2.1), v33, v35] 35] w) ?_ ?_
        ·by_cases hc307 : (!x302) = true
         ·have hm := ite_t hc307 e306
          refine lx_skip S rfl rfl (isB_ne hc307) (by decide) (fun a S => ?_)
          refine lx_skip S rfl rfl (isB_ne hc307) (by decide) (fun a S => ?_)
          refine lx_skip S rfl rfl (isB_ne hc307) (by decide) (fun a S => ?_)
          refine lx_skip S rfl rfl (isB_ne hc307) (by decide) (fun a S => ?_)
          refine lx_skip S rfl rfl (isB_ne hc307) (by decide) (fun a S => ?_)
          refine lq (.bool true) S (q_pickT' rfl hc307 rfl) fun a S => ?_
          refine lx_nil ?_
          obtain rfl := Option.some.inj hm
          exact ⟨S.sub ⟨rfl, rfl, rfl, rfl, rfl, rfl, rfl, trivial⟩, H⟩
         ·have hm := ite_f (eq_false_of_ne_true hc307) e306
          have hc307 : (!x302) = false := eq_false_of_ne_true hc307
          refine lx_q (.agg #[(.int .i64 a0.1), (.int .i64 a0.2.1), v33, v35]) S (want_b rfl rfl hc307) (by decide) (q_loadA (cs := [(.int .i64 a0.1), (.int .i64 a0.2.1), v33, v35]) rfl (isP_bp _) Tryz.isAgg35 Tryz.sizeOf35 (fun w1 hC => (fun j u hu => boxAt (i := 1) hC rfl hu))) (fun a S => ?_)
          refine lx_q (pAdd (bp b294) 2) S (want_b rfl rfl hc307) (by decide) (q_fieldAddr' 2 2 rfl (isP_bp _) Tryz.underlying80 rfl Tryz.sizeOf2) (fun a S => ?_)
          refine lx_q (.int .i64 x281.2.2) S (want_b rfl rfl hc307) (by decide) (q_load1 rfl Tryz.isAgg2 (fun w1 hC => (At.of_add (m := 2) (j := 0) (boxAt (i := 0) hC rfl (j := 2) rfl)))) (fun a S => ?_)
          obtain ⟨x310, e311, hm⟩ := bind_some hm
          refine lx_call (xs := [.tmp 78, .tmp 80]) S (want_b rfl rfl hc307) (by decide) rfl rfl Tryz.call63 ((impl_Lts_isState_ok ⟨[(.int .i64 a0.1), (.int .i64 a0.2.1), v33, v35], rfl, ⟨[(.int .i64 a0.1)], [(.int .i64 a0.2.1), v33, v35], rfl, rfl, ⟨[(.int .i64 a0.2.1)], [v33, v35], rfl, rfl, ⟨[v33], [v35], rfl, ((H.arg h34)).list_rd, ((H.arg h36)).list_rd⟩⟩⟩⟩  e311).mono ?_)
          rintro e w308 ⟨rfl, Hc309⟩
          have H := H.call0 Hc309
          refine ⟨_, rfl, H.sel [0, 1] (by decide), fun a S => ?_⟩
          refine lx_q (.bool (!x310)) S (want_b rfl rfl hc307) (by decide) (q_not rfl) (fun a S => ?_)
          refine lq (.bool (!x310)) S (q_pickF' rfl hc307 rfl) fun a S => ?_
          refine lx_nil ?_
          obtain rfl := Option.some.inj hm
          exact ⟨S.sub ⟨rfl, rfl, rfl, rfl, rfl, rfl, rfl, trivial⟩, H⟩
        ·rintro a w ⟨S, H⟩
         refine lq (.bool t305) S (q_move rfl) fun a S => ?_
         obtain ⟨t313, e314, hm⟩ := bind_some hm
         refine lx_cut 8 (fun a w => Slots a 109 [(1, (bp b49)), (5, (.int .i64 x204)), (6, (bp b294)), (65, v35), (66, (.int .i64 (a0.2.2.2.length : Int))), (67, (.int .i64 x204)), (92, (.bool t313))] ∧ Heap w0 [bA b294 [(.int .i64 x281.1), (.int .i64 x281.2.1), (.int .i64 x281.2.2)] 80, bA b49 [(.int .i64 a0.1), (.int .i64 a0.2.1), v33, v35] 35] w) ?_ ?_
         ·by_cases hc315 : t305 = true
          ·have hm := ite_t hc315 e314
           refine lx_skip S rfl rfl (isB_ne hc315) (by decide) (fun a S => ?_)
           refine lx_skip S rfl rfl (isB_ne hc315) (by decide) (fun a S => ?_)
           refine lx_skip S rfl rfl (isB_ne hc315) (by decide) (fun a S => ?_)
           refine lx_skip S rfl rfl (isB_ne hc315) (by decide) (fun a S => ?_)
           refine lx_skip S rfl rfl (isB_ne hc315) (by decide) (fun a S => ?_)
           refine lx_skip S rfl rfl (isB_ne hc315) (by decide) (fun a S => ?_)
           refine lx_skip S rfl rfl (isB_ne hc315) (by decide) (fun a S => ?_)
           refine lq (.bool true) S (q_pickT' rfl hc315 rfl) fun a S => ?_
           refine lx_nil ?_
           obtain rfl := Option.some.inj hm
           exact ⟨S.sub ⟨rfl, rfl, rfl, rfl, rfl, rfl, rfl, trivial⟩, H⟩
          ·have hm := ite_f (eq_false_of_ne_true hc315) e314
           have hc315 : t305 = false := eq_false_of_ne_true hc315
           refine lx_q (pAdd (bp b294) 1) S (want_b rfl rfl hc315) (by decide) (q_fieldAddr' 1 2 rfl (isP_bp _) Tryz.underlying80 rfl Tryz.sizeOf2) (fun a S => ?_)
           refine lx_q (.int .i64 x281.2.1) S (want_b rfl rfl hc315) (by decide) (q_load1 rfl Tryz.isAgg2 (fun w1 hC => (At.of_add (m := 1) (j := 0) (boxAt (i := 0) hC rfl (j := 1) rfl)))) (fun a S => ?_)
           refine lx_q (pAdd (bp b49) 2) S (want_b rfl rfl hc315) (by decide) (q_fieldAddr' 2 23 rfl (isP_bp _) Tryz.underlying35 rfl Tryz.sizeOf23) (fun a S => ?_)
           refine lx_q v33 S (want_b rfl rfl hc315) (by decide) (q_load1 rfl Tryz.isAgg23 (fun w1 hC => (At.of_add (m := 2) (j := 0) (boxAt (i := 1) hC rfl (j := 2) rfl)))) (fun a S => ?_)
           refine lx_q (.int .i64 (a0.2.2.1.length : Int)) S (want_b rfl rfl hc315) (by decide) (q_lenSl rfl (h34).isSl rfl Tryz.underlying23) (fun a S => ?_)
           obtain ⟨x318, e319, hm⟩ := bind_some hm
           refine lx_call (xs := [.tmp 86, .tmp 89]) S (want_b rfl rfl hc315) (by decide) rfl rfl Tryz.call65 ((impl_index_ok   e319).mono ?_)
           rintro e w316 ⟨rfl, Hc317⟩
           have H := H.call0 Hc317
           refine ⟨_, rfl, H.sel [0, 1] (by decide), fun a S => ?_⟩
           refine lx_q (.bool (!x318)) S (want_b rfl rfl hc315) (by decide) (q_not rfl) (fun a S => ?_)
           refine lq (.bool (!x318)) S (q_pickF' rfl hc315 rfl) fun a S => ?_
           refine lx_nil ?_
           obtain rfl := Option.some.inj hm
           exact ⟨S.sub ⟨rfl, rfl, rfl, rfl, rfl, rfl, rfl, trivial⟩, H⟩
         ·rintro a w ⟨S, H⟩
          refine lq (.bool t313) S (q_move rfl) fun a S => ?_
          obtain ⟨t321, e322, hm⟩ := bind_some hm
          refine lx_cut 14 (fun a w => Slots a 109 [(1, (bp b49)), (65, v35), (66, (.int .i64 (a0.2.2.2.length : Int))), (67, (.int .i64 x204)), (107, (.bool t321))] ∧ Heap w0 [bA b49 [(.int .i64 a0.1), (.int .i64 a0.2.1), v33, v35] 35] w) ?_ ?_
          ·by_cases hc323 : t313 = true
           ·have hm := ite_t hc323 e322
            refine lx_skip S rfl rfl (isB_ne hc323) (by decide) (fun a S => ?_)
            refine lx_skip S rfl rfl (isB_ne hc323) (by decide) (fun a S => ?_)
            refine lx_skip S rfl rfl (isB_ne hc323) (by decide) (fun a S => ?_)
            refine lx_skip S rfl rfl rfl (by decide) (fun a S => ?_)
            refine lx_skip S rfl rfl rfl (by decide) (fun a S => ?_)
            refine lx_skip S rfl rfl rfl (by decide) (fun a S => ?_)
            refine lx_skip S rfl rfl rfl (by decide) (fun a S => ?_)
            refine lx_skip S rfl rfl rfl (by decide) (fun a S => ?_)
            refine lx_skip S rfl rfl rfl (by decide) (fun a S => ?_)
            refine lx_skip S rfl rfl rfl (by decide) (fun a S => ?_)
            refine lx_skip S rfl rfl rfl (by decide) (fun a S => ?_)
            refine lx_skip S rfl rfl rfl (by decide) (fun a S => ?_)
            refine lx_skip S rfl rfl (isB_ne hc323) (by decide) (fun a S => ?_)
            refine lq (.bool true) S (q_pickT' rfl hc323 rfl) fun a S => ?_
            refine lx_nil ?_
            obtain rfl := Option.some.inj hm
            have H := H.sel [1] (by decide)
            exact ⟨S.sub ⟨rfl, rfl, rfl, rfl, rfl, trivial⟩, H⟩
           ·have hm := ite_f (eq_false_of_ne_true hc323) e322
            have hc323 : t313 = false := eq_false_of_ne_true hc323
            refine lx_q (.int .i64 x204) S (want_b rfl rfl hc323) (by decide) (q_move rfl) (fun a S => ?_)
            refine lx_q (.bool (decide ((0 : Int) < x204))) S (want_b rfl rfl hc323) (by decide) (q_gtr rfl rfl) (fun a S => ?_)
            refine lx_q (.bool (decide ((0 : Int) < x204))) S (want_b rfl rfl hc323) (by decide) (q_move rfl) (fun a S => ?_)
            obtain ⟨t324, e325, hm⟩ := bind_some hm
            refine lx_cut 10 (fun a w => Slots a 109 [(1, (bp b49)), (65, v35), (66, (.int .i64 (a0.2.2.2.length : Int))), (67, (.int .i64 x204)), (93, (.bool t313)), (106, (.bool t324))] ∧ Heap w0 [bA b49 [(.int .i64 a0.1), (.int .i64 a0.2.1), v33, v35] 35] w) ?_ ?_
            ·by_cases hc326 : (decide ((0 : Int) < x204)) = true
             ·have hm := ite_t hc326 e325
              refine lx_q (pAdd (bp b49) 3) S (want_b rfl rfl hc326) (by decide) (q_fieldAddr' 3 33 rfl (isP_bp _) Tryz.underlying35 rfl Tryz.sizeOf33) (fun a S => ?_)
              refine lx_q v35 S (want_b rfl rfl hc326) (by decide) (q_load1 rfl Tryz.isAgg33 (fun w1 hC => (At.of_add (m := 3) (j := 0) (boxAt (i := 1) hC rfl (j := 3) rfl)))) (fun a S => ?_)
              refine lx_q (.int .i64 x204) S (want_b rfl rfl hc326) (by decide) (q_move rfl) (fun a S => ?_)
              refine lx_q (.int .i64 (W (x204 - (1 : Int)))) S (want_b rfl rfl hc326) (by decide) (q_sub rfl rfl) (fun a S => ?_)
              obtain ⟨x327, e328, hm⟩ := bind_some hm
              obtain ⟨c329, h330, hat331⟩ := (h36).elem (idx_some e328).2
              obtain ⟨c332, c333, rfl, h334, h335⟩ := h330
              obtain rfl := h334
              obtain ⟨c336, c337, rfl, h338, h339⟩ := h335
              obtain rfl := h338
              obtain rfl := h339
              have hlt := lt_of_idx (idx_some e328).2
              refine lx_q (ePtr v35 ((W (x204 - (1 : Int))).toNat * 3)) S (want_b rfl rfl hc326) (by decide) (q_indexAddr rfl (h36).isSl rfl (idx_some e328).1 hlt Tryz.underlying33 Tryz.sizeOf80) (fun a S => ?_)
              refine lx_q (.agg #[(.int .i64 x327.1), (.int .i64 x327.2.1), (.int .i64 x327.2.2)]) S (want_b rfl rfl hc326) (by decide) (q_loadA (cs := [(.int .i64 x327.1), (.int .i64 x327.2.1), (.int .i64 x327.2.2)]) rfl ((hat331 0 _ rfl).isP) Tryz.isAgg80 Tryz.sizeOf80 (fun w1 hC => (fun j u hu => (hat331 j u hu).ext hC.ext))) (fun a S => ?_)
              refine lx_q (.agg #[(.int .i64 x281.1), (.int .i64 x281.2.1), (.int .i64 x281.2.2)]) S (want_b rfl rfl hc326) (by decide) (q_loadA (cs := [(.int .i64 x281.1), (.int .i64 x281.2.1), (.int .i64 x281.2.2)]) rfl (isP_bp _) Tryz.isAgg80 Tryz.sizeOf80 (fun w1 hC => (fun j u hu => boxAt (i := 0) hC rfl hu))) (fun a S => ?_)
              obtain ⟨x342, e343, hm⟩ := bind_some hm
              refine lx_call (xs := [.tmp 102, .tmp 103]) S (want_b rfl rfl hc326) (by decide) rfl rfl Tryz.call66 ((impl_compareEdges_ok ⟨[(.int .i64 x327.1), (.int .i64 x327.2.1), (.int .i64 x327.2.2)], rfl, ⟨[(.int .i64 x327.1)], [(.int .i64 x327.2.1), (.int .i64 x327.2.2)], rfl, rfl, ⟨[(.int .i64 x327.2.1)], [(.int .i64 x327.2.2)], rfl, rfl, rfl⟩⟩⟩ ⟨[(.int .i64 x281.1), (.int .i64 x281.2.1), (.int .i64 x281.2.2)], rfl, ⟨[(.int .i64 x281.1)], [(.int .i64 x281.2.1), (.int .i64 x281.2.2)], rfl, rfl, ⟨[(.int .i64 x281.2.1)], [(.int .i64 x281.2.2)], rfl, rfl, rfl⟩⟩⟩ e343).mono ?_)
              rintro e w340 ⟨rfl, Hc341⟩
              have H := H.call0 Hc341
              refine ⟨_, rfl, H.sel [0, 1] (by decide), fun a S => ?_⟩
              refine lx_q (.bool (decide ((0 : Int) ≤ x342))) S (want_b rfl rfl hc326) (by decide) (q_geq rfl rfl) (fun a S => ?_)
              refine lx_q (.bool (decide ((0 : Int) ≤ x342))) S (want_b rfl rfl hc323) (by decide) (q_pickT' rfl hc326 rfl) (fun a S => ?_)
              refine lx_nil ?_
              obtain rfl := Option.some.inj hm
              have H := H.sel [1] (by decide)
              exact ⟨S.sub ⟨rfl, rfl, rfl, rfl, rfl, rfl, trivial⟩, H⟩
             ·have hm := ite_f (eq_false_of_ne_true hc326) e325
              have hc326 : (decide ((0 : Int) < x204)) = false := eq_false_of_ne_true hc326
              refine lx_skip S rfl rfl (isB_ne hc326) (by decide) (fun a S => ?_)
              refine lx_skip S rfl rfl (isB_ne hc326) (by decide) (fun a S => ?_)
              refine lx_skip S rfl rfl (isB_ne hc326) (by decide) (fun a S => ?_)
              refine lx_skip S rfl rfl (isB_ne hc326) (by decide) (fun a S => ?_)
              refine lx_skip S rfl rfl (isB_ne hc326) (by decide) (fun a S => ?_)
              refine lx_skip S rfl rfl (isB_ne hc326) (by decide) (fun a S => ?_)
              refine lx_skip S rfl rfl (isB_ne hc326) (by decide) (fun a S => ?_)
              refine lx_skip S rfl rfl (isB_ne hc326) (by decide) (fun a S => ?_)
              refine lx_skip S rfl rfl (isB_ne hc326) (by decide) (fun a S => ?_)
              refine lx_q (.bool false) S (want_b rfl rfl hc323) (by decide) (q_pickF' rfl hc326 rfl) (fun a S => ?_)
              refine lx_nil ?_
              obtain rfl := Option.some.inj hm
              have H := H.sel [1] (by decide)
              exact ⟨S.sub ⟨rfl, rfl, rfl, rfl, rfl, rfl, trivial⟩, H⟩
            ·rintro a w ⟨S, H⟩
             refine lq (.bool t324) S (q_pickF' rfl hc323 rfl) fun a S => ?_
             refine lx_nil ?_
             obtain rfl := Option.some.inj hm
             exact ⟨S.sub ⟨rfl, rfl, rfl, rfl, rfl, trivial⟩, H⟩
          ·rintro a w ⟨S, H⟩
           refine lx_nil (thenN ?_)
           refine cond_b S rfl (fun hc345 => ?_) (fun hc345 => ?_)
           ·have hm := ite_t hc345 hm
            refine wp_seq (region_plain ?_)
            refine lq (.bool false) S (q_assign rfl) fun a S => ?_
            refine lx_nil (thenN ?_)
            refine wp_ret (inBlock_ret ?_)
            refine then_ret ?_
            refine then_ret ?_
            refine inBlock_ret ?_
            refine then_ret ?_
            refine then_ret ?_
            obtain rfl := it_brk hm hc279
            have hm := ctl_inr hk276
            obtain rfl := Option.some.inj hm
            have H : Heap w0 [] w := H.sel [] (by decide)
            exact leave1 S rfl rfl ⟨rfl, H⟩
           ·have hm := ite_f hc345 hm
            refine wp_skip ?_
            refine inBlock_norm ?_
            refine thenN ?_
            refine region_plain ?_
            refine lq (.int .i64 (W (x204 + (1 : Int)))) S (q_add rfl rfl) fun a S => ?_
            refine lq (.int .i64 (W (x204 + (1 : Int)))) S (q_move rfl) fun a S => ?_
            refine lx_nil ?_
            exact ⟨m277, Nat.lt_succ_self _, (W (x204 + (1 : Int))), S.sub ⟨rfl, rfl, rfl, rfl, trivial⟩, H, it_cont hm hc279⟩
       ·have hm := ite_f hc280 hm
        refine wp_exit ?_
        refine then_exit ?_
        refine then_exit ?_
        refine inBlock_exit ?_
        obtain rfl := it_brk hm hc279
        have H : Heap w0 [] w := H.sel [] (by decide)
        exact ⟨S.sub trivial, H, rfl⟩
     ·skip
      refine loop_ghost (fun n a w => ∃ (x104 : Int), Slots a 109 [(1, (bp b49)), (32, v33), (33, (.int .i64 (a0.2.2.1.length : Int))), (34, (.int .i64 x104))] ∧ Heap w0 [bA b49 [(.int .i64 a0.1), (.int .i64 a0.2.1), v33, v35] 35] w ∧ iter f134 n (x104) = some res132) _ ⟨(0 : Int), S.sub ⟨rfl, rfl, rfl, rfl, trivial⟩, H, hit133⟩ ?_
      rintro n a w ⟨x104, S, H, hit133⟩
      obtain ⟨m346, o347, rfl, hm, hc348⟩ := iter_step hit133
      rw [hf135] at hm
      refine wp_seq (region_plain ?_)
      refine lq (.bool (decide (x104 < (a0.2.2.1.length : Int)))) S (q_lss rfl rfl) fun a S => ?_
      refine lx_nil (thenN ?_)
      refine wp_seq ?_
      refine cond_b S rfl (fun hc349 => ?_) (fun hc349 => ?_)
      ·have hm := ite_t hc349 hm
       refine wp_skip (thenN ?_)
       refine wp_seq ?_
       refine wp_block ?_
       refine wp_seq (region_plain ?_)
       refine lq (.int .i64 x104) S (q_move rfl) fun a S => ?_
       obtain ⟨x350, e351, hm⟩ := bind_some hm
       obtain ⟨c352, h353, hat354⟩ := (h34).elem (idx_some e351).2
       obtain rfl := h353
       have hlt := lt_of_idx (idx_some e351).2
       refine lq (ePtr v33 (x104.toNat * 1)) S (q_indexAddr rfl (h34).isSl rfl (idx_some e351).1 hlt Tryz.underlying23 Tryz.sizeOf9) fun a S => ?_
       refine lx_e (sv x350) S trivial (by decide) rfl trivial (q_load1 rfl Tryz.isAgg9 (by rintro _ rfl; exact ((hat354 0 _ rfl).ext H.ext))) (fun a S => ?_)
       refine lq (.int .i64 x104) S (q_assign rfl) fun a S => ?_
       refine lq (sv x350) S (q_assign rfl) fun a S => ?_
       refine lx_nil (thenN ?_)
       refine wp_seq (region_plain ?_)
       refine lq (sv x350) S (q_move rfl) fun a S => ?_
       obtain ⟨x357, e358, hm⟩ := bind_some hm
       refine lx_call (xs := [.tmp 39]) S trivial (by decide) rfl rfl Tryz.call64 ((impl_IsLabel_ok (hG.ext H.ext)  e358).mono ?_)
       rintro e w355 ⟨rfl, Hc356⟩
       have H := H.call0 Hc356
       refine ⟨_, rfl, trivial, fun a S => ?_⟩
       refine lq (.bool (!x357)) S (q_not rfl) fun a S => ?_
       refine lq (.bool (!x357)) S (q_move rfl) fun a S => ?_
       obtain ⟨t360, e361, hm⟩ := bind_some hm
       refine lx_cut 6 (fun a w => Slots a 109 [(1, (bp b49)), (3, (.int .i64 x104)), (4, (sv x350)), (32, v33), (33, (.int .i64 (a0.2.2.1.length : Int))), (34, (.int .i64 x104)), (48, (.bool t360))] ∧ Heap w0 [bA b49 [(.int .i64 a0.1), (.int .i64 a0.2.1), v33, v35] 35] w) ?_ ?_
       ·by_cases hc362 : (!x357) = true
        ·have hm := ite_t hc362 e361
         refine lx_skip S rfl rfl (isB_ne hc362) (by decide) (fun a S => ?_)
         refine lx_skip S rfl rfl (isB_ne hc362) (by decide) (fun a S => ?_)
         refine lx_skip S rfl rfl (isB_ne hc362) (by decide) (fun a S => ?_)
         refine lx_skip S rfl rfl (isB_ne hc362) (by decide) (fun a S => ?_)
         refine lx_skip S rfl rfl (isB_ne hc362) (by decide) (fun a S => ?_)
         refine lq (.bool true) S (q_pickT' rfl hc362 rfl) fun a S => ?_
         refine lx_nil ?_
         obtain rfl := Option.some.inj hm
         exact ⟨S.sub ⟨rfl, rfl, rfl, rfl, rfl, rfl, rfl, trivial⟩, H⟩
        ·have hm := ite_f (eq_false_of_ne_true hc362) e361
         have hc362 : (!x357) = false := eq_false_of_ne_true hc362
         refine lx_q (sv x350) S (want_b rfl rfl hc362) (by decide) (q_move rfl) (fun a S => ?_)
         refine lx_q (.bool (x350 == ([116, 97, 117] : Str))) S (want_b rfl rfl hc362) (by decide) (q_seql rfl rfl) (fun a S => ?_)
         refine lx_q (.int .i64 x104) S (want_b rfl rfl hc362) (by decide) (q_move rfl) (fun a S => ?_)
         refine lx_q (.bool (x104 == (0 : Int))) S (want_b rfl rfl hc362) (by decide) (q_eql rfl rfl) (fun a S => ?_)
         refine lx_q (.bool ((x350 == ([116, 97, 117] : Str)) != (x104 == (0 : Int)))) S (want_b rfl rfl hc362) (by decide) (q_bneq rfl rfl Tryz.underlying4) (fun a S => ?_)
         refine lq (.bool ((x350 == ([116, 97, 117] : Str)) != (x104 == (0 : Int)))) S (q_pickF' rfl hc362 rfl) fun a S => ?_
         refine lx_nil ?_
         obtain rfl := Option.some.inj hm
         exact ⟨S.sub ⟨rfl, rfl, rfl, rfl, rfl, rfl, rfl, trivial⟩, H⟩
       ·rintro a w ⟨S, H⟩
        refine lq (.bool t360) S (q_move rfl) fun a S => ?_
        obtain ⟨t363, e364, hm⟩ := bind_some hm
        refine lx_cut 13 (fun a w => Slots a 109 [(1, (bp b49)), (32, v33), (33, (.int .i64 (a0.2.2.1.length : Int))), (34, (.int .i64 x104)), (62, (.bool t363))] ∧ Heap w0 [bA b49 [(.int .i64 a0.1), (.int .i64 a0.2.1), v33, v35] 35] w) ?_ ?_
        ·by_cases hc365 : t360 = true
         ·have hm := ite_t hc365 e364
          refine lx_skip S rfl rfl (isB_ne hc365) (by decide) (fun a S => ?_)
          refine lx_skip S rfl rfl (isB_ne hc365) (by decide) (fun a S => ?_)
          refine lx_skip S rfl rfl (isB_ne hc365) (by decide) (fun a S => ?_)
          refine lx_skip S rfl rfl rfl (by decide) (fun a S => ?_)
          refine lx_skip S rfl rfl rfl (by decide) (fun a S => ?_)
          refine lx_skip S rfl rfl rfl (by decide) (fun a S => ?_)
          refine lx_skip S rfl rfl rfl (by decide) (fun a S => ?_)
          refine lx_skip S rfl rfl rfl (by decide) (fun a S => ?_)
          refine lx_skip S rfl rfl rfl (by decide) (fun a S => ?_)
          refine lx_skip S rfl rfl rfl (by decide) (fun a S => ?_)
          refine lx_skip S rfl rfl rfl (by decide) (fun a S => ?_)
          refine lx_skip S rfl rfl (isB_ne hc365) (by decide) (fun a S => ?_)
          refine lq (.bool true) S (q_pickT' rfl hc365 rfl) fun a S => ?_
          refine lx_nil ?_
          obtain rfl := Option.some.inj hm
          exact ⟨S.sub ⟨rfl, rfl, rfl, rfl, rfl, trivial⟩, H⟩
         ·have hm := ite_f (eq_false_of_ne_true hc365) e364
          have hc365 : t360 = false := eq_false_of_ne_true hc365
          refine lx_q (.int .i64 x104) S (want_b rfl rfl hc365) (by decide) (q_move rfl) (fun a S => ?_)
          refine lx_q (.bool (decide ((1 : Int) < x104))) S (want_b rfl rfl hc365) (by decide) (q_gtr rfl rfl) (fun a S => ?_)
          refine lx_q (.bool (decide ((1 : Int) < x104))) S (want_b rfl rfl hc365) (by decide) (q_move rfl) (fun a S => ?_)
          obtain ⟨t366, e367, hm⟩ := bind_some hm
          refine lx_cut 9 (fun a w => Slots a 109 [(1, (bp b49)), (32, v33), (33, (.int .i64 (a0.2.2.1.length : Int))), (34, (.int .i64 x104)), (49, (.bool t360)), (61, (.bool t366))] ∧ Heap w0 [bA b49 [(.int .i64 a0.1), (.int .i64 a0.2.1), v33, v35] 35] w) ?_ ?_
          ·by_cases hc368 : (decide ((1 : Int) < x104)) = true
           ·have hm := ite_t hc368 e367
            refine lx_q (sv x350) S (want_b rfl rfl hc368) (by decide) (q_move rfl) (fun a S => ?_)
            refine lx_q (pAdd (bp b49) 2) S (want_b rfl rfl hc368) (by decide) (q_fieldAddr' 2 23 rfl (isP_bp _) Tryz.underlying35 rfl Tryz.sizeOf23) (fun a S => ?_)
            refine lx_e v33 S (want_b rfl rfl hc368) (by decide) rfl trivial (q_load1 rfl Tryz.isAgg23 (by rintro _ rfl; exact (At.of_add (m := 2) (j := 0) (boxAt (i := 0) H rfl (j := 2) rfl)))) (fun a S => ?_)
            refine lx_q (.int .i64 x104) S (want_b rfl rfl hc368) (by decide) (q_move rfl) (fun a S => ?_)
            refine lx_q (.int .i64 (W (x104 - (1 : Int)))) S (want_b rfl rfl hc368) (by decide) (q_sub rfl rfl) (fun a S => ?_)
            obtain ⟨x369, e370, hm⟩ := bind_some hm
            obtain ⟨c371, h372, hat373⟩ := (h34).elem (idx_some e370).2
            obtain rfl := h372
            have hlt := lt_of_idx (idx_some e370).2
            refine lx_q (ePtr v33 ((W (x104 - (1 : Int))).toNat * 1)) S (want_b rfl rfl hc368) (by decide) (q_indexAddr rfl (h34).isSl rfl (idx_some e370).1 hlt Tryz.underlying23 Tryz.sizeOf9) (fun a S => ?_)
            refine lx_e (sv x369) S (want_b rfl rfl hc368) (by decide) rfl trivial (q_load1 rfl Tryz.isAgg9 (by rintro _ rfl; exact ((hat373 0 _ rfl).ext H.ext))) (fun a S => ?_)
            refine lx_q (.bool (Op.bytesLess x350 x369 || x350 == x369)) S (want_b rfl rfl hc368) (by decide) (q_sleq rfl rfl) (fun a S => ?_)
            refine lx_q (.bool (Op.bytesLess x350 x369 || x350 == x369)) S (want_b rfl rfl hc365) (by decide) (q_pickT' rfl hc368 rfl) (fun a S => ?_)
            refine lx_nil ?_
            obtain rfl := Option.some.inj hm
            exact ⟨S.sub ⟨rfl, rfl, rfl, rfl, rfl, rfl, trivial⟩, H⟩
           ·have hm := ite_f (eq_false_of_ne_true hc368) e367
            have hc368 : (decide ((1 : Int) < x104)) = false := eq_false_of_ne_true hc368
            refine lx_skip S rfl rfl (isB_ne hc368) (by decide) (fun a S => ?_)
            refine lx_skip S rfl rfl (isB_ne hc368) (by decide) (fun a S => ?_)
            refine lx_skip S rfl rfl (isB_ne hc368) (by decide) (fun a S => ?_)
            refine lx_skip S rfl rfl (isB_ne hc368) (by decide) (fun a S => ?_)
            refine lx_skip S rfl rfl (isB_ne hc368) (by decide) (fun a S => ?_)
            refine lx_skip S rfl rfl (isB_ne hc368) (by decide) (fun a S => ?_)
            refine lx_skip S rfl rfl (isB_ne hc368) (by decide) (fun a S => ?_)
            refine lx_skip S rfl rfl (isB_ne hc368) (by decide) (fun a S => ?_)
            refine lx_q (.bool false) S (want_b rfl rfl hc365) (by decide) (q_pickF' rfl hc368 rfl) (fun a S => ?_)
            refine lx_nil ?_
            obtain rfl := Option.some.inj hm
            exact ⟨S.sub ⟨rfl, rfl, rfl, rfl, rfl, rfl, trivial⟩, H⟩
          ·rintro a w ⟨S, H⟩
           refine lq (.bool t366) S (q_pickF' rfl hc365 rfl) fun a S => ?_
           refine lx_nil ?_
           obtain rfl := Option.some.inj hm
           exact ⟨S.sub ⟨rfl, rfl, rfl, rfl, rfl, trivial⟩, H⟩
        ·rintro a w ⟨S, H⟩
         refine lx_nil (thenN ?_)
         refine cond_b S rfl (fun hc374 => ?_) (fun hc374 => ?_)
         ·have hm := ite_t hc374 hm
          refine wp_seq (region_plain ?_)
          refine lq (.bool false) S (q_assign rfl) fun a S => ?_
          refine lx_nil (thenN ?_)
          refine wp_ret (inBlock_ret ?_)
          refine then_ret ?_
          refine then_ret ?_
          refine inBlock_ret ?_
          refine then_ret ?_
          refine then_ret ?_
          obtain rfl := it_brk hm hc348
          have hm := ctl_inr hk136
          obtain rfl := Option.some.inj hm
          have H : Heap w0 [] w := H.sel [] (by decide)
          exact leave1 S rfl rfl ⟨rfl, H⟩
         ·have hm := ite_f hc374 hm
          refine wp_skip ?_
          refine inBlock_norm ?_
          refine thenN ?_
          refine region_plain ?_
          refine lq (.int .i64 (W (x104 + (1 : Int)))) S (q_add rfl rfl) fun a S => ?_
          refine lq (.int .i64 (W (x104 + (1 : Int)))) S (q_move rfl) fun a S => ?_
          refine lx_nil ?_
          exact ⟨m346, Nat.lt_succ_self _, (W (x104 + (1 : Int))), S.sub ⟨rfl, rfl, rfl, rfl, trivial⟩, H, it_cont hm hc348⟩
      ·have hm := ite_f hc349 hm
       refine wp_exit ?_
       refine then_exit ?_
       refine then_exit ?_
       refine inBlock_exit ?_
       obtain rfl := it_brk hm hc348
       exact ⟨S.sub ⟨rfl, trivial⟩, H, rfl⟩

/-- impl.formulaFrom -/
def impl_formulaFrom_b (fuel : Nat) (rec : List Timpl_Node → Option (Ft fuel × List Timpl_Node)) (a0 : (List Timpl_Node)) : Option (((Timpl_Node × List (Ft fuel)) × (List Timpl_Node))) :=
  (idx a0 (0 : Int)).bind fun x31 => (sub a0 (1 : Int) (a0.length : Int)).bind fun xs51 => (idx a0 (0 : Int)).bind fun x53 => (impl_Node_operands_m fuel (x53.1, x53.2.1, x53.2.2.1, x53.2.2.2)).bind fun x72 => (iter (fun (s : (List Timpl_Node) × (List (Ft fuel)) × (Int)) => (match s with | (xs95, xs98, x100) => (if (decide (x100 < x72)) = true then (rec xs95).bind fun x139 => (app xs98 [x139.1]).bind fun x147 => some (.inl (x139.2, x147, (W (x100 + (1 : Int))))) else some (.inr (.inl (xs95, xs98)))) : Option (((List Timpl_Node) × (List (Ft fuel)) × (Int)) ⊕ (((List Timpl_Node) × (List (Ft fuel))) ⊕ (((Timpl_Node × List (Ft fuel)) × (List Timpl_Node))))))) fuel (xs51, [], (0 : Int))).bind fun res125 => ctl (β := (List Timpl_Node) × (List (Ft fuel))) (ρ := ((Timpl_Node × List (Ft fuel)) × (List Timpl_Node))) (τ := ((Timpl_Node × List (Ft fuel)) × (List Timpl_Node))) res125 (fun (xs120, xs123) => some ((((x31.1, x31.2.1, x31.2.2.1, x31.2.2.2), xs123), xs120))) (fun q => some (q))
def impl_formulaFrom_m : (fuel : Nat) → List Timpl_Node → Option (Ft fuel × List Timpl_Node)
  | 0, _ => none
  | fuel + 1, a0 => impl_formulaFrom_b fuel (impl_formulaFrom_m fuel) a0
set_option maxRecDepth 20000 in
theorem impl_formulaFrom_ok [dr : Dr] {w0 : World} {fuel : Nat} {p0 : Value} {a0 : (List Timpl_Node)} {r : ((Ft fuel) × (List Timpl_Node))} (h0 : Rd (rList Rimpl_Node) w0 p0 a0) (hm : impl_formulaFrom_m fuel a0 = some r) :
  Calls Tryz.prog 53 #[p0] w0 fun e w => ∃ (v0 : Value) (v1 : Value), e = .returned (.tuple #[v0, v1]) ∧ (∀ W, Rd (rList Rimpl_Node) W p0 a0 → Rd (rList Rimpl_Node) W v1 r.2) ∧ Heap w0 [oA (rBx 93 (rFt fuel)) v0 r.1] w := by
 induction fuel generalizing w0 p0 a0 with
 | zero => cases (show none = some r from hm)
 | succ fuel ih =>
  replace hm : impl_formulaFrom_b fuel (impl_formulaFrom_m fuel) a0 = some r := hm
  unfold impl_formulaFrom_b at hm
  have H := Heap.start w0
  refine enter (args := [p0]) Tryz.func53 rfl 38 rfl (Nat.le_of_ble_eq_true rfl) (fun a S => ?_)
  refine wp_seq (region_plain ?_)
  refine lq (.pointer none) S (q_assign rfl) fun a S => ?_
  refine lq (.slice none 0 0) S (q_assign rfl) fun a S => ?_
  refine lx_nil (thenN ?_)
  refine wp_seq (region_plain ?_)
  refine lq p0 S (q_move rfl) fun a S => ?_
  obtain ⟨x31, e32, hm⟩ := bind_some hm
  obtain ⟨c33, h34, hat35⟩ := (h0).elem (idx_some e32).2
  obtain ⟨c36, c37, rfl, h38, h39⟩ := h34
  obtain rfl := h38
  obtain ⟨c40, c41, rfl, h42, h43⟩ := h39
  obtain rfl := h42
  obtain ⟨c44, c45, rfl, h46, h47⟩ := h43
  obtain rfl := h46
  obtain rfl := h47
  have hlt := lt_of_idx (idx_some e32).2
  refine lq (ePtr p0 ((0 : Int).toNat * 4)) S (q_indexAddr rfl (h0).isSl rfl (idx_some e32).1 hlt Tryz.underlying31 Tryz.sizeOf61) fun a S => ?_
  refine lx_e (.agg #[(.int .i64 x31.1), (.int .i64 x31.2.1), (sv x31.2.2.1), (.bool x31.2.2.2)]) S trivial (by decide) rfl trivial (q_loadA (cs := [(.int .i64 x31.1), (.int .i64 x31.2.1), (sv x31.2.2.1), (.bool x31.2.2.2)]) rfl ((hat35 0 _ rfl).isP) Tryz.isAgg61 Tryz.sizeOf61 (by rintro _ rfl; exact (fun j u hu => (hat35 j u hu).ext H.ext))) (fun a S => ?_)
  refine lq (.agg #[(.int .i64 x31.1), (.int .i64 x31.2.1), (sv x31.2.2.1), (.bool x31.2.2.2), (.slice none 0 0)]) S (q_build (zs := [(.int .i64 (0 : Int)), (.int .i64 (0 : Int)), (sv ([] : Str)), (.bool false), (.slice none 0 0)]) (szs := [4, 1]) (ps := [(0, [(.int .i64 x31.1), (.int .i64 x31.2.1), (sv x31.2.2.1), (.bool x31.2.2.2)])]) (parts := [(0, .tmp 9)]) rfl Tryz.underlying93 Tryz.zeroValue93 (fun w => by simp [Tryz.sizeOf61, Tryz.sizeOf91]) ⟨rfl, rfl, Nat.le_of_ble_eq_true rfl, trivial⟩ rfl) fun a S => ?_
  refine lx_box S trivial (by decide) rfl H rfl rfl (fun b48 w49 H => ⟨trivial, fun a S => ?_⟩)
  refine lq (bp b48) S (q_assign rfl) fun a S => ?_
  refine lx_nil (thenN ?_)
  refine wp_seq (region_plain ?_)
  refine lq p0 S (q_move rfl) fun a S => ?_
  obtain ⟨xs51, e52, hm⟩ := bind_some hm
  have hsb := (sub_some e52).1
  refine lq (subV p0 ((1 : Int)).toNat ((a0.length : Int)).toNat 4) S (q_slice (lo := (some (.const (.int .i64 (1))))) (hi := none) (l := (1 : Int)) (h := (a0.length : Int)) (size := 4) rfl (h0).isSl Tryz.underlying31 Tryz.sizeOf61 rfl rfl hsb.1 hsb.2.1 hsb.2.2) fun a S => ?_
  refine lq (subV p0 ((1 : Int)).toNat ((a0.length : Int)).toNat 4) S (q_assign rfl) fun a S => ?_
  refine lx_nil (thenN ?_)
  refine wp_seq (wp_seq (region_plain ?_))
  refine lq p0 S (q_move rfl) fun a S => ?_
  obtain ⟨x53, e54, hm⟩ := bind_some hm
  obtain ⟨c55, h56, hat57⟩ := (h0).elem (idx_some e54).2
  obtain ⟨c58, c59, rfl, h60, h61⟩ := h56
  obtain rfl := h60
  obtain ⟨c62, c63, rfl, h64, h65⟩ := h61
  obtain rfl := h64
  obtain ⟨c66, c67, rfl, h68, h69⟩ := h65
  obtain rfl := h68
  obtain rfl := h69
  have hlt := lt_of_idx (idx_some e54).2
  refine lq (ePtr p0 ((0 : Int).toNat * 4)) S (q_indexAddr rfl (h0).isSl rfl (idx_some e54).1 hlt Tryz.underlying31 Tryz.sizeOf61) fun a S => ?_
  refine lx_e (.agg #[(.int .i64 x53.1), (.int .i64 x53.2.1), (sv x53.2.2.1), (.bool x53.2.2.2)]) S trivial (by decide) rfl trivial (q_loadA (cs := [(.int .i64 x53.1), (.int .i64 x53.2.1), (sv x53.2.2.1), (.bool x53.2.2.2)]) rfl ((hat57 0 _ rfl).isP) Tryz.isAgg61 Tryz.sizeOf61 (by rintro _ rfl; exact (fun j u hu => (hat57 j u hu).ext H.ext))) (fun a S => ?_)
  obtain ⟨x72, e73, hm⟩ := bind_some hm
  refine lx_call (xs := [.tmp 16]) S trivial (by decide) rfl rfl Tryz.call73 ((impl_Node_operands_ok ⟨[(.int .i64 x53.1), (.int .i64 x53.2.1), (sv x53.2.2.1), (.bool x53.2.2.2)], rfl, ⟨[(.int .i64 x53.1)], [(.int .i64 x53.2.1), (sv x53.2.2.1), (.bool x53.2.2.2)], rfl, rfl, ⟨[(.int .i64 x53.2.1)], [(sv x53.2.2.1), (.bool x53.2.2.2)], rfl, rfl, ⟨[(sv x53.2.2.1)], [(.bool x53.2.2.2)], rfl, rfl, rfl⟩⟩⟩⟩ e73).mono ?_)
  rintro e w70 ⟨rfl, Hc71⟩
  have H := H.call0 Hc71
  refine ⟨_, rfl, trivial, fun a S => ?_⟩
  refine lq (.int .i64 (0 : Int)) S (q_move rfl) fun a S => ?_
  refine lx_nil (thenN ?_)
  obtain ⟨res125, hit126, hk129⟩ := bind_some hm
  obtain ⟨f127, hf128, hit126⟩ := iter_name hit126
  refine block_loop (fun a w => ∃ (xs120 : List Timpl_Node) (xs123 : List (Ft fuel)) (v120 v122 : Value), Slots a 38 [(4, (bp b48)), (5, v120)] ∧ Heap w0 [bA b48 [(.int .i64 x31.1), (.int .i64 x31.2.1), (sv x31.2.2.1), (.bool x31.2.2.2), v122] 93, oA (rList (rBx 93 (rFt fuel))) v122 xs123] w ∧ (∀ W, Rd (rList Rimpl_Node) W p0 a0 → Rd (rList Rimpl_Node) W v120 xs120) ∧ res125 = .inl (xs120, xs123)) ?_ ?_
  ·rintro a w ⟨xs120, xs123, v120, v122, S, H, hR120, rfl⟩
   have hm := ctl_inl hk129
   refine thenN ?_
   refine wp_seq (region_plain ?_)
   refine lq (bp b48) S (q_move rfl) fun a S => ?_
   refine lq v120 S (q_move rfl) fun a S => ?_
   refine lq (bp b48) S (q_assign rfl) fun a S => ?_
   refine lq v120 S (q_assign rfl) fun a S => ?_
   refine lx_nil (thenN ?_)
   refine wp_ret ?_
   have H : Heap w0 [oA (rBx 93 (rFt (fuel + 1))) (bp b48) ((x31.1, x31.2.1, x31.2.2.1, x31.2.2.2), xs123)] w := H.bx (r := rFt (fuel + 1)) (x := ((x31.1, x31.2.1, x31.2.2.1, x31.2.2.2), xs123)) (fun F hA => ownF ⟨_, _, [(.int .i64 x31.1), (.int .i64 x31.2.1), (sv x31.2.2.1), (.bool x31.2.2.2)], [v122], rfl, rfl, ⟨_, _, [(.int .i64 x31.1)], [(.int .i64 x31.2.1), (sv x31.2.2.1), (.bool x31.2.2.2)], rfl, rfl, ⟨rfl, rfl⟩, ⟨_, _, [(.int .i64 x31.2.1)], [(sv x31.2.2.1), (.bool x31.2.2.2)], rfl, rfl, ⟨rfl, rfl⟩, ⟨_, _, [(sv x31.2.2.1)], [(.bool x31.2.2.2)], rfl, rfl, ⟨rfl, rfl⟩, ⟨rfl, rfl⟩⟩⟩⟩, (oA_list.1 hA)⟩)
   obtain rfl := Option.some.inj hm
   exact leave2 S rfl rfl rfl ⟨(bp b48), v120, rfl, hR120, H⟩
  ·skip
   have H : Heap w0 [oA (rList (rBx 93 (rFt fuel))) (.slice none 0 0) ([] : List (Ft fuel)), bA b48 [(.int .i64 x31.1), (.int .i64 x31.2.1), (sv x31.2.2.1), (.bool x31.2.2.2), (.slice none 0 0)] 93] w70 := H.nilList (rBx 93 (rFt fuel))
   have H : Heap w0 [bA b48 [(.int .i64 x31.1), (.int .i64 x31.2.1), (sv x31.2.2.1), (.bool x31.2.2.2), (.slice none 0 0)] 93, oA (rList (rBx 93 (rFt fuel))) (.slice none 0 0) ([] : List (Ft fuel))] w70 := H.front 1 rfl
   refine loop_ghost (fun n a w => ∃ (xs95 : List Timpl_Node) (xs98 : List (Ft fuel)) (x100 : Int) (v95 v97 : Value), Slots a 38 [(4, (bp b48)), (5, v95), (17, (.int .i64 x72)), (18, (.int .i64 x100))] ∧ Heap w0 [bA b48 [(.int .i64 x31.1), (.int .i64 x31.2.1), (sv x31.2.2.1), (.bool x31.2.2.2), v97] 93, oA (rList (rBx 93 (rFt fuel))) v97 xs98] w ∧ (∀ W, Rd (rList Rimpl_Node) W p0 a0 → Rd (rList Rimpl_Node) W v95 xs95) ∧ iter f127 n (xs95, xs98, x100) = some res125) _ ⟨xs51, [], (0 : Int), _, (.slice none 0 0), S.sub ⟨rfl, rfl, rfl, rfl, trivial⟩, H, fun W h => h.sub e52, hit126⟩ ?_
   rintro n a w ⟨xs95, xs98, x100, v95, v97, S, H, hR95, hit126⟩
   obtain ⟨m133, o134, rfl, hm, hc135⟩ := iter_step hit126
   rw [hf128] at hm
   refine wp_seq (region_plain ?_)
   refine lq (.bool (decide (x100 < x72))) S (q_lss rfl rfl) fun a S => ?_
   refine lx_nil (thenN ?_)
   refine wp_seq ?_
   refine cond_b S rfl (fun hc136 => ?_) (fun hc136 => ?_)
   ·have hm := ite_t hc136 hm
    refine wp_skip (thenN ?_)
    refine wp_seq ?_
    refine wp_block ?_
    refine wp_seq (region_plain ?_)
    refine lq (.pointer none) S (q_assign rfl) fun a S => ?_
    refine lx_nil (thenN ?_)
    refine wp_seq (region_plain ?_)
    refine lq v95 S (q_move rfl) fun a S => ?_
    obtain ⟨x139, e140, hm⟩ := bind_some hm
    refine lx_call (xs := [.tmp 21]) S trivial (by decide) rfl rfl Tryz.call53 ((ih (hR95 _ (H.arg h0)) e140).mono ?_)
    rintro e w137 ⟨v141, v142, rfl, hR142, Hc138⟩
    have H := H.call1 Hc138
    refine ⟨_, rfl, trivial, fun a S => ?_⟩
    refine lq (.tuple #[v141, v142]) S (q_move rfl) fun a S => ?_
    refine lq v141 S (q_extract rfl rfl) fun a S => ?_
    refine lq v142 S (q_extract rfl rfl) fun a S => ?_
    refine lq v141 S (q_assign rfl) fun a S => ?_
    refine lq v142 S (q_assign rfl) fun a S => ?_
    refine lx_nil (thenN ?_)
    refine region_plain ?_
    refine lq (bp b48) S (q_move rfl) fun a S => ?_
    refine lq (bp b48) S (q_move rfl) fun a S => ?_
    refine lq (bp b48) S (q_nilCheck rfl (isP_bp _)) fun a S => ?_
    refine lq (pAdd (bp b48) 4) S (q_fieldAddr' 4 91 rfl (isP_bp _) Tryz.underlying93 rfl Tryz.sizeOf91) fun a S => ?_
    refine lx_e v97 S trivial (by decide) rfl trivial (q_load1 rfl Tryz.isAgg91 (by rintro _ rfl; exact (At.of_add (m := 4) (j := 0) (boxAt (i := 1) H rfl (j := 4) rfl)))) (fun a S => ?_)
    refine lq v141 S (q_move rfl) fun a S => ?_
    refine lx_buildSlice (r := (rBx 93 (rFt fuel))) (xs := [x139.1]) (ps := [(0, [v141])]) (cs := [v141]) (parts := [(0, .tmp 30)]) S trivial (by decide) rfl H rfl Tryz.underlying91 Tryz.sizeOf66 Tryz.zeroValue66 (Nat.le_of_ble_eq_true rfl) ⟨rfl, (cells_p (rd_bxp (H.rdAt 0 rfl)).isP), Nat.le_of_ble_eq_true rfl, trivial⟩ (by intro zs hz; exact fill_dense hz ⟨rfl, trivial⟩ rfl rfl) rfl (by decide) (fun w F hA => ownL_one_mk (ownF (oA_bx.1 hA))) (fun v144 w145 H => ⟨trivial, fun a S => ?_⟩)
    obtain ⟨x147, e148, hm⟩ := bind_some hm
    obtain ⟨hle, hap⟩ := app_some e148
    replace hap := hap.symm
    subst hap
    have H : Heap w0 [oA (rList (rBx 93 (rFt fuel))) v144 [x139.1], bA b48 [(.int .i64 x31.1), (.int .i64 x31.2.1), (sv x31.2.2.1), (.bool x31.2.2.2), v97] 93, oA (rList (rBx 93 (rFt fuel))) v97 xs98] w145 := H.front 0 rfl
    have H : Heap w0 [oA (rList (rBx 93 (rFt fuel))) v97 xs98, oA (rList (rBx 93 (rFt fuel))) v144 [x139.1], bA b48 [(.int .i64 x31.1), (.int .i64 x31.2.1), (sv x31.2.2.1), (.bool x31.2.2.2), v97] 93] w145 := H.front 2 rfl
    refine lx_appendOwn (r := (rBx 93 (rFt fuel))) S trivial (by decide) rfl H rfl rfl Tryz.underlying91 Tryz.ti66 rfl rfl rfl (Nat.le_of_ble_eq_true rfl) (by decide) hle (fun v149 w150 H => ⟨trivial, fun a S => ?_⟩)
    refine lq (bp b48) S (q_nilCheck rfl (isP_bp _)) fun a S => ?_
    refine lq (pAdd (bp b48) 4) S (q_fieldAddr' 4 91 rfl (isP_bp _) Tryz.underlying93 rfl Tryz.sizeOf91) fun a S => ?_
    refine lx_storeBox (o := 4) (i := 1) (us := [v149]) (cs' := [(.int .i64 x31.1), (.int .i64 x31.2.1), (sv x31.2.2.1), (.bool x31.2.2.2), v149]) S trivial rfl H rfl rfl rfl (cells_sl (H.isSl 0 rfl)) Tryz.sizeOf91 (Nat.le_of_ble_eq_true rfl) (List.forall_mem_cons.2 ⟨one_sl (H.isSl 0 rfl), (List.forall_mem_nil _)⟩) rfl (fun w152 H => ⟨trivial, fun a S => ?_⟩)
    change Heap w0 [oA (rList (rBx 93 (rFt fuel))) v149 (xs98 ++ [x139.1]), bA b48 [(.int .i64 x31.1), (.int .i64 x31.2.1), (sv x31.2.2.1), (.bool x31.2.2.2), v149] 93] w152 at H
    refine lx_nil ?_
    refine inBlock_norm ?_
    refine thenN ?_
    refine region_plain ?_
    refine lq (.int .i64 (W (x100 + (1 : Int)))) S (q_add rfl rfl) fun a S => ?_
    refine lq (.int .i64 (W (x100 + (1 : Int)))) S (q_move rfl) fun a S => ?_
    refine lx_nil ?_
    have H : Heap w0 [bA b48 [(.int .i64 x31.1), (.int .i64 x31.2.1), (sv x31.2.2.1), (.bool x31.2.2.2), v149] 93, oA (rList (rBx 93 (rFt fuel))) v149 (xs98 ++ [x139.1])] w152 := H.front 1 rfl
    exact ⟨m133, Nat.lt_succ_self _, x139.2, (xs98 ++ [x139.1]), (W (x100 + (1 : Int))), v142, v149, S.sub ⟨rfl, rfl, rfl, rfl, trivial⟩, H, fun W h => hR142 W (hR95 W h), it_cont hm hc135⟩
   ·have hm := ite_f hc136 hm
    refine wp_exit ?_
    refine then_exit ?_
    refine then_exit ?_
    refine inBlock_exit ?_
    obtain rfl := it_brk hm hc135
    exact ⟨xs95, xs98, v95, v97, S.sub ⟨rfl, rfl, trivial⟩, H, hR95, rfl⟩


/-- impl.formulaOf -/
def impl_formulaOf_m (fuel : Nat) (a0 : (List Timpl_Node)) : Option (Ft fuel) :=
  (impl_formulaFrom_m fuel a0).bind fun x => some x.1
set_option maxRecDepth 20000 in
theorem impl_formulaOf_ok [dr : Dr] {w0 : World} {fuel : Nat} {p0 : Value} {a0 : (List Timpl_Node)} {r : Ft fuel} (h0 : Rd (rList Rimpl_Node) w0 p0 a0) (hm : impl_formulaOf_m fuel a0 = some r) :
  Calls Tryz.prog 34 #[p0] w0 fun e w => ∃ (v0 : Value), e = .returned (v0) ∧ Heap w0 [oA (rBx 93 (rFt fuel)) v0 r] w := by
 unfold impl_formulaOf_m at hm
 have H := Heap.start w0
 refine enter (args := [p0]) Tryz.func34 rfl 11 rfl (Nat.le_of_ble_eq_true rfl) (fun a S => ?_)
 refine wp_seq (region_plain ?_)
 refine lq (.pointer none) S (q_assign rfl) fun a S => ?_
 refine lx_nil (thenN ?_)
 refine wp_seq (region_plain ?_)
 refine lq p0 S (q_move rfl) fun a S => ?_
 obtain ⟨x139, e140, hm⟩ := bind_some hm
 refine lx_call (xs := [.tmp 6]) S trivial (by decide) rfl rfl Tryz.call53 ((impl_formulaFrom_ok h0 e140).mono ?_)
 rintro e w137 ⟨v141, v142, rfl, _, Hc138⟩
 have H := H.call1 Hc138
 refine ⟨_, rfl, trivial, fun a S => ?_⟩
 refine lq (.tuple #[v141, v142]) S (q_move rfl) fun a S => ?_
 refine lq v141 S (q_extract rfl rfl) fun a S => ?_
 refine lq v142 S (q_extract rfl rfl) fun a S => ?_
 refine lq v141 S (q_assign rfl) fun a S => ?_
 refine lq v142 S (q_assign rfl) fun a S => ?_
 refine lx_nil (thenN ?_)
 refine wp_seq (region_plain ?_)
 refine lq v141 S (q_move rfl) fun a S => ?_
 refine lq v141 S (q_assign rfl) fun a S => ?_
 refine lx_nil (thenN ?_)
 refine wp_ret ?_
 obtain rfl := Option.some.inj hm
 exact leave1 S rfl rfl ⟨v141, rfl, H⟩


/-- slices.Repeat[[]bool,bool] -/
def slices_Repeat__bool_bool_m (fuel : Nat) (a0 : (List Bool)) (a1 : Int) : Option ((List Bool)) :=
  join (κ := Option (List Bool)) ((math_bits_Mul_m fuel (IntKind.u64.wrap (a0.length : Int)) (IntKind.u64.wrap a1)).bind fun x35 => join (κ := Option (List Bool)) ((mks (W x35.2) false).bind fun x40 => (iter (fun (s : (List Bool) × (Int)) => (match s with | (xs57, x58) => (if (decide (x58 < (xs57.length : Int))) = true then (sub xs57 x58 (xs57.length : Int)).bind fun xs81 => (sub xs57 (0 : Int) x58).bind fun xs83 => some (.inl ((cpy xs57 (x58).toNat xs81.length xs83), (W (x58 + (((min xs83.length xs81.length : Nat) : Nat) : Int))))) else some (.inr (.inl (xs57)))) : Option (((List Bool) × (Int)) ⊕ (((List Bool)) ⊕ ((List Bool)))))) fuel ((cpy x40 ((0 : Int)).toNat x40.length a0), (((min a0.length x40.length : Nat) : Nat) : Int))).bind fun res70 => ctl (β := (List Bool)) (ρ := (List Bool)) (τ := (List Bool)) res70 (fun (xs69) => some (xs69)) (fun q => some (q))) (fun K38 => (if (decide ((0 : Int) < x35.1)) = true then some true else some (decide ((9223372036854775807 : Int) < x35.2))).bind fun t86 => (if t86 = true then none else K38))) (fun K31 => (if (decide (a1 < (0 : Int))) = true then none else K31))
set_option maxRecDepth 20000 in
theorem slices_Repeat__bool_bool_ok [dr : Dr] {w0 : World} {fuel : Nat} {p0 : Value} {a0 : (List Bool)} {a1 : Int} {r : (List Bool)} (h0 : Rd (rList rBool) w0 p0 a0) (hm : slices_Repeat__bool_bool_m fuel a0 a1 = some r) :
  Calls Tryz.prog 56 #[p0, .int .i64 a1] w0 fun e w => ∃ (v0 : Value), e = .returned (v0) ∧ Heap w0 [oA (rList rBool) v0 r] w := by
 unfold slices_Repeat__bool_bool_m at hm
 have H := Heap.start w0
 refine enter (args := [p0, .int .i64 a1]) Tryz.func56 rfl 48 rfl (Nat.le_of_ble_eq_true rfl) (fun a S => ?_)
 refine wp_seq (region_plain ?_)
 refine lq (.slice none 0 0) S (q_assign rfl) fun a S => ?_
 refine lx_nil (thenN ?_)
 obtain ⟨K31, hK32, hm⟩ := join_elim hm
 refine seq_cut (fun a w => Slots a 48 [(0, p0), (1, (.int .i64 a1))] ∧ Heap w0 [] w ∧ K31 = some r) ?_ ?_
 ·rintro a w ⟨S, H, hm⟩
  subst hK32
  refine wp_seq (region_plain ?_)
  refine lq p0 S (q_move rfl) fun a S => ?_
  refine lq (.int .i64 (a0.length : Int)) S (q_lenSl rfl (h0).isSl rfl Tryz.underlying59) fun a S => ?_
  refine lq (.int .u64 (IntKind.u64.wrap (a0.length : Int))) S (q_convInt rfl Tryz.underlying3 Tryz.underlying109) fun a S => ?_
  refine lq (.int .i64 a1) S (q_move rfl) fun a S => ?_
  refine lq (.int .u64 (IntKind.u64.wrap a1)) S (q_convInt rfl Tryz.underlying3 Tryz.underlying109) fun a S => ?_
  obtain ⟨x35, e36, hm⟩ := bind_some hm
  refine lx_call (xs := [.tmp 15, .tmp 17]) S trivial (by decide) rfl rfl Tryz.call75 ((math_bits_Mul_ok   e36).mono ?_)
  rintro e w33 ⟨rfl, Hc34⟩
  have H := H.call0 Hc34
  refine ⟨_, rfl, trivial, fun a S => ?_⟩
  refine lq (.tuple #[(.int .u64 x35.1), (.int .u64 x35.2)]) S (q_move rfl) fun a S => ?_
  refine lq (.int .u64 x35.1) S (q_extract rfl rfl) fun a S => ?_
  refine lq (.int .u64 x35.2) S (q_extract rfl rfl) fun a S => ?_
  refine lq (.int .u64 x35.1) S (q_assign rfl) fun a S => ?_
  refine lq (.int .u64 x35.2) S (q_assign rfl) fun a S => ?_
  refine lx_nil (thenN ?_)
  obtain ⟨K38, hK39, hm⟩ := join_elim hm
  refine seq_cut (fun a w => Slots a 48 [(0, p0), (6, (.int .u64 x35.2))] ∧ Heap w0 [] w ∧ K38 = some r) ?_ ?_
  ·rintro a w ⟨S, H, hm⟩
   subst hK39
   refine wp_seq (region_plain ?_)
   refine lq (.int .u64 x35.2) S (q_move rfl) fun a S => ?_
   refine lq (.int .i64 (W x35.2)) S (q_convInt rfl Tryz.underlying109 Tryz.underlying3) fun a S => ?_
   obtain ⟨x40, e41, hm⟩ := bind_some hm
   obtain ⟨m42, hn, hn2, rfl⟩ := mks_some e41
   refine lx_make (r := rBool) (z0 := false) (n := m42) S trivial (by decide) rfl H (by rw [← hn]; rfl) (by rw [← hn]; rfl) Tryz.underlying59 (Tryz.ti4) rfl rfl (Nat.le_of_ble_eq_true rfl) (fun w => ⟨rfl, rfl⟩) hn2 (by decide) (fun v43 w44 H => ⟨trivial, fun a S => ?_⟩)
   refine lq v43 S (q_assign rfl) fun a S => ?_
   refine lx_nil (thenN ?_)
   refine wp_seq (region_plain ?_)
   refine lq v43 S (q_move rfl) fun a S => ?_
   refine lq p0 S (q_move rfl) fun a S => ?_
   have hR := (H.arg h0)
   have hS := sub_self (xs := (List.replicate m42 false))
   have hxv := subV_self' (s := (rBool).size) (H.isSl 0 rfl)
   refine lx_copy (r := rBool) (lo := (0 : Int)) (hi := ((List.replicate m42 false).length : Int)) S trivial (by decide) rfl H flat_bool (by rw [hxv]; rfl) rfl hS hR Tryz.underlying59 Tryz.sizeOf4 (fun w46 H => ⟨trivial, fun a S => ?_⟩)
   refine lq (.int .i64 (((min a0.length (List.replicate m42 false).length : Nat) : Nat) : Int)) S (q_assign rfl) fun a S => ?_
   refine lx_nil (thenN ?_)
   refine wp_seq ?_
   obtain ⟨res70, hit71, hk74⟩ := bind_some hm
   obtain ⟨f72, hf73, hit71⟩ := iter_name hit71
   refine block_loop (fun a w => ∃ (xs69 : List Bool), Slots a 48 [(7, v43)] ∧ Heap w0 [oA (rList rBool) v43 xs69] w ∧ res70 = .inl (xs69)) ?_ ?_
   ·rintro a w ⟨xs69, S, H, rfl⟩
    have hm := ctl_inl hk74
    refine thenN ?_
    refine wp_seq (region_plain ?_)
    refine lq v43 S (q_move rfl) fun a S => ?_
    refine lq v43 S (q_assign rfl) fun a S => ?_
    refine lx_nil (thenN ?_)
    refine wp_ret ?_
    obtain rfl := Option.some.inj hm
    exact leave1 S rfl rfl ⟨v43, rfl, H⟩
   ·skip
    refine loop_ghost (fun n a w => ∃ (xs57 : List Bool) (x58 : Int), Slots a 48 [(7, v43), (8, (.int .i64 x58))] ∧ Heap w0 [oA (rList rBool) v43 xs57] w ∧ iter f72 n (xs57, x58) = some res70) _ ⟨(cpy (List.replicate m42 false) ((0 : Int)).toNat (List.replicate m42 false).length a0), (((min a0.length (List.replicate m42 false).length : Nat) : Nat) : Int), S.sub ⟨rfl, rfl, trivial⟩, H, hit71⟩ ?_
    rintro n a w ⟨xs57, x58, S, H, hit71⟩
    obtain ⟨m75, o76, rfl, hm, hc77⟩ := iter_step hit71
    rw [hf73] at hm
    refine wp_seq (wp_seq (region_plain ?_))
    refine lq (.int .i64 x58) S (q_move rfl) fun a S => ?_
    refine lq v43 S (q_move rfl) fun a S => ?_
    refine lq (.int .i64 (xs57.length : Int)) S (q_lenSl rfl (H.isSl 0 rfl) rfl Tryz.underlying59) fun a S => ?_
    refine lq (.bool (decide (x58 < (xs57.length : Int)))) S (q_lss rfl rfl) fun a S => ?_
    refine lx_nil (thenN ?_)
    refine cond_b S rfl (fun hc78 => ?_) (fun hc78 => ?_)
    ·have hm := ite_t hc78 hm
     refine wp_skip (thenN ?_)
     refine wp_block ?_
     refine region_drawG (fun w1 => Heap w0 [] w1) (fun i => [7].contains i) mixed (by kernel_rfl) (fun w80 he79 => ?_)
     have H := H.later he79
     refine ⟨H.sel [] (by decide), ?_⟩
     refine lq (.int .i64 x58) S (q_move rfl) fun a S => ?_
     refine lq v43 S (q_move rfl) fun a S => ?_
     refine lq (.int .i64 x58) S (q_move rfl) fun a S => ?_
     obtain ⟨xs81, e82, hm⟩ := bind_some hm
     have hsb := (sub_some e82).1
     refine lq (subV v43 (x58).toNat ((xs57.length : Int)).toNat 1) S (q_slice (lo := (some (.tmp 40))) (hi := none) (l := x58) (h := (xs57.length : Int)) (size := 1) rfl (H.isSl 0 rfl) Tryz.underlying59 Tryz.sizeOf4 rfl rfl hsb.1 hsb.2.1 hsb.2.2) fun a S => ?_
     refine lq v43 S (q_move rfl) fun a S => ?_
     refine lq (.int .i64 x58) S (q_move rfl) fun a S => ?_
     obtain ⟨xs83, e84, hm⟩ := bind_some hm
     have hsb := (sub_some e84).1
     refine lq (subV v43 ((0 : Int)).toNat (x58).toNat 1) S (q_slice (lo := none) (hi := (some (.tmp 43))) (l := (0 : Int)) (h := x58) (size := 1) rfl (H.isSl 0 rfl) Tryz.underlying59 Tryz.sizeOf4 rfl rfl hsb.1 hsb.2.1 hsb.2.2) fun a S => ?_
     have hR := ((H.rdAt 0 rfl).sub e84)
     have hS := e82
     refine lx_copy (r := rBool) (lo := x58) (hi := (xs57.length : Int)) S trivial (by decide) rfl H flat_bool rfl rfl hS hR Tryz.underlying59 Tryz.sizeOf4 (fun w85 H => ⟨H.sel [] (by decide), fun a S => ?_⟩)
     refine lq (.int .i64 (W (x58 + (((min xs83.length xs81.length : Nat) : Nat) : Int)))) S (q_add rfl rfl) fun a S => ?_
     refine lq (.int .i64 (W (x58 + (((min xs83.length xs81.length : Nat) : Nat) : Int)))) S (q_assign rfl) fun a S => ?_
     refine lx_nil ?_
     refine inBlock_norm ?_
     exact ⟨m75, Nat.lt_succ_self _, (cpy xs57 (x58).toNat xs81.length xs83), (W (x58 + (((min xs83.length xs81.length : Nat) : Nat) : Int))), S.sub ⟨rfl, rfl, trivial⟩, H, it_cont hm hc77⟩
    ·have hm := ite_f hc78 hm
     refine wp_exit ?_
     refine then_exit ?_
     refine then_exit ?_
     refine inBlock_exit ?_
     obtain rfl := it_brk hm hc77
     exact ⟨xs57, S.sub ⟨rfl, trivial⟩, H, rfl⟩
  ·skip
   refine wp_seq (region_plain ?_)
   refine lq (.int .u64 x35.1) S (q_move rfl) fun a S => ?_
   refine lq (.bool (decide ((0 : Int) < x35.1))) S (q_gtr rfl rfl) fun a S => ?_
   refine lq (.bool (decide ((0 : Int) < x35.1))) S (q_move rfl) fun a S => ?_
   obtain ⟨t86, e87, hm⟩ := bind_some hm
   refine lx_cut 3 (fun a w => Slots a 48 [(0, p0), (6, (.int .u64 x35.2)), (26, (.bool t86))] ∧ Heap w0 [] w) ?_ ?_
   ·by_cases hc88 : (decide ((0 : Int) < x35.1)) = true
    ·have hm := ite_t hc88 e87
     refine lx_skip S rfl rfl (isB_ne hc88) (by decide) (fun a S => ?_)
     refine lx_skip S rfl rfl (isB_ne hc88) (by decide) (fun a S => ?_)
     refine lq (.bool true) S (q_pickT' rfl hc88 rfl) fun a S => ?_
     refine lx_nil ?_
     obtain rfl := Option.some.inj hm
     exact ⟨S.sub ⟨rfl, rfl, rfl, trivial⟩, H⟩
    ·have hm := ite_f (eq_false_of_ne_true hc88) e87
     have hc88 : (decide ((0 : Int) < x35.1)) = false := eq_false_of_ne_true hc88
     refine lx_q (.int .u64 x35.2) S (want_b rfl rfl hc88) (by decide) (q_move rfl) (fun a S => ?_)
     refine lx_q (.bool (decide ((9223372036854775807 : Int) < x35.2))) S (want_b rfl rfl hc88) (by decide) (q_gtr rfl rfl) (fun a S => ?_)
     refine lq (.bool (decide ((9223372036854775807 : Int) < x35.2))) S (q_pickF' rfl hc88 rfl) fun a S => ?_
     refine lx_nil ?_
     obtain rfl := Option.some.inj hm
     exact ⟨S.sub ⟨rfl, rfl, rfl, trivial⟩, H⟩
   ·rintro a w ⟨S, H⟩
    refine lx_nil (thenN ?_)
    refine cond_b S rfl (fun hc89 => ?_) (fun hc89 => ?_)
    ·have hm := ite_t hc89 hm
     refine region_plain ?_
     cases hm
    ·have hm := ite_f hc89 hm
     refine wp_skip ?_
     exact ⟨S.sub ⟨rfl, rfl, trivial⟩, H, hm⟩
 ·skip
  refine wp_seq (region_plain ?_)
  refine lq (.int .i64 a1) S (q_move rfl) fun a S => ?_
  refine lq (.bool (decide (a1 < (0 : Int)))) S (q_lss rfl rfl) fun a S => ?_
  refine lx_nil (thenN ?_)
  refine cond_b S rfl (fun hc90 => ?_) (fun hc90 => ?_)
  ·have hm := ite_t hc90 hm
   refine region_plain ?_
   cases hm
  ·have hm := ite_f hc90 hm
   refine wp_skip ?_
   exact ⟨S.sub ⟨rfl, rfl, trivial⟩, H, hm⟩

/-- impl.LabelName -/
def impl_LabelName_m (fuel : Nat) (a0 : Str) : Option (Str) :=
  (impl_readLabel_m fuel a0).bind fun x33 => some (x33.1)
set_option maxRecDepth 20000 in
theorem impl_LabelName_ok {w0 : World} {fuel : Nat} {a0 : Str} {r : Str} (hG : GlobE Tryz.prog w0) (hm : impl_LabelName_m fuel a0 = some r) :
  Calls Tryz.prog 86 #[sv a0] w0 fun e w => e = .returned (sv r) ∧ Heap w0 [] w := by
 unfold impl_LabelName_m at hm
 have H := Heap.start w0
 refine enter (args := [sv a0]) Tryz.func86 rfl 13 rfl (Nat.le_of_ble_eq_true rfl) (fun a S => ?_)
 refine wp_seq (region_plain ?_)
 refine lq (sv ([] : Str)) S (q_assign rfl) fun a S => ?_
 refine lx_nil (thenN ?_)
 refine wp_seq (region_plain ?_)
 refine lq (sv a0) S (q_move rfl) fun a S => ?_
 obtain ⟨x33, e34, hm⟩ := bind_some hm
 refine lx_call (xs := [.tmp 7]) S trivial (by decide) rfl rfl Tryz.call78 ((impl_readLabel_ok (hG.ext H.ext)  e34).mono ?_)
 rintro e w31 ⟨v35, rfl, Hc32⟩
 have H := H.call1 Hc32
 refine ⟨_, rfl, trivial, fun a S => ?_⟩
 refine lq (.tuple #[(sv x33.1), v35, (.bool x33.2.2)]) S (q_move rfl) fun a S => ?_
 refine lq (sv x33.1) S (q_extract rfl rfl) fun a S => ?_
 refine lq v35 S (q_extract rfl rfl) fun a S => ?_
 refine lq (.bool x33.2.2) S (q_extract rfl rfl) fun a S => ?_
 refine lq (sv x33.1) S (q_assign rfl) fun a S => ?_
 refine lq v35 S (q_assign rfl) fun a S => ?_
 refine lq (.bool x33.2.2) S (q_assign rfl) fun a S => ?_
 refine lx_nil (thenN ?_)
 refine wp_seq (region_plain ?_)
 refine lq (sv x33.1) S (q_move rfl) fun a S => ?_
 refine lq (sv x33.1) S (q_assign rfl) fun a S => ?_
 refine lx_nil (thenN ?_)
 refine wp_ret ?_
 obtain rfl := Option.some.inj hm
 have H : Heap w0 [] w31 := H.sel [] (by decide)
 exact leave1 S rfl rfl ⟨rfl, H⟩

/-- (impl.Node).selects -/
def impl_Node_selects_m (fuel : Nat) (a0 : Timpl_Node) (a1 : Str) : Option (Bool) :=
  (strings_CutSuffix_m fuel a0.2.2.1 ([42] : Str)).bind fun x50 => (if (a0.2.2.1 == ([] : Str)) = true then some true else some (a0.2.2.1 == a1)).bind fun t53 => (if t53 = true then some true else (if x50.2 = true then (impl_LabelName_m fuel a1).bind fun x64 => some (x64 == x50.1) else some false).bind fun t59 => some t59).bind fun t56 => some ((t56 != a0.2.2.2))
set_option maxRecDepth 20000 in
theorem impl_Node_selects_ok {w0 : World} {fuel : Nat} {p0 : Value} {a0 : Timpl_Node} {a1 : Str} {r : Bool} (hG : GlobE Tryz.prog w0) (h0 : Rd Rimpl_Node w0 p0 a0) (hm : impl_Node_selects_m fuel a0 a1 = some r) :
  Calls Tryz.prog 74 #[p0, sv a1] w0 fun e w => e = .returned (.bool r) ∧ Heap w0 [] w := by
 unfold impl_Node_selects_m at hm
 have H := Heap.start w0
 obtain ⟨c31, rfl, h32⟩ := h0
 obtain ⟨c33, c34, rfl, h35, h36⟩ := h32
 obtain rfl := h35
 obtain ⟨c37, c38, rfl, h39, h40⟩ := h36
 obtain rfl := h39
 obtain ⟨c41, c42, rfl, h43, h44⟩ := h40
 obtain rfl := h43
 obtain rfl := h44
 refine enter (args := [(.agg #[(.int .i64 a0.1), (.int .i64 a0.2.1), (sv a0.2.2.1), (.bool a0.2.2.2)]), sv a1]) Tryz.func74 rfl 36 rfl (Nat.le_of_ble_eq_true rfl) (fun a S => ?_)
 refine wp_seq (region_plain ?_)
 refine lx_box S trivial (by decide) rfl H rfl rfl (fun b45 w46 H => ⟨trivial, fun a S => ?_⟩)
 refine lq (.bool false) S (q_assign rfl) fun a S => ?_
 refine lx_nil (thenN ?_)
 refine wp_seq (region_plain ?_)
 refine lq (pAdd (bp b45) 2) S (q_fieldAddr' 2 9 rfl (isP_bp _) Tryz.underlying61 rfl Tryz.sizeOf9) fun a S => ?_
 refine lx_e (sv a0.2.2.1) S trivial (by decide) rfl trivial (q_load1 rfl Tryz.isAgg9 (by rintro _ rfl; exact (At.of_add (m := 2) (j := 0) (boxAt (i := 0) H rfl (j := 2) rfl)))) (fun a S => ?_)
 obtain ⟨x50, e51, hm⟩ := bind_some hm
 refine lx_call (xs := [.tmp 10, .const (sv [42])]) S trivial (by decide) rfl rfl Tryz.call85 ((strings_CutSuffix_ok   e51).mono ?_)
 rintro e w48 ⟨rfl, Hc49⟩
 have H := H.call0 Hc49
 refine ⟨_, rfl, trivial, fun a S => ?_⟩
 refine lq (.tuple #[(sv x50.1), (.bool x50.2)]) S (q_move rfl) fun a S => ?_
 refine lq (sv x50.1) S (q_extract rfl rfl) fun a S => ?_
 refine lq (.bool x50.2) S (q_extract rfl rfl) fun a S => ?_
 refine lq (sv x50.1) S (q_assign rfl) fun a S => ?_
 refine lq (.bool x50.2) S (q_assign rfl) fun a S => ?_
 refine lx_nil (thenN ?_)
 refine wp_seq (region_plain ?_)
 refine lq (pAdd (bp b45) 2) S (q_fieldAddr' 2 9 rfl (isP_bp _) Tryz.underlying61 rfl Tryz.sizeOf9) fun a S => ?_
 refine lx_e (sv a0.2.2.1) S trivial (by decide) rfl trivial (q_load1 rfl Tryz.isAgg9 (by rintro _ rfl; exact (At.of_add (m := 2) (j := 0) (boxAt (i := 0) H rfl (j := 2) rfl)))) (fun a S => ?_)
 refine lq (.bool (a0.2.2.1 == ([] : Str))) S (q_seql rfl rfl) fun a S => ?_
 refine lq (.bool (a0.2.2.1 == ([] : Str))) S (q_move rfl) fun a S => ?_
 obtain ⟨t53, e54, hm⟩ := bind_some hm
 refine lx_cut 5 (fun a w => Slots a 36 [(1, (sv a1)), (2, (bp b45)), (5, (sv x50.1)), (6, (.bool x50.2)), (22, (.bool t53))] ∧ Heap w0 [bA b45 [(.int .i64 a0.1), (.int .i64 a0.2.1), (sv a0.2.2.1), (.bool a0.2.2.2)] 61] w) ?_ ?_
 ·by_cases hc55 : (a0.2.2.1 == ([] : Str)) = true
  ·have hm := ite_t hc55 e54
   refine lx_skip S rfl rfl (isB_ne hc55) (by decide) (fun a S => ?_)
   refine lx_skip S rfl rfl (isB_ne hc55) (by decide) (fun a S => ?_)
   refine lx_skip S rfl rfl (isB_ne hc55) (by decide) (fun a S => ?_)
   refine lx_skip S rfl rfl (isB_ne hc55) (by decide) (fun a S => ?_)
   refine lq (.bool true) S (q_pickT' rfl hc55 rfl) fun a S => ?_
   refine lx_nil ?_
   obtain rfl := Option.some.inj hm
   exact ⟨S.sub ⟨rfl, rfl, rfl, rfl, rfl, trivial⟩, H⟩
  ·have hm := ite_f (eq_false_of_ne_true hc55) e54
   have hc55 : (a0.2.2.1 == ([] : Str)) = false := eq_false_of_ne_true hc55
   refine lx_q (pAdd (bp b45) 2) S (want_b rfl rfl hc55) (by decide) (q_fieldAddr' 2 9 rfl (isP_bp _) Tryz.underlying61 rfl Tryz.sizeOf9) (fun a S => ?_)
   refine lx_e (sv a0.2.2.1) S (want_b rfl rfl hc55) (by decide) rfl trivial (q_load1 rfl Tryz.isAgg9 (by rintro _ rfl; exact (At.of_add (m := 2) (j := 0) (boxAt (i := 0) H rfl (j := 2) rfl)))) (fun a S => ?_)
   refine lx_q (sv a1) S (want_b rfl rfl hc55) (by decide) (q_move rfl) (fun a S => ?_)
   refine lx_q (.bool (a0.2.2.1 == a1)) S (want_b rfl rfl hc55) (by decide) (q_seql rfl rfl) (fun a S => ?_)
   refine lq (.bool (a0.2.2.1 == a1)) S (q_pickF' rfl hc55 rfl) fun a S => ?_
   refine lx_nil ?_
   obtain rfl := Option.some.inj hm
   exact ⟨S.sub ⟨rfl, rfl, rfl, rfl, rfl, trivial⟩, H⟩
 ·rintro a w ⟨S, H⟩
  refine lq (.bool t53) S (q_move rfl) fun a S => ?_
  obtain ⟨t56, e57, hm⟩ := bind_some hm
  refine lx_cut 8 (fun a w => Slots a 36 [(2, (bp b45)), (31, (.bool t56))] ∧ Heap w0 [bA b45 [(.int .i64 a0.1), (.int .i64 a0.2.1), (sv a0.2.2.1), (.bool a0.2.2.2)] 61] w) ?_ ?_
  ·by_cases hc58 : t53 = true
   ·have hm := ite_t hc58 e57
    refine lx_skip S rfl rfl (isB_ne hc58) (by decide) (fun a S => ?_)
    refine lx_skip S rfl rfl (isB_ne hc58) (by decide) (fun a S => ?_)
    refine lx_skip S rfl rfl rfl (by decide) (fun a S => ?_)
    refine lx_skip S rfl rfl rfl (by decide) (fun a S => ?_)
    refine lx_skip S rfl rfl rfl (by decide) (fun a S => ?_)
    refine lx_skip S rfl rfl rfl (by decide) (fun a S => ?_)
    refine lx_skip S rfl rfl (isB_ne hc58) (by decide) (fun a S => ?_)
    refine lq (.bool true) S (q_pickT' rfl hc58 rfl) fun a S => ?_
    refine lx_nil ?_
    obtain rfl := Option.some.inj hm
    exact ⟨S.sub ⟨rfl, rfl, trivial⟩, H⟩
   ·have hm := ite_f (eq_false_of_ne_true hc58) e57
    have hc58 : t53 = false := eq_false_of_ne_true hc58
    refine lx_q (.bool x50.2) S (want_b rfl rfl hc58) (by decide) (q_move rfl) (fun a S => ?_)
    refine lx_q (.bool x50.2) S (want_b rfl rfl hc58) (by decide) (q_move rfl) (fun a S => ?_)
    obtain ⟨t59, e60, hm⟩ := bind_some hm
    refine lx_cut 5 (fun a w => Slots a 36 [(2, (bp b45)), (23, (.bool t53)), (30, (.bool t59))] ∧ Heap w0 [bA b45 [(.int .i64 a0.1), (.int .i64 a0.2.1), (sv a0.2.2.1), (.bool a0.2.2.2)] 61] w) ?_ ?_
    ·by_cases hc61 : x50.2 = true
     ·have hm := ite_t hc61 e60
      refine lx_q (sv a1) S (want_b rfl rfl hc61) (by decide) (q_move rfl) (fun a S => ?_)
      obtain ⟨x64, e65, hm⟩ := bind_some hm
      refine lx_call (xs := [.tmp 26]) S (want_b rfl rfl hc61) (by decide) rfl rfl Tryz.call86 ((impl_LabelName_ok (hG.ext H.ext)  e65).mono ?_)
      rintro e w62 ⟨rfl, Hc63⟩
      have H := H.call0 Hc63
      refine ⟨_, rfl, trivial, fun a S => ?_⟩
      refine lx_q (sv x50.1) S (want_b rfl rfl hc61) (by decide) (q_move rfl) (fun a S => ?_)
      refine lx_q (.bool (x64 == x50.1)) S (want_b rfl rfl hc61) (by decide) (q_seql rfl rfl) (fun a S => ?_)
      refine lx_q (.bool (x64 == x50.1)) S (want_b rfl rfl hc58) (by decide) (q_pickT' rfl hc61 rfl) (fun a S => ?_)
      refine lx_nil ?_
      obtain rfl := Option.some.inj hm
      exact ⟨S.sub ⟨rfl, rfl, rfl, trivial⟩, H⟩
     ·have hm := ite_f (eq_false_of_ne_true hc61) e60
      have hc61 : x50.2 = false := eq_false_of_ne_true hc61
      refine lx_skip S rfl rfl (isB_ne hc61) (by decide) (fun a S => ?_)
      refine lx_skip S rfl rfl (isB_ne hc61) (by decide) (fun a S => ?_)
      refine lx_skip S rfl rfl (isB_ne hc61) (by decide) (fun a S => ?_)
      refine lx_skip S rfl rfl (isB_ne hc61) (by decide) (fun a S => ?_)
      refine lx_q (.bool false) S (want_b rfl rfl hc58) (by decide) (q_pickF' rfl hc61 rfl) (fun a S => ?_)
      refine lx_nil ?_
      obtain rfl := Option.some.inj hm
      exact ⟨S.sub ⟨rfl, rfl, rfl, trivial⟩, H⟩
    ·rintro a w ⟨S, H⟩
     refine lq (.bool t59) S (q_pickF' rfl hc58 rfl) fun a S => ?_
     refine lx_nil ?_
     obtain rfl := Option.some.inj hm
     exact ⟨S.sub ⟨rfl, rfl, trivial⟩, H⟩
  ·rintro a w ⟨S, H⟩
   refine lq (.bool t56) S (q_assign rfl) fun a S => ?_
   refine lx_nil (thenN ?_)
   refine wp_seq (region_plain ?_)
   refine lq (.bool t56) S (q_move rfl) fun a S => ?_
   refine lq (pAdd (bp b45) 3) S (q_fieldAddr' 3 4 rfl (isP_bp _) Tryz.underlying61 rfl Tryz.sizeOf4) fun a S => ?_
   refine lx_e (.bool a0.2.2.2) S trivial (by decide) rfl trivial (q_load1 rfl Tryz.isAgg4 (by rintro _ rfl; exact (At.of_add (m := 3) (j := 0) (boxAt (i := 0) H rfl (j := 3) rfl)))) (fun a S => ?_)
   refine lq (.bool (t56 != a0.2.2.2)) S (q_bneq rfl rfl Tryz.underlying4) fun a S => ?_
   refine lq (.bool (t56 != a0.2.2.2)) S (q_assign rfl) fun a S => ?_
   refine lx_nil (thenN ?_)
   refine wp_ret ?_
   obtain rfl := Option.some.inj hm
   have H : Heap w0 [] w := H.sel [] (by decide)
   exact leave1 S rfl rfl ⟨rfl, H⟩

/-- (impl.Lts).modality -/
def impl_Lts_modality_m (fuel : Nat) (a0 : Timpl_Lts) (a1 : Timpl_Node) (a2 : (List Bool)) : Option ((List Bool)) :=
  (slices_Repeat__bool_bool_m fuel [(a1.1 == (5 : Int))] a0.1).bind fun x74 => (iter (fun (s : (List Bool) × (Int)) => (match s with | (xs126, x127) => (if (decide (x127 < (a0.2.2.2.length : Int))) = true then join (κ := List Bool → Option (((List Bool) × (Int)) ⊕ (((List Bool)) ⊕ ((List Bool))))) (fun (xs185 : List Bool) => some (.inl (xs185, (W (x127 + (1 : Int)))))) (fun K186 => (idx a0.2.2.2 x127).bind fun x188 => (idx a0.2.2.1 x188.2.1).bind fun x207 => (impl_Node_selects_m fuel (a1.1, a1.2.1, a1.2.2.1, a1.2.2.2) x207).bind fun x214 => (if x214 = true then (idx a2 x188.2.2).bind fun x220 => some (x220 == (a1.1 == (4 : Int))) else some false).bind fun t217 => (if t217 = true then (idx xs126 x188.1).bind fun _ => (K186 (xs126.set x188.1.toNat (a1.1 == (4 : Int)))) else (K186 xs126))) else some (.inr (.inl (xs126)))) : Option (((List Bool) × (Int)) ⊕ (((List Bool)) ⊕ ((List Bool)))))) fuel (x74, (0 : Int))).bind fun res176 => ctl (β := (List Bool)) (ρ := (List Bool)) (τ := (List Bool)) res176 (fun (xs175) => some (xs175)) (fun q => some (q))
set_option maxRecDepth 20000 in
theorem impl_Lts_modality_ok {w0 : World} {fuel : Nat} {p0 p1 p2 : Value} {a0 : Timpl_Lts} {a1 : Timpl_Node} {a2 : (List Bool)} {r : (List Bool)} (hG : GlobE Tryz.prog w0) (h0 : Rd Rimpl_Lts w0 p0 a0) (h1 : Rd Rimpl_Node w0 p1 a1) (h2 : Rd (rList rBool) w0 p2 a2) (hm : impl_Lts_modality_m fuel a0 a1 a2 = some r) :
  Calls Tryz.prog 55 #[p0, p1, p2] w0 fun e w => ∃ (v0 : Value), e = .returned (v0) ∧ Heap w0 [oA (rList rBool) v0 r] w := by
 unfold impl_Lts_modality_m at hm
 have H := Heap.start w0
 obtain ⟨c31, rfl, h32⟩ := h0
 obtain ⟨c37, c38, rfl, h39, h40⟩ := h32
 obtain rfl := h39
 obtain ⟨c41, c42, rfl, h43, h44⟩ := h40
 obtain rfl := h43
 obtain ⟨c45, c46, rfl, h47, h48⟩ := h44
 obtain ⟨v33, rfl, h34⟩ := rd_list h47
 obtain ⟨v35, rfl, h36⟩ := rd_list h48
 obtain ⟨c49, rfl, h50⟩ := h1
 obtain ⟨c51, c52, rfl, h53, h54⟩ := h50
 obtain rfl := h53
 obtain ⟨c55, c56, rfl, h57, h58⟩ := h54
 obtain rfl := h57
 obtain ⟨c59, c60, rfl, h61, h62⟩ := h58
 obtain rfl := h61
 obtain rfl := h62
 refine enter (args := [(.agg #[(.int .i64 a0.1), (.int .i64 a0.2.1), v33, v35]), (.agg #[(.int .i64 a1.1), (.int .i64 a1.2.1), (sv a1.2.2.1), (.bool a1.2.2.2)]), p2]) Tryz.func55 rfl 52 rfl (Nat.le_of_ble_eq_true rfl) (fun a S => ?_)
 refine wp_seq (region_plain ?_)
 refine lx_box S trivial (by decide) rfl H rfl rfl (fun b63 w64 H => ⟨trivial, fun a S => ?_⟩)
 refine lx_box S trivial (by decide) rfl H rfl rfl (fun b66 w67 H => ⟨trivial, fun a S => ?_⟩)
 refine lq (.slice none 0 0) S (q_assign rfl) fun a S => ?_
 refine lx_nil (thenN ?_)
 refine wp_seq (region_plain ?_)
 refine lq (pAdd (bp b66) 0) S (q_fieldAddr' 0 2 rfl (isP_bp _) Tryz.underlying61 rfl Tryz.sizeOf2) fun a S => ?_
 refine lx_e (.int .i64 a1.1) S trivial (by decide) rfl trivial (q_load1 rfl Tryz.isAgg2 (by rintro _ rfl; exact (At.of_add (m := 0) (j := 0) (boxAt (i := 0) H rfl (j := 0) rfl)))) (fun a S => ?_)
 refine lq (.bool (a1.1 == (5 : Int))) S (q_eql rfl rfl) fun a S => ?_
 refine lx_buildSlice (r := rBool) (xs := [(a1.1 == (5 : Int))]) (ps := [(0, [(.bool (a1.1 == (5 : Int)))])]) (cs := [(.bool (a1.1 == (5 : Int)))]) (parts := [(0, .tmp 12)]) S trivial (by decide) rfl (H.put0 (A := eA) rfl) rfl Tryz.underlying59 Tryz.sizeOf4 Tryz.zeroValue4 (by decide) ⟨rfl, rfl, Nat.le_of_ble_eq_true rfl, trivial⟩ (by intro zs hz; exact fill_dense hz ⟨rfl, trivial⟩ rfl rfl) rfl (by decide) (fun w F hA => by cases (show F = [] from hA); exact ⟨_, _, [(.bool (a1.1 == (5 : Int)))], _, rfl, rfl, ⟨rfl, rfl⟩, ⟨rfl, rfl⟩⟩) (fun v69 w70 H => ⟨trivial, fun a S => ?_⟩)
 refine lq (pAdd (bp b63) 0) S (q_fieldAddr' 0 2 rfl (isP_bp _) Tryz.underlying35 rfl Tryz.sizeOf2) fun a S => ?_
 refine lx_e (.int .i64 a0.1) S trivial (by decide) rfl trivial (q_load1 rfl Tryz.isAgg2 (by rintro _ rfl; exact (At.of_add (m := 0) (j := 0) (boxAt (i := 2) H rfl (j := 0) rfl)))) (fun a S => ?_)
 obtain ⟨x74, e75, hm⟩ := bind_some hm
 refine lx_call (xs := [.tmp 13, .tmp 15]) S trivial (by decide) rfl rfl Tryz.call56 ((slices_Repeat__bool_bool_ok (H.rdAt 0 rfl)  e75).mono ?_)
 rintro e w72 ⟨v76, rfl, Hc73⟩
 have H := H.call1 Hc73
 refine ⟨_, rfl, trivial, fun a S => ?_⟩
 refine lq v76 S (q_assign rfl) fun a S => ?_
 refine lx_nil (thenN ?_)
 refine wp_seq (wp_seq (region_plain ?_))
 refine lq (pAdd (bp b63) 3) S (q_fieldAddr' 3 33 rfl (isP_bp _) Tryz.underlying35 rfl Tryz.sizeOf33) fun a S => ?_
 refine lx_e v35 S trivial (by decide) rfl trivial (q_load1 rfl Tryz.isAgg33 (by rintro _ rfl; exact (At.of_add (m := 3) (j := 0) (boxAt (i := 3) H rfl (j := 3) rfl)))) (fun a S => ?_)
 refine lq (.int .i64 (a0.2.2.2.length : Int)) S (q_lenSl rfl (h36).isSl rfl Tryz.underlying33) fun a S => ?_
 refine lq (.int .i64 (0 : Int)) S (q_move rfl) fun a S => ?_
 refine lx_nil (thenN ?_)
 obtain ⟨res176, hit177, hk180⟩ := bind_some hm
 obtain ⟨f178, hf179, hit177⟩ := iter_name hit177
 refine block_loop (fun a w => ∃ (xs175 : List Bool), Slots a 52 [(7, v76)] ∧ Heap w0 [oA (rList rBool) v76 xs175] w ∧ res176 = .inl (xs175)) ?_ ?_
 ·rintro a w ⟨xs175, S, H, rfl⟩
  have hm := ctl_inl hk180
  refine thenN ?_
  refine wp_seq (region_plain ?_)
  refine lq v76 S (q_move rfl) fun a S => ?_
  refine lq v76 S (q_assign rfl) fun a S => ?_
  refine lx_nil (thenN ?_)
  refine wp_ret ?_
  obtain rfl := Option.some.inj hm
  exact leave1 S rfl rfl ⟨v76, rfl, H⟩
 ·skip
  have H : Heap w0 [bA b66 [(.int .i64 a1.1), (.int .i64 a1.2.1), (sv a1.2.2.1), (.bool a1.2.2.2)] 61, oA (rList rBool) v76 x74, oA (rList rBool) v69 [(a1.1 == (5 : Int))], bA b63 [(.int .i64 a0.1), (.int .i64 a0.2.1), v33, v35] 35] w72 := H.front 2 rfl
  have H : Heap w0 [bA b63 [(.int .i64 a0.1), (.int .i64 a0.2.1), v33, v35] 35, bA b66 [(.int .i64 a1.1), (.int .i64 a1.2.1), (sv a1.2.2.1), (.bool a1.2.2.2)] 61, oA (rList rBool) v76 x74, oA (rList rBool) v69 [(a1.1 == (5 : Int))]] w72 := H.front 3 rfl
  have H : Heap w0 [bA b63 [(.int .i64 a0.1), (.int .i64 a0.2.1), v33, v35] 35, bA b66 [(.int .i64 a1.1), (.int .i64 a1.2.1), (sv a1.2.2.1), (.bool a1.2.2.2)] 61, oA (rList rBool) v76 x74] w72 := H.sel [0, 1, 2] (by decide)
  refine loop_ghost (fun n a w => ∃ (xs126 : List Bool) (x127 : Int), Slots a 52 [(2, p2), (3, (bp b63)), (4, (bp b66)), (7, v76), (18, v35), (19, (.int .i64 (a0.2.2.2.length : Int))), (20, (.int .i64 x127))] ∧ Heap w0 [bA b63 [(.int .i64 a0.1), (.int .i64 a0.2.1), v33, v35] 35, bA b66 [(.int .i64 a1.1), (.int .i64 a1.2.1), (sv a1.2.2.1), (.bool a1.2.2.2)] 61, oA (rList rBool) v76 xs126] w ∧ iter f178 n (xs126, x127) = some res176) _ ⟨x74, (0 : Int), S.sub ⟨rfl, rfl, rfl, rfl, rfl, rfl, rfl, trivial⟩, H, hit177⟩ ?_
  rintro n a w ⟨xs126, x127, S, H, hit177⟩
  obtain ⟨m181, o182, rfl, hm, hc183⟩ := iter_step hit177
  rw [hf179] at hm
  refine wp_seq (region_plain ?_)
  refine lq (.bool (decide (x127 < (a0.2.2.2.length : Int)))) S (q_lss rfl rfl) fun a S => ?_
  refine lx_nil (thenN ?_)
  refine wp_seq ?_
  refine cond_b S rfl (fun hc184 => ?_) (fun hc184 => ?_)
  ·have hm := ite_t hc184 hm
   refine wp_skip (thenN ?_)
   obtain ⟨K186, hK187, hm⟩ := join_elim hm
   refine seq_cut (fun a w => ∃ (xs185 : List Bool), Slots a 52 [(2, p2), (3, (bp b63)), (4, (bp b66)), (7, v76), (18, v35), (19, (.int .i64 (a0.2.2.2.length : Int))), (20, (.int .i64 x127))] ∧ Heap w0 [bA b63 [(.int .i64 a0.1), (.int .i64 a0.2.1), v33, v35] 35, bA b66 [(.int .i64 a1.1), (.int .i64 a1.2.1), (sv a1.2.2.1), (.bool a1.2.2.2)] 61, oA (rList rBool) v76 xs185] w ∧ K186 xs185 = some o182) ?_ ?_
   ·rintro a w ⟨xs185, S, H, hm⟩
    subst hK187
    refine region_plain ?_
    refine lq (.int .i64 (W (x127 + (1 : Int)))) S (q_add rfl rfl) fun a S => ?_
    refine lq (.int .i64 (W (x127 + (1 : Int)))) S (q_move rfl) fun a S => ?_
    refine lx_nil ?_
    exact ⟨m181, Nat.lt_succ_self _, xs185, (W (x127 + (1 : Int))), S.sub ⟨rfl, rfl, rfl, rfl, rfl, rfl, rfl, trivial⟩, H, it_cont hm hc183⟩
   ·skip
    refine wp_block ?_
    refine wp_seq (region_plain ?_)
    obtain ⟨x188, e189, hm⟩ := bind_some hm
    obtain ⟨c190, h191, hat192⟩ := (h36).elem (idx_some e189).2
    obtain ⟨c193, c194, rfl, h195, h196⟩ := h191
    obtain rfl := h195
    obtain ⟨c197, c198, rfl, h199, h200⟩ := h196
    obtain rfl := h199
    obtain rfl := h200
    have hlt := lt_of_idx (idx_some e189).2
    refine lq (ePtr v35 (x127.toNat * 3)) S (q_indexAddr rfl (h36).isSl rfl (idx_some e189).1 hlt Tryz.underlying33 Tryz.sizeOf80) fun a S => ?_
    refine lx_e (.agg #[(.int .i64 x188.1), (.int .i64 x188.2.1), (.int .i64 x188.2.2)]) S trivial (by decide) rfl trivial (q_loadA (cs := [(.int .i64 x188.1), (.int .i64 x188.2.1), (.int .i64 x188.2.2)]) rfl ((hat192 0 _ rfl).isP) Tryz.isAgg80 Tryz.sizeOf80 (by rintro _ rfl; exact (fun j u hu => (hat192 j u hu).ext H.ext))) (fun a S => ?_)
    refine lx_alloc S trivial (by decide) rfl H Tryz.zeroValue80 rfl (fun b201 w202 H => ⟨trivial, fun a S => ?_⟩)
    refine lx_storeBox (o := 0) (i := 0) (us := [(.int .i64 x188.1), (.int .i64 x188.2.1), (.int .i64 x188.2.2)]) (cs' := [(.int .i64 x188.1), (.int .i64 x188.2.1), (.int .i64 x188.2.2)]) S trivial rfl H rfl rfl rfl rfl Tryz.sizeOf80 (Nat.le_of_ble_eq_true rfl) (List.forall_mem_cons.2 ⟨rfl, (List.forall_mem_cons.2 ⟨rfl, (List.forall_mem_cons.2 ⟨rfl, (List.forall_mem_nil _)⟩)⟩)⟩) rfl (fun w204 H => ⟨trivial, fun a S => ?_⟩)
    change Heap w0 [bA b201 [(.int .i64 x188.1), (.int .i64 x188.2.1), (.int .i64 x188.2.2)] 80, bA b63 [(.int .i64 a0.1), (.int .i64 a0.2.1), v33, v35] 35, bA b66 [(.int .i64 a1.1), (.int .i64 a1.2.1), (sv a1.2.2.1), (.bool a1.2.2.2)] 61, oA (rList rBool) v76 xs126] w204 at H
    refine lx_nil (thenN ?_)
    refine wp_seq ?_
    refine region_drawG (fun w1 => Heap w0 [bA b201 [(.int .i64 x188.1), (.int .i64 x188.2.1), (.int .i64 x188.2.2)] 80, bA b63 [(.int .i64 a0.1), (.int .i64 a0.2.1), v33, v35] 35, bA b66 [(.int .i64 a1.1), (.int .i64 a1.2.1), (sv a1.2.2.1), (.bool a1.2.2.2)] 61] w1) (fun i => [7].contains i) mixed (by kernel_rfl) (fun w206 he205 => ?_)
    have H := H.later he205
    refine ⟨H.sel [0, 1, 2] (by decide), ?_⟩
    refine lq (.agg #[(.int .i64 a1.1), (.int .i64 a1.2.1), (sv a1.2.2.1), (.bool a1.2.2.2)]) S (q_loadA (cs := [(.int .i64 a1.1), (.int .i64 a1.2.1), (sv a1.2.2.1), (.bool a1.2.2.2)]) rfl (isP_bp _) Tryz.isAgg61 Tryz.sizeOf61 (fun w1 hC => (fun j u hu => boxAt (i := 2) hC rfl hu))) fun a S => ?_
    refine lq (pAdd (bp b63) 2) S (q_fieldAddr' 2 23 rfl (isP_bp _) Tryz.underlying35 rfl Tryz.sizeOf23) fun a S => ?_
    refine lq v33 S (q_load1 rfl Tryz.isAgg23 (fun w1 hC => (At.of_add (m := 2) (j := 0) (boxAt (i := 1) hC rfl (j := 2) rfl)))) fun a S => ?_
    refine lq (pAdd (bp b201) 1) S (q_fieldAddr' 1 2 rfl (isP_bp _) Tryz.underlying80 rfl Tryz.sizeOf2) fun a S => ?_
    refine lq (.int .i64 x188.2.1) S (q_load1 rfl Tryz.isAgg2 (fun w1 hC => (At.of_add (m := 1) (j := 0) (boxAt (i := 0) hC rfl (j := 1) rfl)))) fun a S => ?_
    obtain ⟨x207, e208, hm⟩ := bind_some hm
    obtain ⟨c209, h210, hat211⟩ := (h34).elem (idx_some e208).2
    obtain rfl := h210
    have hlt := lt_of_idx (idx_some e208).2
    refine lq (ePtr v33 (x188.2.1.toNat * 1)) S (q_indexAddr rfl (h34).isSl rfl (idx_some e208).1 hlt Tryz.underlying23 Tryz.sizeOf9) fun a S => ?_
    refine lq (sv x207) S (q_load1 rfl Tryz.isAgg9 (fun w1 hC => ((hat211 0 _ rfl).ext hC.ext))) fun a S => ?_
    obtain ⟨x214, e215, hm⟩ := bind_some hm
    refine lx_call (xs := [.tmp 24, .tmp 30]) S trivial (by decide) rfl rfl Tryz.call74 ((impl_Node_selects_ok (hG.ext H.ext) ⟨[(.int .i64 a1.1), (.int .i64 a1.2.1), (sv a1.2.2.1), (.bool a1.2.2.2)], rfl, ⟨[(.int .i64 a1.1)], [(.int .i64 a1.2.1), (sv a1.2.2.1), (.bool a1.2.2.2)], rfl, rfl, ⟨[(.int .i64 a1.2.1)], [(sv a1.2.2.1), (.bool a1.2.2.2)], rfl, rfl, ⟨[(sv a1.2.2.1)], [(.bool a1.2.2.2)], rfl, rfl, rfl⟩⟩⟩⟩  e215).mono ?_)
    rintro e w212 ⟨rfl, Hc213⟩
    have H := H.call0 Hc213
    refine ⟨_, rfl, H.sel [0, 1, 2] (by decide), fun a S => ?_⟩
    refine lq (.bool x214) S (q_move rfl) fun a S => ?_
    obtain ⟨t217, e218, hm⟩ := bind_some hm
    refine lx_cut 10 (fun a w => Slots a 52 [(2, p2), (3, (bp b63)), (4, (bp b66)), (7, v76), (9, (bp b201)), (18, v35), (19, (.int .i64 (a0.2.2.2.length : Int))), (20, (.int .i64 x127)), (42, (.bool t217))] ∧ Heap w0 [bA b201 [(.int .i64 x188.1), (.int .i64 x188.2.1), (.int .i64 x188.2.2)] 80, bA b63 [(.int .i64 a0.1), (.int .i64 a0.2.1), v33, v35] 35, bA b66 [(.int .i64 a1.1), (.int .i64 a1.2.1), (sv a1.2.2.1), (.bool a1.2.2.2)] 61, oA (rList rBool) v76 xs126] w) ?_ ?_
    ·by_cases hc219 : x214 = true
     ·have hm := ite_t hc219 e218
      refine lx_q p2 S (want_b rfl rfl hc219) (by decide) (q_move rfl) (fun a S => ?_)
      refine lx_q (pAdd (bp b201) 2) S (want_b rfl rfl hc219) (by decide) (q_fieldAddr' 2 2 rfl (isP_bp _) Tryz.underlying80 rfl Tryz.sizeOf2) (fun a S => ?_)
      refine lx_q (.int .i64 x188.2.2) S (want_b rfl rfl hc219) (by decide) (q_load1 rfl Tryz.isAgg2 (fun w1 hC => (At.of_add (m := 2) (j := 0) (boxAt (i := 0) hC rfl (j := 2) rfl)))) (fun a S => ?_)
      obtain ⟨x220, e221, hm⟩ := bind_some hm
      obtain ⟨c222, h223, hat224⟩ := (h2).elem (idx_some e221).2
      obtain rfl := h223
      have hlt := lt_of_idx (idx_some e221).2
      refine lx_q (ePtr p2 (x188.2.2.toNat * 1)) S (want_b rfl rfl hc219) (by decide) (q_indexAddr rfl (h2).isSl rfl (idx_some e221).1 hlt Tryz.underlying59 Tryz.sizeOf4) (fun a S => ?_)
      refine lx_q (.bool x220) S (want_b rfl rfl hc219) (by decide) (q_load1 rfl Tryz.isAgg4 (fun w1 hC => ((hat224 0 _ rfl).ext hC.ext))) (fun a S => ?_)
      refine lx_q (pAdd (bp b66) 0) S (want_b rfl rfl hc219) (by decide) (q_fieldAddr' 0 2 rfl (isP_bp _) Tryz.underlying61 rfl Tryz.sizeOf2) (fun a S => ?_)
      refine lx_q (.int .i64 a1.1) S (want_b rfl rfl hc219) (by decide) (q_load1 rfl Tryz.isAgg2 (fun w1 hC => (At.of_add (m := 0) (j := 0) (boxAt (i := 2) hC rfl (j := 0) rfl)))) (fun a S => ?_)
      refine lx_q (.bool (a1.1 == (4 : Int))) S (want_b rfl rfl hc219) (by decide) (q_eql rfl rfl) (fun a S => ?_)
      refine lx_q (.bool (x220 == (a1.1 == (4 : Int)))) S (want_b rfl rfl hc219) (by decide) (q_beql rfl rfl Tryz.underlying4) (fun a S => ?_)
      refine lq (.bool (x220 == (a1.1 == (4 : Int)))) S (q_pickT' rfl hc219 rfl) fun a S => ?_
      refine lx_nil ?_
      obtain rfl := Option.some.inj hm
      exact ⟨S.sub ⟨rfl, rfl, rfl, rfl, rfl, rfl, rfl, rfl, rfl, trivial⟩, H⟩
     ·have hm := ite_f (eq_false_of_ne_true hc219) e218
      have hc219 : x214 = false := eq_false_of_ne_true hc219
      refine lx_skip S rfl rfl (isB_ne hc219) (by decide) (fun a S => ?_)
      refine lx_skip S rfl rfl (isB_ne hc219) (by decide) (fun a S => ?_)
      refine lx_skip S rfl rfl (isB_ne hc219) (by decide) (fun a S => ?_)
      refine lx_skip S rfl rfl (isB_ne hc219) (by decide) (fun a S => ?_)
      refine lx_skip S rfl rfl (isB_ne hc219) (by decide) (fun a S => ?_)
      refine lx_skip S rfl rfl (isB_ne hc219) (by decide) (fun a S => ?_)
      refine lx_skip S rfl rfl (isB_ne hc219) (by decide) (fun a S => ?_)
      refine lx_skip S rfl rfl (isB_ne hc219) (by decide) (fun a S => ?_)
      refine lx_skip S rfl rfl (isB_ne hc219) (by decide) (fun a S => ?_)
      refine lq (.bool false) S (q_pickF' rfl hc219 rfl) fun a S => ?_
      refine lx_nil ?_
      obtain rfl := Option.some.inj hm
      exact ⟨S.sub ⟨rfl, rfl, rfl, rfl, rfl, rfl, rfl, rfl, rfl, trivial⟩, H⟩
    ·rintro a w ⟨S, H⟩
     refine lx_nil (thenN ?_)
     refine cond_b S rfl (fun hc225 => ?_) (fun hc225 => ?_)
     ·have hm := ite_t hc225 hm
      refine region_plain ?_
      refine lq v76 S (q_move rfl) fun a S => ?_
      refine lq (pAdd (bp b201) 0) S (q_fieldAddr' 0 2 rfl (isP_bp _) Tryz.underlying80 rfl Tryz.sizeOf2) fun a S => ?_
      refine lx_e (.int .i64 x188.1) S trivial (by decide) rfl trivial (q_load1 rfl Tryz.isAgg2 (by rintro _ rfl; exact (At.of_add (m := 0) (j := 0) (boxAt (i := 0) H rfl (j := 0) rfl)))) (fun a S => ?_)
      refine lq (pAdd (bp b66) 0) S (q_fieldAddr' 0 2 rfl (isP_bp _) Tryz.underlying61 rfl Tryz.sizeOf2) fun a S => ?_
      refine lx_e (.int .i64 a1.1) S trivial (by decide) rfl trivial (q_load1 rfl Tryz.isAgg2 (by rintro _ rfl; exact (At.of_add (m := 0) (j := 0) (boxAt (i := 2) H rfl (j := 0) rfl)))) (fun a S => ?_)
      refine lq (.bool (a1.1 == (4 : Int))) S (q_eql rfl rfl) fun a S => ?_
      obtain ⟨x226, e227, hm⟩ := bind_some hm
      have hlt := lt_of_idx (idx_some e227).2
      refine lq (ePtr v76 (x188.1.toNat * 1)) S (q_indexAddr rfl (H.isSl 3 rfl) rfl (idx_some e227).1 hlt Tryz.underlying59 Tryz.sizeOf4) fun a S => ?_
      have H : Heap w0 [oA (rList rBool) v76 xs126, bA b201 [(.int .i64 x188.1), (.int .i64 x188.2.1), (.int .i64 x188.2.2)] 80, bA b63 [(.int .i64 a0.1), (.int .i64 a0.2.1), v33, v35] 35, bA b66 [(.int .i64 a1.1), (.int .i64 a1.2.1), (sv a1.2.2.1), (.bool a1.2.2.2)] 61] w := H.front 3 rfl
      refine lx_storeElem (r := rBool) (us := [(.bool (a1.1 == (4 : Int)))]) (off := 0) (e' := (a1.1 == (4 : Int))) S trivial rfl H.putE (ev_zero rfl) rfl (idx_some e227).2 rfl Tryz.sizeOf4 (Nat.le_of_ble_eq_true rfl) (List.forall_mem_cons.2 ⟨rfl, (List.forall_mem_nil _)⟩) (Upd.full rfl (fun w G hG => by cases (show G = [] from hG); exact ⟨rfl, rfl⟩)) (fun w228 H => ⟨trivial, fun a S => ?_⟩)
      refine lx_nil ?_
      refine inBlock_norm ?_
      have H : Heap w0 [bA b66 [(.int .i64 a1.1), (.int .i64 a1.2.1), (sv a1.2.2.1), (.bool a1.2.2.2)] 61, oA (rList rBool) v76 (xs126.set x188.1.toNat (a1.1 == (4 : Int))), bA b201 [(.int .i64 x188.1), (.int .i64 x188.2.1), (.int .i64 x188.2.2)] 80, bA b63 [(.int .i64 a0.1), (.int .i64 a0.2.1), v33, v35] 35] w228 := H.front 3 rfl
      have H : Heap w0 [bA b63 [(.int .i64 a0.1), (.int .i64 a0.2.1), v33, v35] 35, bA b66 [(.int .i64 a1.1), (.int .i64 a1.2.1), (sv a1.2.2.1), (.bool a1.2.2.2)] 61, oA (rList rBool) v76 (xs126.set x188.1.toNat (a1.1 == (4 : Int))), bA b201 [(.int .i64 x188.1), (.int .i64 x188.2.1), (.int .i64 x188.2.2)] 80] w228 := H.front 3 rfl
      have H : Heap w0 [bA b63 [(.int .i64 a0.1), (.int .i64 a0.2.1), v33, v35] 35, bA b66 [(.int .i64 a1.1), (.int .i64 a1.2.1), (sv a1.2.2.1), (.bool a1.2.2.2)] 61, oA (rList rBool) v76 (xs126.set x188.1.toNat (a1.1 == (4 : Int)))] w228 := H.sel [0, 1, 2] (by decide)
      exact ⟨(xs126.set x188.1.toNat (a1.1 == (4 : Int))), S.sub ⟨rfl, rfl, rfl, rfl, rfl, rfl, rfl, trivial⟩, H, hm⟩
     ·have hm := ite_f hc225 hm
      refine wp_skip ?_
      refine inBlock_norm ?_
      have H : Heap w0 [bA b63 [(.int .i64 a0.1), (.int .i64 a0.2.1), v33, v35] 35, bA b66 [(.int .i64 a1.1), (.int .i64 a1.2.1), (sv a1.2.2.1), (.bool a1.2.2.2)] 61, oA (rList rBool) v76 xs126] w := H.sel [1, 2, 3] (by decide)
      exact ⟨xs126, S.sub ⟨rfl, rfl, rfl, rfl, rfl, rfl, rfl, trivial⟩, H, hm⟩
  ·have hm := ite_f hc184 hm
   refine wp_exit ?_
   refine then_exit ?_
   refine then_exit ?_
   refine inBlock_exit ?_
   obtain rfl := it_brk hm hc183
   have H : Heap w0 [oA (rList rBool) v76 xs126] w := H.sel [2] (by decide)
   exact ⟨xs126, S.sub ⟨rfl, trivial⟩, H, rfl⟩
end Go.Proofs.YtnkpniekdipgaaaGreatDoor
